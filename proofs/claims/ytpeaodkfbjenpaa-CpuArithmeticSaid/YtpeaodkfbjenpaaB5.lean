/- Own rules and walks, part 5. -/
import Derived.Test.YtpeaodkfbjenpaaB4
set_option linter.unusedSimpArgs false
set_option linter.unusedVariables false
set_option linter.unusedSectionVars false
namespace Go.Proofs.Ytpeaodkfbjenpaa
open Go Go.HL Go.RowKit
set_option maxRecDepth 100000 in
set_option maxHeartbeats 16000000 in
theorem arithmetic_true (m0 : UInt8) (m1 m2 : UInt32) (w : World) :
    Calls Try.prog 4 #[.int .u8 m0.toNat, .int .u32 m1.toNat, .int .u32 m2.toNat] w (fun e w' => e = .returned (.bool true) ∧ Below w.heap.size w w') := by
  have hm0 := m0.toNat_lt
  have hTl : ariT.length = 10 := rfl
  have hkk : (m0 % 10).toNat < 10 := by rw [UInt8.toNat_mod]; exact Nat.mod_lt _ (by decide)
  have hIs : ∀ x ∈ (ariI (6 + ((m0 % 10).toNat : Int)) m1 m2), InsOK x := by
    intro x hx
    simp only [ariI, List.mem_cons, List.not_mem_nil, or_false] at hx
    rcases hx with hx | hx | hx | hx <;> subst hx <;> refine ⟨?_, ?_, ?_, ?_, ?_, ?_, ?_⟩ <;> (unfold I64; dsimp only; omega)
  obtain ⟨hv1, hv2, hvf⟩ := ari_val hkk m1 m2
  refine enter0 Try.func4 rfl Try.ntmps4 rfl ?_
  refine Tr.seq ?_
  refine Tr.region ?_
  refine Tr.q (QS.assign rfl) rfl ?_
  refine Tr.nil ?_
  refine Tr.thenN ?_
  refine Tr.seq ?_
  refine Tr.region ?_
  refine Tr.q (QS.move rfl) rfl ?_
  refine Tr.q (QS.rem8 (n := 10) rfl rfl (by first | decide | assumption)) rfl ?_
  refine Tr.q (QS.cvt8toI rfl Try.underlying5 Try.underlying3) rfl ?_
  refine Tr.q (QS.addI rfl rfl (by omega)) rfl ?_
  refine Tr.q (QS.assign rfl) rfl ?_
  refine Tr.nil ?_
  refine Tr.thenN ?_
  refine Tr.seq ?_
  refine Tr.region ?_
  refine Tr.litN (E := encInt) ariT (vs := [(0, _), (1, _), (2, _), (3, _), (4, _), (5, _), (6, _), (7, _), (8, _), (9, _)]) rfl rfl Try.underlying58 Try.sizeOf3 Try.zeroValue3 (by rfl) (by rfl) rfl (by first | kernel_rfl | rfl) rfl (fun V1 => ?_)
  refine Tr.q (QS.assign rfl) rfl ?_
  refine Tr.nil ?_
  refine Tr.thenN ?_
  refine Tr.seq ?_
  refine Tr.region ?_
  refine Tr.q (QS.move rfl) rfl ?_
  refine Tr.q (QS.move rfl) rfl ?_
  refine Tr.q (QS.rem8 (n := 10) rfl rfl (by first | decide | assumption)) rfl ?_
  refine Tr.q (QS.cvt8toI rfl Try.underlying5 Try.underlying3) rfl ?_
  refine Tr.q (QS.idxRowN rfl rfl (by repeat (first | exact List.Mem.head _ | apply List.Mem.tail)) Try.underlying58 Try.sizeOf3 (by rfl) (by omega)) rfl ?_
  refine Tr.q (QS.elR1 rfl (by repeat (first | exact List.Mem.head _ | apply List.Mem.tail)) Try.isAgg3 (by omega) (by rfl)) rfl ?_
  refine Tr.q (QS.move rfl) rfl ?_
  refine Tr.q (QS.move rfl) rfl ?_
  refine Tr.q (QS.call rfl Try.call22 (fun w hw => apply_bits (ariT.getD (m0 % 10).toNat default) m1 m2 w)) rfl ?_
  refine Tr.q (QS.move rfl) rfl ?_
  refine Tr.q (QS.extract rfl rfl) rfl ?_
  refine Tr.q (QS.extract rfl rfl) rfl ?_
  refine Tr.q (QS.assign rfl) rfl ?_
  refine Tr.q (QS.assign rfl) rfl ?_
  refine Tr.nil ?_
  refine Tr.thenN ?_
  refine Tr.seq ?_
  refine Tr.region ?_
  refine Tr.q (QS.move rfl) rfl ?_
  refine Tr.q (QS.call rfl Try.call23 (fun w hw => logic_bits (appP (ariT.getD (m0 % 10).toNat default) m1 m2).1 w)) rfl ?_
  refine Tr.alloc Try.zeroValue40 rfl rfl (fun b2 => ?_)
  refine Tr.storeW rfl rfl Try.sizeOf40 (by repeat (first | exact Put.here _ | apply Put.there)) (by rfl) (by rfl) (by first | exact List.all_eq_true.1 rfl | exact Enc.one _ _ | exact Enc.one encFlg _) rfl ?_
  change Tr _ _ (cellE _ (encFlg.enc (logF (appP (ariT.getD (m0 % 10).toNat default) m1 m2).1)) 40 :: _) _ _
  refine Tr.nil ?_
  refine Tr.thenN ?_
  refine Tr.seq ?_
  refine Tr.seq ?_
  refine Tr.region ?_
  refine Tr.q (QS.move rfl) rfl ?_
  refine Tr.q (QS.eql rfl rfl) rfl ?_
  refine Tr.nil ?_
  refine Tr.thenN ?_
  refine Tr.cond rfl (fun h3 => ?_) (fun h3 => ?_)
  · try simp only [bs] at h3
    refine Tr.region ?_
    refine Tr.q (QS.move rfl) rfl ?_
    refine Tr.q (QS.move rfl) rfl ?_
    refine Tr.q (QS.call rfl Try.call24 (fun w hw => add_bits m1 m2 w)) rfl ?_
    refine Tr.q (QS.move rfl) rfl ?_
    refine Tr.q (QS.extract rfl rfl) rfl ?_
    refine Tr.q (QS.extract rfl rfl) rfl ?_
    refine Tr.storeW rfl rfl Try.sizeOf40 (by repeat (first | exact Put.here _ | apply Put.there)) (by rfl) (by rfl) (by first | exact List.all_eq_true.1 rfl | exact Enc.one _ _ | exact Enc.one encFlg _) rfl ?_
    change Tr _ _ (cellE _ (encFlg.enc (addF m1 m2)) 40 :: _) _ _
    refine Tr.nil ?_
    refine Tr.thenN ?_
    refine Tr.seq ?_
    refine Tr.seq ?_
    refine Tr.region ?_
    refine Tr.q (QS.move rfl) rfl ?_
    refine Tr.q (QS.eql rfl rfl) rfl ?_
    refine Tr.q (QS.move rfl) rfl ?_
    apply Tr.orP
    · exact (rfl : _ = (3, 44, 47))
    · exact rfl
    · intro hF4; have hF4' := hF4
      try simp only [bs] at hF4'
      refine Tr.gq rfl rfl hF4 (QS.move rfl) rfl ?_
      refine Tr.gq rfl rfl hF4 (QS.eql rfl rfl) rfl ?_
      refine Tr.q (QS.pickF rfl hF4 rfl) rfl ?_
      refine Tr.nil (Tr.thenN ?_)
      exact Tr.endX (Sub.cons rfl (Sub.dropN 3 (by kernel_rfl) rfl))
    · intro hT4
      refine Tr.gskip rfl rfl hT4 rfl ?_
      refine Tr.gskip rfl rfl hT4 rfl ?_
      refine Tr.q (QS.pickT rfl hT4 rfl) rfl ?_
      refine Tr.nil (Tr.thenN ?_)
      exact Tr.endX (Sub.cons rfl (Sub.dropN 3 (by kernel_rfl) rfl))
    refine Tr.nil ?_
    refine Tr.thenN ?_
    refine Tr.cond rfl (fun h5 => ?_) (fun h5 => ?_)
    · try simp only [bs] at h5
      refine Tr.region ?_
      refine Tr.q (QS.move rfl) rfl ?_
      refine Tr.q (QS.move rfl) rfl ?_
      refine Tr.q (QS.call rfl Try.call25 (fun w hw => sub_bits m1 m2 w)) rfl ?_
      refine Tr.q (QS.move rfl) rfl ?_
      refine Tr.q (QS.extract rfl rfl) rfl ?_
      refine Tr.q (QS.extract rfl rfl) rfl ?_
      refine Tr.storeW rfl rfl Try.sizeOf40 (by repeat (first | exact Put.here _ | apply Put.there)) (by rfl) (by rfl) (by first | exact List.all_eq_true.1 rfl | exact Enc.one _ _ | exact Enc.one encFlg _) rfl ?_
      change Tr _ _ (cellE _ (encFlg.enc (subF m1 m2)) 40 :: _) _ _
      refine Tr.nil ?_
      refine Tr.thenN ?_
      refine Tr.seq ?_
      refine Tr.seq ?_
      refine Tr.region ?_
      refine Tr.q (QS.move rfl) rfl ?_
      refine Tr.q (QS.eql rfl rfl) rfl ?_
      refine Tr.nil ?_
      refine Tr.thenN ?_
      refine Tr.cond rfl (fun h6 => ?_) (fun h6 => ?_)
      · try simp only [bs] at h6
        refine Tr.region ?_
        refine Tr.q (QS.move rfl) rfl ?_
        refine Tr.q (QS.assign rfl) rfl ?_
        refine Tr.nil ?_
        refine Tr.thenN ?_
        refine Tr.seq ?_
        refine Tr.region ?_
        refine Tr.q (QS.move rfl) rfl ?_
        refine Tr.q (QS.build (vs := [(2, _), (6, _), (3, _), (1, _)]) (cs := (encIns.enc (⟨0, m1, 5, 2, 0, 0, 1, 0, 0⟩ : Ins)).toArray) rfl rfl rfl) rfl ?_
        refine Tr.q (QS.move rfl) rfl ?_
        refine Tr.q (QS.build (vs := [(2, _), (6, _), (3, _), (1, _)]) (cs := (encIns.enc (⟨0, m2, 5, 2, 0, 0, 2, 0, 0⟩ : Ins)).toArray) rfl rfl rfl) rfl ?_
        refine Tr.q (QS.move rfl) rfl ?_
        refine Tr.q (QS.build (vs := [(2, _), (6, _), (7, _)]) (cs := (encIns.enc (⟨0, 0, 6 + ((m0 % 10).toNat : Int), 0, 0, 0, 1, 2, 0⟩ : Ins)).toArray) rfl rfl rfl) rfl ?_
        refine Tr.q (QS.build (vs := [(2, _)]) (cs := (encIns.enc (⟨0, 0, 1, 0, 0, 0, 0, 0, 0⟩ : Ins)).toArray) rfl rfl (by kernel_rfl)) rfl ?_
        refine Tr.litN (E := encIns) (ariI (6 + ((m0 % 10).toNat : Int)) m1 m2) (vs := [(0, _), (1, _), (2, _), (3, _)]) rfl rfl Try.underlying68 Try.sizeOf67 Try.zeroValue67 (by rfl) (by rfl) rfl (by first | kernel_rfl | rfl) rfl (fun V7 => ?_)
        refine Tr.callEnts (fun j : Option Addr × Nat × Value => j.2.2) (fun j => [rowE j.2.2 80 encSec [codeS (codeP (ariI (6 + ((m0 % 10).toNat : Int)) m1 m2)) j.1 j.2.1], rowE (.slice j.1 (codeP (ariI (6 + ((m0 % 10).toNat : Int)) m1 m2)).length j.2.1) 5 encU8 (codeP (ariI (6 + ((m0 % 10).toNat : Int)) m1 m2))]) (ok := fun _ => True) rfl Try.call27 (fun w hw => code_any (ariI (6 + ((m0 % 10).toNat : Int)) m1 m2) _ w (hw.row (.head _)) hIs (show (4 : Nat) ≤ 100 by omega)) rfl (fun j _ => ?_)
        obtain ⟨pa1, ca1, VS⟩ := j
        change Tr _ _ ([rowE VS 80 encSec [codeS (codeP (ariI (6 + ((m0 % 10).toNat : Int)) m1 m2)) pa1 ca1], rowE (.slice pa1 (codeP (ariI (6 + ((m0 % 10).toNat : Int)) m1 m2)).length ca1) 5 encU8 (codeP (ariI (6 + ((m0 % 10).toNat : Int)) m1 m2))] ++ _) _ _
        rw [ari_code hkk]
        refine Tr.frozen (V := VS) (.here _) (fun F1 hF1 hS1 => ?_)
        refine Tr.frozen (V := .slice pa1 ((ariB (ariE (m0 % 10).toNat) m1 m2) : List UInt8).length ca1) (.here _) (fun F2 hF2 hD1 => ?_)
        replace hS1 := hS1.mono hF2.blk
        refine Tr.callMix0 (fun j : Nat × Nat × Nat × Value × Value × WL × List RegV => .pointer (some ⟨j.1, 0, none⟩)) (fun j => [cellE j.1 (cpuC (newS 4096) j.2.1 j.2.2.2.2.1 (.slice none 0 0) .nilFunc) 47, mapE j.2.2.1 u8V j.2.2.2.2.2.1, rowE (.slice none 0 0) 22 encU32 []]) (fun j => (cellE j.2.1 [j.2.2.2.1, .map (some j.2.2.1)] 33 :: rowE j.2.2.2.1 86 encReg j.2.2.2.2.2.2 :: rowE j.2.2.2.2.1 22 encU32 [] :: regEnts 5 j.2.2.2.2.2.2)) (ok := fun j => (mread j.2.2.2.2.2.1 = (newS 4096).w ∧ j.2.2.2.2.2.1.length ≤ 4) ∧ MemOK [codeS (ariB (ariE (m0 % 10).toNat) m1 m2) pa1 ca1] j.2.2.2.2.2.2) ((hF1.trans hF2).dr) rfl Try.call26 (fun w hw => boot_ok [codeS (ariB (ariE (m0 % 10).toNat) m1 m2) pa1 ca1] _ 4096 [] _ w (hw.slF hS1) ⟨by simp, by simp [codeS]; exact (show (15 : Nat) ≤ 200000 by omega)⟩ (by simp [codeS]; decide) (fun s hs => by simp only [List.mem_singleton] at hs; subst hs; exact hw.slF hD1) (Sl.nil _ _) (Nat.zero_le _) (ari_chk _ _ _ _ _)) rfl (fun j F3 hj hF3 hk => ?_)
        obtain ⟨bc1, bM1, bm1, VR1, vi1, wl1, rs1⟩ := j
        have hC1 : CpuAt F3.blk bM1 bm1 VR1 vi1 rs1 [] := cpuAt_of hk
        obtain ⟨⟨hw1, hn1⟩, hO1⟩ := hj
        replace hO1 : MemOK [codeS (ariB (ariE (m0 % 10).toNat) m1 m2) pa1 ca1] rs1 := hO1
        change Tr _ _ ([cellE bc1 (cpuC (newS 4096) bM1 vi1 (.slice none 0 0) .nilFunc) 47, mapE bm1 u8V wl1, rowE (.slice none 0 0) 22 encU32 (newS 4096).out] ++ _) _ _
        have hF13 := hF1.trans (hF2.trans hF3)
        have hdr3 : F3.dr = 0 := hF13.dr
        refine Tr.q (QS.assign rfl) rfl ?_
        refine Tr.nil ?_
        refine Tr.thenN ?_
        refine Tr.seq ?_
        refine Tr.seq ?_
        refine Tr.region ?_
        refine Tr.q (QS.move rfl) rfl ?_
        refine Tr.q (QS.eqlPN rfl rfl Try.underlying27 rfl) rfl ?_
        refine Tr.nil ?_
        refine Tr.thenN ?_
        refine Tr.cond rfl (fun h8 => ?_) (fun h8 => ?_)
        · try simp only [bs] at h8
          first | contradiction | (exfalso; omega) | simp_all
        · try simp only [bs] at h8
          refine Tr.skip ?_
          refine Tr.thenN ?_
          refine Tr.seq ?_
          refine Tr.region ?_
          refine Tr.q (QS.move rfl) rfl ?_
          refine Tr.callO (fun j : WL × Value × Value × Value × Value => .agg #[.int .i64 (errR (runS [codeS (ariB (ariE (m0 % 10).toNat) m1 m2) pa1 ca1] [] (min (10 : Int) 65536).toNat (newS 4096))), j.2.2.2.2, .int .i64 ((traceS [codeS (ariB (ariE (m0 % 10).toNat) m1 m2) pa1 ca1] [] (min (10 : Int) 65536).toNat (newS 4096)).length : Nat)]) [cellE bc1 (cpuC (newS 4096) bM1 vi1 (.slice none 0 0) .nilFunc) 47, mapE bm1 u8V wl1, rowE (.slice none 0 0) 22 encU32 (newS 4096).out] (fun j => [cellE bc1 (cpuC (runS [codeS (ariB (ariE (m0 % 10).toNat) m1 m2) pa1 ca1] [] (min (10 : Int) 65536).toNat (newS 4096)) bM1 vi1 j.2.1 j.2.2.1) 47, mapE bm1 u8V j.1, rowE j.2.1 22 encU32 (runS [codeS (ariB (ariE (m0 % 10).toNat) m1 m2) pa1 ca1] [] (min (10 : Int) 65536).toNat (newS 4096)).out, rowE j.2.2.2.2 22 encU32 (runS [codeS (ariB (ariE (m0 % 10).toNat) m1 m2) pa1 ca1] [] (min (10 : Int) 65536).toNat (newS 4096)).out]) (ok := fun j => mread j.1 = (runS [codeS (ariB (ariE (m0 % 10).toNat) m1 m2) pa1 ca1] [] (min (10 : Int) 65536).toNat (newS 4096)).w ∧ j.1.length ≤ wl1.length + 4 * (traceS [codeS (ariB (ariE (m0 % 10).toNat) m1 m2) pa1 ca1] [] (min (10 : Int) 65536).toNat (newS 4096)).length ∧ ∃ a n c, j.2.1 = .slice a n c) (dd := fun _ => 0) rfl Try.call17 (by repeat' (first | exact Split.nil _ | exact Del.here _ | apply Split.cons | apply Del.there)) (fun w hw => Nat.le_of_eq (hdr3)) (fun w hw => run_cpu (newS 4096) bc1 bM1 bm1 VR1 vi1 (.slice none 0 0) .nilFunc rs1 [codeS (ariB (ariE (m0 % 10).toNat) m1 m2) pa1 ca1] wl1 [] (10 : Int) w (hw.own (by repeat' (first | exact Split.nil _ | exact Del.here _ | apply Split.cons | apply Del.there))) (hC1.mono (hw.lessB (Lo := [cellE bc1 (cpuC (newS 4096) bM1 vi1 (.slice none 0 0) .nilFunc) 47, mapE bm1 u8V wl1, rowE (.slice none 0 0) 22 encU32 (newS 4096).out]) (by repeat' (first | exact Split.nil _ | exact Del.here _ | apply Split.cons | apply Del.there)))) hO1 hw1 ⟨_, _, _, rfl⟩ (by show (0 : Nat) ≤ 4096; omega)) rfl (fun j hj => ?_)
          obtain ⟨wl3, vo3, ef3, vt3, vq3⟩ := j
          obtain ⟨hw3, hn3, hv3⟩ := hj
          change Tr _ _ (cellE bc1 (cpuC (runS [codeS (ariB (ariE (m0 % 10).toNat) m1 m2) pa1 ca1] [] (min (10 : Int) 65536).toNat (newS 4096)) bM1 vi1 vo3 ef3) 47 :: mapE bm1 u8V wl3 :: rowE vo3 22 encU32 (runS [codeS (ariB (ariE (m0 % 10).toNat) m1 m2) pa1 ca1] [] (min (10 : Int) 65536).toNat (newS 4096)).out :: rowE vq3 22 encU32 (runS [codeS (ariB (ariE (m0 % 10).toNat) m1 m2) pa1 ca1] [] (min (10 : Int) 65536).toNat (newS 4096)).out :: _) _ _
          obtain ⟨n3, hm3⟩ : ∃ n, n = (traceS [codeS (ariB (ariE (m0 % 10).toNat) m1 m2) pa1 ca1] [] (min (10 : Int) 65536).toNat (newS 4096)).length := ⟨_, rfl⟩
          rw [← hm3] at hn3 ⊢
          obtain ⟨t3, ht3⟩ : ∃ t, t = (runS [codeS (ariB (ariE (m0 % 10).toNat) m1 m2) pa1 ca1] [] (min (10 : Int) 65536).toNat (newS 4096)) := ⟨_, rfl⟩
          rw [← ht3] at hw3 ⊢
          refine Tr.rowShape (V := vq3) (by repeat (first | exact List.Mem.head _ | apply List.Mem.tail)) (fun pq3 cq3 hpv => ?_)
          subst hpv
          obtain ⟨hx1, hx2, hx3, hx4, hx5⟩ := ari_facts hkk ht3 hm3
          rw [hx1]
          refine Tr.alloc Try.zeroValue50 rfl rfl (fun b9 => ?_)
          refine Tr.storeW rfl rfl Try.sizeOf50 (by repeat (first | exact Put.here _ | apply Put.there)) (by rfl) (by rfl) (by first | exact List.all_eq_true.1 rfl | exact Enc.one _ _ | (intro u hu; simp [Value.cells] at hu; simp_all [Value.oneCell'])) rfl ?_
          refine Tr.nil ?_
          refine Tr.thenN ?_
          refine Tr.seq ?_
          refine Tr.region ?_
          refine Tr.q (QS.move rfl) rfl ?_
          refine Tr.q (QS.call rfl Try.call13 (fun w hw => state_cpu t3 bc1 bM1 vi1 vo3 ef3 w (cellE.cellsIn (hw.ent _ (by repeat (first | exact List.Mem.head _ | apply List.Mem.tail))) (Ext.refl _)))) rfl ?_
          refine Tr.alloc Try.zeroValue42 rfl rfl (fun b10 => ?_)
          refine Tr.storeW rfl rfl Try.sizeOf42 (by repeat (first | exact Put.here _ | apply Put.there)) (by rfl) (by rfl) (by first | exact List.all_eq_true.1 rfl | exact Enc.one _ _ | exact Enc.one encMach _) rfl ?_
          refine Tr.nil ?_
          refine Tr.thenN ?_
          refine Tr.seq ?_
          refine Tr.region ?_
          refine Tr.q (QS.move rfl) rfl ?_
          refine Tr.q (QS.eql rfl rfl) rfl ?_
          refine Tr.q (QS.move rfl) rfl ?_
          apply Tr.andP
          · exact (rfl : _ = (4, 75, 79))
          · exact rfl
          · intro hT11; have hT11' := hT11
            try simp only [bs] at hT11'
            refine Tr.gq rfl rfl hT11 (QS.fieldAddr (off := 0) (ft := 24) rfl Try.underlying50 rfl rfl Try.sizeOf24 (by decide)) rfl ?_
            refine Tr.gq rfl rfl hT11 (QS.lV rfl Try.isAgg24) rfl ?_
            refine Tr.gq rfl rfl hT11 (QS.eql rfl rfl) rfl ?_
            refine Tr.q (QS.pickT rfl hT11 rfl) rfl ?_
            refine Tr.nil (Tr.thenN ?_)
            exact Tr.endX (Sub.cons rfl (Sub.dropN 4 (by kernel_rfl) rfl))
          · intro hF11
            refine Tr.gskip rfl rfl hF11 rfl ?_
            refine Tr.gskip rfl rfl hF11 rfl ?_
            refine Tr.gskip rfl rfl hF11 rfl ?_
            refine Tr.q (QS.pickF rfl hF11 rfl) rfl ?_
            refine Tr.nil (Tr.thenN ?_)
            exact Tr.endX (Sub.cons rfl (Sub.dropN 4 (by kernel_rfl) rfl))
          refine Tr.q (QS.move rfl) rfl ?_
          apply Tr.andP
          · exact (rfl : _ = (4, 80, 84))
          · exact rfl
          · intro hT12; have hT12' := hT12
            try simp only [bs] at hT12'
            refine Tr.gq rfl rfl hT12 (QS.fieldAddr (off := 2) (ft := 3) rfl Try.underlying50 rfl rfl Try.sizeOf3 (by decide)) rfl ?_
            refine Tr.gq rfl rfl hT12 (QS.lV rfl Try.isAgg3) rfl ?_
            refine Tr.gq rfl rfl hT12 (QS.eql rfl rfl) rfl ?_
            refine Tr.q (QS.pickT rfl hT12 rfl) rfl ?_
            refine Tr.nil (Tr.thenN ?_)
            exact Tr.endX (Sub.cons rfl (Sub.dropN 4 (by kernel_rfl) rfl))
          · intro hF12
            refine Tr.gskip rfl rfl hF12 rfl ?_
            refine Tr.gskip rfl rfl hF12 rfl ?_
            refine Tr.gskip rfl rfl hF12 rfl ?_
            refine Tr.q (QS.pickF rfl hF12 rfl) rfl ?_
            refine Tr.nil (Tr.thenN ?_)
            exact Tr.endX (Sub.cons rfl (Sub.dropN 4 (by kernel_rfl) rfl))
          refine Tr.q (QS.move rfl) rfl ?_
          apply Tr.andP
          · exact (rfl : _ = (6, 85, 91))
          · exact rfl
          · intro hT13; have hT13' := hT13
            try simp only [bs] at hT13'
            refine Tr.gq rfl rfl hT13 (QS.fieldAddr (off := 0) (ft := 38) rfl Try.underlying42 rfl rfl Try.sizeOf38 (by decide)) rfl ?_
            refine Tr.gq rfl rfl hT13 (QS.idxArr rfl rfl Try.underlying38 Try.sizeOf22 (by omega)) rfl ?_
            refine Tr.gq rfl rfl hT13 (QS.lV rfl Try.isAgg22) rfl ?_
            refine Tr.gq rfl rfl hT13 (QS.move rfl) rfl ?_
            refine Tr.gq rfl rfl hT13 (QS.eql32 rfl rfl) rfl ?_
            refine Tr.q (QS.pickT rfl hT13 rfl) rfl ?_
            refine Tr.nil (Tr.thenN ?_)
            exact Tr.endX (Sub.cons rfl (Sub.dropN 6 (by kernel_rfl) rfl))
          · intro hF13
            refine Tr.gskip rfl rfl hF13 rfl ?_
            refine Tr.gskip rfl rfl hF13 rfl ?_
            refine Tr.gskip rfl rfl hF13 rfl ?_
            refine Tr.gskip rfl rfl hF13 rfl ?_
            refine Tr.gskip rfl rfl hF13 rfl ?_
            refine Tr.q (QS.pickF rfl hF13 rfl) rfl ?_
            refine Tr.nil (Tr.thenN ?_)
            exact Tr.endX (Sub.cons rfl (Sub.dropN 6 (by kernel_rfl) rfl))
          refine Tr.q (QS.move rfl) rfl ?_
          apply Tr.andP
          · exact (rfl : _ = (6, 92, 98))
          · exact rfl
          · intro hT14; have hT14' := hT14
            try simp only [bs] at hT14'
            refine Tr.gq rfl rfl hT14 (QS.fieldAddr (off := 0) (ft := 38) rfl Try.underlying42 rfl rfl Try.sizeOf38 (by decide)) rfl ?_
            refine Tr.gq rfl rfl hT14 (QS.idxArr rfl rfl Try.underlying38 Try.sizeOf22 (by omega)) rfl ?_
            refine Tr.gq rfl rfl hT14 (QS.lV rfl Try.isAgg22) rfl ?_
            refine Tr.gq rfl rfl hT14 (QS.move rfl) rfl ?_
            refine Tr.gq rfl rfl hT14 (QS.eql32 rfl rfl) rfl ?_
            refine Tr.q (QS.pickT rfl hT14 rfl) rfl ?_
            refine Tr.nil (Tr.thenN ?_)
            exact Tr.endX (Sub.cons rfl (Sub.dropN 6 (by kernel_rfl) rfl))
          · intro hF14
            refine Tr.gskip rfl rfl hF14 rfl ?_
            refine Tr.gskip rfl rfl hF14 rfl ?_
            refine Tr.gskip rfl rfl hF14 rfl ?_
            refine Tr.gskip rfl rfl hF14 rfl ?_
            refine Tr.gskip rfl rfl hF14 rfl ?_
            refine Tr.q (QS.pickF rfl hF14 rfl) rfl ?_
            refine Tr.nil (Tr.thenN ?_)
            exact Tr.endX (Sub.cons rfl (Sub.dropN 6 (by kernel_rfl) rfl))
          refine Tr.q (QS.move rfl) rfl ?_
          apply Tr.andP
          · exact (rfl : _ = (5, 99, 104))
          · exact rfl
          · intro hT15; have hT15' := hT15
            try simp only [bs] at hT15'
            refine Tr.gq rfl rfl hT15 (QS.fieldAddr (off := 9) (ft := 40) rfl Try.underlying42 rfl rfl Try.sizeOf40 (by decide)) rfl ?_
            refine Tr.gq rfl rfl hT15 (QS.loadVA (vs := encFlg.enc t3.m.f) rfl (by repeat (first | exact List.Mem.head _ | apply List.Mem.tail)) Try.isAgg40 Try.sizeOf40 rfl rfl) rfl ?_
            refine Tr.gq rfl rfl hT15 (QS.lW rfl Try.isAgg40 Try.sizeOf40) rfl ?_
            refine Tr.gq rfl rfl hT15 (QS.eqlE rfl rfl flgEqEnc Try.underlying40 (HLF.words40 _ Try.underlying40) rfl HLF.held40 HLF.eqg40) rfl ?_
            refine Tr.q (QS.pickT rfl hT15 rfl) rfl ?_
            refine Tr.nil (Tr.thenN ?_)
            exact Tr.endX (Sub.cons rfl (Sub.dropN 5 (by kernel_rfl) rfl))
          · intro hF15
            refine Tr.gskip rfl rfl hF15 rfl ?_
            refine Tr.gskip rfl rfl hF15 rfl ?_
            refine Tr.gskip rfl rfl hF15 rfl ?_
            refine Tr.gskip rfl rfl hF15 rfl ?_
            refine Tr.q (QS.pickF rfl hF15 rfl) rfl ?_
            refine Tr.nil (Tr.thenN ?_)
            exact Tr.endX (Sub.cons rfl (Sub.dropN 5 (by kernel_rfl) rfl))
          refine Tr.q (QS.move rfl) rfl ?_
          apply Tr.andP
          · exact (rfl : _ = (2, 105, 107))
          · exact rfl
          · intro hT16; have hT16' := hT16
            try simp only [bs] at hT16'
            refine Tr.gq rfl rfl hT16 (QS.call0 hdr3 rfl Try.call21 (fun w hw => example10_any w)) rfl ?_
            refine Tr.q (QS.pickT rfl hT16 rfl) rfl ?_
            refine Tr.nil (Tr.thenN ?_)
            exact Tr.endX (Sub.cons rfl (Sub.dropN 2 (by kernel_rfl) rfl))
          · intro hF16
            refine Tr.gskip rfl rfl hF16 rfl ?_
            refine Tr.q (QS.pickF rfl hF16 rfl) rfl ?_
            refine Tr.nil (Tr.thenN ?_)
            exact Tr.endX (Sub.cons rfl (Sub.dropN 2 (by kernel_rfl) rfl))
          refine Tr.q (QS.assign rfl) rfl ?_
          refine Tr.nil ?_
          refine Tr.thenN ?_
          refine Tr.ret ?_
          refine Tr.ret1 Try.results4 rfl (fun w' hw => ?_)
          have hA := hx3.trans hv2
          have hB := hx5.trans hvf
          refine ⟨?_, hw.below0 hF13⟩
          clear hx3 hx5 hv2 hvf hIs ht3 hm3 hn3 hw3 hx1 hn1 hw1 hO1 hC1 hk hv3
          split at hA <;> split at hB <;> (try split at hB) <;> first | (exfalso; omega) | (simp [hA, hB, hx2, hx4] <;> (first | simpa using hv1 | (simp_all)))
      · try simp only [bs] at h6
        refine Tr.skip ?_
        refine Tr.thenN ?_
        refine Tr.seq ?_
        refine Tr.region ?_
        refine Tr.q (QS.move rfl) rfl ?_
        refine Tr.q (QS.build (vs := [(2, _), (6, _), (3, _), (1, _)]) (cs := (encIns.enc (⟨0, m1, 5, 2, 0, 0, 1, 0, 0⟩ : Ins)).toArray) rfl rfl rfl) rfl ?_
        refine Tr.q (QS.move rfl) rfl ?_
        refine Tr.q (QS.build (vs := [(2, _), (6, _), (3, _), (1, _)]) (cs := (encIns.enc (⟨0, m2, 5, 2, 0, 0, 2, 0, 0⟩ : Ins)).toArray) rfl rfl rfl) rfl ?_
        refine Tr.q (QS.move rfl) rfl ?_
        refine Tr.q (QS.build (vs := [(2, _), (6, _), (7, _)]) (cs := (encIns.enc (⟨0, 0, 6 + ((m0 % 10).toNat : Int), 0, 0, 0, 1, 2, 0⟩ : Ins)).toArray) rfl rfl rfl) rfl ?_
        refine Tr.q (QS.build (vs := [(2, _)]) (cs := (encIns.enc (⟨0, 0, 1, 0, 0, 0, 0, 0, 0⟩ : Ins)).toArray) rfl rfl (by kernel_rfl)) rfl ?_
        refine Tr.litN (E := encIns) (ariI (6 + ((m0 % 10).toNat : Int)) m1 m2) (vs := [(0, _), (1, _), (2, _), (3, _)]) rfl rfl Try.underlying68 Try.sizeOf67 Try.zeroValue67 (by rfl) (by rfl) rfl (by first | kernel_rfl | rfl) rfl (fun V17 => ?_)
        refine Tr.callEnts (fun j : Option Addr × Nat × Value => j.2.2) (fun j => [rowE j.2.2 80 encSec [codeS (codeP (ariI (6 + ((m0 % 10).toNat : Int)) m1 m2)) j.1 j.2.1], rowE (.slice j.1 (codeP (ariI (6 + ((m0 % 10).toNat : Int)) m1 m2)).length j.2.1) 5 encU8 (codeP (ariI (6 + ((m0 % 10).toNat : Int)) m1 m2))]) (ok := fun _ => True) rfl Try.call27 (fun w hw => code_any (ariI (6 + ((m0 % 10).toNat : Int)) m1 m2) _ w (hw.row (.head _)) hIs (show (4 : Nat) ≤ 100 by omega)) rfl (fun j _ => ?_)
        obtain ⟨pa1, ca1, VS⟩ := j
        change Tr _ _ ([rowE VS 80 encSec [codeS (codeP (ariI (6 + ((m0 % 10).toNat : Int)) m1 m2)) pa1 ca1], rowE (.slice pa1 (codeP (ariI (6 + ((m0 % 10).toNat : Int)) m1 m2)).length ca1) 5 encU8 (codeP (ariI (6 + ((m0 % 10).toNat : Int)) m1 m2))] ++ _) _ _
        rw [ari_code hkk]
        refine Tr.frozen (V := VS) (.here _) (fun F1 hF1 hS1 => ?_)
        refine Tr.frozen (V := .slice pa1 ((ariB (ariE (m0 % 10).toNat) m1 m2) : List UInt8).length ca1) (.here _) (fun F2 hF2 hD1 => ?_)
        replace hS1 := hS1.mono hF2.blk
        refine Tr.callMix0 (fun j : Nat × Nat × Nat × Value × Value × WL × List RegV => .pointer (some ⟨j.1, 0, none⟩)) (fun j => [cellE j.1 (cpuC (newS 4096) j.2.1 j.2.2.2.2.1 (.slice none 0 0) .nilFunc) 47, mapE j.2.2.1 u8V j.2.2.2.2.2.1, rowE (.slice none 0 0) 22 encU32 []]) (fun j => (cellE j.2.1 [j.2.2.2.1, .map (some j.2.2.1)] 33 :: rowE j.2.2.2.1 86 encReg j.2.2.2.2.2.2 :: rowE j.2.2.2.2.1 22 encU32 [] :: regEnts 5 j.2.2.2.2.2.2)) (ok := fun j => (mread j.2.2.2.2.2.1 = (newS 4096).w ∧ j.2.2.2.2.2.1.length ≤ 4) ∧ MemOK [codeS (ariB (ariE (m0 % 10).toNat) m1 m2) pa1 ca1] j.2.2.2.2.2.2) ((hF1.trans hF2).dr) rfl Try.call26 (fun w hw => boot_ok [codeS (ariB (ariE (m0 % 10).toNat) m1 m2) pa1 ca1] _ 4096 [] _ w (hw.slF hS1) ⟨by simp, by simp [codeS]; exact (show (15 : Nat) ≤ 200000 by omega)⟩ (by simp [codeS]; decide) (fun s hs => by simp only [List.mem_singleton] at hs; subst hs; exact hw.slF hD1) (Sl.nil _ _) (Nat.zero_le _) (ari_chk _ _ _ _ _)) rfl (fun j F3 hj hF3 hk => ?_)
        obtain ⟨bc1, bM1, bm1, VR1, vi1, wl1, rs1⟩ := j
        have hC1 : CpuAt F3.blk bM1 bm1 VR1 vi1 rs1 [] := cpuAt_of hk
        obtain ⟨⟨hw1, hn1⟩, hO1⟩ := hj
        replace hO1 : MemOK [codeS (ariB (ariE (m0 % 10).toNat) m1 m2) pa1 ca1] rs1 := hO1
        change Tr _ _ ([cellE bc1 (cpuC (newS 4096) bM1 vi1 (.slice none 0 0) .nilFunc) 47, mapE bm1 u8V wl1, rowE (.slice none 0 0) 22 encU32 (newS 4096).out] ++ _) _ _
        have hF13 := hF1.trans (hF2.trans hF3)
        have hdr3 : F3.dr = 0 := hF13.dr
        refine Tr.q (QS.assign rfl) rfl ?_
        refine Tr.nil ?_
        refine Tr.thenN ?_
        refine Tr.seq ?_
        refine Tr.seq ?_
        refine Tr.region ?_
        refine Tr.q (QS.move rfl) rfl ?_
        refine Tr.q (QS.eqlPN rfl rfl Try.underlying27 rfl) rfl ?_
        refine Tr.nil ?_
        refine Tr.thenN ?_
        refine Tr.cond rfl (fun h18 => ?_) (fun h18 => ?_)
        · try simp only [bs] at h18
          first | contradiction | (exfalso; omega) | simp_all
        · try simp only [bs] at h18
          refine Tr.skip ?_
          refine Tr.thenN ?_
          refine Tr.seq ?_
          refine Tr.region ?_
          refine Tr.q (QS.move rfl) rfl ?_
          refine Tr.callO (fun j : WL × Value × Value × Value × Value => .agg #[.int .i64 (errR (runS [codeS (ariB (ariE (m0 % 10).toNat) m1 m2) pa1 ca1] [] (min (10 : Int) 65536).toNat (newS 4096))), j.2.2.2.2, .int .i64 ((traceS [codeS (ariB (ariE (m0 % 10).toNat) m1 m2) pa1 ca1] [] (min (10 : Int) 65536).toNat (newS 4096)).length : Nat)]) [cellE bc1 (cpuC (newS 4096) bM1 vi1 (.slice none 0 0) .nilFunc) 47, mapE bm1 u8V wl1, rowE (.slice none 0 0) 22 encU32 (newS 4096).out] (fun j => [cellE bc1 (cpuC (runS [codeS (ariB (ariE (m0 % 10).toNat) m1 m2) pa1 ca1] [] (min (10 : Int) 65536).toNat (newS 4096)) bM1 vi1 j.2.1 j.2.2.1) 47, mapE bm1 u8V j.1, rowE j.2.1 22 encU32 (runS [codeS (ariB (ariE (m0 % 10).toNat) m1 m2) pa1 ca1] [] (min (10 : Int) 65536).toNat (newS 4096)).out, rowE j.2.2.2.2 22 encU32 (runS [codeS (ariB (ariE (m0 % 10).toNat) m1 m2) pa1 ca1] [] (min (10 : Int) 65536).toNat (newS 4096)).out]) (ok := fun j => mread j.1 = (runS [codeS (ariB (ariE (m0 % 10).toNat) m1 m2) pa1 ca1] [] (min (10 : Int) 65536).toNat (newS 4096)).w ∧ j.1.length ≤ wl1.length + 4 * (traceS [codeS (ariB (ariE (m0 % 10).toNat) m1 m2) pa1 ca1] [] (min (10 : Int) 65536).toNat (newS 4096)).length ∧ ∃ a n c, j.2.1 = .slice a n c) (dd := fun _ => 0) rfl Try.call17 (by repeat' (first | exact Split.nil _ | exact Del.here _ | apply Split.cons | apply Del.there)) (fun w hw => Nat.le_of_eq (hdr3)) (fun w hw => run_cpu (newS 4096) bc1 bM1 bm1 VR1 vi1 (.slice none 0 0) .nilFunc rs1 [codeS (ariB (ariE (m0 % 10).toNat) m1 m2) pa1 ca1] wl1 [] (10 : Int) w (hw.own (by repeat' (first | exact Split.nil _ | exact Del.here _ | apply Split.cons | apply Del.there))) (hC1.mono (hw.lessB (Lo := [cellE bc1 (cpuC (newS 4096) bM1 vi1 (.slice none 0 0) .nilFunc) 47, mapE bm1 u8V wl1, rowE (.slice none 0 0) 22 encU32 (newS 4096).out]) (by repeat' (first | exact Split.nil _ | exact Del.here _ | apply Split.cons | apply Del.there)))) hO1 hw1 ⟨_, _, _, rfl⟩ (by show (0 : Nat) ≤ 4096; omega)) rfl (fun j hj => ?_)
          obtain ⟨wl3, vo3, ef3, vt3, vq3⟩ := j
          obtain ⟨hw3, hn3, hv3⟩ := hj
          change Tr _ _ (cellE bc1 (cpuC (runS [codeS (ariB (ariE (m0 % 10).toNat) m1 m2) pa1 ca1] [] (min (10 : Int) 65536).toNat (newS 4096)) bM1 vi1 vo3 ef3) 47 :: mapE bm1 u8V wl3 :: rowE vo3 22 encU32 (runS [codeS (ariB (ariE (m0 % 10).toNat) m1 m2) pa1 ca1] [] (min (10 : Int) 65536).toNat (newS 4096)).out :: rowE vq3 22 encU32 (runS [codeS (ariB (ariE (m0 % 10).toNat) m1 m2) pa1 ca1] [] (min (10 : Int) 65536).toNat (newS 4096)).out :: _) _ _
          obtain ⟨n3, hm3⟩ : ∃ n, n = (traceS [codeS (ariB (ariE (m0 % 10).toNat) m1 m2) pa1 ca1] [] (min (10 : Int) 65536).toNat (newS 4096)).length := ⟨_, rfl⟩
          rw [← hm3] at hn3 ⊢
          obtain ⟨t3, ht3⟩ : ∃ t, t = (runS [codeS (ariB (ariE (m0 % 10).toNat) m1 m2) pa1 ca1] [] (min (10 : Int) 65536).toNat (newS 4096)) := ⟨_, rfl⟩
          rw [← ht3] at hw3 ⊢
          refine Tr.rowShape (V := vq3) (by repeat (first | exact List.Mem.head _ | apply List.Mem.tail)) (fun pq3 cq3 hpv => ?_)
          subst hpv
          obtain ⟨hx1, hx2, hx3, hx4, hx5⟩ := ari_facts hkk ht3 hm3
          rw [hx1]
          refine Tr.alloc Try.zeroValue50 rfl rfl (fun b19 => ?_)
          refine Tr.storeW rfl rfl Try.sizeOf50 (by repeat (first | exact Put.here _ | apply Put.there)) (by rfl) (by rfl) (by first | exact List.all_eq_true.1 rfl | exact Enc.one _ _ | (intro u hu; simp [Value.cells] at hu; simp_all [Value.oneCell'])) rfl ?_
          refine Tr.nil ?_
          refine Tr.thenN ?_
          refine Tr.seq ?_
          refine Tr.region ?_
          refine Tr.q (QS.move rfl) rfl ?_
          refine Tr.q (QS.call rfl Try.call13 (fun w hw => state_cpu t3 bc1 bM1 vi1 vo3 ef3 w (cellE.cellsIn (hw.ent _ (by repeat (first | exact List.Mem.head _ | apply List.Mem.tail))) (Ext.refl _)))) rfl ?_
          refine Tr.alloc Try.zeroValue42 rfl rfl (fun b20 => ?_)
          refine Tr.storeW rfl rfl Try.sizeOf42 (by repeat (first | exact Put.here _ | apply Put.there)) (by rfl) (by rfl) (by first | exact List.all_eq_true.1 rfl | exact Enc.one _ _ | exact Enc.one encMach _) rfl ?_
          refine Tr.nil ?_
          refine Tr.thenN ?_
          refine Tr.seq ?_
          refine Tr.region ?_
          refine Tr.q (QS.move rfl) rfl ?_
          refine Tr.q (QS.eql rfl rfl) rfl ?_
          refine Tr.q (QS.move rfl) rfl ?_
          apply Tr.andP
          · exact (rfl : _ = (4, 75, 79))
          · exact rfl
          · intro hT21; have hT21' := hT21
            try simp only [bs] at hT21'
            refine Tr.gq rfl rfl hT21 (QS.fieldAddr (off := 0) (ft := 24) rfl Try.underlying50 rfl rfl Try.sizeOf24 (by decide)) rfl ?_
            refine Tr.gq rfl rfl hT21 (QS.lV rfl Try.isAgg24) rfl ?_
            refine Tr.gq rfl rfl hT21 (QS.eql rfl rfl) rfl ?_
            refine Tr.q (QS.pickT rfl hT21 rfl) rfl ?_
            refine Tr.nil (Tr.thenN ?_)
            exact Tr.endX (Sub.cons rfl (Sub.dropN 4 (by kernel_rfl) rfl))
          · intro hF21
            refine Tr.gskip rfl rfl hF21 rfl ?_
            refine Tr.gskip rfl rfl hF21 rfl ?_
            refine Tr.gskip rfl rfl hF21 rfl ?_
            refine Tr.q (QS.pickF rfl hF21 rfl) rfl ?_
            refine Tr.nil (Tr.thenN ?_)
            exact Tr.endX (Sub.cons rfl (Sub.dropN 4 (by kernel_rfl) rfl))
          refine Tr.q (QS.move rfl) rfl ?_
          apply Tr.andP
          · exact (rfl : _ = (4, 80, 84))
          · exact rfl
          · intro hT22; have hT22' := hT22
            try simp only [bs] at hT22'
            refine Tr.gq rfl rfl hT22 (QS.fieldAddr (off := 2) (ft := 3) rfl Try.underlying50 rfl rfl Try.sizeOf3 (by decide)) rfl ?_
            refine Tr.gq rfl rfl hT22 (QS.lV rfl Try.isAgg3) rfl ?_
            refine Tr.gq rfl rfl hT22 (QS.eql rfl rfl) rfl ?_
            refine Tr.q (QS.pickT rfl hT22 rfl) rfl ?_
            refine Tr.nil (Tr.thenN ?_)
            exact Tr.endX (Sub.cons rfl (Sub.dropN 4 (by kernel_rfl) rfl))
          · intro hF22
            refine Tr.gskip rfl rfl hF22 rfl ?_
            refine Tr.gskip rfl rfl hF22 rfl ?_
            refine Tr.gskip rfl rfl hF22 rfl ?_
            refine Tr.q (QS.pickF rfl hF22 rfl) rfl ?_
            refine Tr.nil (Tr.thenN ?_)
            exact Tr.endX (Sub.cons rfl (Sub.dropN 4 (by kernel_rfl) rfl))
          refine Tr.q (QS.move rfl) rfl ?_
          apply Tr.andP
          · exact (rfl : _ = (6, 85, 91))
          · exact rfl
          · intro hT23; have hT23' := hT23
            try simp only [bs] at hT23'
            refine Tr.gq rfl rfl hT23 (QS.fieldAddr (off := 0) (ft := 38) rfl Try.underlying42 rfl rfl Try.sizeOf38 (by decide)) rfl ?_
            refine Tr.gq rfl rfl hT23 (QS.idxArr rfl rfl Try.underlying38 Try.sizeOf22 (by omega)) rfl ?_
            refine Tr.gq rfl rfl hT23 (QS.lV rfl Try.isAgg22) rfl ?_
            refine Tr.gq rfl rfl hT23 (QS.move rfl) rfl ?_
            refine Tr.gq rfl rfl hT23 (QS.eql32 rfl rfl) rfl ?_
            refine Tr.q (QS.pickT rfl hT23 rfl) rfl ?_
            refine Tr.nil (Tr.thenN ?_)
            exact Tr.endX (Sub.cons rfl (Sub.dropN 6 (by kernel_rfl) rfl))
          · intro hF23
            refine Tr.gskip rfl rfl hF23 rfl ?_
            refine Tr.gskip rfl rfl hF23 rfl ?_
            refine Tr.gskip rfl rfl hF23 rfl ?_
            refine Tr.gskip rfl rfl hF23 rfl ?_
            refine Tr.gskip rfl rfl hF23 rfl ?_
            refine Tr.q (QS.pickF rfl hF23 rfl) rfl ?_
            refine Tr.nil (Tr.thenN ?_)
            exact Tr.endX (Sub.cons rfl (Sub.dropN 6 (by kernel_rfl) rfl))
          refine Tr.q (QS.move rfl) rfl ?_
          apply Tr.andP
          · exact (rfl : _ = (6, 92, 98))
          · exact rfl
          · intro hT24; have hT24' := hT24
            try simp only [bs] at hT24'
            refine Tr.gq rfl rfl hT24 (QS.fieldAddr (off := 0) (ft := 38) rfl Try.underlying42 rfl rfl Try.sizeOf38 (by decide)) rfl ?_
            refine Tr.gq rfl rfl hT24 (QS.idxArr rfl rfl Try.underlying38 Try.sizeOf22 (by omega)) rfl ?_
            refine Tr.gq rfl rfl hT24 (QS.lV rfl Try.isAgg22) rfl ?_
            refine Tr.gq rfl rfl hT24 (QS.move rfl) rfl ?_
            refine Tr.gq rfl rfl hT24 (QS.eql32 rfl rfl) rfl ?_
            refine Tr.q (QS.pickT rfl hT24 rfl) rfl ?_
            refine Tr.nil (Tr.thenN ?_)
            exact Tr.endX (Sub.cons rfl (Sub.dropN 6 (by kernel_rfl) rfl))
          · intro hF24
            refine Tr.gskip rfl rfl hF24 rfl ?_
            refine Tr.gskip rfl rfl hF24 rfl ?_
            refine Tr.gskip rfl rfl hF24 rfl ?_
            refine Tr.gskip rfl rfl hF24 rfl ?_
            refine Tr.gskip rfl rfl hF24 rfl ?_
            refine Tr.q (QS.pickF rfl hF24 rfl) rfl ?_
            refine Tr.nil (Tr.thenN ?_)
            exact Tr.endX (Sub.cons rfl (Sub.dropN 6 (by kernel_rfl) rfl))
          refine Tr.q (QS.move rfl) rfl ?_
          apply Tr.andP
          · exact (rfl : _ = (5, 99, 104))
          · exact rfl
          · intro hT25; have hT25' := hT25
            try simp only [bs] at hT25'
            refine Tr.gq rfl rfl hT25 (QS.fieldAddr (off := 9) (ft := 40) rfl Try.underlying42 rfl rfl Try.sizeOf40 (by decide)) rfl ?_
            refine Tr.gq rfl rfl hT25 (QS.loadVA (vs := encFlg.enc t3.m.f) rfl (by repeat (first | exact List.Mem.head _ | apply List.Mem.tail)) Try.isAgg40 Try.sizeOf40 rfl rfl) rfl ?_
            refine Tr.gq rfl rfl hT25 (QS.lW rfl Try.isAgg40 Try.sizeOf40) rfl ?_
            refine Tr.gq rfl rfl hT25 (QS.eqlE rfl rfl flgEqEnc Try.underlying40 (HLF.words40 _ Try.underlying40) rfl HLF.held40 HLF.eqg40) rfl ?_
            refine Tr.q (QS.pickT rfl hT25 rfl) rfl ?_
            refine Tr.nil (Tr.thenN ?_)
            exact Tr.endX (Sub.cons rfl (Sub.dropN 5 (by kernel_rfl) rfl))
          · intro hF25
            refine Tr.gskip rfl rfl hF25 rfl ?_
            refine Tr.gskip rfl rfl hF25 rfl ?_
            refine Tr.gskip rfl rfl hF25 rfl ?_
            refine Tr.gskip rfl rfl hF25 rfl ?_
            refine Tr.q (QS.pickF rfl hF25 rfl) rfl ?_
            refine Tr.nil (Tr.thenN ?_)
            exact Tr.endX (Sub.cons rfl (Sub.dropN 5 (by kernel_rfl) rfl))
          refine Tr.q (QS.move rfl) rfl ?_
          apply Tr.andP
          · exact (rfl : _ = (2, 105, 107))
          · exact rfl
          · intro hT26; have hT26' := hT26
            try simp only [bs] at hT26'
            refine Tr.gq rfl rfl hT26 (QS.call0 hdr3 rfl Try.call21 (fun w hw => example10_any w)) rfl ?_
            refine Tr.q (QS.pickT rfl hT26 rfl) rfl ?_
            refine Tr.nil (Tr.thenN ?_)
            exact Tr.endX (Sub.cons rfl (Sub.dropN 2 (by kernel_rfl) rfl))
          · intro hF26
            refine Tr.gskip rfl rfl hF26 rfl ?_
            refine Tr.q (QS.pickF rfl hF26 rfl) rfl ?_
            refine Tr.nil (Tr.thenN ?_)
            exact Tr.endX (Sub.cons rfl (Sub.dropN 2 (by kernel_rfl) rfl))
          refine Tr.q (QS.assign rfl) rfl ?_
          refine Tr.nil ?_
          refine Tr.thenN ?_
          refine Tr.ret ?_
          refine Tr.ret1 Try.results4 rfl (fun w' hw => ?_)
          have hA := hx3.trans hv2
          have hB := hx5.trans hvf
          refine ⟨?_, hw.below0 hF13⟩
          clear hx3 hx5 hv2 hvf hIs ht3 hm3 hn3 hw3 hx1 hn1 hw1 hO1 hC1 hk hv3
          split at hA <;> split at hB <;> (try split at hB) <;> first | (exfalso; omega) | (simp [hA, hB, hx2, hx4] <;> (first | simpa using hv1 | (simp_all)))
    · try simp only [bs] at h5
      refine Tr.skip ?_
      refine Tr.thenN ?_
      refine Tr.seq ?_
      refine Tr.seq ?_
      refine Tr.region ?_
      refine Tr.q (QS.move rfl) rfl ?_
      refine Tr.q (QS.eql rfl rfl) rfl ?_
      refine Tr.nil ?_
      refine Tr.thenN ?_
      refine Tr.cond rfl (fun h27 => ?_) (fun h27 => ?_)
      · try simp only [bs] at h27
        refine Tr.region ?_
        refine Tr.q (QS.move rfl) rfl ?_
        refine Tr.q (QS.assign rfl) rfl ?_
        refine Tr.nil ?_
        refine Tr.thenN ?_
        refine Tr.seq ?_
        refine Tr.region ?_
        refine Tr.q (QS.move rfl) rfl ?_
        refine Tr.q (QS.build (vs := [(2, _), (6, _), (3, _), (1, _)]) (cs := (encIns.enc (⟨0, m1, 5, 2, 0, 0, 1, 0, 0⟩ : Ins)).toArray) rfl rfl rfl) rfl ?_
        refine Tr.q (QS.move rfl) rfl ?_
        refine Tr.q (QS.build (vs := [(2, _), (6, _), (3, _), (1, _)]) (cs := (encIns.enc (⟨0, m2, 5, 2, 0, 0, 2, 0, 0⟩ : Ins)).toArray) rfl rfl rfl) rfl ?_
        refine Tr.q (QS.move rfl) rfl ?_
        refine Tr.q (QS.build (vs := [(2, _), (6, _), (7, _)]) (cs := (encIns.enc (⟨0, 0, 6 + ((m0 % 10).toNat : Int), 0, 0, 0, 1, 2, 0⟩ : Ins)).toArray) rfl rfl rfl) rfl ?_
        refine Tr.q (QS.build (vs := [(2, _)]) (cs := (encIns.enc (⟨0, 0, 1, 0, 0, 0, 0, 0, 0⟩ : Ins)).toArray) rfl rfl (by kernel_rfl)) rfl ?_
        refine Tr.litN (E := encIns) (ariI (6 + ((m0 % 10).toNat : Int)) m1 m2) (vs := [(0, _), (1, _), (2, _), (3, _)]) rfl rfl Try.underlying68 Try.sizeOf67 Try.zeroValue67 (by rfl) (by rfl) rfl (by first | kernel_rfl | rfl) rfl (fun V28 => ?_)
        refine Tr.callEnts (fun j : Option Addr × Nat × Value => j.2.2) (fun j => [rowE j.2.2 80 encSec [codeS (codeP (ariI (6 + ((m0 % 10).toNat : Int)) m1 m2)) j.1 j.2.1], rowE (.slice j.1 (codeP (ariI (6 + ((m0 % 10).toNat : Int)) m1 m2)).length j.2.1) 5 encU8 (codeP (ariI (6 + ((m0 % 10).toNat : Int)) m1 m2))]) (ok := fun _ => True) rfl Try.call27 (fun w hw => code_any (ariI (6 + ((m0 % 10).toNat : Int)) m1 m2) _ w (hw.row (.head _)) hIs (show (4 : Nat) ≤ 100 by omega)) rfl (fun j _ => ?_)
        obtain ⟨pa1, ca1, VS⟩ := j
        change Tr _ _ ([rowE VS 80 encSec [codeS (codeP (ariI (6 + ((m0 % 10).toNat : Int)) m1 m2)) pa1 ca1], rowE (.slice pa1 (codeP (ariI (6 + ((m0 % 10).toNat : Int)) m1 m2)).length ca1) 5 encU8 (codeP (ariI (6 + ((m0 % 10).toNat : Int)) m1 m2))] ++ _) _ _
        rw [ari_code hkk]
        refine Tr.frozen (V := VS) (.here _) (fun F1 hF1 hS1 => ?_)
        refine Tr.frozen (V := .slice pa1 ((ariB (ariE (m0 % 10).toNat) m1 m2) : List UInt8).length ca1) (.here _) (fun F2 hF2 hD1 => ?_)
        replace hS1 := hS1.mono hF2.blk
        refine Tr.callMix0 (fun j : Nat × Nat × Nat × Value × Value × WL × List RegV => .pointer (some ⟨j.1, 0, none⟩)) (fun j => [cellE j.1 (cpuC (newS 4096) j.2.1 j.2.2.2.2.1 (.slice none 0 0) .nilFunc) 47, mapE j.2.2.1 u8V j.2.2.2.2.2.1, rowE (.slice none 0 0) 22 encU32 []]) (fun j => (cellE j.2.1 [j.2.2.2.1, .map (some j.2.2.1)] 33 :: rowE j.2.2.2.1 86 encReg j.2.2.2.2.2.2 :: rowE j.2.2.2.2.1 22 encU32 [] :: regEnts 5 j.2.2.2.2.2.2)) (ok := fun j => (mread j.2.2.2.2.2.1 = (newS 4096).w ∧ j.2.2.2.2.2.1.length ≤ 4) ∧ MemOK [codeS (ariB (ariE (m0 % 10).toNat) m1 m2) pa1 ca1] j.2.2.2.2.2.2) ((hF1.trans hF2).dr) rfl Try.call26 (fun w hw => boot_ok [codeS (ariB (ariE (m0 % 10).toNat) m1 m2) pa1 ca1] _ 4096 [] _ w (hw.slF hS1) ⟨by simp, by simp [codeS]; exact (show (15 : Nat) ≤ 200000 by omega)⟩ (by simp [codeS]; decide) (fun s hs => by simp only [List.mem_singleton] at hs; subst hs; exact hw.slF hD1) (Sl.nil _ _) (Nat.zero_le _) (ari_chk _ _ _ _ _)) rfl (fun j F3 hj hF3 hk => ?_)
        obtain ⟨bc1, bM1, bm1, VR1, vi1, wl1, rs1⟩ := j
        have hC1 : CpuAt F3.blk bM1 bm1 VR1 vi1 rs1 [] := cpuAt_of hk
        obtain ⟨⟨hw1, hn1⟩, hO1⟩ := hj
        replace hO1 : MemOK [codeS (ariB (ariE (m0 % 10).toNat) m1 m2) pa1 ca1] rs1 := hO1
        change Tr _ _ ([cellE bc1 (cpuC (newS 4096) bM1 vi1 (.slice none 0 0) .nilFunc) 47, mapE bm1 u8V wl1, rowE (.slice none 0 0) 22 encU32 (newS 4096).out] ++ _) _ _
        have hF13 := hF1.trans (hF2.trans hF3)
        have hdr3 : F3.dr = 0 := hF13.dr
        refine Tr.q (QS.assign rfl) rfl ?_
        refine Tr.nil ?_
        refine Tr.thenN ?_
        refine Tr.seq ?_
        refine Tr.seq ?_
        refine Tr.region ?_
        refine Tr.q (QS.move rfl) rfl ?_
        refine Tr.q (QS.eqlPN rfl rfl Try.underlying27 rfl) rfl ?_
        refine Tr.nil ?_
        refine Tr.thenN ?_
        refine Tr.cond rfl (fun h29 => ?_) (fun h29 => ?_)
        · try simp only [bs] at h29
          first | contradiction | (exfalso; omega) | simp_all
        · try simp only [bs] at h29
          refine Tr.skip ?_
          refine Tr.thenN ?_
          refine Tr.seq ?_
          refine Tr.region ?_
          refine Tr.q (QS.move rfl) rfl ?_
          refine Tr.callO (fun j : WL × Value × Value × Value × Value => .agg #[.int .i64 (errR (runS [codeS (ariB (ariE (m0 % 10).toNat) m1 m2) pa1 ca1] [] (min (10 : Int) 65536).toNat (newS 4096))), j.2.2.2.2, .int .i64 ((traceS [codeS (ariB (ariE (m0 % 10).toNat) m1 m2) pa1 ca1] [] (min (10 : Int) 65536).toNat (newS 4096)).length : Nat)]) [cellE bc1 (cpuC (newS 4096) bM1 vi1 (.slice none 0 0) .nilFunc) 47, mapE bm1 u8V wl1, rowE (.slice none 0 0) 22 encU32 (newS 4096).out] (fun j => [cellE bc1 (cpuC (runS [codeS (ariB (ariE (m0 % 10).toNat) m1 m2) pa1 ca1] [] (min (10 : Int) 65536).toNat (newS 4096)) bM1 vi1 j.2.1 j.2.2.1) 47, mapE bm1 u8V j.1, rowE j.2.1 22 encU32 (runS [codeS (ariB (ariE (m0 % 10).toNat) m1 m2) pa1 ca1] [] (min (10 : Int) 65536).toNat (newS 4096)).out, rowE j.2.2.2.2 22 encU32 (runS [codeS (ariB (ariE (m0 % 10).toNat) m1 m2) pa1 ca1] [] (min (10 : Int) 65536).toNat (newS 4096)).out]) (ok := fun j => mread j.1 = (runS [codeS (ariB (ariE (m0 % 10).toNat) m1 m2) pa1 ca1] [] (min (10 : Int) 65536).toNat (newS 4096)).w ∧ j.1.length ≤ wl1.length + 4 * (traceS [codeS (ariB (ariE (m0 % 10).toNat) m1 m2) pa1 ca1] [] (min (10 : Int) 65536).toNat (newS 4096)).length ∧ ∃ a n c, j.2.1 = .slice a n c) (dd := fun _ => 0) rfl Try.call17 (by repeat' (first | exact Split.nil _ | exact Del.here _ | apply Split.cons | apply Del.there)) (fun w hw => Nat.le_of_eq (hdr3)) (fun w hw => run_cpu (newS 4096) bc1 bM1 bm1 VR1 vi1 (.slice none 0 0) .nilFunc rs1 [codeS (ariB (ariE (m0 % 10).toNat) m1 m2) pa1 ca1] wl1 [] (10 : Int) w (hw.own (by repeat' (first | exact Split.nil _ | exact Del.here _ | apply Split.cons | apply Del.there))) (hC1.mono (hw.lessB (Lo := [cellE bc1 (cpuC (newS 4096) bM1 vi1 (.slice none 0 0) .nilFunc) 47, mapE bm1 u8V wl1, rowE (.slice none 0 0) 22 encU32 (newS 4096).out]) (by repeat' (first | exact Split.nil _ | exact Del.here _ | apply Split.cons | apply Del.there)))) hO1 hw1 ⟨_, _, _, rfl⟩ (by show (0 : Nat) ≤ 4096; omega)) rfl (fun j hj => ?_)
          obtain ⟨wl3, vo3, ef3, vt3, vq3⟩ := j
          obtain ⟨hw3, hn3, hv3⟩ := hj
          change Tr _ _ (cellE bc1 (cpuC (runS [codeS (ariB (ariE (m0 % 10).toNat) m1 m2) pa1 ca1] [] (min (10 : Int) 65536).toNat (newS 4096)) bM1 vi1 vo3 ef3) 47 :: mapE bm1 u8V wl3 :: rowE vo3 22 encU32 (runS [codeS (ariB (ariE (m0 % 10).toNat) m1 m2) pa1 ca1] [] (min (10 : Int) 65536).toNat (newS 4096)).out :: rowE vq3 22 encU32 (runS [codeS (ariB (ariE (m0 % 10).toNat) m1 m2) pa1 ca1] [] (min (10 : Int) 65536).toNat (newS 4096)).out :: _) _ _
          obtain ⟨n3, hm3⟩ : ∃ n, n = (traceS [codeS (ariB (ariE (m0 % 10).toNat) m1 m2) pa1 ca1] [] (min (10 : Int) 65536).toNat (newS 4096)).length := ⟨_, rfl⟩
          rw [← hm3] at hn3 ⊢
          obtain ⟨t3, ht3⟩ : ∃ t, t = (runS [codeS (ariB (ariE (m0 % 10).toNat) m1 m2) pa1 ca1] [] (min (10 : Int) 65536).toNat (newS 4096)) := ⟨_, rfl⟩
          rw [← ht3] at hw3 ⊢
          refine Tr.rowShape (V := vq3) (by repeat (first | exact List.Mem.head _ | apply List.Mem.tail)) (fun pq3 cq3 hpv => ?_)
          subst hpv
          obtain ⟨hx1, hx2, hx3, hx4, hx5⟩ := ari_facts hkk ht3 hm3
          rw [hx1]
          refine Tr.alloc Try.zeroValue50 rfl rfl (fun b30 => ?_)
          refine Tr.storeW rfl rfl Try.sizeOf50 (by repeat (first | exact Put.here _ | apply Put.there)) (by rfl) (by rfl) (by first | exact List.all_eq_true.1 rfl | exact Enc.one _ _ | (intro u hu; simp [Value.cells] at hu; simp_all [Value.oneCell'])) rfl ?_
          refine Tr.nil ?_
          refine Tr.thenN ?_
          refine Tr.seq ?_
          refine Tr.region ?_
          refine Tr.q (QS.move rfl) rfl ?_
          refine Tr.q (QS.call rfl Try.call13 (fun w hw => state_cpu t3 bc1 bM1 vi1 vo3 ef3 w (cellE.cellsIn (hw.ent _ (by repeat (first | exact List.Mem.head _ | apply List.Mem.tail))) (Ext.refl _)))) rfl ?_
          refine Tr.alloc Try.zeroValue42 rfl rfl (fun b31 => ?_)
          refine Tr.storeW rfl rfl Try.sizeOf42 (by repeat (first | exact Put.here _ | apply Put.there)) (by rfl) (by rfl) (by first | exact List.all_eq_true.1 rfl | exact Enc.one _ _ | exact Enc.one encMach _) rfl ?_
          refine Tr.nil ?_
          refine Tr.thenN ?_
          refine Tr.seq ?_
          refine Tr.region ?_
          refine Tr.q (QS.move rfl) rfl ?_
          refine Tr.q (QS.eql rfl rfl) rfl ?_
          refine Tr.q (QS.move rfl) rfl ?_
          apply Tr.andP
          · exact (rfl : _ = (4, 75, 79))
          · exact rfl
          · intro hT32; have hT32' := hT32
            try simp only [bs] at hT32'
            refine Tr.gq rfl rfl hT32 (QS.fieldAddr (off := 0) (ft := 24) rfl Try.underlying50 rfl rfl Try.sizeOf24 (by decide)) rfl ?_
            refine Tr.gq rfl rfl hT32 (QS.lV rfl Try.isAgg24) rfl ?_
            refine Tr.gq rfl rfl hT32 (QS.eql rfl rfl) rfl ?_
            refine Tr.q (QS.pickT rfl hT32 rfl) rfl ?_
            refine Tr.nil (Tr.thenN ?_)
            exact Tr.endX (Sub.cons rfl (Sub.dropN 4 (by kernel_rfl) rfl))
          · intro hF32
            refine Tr.gskip rfl rfl hF32 rfl ?_
            refine Tr.gskip rfl rfl hF32 rfl ?_
            refine Tr.gskip rfl rfl hF32 rfl ?_
            refine Tr.q (QS.pickF rfl hF32 rfl) rfl ?_
            refine Tr.nil (Tr.thenN ?_)
            exact Tr.endX (Sub.cons rfl (Sub.dropN 4 (by kernel_rfl) rfl))
          refine Tr.q (QS.move rfl) rfl ?_
          apply Tr.andP
          · exact (rfl : _ = (4, 80, 84))
          · exact rfl
          · intro hT33; have hT33' := hT33
            try simp only [bs] at hT33'
            refine Tr.gq rfl rfl hT33 (QS.fieldAddr (off := 2) (ft := 3) rfl Try.underlying50 rfl rfl Try.sizeOf3 (by decide)) rfl ?_
            refine Tr.gq rfl rfl hT33 (QS.lV rfl Try.isAgg3) rfl ?_
            refine Tr.gq rfl rfl hT33 (QS.eql rfl rfl) rfl ?_
            refine Tr.q (QS.pickT rfl hT33 rfl) rfl ?_
            refine Tr.nil (Tr.thenN ?_)
            exact Tr.endX (Sub.cons rfl (Sub.dropN 4 (by kernel_rfl) rfl))
          · intro hF33
            refine Tr.gskip rfl rfl hF33 rfl ?_
            refine Tr.gskip rfl rfl hF33 rfl ?_
            refine Tr.gskip rfl rfl hF33 rfl ?_
            refine Tr.q (QS.pickF rfl hF33 rfl) rfl ?_
            refine Tr.nil (Tr.thenN ?_)
            exact Tr.endX (Sub.cons rfl (Sub.dropN 4 (by kernel_rfl) rfl))
          refine Tr.q (QS.move rfl) rfl ?_
          apply Tr.andP
          · exact (rfl : _ = (6, 85, 91))
          · exact rfl
          · intro hT34; have hT34' := hT34
            try simp only [bs] at hT34'
            refine Tr.gq rfl rfl hT34 (QS.fieldAddr (off := 0) (ft := 38) rfl Try.underlying42 rfl rfl Try.sizeOf38 (by decide)) rfl ?_
            refine Tr.gq rfl rfl hT34 (QS.idxArr rfl rfl Try.underlying38 Try.sizeOf22 (by omega)) rfl ?_
            refine Tr.gq rfl rfl hT34 (QS.lV rfl Try.isAgg22) rfl ?_
            refine Tr.gq rfl rfl hT34 (QS.move rfl) rfl ?_
            refine Tr.gq rfl rfl hT34 (QS.eql32 rfl rfl) rfl ?_
            refine Tr.q (QS.pickT rfl hT34 rfl) rfl ?_
            refine Tr.nil (Tr.thenN ?_)
            exact Tr.endX (Sub.cons rfl (Sub.dropN 6 (by kernel_rfl) rfl))
          · intro hF34
            refine Tr.gskip rfl rfl hF34 rfl ?_
            refine Tr.gskip rfl rfl hF34 rfl ?_
            refine Tr.gskip rfl rfl hF34 rfl ?_
            refine Tr.gskip rfl rfl hF34 rfl ?_
            refine Tr.gskip rfl rfl hF34 rfl ?_
            refine Tr.q (QS.pickF rfl hF34 rfl) rfl ?_
            refine Tr.nil (Tr.thenN ?_)
            exact Tr.endX (Sub.cons rfl (Sub.dropN 6 (by kernel_rfl) rfl))
          refine Tr.q (QS.move rfl) rfl ?_
          apply Tr.andP
          · exact (rfl : _ = (6, 92, 98))
          · exact rfl
          · intro hT35; have hT35' := hT35
            try simp only [bs] at hT35'
            refine Tr.gq rfl rfl hT35 (QS.fieldAddr (off := 0) (ft := 38) rfl Try.underlying42 rfl rfl Try.sizeOf38 (by decide)) rfl ?_
            refine Tr.gq rfl rfl hT35 (QS.idxArr rfl rfl Try.underlying38 Try.sizeOf22 (by omega)) rfl ?_
            refine Tr.gq rfl rfl hT35 (QS.lV rfl Try.isAgg22) rfl ?_
            refine Tr.gq rfl rfl hT35 (QS.move rfl) rfl ?_
            refine Tr.gq rfl rfl hT35 (QS.eql32 rfl rfl) rfl ?_
            refine Tr.q (QS.pickT rfl hT35 rfl) rfl ?_
            refine Tr.nil (Tr.thenN ?_)
            exact Tr.endX (Sub.cons rfl (Sub.dropN 6 (by kernel_rfl) rfl))
          · intro hF35
            refine Tr.gskip rfl rfl hF35 rfl ?_
            refine Tr.gskip rfl rfl hF35 rfl ?_
            refine Tr.gskip rfl rfl hF35 rfl ?_
            refine Tr.gskip rfl rfl hF35 rfl ?_
            refine Tr.gskip rfl rfl hF35 rfl ?_
            refine Tr.q (QS.pickF rfl hF35 rfl) rfl ?_
            refine Tr.nil (Tr.thenN ?_)
            exact Tr.endX (Sub.cons rfl (Sub.dropN 6 (by kernel_rfl) rfl))
          refine Tr.q (QS.move rfl) rfl ?_
          apply Tr.andP
          · exact (rfl : _ = (5, 99, 104))
          · exact rfl
          · intro hT36; have hT36' := hT36
            try simp only [bs] at hT36'
            refine Tr.gq rfl rfl hT36 (QS.fieldAddr (off := 9) (ft := 40) rfl Try.underlying42 rfl rfl Try.sizeOf40 (by decide)) rfl ?_
            refine Tr.gq rfl rfl hT36 (QS.loadVA (vs := encFlg.enc t3.m.f) rfl (by repeat (first | exact List.Mem.head _ | apply List.Mem.tail)) Try.isAgg40 Try.sizeOf40 rfl rfl) rfl ?_
            refine Tr.gq rfl rfl hT36 (QS.lW rfl Try.isAgg40 Try.sizeOf40) rfl ?_
            refine Tr.gq rfl rfl hT36 (QS.eqlE rfl rfl flgEqEnc Try.underlying40 (HLF.words40 _ Try.underlying40) rfl HLF.held40 HLF.eqg40) rfl ?_
            refine Tr.q (QS.pickT rfl hT36 rfl) rfl ?_
            refine Tr.nil (Tr.thenN ?_)
            exact Tr.endX (Sub.cons rfl (Sub.dropN 5 (by kernel_rfl) rfl))
          · intro hF36
            refine Tr.gskip rfl rfl hF36 rfl ?_
            refine Tr.gskip rfl rfl hF36 rfl ?_
            refine Tr.gskip rfl rfl hF36 rfl ?_
            refine Tr.gskip rfl rfl hF36 rfl ?_
            refine Tr.q (QS.pickF rfl hF36 rfl) rfl ?_
            refine Tr.nil (Tr.thenN ?_)
            exact Tr.endX (Sub.cons rfl (Sub.dropN 5 (by kernel_rfl) rfl))
          refine Tr.q (QS.move rfl) rfl ?_
          apply Tr.andP
          · exact (rfl : _ = (2, 105, 107))
          · exact rfl
          · intro hT37; have hT37' := hT37
            try simp only [bs] at hT37'
            refine Tr.gq rfl rfl hT37 (QS.call0 hdr3 rfl Try.call21 (fun w hw => example10_any w)) rfl ?_
            refine Tr.q (QS.pickT rfl hT37 rfl) rfl ?_
            refine Tr.nil (Tr.thenN ?_)
            exact Tr.endX (Sub.cons rfl (Sub.dropN 2 (by kernel_rfl) rfl))
          · intro hF37
            refine Tr.gskip rfl rfl hF37 rfl ?_
            refine Tr.q (QS.pickF rfl hF37 rfl) rfl ?_
            refine Tr.nil (Tr.thenN ?_)
            exact Tr.endX (Sub.cons rfl (Sub.dropN 2 (by kernel_rfl) rfl))
          refine Tr.q (QS.assign rfl) rfl ?_
          refine Tr.nil ?_
          refine Tr.thenN ?_
          refine Tr.ret ?_
          refine Tr.ret1 Try.results4 rfl (fun w' hw => ?_)
          have hA := hx3.trans hv2
          have hB := hx5.trans hvf
          refine ⟨?_, hw.below0 hF13⟩
          clear hx3 hx5 hv2 hvf hIs ht3 hm3 hn3 hw3 hx1 hn1 hw1 hO1 hC1 hk hv3
          split at hA <;> split at hB <;> (try split at hB) <;> first | (exfalso; omega) | (simp [hA, hB, hx2, hx4] <;> (first | simpa using hv1 | (simp_all)))
      · try simp only [bs] at h27
        refine Tr.skip ?_
        refine Tr.thenN ?_
        refine Tr.seq ?_
        refine Tr.region ?_
        refine Tr.q (QS.move rfl) rfl ?_
        refine Tr.q (QS.build (vs := [(2, _), (6, _), (3, _), (1, _)]) (cs := (encIns.enc (⟨0, m1, 5, 2, 0, 0, 1, 0, 0⟩ : Ins)).toArray) rfl rfl rfl) rfl ?_
        refine Tr.q (QS.move rfl) rfl ?_
        refine Tr.q (QS.build (vs := [(2, _), (6, _), (3, _), (1, _)]) (cs := (encIns.enc (⟨0, m2, 5, 2, 0, 0, 2, 0, 0⟩ : Ins)).toArray) rfl rfl rfl) rfl ?_
        refine Tr.q (QS.move rfl) rfl ?_
        refine Tr.q (QS.build (vs := [(2, _), (6, _), (7, _)]) (cs := (encIns.enc (⟨0, 0, 6 + ((m0 % 10).toNat : Int), 0, 0, 0, 1, 2, 0⟩ : Ins)).toArray) rfl rfl rfl) rfl ?_
        refine Tr.q (QS.build (vs := [(2, _)]) (cs := (encIns.enc (⟨0, 0, 1, 0, 0, 0, 0, 0, 0⟩ : Ins)).toArray) rfl rfl (by kernel_rfl)) rfl ?_
        refine Tr.litN (E := encIns) (ariI (6 + ((m0 % 10).toNat : Int)) m1 m2) (vs := [(0, _), (1, _), (2, _), (3, _)]) rfl rfl Try.underlying68 Try.sizeOf67 Try.zeroValue67 (by rfl) (by rfl) rfl (by first | kernel_rfl | rfl) rfl (fun V38 => ?_)
        refine Tr.callEnts (fun j : Option Addr × Nat × Value => j.2.2) (fun j => [rowE j.2.2 80 encSec [codeS (codeP (ariI (6 + ((m0 % 10).toNat : Int)) m1 m2)) j.1 j.2.1], rowE (.slice j.1 (codeP (ariI (6 + ((m0 % 10).toNat : Int)) m1 m2)).length j.2.1) 5 encU8 (codeP (ariI (6 + ((m0 % 10).toNat : Int)) m1 m2))]) (ok := fun _ => True) rfl Try.call27 (fun w hw => code_any (ariI (6 + ((m0 % 10).toNat : Int)) m1 m2) _ w (hw.row (.head _)) hIs (show (4 : Nat) ≤ 100 by omega)) rfl (fun j _ => ?_)
        obtain ⟨pa1, ca1, VS⟩ := j
        change Tr _ _ ([rowE VS 80 encSec [codeS (codeP (ariI (6 + ((m0 % 10).toNat : Int)) m1 m2)) pa1 ca1], rowE (.slice pa1 (codeP (ariI (6 + ((m0 % 10).toNat : Int)) m1 m2)).length ca1) 5 encU8 (codeP (ariI (6 + ((m0 % 10).toNat : Int)) m1 m2))] ++ _) _ _
        rw [ari_code hkk]
        refine Tr.frozen (V := VS) (.here _) (fun F1 hF1 hS1 => ?_)
        refine Tr.frozen (V := .slice pa1 ((ariB (ariE (m0 % 10).toNat) m1 m2) : List UInt8).length ca1) (.here _) (fun F2 hF2 hD1 => ?_)
        replace hS1 := hS1.mono hF2.blk
        refine Tr.callMix0 (fun j : Nat × Nat × Nat × Value × Value × WL × List RegV => .pointer (some ⟨j.1, 0, none⟩)) (fun j => [cellE j.1 (cpuC (newS 4096) j.2.1 j.2.2.2.2.1 (.slice none 0 0) .nilFunc) 47, mapE j.2.2.1 u8V j.2.2.2.2.2.1, rowE (.slice none 0 0) 22 encU32 []]) (fun j => (cellE j.2.1 [j.2.2.2.1, .map (some j.2.2.1)] 33 :: rowE j.2.2.2.1 86 encReg j.2.2.2.2.2.2 :: rowE j.2.2.2.2.1 22 encU32 [] :: regEnts 5 j.2.2.2.2.2.2)) (ok := fun j => (mread j.2.2.2.2.2.1 = (newS 4096).w ∧ j.2.2.2.2.2.1.length ≤ 4) ∧ MemOK [codeS (ariB (ariE (m0 % 10).toNat) m1 m2) pa1 ca1] j.2.2.2.2.2.2) ((hF1.trans hF2).dr) rfl Try.call26 (fun w hw => boot_ok [codeS (ariB (ariE (m0 % 10).toNat) m1 m2) pa1 ca1] _ 4096 [] _ w (hw.slF hS1) ⟨by simp, by simp [codeS]; exact (show (15 : Nat) ≤ 200000 by omega)⟩ (by simp [codeS]; decide) (fun s hs => by simp only [List.mem_singleton] at hs; subst hs; exact hw.slF hD1) (Sl.nil _ _) (Nat.zero_le _) (ari_chk _ _ _ _ _)) rfl (fun j F3 hj hF3 hk => ?_)
        obtain ⟨bc1, bM1, bm1, VR1, vi1, wl1, rs1⟩ := j
        have hC1 : CpuAt F3.blk bM1 bm1 VR1 vi1 rs1 [] := cpuAt_of hk
        obtain ⟨⟨hw1, hn1⟩, hO1⟩ := hj
        replace hO1 : MemOK [codeS (ariB (ariE (m0 % 10).toNat) m1 m2) pa1 ca1] rs1 := hO1
        change Tr _ _ ([cellE bc1 (cpuC (newS 4096) bM1 vi1 (.slice none 0 0) .nilFunc) 47, mapE bm1 u8V wl1, rowE (.slice none 0 0) 22 encU32 (newS 4096).out] ++ _) _ _
        have hF13 := hF1.trans (hF2.trans hF3)
        have hdr3 : F3.dr = 0 := hF13.dr
        refine Tr.q (QS.assign rfl) rfl ?_
        refine Tr.nil ?_
        refine Tr.thenN ?_
        refine Tr.seq ?_
        refine Tr.seq ?_
        refine Tr.region ?_
        refine Tr.q (QS.move rfl) rfl ?_
        refine Tr.q (QS.eqlPN rfl rfl Try.underlying27 rfl) rfl ?_
        refine Tr.nil ?_
        refine Tr.thenN ?_
        refine Tr.cond rfl (fun h39 => ?_) (fun h39 => ?_)
        · try simp only [bs] at h39
          first | contradiction | (exfalso; omega) | simp_all
        · try simp only [bs] at h39
          refine Tr.skip ?_
          refine Tr.thenN ?_
          refine Tr.seq ?_
          refine Tr.region ?_
          refine Tr.q (QS.move rfl) rfl ?_
          refine Tr.callO (fun j : WL × Value × Value × Value × Value => .agg #[.int .i64 (errR (runS [codeS (ariB (ariE (m0 % 10).toNat) m1 m2) pa1 ca1] [] (min (10 : Int) 65536).toNat (newS 4096))), j.2.2.2.2, .int .i64 ((traceS [codeS (ariB (ariE (m0 % 10).toNat) m1 m2) pa1 ca1] [] (min (10 : Int) 65536).toNat (newS 4096)).length : Nat)]) [cellE bc1 (cpuC (newS 4096) bM1 vi1 (.slice none 0 0) .nilFunc) 47, mapE bm1 u8V wl1, rowE (.slice none 0 0) 22 encU32 (newS 4096).out] (fun j => [cellE bc1 (cpuC (runS [codeS (ariB (ariE (m0 % 10).toNat) m1 m2) pa1 ca1] [] (min (10 : Int) 65536).toNat (newS 4096)) bM1 vi1 j.2.1 j.2.2.1) 47, mapE bm1 u8V j.1, rowE j.2.1 22 encU32 (runS [codeS (ariB (ariE (m0 % 10).toNat) m1 m2) pa1 ca1] [] (min (10 : Int) 65536).toNat (newS 4096)).out, rowE j.2.2.2.2 22 encU32 (runS [codeS (ariB (ariE (m0 % 10).toNat) m1 m2) pa1 ca1] [] (min (10 : Int) 65536).toNat (newS 4096)).out]) (ok := fun j => mread j.1 = (runS [codeS (ariB (ariE (m0 % 10).toNat) m1 m2) pa1 ca1] [] (min (10 : Int) 65536).toNat (newS 4096)).w ∧ j.1.length ≤ wl1.length + 4 * (traceS [codeS (ariB (ariE (m0 % 10).toNat) m1 m2) pa1 ca1] [] (min (10 : Int) 65536).toNat (newS 4096)).length ∧ ∃ a n c, j.2.1 = .slice a n c) (dd := fun _ => 0) rfl Try.call17 (by repeat' (first | exact Split.nil _ | exact Del.here _ | apply Split.cons | apply Del.there)) (fun w hw => Nat.le_of_eq (hdr3)) (fun w hw => run_cpu (newS 4096) bc1 bM1 bm1 VR1 vi1 (.slice none 0 0) .nilFunc rs1 [codeS (ariB (ariE (m0 % 10).toNat) m1 m2) pa1 ca1] wl1 [] (10 : Int) w (hw.own (by repeat' (first | exact Split.nil _ | exact Del.here _ | apply Split.cons | apply Del.there))) (hC1.mono (hw.lessB (Lo := [cellE bc1 (cpuC (newS 4096) bM1 vi1 (.slice none 0 0) .nilFunc) 47, mapE bm1 u8V wl1, rowE (.slice none 0 0) 22 encU32 (newS 4096).out]) (by repeat' (first | exact Split.nil _ | exact Del.here _ | apply Split.cons | apply Del.there)))) hO1 hw1 ⟨_, _, _, rfl⟩ (by show (0 : Nat) ≤ 4096; omega)) rfl (fun j hj => ?_)
          obtain ⟨wl3, vo3, ef3, vt3, vq3⟩ := j
          obtain ⟨hw3, hn3, hv3⟩ := hj
          change Tr _ _ (cellE bc1 (cpuC (runS [codeS (ariB (ariE (m0 % 10).toNat) m1 m2) pa1 ca1] [] (min (10 : Int) 65536).toNat (newS 4096)) bM1 vi1 vo3 ef3) 47 :: mapE bm1 u8V wl3 :: rowE vo3 22 encU32 (runS [codeS (ariB (ariE (m0 % 10).toNat) m1 m2) pa1 ca1] [] (min (10 : Int) 65536).toNat (newS 4096)).out :: rowE vq3 22 encU32 (runS [codeS (ariB (ariE (m0 % 10).toNat) m1 m2) pa1 ca1] [] (min (10 : Int) 65536).toNat (newS 4096)).out :: _) _ _
          obtain ⟨n3, hm3⟩ : ∃ n, n = (traceS [codeS (ariB (ariE (m0 % 10).toNat) m1 m2) pa1 ca1] [] (min (10 : Int) 65536).toNat (newS 4096)).length := ⟨_, rfl⟩
          rw [← hm3] at hn3 ⊢
          obtain ⟨t3, ht3⟩ : ∃ t, t = (runS [codeS (ariB (ariE (m0 % 10).toNat) m1 m2) pa1 ca1] [] (min (10 : Int) 65536).toNat (newS 4096)) := ⟨_, rfl⟩
          rw [← ht3] at hw3 ⊢
          refine Tr.rowShape (V := vq3) (by repeat (first | exact List.Mem.head _ | apply List.Mem.tail)) (fun pq3 cq3 hpv => ?_)
          subst hpv
          obtain ⟨hx1, hx2, hx3, hx4, hx5⟩ := ari_facts hkk ht3 hm3
          rw [hx1]
          refine Tr.alloc Try.zeroValue50 rfl rfl (fun b40 => ?_)
          refine Tr.storeW rfl rfl Try.sizeOf50 (by repeat (first | exact Put.here _ | apply Put.there)) (by rfl) (by rfl) (by first | exact List.all_eq_true.1 rfl | exact Enc.one _ _ | (intro u hu; simp [Value.cells] at hu; simp_all [Value.oneCell'])) rfl ?_
          refine Tr.nil ?_
          refine Tr.thenN ?_
          refine Tr.seq ?_
          refine Tr.region ?_
          refine Tr.q (QS.move rfl) rfl ?_
          refine Tr.q (QS.call rfl Try.call13 (fun w hw => state_cpu t3 bc1 bM1 vi1 vo3 ef3 w (cellE.cellsIn (hw.ent _ (by repeat (first | exact List.Mem.head _ | apply List.Mem.tail))) (Ext.refl _)))) rfl ?_
          refine Tr.alloc Try.zeroValue42 rfl rfl (fun b41 => ?_)
          refine Tr.storeW rfl rfl Try.sizeOf42 (by repeat (first | exact Put.here _ | apply Put.there)) (by rfl) (by rfl) (by first | exact List.all_eq_true.1 rfl | exact Enc.one _ _ | exact Enc.one encMach _) rfl ?_
          refine Tr.nil ?_
          refine Tr.thenN ?_
          refine Tr.seq ?_
          refine Tr.region ?_
          refine Tr.q (QS.move rfl) rfl ?_
          refine Tr.q (QS.eql rfl rfl) rfl ?_
          refine Tr.q (QS.move rfl) rfl ?_
          apply Tr.andP
          · exact (rfl : _ = (4, 75, 79))
          · exact rfl
          · intro hT42; have hT42' := hT42
            try simp only [bs] at hT42'
            refine Tr.gq rfl rfl hT42 (QS.fieldAddr (off := 0) (ft := 24) rfl Try.underlying50 rfl rfl Try.sizeOf24 (by decide)) rfl ?_
            refine Tr.gq rfl rfl hT42 (QS.lV rfl Try.isAgg24) rfl ?_
            refine Tr.gq rfl rfl hT42 (QS.eql rfl rfl) rfl ?_
            refine Tr.q (QS.pickT rfl hT42 rfl) rfl ?_
            refine Tr.nil (Tr.thenN ?_)
            exact Tr.endX (Sub.cons rfl (Sub.dropN 4 (by kernel_rfl) rfl))
          · intro hF42
            refine Tr.gskip rfl rfl hF42 rfl ?_
            refine Tr.gskip rfl rfl hF42 rfl ?_
            refine Tr.gskip rfl rfl hF42 rfl ?_
            refine Tr.q (QS.pickF rfl hF42 rfl) rfl ?_
            refine Tr.nil (Tr.thenN ?_)
            exact Tr.endX (Sub.cons rfl (Sub.dropN 4 (by kernel_rfl) rfl))
          refine Tr.q (QS.move rfl) rfl ?_
          apply Tr.andP
          · exact (rfl : _ = (4, 80, 84))
          · exact rfl
          · intro hT43; have hT43' := hT43
            try simp only [bs] at hT43'
            refine Tr.gq rfl rfl hT43 (QS.fieldAddr (off := 2) (ft := 3) rfl Try.underlying50 rfl rfl Try.sizeOf3 (by decide)) rfl ?_
            refine Tr.gq rfl rfl hT43 (QS.lV rfl Try.isAgg3) rfl ?_
            refine Tr.gq rfl rfl hT43 (QS.eql rfl rfl) rfl ?_
            refine Tr.q (QS.pickT rfl hT43 rfl) rfl ?_
            refine Tr.nil (Tr.thenN ?_)
            exact Tr.endX (Sub.cons rfl (Sub.dropN 4 (by kernel_rfl) rfl))
          · intro hF43
            refine Tr.gskip rfl rfl hF43 rfl ?_
            refine Tr.gskip rfl rfl hF43 rfl ?_
            refine Tr.gskip rfl rfl hF43 rfl ?_
            refine Tr.q (QS.pickF rfl hF43 rfl) rfl ?_
            refine Tr.nil (Tr.thenN ?_)
            exact Tr.endX (Sub.cons rfl (Sub.dropN 4 (by kernel_rfl) rfl))
          refine Tr.q (QS.move rfl) rfl ?_
          apply Tr.andP
          · exact (rfl : _ = (6, 85, 91))
          · exact rfl
          · intro hT44; have hT44' := hT44
            try simp only [bs] at hT44'
            refine Tr.gq rfl rfl hT44 (QS.fieldAddr (off := 0) (ft := 38) rfl Try.underlying42 rfl rfl Try.sizeOf38 (by decide)) rfl ?_
            refine Tr.gq rfl rfl hT44 (QS.idxArr rfl rfl Try.underlying38 Try.sizeOf22 (by omega)) rfl ?_
            refine Tr.gq rfl rfl hT44 (QS.lV rfl Try.isAgg22) rfl ?_
            refine Tr.gq rfl rfl hT44 (QS.move rfl) rfl ?_
            refine Tr.gq rfl rfl hT44 (QS.eql32 rfl rfl) rfl ?_
            refine Tr.q (QS.pickT rfl hT44 rfl) rfl ?_
            refine Tr.nil (Tr.thenN ?_)
            exact Tr.endX (Sub.cons rfl (Sub.dropN 6 (by kernel_rfl) rfl))
          · intro hF44
            refine Tr.gskip rfl rfl hF44 rfl ?_
            refine Tr.gskip rfl rfl hF44 rfl ?_
            refine Tr.gskip rfl rfl hF44 rfl ?_
            refine Tr.gskip rfl rfl hF44 rfl ?_
            refine Tr.gskip rfl rfl hF44 rfl ?_
            refine Tr.q (QS.pickF rfl hF44 rfl) rfl ?_
            refine Tr.nil (Tr.thenN ?_)
            exact Tr.endX (Sub.cons rfl (Sub.dropN 6 (by kernel_rfl) rfl))
          refine Tr.q (QS.move rfl) rfl ?_
          apply Tr.andP
          · exact (rfl : _ = (6, 92, 98))
          · exact rfl
          · intro hT45; have hT45' := hT45
            try simp only [bs] at hT45'
            refine Tr.gq rfl rfl hT45 (QS.fieldAddr (off := 0) (ft := 38) rfl Try.underlying42 rfl rfl Try.sizeOf38 (by decide)) rfl ?_
            refine Tr.gq rfl rfl hT45 (QS.idxArr rfl rfl Try.underlying38 Try.sizeOf22 (by omega)) rfl ?_
            refine Tr.gq rfl rfl hT45 (QS.lV rfl Try.isAgg22) rfl ?_
            refine Tr.gq rfl rfl hT45 (QS.move rfl) rfl ?_
            refine Tr.gq rfl rfl hT45 (QS.eql32 rfl rfl) rfl ?_
            refine Tr.q (QS.pickT rfl hT45 rfl) rfl ?_
            refine Tr.nil (Tr.thenN ?_)
            exact Tr.endX (Sub.cons rfl (Sub.dropN 6 (by kernel_rfl) rfl))
          · intro hF45
            refine Tr.gskip rfl rfl hF45 rfl ?_
            refine Tr.gskip rfl rfl hF45 rfl ?_
            refine Tr.gskip rfl rfl hF45 rfl ?_
            refine Tr.gskip rfl rfl hF45 rfl ?_
            refine Tr.gskip rfl rfl hF45 rfl ?_
            refine Tr.q (QS.pickF rfl hF45 rfl) rfl ?_
            refine Tr.nil (Tr.thenN ?_)
            exact Tr.endX (Sub.cons rfl (Sub.dropN 6 (by kernel_rfl) rfl))
          refine Tr.q (QS.move rfl) rfl ?_
          apply Tr.andP
          · exact (rfl : _ = (5, 99, 104))
          · exact rfl
          · intro hT46; have hT46' := hT46
            try simp only [bs] at hT46'
            refine Tr.gq rfl rfl hT46 (QS.fieldAddr (off := 9) (ft := 40) rfl Try.underlying42 rfl rfl Try.sizeOf40 (by decide)) rfl ?_
            refine Tr.gq rfl rfl hT46 (QS.loadVA (vs := encFlg.enc t3.m.f) rfl (by repeat (first | exact List.Mem.head _ | apply List.Mem.tail)) Try.isAgg40 Try.sizeOf40 rfl rfl) rfl ?_
            refine Tr.gq rfl rfl hT46 (QS.lW rfl Try.isAgg40 Try.sizeOf40) rfl ?_
            refine Tr.gq rfl rfl hT46 (QS.eqlE rfl rfl flgEqEnc Try.underlying40 (HLF.words40 _ Try.underlying40) rfl HLF.held40 HLF.eqg40) rfl ?_
            refine Tr.q (QS.pickT rfl hT46 rfl) rfl ?_
            refine Tr.nil (Tr.thenN ?_)
            exact Tr.endX (Sub.cons rfl (Sub.dropN 5 (by kernel_rfl) rfl))
          · intro hF46
            refine Tr.gskip rfl rfl hF46 rfl ?_
            refine Tr.gskip rfl rfl hF46 rfl ?_
            refine Tr.gskip rfl rfl hF46 rfl ?_
            refine Tr.gskip rfl rfl hF46 rfl ?_
            refine Tr.q (QS.pickF rfl hF46 rfl) rfl ?_
            refine Tr.nil (Tr.thenN ?_)
            exact Tr.endX (Sub.cons rfl (Sub.dropN 5 (by kernel_rfl) rfl))
          refine Tr.q (QS.move rfl) rfl ?_
          apply Tr.andP
          · exact (rfl : _ = (2, 105, 107))
          · exact rfl
          · intro hT47; have hT47' := hT47
            try simp only [bs] at hT47'
            refine Tr.gq rfl rfl hT47 (QS.call0 hdr3 rfl Try.call21 (fun w hw => example10_any w)) rfl ?_
            refine Tr.q (QS.pickT rfl hT47 rfl) rfl ?_
            refine Tr.nil (Tr.thenN ?_)
            exact Tr.endX (Sub.cons rfl (Sub.dropN 2 (by kernel_rfl) rfl))
          · intro hF47
            refine Tr.gskip rfl rfl hF47 rfl ?_
            refine Tr.q (QS.pickF rfl hF47 rfl) rfl ?_
            refine Tr.nil (Tr.thenN ?_)
            exact Tr.endX (Sub.cons rfl (Sub.dropN 2 (by kernel_rfl) rfl))
          refine Tr.q (QS.assign rfl) rfl ?_
          refine Tr.nil ?_
          refine Tr.thenN ?_
          refine Tr.ret ?_
          refine Tr.ret1 Try.results4 rfl (fun w' hw => ?_)
          have hA := hx3.trans hv2
          have hB := hx5.trans hvf
          refine ⟨?_, hw.below0 hF13⟩
          clear hx3 hx5 hv2 hvf hIs ht3 hm3 hn3 hw3 hx1 hn1 hw1 hO1 hC1 hk hv3
          split at hA <;> split at hB <;> (try split at hB) <;> first | (exfalso; omega) | (simp [hA, hB, hx2, hx4] <;> (first | simpa using hv1 | (simp_all)))
  · try simp only [bs] at h3
    refine Tr.skip ?_
    refine Tr.thenN ?_
    refine Tr.seq ?_
    refine Tr.seq ?_
    refine Tr.region ?_
    refine Tr.q (QS.move rfl) rfl ?_
    refine Tr.q (QS.eql rfl rfl) rfl ?_
    refine Tr.q (QS.move rfl) rfl ?_
    apply Tr.orP
    · exact (rfl : _ = (3, 44, 47))
    · exact rfl
    · intro hF48; have hF48' := hF48
      try simp only [bs] at hF48'
      refine Tr.gq rfl rfl hF48 (QS.move rfl) rfl ?_
      refine Tr.gq rfl rfl hF48 (QS.eql rfl rfl) rfl ?_
      refine Tr.q (QS.pickF rfl hF48 rfl) rfl ?_
      refine Tr.nil (Tr.thenN ?_)
      exact Tr.endX (Sub.cons rfl (Sub.dropN 3 (by kernel_rfl) rfl))
    · intro hT48
      refine Tr.gskip rfl rfl hT48 rfl ?_
      refine Tr.gskip rfl rfl hT48 rfl ?_
      refine Tr.q (QS.pickT rfl hT48 rfl) rfl ?_
      refine Tr.nil (Tr.thenN ?_)
      exact Tr.endX (Sub.cons rfl (Sub.dropN 3 (by kernel_rfl) rfl))
    refine Tr.nil ?_
    refine Tr.thenN ?_
    refine Tr.cond rfl (fun h49 => ?_) (fun h49 => ?_)
    · try simp only [bs] at h49
      refine Tr.region ?_
      refine Tr.q (QS.move rfl) rfl ?_
      refine Tr.q (QS.move rfl) rfl ?_
      refine Tr.q (QS.call rfl Try.call25 (fun w hw => sub_bits m1 m2 w)) rfl ?_
      refine Tr.q (QS.move rfl) rfl ?_
      refine Tr.q (QS.extract rfl rfl) rfl ?_
      refine Tr.q (QS.extract rfl rfl) rfl ?_
      refine Tr.storeW rfl rfl Try.sizeOf40 (by repeat (first | exact Put.here _ | apply Put.there)) (by rfl) (by rfl) (by first | exact List.all_eq_true.1 rfl | exact Enc.one _ _ | exact Enc.one encFlg _) rfl ?_
      change Tr _ _ (cellE _ (encFlg.enc (subF m1 m2)) 40 :: _) _ _
      refine Tr.nil ?_
      refine Tr.thenN ?_
      refine Tr.seq ?_
      refine Tr.seq ?_
      refine Tr.region ?_
      refine Tr.q (QS.move rfl) rfl ?_
      refine Tr.q (QS.eql rfl rfl) rfl ?_
      refine Tr.nil ?_
      refine Tr.thenN ?_
      refine Tr.cond rfl (fun h50 => ?_) (fun h50 => ?_)
      · try simp only [bs] at h50
        refine Tr.region ?_
        refine Tr.q (QS.move rfl) rfl ?_
        refine Tr.q (QS.assign rfl) rfl ?_
        refine Tr.nil ?_
        refine Tr.thenN ?_
        refine Tr.seq ?_
        refine Tr.region ?_
        refine Tr.q (QS.move rfl) rfl ?_
        refine Tr.q (QS.build (vs := [(2, _), (6, _), (3, _), (1, _)]) (cs := (encIns.enc (⟨0, m1, 5, 2, 0, 0, 1, 0, 0⟩ : Ins)).toArray) rfl rfl rfl) rfl ?_
        refine Tr.q (QS.move rfl) rfl ?_
        refine Tr.q (QS.build (vs := [(2, _), (6, _), (3, _), (1, _)]) (cs := (encIns.enc (⟨0, m2, 5, 2, 0, 0, 2, 0, 0⟩ : Ins)).toArray) rfl rfl rfl) rfl ?_
        refine Tr.q (QS.move rfl) rfl ?_
        refine Tr.q (QS.build (vs := [(2, _), (6, _), (7, _)]) (cs := (encIns.enc (⟨0, 0, 6 + ((m0 % 10).toNat : Int), 0, 0, 0, 1, 2, 0⟩ : Ins)).toArray) rfl rfl rfl) rfl ?_
        refine Tr.q (QS.build (vs := [(2, _)]) (cs := (encIns.enc (⟨0, 0, 1, 0, 0, 0, 0, 0, 0⟩ : Ins)).toArray) rfl rfl (by kernel_rfl)) rfl ?_
        refine Tr.litN (E := encIns) (ariI (6 + ((m0 % 10).toNat : Int)) m1 m2) (vs := [(0, _), (1, _), (2, _), (3, _)]) rfl rfl Try.underlying68 Try.sizeOf67 Try.zeroValue67 (by rfl) (by rfl) rfl (by first | kernel_rfl | rfl) rfl (fun V51 => ?_)
        refine Tr.callEnts (fun j : Option Addr × Nat × Value => j.2.2) (fun j => [rowE j.2.2 80 encSec [codeS (codeP (ariI (6 + ((m0 % 10).toNat : Int)) m1 m2)) j.1 j.2.1], rowE (.slice j.1 (codeP (ariI (6 + ((m0 % 10).toNat : Int)) m1 m2)).length j.2.1) 5 encU8 (codeP (ariI (6 + ((m0 % 10).toNat : Int)) m1 m2))]) (ok := fun _ => True) rfl Try.call27 (fun w hw => code_any (ariI (6 + ((m0 % 10).toNat : Int)) m1 m2) _ w (hw.row (.head _)) hIs (show (4 : Nat) ≤ 100 by omega)) rfl (fun j _ => ?_)
        obtain ⟨pa1, ca1, VS⟩ := j
        change Tr _ _ ([rowE VS 80 encSec [codeS (codeP (ariI (6 + ((m0 % 10).toNat : Int)) m1 m2)) pa1 ca1], rowE (.slice pa1 (codeP (ariI (6 + ((m0 % 10).toNat : Int)) m1 m2)).length ca1) 5 encU8 (codeP (ariI (6 + ((m0 % 10).toNat : Int)) m1 m2))] ++ _) _ _
        rw [ari_code hkk]
        refine Tr.frozen (V := VS) (.here _) (fun F1 hF1 hS1 => ?_)
        refine Tr.frozen (V := .slice pa1 ((ariB (ariE (m0 % 10).toNat) m1 m2) : List UInt8).length ca1) (.here _) (fun F2 hF2 hD1 => ?_)
        replace hS1 := hS1.mono hF2.blk
        refine Tr.callMix0 (fun j : Nat × Nat × Nat × Value × Value × WL × List RegV => .pointer (some ⟨j.1, 0, none⟩)) (fun j => [cellE j.1 (cpuC (newS 4096) j.2.1 j.2.2.2.2.1 (.slice none 0 0) .nilFunc) 47, mapE j.2.2.1 u8V j.2.2.2.2.2.1, rowE (.slice none 0 0) 22 encU32 []]) (fun j => (cellE j.2.1 [j.2.2.2.1, .map (some j.2.2.1)] 33 :: rowE j.2.2.2.1 86 encReg j.2.2.2.2.2.2 :: rowE j.2.2.2.2.1 22 encU32 [] :: regEnts 5 j.2.2.2.2.2.2)) (ok := fun j => (mread j.2.2.2.2.2.1 = (newS 4096).w ∧ j.2.2.2.2.2.1.length ≤ 4) ∧ MemOK [codeS (ariB (ariE (m0 % 10).toNat) m1 m2) pa1 ca1] j.2.2.2.2.2.2) ((hF1.trans hF2).dr) rfl Try.call26 (fun w hw => boot_ok [codeS (ariB (ariE (m0 % 10).toNat) m1 m2) pa1 ca1] _ 4096 [] _ w (hw.slF hS1) ⟨by simp, by simp [codeS]; exact (show (15 : Nat) ≤ 200000 by omega)⟩ (by simp [codeS]; decide) (fun s hs => by simp only [List.mem_singleton] at hs; subst hs; exact hw.slF hD1) (Sl.nil _ _) (Nat.zero_le _) (ari_chk _ _ _ _ _)) rfl (fun j F3 hj hF3 hk => ?_)
        obtain ⟨bc1, bM1, bm1, VR1, vi1, wl1, rs1⟩ := j
        have hC1 : CpuAt F3.blk bM1 bm1 VR1 vi1 rs1 [] := cpuAt_of hk
        obtain ⟨⟨hw1, hn1⟩, hO1⟩ := hj
        replace hO1 : MemOK [codeS (ariB (ariE (m0 % 10).toNat) m1 m2) pa1 ca1] rs1 := hO1
        change Tr _ _ ([cellE bc1 (cpuC (newS 4096) bM1 vi1 (.slice none 0 0) .nilFunc) 47, mapE bm1 u8V wl1, rowE (.slice none 0 0) 22 encU32 (newS 4096).out] ++ _) _ _
        have hF13 := hF1.trans (hF2.trans hF3)
        have hdr3 : F3.dr = 0 := hF13.dr
        refine Tr.q (QS.assign rfl) rfl ?_
        refine Tr.nil ?_
        refine Tr.thenN ?_
        refine Tr.seq ?_
        refine Tr.seq ?_
        refine Tr.region ?_
        refine Tr.q (QS.move rfl) rfl ?_
        refine Tr.q (QS.eqlPN rfl rfl Try.underlying27 rfl) rfl ?_
        refine Tr.nil ?_
        refine Tr.thenN ?_
        refine Tr.cond rfl (fun h52 => ?_) (fun h52 => ?_)
        · try simp only [bs] at h52
          first | contradiction | (exfalso; omega) | simp_all
        · try simp only [bs] at h52
          refine Tr.skip ?_
          refine Tr.thenN ?_
          refine Tr.seq ?_
          refine Tr.region ?_
          refine Tr.q (QS.move rfl) rfl ?_
          refine Tr.callO (fun j : WL × Value × Value × Value × Value => .agg #[.int .i64 (errR (runS [codeS (ariB (ariE (m0 % 10).toNat) m1 m2) pa1 ca1] [] (min (10 : Int) 65536).toNat (newS 4096))), j.2.2.2.2, .int .i64 ((traceS [codeS (ariB (ariE (m0 % 10).toNat) m1 m2) pa1 ca1] [] (min (10 : Int) 65536).toNat (newS 4096)).length : Nat)]) [cellE bc1 (cpuC (newS 4096) bM1 vi1 (.slice none 0 0) .nilFunc) 47, mapE bm1 u8V wl1, rowE (.slice none 0 0) 22 encU32 (newS 4096).out] (fun j => [cellE bc1 (cpuC (runS [codeS (ariB (ariE (m0 % 10).toNat) m1 m2) pa1 ca1] [] (min (10 : Int) 65536).toNat (newS 4096)) bM1 vi1 j.2.1 j.2.2.1) 47, mapE bm1 u8V j.1, rowE j.2.1 22 encU32 (runS [codeS (ariB (ariE (m0 % 10).toNat) m1 m2) pa1 ca1] [] (min (10 : Int) 65536).toNat (newS 4096)).out, rowE j.2.2.2.2 22 encU32 (runS [codeS (ariB (ariE (m0 % 10).toNat) m1 m2) pa1 ca1] [] (min (10 : Int) 65536).toNat (newS 4096)).out]) (ok := fun j => mread j.1 = (runS [codeS (ariB (ariE (m0 % 10).toNat) m1 m2) pa1 ca1] [] (min (10 : Int) 65536).toNat (newS 4096)).w ∧ j.1.length ≤ wl1.length + 4 * (traceS [codeS (ariB (ariE (m0 % 10).toNat) m1 m2) pa1 ca1] [] (min (10 : Int) 65536).toNat (newS 4096)).length ∧ ∃ a n c, j.2.1 = .slice a n c) (dd := fun _ => 0) rfl Try.call17 (by repeat' (first | exact Split.nil _ | exact Del.here _ | apply Split.cons | apply Del.there)) (fun w hw => Nat.le_of_eq (hdr3)) (fun w hw => run_cpu (newS 4096) bc1 bM1 bm1 VR1 vi1 (.slice none 0 0) .nilFunc rs1 [codeS (ariB (ariE (m0 % 10).toNat) m1 m2) pa1 ca1] wl1 [] (10 : Int) w (hw.own (by repeat' (first | exact Split.nil _ | exact Del.here _ | apply Split.cons | apply Del.there))) (hC1.mono (hw.lessB (Lo := [cellE bc1 (cpuC (newS 4096) bM1 vi1 (.slice none 0 0) .nilFunc) 47, mapE bm1 u8V wl1, rowE (.slice none 0 0) 22 encU32 (newS 4096).out]) (by repeat' (first | exact Split.nil _ | exact Del.here _ | apply Split.cons | apply Del.there)))) hO1 hw1 ⟨_, _, _, rfl⟩ (by show (0 : Nat) ≤ 4096; omega)) rfl (fun j hj => ?_)
          obtain ⟨wl3, vo3, ef3, vt3, vq3⟩ := j
          obtain ⟨hw3, hn3, hv3⟩ := hj
          change Tr _ _ (cellE bc1 (cpuC (runS [codeS (ariB (ariE (m0 % 10).toNat) m1 m2) pa1 ca1] [] (min (10 : Int) 65536).toNat (newS 4096)) bM1 vi1 vo3 ef3) 47 :: mapE bm1 u8V wl3 :: rowE vo3 22 encU32 (runS [codeS (ariB (ariE (m0 % 10).toNat) m1 m2) pa1 ca1] [] (min (10 : Int) 65536).toNat (newS 4096)).out :: rowE vq3 22 encU32 (runS [codeS (ariB (ariE (m0 % 10).toNat) m1 m2) pa1 ca1] [] (min (10 : Int) 65536).toNat (newS 4096)).out :: _) _ _
          obtain ⟨n3, hm3⟩ : ∃ n, n = (traceS [codeS (ariB (ariE (m0 % 10).toNat) m1 m2) pa1 ca1] [] (min (10 : Int) 65536).toNat (newS 4096)).length := ⟨_, rfl⟩
          rw [← hm3] at hn3 ⊢
          obtain ⟨t3, ht3⟩ : ∃ t, t = (runS [codeS (ariB (ariE (m0 % 10).toNat) m1 m2) pa1 ca1] [] (min (10 : Int) 65536).toNat (newS 4096)) := ⟨_, rfl⟩
          rw [← ht3] at hw3 ⊢
          refine Tr.rowShape (V := vq3) (by repeat (first | exact List.Mem.head _ | apply List.Mem.tail)) (fun pq3 cq3 hpv => ?_)
          subst hpv
          obtain ⟨hx1, hx2, hx3, hx4, hx5⟩ := ari_facts hkk ht3 hm3
          rw [hx1]
          refine Tr.alloc Try.zeroValue50 rfl rfl (fun b53 => ?_)
          refine Tr.storeW rfl rfl Try.sizeOf50 (by repeat (first | exact Put.here _ | apply Put.there)) (by rfl) (by rfl) (by first | exact List.all_eq_true.1 rfl | exact Enc.one _ _ | (intro u hu; simp [Value.cells] at hu; simp_all [Value.oneCell'])) rfl ?_
          refine Tr.nil ?_
          refine Tr.thenN ?_
          refine Tr.seq ?_
          refine Tr.region ?_
          refine Tr.q (QS.move rfl) rfl ?_
          refine Tr.q (QS.call rfl Try.call13 (fun w hw => state_cpu t3 bc1 bM1 vi1 vo3 ef3 w (cellE.cellsIn (hw.ent _ (by repeat (first | exact List.Mem.head _ | apply List.Mem.tail))) (Ext.refl _)))) rfl ?_
          refine Tr.alloc Try.zeroValue42 rfl rfl (fun b54 => ?_)
          refine Tr.storeW rfl rfl Try.sizeOf42 (by repeat (first | exact Put.here _ | apply Put.there)) (by rfl) (by rfl) (by first | exact List.all_eq_true.1 rfl | exact Enc.one _ _ | exact Enc.one encMach _) rfl ?_
          refine Tr.nil ?_
          refine Tr.thenN ?_
          refine Tr.seq ?_
          refine Tr.region ?_
          refine Tr.q (QS.move rfl) rfl ?_
          refine Tr.q (QS.eql rfl rfl) rfl ?_
          refine Tr.q (QS.move rfl) rfl ?_
          apply Tr.andP
          · exact (rfl : _ = (4, 75, 79))
          · exact rfl
          · intro hT55; have hT55' := hT55
            try simp only [bs] at hT55'
            refine Tr.gq rfl rfl hT55 (QS.fieldAddr (off := 0) (ft := 24) rfl Try.underlying50 rfl rfl Try.sizeOf24 (by decide)) rfl ?_
            refine Tr.gq rfl rfl hT55 (QS.lV rfl Try.isAgg24) rfl ?_
            refine Tr.gq rfl rfl hT55 (QS.eql rfl rfl) rfl ?_
            refine Tr.q (QS.pickT rfl hT55 rfl) rfl ?_
            refine Tr.nil (Tr.thenN ?_)
            exact Tr.endX (Sub.cons rfl (Sub.dropN 4 (by kernel_rfl) rfl))
          · intro hF55
            refine Tr.gskip rfl rfl hF55 rfl ?_
            refine Tr.gskip rfl rfl hF55 rfl ?_
            refine Tr.gskip rfl rfl hF55 rfl ?_
            refine Tr.q (QS.pickF rfl hF55 rfl) rfl ?_
            refine Tr.nil (Tr.thenN ?_)
            exact Tr.endX (Sub.cons rfl (Sub.dropN 4 (by kernel_rfl) rfl))
          refine Tr.q (QS.move rfl) rfl ?_
          apply Tr.andP
          · exact (rfl : _ = (4, 80, 84))
          · exact rfl
          · intro hT56; have hT56' := hT56
            try simp only [bs] at hT56'
            refine Tr.gq rfl rfl hT56 (QS.fieldAddr (off := 2) (ft := 3) rfl Try.underlying50 rfl rfl Try.sizeOf3 (by decide)) rfl ?_
            refine Tr.gq rfl rfl hT56 (QS.lV rfl Try.isAgg3) rfl ?_
            refine Tr.gq rfl rfl hT56 (QS.eql rfl rfl) rfl ?_
            refine Tr.q (QS.pickT rfl hT56 rfl) rfl ?_
            refine Tr.nil (Tr.thenN ?_)
            exact Tr.endX (Sub.cons rfl (Sub.dropN 4 (by kernel_rfl) rfl))
          · intro hF56
            refine Tr.gskip rfl rfl hF56 rfl ?_
            refine Tr.gskip rfl rfl hF56 rfl ?_
            refine Tr.gskip rfl rfl hF56 rfl ?_
            refine Tr.q (QS.pickF rfl hF56 rfl) rfl ?_
            refine Tr.nil (Tr.thenN ?_)
            exact Tr.endX (Sub.cons rfl (Sub.dropN 4 (by kernel_rfl) rfl))
          refine Tr.q (QS.move rfl) rfl ?_
          apply Tr.andP
          · exact (rfl : _ = (6, 85, 91))
          · exact rfl
          · intro hT57; have hT57' := hT57
            try simp only [bs] at hT57'
            refine Tr.gq rfl rfl hT57 (QS.fieldAddr (off := 0) (ft := 38) rfl Try.underlying42 rfl rfl Try.sizeOf38 (by decide)) rfl ?_
            refine Tr.gq rfl rfl hT57 (QS.idxArr rfl rfl Try.underlying38 Try.sizeOf22 (by omega)) rfl ?_
            refine Tr.gq rfl rfl hT57 (QS.lV rfl Try.isAgg22) rfl ?_
            refine Tr.gq rfl rfl hT57 (QS.move rfl) rfl ?_
            refine Tr.gq rfl rfl hT57 (QS.eql32 rfl rfl) rfl ?_
            refine Tr.q (QS.pickT rfl hT57 rfl) rfl ?_
            refine Tr.nil (Tr.thenN ?_)
            exact Tr.endX (Sub.cons rfl (Sub.dropN 6 (by kernel_rfl) rfl))
          · intro hF57
            refine Tr.gskip rfl rfl hF57 rfl ?_
            refine Tr.gskip rfl rfl hF57 rfl ?_
            refine Tr.gskip rfl rfl hF57 rfl ?_
            refine Tr.gskip rfl rfl hF57 rfl ?_
            refine Tr.gskip rfl rfl hF57 rfl ?_
            refine Tr.q (QS.pickF rfl hF57 rfl) rfl ?_
            refine Tr.nil (Tr.thenN ?_)
            exact Tr.endX (Sub.cons rfl (Sub.dropN 6 (by kernel_rfl) rfl))
          refine Tr.q (QS.move rfl) rfl ?_
          apply Tr.andP
          · exact (rfl : _ = (6, 92, 98))
          · exact rfl
          · intro hT58; have hT58' := hT58
            try simp only [bs] at hT58'
            refine Tr.gq rfl rfl hT58 (QS.fieldAddr (off := 0) (ft := 38) rfl Try.underlying42 rfl rfl Try.sizeOf38 (by decide)) rfl ?_
            refine Tr.gq rfl rfl hT58 (QS.idxArr rfl rfl Try.underlying38 Try.sizeOf22 (by omega)) rfl ?_
            refine Tr.gq rfl rfl hT58 (QS.lV rfl Try.isAgg22) rfl ?_
            refine Tr.gq rfl rfl hT58 (QS.move rfl) rfl ?_
            refine Tr.gq rfl rfl hT58 (QS.eql32 rfl rfl) rfl ?_
            refine Tr.q (QS.pickT rfl hT58 rfl) rfl ?_
            refine Tr.nil (Tr.thenN ?_)
            exact Tr.endX (Sub.cons rfl (Sub.dropN 6 (by kernel_rfl) rfl))
          · intro hF58
            refine Tr.gskip rfl rfl hF58 rfl ?_
            refine Tr.gskip rfl rfl hF58 rfl ?_
            refine Tr.gskip rfl rfl hF58 rfl ?_
            refine Tr.gskip rfl rfl hF58 rfl ?_
            refine Tr.gskip rfl rfl hF58 rfl ?_
            refine Tr.q (QS.pickF rfl hF58 rfl) rfl ?_
            refine Tr.nil (Tr.thenN ?_)
            exact Tr.endX (Sub.cons rfl (Sub.dropN 6 (by kernel_rfl) rfl))
          refine Tr.q (QS.move rfl) rfl ?_
          apply Tr.andP
          · exact (rfl : _ = (5, 99, 104))
          · exact rfl
          · intro hT59; have hT59' := hT59
            try simp only [bs] at hT59'
            refine Tr.gq rfl rfl hT59 (QS.fieldAddr (off := 9) (ft := 40) rfl Try.underlying42 rfl rfl Try.sizeOf40 (by decide)) rfl ?_
            refine Tr.gq rfl rfl hT59 (QS.loadVA (vs := encFlg.enc t3.m.f) rfl (by repeat (first | exact List.Mem.head _ | apply List.Mem.tail)) Try.isAgg40 Try.sizeOf40 rfl rfl) rfl ?_
            refine Tr.gq rfl rfl hT59 (QS.lW rfl Try.isAgg40 Try.sizeOf40) rfl ?_
            refine Tr.gq rfl rfl hT59 (QS.eqlE rfl rfl flgEqEnc Try.underlying40 (HLF.words40 _ Try.underlying40) rfl HLF.held40 HLF.eqg40) rfl ?_
            refine Tr.q (QS.pickT rfl hT59 rfl) rfl ?_
            refine Tr.nil (Tr.thenN ?_)
            exact Tr.endX (Sub.cons rfl (Sub.dropN 5 (by kernel_rfl) rfl))
          · intro hF59
            refine Tr.gskip rfl rfl hF59 rfl ?_
            refine Tr.gskip rfl rfl hF59 rfl ?_
            refine Tr.gskip rfl rfl hF59 rfl ?_
            refine Tr.gskip rfl rfl hF59 rfl ?_
            refine Tr.q (QS.pickF rfl hF59 rfl) rfl ?_
            refine Tr.nil (Tr.thenN ?_)
            exact Tr.endX (Sub.cons rfl (Sub.dropN 5 (by kernel_rfl) rfl))
          refine Tr.q (QS.move rfl) rfl ?_
          apply Tr.andP
          · exact (rfl : _ = (2, 105, 107))
          · exact rfl
          · intro hT60; have hT60' := hT60
            try simp only [bs] at hT60'
            refine Tr.gq rfl rfl hT60 (QS.call0 hdr3 rfl Try.call21 (fun w hw => example10_any w)) rfl ?_
            refine Tr.q (QS.pickT rfl hT60 rfl) rfl ?_
            refine Tr.nil (Tr.thenN ?_)
            exact Tr.endX (Sub.cons rfl (Sub.dropN 2 (by kernel_rfl) rfl))
          · intro hF60
            refine Tr.gskip rfl rfl hF60 rfl ?_
            refine Tr.q (QS.pickF rfl hF60 rfl) rfl ?_
            refine Tr.nil (Tr.thenN ?_)
            exact Tr.endX (Sub.cons rfl (Sub.dropN 2 (by kernel_rfl) rfl))
          refine Tr.q (QS.assign rfl) rfl ?_
          refine Tr.nil ?_
          refine Tr.thenN ?_
          refine Tr.ret ?_
          refine Tr.ret1 Try.results4 rfl (fun w' hw => ?_)
          have hA := hx3.trans hv2
          have hB := hx5.trans hvf
          refine ⟨?_, hw.below0 hF13⟩
          clear hx3 hx5 hv2 hvf hIs ht3 hm3 hn3 hw3 hx1 hn1 hw1 hO1 hC1 hk hv3
          split at hA <;> split at hB <;> (try split at hB) <;> first | (exfalso; omega) | (simp [hA, hB, hx2, hx4] <;> (first | simpa using hv1 | (simp_all)))
      · try simp only [bs] at h50
        refine Tr.skip ?_
        refine Tr.thenN ?_
        refine Tr.seq ?_
        refine Tr.region ?_
        refine Tr.q (QS.move rfl) rfl ?_
        refine Tr.q (QS.build (vs := [(2, _), (6, _), (3, _), (1, _)]) (cs := (encIns.enc (⟨0, m1, 5, 2, 0, 0, 1, 0, 0⟩ : Ins)).toArray) rfl rfl rfl) rfl ?_
        refine Tr.q (QS.move rfl) rfl ?_
        refine Tr.q (QS.build (vs := [(2, _), (6, _), (3, _), (1, _)]) (cs := (encIns.enc (⟨0, m2, 5, 2, 0, 0, 2, 0, 0⟩ : Ins)).toArray) rfl rfl rfl) rfl ?_
        refine Tr.q (QS.move rfl) rfl ?_
        refine Tr.q (QS.build (vs := [(2, _), (6, _), (7, _)]) (cs := (encIns.enc (⟨0, 0, 6 + ((m0 % 10).toNat : Int), 0, 0, 0, 1, 2, 0⟩ : Ins)).toArray) rfl rfl rfl) rfl ?_
        refine Tr.q (QS.build (vs := [(2, _)]) (cs := (encIns.enc (⟨0, 0, 1, 0, 0, 0, 0, 0, 0⟩ : Ins)).toArray) rfl rfl (by kernel_rfl)) rfl ?_
        refine Tr.litN (E := encIns) (ariI (6 + ((m0 % 10).toNat : Int)) m1 m2) (vs := [(0, _), (1, _), (2, _), (3, _)]) rfl rfl Try.underlying68 Try.sizeOf67 Try.zeroValue67 (by rfl) (by rfl) rfl (by first | kernel_rfl | rfl) rfl (fun V61 => ?_)
        refine Tr.callEnts (fun j : Option Addr × Nat × Value => j.2.2) (fun j => [rowE j.2.2 80 encSec [codeS (codeP (ariI (6 + ((m0 % 10).toNat : Int)) m1 m2)) j.1 j.2.1], rowE (.slice j.1 (codeP (ariI (6 + ((m0 % 10).toNat : Int)) m1 m2)).length j.2.1) 5 encU8 (codeP (ariI (6 + ((m0 % 10).toNat : Int)) m1 m2))]) (ok := fun _ => True) rfl Try.call27 (fun w hw => code_any (ariI (6 + ((m0 % 10).toNat : Int)) m1 m2) _ w (hw.row (.head _)) hIs (show (4 : Nat) ≤ 100 by omega)) rfl (fun j _ => ?_)
        obtain ⟨pa1, ca1, VS⟩ := j
        change Tr _ _ ([rowE VS 80 encSec [codeS (codeP (ariI (6 + ((m0 % 10).toNat : Int)) m1 m2)) pa1 ca1], rowE (.slice pa1 (codeP (ariI (6 + ((m0 % 10).toNat : Int)) m1 m2)).length ca1) 5 encU8 (codeP (ariI (6 + ((m0 % 10).toNat : Int)) m1 m2))] ++ _) _ _
        rw [ari_code hkk]
        refine Tr.frozen (V := VS) (.here _) (fun F1 hF1 hS1 => ?_)
        refine Tr.frozen (V := .slice pa1 ((ariB (ariE (m0 % 10).toNat) m1 m2) : List UInt8).length ca1) (.here _) (fun F2 hF2 hD1 => ?_)
        replace hS1 := hS1.mono hF2.blk
        refine Tr.callMix0 (fun j : Nat × Nat × Nat × Value × Value × WL × List RegV => .pointer (some ⟨j.1, 0, none⟩)) (fun j => [cellE j.1 (cpuC (newS 4096) j.2.1 j.2.2.2.2.1 (.slice none 0 0) .nilFunc) 47, mapE j.2.2.1 u8V j.2.2.2.2.2.1, rowE (.slice none 0 0) 22 encU32 []]) (fun j => (cellE j.2.1 [j.2.2.2.1, .map (some j.2.2.1)] 33 :: rowE j.2.2.2.1 86 encReg j.2.2.2.2.2.2 :: rowE j.2.2.2.2.1 22 encU32 [] :: regEnts 5 j.2.2.2.2.2.2)) (ok := fun j => (mread j.2.2.2.2.2.1 = (newS 4096).w ∧ j.2.2.2.2.2.1.length ≤ 4) ∧ MemOK [codeS (ariB (ariE (m0 % 10).toNat) m1 m2) pa1 ca1] j.2.2.2.2.2.2) ((hF1.trans hF2).dr) rfl Try.call26 (fun w hw => boot_ok [codeS (ariB (ariE (m0 % 10).toNat) m1 m2) pa1 ca1] _ 4096 [] _ w (hw.slF hS1) ⟨by simp, by simp [codeS]; exact (show (15 : Nat) ≤ 200000 by omega)⟩ (by simp [codeS]; decide) (fun s hs => by simp only [List.mem_singleton] at hs; subst hs; exact hw.slF hD1) (Sl.nil _ _) (Nat.zero_le _) (ari_chk _ _ _ _ _)) rfl (fun j F3 hj hF3 hk => ?_)
        obtain ⟨bc1, bM1, bm1, VR1, vi1, wl1, rs1⟩ := j
        have hC1 : CpuAt F3.blk bM1 bm1 VR1 vi1 rs1 [] := cpuAt_of hk
        obtain ⟨⟨hw1, hn1⟩, hO1⟩ := hj
        replace hO1 : MemOK [codeS (ariB (ariE (m0 % 10).toNat) m1 m2) pa1 ca1] rs1 := hO1
        change Tr _ _ ([cellE bc1 (cpuC (newS 4096) bM1 vi1 (.slice none 0 0) .nilFunc) 47, mapE bm1 u8V wl1, rowE (.slice none 0 0) 22 encU32 (newS 4096).out] ++ _) _ _
        have hF13 := hF1.trans (hF2.trans hF3)
        have hdr3 : F3.dr = 0 := hF13.dr
        refine Tr.q (QS.assign rfl) rfl ?_
        refine Tr.nil ?_
        refine Tr.thenN ?_
        refine Tr.seq ?_
        refine Tr.seq ?_
        refine Tr.region ?_
        refine Tr.q (QS.move rfl) rfl ?_
        refine Tr.q (QS.eqlPN rfl rfl Try.underlying27 rfl) rfl ?_
        refine Tr.nil ?_
        refine Tr.thenN ?_
        refine Tr.cond rfl (fun h62 => ?_) (fun h62 => ?_)
        · try simp only [bs] at h62
          first | contradiction | (exfalso; omega) | simp_all
        · try simp only [bs] at h62
          refine Tr.skip ?_
          refine Tr.thenN ?_
          refine Tr.seq ?_
          refine Tr.region ?_
          refine Tr.q (QS.move rfl) rfl ?_
          refine Tr.callO (fun j : WL × Value × Value × Value × Value => .agg #[.int .i64 (errR (runS [codeS (ariB (ariE (m0 % 10).toNat) m1 m2) pa1 ca1] [] (min (10 : Int) 65536).toNat (newS 4096))), j.2.2.2.2, .int .i64 ((traceS [codeS (ariB (ariE (m0 % 10).toNat) m1 m2) pa1 ca1] [] (min (10 : Int) 65536).toNat (newS 4096)).length : Nat)]) [cellE bc1 (cpuC (newS 4096) bM1 vi1 (.slice none 0 0) .nilFunc) 47, mapE bm1 u8V wl1, rowE (.slice none 0 0) 22 encU32 (newS 4096).out] (fun j => [cellE bc1 (cpuC (runS [codeS (ariB (ariE (m0 % 10).toNat) m1 m2) pa1 ca1] [] (min (10 : Int) 65536).toNat (newS 4096)) bM1 vi1 j.2.1 j.2.2.1) 47, mapE bm1 u8V j.1, rowE j.2.1 22 encU32 (runS [codeS (ariB (ariE (m0 % 10).toNat) m1 m2) pa1 ca1] [] (min (10 : Int) 65536).toNat (newS 4096)).out, rowE j.2.2.2.2 22 encU32 (runS [codeS (ariB (ariE (m0 % 10).toNat) m1 m2) pa1 ca1] [] (min (10 : Int) 65536).toNat (newS 4096)).out]) (ok := fun j => mread j.1 = (runS [codeS (ariB (ariE (m0 % 10).toNat) m1 m2) pa1 ca1] [] (min (10 : Int) 65536).toNat (newS 4096)).w ∧ j.1.length ≤ wl1.length + 4 * (traceS [codeS (ariB (ariE (m0 % 10).toNat) m1 m2) pa1 ca1] [] (min (10 : Int) 65536).toNat (newS 4096)).length ∧ ∃ a n c, j.2.1 = .slice a n c) (dd := fun _ => 0) rfl Try.call17 (by repeat' (first | exact Split.nil _ | exact Del.here _ | apply Split.cons | apply Del.there)) (fun w hw => Nat.le_of_eq (hdr3)) (fun w hw => run_cpu (newS 4096) bc1 bM1 bm1 VR1 vi1 (.slice none 0 0) .nilFunc rs1 [codeS (ariB (ariE (m0 % 10).toNat) m1 m2) pa1 ca1] wl1 [] (10 : Int) w (hw.own (by repeat' (first | exact Split.nil _ | exact Del.here _ | apply Split.cons | apply Del.there))) (hC1.mono (hw.lessB (Lo := [cellE bc1 (cpuC (newS 4096) bM1 vi1 (.slice none 0 0) .nilFunc) 47, mapE bm1 u8V wl1, rowE (.slice none 0 0) 22 encU32 (newS 4096).out]) (by repeat' (first | exact Split.nil _ | exact Del.here _ | apply Split.cons | apply Del.there)))) hO1 hw1 ⟨_, _, _, rfl⟩ (by show (0 : Nat) ≤ 4096; omega)) rfl (fun j hj => ?_)
          obtain ⟨wl3, vo3, ef3, vt3, vq3⟩ := j
          obtain ⟨hw3, hn3, hv3⟩ := hj
          change Tr _ _ (cellE bc1 (cpuC (runS [codeS (ariB (ariE (m0 % 10).toNat) m1 m2) pa1 ca1] [] (min (10 : Int) 65536).toNat (newS 4096)) bM1 vi1 vo3 ef3) 47 :: mapE bm1 u8V wl3 :: rowE vo3 22 encU32 (runS [codeS (ariB (ariE (m0 % 10).toNat) m1 m2) pa1 ca1] [] (min (10 : Int) 65536).toNat (newS 4096)).out :: rowE vq3 22 encU32 (runS [codeS (ariB (ariE (m0 % 10).toNat) m1 m2) pa1 ca1] [] (min (10 : Int) 65536).toNat (newS 4096)).out :: _) _ _
          obtain ⟨n3, hm3⟩ : ∃ n, n = (traceS [codeS (ariB (ariE (m0 % 10).toNat) m1 m2) pa1 ca1] [] (min (10 : Int) 65536).toNat (newS 4096)).length := ⟨_, rfl⟩
          rw [← hm3] at hn3 ⊢
          obtain ⟨t3, ht3⟩ : ∃ t, t = (runS [codeS (ariB (ariE (m0 % 10).toNat) m1 m2) pa1 ca1] [] (min (10 : Int) 65536).toNat (newS 4096)) := ⟨_, rfl⟩
          rw [← ht3] at hw3 ⊢
          refine Tr.rowShape (V := vq3) (by repeat (first | exact List.Mem.head _ | apply List.Mem.tail)) (fun pq3 cq3 hpv => ?_)
          subst hpv
          obtain ⟨hx1, hx2, hx3, hx4, hx5⟩ := ari_facts hkk ht3 hm3
          rw [hx1]
          refine Tr.alloc Try.zeroValue50 rfl rfl (fun b63 => ?_)
          refine Tr.storeW rfl rfl Try.sizeOf50 (by repeat (first | exact Put.here _ | apply Put.there)) (by rfl) (by rfl) (by first | exact List.all_eq_true.1 rfl | exact Enc.one _ _ | (intro u hu; simp [Value.cells] at hu; simp_all [Value.oneCell'])) rfl ?_
          refine Tr.nil ?_
          refine Tr.thenN ?_
          refine Tr.seq ?_
          refine Tr.region ?_
          refine Tr.q (QS.move rfl) rfl ?_
          refine Tr.q (QS.call rfl Try.call13 (fun w hw => state_cpu t3 bc1 bM1 vi1 vo3 ef3 w (cellE.cellsIn (hw.ent _ (by repeat (first | exact List.Mem.head _ | apply List.Mem.tail))) (Ext.refl _)))) rfl ?_
          refine Tr.alloc Try.zeroValue42 rfl rfl (fun b64 => ?_)
          refine Tr.storeW rfl rfl Try.sizeOf42 (by repeat (first | exact Put.here _ | apply Put.there)) (by rfl) (by rfl) (by first | exact List.all_eq_true.1 rfl | exact Enc.one _ _ | exact Enc.one encMach _) rfl ?_
          refine Tr.nil ?_
          refine Tr.thenN ?_
          refine Tr.seq ?_
          refine Tr.region ?_
          refine Tr.q (QS.move rfl) rfl ?_
          refine Tr.q (QS.eql rfl rfl) rfl ?_
          refine Tr.q (QS.move rfl) rfl ?_
          apply Tr.andP
          · exact (rfl : _ = (4, 75, 79))
          · exact rfl
          · intro hT65; have hT65' := hT65
            try simp only [bs] at hT65'
            refine Tr.gq rfl rfl hT65 (QS.fieldAddr (off := 0) (ft := 24) rfl Try.underlying50 rfl rfl Try.sizeOf24 (by decide)) rfl ?_
            refine Tr.gq rfl rfl hT65 (QS.lV rfl Try.isAgg24) rfl ?_
            refine Tr.gq rfl rfl hT65 (QS.eql rfl rfl) rfl ?_
            refine Tr.q (QS.pickT rfl hT65 rfl) rfl ?_
            refine Tr.nil (Tr.thenN ?_)
            exact Tr.endX (Sub.cons rfl (Sub.dropN 4 (by kernel_rfl) rfl))
          · intro hF65
            refine Tr.gskip rfl rfl hF65 rfl ?_
            refine Tr.gskip rfl rfl hF65 rfl ?_
            refine Tr.gskip rfl rfl hF65 rfl ?_
            refine Tr.q (QS.pickF rfl hF65 rfl) rfl ?_
            refine Tr.nil (Tr.thenN ?_)
            exact Tr.endX (Sub.cons rfl (Sub.dropN 4 (by kernel_rfl) rfl))
          refine Tr.q (QS.move rfl) rfl ?_
          apply Tr.andP
          · exact (rfl : _ = (4, 80, 84))
          · exact rfl
          · intro hT66; have hT66' := hT66
            try simp only [bs] at hT66'
            refine Tr.gq rfl rfl hT66 (QS.fieldAddr (off := 2) (ft := 3) rfl Try.underlying50 rfl rfl Try.sizeOf3 (by decide)) rfl ?_
            refine Tr.gq rfl rfl hT66 (QS.lV rfl Try.isAgg3) rfl ?_
            refine Tr.gq rfl rfl hT66 (QS.eql rfl rfl) rfl ?_
            refine Tr.q (QS.pickT rfl hT66 rfl) rfl ?_
            refine Tr.nil (Tr.thenN ?_)
            exact Tr.endX (Sub.cons rfl (Sub.dropN 4 (by kernel_rfl) rfl))
          · intro hF66
            refine Tr.gskip rfl rfl hF66 rfl ?_
            refine Tr.gskip rfl rfl hF66 rfl ?_
            refine Tr.gskip rfl rfl hF66 rfl ?_
            refine Tr.q (QS.pickF rfl hF66 rfl) rfl ?_
            refine Tr.nil (Tr.thenN ?_)
            exact Tr.endX (Sub.cons rfl (Sub.dropN 4 (by kernel_rfl) rfl))
          refine Tr.q (QS.move rfl) rfl ?_
          apply Tr.andP
          · exact (rfl : _ = (6, 85, 91))
          · exact rfl
          · intro hT67; have hT67' := hT67
            try simp only [bs] at hT67'
            refine Tr.gq rfl rfl hT67 (QS.fieldAddr (off := 0) (ft := 38) rfl Try.underlying42 rfl rfl Try.sizeOf38 (by decide)) rfl ?_
            refine Tr.gq rfl rfl hT67 (QS.idxArr rfl rfl Try.underlying38 Try.sizeOf22 (by omega)) rfl ?_
            refine Tr.gq rfl rfl hT67 (QS.lV rfl Try.isAgg22) rfl ?_
            refine Tr.gq rfl rfl hT67 (QS.move rfl) rfl ?_
            refine Tr.gq rfl rfl hT67 (QS.eql32 rfl rfl) rfl ?_
            refine Tr.q (QS.pickT rfl hT67 rfl) rfl ?_
            refine Tr.nil (Tr.thenN ?_)
            exact Tr.endX (Sub.cons rfl (Sub.dropN 6 (by kernel_rfl) rfl))
          · intro hF67
            refine Tr.gskip rfl rfl hF67 rfl ?_
            refine Tr.gskip rfl rfl hF67 rfl ?_
            refine Tr.gskip rfl rfl hF67 rfl ?_
            refine Tr.gskip rfl rfl hF67 rfl ?_
            refine Tr.gskip rfl rfl hF67 rfl ?_
            refine Tr.q (QS.pickF rfl hF67 rfl) rfl ?_
            refine Tr.nil (Tr.thenN ?_)
            exact Tr.endX (Sub.cons rfl (Sub.dropN 6 (by kernel_rfl) rfl))
          refine Tr.q (QS.move rfl) rfl ?_
          apply Tr.andP
          · exact (rfl : _ = (6, 92, 98))
          · exact rfl
          · intro hT68; have hT68' := hT68
            try simp only [bs] at hT68'
            refine Tr.gq rfl rfl hT68 (QS.fieldAddr (off := 0) (ft := 38) rfl Try.underlying42 rfl rfl Try.sizeOf38 (by decide)) rfl ?_
            refine Tr.gq rfl rfl hT68 (QS.idxArr rfl rfl Try.underlying38 Try.sizeOf22 (by omega)) rfl ?_
            refine Tr.gq rfl rfl hT68 (QS.lV rfl Try.isAgg22) rfl ?_
            refine Tr.gq rfl rfl hT68 (QS.move rfl) rfl ?_
            refine Tr.gq rfl rfl hT68 (QS.eql32 rfl rfl) rfl ?_
            refine Tr.q (QS.pickT rfl hT68 rfl) rfl ?_
            refine Tr.nil (Tr.thenN ?_)
            exact Tr.endX (Sub.cons rfl (Sub.dropN 6 (by kernel_rfl) rfl))
          · intro hF68
            refine Tr.gskip rfl rfl hF68 rfl ?_
            refine Tr.gskip rfl rfl hF68 rfl ?_
            refine Tr.gskip rfl rfl hF68 rfl ?_
            refine Tr.gskip rfl rfl hF68 rfl ?_
            refine Tr.gskip rfl rfl hF68 rfl ?_
            refine Tr.q (QS.pickF rfl hF68 rfl) rfl ?_
            refine Tr.nil (Tr.thenN ?_)
            exact Tr.endX (Sub.cons rfl (Sub.dropN 6 (by kernel_rfl) rfl))
          refine Tr.q (QS.move rfl) rfl ?_
          apply Tr.andP
          · exact (rfl : _ = (5, 99, 104))
          · exact rfl
          · intro hT69; have hT69' := hT69
            try simp only [bs] at hT69'
            refine Tr.gq rfl rfl hT69 (QS.fieldAddr (off := 9) (ft := 40) rfl Try.underlying42 rfl rfl Try.sizeOf40 (by decide)) rfl ?_
            refine Tr.gq rfl rfl hT69 (QS.loadVA (vs := encFlg.enc t3.m.f) rfl (by repeat (first | exact List.Mem.head _ | apply List.Mem.tail)) Try.isAgg40 Try.sizeOf40 rfl rfl) rfl ?_
            refine Tr.gq rfl rfl hT69 (QS.lW rfl Try.isAgg40 Try.sizeOf40) rfl ?_
            refine Tr.gq rfl rfl hT69 (QS.eqlE rfl rfl flgEqEnc Try.underlying40 (HLF.words40 _ Try.underlying40) rfl HLF.held40 HLF.eqg40) rfl ?_
            refine Tr.q (QS.pickT rfl hT69 rfl) rfl ?_
            refine Tr.nil (Tr.thenN ?_)
            exact Tr.endX (Sub.cons rfl (Sub.dropN 5 (by kernel_rfl) rfl))
          · intro hF69
            refine Tr.gskip rfl rfl hF69 rfl ?_
            refine Tr.gskip rfl rfl hF69 rfl ?_
            refine Tr.gskip rfl rfl hF69 rfl ?_
            refine Tr.gskip rfl rfl hF69 rfl ?_
            refine Tr.q (QS.pickF rfl hF69 rfl) rfl ?_
            refine Tr.nil (Tr.thenN ?_)
            exact Tr.endX (Sub.cons rfl (Sub.dropN 5 (by kernel_rfl) rfl))
          refine Tr.q (QS.move rfl) rfl ?_
          apply Tr.andP
          · exact (rfl : _ = (2, 105, 107))
          · exact rfl
          · intro hT70; have hT70' := hT70
            try simp only [bs] at hT70'
            refine Tr.gq rfl rfl hT70 (QS.call0 hdr3 rfl Try.call21 (fun w hw => example10_any w)) rfl ?_
            refine Tr.q (QS.pickT rfl hT70 rfl) rfl ?_
            refine Tr.nil (Tr.thenN ?_)
            exact Tr.endX (Sub.cons rfl (Sub.dropN 2 (by kernel_rfl) rfl))
          · intro hF70
            refine Tr.gskip rfl rfl hF70 rfl ?_
            refine Tr.q (QS.pickF rfl hF70 rfl) rfl ?_
            refine Tr.nil (Tr.thenN ?_)
            exact Tr.endX (Sub.cons rfl (Sub.dropN 2 (by kernel_rfl) rfl))
          refine Tr.q (QS.assign rfl) rfl ?_
          refine Tr.nil ?_
          refine Tr.thenN ?_
          refine Tr.ret ?_
          refine Tr.ret1 Try.results4 rfl (fun w' hw => ?_)
          have hA := hx3.trans hv2
          have hB := hx5.trans hvf
          refine ⟨?_, hw.below0 hF13⟩
          clear hx3 hx5 hv2 hvf hIs ht3 hm3 hn3 hw3 hx1 hn1 hw1 hO1 hC1 hk hv3
          split at hA <;> split at hB <;> (try split at hB) <;> first | (exfalso; omega) | (simp [hA, hB, hx2, hx4] <;> (first | simpa using hv1 | (simp_all)))
    · try simp only [bs] at h49
      refine Tr.skip ?_
      refine Tr.thenN ?_
      refine Tr.seq ?_
      refine Tr.seq ?_
      refine Tr.region ?_
      refine Tr.q (QS.move rfl) rfl ?_
      refine Tr.q (QS.eql rfl rfl) rfl ?_
      refine Tr.nil ?_
      refine Tr.thenN ?_
      refine Tr.cond rfl (fun h71 => ?_) (fun h71 => ?_)
      · try simp only [bs] at h71
        refine Tr.region ?_
        refine Tr.q (QS.move rfl) rfl ?_
        refine Tr.q (QS.assign rfl) rfl ?_
        refine Tr.nil ?_
        refine Tr.thenN ?_
        refine Tr.seq ?_
        refine Tr.region ?_
        refine Tr.q (QS.move rfl) rfl ?_
        refine Tr.q (QS.build (vs := [(2, _), (6, _), (3, _), (1, _)]) (cs := (encIns.enc (⟨0, m1, 5, 2, 0, 0, 1, 0, 0⟩ : Ins)).toArray) rfl rfl rfl) rfl ?_
        refine Tr.q (QS.move rfl) rfl ?_
        refine Tr.q (QS.build (vs := [(2, _), (6, _), (3, _), (1, _)]) (cs := (encIns.enc (⟨0, m2, 5, 2, 0, 0, 2, 0, 0⟩ : Ins)).toArray) rfl rfl rfl) rfl ?_
        refine Tr.q (QS.move rfl) rfl ?_
        refine Tr.q (QS.build (vs := [(2, _), (6, _), (7, _)]) (cs := (encIns.enc (⟨0, 0, 6 + ((m0 % 10).toNat : Int), 0, 0, 0, 1, 2, 0⟩ : Ins)).toArray) rfl rfl rfl) rfl ?_
        refine Tr.q (QS.build (vs := [(2, _)]) (cs := (encIns.enc (⟨0, 0, 1, 0, 0, 0, 0, 0, 0⟩ : Ins)).toArray) rfl rfl (by kernel_rfl)) rfl ?_
        refine Tr.litN (E := encIns) (ariI (6 + ((m0 % 10).toNat : Int)) m1 m2) (vs := [(0, _), (1, _), (2, _), (3, _)]) rfl rfl Try.underlying68 Try.sizeOf67 Try.zeroValue67 (by rfl) (by rfl) rfl (by first | kernel_rfl | rfl) rfl (fun V72 => ?_)
        refine Tr.callEnts (fun j : Option Addr × Nat × Value => j.2.2) (fun j => [rowE j.2.2 80 encSec [codeS (codeP (ariI (6 + ((m0 % 10).toNat : Int)) m1 m2)) j.1 j.2.1], rowE (.slice j.1 (codeP (ariI (6 + ((m0 % 10).toNat : Int)) m1 m2)).length j.2.1) 5 encU8 (codeP (ariI (6 + ((m0 % 10).toNat : Int)) m1 m2))]) (ok := fun _ => True) rfl Try.call27 (fun w hw => code_any (ariI (6 + ((m0 % 10).toNat : Int)) m1 m2) _ w (hw.row (.head _)) hIs (show (4 : Nat) ≤ 100 by omega)) rfl (fun j _ => ?_)
        obtain ⟨pa1, ca1, VS⟩ := j
        change Tr _ _ ([rowE VS 80 encSec [codeS (codeP (ariI (6 + ((m0 % 10).toNat : Int)) m1 m2)) pa1 ca1], rowE (.slice pa1 (codeP (ariI (6 + ((m0 % 10).toNat : Int)) m1 m2)).length ca1) 5 encU8 (codeP (ariI (6 + ((m0 % 10).toNat : Int)) m1 m2))] ++ _) _ _
        rw [ari_code hkk]
        refine Tr.frozen (V := VS) (.here _) (fun F1 hF1 hS1 => ?_)
        refine Tr.frozen (V := .slice pa1 ((ariB (ariE (m0 % 10).toNat) m1 m2) : List UInt8).length ca1) (.here _) (fun F2 hF2 hD1 => ?_)
        replace hS1 := hS1.mono hF2.blk
        refine Tr.callMix0 (fun j : Nat × Nat × Nat × Value × Value × WL × List RegV => .pointer (some ⟨j.1, 0, none⟩)) (fun j => [cellE j.1 (cpuC (newS 4096) j.2.1 j.2.2.2.2.1 (.slice none 0 0) .nilFunc) 47, mapE j.2.2.1 u8V j.2.2.2.2.2.1, rowE (.slice none 0 0) 22 encU32 []]) (fun j => (cellE j.2.1 [j.2.2.2.1, .map (some j.2.2.1)] 33 :: rowE j.2.2.2.1 86 encReg j.2.2.2.2.2.2 :: rowE j.2.2.2.2.1 22 encU32 [] :: regEnts 5 j.2.2.2.2.2.2)) (ok := fun j => (mread j.2.2.2.2.2.1 = (newS 4096).w ∧ j.2.2.2.2.2.1.length ≤ 4) ∧ MemOK [codeS (ariB (ariE (m0 % 10).toNat) m1 m2) pa1 ca1] j.2.2.2.2.2.2) ((hF1.trans hF2).dr) rfl Try.call26 (fun w hw => boot_ok [codeS (ariB (ariE (m0 % 10).toNat) m1 m2) pa1 ca1] _ 4096 [] _ w (hw.slF hS1) ⟨by simp, by simp [codeS]; exact (show (15 : Nat) ≤ 200000 by omega)⟩ (by simp [codeS]; decide) (fun s hs => by simp only [List.mem_singleton] at hs; subst hs; exact hw.slF hD1) (Sl.nil _ _) (Nat.zero_le _) (ari_chk _ _ _ _ _)) rfl (fun j F3 hj hF3 hk => ?_)
        obtain ⟨bc1, bM1, bm1, VR1, vi1, wl1, rs1⟩ := j
        have hC1 : CpuAt F3.blk bM1 bm1 VR1 vi1 rs1 [] := cpuAt_of hk
        obtain ⟨⟨hw1, hn1⟩, hO1⟩ := hj
        replace hO1 : MemOK [codeS (ariB (ariE (m0 % 10).toNat) m1 m2) pa1 ca1] rs1 := hO1
        change Tr _ _ ([cellE bc1 (cpuC (newS 4096) bM1 vi1 (.slice none 0 0) .nilFunc) 47, mapE bm1 u8V wl1, rowE (.slice none 0 0) 22 encU32 (newS 4096).out] ++ _) _ _
        have hF13 := hF1.trans (hF2.trans hF3)
        have hdr3 : F3.dr = 0 := hF13.dr
        refine Tr.q (QS.assign rfl) rfl ?_
        refine Tr.nil ?_
        refine Tr.thenN ?_
        refine Tr.seq ?_
        refine Tr.seq ?_
        refine Tr.region ?_
        refine Tr.q (QS.move rfl) rfl ?_
        refine Tr.q (QS.eqlPN rfl rfl Try.underlying27 rfl) rfl ?_
        refine Tr.nil ?_
        refine Tr.thenN ?_
        refine Tr.cond rfl (fun h73 => ?_) (fun h73 => ?_)
        · try simp only [bs] at h73
          first | contradiction | (exfalso; omega) | simp_all
        · try simp only [bs] at h73
          refine Tr.skip ?_
          refine Tr.thenN ?_
          refine Tr.seq ?_
          refine Tr.region ?_
          refine Tr.q (QS.move rfl) rfl ?_
          refine Tr.callO (fun j : WL × Value × Value × Value × Value => .agg #[.int .i64 (errR (runS [codeS (ariB (ariE (m0 % 10).toNat) m1 m2) pa1 ca1] [] (min (10 : Int) 65536).toNat (newS 4096))), j.2.2.2.2, .int .i64 ((traceS [codeS (ariB (ariE (m0 % 10).toNat) m1 m2) pa1 ca1] [] (min (10 : Int) 65536).toNat (newS 4096)).length : Nat)]) [cellE bc1 (cpuC (newS 4096) bM1 vi1 (.slice none 0 0) .nilFunc) 47, mapE bm1 u8V wl1, rowE (.slice none 0 0) 22 encU32 (newS 4096).out] (fun j => [cellE bc1 (cpuC (runS [codeS (ariB (ariE (m0 % 10).toNat) m1 m2) pa1 ca1] [] (min (10 : Int) 65536).toNat (newS 4096)) bM1 vi1 j.2.1 j.2.2.1) 47, mapE bm1 u8V j.1, rowE j.2.1 22 encU32 (runS [codeS (ariB (ariE (m0 % 10).toNat) m1 m2) pa1 ca1] [] (min (10 : Int) 65536).toNat (newS 4096)).out, rowE j.2.2.2.2 22 encU32 (runS [codeS (ariB (ariE (m0 % 10).toNat) m1 m2) pa1 ca1] [] (min (10 : Int) 65536).toNat (newS 4096)).out]) (ok := fun j => mread j.1 = (runS [codeS (ariB (ariE (m0 % 10).toNat) m1 m2) pa1 ca1] [] (min (10 : Int) 65536).toNat (newS 4096)).w ∧ j.1.length ≤ wl1.length + 4 * (traceS [codeS (ariB (ariE (m0 % 10).toNat) m1 m2) pa1 ca1] [] (min (10 : Int) 65536).toNat (newS 4096)).length ∧ ∃ a n c, j.2.1 = .slice a n c) (dd := fun _ => 0) rfl Try.call17 (by repeat' (first | exact Split.nil _ | exact Del.here _ | apply Split.cons | apply Del.there)) (fun w hw => Nat.le_of_eq (hdr3)) (fun w hw => run_cpu (newS 4096) bc1 bM1 bm1 VR1 vi1 (.slice none 0 0) .nilFunc rs1 [codeS (ariB (ariE (m0 % 10).toNat) m1 m2) pa1 ca1] wl1 [] (10 : Int) w (hw.own (by repeat' (first | exact Split.nil _ | exact Del.here _ | apply Split.cons | apply Del.there))) (hC1.mono (hw.lessB (Lo := [cellE bc1 (cpuC (newS 4096) bM1 vi1 (.slice none 0 0) .nilFunc) 47, mapE bm1 u8V wl1, rowE (.slice none 0 0) 22 encU32 (newS 4096).out]) (by repeat' (first | exact Split.nil _ | exact Del.here _ | apply Split.cons | apply Del.there)))) hO1 hw1 ⟨_, _, _, rfl⟩ (by show (0 : Nat) ≤ 4096; omega)) rfl (fun j hj => ?_)
          obtain ⟨wl3, vo3, ef3, vt3, vq3⟩ := j
          obtain ⟨hw3, hn3, hv3⟩ := hj
          change Tr _ _ (cellE bc1 (cpuC (runS [codeS (ariB (ariE (m0 % 10).toNat) m1 m2) pa1 ca1] [] (min (10 : Int) 65536).toNat (newS 4096)) bM1 vi1 vo3 ef3) 47 :: mapE bm1 u8V wl3 :: rowE vo3 22 encU32 (runS [codeS (ariB (ariE (m0 % 10).toNat) m1 m2) pa1 ca1] [] (min (10 : Int) 65536).toNat (newS 4096)).out :: rowE vq3 22 encU32 (runS [codeS (ariB (ariE (m0 % 10).toNat) m1 m2) pa1 ca1] [] (min (10 : Int) 65536).toNat (newS 4096)).out :: _) _ _
          obtain ⟨n3, hm3⟩ : ∃ n, n = (traceS [codeS (ariB (ariE (m0 % 10).toNat) m1 m2) pa1 ca1] [] (min (10 : Int) 65536).toNat (newS 4096)).length := ⟨_, rfl⟩
          rw [← hm3] at hn3 ⊢
          obtain ⟨t3, ht3⟩ : ∃ t, t = (runS [codeS (ariB (ariE (m0 % 10).toNat) m1 m2) pa1 ca1] [] (min (10 : Int) 65536).toNat (newS 4096)) := ⟨_, rfl⟩
          rw [← ht3] at hw3 ⊢
          refine Tr.rowShape (V := vq3) (by repeat (first | exact List.Mem.head _ | apply List.Mem.tail)) (fun pq3 cq3 hpv => ?_)
          subst hpv
          obtain ⟨hx1, hx2, hx3, hx4, hx5⟩ := ari_facts hkk ht3 hm3
          rw [hx1]
          refine Tr.alloc Try.zeroValue50 rfl rfl (fun b74 => ?_)
          refine Tr.storeW rfl rfl Try.sizeOf50 (by repeat (first | exact Put.here _ | apply Put.there)) (by rfl) (by rfl) (by first | exact List.all_eq_true.1 rfl | exact Enc.one _ _ | (intro u hu; simp [Value.cells] at hu; simp_all [Value.oneCell'])) rfl ?_
          refine Tr.nil ?_
          refine Tr.thenN ?_
          refine Tr.seq ?_
          refine Tr.region ?_
          refine Tr.q (QS.move rfl) rfl ?_
          refine Tr.q (QS.call rfl Try.call13 (fun w hw => state_cpu t3 bc1 bM1 vi1 vo3 ef3 w (cellE.cellsIn (hw.ent _ (by repeat (first | exact List.Mem.head _ | apply List.Mem.tail))) (Ext.refl _)))) rfl ?_
          refine Tr.alloc Try.zeroValue42 rfl rfl (fun b75 => ?_)
          refine Tr.storeW rfl rfl Try.sizeOf42 (by repeat (first | exact Put.here _ | apply Put.there)) (by rfl) (by rfl) (by first | exact List.all_eq_true.1 rfl | exact Enc.one _ _ | exact Enc.one encMach _) rfl ?_
          refine Tr.nil ?_
          refine Tr.thenN ?_
          refine Tr.seq ?_
          refine Tr.region ?_
          refine Tr.q (QS.move rfl) rfl ?_
          refine Tr.q (QS.eql rfl rfl) rfl ?_
          refine Tr.q (QS.move rfl) rfl ?_
          apply Tr.andP
          · exact (rfl : _ = (4, 75, 79))
          · exact rfl
          · intro hT76; have hT76' := hT76
            try simp only [bs] at hT76'
            refine Tr.gq rfl rfl hT76 (QS.fieldAddr (off := 0) (ft := 24) rfl Try.underlying50 rfl rfl Try.sizeOf24 (by decide)) rfl ?_
            refine Tr.gq rfl rfl hT76 (QS.lV rfl Try.isAgg24) rfl ?_
            refine Tr.gq rfl rfl hT76 (QS.eql rfl rfl) rfl ?_
            refine Tr.q (QS.pickT rfl hT76 rfl) rfl ?_
            refine Tr.nil (Tr.thenN ?_)
            exact Tr.endX (Sub.cons rfl (Sub.dropN 4 (by kernel_rfl) rfl))
          · intro hF76
            refine Tr.gskip rfl rfl hF76 rfl ?_
            refine Tr.gskip rfl rfl hF76 rfl ?_
            refine Tr.gskip rfl rfl hF76 rfl ?_
            refine Tr.q (QS.pickF rfl hF76 rfl) rfl ?_
            refine Tr.nil (Tr.thenN ?_)
            exact Tr.endX (Sub.cons rfl (Sub.dropN 4 (by kernel_rfl) rfl))
          refine Tr.q (QS.move rfl) rfl ?_
          apply Tr.andP
          · exact (rfl : _ = (4, 80, 84))
          · exact rfl
          · intro hT77; have hT77' := hT77
            try simp only [bs] at hT77'
            refine Tr.gq rfl rfl hT77 (QS.fieldAddr (off := 2) (ft := 3) rfl Try.underlying50 rfl rfl Try.sizeOf3 (by decide)) rfl ?_
            refine Tr.gq rfl rfl hT77 (QS.lV rfl Try.isAgg3) rfl ?_
            refine Tr.gq rfl rfl hT77 (QS.eql rfl rfl) rfl ?_
            refine Tr.q (QS.pickT rfl hT77 rfl) rfl ?_
            refine Tr.nil (Tr.thenN ?_)
            exact Tr.endX (Sub.cons rfl (Sub.dropN 4 (by kernel_rfl) rfl))
          · intro hF77
            refine Tr.gskip rfl rfl hF77 rfl ?_
            refine Tr.gskip rfl rfl hF77 rfl ?_
            refine Tr.gskip rfl rfl hF77 rfl ?_
            refine Tr.q (QS.pickF rfl hF77 rfl) rfl ?_
            refine Tr.nil (Tr.thenN ?_)
            exact Tr.endX (Sub.cons rfl (Sub.dropN 4 (by kernel_rfl) rfl))
          refine Tr.q (QS.move rfl) rfl ?_
          apply Tr.andP
          · exact (rfl : _ = (6, 85, 91))
          · exact rfl
          · intro hT78; have hT78' := hT78
            try simp only [bs] at hT78'
            refine Tr.gq rfl rfl hT78 (QS.fieldAddr (off := 0) (ft := 38) rfl Try.underlying42 rfl rfl Try.sizeOf38 (by decide)) rfl ?_
            refine Tr.gq rfl rfl hT78 (QS.idxArr rfl rfl Try.underlying38 Try.sizeOf22 (by omega)) rfl ?_
            refine Tr.gq rfl rfl hT78 (QS.lV rfl Try.isAgg22) rfl ?_
            refine Tr.gq rfl rfl hT78 (QS.move rfl) rfl ?_
            refine Tr.gq rfl rfl hT78 (QS.eql32 rfl rfl) rfl ?_
            refine Tr.q (QS.pickT rfl hT78 rfl) rfl ?_
            refine Tr.nil (Tr.thenN ?_)
            exact Tr.endX (Sub.cons rfl (Sub.dropN 6 (by kernel_rfl) rfl))
          · intro hF78
            refine Tr.gskip rfl rfl hF78 rfl ?_
            refine Tr.gskip rfl rfl hF78 rfl ?_
            refine Tr.gskip rfl rfl hF78 rfl ?_
            refine Tr.gskip rfl rfl hF78 rfl ?_
            refine Tr.gskip rfl rfl hF78 rfl ?_
            refine Tr.q (QS.pickF rfl hF78 rfl) rfl ?_
            refine Tr.nil (Tr.thenN ?_)
            exact Tr.endX (Sub.cons rfl (Sub.dropN 6 (by kernel_rfl) rfl))
          refine Tr.q (QS.move rfl) rfl ?_
          apply Tr.andP
          · exact (rfl : _ = (6, 92, 98))
          · exact rfl
          · intro hT79; have hT79' := hT79
            try simp only [bs] at hT79'
            refine Tr.gq rfl rfl hT79 (QS.fieldAddr (off := 0) (ft := 38) rfl Try.underlying42 rfl rfl Try.sizeOf38 (by decide)) rfl ?_
            refine Tr.gq rfl rfl hT79 (QS.idxArr rfl rfl Try.underlying38 Try.sizeOf22 (by omega)) rfl ?_
            refine Tr.gq rfl rfl hT79 (QS.lV rfl Try.isAgg22) rfl ?_
            refine Tr.gq rfl rfl hT79 (QS.move rfl) rfl ?_
            refine Tr.gq rfl rfl hT79 (QS.eql32 rfl rfl) rfl ?_
            refine Tr.q (QS.pickT rfl hT79 rfl) rfl ?_
            refine Tr.nil (Tr.thenN ?_)
            exact Tr.endX (Sub.cons rfl (Sub.dropN 6 (by kernel_rfl) rfl))
          · intro hF79
            refine Tr.gskip rfl rfl hF79 rfl ?_
            refine Tr.gskip rfl rfl hF79 rfl ?_
            refine Tr.gskip rfl rfl hF79 rfl ?_
            refine Tr.gskip rfl rfl hF79 rfl ?_
            refine Tr.gskip rfl rfl hF79 rfl ?_
            refine Tr.q (QS.pickF rfl hF79 rfl) rfl ?_
            refine Tr.nil (Tr.thenN ?_)
            exact Tr.endX (Sub.cons rfl (Sub.dropN 6 (by kernel_rfl) rfl))
          refine Tr.q (QS.move rfl) rfl ?_
          apply Tr.andP
          · exact (rfl : _ = (5, 99, 104))
          · exact rfl
          · intro hT80; have hT80' := hT80
            try simp only [bs] at hT80'
            refine Tr.gq rfl rfl hT80 (QS.fieldAddr (off := 9) (ft := 40) rfl Try.underlying42 rfl rfl Try.sizeOf40 (by decide)) rfl ?_
            refine Tr.gq rfl rfl hT80 (QS.loadVA (vs := encFlg.enc t3.m.f) rfl (by repeat (first | exact List.Mem.head _ | apply List.Mem.tail)) Try.isAgg40 Try.sizeOf40 rfl rfl) rfl ?_
            refine Tr.gq rfl rfl hT80 (QS.lW rfl Try.isAgg40 Try.sizeOf40) rfl ?_
            refine Tr.gq rfl rfl hT80 (QS.eqlE rfl rfl flgEqEnc Try.underlying40 (HLF.words40 _ Try.underlying40) rfl HLF.held40 HLF.eqg40) rfl ?_
            refine Tr.q (QS.pickT rfl hT80 rfl) rfl ?_
            refine Tr.nil (Tr.thenN ?_)
            exact Tr.endX (Sub.cons rfl (Sub.dropN 5 (by kernel_rfl) rfl))
          · intro hF80
            refine Tr.gskip rfl rfl hF80 rfl ?_
            refine Tr.gskip rfl rfl hF80 rfl ?_
            refine Tr.gskip rfl rfl hF80 rfl ?_
            refine Tr.gskip rfl rfl hF80 rfl ?_
            refine Tr.q (QS.pickF rfl hF80 rfl) rfl ?_
            refine Tr.nil (Tr.thenN ?_)
            exact Tr.endX (Sub.cons rfl (Sub.dropN 5 (by kernel_rfl) rfl))
          refine Tr.q (QS.move rfl) rfl ?_
          apply Tr.andP
          · exact (rfl : _ = (2, 105, 107))
          · exact rfl
          · intro hT81; have hT81' := hT81
            try simp only [bs] at hT81'
            refine Tr.gq rfl rfl hT81 (QS.call0 hdr3 rfl Try.call21 (fun w hw => example10_any w)) rfl ?_
            refine Tr.q (QS.pickT rfl hT81 rfl) rfl ?_
            refine Tr.nil (Tr.thenN ?_)
            exact Tr.endX (Sub.cons rfl (Sub.dropN 2 (by kernel_rfl) rfl))
          · intro hF81
            refine Tr.gskip rfl rfl hF81 rfl ?_
            refine Tr.q (QS.pickF rfl hF81 rfl) rfl ?_
            refine Tr.nil (Tr.thenN ?_)
            exact Tr.endX (Sub.cons rfl (Sub.dropN 2 (by kernel_rfl) rfl))
          refine Tr.q (QS.assign rfl) rfl ?_
          refine Tr.nil ?_
          refine Tr.thenN ?_
          refine Tr.ret ?_
          refine Tr.ret1 Try.results4 rfl (fun w' hw => ?_)
          have hA := hx3.trans hv2
          have hB := hx5.trans hvf
          refine ⟨?_, hw.below0 hF13⟩
          clear hx3 hx5 hv2 hvf hIs ht3 hm3 hn3 hw3 hx1 hn1 hw1 hO1 hC1 hk hv3
          split at hA <;> split at hB <;> (try split at hB) <;> first | (exfalso; omega) | (simp [hA, hB, hx2, hx4] <;> (first | simpa using hv1 | (simp_all)))
      · try simp only [bs] at h71
        refine Tr.skip ?_
        refine Tr.thenN ?_
        refine Tr.seq ?_
        refine Tr.region ?_
        refine Tr.q (QS.move rfl) rfl ?_
        refine Tr.q (QS.build (vs := [(2, _), (6, _), (3, _), (1, _)]) (cs := (encIns.enc (⟨0, m1, 5, 2, 0, 0, 1, 0, 0⟩ : Ins)).toArray) rfl rfl rfl) rfl ?_
        refine Tr.q (QS.move rfl) rfl ?_
        refine Tr.q (QS.build (vs := [(2, _), (6, _), (3, _), (1, _)]) (cs := (encIns.enc (⟨0, m2, 5, 2, 0, 0, 2, 0, 0⟩ : Ins)).toArray) rfl rfl rfl) rfl ?_
        refine Tr.q (QS.move rfl) rfl ?_
        refine Tr.q (QS.build (vs := [(2, _), (6, _), (7, _)]) (cs := (encIns.enc (⟨0, 0, 6 + ((m0 % 10).toNat : Int), 0, 0, 0, 1, 2, 0⟩ : Ins)).toArray) rfl rfl rfl) rfl ?_
        refine Tr.q (QS.build (vs := [(2, _)]) (cs := (encIns.enc (⟨0, 0, 1, 0, 0, 0, 0, 0, 0⟩ : Ins)).toArray) rfl rfl (by kernel_rfl)) rfl ?_
        refine Tr.litN (E := encIns) (ariI (6 + ((m0 % 10).toNat : Int)) m1 m2) (vs := [(0, _), (1, _), (2, _), (3, _)]) rfl rfl Try.underlying68 Try.sizeOf67 Try.zeroValue67 (by rfl) (by rfl) rfl (by first | kernel_rfl | rfl) rfl (fun V82 => ?_)
        refine Tr.callEnts (fun j : Option Addr × Nat × Value => j.2.2) (fun j => [rowE j.2.2 80 encSec [codeS (codeP (ariI (6 + ((m0 % 10).toNat : Int)) m1 m2)) j.1 j.2.1], rowE (.slice j.1 (codeP (ariI (6 + ((m0 % 10).toNat : Int)) m1 m2)).length j.2.1) 5 encU8 (codeP (ariI (6 + ((m0 % 10).toNat : Int)) m1 m2))]) (ok := fun _ => True) rfl Try.call27 (fun w hw => code_any (ariI (6 + ((m0 % 10).toNat : Int)) m1 m2) _ w (hw.row (.head _)) hIs (show (4 : Nat) ≤ 100 by omega)) rfl (fun j _ => ?_)
        obtain ⟨pa1, ca1, VS⟩ := j
        change Tr _ _ ([rowE VS 80 encSec [codeS (codeP (ariI (6 + ((m0 % 10).toNat : Int)) m1 m2)) pa1 ca1], rowE (.slice pa1 (codeP (ariI (6 + ((m0 % 10).toNat : Int)) m1 m2)).length ca1) 5 encU8 (codeP (ariI (6 + ((m0 % 10).toNat : Int)) m1 m2))] ++ _) _ _
        rw [ari_code hkk]
        refine Tr.frozen (V := VS) (.here _) (fun F1 hF1 hS1 => ?_)
        refine Tr.frozen (V := .slice pa1 ((ariB (ariE (m0 % 10).toNat) m1 m2) : List UInt8).length ca1) (.here _) (fun F2 hF2 hD1 => ?_)
        replace hS1 := hS1.mono hF2.blk
        refine Tr.callMix0 (fun j : Nat × Nat × Nat × Value × Value × WL × List RegV => .pointer (some ⟨j.1, 0, none⟩)) (fun j => [cellE j.1 (cpuC (newS 4096) j.2.1 j.2.2.2.2.1 (.slice none 0 0) .nilFunc) 47, mapE j.2.2.1 u8V j.2.2.2.2.2.1, rowE (.slice none 0 0) 22 encU32 []]) (fun j => (cellE j.2.1 [j.2.2.2.1, .map (some j.2.2.1)] 33 :: rowE j.2.2.2.1 86 encReg j.2.2.2.2.2.2 :: rowE j.2.2.2.2.1 22 encU32 [] :: regEnts 5 j.2.2.2.2.2.2)) (ok := fun j => (mread j.2.2.2.2.2.1 = (newS 4096).w ∧ j.2.2.2.2.2.1.length ≤ 4) ∧ MemOK [codeS (ariB (ariE (m0 % 10).toNat) m1 m2) pa1 ca1] j.2.2.2.2.2.2) ((hF1.trans hF2).dr) rfl Try.call26 (fun w hw => boot_ok [codeS (ariB (ariE (m0 % 10).toNat) m1 m2) pa1 ca1] _ 4096 [] _ w (hw.slF hS1) ⟨by simp, by simp [codeS]; exact (show (15 : Nat) ≤ 200000 by omega)⟩ (by simp [codeS]; decide) (fun s hs => by simp only [List.mem_singleton] at hs; subst hs; exact hw.slF hD1) (Sl.nil _ _) (Nat.zero_le _) (ari_chk _ _ _ _ _)) rfl (fun j F3 hj hF3 hk => ?_)
        obtain ⟨bc1, bM1, bm1, VR1, vi1, wl1, rs1⟩ := j
        have hC1 : CpuAt F3.blk bM1 bm1 VR1 vi1 rs1 [] := cpuAt_of hk
        obtain ⟨⟨hw1, hn1⟩, hO1⟩ := hj
        replace hO1 : MemOK [codeS (ariB (ariE (m0 % 10).toNat) m1 m2) pa1 ca1] rs1 := hO1
        change Tr _ _ ([cellE bc1 (cpuC (newS 4096) bM1 vi1 (.slice none 0 0) .nilFunc) 47, mapE bm1 u8V wl1, rowE (.slice none 0 0) 22 encU32 (newS 4096).out] ++ _) _ _
        have hF13 := hF1.trans (hF2.trans hF3)
        have hdr3 : F3.dr = 0 := hF13.dr
        refine Tr.q (QS.assign rfl) rfl ?_
        refine Tr.nil ?_
        refine Tr.thenN ?_
        refine Tr.seq ?_
        refine Tr.seq ?_
        refine Tr.region ?_
        refine Tr.q (QS.move rfl) rfl ?_
        refine Tr.q (QS.eqlPN rfl rfl Try.underlying27 rfl) rfl ?_
        refine Tr.nil ?_
        refine Tr.thenN ?_
        refine Tr.cond rfl (fun h83 => ?_) (fun h83 => ?_)
        · try simp only [bs] at h83
          first | contradiction | (exfalso; omega) | simp_all
        · try simp only [bs] at h83
          refine Tr.skip ?_
          refine Tr.thenN ?_
          refine Tr.seq ?_
          refine Tr.region ?_
          refine Tr.q (QS.move rfl) rfl ?_
          refine Tr.callO (fun j : WL × Value × Value × Value × Value => .agg #[.int .i64 (errR (runS [codeS (ariB (ariE (m0 % 10).toNat) m1 m2) pa1 ca1] [] (min (10 : Int) 65536).toNat (newS 4096))), j.2.2.2.2, .int .i64 ((traceS [codeS (ariB (ariE (m0 % 10).toNat) m1 m2) pa1 ca1] [] (min (10 : Int) 65536).toNat (newS 4096)).length : Nat)]) [cellE bc1 (cpuC (newS 4096) bM1 vi1 (.slice none 0 0) .nilFunc) 47, mapE bm1 u8V wl1, rowE (.slice none 0 0) 22 encU32 (newS 4096).out] (fun j => [cellE bc1 (cpuC (runS [codeS (ariB (ariE (m0 % 10).toNat) m1 m2) pa1 ca1] [] (min (10 : Int) 65536).toNat (newS 4096)) bM1 vi1 j.2.1 j.2.2.1) 47, mapE bm1 u8V j.1, rowE j.2.1 22 encU32 (runS [codeS (ariB (ariE (m0 % 10).toNat) m1 m2) pa1 ca1] [] (min (10 : Int) 65536).toNat (newS 4096)).out, rowE j.2.2.2.2 22 encU32 (runS [codeS (ariB (ariE (m0 % 10).toNat) m1 m2) pa1 ca1] [] (min (10 : Int) 65536).toNat (newS 4096)).out]) (ok := fun j => mread j.1 = (runS [codeS (ariB (ariE (m0 % 10).toNat) m1 m2) pa1 ca1] [] (min (10 : Int) 65536).toNat (newS 4096)).w ∧ j.1.length ≤ wl1.length + 4 * (traceS [codeS (ariB (ariE (m0 % 10).toNat) m1 m2) pa1 ca1] [] (min (10 : Int) 65536).toNat (newS 4096)).length ∧ ∃ a n c, j.2.1 = .slice a n c) (dd := fun _ => 0) rfl Try.call17 (by repeat' (first | exact Split.nil _ | exact Del.here _ | apply Split.cons | apply Del.there)) (fun w hw => Nat.le_of_eq (hdr3)) (fun w hw => run_cpu (newS 4096) bc1 bM1 bm1 VR1 vi1 (.slice none 0 0) .nilFunc rs1 [codeS (ariB (ariE (m0 % 10).toNat) m1 m2) pa1 ca1] wl1 [] (10 : Int) w (hw.own (by repeat' (first | exact Split.nil _ | exact Del.here _ | apply Split.cons | apply Del.there))) (hC1.mono (hw.lessB (Lo := [cellE bc1 (cpuC (newS 4096) bM1 vi1 (.slice none 0 0) .nilFunc) 47, mapE bm1 u8V wl1, rowE (.slice none 0 0) 22 encU32 (newS 4096).out]) (by repeat' (first | exact Split.nil _ | exact Del.here _ | apply Split.cons | apply Del.there)))) hO1 hw1 ⟨_, _, _, rfl⟩ (by show (0 : Nat) ≤ 4096; omega)) rfl (fun j hj => ?_)
          obtain ⟨wl3, vo3, ef3, vt3, vq3⟩ := j
          obtain ⟨hw3, hn3, hv3⟩ := hj
          change Tr _ _ (cellE bc1 (cpuC (runS [codeS (ariB (ariE (m0 % 10).toNat) m1 m2) pa1 ca1] [] (min (10 : Int) 65536).toNat (newS 4096)) bM1 vi1 vo3 ef3) 47 :: mapE bm1 u8V wl3 :: rowE vo3 22 encU32 (runS [codeS (ariB (ariE (m0 % 10).toNat) m1 m2) pa1 ca1] [] (min (10 : Int) 65536).toNat (newS 4096)).out :: rowE vq3 22 encU32 (runS [codeS (ariB (ariE (m0 % 10).toNat) m1 m2) pa1 ca1] [] (min (10 : Int) 65536).toNat (newS 4096)).out :: _) _ _
          obtain ⟨n3, hm3⟩ : ∃ n, n = (traceS [codeS (ariB (ariE (m0 % 10).toNat) m1 m2) pa1 ca1] [] (min (10 : Int) 65536).toNat (newS 4096)).length := ⟨_, rfl⟩
          rw [← hm3] at hn3 ⊢
          obtain ⟨t3, ht3⟩ : ∃ t, t = (runS [codeS (ariB (ariE (m0 % 10).toNat) m1 m2) pa1 ca1] [] (min (10 : Int) 65536).toNat (newS 4096)) := ⟨_, rfl⟩
          rw [← ht3] at hw3 ⊢
          refine Tr.rowShape (V := vq3) (by repeat (first | exact List.Mem.head _ | apply List.Mem.tail)) (fun pq3 cq3 hpv => ?_)
          subst hpv
          obtain ⟨hx1, hx2, hx3, hx4, hx5⟩ := ari_facts hkk ht3 hm3
          rw [hx1]
          refine Tr.alloc Try.zeroValue50 rfl rfl (fun b84 => ?_)
          refine Tr.storeW rfl rfl Try.sizeOf50 (by repeat (first | exact Put.here _ | apply Put.there)) (by rfl) (by rfl) (by first | exact List.all_eq_true.1 rfl | exact Enc.one _ _ | (intro u hu; simp [Value.cells] at hu; simp_all [Value.oneCell'])) rfl ?_
          refine Tr.nil ?_
          refine Tr.thenN ?_
          refine Tr.seq ?_
          refine Tr.region ?_
          refine Tr.q (QS.move rfl) rfl ?_
          refine Tr.q (QS.call rfl Try.call13 (fun w hw => state_cpu t3 bc1 bM1 vi1 vo3 ef3 w (cellE.cellsIn (hw.ent _ (by repeat (first | exact List.Mem.head _ | apply List.Mem.tail))) (Ext.refl _)))) rfl ?_
          refine Tr.alloc Try.zeroValue42 rfl rfl (fun b85 => ?_)
          refine Tr.storeW rfl rfl Try.sizeOf42 (by repeat (first | exact Put.here _ | apply Put.there)) (by rfl) (by rfl) (by first | exact List.all_eq_true.1 rfl | exact Enc.one _ _ | exact Enc.one encMach _) rfl ?_
          refine Tr.nil ?_
          refine Tr.thenN ?_
          refine Tr.seq ?_
          refine Tr.region ?_
          refine Tr.q (QS.move rfl) rfl ?_
          refine Tr.q (QS.eql rfl rfl) rfl ?_
          refine Tr.q (QS.move rfl) rfl ?_
          apply Tr.andP
          · exact (rfl : _ = (4, 75, 79))
          · exact rfl
          · intro hT86; have hT86' := hT86
            try simp only [bs] at hT86'
            refine Tr.gq rfl rfl hT86 (QS.fieldAddr (off := 0) (ft := 24) rfl Try.underlying50 rfl rfl Try.sizeOf24 (by decide)) rfl ?_
            refine Tr.gq rfl rfl hT86 (QS.lV rfl Try.isAgg24) rfl ?_
            refine Tr.gq rfl rfl hT86 (QS.eql rfl rfl) rfl ?_
            refine Tr.q (QS.pickT rfl hT86 rfl) rfl ?_
            refine Tr.nil (Tr.thenN ?_)
            exact Tr.endX (Sub.cons rfl (Sub.dropN 4 (by kernel_rfl) rfl))
          · intro hF86
            refine Tr.gskip rfl rfl hF86 rfl ?_
            refine Tr.gskip rfl rfl hF86 rfl ?_
            refine Tr.gskip rfl rfl hF86 rfl ?_
            refine Tr.q (QS.pickF rfl hF86 rfl) rfl ?_
            refine Tr.nil (Tr.thenN ?_)
            exact Tr.endX (Sub.cons rfl (Sub.dropN 4 (by kernel_rfl) rfl))
          refine Tr.q (QS.move rfl) rfl ?_
          apply Tr.andP
          · exact (rfl : _ = (4, 80, 84))
          · exact rfl
          · intro hT87; have hT87' := hT87
            try simp only [bs] at hT87'
            refine Tr.gq rfl rfl hT87 (QS.fieldAddr (off := 2) (ft := 3) rfl Try.underlying50 rfl rfl Try.sizeOf3 (by decide)) rfl ?_
            refine Tr.gq rfl rfl hT87 (QS.lV rfl Try.isAgg3) rfl ?_
            refine Tr.gq rfl rfl hT87 (QS.eql rfl rfl) rfl ?_
            refine Tr.q (QS.pickT rfl hT87 rfl) rfl ?_
            refine Tr.nil (Tr.thenN ?_)
            exact Tr.endX (Sub.cons rfl (Sub.dropN 4 (by kernel_rfl) rfl))
          · intro hF87
            refine Tr.gskip rfl rfl hF87 rfl ?_
            refine Tr.gskip rfl rfl hF87 rfl ?_
            refine Tr.gskip rfl rfl hF87 rfl ?_
            refine Tr.q (QS.pickF rfl hF87 rfl) rfl ?_
            refine Tr.nil (Tr.thenN ?_)
            exact Tr.endX (Sub.cons rfl (Sub.dropN 4 (by kernel_rfl) rfl))
          refine Tr.q (QS.move rfl) rfl ?_
          apply Tr.andP
          · exact (rfl : _ = (6, 85, 91))
          · exact rfl
          · intro hT88; have hT88' := hT88
            try simp only [bs] at hT88'
            refine Tr.gq rfl rfl hT88 (QS.fieldAddr (off := 0) (ft := 38) rfl Try.underlying42 rfl rfl Try.sizeOf38 (by decide)) rfl ?_
            refine Tr.gq rfl rfl hT88 (QS.idxArr rfl rfl Try.underlying38 Try.sizeOf22 (by omega)) rfl ?_
            refine Tr.gq rfl rfl hT88 (QS.lV rfl Try.isAgg22) rfl ?_
            refine Tr.gq rfl rfl hT88 (QS.move rfl) rfl ?_
            refine Tr.gq rfl rfl hT88 (QS.eql32 rfl rfl) rfl ?_
            refine Tr.q (QS.pickT rfl hT88 rfl) rfl ?_
            refine Tr.nil (Tr.thenN ?_)
            exact Tr.endX (Sub.cons rfl (Sub.dropN 6 (by kernel_rfl) rfl))
          · intro hF88
            refine Tr.gskip rfl rfl hF88 rfl ?_
            refine Tr.gskip rfl rfl hF88 rfl ?_
            refine Tr.gskip rfl rfl hF88 rfl ?_
            refine Tr.gskip rfl rfl hF88 rfl ?_
            refine Tr.gskip rfl rfl hF88 rfl ?_
            refine Tr.q (QS.pickF rfl hF88 rfl) rfl ?_
            refine Tr.nil (Tr.thenN ?_)
            exact Tr.endX (Sub.cons rfl (Sub.dropN 6 (by kernel_rfl) rfl))
          refine Tr.q (QS.move rfl) rfl ?_
          apply Tr.andP
          · exact (rfl : _ = (6, 92, 98))
          · exact rfl
          · intro hT89; have hT89' := hT89
            try simp only [bs] at hT89'
            refine Tr.gq rfl rfl hT89 (QS.fieldAddr (off := 0) (ft := 38) rfl Try.underlying42 rfl rfl Try.sizeOf38 (by decide)) rfl ?_
            refine Tr.gq rfl rfl hT89 (QS.idxArr rfl rfl Try.underlying38 Try.sizeOf22 (by omega)) rfl ?_
            refine Tr.gq rfl rfl hT89 (QS.lV rfl Try.isAgg22) rfl ?_
            refine Tr.gq rfl rfl hT89 (QS.move rfl) rfl ?_
            refine Tr.gq rfl rfl hT89 (QS.eql32 rfl rfl) rfl ?_
            refine Tr.q (QS.pickT rfl hT89 rfl) rfl ?_
            refine Tr.nil (Tr.thenN ?_)
            exact Tr.endX (Sub.cons rfl (Sub.dropN 6 (by kernel_rfl) rfl))
          · intro hF89
            refine Tr.gskip rfl rfl hF89 rfl ?_
            refine Tr.gskip rfl rfl hF89 rfl ?_
            refine Tr.gskip rfl rfl hF89 rfl ?_
            refine Tr.gskip rfl rfl hF89 rfl ?_
            refine Tr.gskip rfl rfl hF89 rfl ?_
            refine Tr.q (QS.pickF rfl hF89 rfl) rfl ?_
            refine Tr.nil (Tr.thenN ?_)
            exact Tr.endX (Sub.cons rfl (Sub.dropN 6 (by kernel_rfl) rfl))
          refine Tr.q (QS.move rfl) rfl ?_
          apply Tr.andP
          · exact (rfl : _ = (5, 99, 104))
          · exact rfl
          · intro hT90; have hT90' := hT90
            try simp only [bs] at hT90'
            refine Tr.gq rfl rfl hT90 (QS.fieldAddr (off := 9) (ft := 40) rfl Try.underlying42 rfl rfl Try.sizeOf40 (by decide)) rfl ?_
            refine Tr.gq rfl rfl hT90 (QS.loadVA (vs := encFlg.enc t3.m.f) rfl (by repeat (first | exact List.Mem.head _ | apply List.Mem.tail)) Try.isAgg40 Try.sizeOf40 rfl rfl) rfl ?_
            refine Tr.gq rfl rfl hT90 (QS.lW rfl Try.isAgg40 Try.sizeOf40) rfl ?_
            refine Tr.gq rfl rfl hT90 (QS.eqlE rfl rfl flgEqEnc Try.underlying40 (HLF.words40 _ Try.underlying40) rfl HLF.held40 HLF.eqg40) rfl ?_
            refine Tr.q (QS.pickT rfl hT90 rfl) rfl ?_
            refine Tr.nil (Tr.thenN ?_)
            exact Tr.endX (Sub.cons rfl (Sub.dropN 5 (by kernel_rfl) rfl))
          · intro hF90
            refine Tr.gskip rfl rfl hF90 rfl ?_
            refine Tr.gskip rfl rfl hF90 rfl ?_
            refine Tr.gskip rfl rfl hF90 rfl ?_
            refine Tr.gskip rfl rfl hF90 rfl ?_
            refine Tr.q (QS.pickF rfl hF90 rfl) rfl ?_
            refine Tr.nil (Tr.thenN ?_)
            exact Tr.endX (Sub.cons rfl (Sub.dropN 5 (by kernel_rfl) rfl))
          refine Tr.q (QS.move rfl) rfl ?_
          apply Tr.andP
          · exact (rfl : _ = (2, 105, 107))
          · exact rfl
          · intro hT91; have hT91' := hT91
            try simp only [bs] at hT91'
            refine Tr.gq rfl rfl hT91 (QS.call0 hdr3 rfl Try.call21 (fun w hw => example10_any w)) rfl ?_
            refine Tr.q (QS.pickT rfl hT91 rfl) rfl ?_
            refine Tr.nil (Tr.thenN ?_)
            exact Tr.endX (Sub.cons rfl (Sub.dropN 2 (by kernel_rfl) rfl))
          · intro hF91
            refine Tr.gskip rfl rfl hF91 rfl ?_
            refine Tr.q (QS.pickF rfl hF91 rfl) rfl ?_
            refine Tr.nil (Tr.thenN ?_)
            exact Tr.endX (Sub.cons rfl (Sub.dropN 2 (by kernel_rfl) rfl))
          refine Tr.q (QS.assign rfl) rfl ?_
          refine Tr.nil ?_
          refine Tr.thenN ?_
          refine Tr.ret ?_
          refine Tr.ret1 Try.results4 rfl (fun w' hw => ?_)
          have hA := hx3.trans hv2
          have hB := hx5.trans hvf
          refine ⟨?_, hw.below0 hF13⟩
          clear hx3 hx5 hv2 hvf hIs ht3 hm3 hn3 hw3 hx1 hn1 hw1 hO1 hC1 hk hv3
          split at hA <;> split at hB <;> (try split at hB) <;> first | (exfalso; omega) | (simp [hA, hB, hx2, hx4] <;> (first | simpa using hv1 | (simp_all)))
end Go.Proofs.Ytpeaodkfbjenpaa
namespace Go.HL
open Go Go.Deep Go.ChangeShapes Go.WideShapes
section
variable {H : Type} {enc : TypeId × Value → H} {P : Program} {w : World} {base : Nat} {spare : Nat → Bool} {held : Bool}
theorem u8_of_wf {n : Int} (h : (Lit.int .u8 n).wf = true) : ∃ x : UInt8, n = (x.toNat : Int) := by
  have := bounds_u8 h
  refine ⟨UInt8.ofNat n.toNat, ?_⟩
  rw [UInt8.toNat_ofNat']; omega
theorem u32_of_wf {n : Int} (h : (Lit.int .u32 n).wf = true) : ∃ x : UInt32, n = (x.toNat : Int) := by
  have := bounds_u32 h
  refine ⟨UInt32.ofNat n.toNat, ?_⟩
  rw [UInt32.toNat_ofNat']; omega
end
end Go.HL
