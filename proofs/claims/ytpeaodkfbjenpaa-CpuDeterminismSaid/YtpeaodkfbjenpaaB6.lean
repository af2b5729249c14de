/- Own rules and walks, part 6. -/
import Derived.Test.YtpeaodkfbjenpaaB5
set_option linter.unusedSimpArgs false
set_option linter.unusedVariables false
set_option linter.unusedSectionVars false
namespace Go.Proofs.Ytpeaodkfbjenpaa
open Go Go.HL Go.RowKit
set_option maxRecDepth 100000 in
set_option maxHeartbeats 16000000 in
theorem det_big (l : List SecV) (inp : List UInt32) (V vi0 : Value) (p : UInt32) (m3 m4 : UInt8) (w : World) (hV : Sl (hp w) encSec l V) (hin : Sl (hp w) encU32 inp vi0) (hD : DataIn (hp w) l) (hN : ∀ s ∈ l, s.name.size ≤ 140737488351232) (hs : smallP l inp = false) :
    Calls Try.prog 8 #[V, .int .u32 p.toNat, vi0, .int .u8 m3.toNat, .int .u8 m4.toNat] w (fun e w' => e = .returned (.bool true) ∧ Below w.heap.size w w') := by
  have hV' : Sl (Bg.of0 w).blk encSec l V := hV
  have hD' : DataIn (Bg.of0 w).blk l := hD
  have hin' : Sl (Bg.of0 w).blk encU32 inp vi0 := hin
  refine enter0 Try.func8 rfl Try.ntmps8 rfl ?_
  refine Tr.seq ?_
  refine Tr.region ?_
  refine Tr.q (QS.assign rfl) rfl ?_
  refine Tr.nil ?_
  refine Tr.thenN ?_
  refine Tr.seq ?_
  refine Tr.seq ?_
  refine Tr.region ?_
  refine Tr.q (QS.move rfl) rfl ?_
  refine Tr.q (QS.move rfl) rfl ?_
  refine Tr.q (QS.call rfl Try.call29 (fun w hw => small_any l inp V vi0 w (hw.slF hV') (hw.slF hin'))) rfl ?_
  refine Tr.q (QS.not rfl) rfl ?_
  refine Tr.nil ?_
  refine Tr.thenN ?_
  refine Tr.cond rfl (fun h1 => ?_) (fun h1 => ?_)
  · try simp only [bs] at h1
    refine Tr.seq ?_
    refine Tr.region ?_
    refine Tr.q (QS.call0 rfl rfl Try.call21 (fun w hw => example10_any w)) rfl ?_
    refine Tr.q (QS.assign rfl) rfl ?_
    refine Tr.nil ?_
    refine Tr.thenN ?_
    refine Tr.ret ?_
    refine Tr.thenR ?_
    refine Tr.ret1 Try.results8 rfl (fun w' hw => ?_)
    exact ⟨rfl, hw.below0 (Bg.le.refl _)⟩
  · try simp only [bs] at h1
    exact absurd h1 (by rw [hs]; simp)
set_option maxRecDepth 100000 in
set_option maxHeartbeats 16000000 in
theorem det_no (l : List SecV) (inp : List UInt32) (V vi0 : Value) (p : UInt32) (m3 m4 : UInt8) (w : World) (hV : Sl (hp w) encSec l V) (hin : Sl (hp w) encU32 inp vi0) (hD : DataIn (hp w) l) (hN : ∀ s ∈ l, s.name.size ≤ 140737488351232) (hs : smallP l inp = true) (h : checkS l ≠ 0) :
    Calls Try.prog 8 #[V, .int .u32 p.toNat, vi0, .int .u8 m3.toNat, .int .u8 m4.toNat] w (fun e w' => e = .returned (.bool true) ∧ Below w.heap.size w w') := by
  have hV' : Sl (Bg.of0 w).blk encSec l V := hV
  have hD' : DataIn (Bg.of0 w).blk l := hD
  have hin' : Sl (Bg.of0 w).blk encU32 inp vi0 := hin
  obtain ⟨hB, hil⟩ := small_of hs
  have hil' : inp.length ≤ 4096 := by omega
  refine enter0 Try.func8 rfl Try.ntmps8 rfl ?_
  refine Tr.seq ?_
  refine Tr.region ?_
  refine Tr.q (QS.assign rfl) rfl ?_
  refine Tr.nil ?_
  refine Tr.thenN ?_
  refine Tr.seq ?_
  refine Tr.seq ?_
  refine Tr.region ?_
  refine Tr.q (QS.move rfl) rfl ?_
  refine Tr.q (QS.move rfl) rfl ?_
  refine Tr.q (QS.call rfl Try.call29 (fun w hw => small_any l inp V vi0 w (hw.slF hV') (hw.slF hin'))) rfl ?_
  refine Tr.q (QS.not rfl) rfl ?_
  refine Tr.nil ?_
  refine Tr.thenN ?_
  refine Tr.cond rfl (fun h1 => ?_) (fun h1 => ?_)
  · try simp only [bs] at h1
    exact absurd h1 (by rw [hs]; simp)
  · try simp only [bs] at h1
    refine Tr.skip ?_
    refine Tr.thenN ?_
    refine Tr.seq ?_
    refine Tr.region ?_
    refine Tr.q (QS.move rfl) rfl ?_
    refine Tr.q (QS.move rfl) rfl ?_
    refine Tr.q (QS.move rfl) rfl ?_
    refine Tr.q (QS.call rfl Try.call26 (fun w hw => boot_no l V p inp vi0 w (hw.slF hV') hB hN (hD'.mono hw.bg) (hw.slF hin') hil' h)) rfl ?_
    refine Tr.q (QS.move rfl) rfl ?_
    refine Tr.q (QS.move rfl) rfl ?_
    refine Tr.q (QS.move rfl) rfl ?_
    refine Tr.q (QS.call rfl Try.call26 (fun w hw => boot_no l V p inp vi0 w (hw.slF hV') hB hN (hD'.mono hw.bg) (hw.slF hin') hil' h)) rfl ?_
    refine Tr.q (QS.assign rfl) rfl ?_
    refine Tr.q (QS.assign rfl) rfl ?_
    refine Tr.nil ?_
    refine Tr.thenN ?_
    refine Tr.seq ?_
    refine Tr.seq ?_
    refine Tr.region ?_
    refine Tr.q (QS.move rfl) rfl ?_
    refine Tr.q (QS.eqlPN rfl rfl Try.underlying27 rfl) rfl ?_
    refine Tr.q (QS.move rfl) rfl ?_
    apply Tr.orP
    · exact (rfl : _ = (3, 31, 34))
    · exact rfl
    · intro hF2; have hF2' := hF2
      try simp only [bs] at hF2'
      refine Tr.gq rfl rfl hF2 (QS.move rfl) rfl ?_
      refine Tr.gq rfl rfl hF2 (QS.eqlPN rfl rfl Try.underlying27 rfl) rfl ?_
      refine Tr.q (QS.pickF rfl hF2 rfl) rfl ?_
      refine Tr.nil (Tr.thenN ?_)
      exact Tr.endX (Sub.cons rfl (Sub.dropN 3 (by kernel_rfl) rfl))
    · intro hT2
      refine Tr.gskip rfl rfl hT2 rfl ?_
      refine Tr.gskip rfl rfl hT2 rfl ?_
      refine Tr.q (QS.pickT rfl hT2 rfl) rfl ?_
      refine Tr.nil (Tr.thenN ?_)
      exact Tr.endX (Sub.cons rfl (Sub.dropN 3 (by kernel_rfl) rfl))
    refine Tr.nil ?_
    refine Tr.thenN ?_
    refine Tr.cond rfl (fun h3 => ?_) (fun h3 => ?_)
    · try simp only [bs] at h3
      refine Tr.seq ?_
      refine Tr.region ?_
      refine Tr.q (QS.move rfl) rfl ?_
      refine Tr.q (QS.move rfl) rfl ?_
      refine Tr.q (QS.eqlPN rfl rfl Try.underlying27 rfl) rfl ?_
      refine Tr.q (QS.move rfl) rfl ?_
      apply Tr.andP
      · exact (rfl : _ = (2, 38, 40))
      · exact rfl
      · intro hT4; have hT4' := hT4
        try simp only [bs] at hT4'
        refine Tr.gq rfl rfl hT4 (QS.call0 rfl rfl Try.call21 (fun w hw => example10_any w)) rfl ?_
        refine Tr.q (QS.pickT rfl hT4 rfl) rfl ?_
        refine Tr.nil (Tr.thenN ?_)
        exact Tr.endX (Sub.cons rfl (Sub.dropN 2 (by kernel_rfl) rfl))
      · intro hF4
        refine Tr.gskip rfl rfl hF4 rfl ?_
        refine Tr.q (QS.pickF rfl hF4 rfl) rfl ?_
        refine Tr.nil (Tr.thenN ?_)
        exact Tr.endX (Sub.cons rfl (Sub.dropN 2 (by kernel_rfl) rfl))
      refine Tr.q (QS.assign rfl) rfl ?_
      refine Tr.nil ?_
      refine Tr.thenN ?_
      refine Tr.ret ?_
      refine Tr.thenR ?_
      refine Tr.ret1 Try.results8 rfl (fun w' hw => ?_)
      exact ⟨by simp, hw.below0 (Bg.le.refl _)⟩
    · try simp only [bs] at h3
      first | contradiction | (exfalso; omega) | simp_all
set_option maxRecDepth 100000 in
set_option maxHeartbeats 16000000 in
theorem det_ok (l : List SecV) (inp : List UInt32) (V vi0 : Value) (p : UInt32) (m3 m4 : UInt8) (w : World) (hV : Sl (hp w) encSec l V) (hin : Sl (hp w) encU32 inp vi0) (hD : DataIn (hp w) l) (hN : ∀ s ∈ l, s.name.size ≤ 140737488351232) (hs : smallP l inp = true) (h : checkS l = 0) :
    Calls Try.prog 8 #[V, .int .u32 p.toNat, vi0, .int .u8 m3.toNat, .int .u8 m4.toNat] w (fun e w' => e = .returned (.bool true) ∧ Below w.heap.size w w') := by
  have hV' : Sl (Bg.of0 w).blk encSec l V := hV
  have hD' : DataIn (Bg.of0 w).blk l := hD
  have hin' : Sl (Bg.of0 w).blk encU32 inp vi0 := hin
  obtain ⟨hB, hil⟩ := small_of hs
  have hil' : inp.length ≤ 4096 := by omega
  have hla : (m3 % 64).toNat < 64 := by rw [UInt8.toNat_mod]; exact Nat.mod_lt _ (by decide)
  have hlb : (m4 % 64).toNat < 64 := by rw [UInt8.toNat_mod]; exact Nat.mod_lt _ (by decide)
  refine enter0 Try.func8 rfl Try.ntmps8 rfl ?_
  refine Tr.seq ?_
  refine Tr.region ?_
  refine Tr.q (QS.assign rfl) rfl ?_
  refine Tr.nil ?_
  refine Tr.thenN ?_
  refine Tr.seq ?_
  refine Tr.seq ?_
  refine Tr.region ?_
  refine Tr.q (QS.move rfl) rfl ?_
  refine Tr.q (QS.move rfl) rfl ?_
  refine Tr.q (QS.call rfl Try.call29 (fun w hw => small_any l inp V vi0 w (hw.slF hV') (hw.slF hin'))) rfl ?_
  refine Tr.q (QS.not rfl) rfl ?_
  refine Tr.nil ?_
  refine Tr.thenN ?_
  refine Tr.cond rfl (fun h1 => ?_) (fun h1 => ?_)
  · try simp only [bs] at h1
    exact absurd h1 (by rw [hs]; simp)
  · try simp only [bs] at h1
    refine Tr.skip ?_
    refine Tr.thenN ?_
    refine Tr.seq ?_
    refine Tr.region ?_
    refine Tr.q (QS.move rfl) rfl ?_
    refine Tr.q (QS.move rfl) rfl ?_
    refine Tr.q (QS.move rfl) rfl ?_
    refine Tr.callMix0 (fun j : Nat × Nat × Nat × Value × Value × WL × List RegV => .pointer (some ⟨j.1, 0, none⟩)) (fun j => [cellE j.1 (cpuC (newS p) j.2.1 j.2.2.2.2.1 (.slice none 0 0) .nilFunc) 47, mapE j.2.2.1 u8V j.2.2.2.2.2.1, rowE (.slice none 0 0) 22 encU32 []]) (fun j => (cellE j.2.1 [j.2.2.2.1, .map (some j.2.2.1)] 33 :: rowE j.2.2.2.1 86 encReg j.2.2.2.2.2.2 :: rowE j.2.2.2.2.1 22 encU32 inp :: regEnts 5 j.2.2.2.2.2.2)) (ok := fun j => (mread j.2.2.2.2.2.1 = (newS p).w ∧ j.2.2.2.2.2.1.length ≤ 4) ∧ MemOK l j.2.2.2.2.2.2) (rfl) rfl Try.call26 (fun w hw => boot_ok l V p inp vi0 w (hw.slF hV') hB hN (hD'.mono hw.bg) (hw.slF hin') hil' h) rfl (fun j F1 hj hF1 hk => ?_)
    obtain ⟨bc1, bM1, bm1, VR1, vi1, wl1, rs1⟩ := j
    have hC1 : CpuAt F1.blk bM1 bm1 VR1 vi1 rs1 inp := cpuAt_of hk
    obtain ⟨⟨hw1, hn1⟩, hO1⟩ := hj
    replace hO1 : MemOK l rs1 := hO1
    change Tr _ _ ([cellE bc1 (cpuC (newS p) bM1 vi1 (.slice none 0 0) .nilFunc) 47, mapE bm1 u8V wl1, rowE (.slice none 0 0) 22 encU32 (newS p).out] ++ _) _ _
    replace hV' := hV'.mono hF1.blk
    replace hD' := hD'.mono hF1.blk
    replace hin' := hin'.mono hF1.blk
    refine Tr.q (QS.move rfl) rfl ?_
    refine Tr.q (QS.move rfl) rfl ?_
    refine Tr.q (QS.move rfl) rfl ?_
    refine Tr.callMix0 (fun j : Nat × Nat × Nat × Value × Value × WL × List RegV => .pointer (some ⟨j.1, 0, none⟩)) (fun j => [cellE j.1 (cpuC (newS p) j.2.1 j.2.2.2.2.1 (.slice none 0 0) .nilFunc) 47, mapE j.2.2.1 u8V j.2.2.2.2.2.1, rowE (.slice none 0 0) 22 encU32 []]) (fun j => (cellE j.2.1 [j.2.2.2.1, .map (some j.2.2.1)] 33 :: rowE j.2.2.2.1 86 encReg j.2.2.2.2.2.2 :: rowE j.2.2.2.2.1 22 encU32 inp :: regEnts 5 j.2.2.2.2.2.2)) (ok := fun j => (mread j.2.2.2.2.2.1 = (newS p).w ∧ j.2.2.2.2.2.1.length ≤ 4) ∧ MemOK l j.2.2.2.2.2.2) (hF1.dr) rfl Try.call26 (fun w hw => boot_ok l V p inp vi0 w (hw.slF hV') hB hN (hD'.mono hw.bg) (hw.slF hin') hil' h) rfl (fun j F2 hj hF2 hk => ?_)
    obtain ⟨bc2, bM2, bm2, VR2, vi2, wl2, rs2⟩ := j
    have hC2 : CpuAt F2.blk bM2 bm2 VR2 vi2 rs2 inp := cpuAt_of hk
    obtain ⟨⟨hw2, hn2⟩, hO2⟩ := hj
    replace hO2 : MemOK l rs2 := hO2
    change Tr _ _ ([cellE bc2 (cpuC (newS p) bM2 vi2 (.slice none 0 0) .nilFunc) 47, mapE bm2 u8V wl2, rowE (.slice none 0 0) 22 encU32 (newS p).out] ++ _) _ _
    have hF12 := hF1.trans hF2
    have hdr : F2.dr = 0 := hF12.dr
    replace hC1 := hC1.mono hF2.blk
    refine Tr.q (QS.assign rfl) rfl ?_
    refine Tr.q (QS.assign rfl) rfl ?_
    refine Tr.nil ?_
    refine Tr.thenN ?_
    refine Tr.seq ?_
    refine Tr.seq ?_
    refine Tr.region ?_
    refine Tr.q (QS.move rfl) rfl ?_
    refine Tr.q (QS.eqlPN rfl rfl Try.underlying27 rfl) rfl ?_
    refine Tr.q (QS.move rfl) rfl ?_
    apply Tr.orP
    · exact (rfl : _ = (3, 31, 34))
    · exact rfl
    · intro hF2; have hF2' := hF2
      try simp only [bs] at hF2'
      refine Tr.gq rfl rfl hF2 (QS.move rfl) rfl ?_
      refine Tr.gq rfl rfl hF2 (QS.eqlPN rfl rfl Try.underlying27 rfl) rfl ?_
      refine Tr.q (QS.pickF rfl hF2 rfl) rfl ?_
      refine Tr.nil (Tr.thenN ?_)
      exact Tr.endX (Sub.cons rfl (Sub.dropN 3 (by kernel_rfl) rfl))
    · intro hT2
      refine Tr.gskip rfl rfl hT2 rfl ?_
      refine Tr.gskip rfl rfl hT2 rfl ?_
      refine Tr.q (QS.pickT rfl hT2 rfl) rfl ?_
      refine Tr.nil (Tr.thenN ?_)
      exact Tr.endX (Sub.cons rfl (Sub.dropN 3 (by kernel_rfl) rfl))
    refine Tr.nil ?_
    refine Tr.thenN ?_
    refine Tr.cond rfl (fun h3 => ?_) (fun h3 => ?_)
    · try simp only [bs] at h3
      first | contradiction | (exfalso; omega) | simp_all
    · try simp only [bs] at h3
      refine Tr.skip ?_
      refine Tr.thenN ?_
      refine Tr.seq ?_
      refine Tr.region ?_
      refine Tr.q (QS.move rfl) rfl ?_
      refine Tr.q (QS.move rfl) rfl ?_
      refine Tr.q (QS.call rfl Try.call30 (fun w hw => limited_any m3 w)) rfl ?_
      refine Tr.callO (fun j : WL × Value × Value × Value × Value => .agg #[.int .i64 (errR (runS l inp (min ((m3 % 64).toNat : Int) 65536).toNat (newS p))), j.2.2.2.2, .int .i64 ((traceS l inp (min ((m3 % 64).toNat : Int) 65536).toNat (newS p)).length : Nat)]) [cellE bc1 (cpuC (newS p) bM1 vi1 (.slice none 0 0) .nilFunc) 47, mapE bm1 u8V wl1, rowE (.slice none 0 0) 22 encU32 (newS p).out] (fun j => [cellE bc1 (cpuC (runS l inp (min ((m3 % 64).toNat : Int) 65536).toNat (newS p)) bM1 vi1 j.2.1 j.2.2.1) 47, mapE bm1 u8V j.1, rowE j.2.1 22 encU32 (runS l inp (min ((m3 % 64).toNat : Int) 65536).toNat (newS p)).out, rowE j.2.2.2.2 22 encU32 (runS l inp (min ((m3 % 64).toNat : Int) 65536).toNat (newS p)).out]) (ok := fun j => mread j.1 = (runS l inp (min ((m3 % 64).toNat : Int) 65536).toNat (newS p)).w ∧ j.1.length ≤ wl1.length + 4 * (traceS l inp (min ((m3 % 64).toNat : Int) 65536).toNat (newS p)).length ∧ ∃ a n c, j.2.1 = .slice a n c) (dd := fun _ => 0) rfl Try.call17 (by repeat' (first | exact Split.nil _ | exact Del.here _ | apply Split.cons | apply Del.there)) (fun w hw => Nat.le_of_eq (hdr)) (fun w hw => run_cpu (newS p) bc1 bM1 bm1 VR1 vi1 (.slice none 0 0) .nilFunc rs1 l wl1 inp ((m3 % 64).toNat : Int) w (hw.own (by repeat' (first | exact Split.nil _ | exact Del.here _ | apply Split.cons | apply Del.there))) (hC1.mono (hw.lessB (Lo := [cellE bc1 (cpuC (newS p) bM1 vi1 (.slice none 0 0) .nilFunc) 47, mapE bm1 u8V wl1, rowE (.slice none 0 0) 22 encU32 (newS p).out]) (by repeat' (first | exact Split.nil _ | exact Del.here _ | apply Split.cons | apply Del.there)))) hO1 hw1 ⟨_, _, _, rfl⟩ (by show (0 : Nat) ≤ 4096; omega)) rfl (fun j hj => ?_)
      obtain ⟨wl3, vo3, ef3, vt3, vq3⟩ := j
      obtain ⟨hw3, hn3, hv3⟩ := hj
      change Tr _ _ (cellE bc1 (cpuC (runS l inp (min ((m3 % 64).toNat : Int) 65536).toNat (newS p)) bM1 vi1 vo3 ef3) 47 :: mapE bm1 u8V wl3 :: rowE vo3 22 encU32 (runS l inp (min ((m3 % 64).toNat : Int) 65536).toNat (newS p)).out :: rowE vq3 22 encU32 (runS l inp (min ((m3 % 64).toNat : Int) 65536).toNat (newS p)).out :: _) _ _
      obtain ⟨n3, hm3⟩ : ∃ n, n = (traceS l inp (min ((m3 % 64).toNat : Int) 65536).toNat (newS p)).length := ⟨_, rfl⟩
      rw [← hm3] at hn3 ⊢
      obtain ⟨t3, ht3⟩ : ∃ t, t = (runS l inp (min ((m3 % 64).toNat : Int) 65536).toNat (newS p)) := ⟨_, rfl⟩
      rw [← ht3] at hw3 ⊢
      refine Tr.rowShape (V := vq3) (by repeat (first | exact List.Mem.head _ | apply List.Mem.tail)) (fun pq3 cq3 hpv => ?_)
      subst hpv
      have ho3 : t3.out.length ≤ 4096 := by rw [ht3]; exact run_len _ (by show (0 : Nat) ≤ 4096; omega)
      refine Tr.alloc Try.zeroValue50 rfl rfl (fun b4 => ?_)
      first | refine Tr.storeW rfl rfl Try.sizeOf50 (by repeat (first | exact Put.here _ | apply Put.there)) (by rfl) (by rfl) (by first | exact List.all_eq_true.1 rfl | exact Enc.one _ _ | (intro u hu; simp [Value.cells] at hu; simp_all [Value.oneCell'])) rfl ?_ | refine Tr.storeV (cs' := [_, _, _]) rfl rfl Try.sizeOf50 (by repeat (first | exact Put.here _ | apply Put.there)) rfl (by rfl) (by first | exact Nat.le_of_ble_eq_true rfl | simp) (by first | exact List.all_eq_true.1 rfl | (intro u hu; simp [Value.cells] at hu; simp_all [Value.oneCell'])) rfl ?_
      refine Tr.nil ?_
      refine Tr.thenN ?_
      refine Tr.seq ?_
      refine Tr.region ?_
      refine Tr.q (QS.move rfl) rfl ?_
      refine Tr.q (QS.move rfl) rfl ?_
      refine Tr.q (QS.call rfl Try.call30 (fun w hw => limited_any m4 w)) rfl ?_
      refine Tr.callO (fun j : WL × Value × Value × Value × Value => .agg #[.int .i64 (errR (runS l inp (min ((m4 % 64).toNat : Int) 65536).toNat t3)), j.2.2.2.2, .int .i64 ((traceS l inp (min ((m4 % 64).toNat : Int) 65536).toNat t3).length : Nat)]) [cellE bc1 (cpuC t3 bM1 vi1 vo3 ef3) 47, mapE bm1 u8V wl3, rowE vo3 22 encU32 t3.out] (fun j => [cellE bc1 (cpuC (runS l inp (min ((m4 % 64).toNat : Int) 65536).toNat t3) bM1 vi1 j.2.1 j.2.2.1) 47, mapE bm1 u8V j.1, rowE j.2.1 22 encU32 (runS l inp (min ((m4 % 64).toNat : Int) 65536).toNat t3).out, rowE j.2.2.2.2 22 encU32 (runS l inp (min ((m4 % 64).toNat : Int) 65536).toNat t3).out]) (ok := fun j => mread j.1 = (runS l inp (min ((m4 % 64).toNat : Int) 65536).toNat t3).w ∧ j.1.length ≤ wl3.length + 4 * (traceS l inp (min ((m4 % 64).toNat : Int) 65536).toNat t3).length ∧ ∃ a n c, j.2.1 = .slice a n c) (dd := fun _ => 0) rfl Try.call17 (by repeat' (first | exact Split.nil _ | exact Del.here _ | apply Split.cons | apply Del.there)) (fun w hw => Nat.le_of_eq (hdr)) (fun w hw => run_cpu t3 bc1 bM1 bm1 VR1 vi1 vo3 ef3 rs1 l wl3 inp ((m4 % 64).toNat : Int) w (hw.own (by repeat' (first | exact Split.nil _ | exact Del.here _ | apply Split.cons | apply Del.there))) (hC1.mono (hw.lessB (Lo := [cellE bc1 (cpuC t3 bM1 vi1 vo3 ef3) 47, mapE bm1 u8V wl3, rowE vo3 22 encU32 t3.out]) (by repeat' (first | exact Split.nil _ | exact Del.here _ | apply Split.cons | apply Del.there)))) hO1 hw3 hv3 ho3) rfl (fun j hj => ?_)
      obtain ⟨wl4, vo4, ef4, vt4, vq4⟩ := j
      obtain ⟨hw4, hn4, hv4⟩ := hj
      change Tr _ _ (cellE bc1 (cpuC (runS l inp (min ((m4 % 64).toNat : Int) 65536).toNat t3) bM1 vi1 vo4 ef4) 47 :: mapE bm1 u8V wl4 :: rowE vo4 22 encU32 (runS l inp (min ((m4 % 64).toNat : Int) 65536).toNat t3).out :: rowE vq4 22 encU32 (runS l inp (min ((m4 % 64).toNat : Int) 65536).toNat t3).out :: _) _ _
      obtain ⟨n4, hm4⟩ : ∃ n, n = (traceS l inp (min ((m4 % 64).toNat : Int) 65536).toNat t3).length := ⟨_, rfl⟩
      rw [← hm4] at hn4 ⊢
      obtain ⟨t4, ht4⟩ : ∃ t, t = (runS l inp (min ((m4 % 64).toNat : Int) 65536).toNat t3) := ⟨_, rfl⟩
      rw [← ht4] at hw4 ⊢
      refine Tr.rowShape (V := vq4) (by repeat (first | exact List.Mem.head _ | apply List.Mem.tail)) (fun pq4 cq4 hpv => ?_)
      subst hpv
      refine Tr.alloc Try.zeroValue50 rfl rfl (fun b5 => ?_)
      first | refine Tr.storeW rfl rfl Try.sizeOf50 (by repeat (first | exact Put.here _ | apply Put.there)) (by rfl) (by rfl) (by first | exact List.all_eq_true.1 rfl | exact Enc.one _ _ | (intro u hu; simp [Value.cells] at hu; simp_all [Value.oneCell'])) rfl ?_ | refine Tr.storeV (cs' := [_, _, _]) rfl rfl Try.sizeOf50 (by repeat (first | exact Put.here _ | apply Put.there)) rfl (by rfl) (by first | exact Nat.le_of_ble_eq_true rfl | simp) (by first | exact List.all_eq_true.1 rfl | (intro u hu; simp [Value.cells] at hu; simp_all [Value.oneCell'])) rfl ?_
      refine Tr.nil ?_
      refine Tr.thenN ?_
      refine Tr.seq ?_
      refine Tr.region ?_
      refine Tr.q (QS.move rfl) rfl ?_
      refine Tr.q (QS.move rfl) rfl ?_
      refine Tr.q (QS.call rfl Try.call30 (fun w hw => limited_any m3 w)) rfl ?_
      refine Tr.q (QS.move rfl) rfl ?_
      refine Tr.q (QS.call rfl Try.call30 (fun w hw => limited_any m4 w)) rfl ?_
      first | refine Tr.q (QS.addI rfl rfl (by omega)) rfl ?_ | refine Tr.q (QS.add rfl rfl) rfl ?_
      refine Tr.callO (fun j : WL × Value × Value × Value × Value => .agg #[.int .i64 (errR (runS l inp (min (((m3 % 64).toNat : Int) + ((m4 % 64).toNat : Int)) 65536).toNat (newS p))), j.2.2.2.2, .int .i64 ((traceS l inp (min (((m3 % 64).toNat : Int) + ((m4 % 64).toNat : Int)) 65536).toNat (newS p)).length : Nat)]) [cellE bc2 (cpuC (newS p) bM2 vi2 (.slice none 0 0) .nilFunc) 47, mapE bm2 u8V wl2, rowE (.slice none 0 0) 22 encU32 (newS p).out] (fun j => [cellE bc2 (cpuC (runS l inp (min (((m3 % 64).toNat : Int) + ((m4 % 64).toNat : Int)) 65536).toNat (newS p)) bM2 vi2 j.2.1 j.2.2.1) 47, mapE bm2 u8V j.1, rowE j.2.1 22 encU32 (runS l inp (min (((m3 % 64).toNat : Int) + ((m4 % 64).toNat : Int)) 65536).toNat (newS p)).out, rowE j.2.2.2.2 22 encU32 (runS l inp (min (((m3 % 64).toNat : Int) + ((m4 % 64).toNat : Int)) 65536).toNat (newS p)).out]) (ok := fun j => mread j.1 = (runS l inp (min (((m3 % 64).toNat : Int) + ((m4 % 64).toNat : Int)) 65536).toNat (newS p)).w ∧ j.1.length ≤ wl2.length + 4 * (traceS l inp (min (((m3 % 64).toNat : Int) + ((m4 % 64).toNat : Int)) 65536).toNat (newS p)).length ∧ ∃ a n c, j.2.1 = .slice a n c) (dd := fun _ => 0) rfl Try.call17 (by repeat' (first | exact Split.nil _ | exact Del.here _ | apply Split.cons | apply Del.there)) (fun w hw => Nat.le_of_eq (hdr)) (fun w hw => run_cpu (newS p) bc2 bM2 bm2 VR2 vi2 (.slice none 0 0) .nilFunc rs2 l wl2 inp (((m3 % 64).toNat : Int) + ((m4 % 64).toNat : Int)) w (hw.own (by repeat' (first | exact Split.nil _ | exact Del.here _ | apply Split.cons | apply Del.there))) (hC2.mono (hw.lessB (Lo := [cellE bc2 (cpuC (newS p) bM2 vi2 (.slice none 0 0) .nilFunc) 47, mapE bm2 u8V wl2, rowE (.slice none 0 0) 22 encU32 (newS p).out]) (by repeat' (first | exact Split.nil _ | exact Del.here _ | apply Split.cons | apply Del.there)))) hO2 hw2 ⟨_, _, _, rfl⟩ (by show (0 : Nat) ≤ 4096; omega)) rfl (fun j hj => ?_)
      obtain ⟨wl5, vo5, ef5, vt5, vq5⟩ := j
      obtain ⟨hw5, hn5, hv5⟩ := hj
      change Tr _ _ (cellE bc2 (cpuC (runS l inp (min (((m3 % 64).toNat : Int) + ((m4 % 64).toNat : Int)) 65536).toNat (newS p)) bM2 vi2 vo5 ef5) 47 :: mapE bm2 u8V wl5 :: rowE vo5 22 encU32 (runS l inp (min (((m3 % 64).toNat : Int) + ((m4 % 64).toNat : Int)) 65536).toNat (newS p)).out :: rowE vq5 22 encU32 (runS l inp (min (((m3 % 64).toNat : Int) + ((m4 % 64).toNat : Int)) 65536).toNat (newS p)).out :: _) _ _
      obtain ⟨n5, hm5⟩ : ∃ n, n = (traceS l inp (min (((m3 % 64).toNat : Int) + ((m4 % 64).toNat : Int)) 65536).toNat (newS p)).length := ⟨_, rfl⟩
      rw [← hm5] at hn5 ⊢
      obtain ⟨t5, ht5⟩ : ∃ t, t = (runS l inp (min (((m3 % 64).toNat : Int) + ((m4 % 64).toNat : Int)) 65536).toNat (newS p)) := ⟨_, rfl⟩
      rw [← ht5] at hw5 ⊢
      refine Tr.rowShape (V := vq5) (by repeat (first | exact List.Mem.head _ | apply List.Mem.tail)) (fun pq5 cq5 hpv => ?_)
      subst hpv
      obtain ⟨hx1, hx2, hx3, hx4, hx5, ho4⟩ := det_facts hla hlb ht3 hm3 ht4 hm4 ht5 hm5
      have hI : InReg l t4.w := by rw [ht4]; exact run_reg hO1 _ (by rw [ht3]; exact run_reg hO1 _ (new_reg hO1 p))
      have g1 : wl1.length ≤ 4 := hn1
      have g2 : wl2.length ≤ 4 := hn2
      have g3 : wl3.length ≤ wl1.length + 4 * n3 := hn3
      have g4 : wl4.length ≤ wl3.length + 4 * n4 := hn4
      have g5 : wl5.length ≤ wl2.length + 4 * n5 := hn5
      have hl4 : wl4.length ≤ 1000000 := by omega
      have hl5 : wl5.length ≤ 1000000 := by omega
      clear ht5 hm5
      subst hx1
      subst hx2
      refine Tr.alloc Try.zeroValue50 rfl rfl (fun b6 => ?_)
      first | refine Tr.storeW rfl rfl Try.sizeOf50 (by repeat (first | exact Put.here _ | apply Put.there)) (by rfl) (by rfl) (by first | exact List.all_eq_true.1 rfl | exact Enc.one _ _ | (intro u hu; simp [Value.cells] at hu; simp_all [Value.oneCell'])) rfl ?_ | refine Tr.storeV (cs' := [_, _, _]) rfl rfl Try.sizeOf50 (by repeat (first | exact Put.here _ | apply Put.there)) rfl (by rfl) (by first | exact Nat.le_of_ble_eq_true rfl | simp) (by first | exact List.all_eq_true.1 rfl | (intro u hu; simp [Value.cells] at hu; simp_all [Value.oneCell'])) rfl ?_
      refine Tr.nil ?_
      refine Tr.thenN ?_
      refine Tr.seq ?_
      refine Tr.region ?_
      refine Tr.q (QS.fieldAddr (off := 0) (ft := 24) rfl Try.underlying50 rfl rfl Try.sizeOf24 (by decide)) rfl ?_
      refine Tr.q (QS.lV rfl Try.isAgg24) rfl ?_
      refine Tr.q (QS.fieldAddr (off := 0) (ft := 24) rfl Try.underlying50 rfl rfl Try.sizeOf24 (by decide)) rfl ?_
      refine Tr.q (QS.lV rfl Try.isAgg24) rfl ?_
      refine Tr.q (QS.eql rfl rfl) rfl ?_
      refine Tr.q (QS.move rfl) rfl ?_
      apply Tr.andP
      · exact (rfl : _ = (9, 61, 70))
      · exact rfl
      · intro hT7; have hT7' := hT7
        try simp only [bs] at hT7'
        refine Tr.gq rfl rfl hT7 (QS.fieldAddr (off := 2) (ft := 3) rfl Try.underlying50 rfl rfl Try.sizeOf3 (by decide)) rfl ?_
        refine Tr.gq rfl rfl hT7 (QS.lV rfl Try.isAgg3) rfl ?_
        refine Tr.gq rfl rfl hT7 (QS.fieldAddr (off := 2) (ft := 3) rfl Try.underlying50 rfl rfl Try.sizeOf3 (by decide)) rfl ?_
        refine Tr.gq rfl rfl hT7 (QS.lV rfl Try.isAgg3) rfl ?_
        first | refine Tr.gq rfl rfl hT7 (QS.addI rfl rfl (by omega)) rfl ?_ | refine Tr.gq rfl rfl hT7 (QS.add rfl rfl) rfl ?_
        refine Tr.gq rfl rfl hT7 (QS.fieldAddr (off := 2) (ft := 3) rfl Try.underlying50 rfl rfl Try.sizeOf3 (by decide)) rfl ?_
        refine Tr.gq rfl rfl hT7 (QS.lV rfl Try.isAgg3) rfl ?_
        refine Tr.gq rfl rfl hT7 (QS.eql rfl rfl) rfl ?_
        refine Tr.q (QS.pickT rfl hT7 rfl) rfl ?_
        refine Tr.nil (Tr.thenN ?_)
        exact Tr.endX (Sub.cons rfl (Sub.dropN 9 (by kernel_rfl) rfl))
      · intro hF7
        refine Tr.gskip rfl rfl hF7 rfl ?_
        refine Tr.gskip rfl rfl hF7 rfl ?_
        refine Tr.gskip rfl rfl hF7 rfl ?_
        refine Tr.gskip rfl rfl hF7 rfl ?_
        refine Tr.gskip rfl rfl hF7 rfl ?_
        refine Tr.gskip rfl rfl hF7 rfl ?_
        refine Tr.gskip rfl rfl hF7 rfl ?_
        refine Tr.gskip rfl rfl hF7 rfl ?_
        refine Tr.q (QS.pickF rfl hF7 rfl) rfl ?_
        refine Tr.nil (Tr.thenN ?_)
        exact Tr.endX (Sub.cons rfl (Sub.dropN 9 (by kernel_rfl) rfl))
      refine Tr.q (QS.move rfl) rfl ?_
      apply Tr.andP
      · exact (rfl : _ = (6, 71, 77))
      · exact rfl
      · intro hT8; have hT8' := hT8
        try simp only [bs] at hT8'
        refine Tr.gq rfl rfl hT8 (QS.fieldAddr (off := 1) (ft := 34) rfl Try.underlying50 rfl rfl Try.sizeOf34 (by decide)) rfl ?_
        refine Tr.gq rfl rfl hT8 (QS.lV rfl Try.isAgg34) rfl ?_
        refine Tr.gq rfl rfl hT8 (QS.fieldAddr (off := 1) (ft := 34) rfl Try.underlying50 rfl rfl Try.sizeOf34 (by decide)) rfl ?_
        refine Tr.gq rfl rfl hT8 (QS.lV rfl Try.isAgg34) rfl ?_
        refine Tr.gq rfl rfl hT8 (QS.call rfl Try.call28 (fun w hw => words_any t5.out t5.out _ _ w (hw.row (by repeat (first | exact List.Mem.head _ | apply List.Mem.tail))) (hw.row (by repeat (first | exact List.Mem.head _ | apply List.Mem.tail))))) rfl ?_
        refine Tr.q (QS.pickT rfl hT8 rfl) rfl ?_
        refine Tr.nil (Tr.thenN ?_)
        exact Tr.endX (Sub.cons rfl (Sub.dropN 6 (by kernel_rfl) rfl))
      · intro hF8
        refine Tr.gskip rfl rfl hF8 rfl ?_
        refine Tr.gskip rfl rfl hF8 rfl ?_
        refine Tr.gskip rfl rfl hF8 rfl ?_
        refine Tr.gskip rfl rfl hF8 rfl ?_
        refine Tr.gskip rfl rfl hF8 rfl ?_
        refine Tr.q (QS.pickF rfl hF8 rfl) rfl ?_
        refine Tr.nil (Tr.thenN ?_)
        exact Tr.endX (Sub.cons rfl (Sub.dropN 6 (by kernel_rfl) rfl))
      refine Tr.q (QS.move rfl) rfl ?_
      apply Tr.andP
      · exact (rfl : _ = (4, 78, 82))
      · exact rfl
      · intro hT9; have hT9' := hT9
        try simp only [bs] at hT9'
        refine Tr.gq rfl rfl hT9 (QS.move rfl) rfl ?_
        refine Tr.gq rfl rfl hT9 (QS.move rfl) rfl ?_
        refine Tr.gq rfl rfl hT9 (QS.call rfl Try.call31 (fun w hw => same_any l t5 bc1 bc2 vi1 vo4 ef4 vi2 vo5 ef5 bM1 bm1 VR1 rs1 wl4 bM2 bm2 VR2 rs2 wl5 w (hC1.mem.mono hw.bg) hO1 (mapE.in_ (hw.ent _ (by repeat (first | exact List.Mem.head _ | apply List.Mem.tail)))) hl4 (hC2.mem.mono hw.bg) hO2 (mapE.in_ (hw.ent _ (by repeat (first | exact List.Mem.head _ | apply List.Mem.tail)))) hl5 hI hw4 hw5 ho4 (cellE.cellsIn (hw.ent _ (by repeat (first | exact List.Mem.head _ | apply List.Mem.tail))) (Ext.refl _)) (cellE.cellsIn (hw.ent _ (by repeat (first | exact List.Mem.head _ | apply List.Mem.tail))) (Ext.refl _)) (hw.row (by repeat (first | exact List.Mem.head _ | apply List.Mem.tail))) (hw.row (by repeat (first | exact List.Mem.head _ | apply List.Mem.tail))))) rfl ?_
        refine Tr.q (QS.pickT rfl hT9 rfl) rfl ?_
        refine Tr.nil (Tr.thenN ?_)
        exact Tr.endX (Sub.cons rfl (Sub.dropN 4 (by kernel_rfl) rfl))
      · intro hF9
        refine Tr.gskip rfl rfl hF9 rfl ?_
        refine Tr.gskip rfl rfl hF9 rfl ?_
        refine Tr.gskip rfl rfl hF9 rfl ?_
        refine Tr.q (QS.pickF rfl hF9 rfl) rfl ?_
        refine Tr.nil (Tr.thenN ?_)
        exact Tr.endX (Sub.cons rfl (Sub.dropN 4 (by kernel_rfl) rfl))
      refine Tr.q (QS.move rfl) rfl ?_
      apply Tr.andP
      · exact (rfl : _ = (2, 83, 85))
      · exact rfl
      · intro hT10; have hT10' := hT10
        try simp only [bs] at hT10'
        refine Tr.gq rfl rfl hT10 (QS.call0 hdr rfl Try.call21 (fun w hw => example10_any w)) rfl ?_
        refine Tr.q (QS.pickT rfl hT10 rfl) rfl ?_
        refine Tr.nil (Tr.thenN ?_)
        exact Tr.endX (Sub.cons rfl (Sub.dropN 2 (by kernel_rfl) rfl))
      · intro hF10
        refine Tr.gskip rfl rfl hF10 rfl ?_
        refine Tr.q (QS.pickF rfl hF10 rfl) rfl ?_
        refine Tr.nil (Tr.thenN ?_)
        exact Tr.endX (Sub.cons rfl (Sub.dropN 2 (by kernel_rfl) rfl))
      refine Tr.q (QS.assign rfl) rfl ?_
      refine Tr.nil ?_
      refine Tr.thenN ?_
      refine Tr.ret ?_
      refine Tr.ret1 Try.results8 rfl (fun w' hw => ?_)
      exact ⟨by simp, hw.below0 hF12⟩
theorem determinism_true (l : List SecV) (inp : List UInt32) (V vi0 : Value) (p : UInt32) (m3 m4 : UInt8) (w : World) (hV : Sl (hp w) encSec l V) (hin : Sl (hp w) encU32 inp vi0) (hD : DataIn (hp w) l) (hN : ∀ s ∈ l, s.name.size ≤ 140737488351232) : Calls Try.prog 8 #[V, .int .u32 p.toNat, vi0, .int .u8 m3.toNat, .int .u8 m4.toNat] w (fun e w' => e = .returned (.bool true) ∧ Below w.heap.size w w') := by
  by_cases hs : smallP l inp = true
  · by_cases h : checkS l = 0
    · exact det_ok l inp V vi0 p m3 m4 w hV hin hD hN hs h
    · exact det_no l inp V vi0 p m3 m4 w hV hin hD hN hs h
  · exact det_big l inp V vi0 p m3 m4 w hV hin hD hN (by simpa using hs)
end Go.Proofs.Ytpeaodkfbjenpaa
namespace Go.HL
open Go Go.Deep Go.ChangeShapes Go.WideShapes
section
variable {H : Type} {enc : TypeId × Value → H} {P : Program} {w : World} {base : Nat} {spare : Nat → Bool} {held : Bool}
theorem sl_of_trod {α : Type} [Inhabited α] {E : Enc α} {R : α → Prop} {t e : TypeId} {fuel : Nat} {V : Value} {x : DataW H × List MemPlace} (ht : P.underlying t = some (.slice e)) (hc : P.cellsOf e = E.k) (hk : 0 < E.k)
    (hf : ∀ n cs y, cs.length = E.k → DataW.trod enc P w base spare held n e cs = some y → ∃ a : α, cs = E.enc a ∧ R a)
    (h : DataW.trod enc P w base spare held fuel t [V] = some x) : ∃ l : List α, Sl (hp w) E l V ∧ ∀ a ∈ l, R a := by
  rcases open_slice ht h with ⟨h0, _⟩ | ⟨a, len, cap, m, n, D, Pl, hv, hb, hl, hm, hmm, _, hx⟩
  · simp only [List.cons.injEq, and_true] at h0
    subst h0
    exact ⟨[], Sl.nil _ _, by simp⟩
  · simp only [List.cons.injEq, and_true] at hv
    subst hv
    have hlm : len ≤ m := by rw [hmm]; split <;> omega
    have each : ∀ i, i < len → ∃ q : α, w.cells? base (a.add (i * E.k)) E.k = some (E.enc q) ∧ R q := fun i hi => by
      obtain ⟨cs', h1, h2⟩ := hx i (by omega)
      rw [hc] at h1
      obtain ⟨q, rfl, hq⟩ := hf n cs' _ (World.cells?_some h1).2.1 h2
      exact ⟨q, h1, hq⟩
    obtain ⟨f, hfn⟩ := choose_lt each
    have hsp : 0 < len → a = ⟨a.block, a.off, none⟩ := fun hl0 => by
      have h1 := (World.cells?_some (hfn 0 hl0).1).2.2 0 hk
      have hlen : 0 < (E.enc (f 0)).length := by rw [E.len]; exact hk
      rw [List.getElem?_eq_getElem hlen] at h1
      have hsp := World.cell?_spot h1
      obtain ⟨b, o, sp⟩ := a
      have : sp = none := by simpa [Addr.add] using hsp
      subst this
      rfl
    refine ⟨(List.range len).map f, ⟨⟨some a, cap, by simp, by simpa using hl, hm, fun hne => ?_⟩, fun i q hq => ?_⟩, fun q hq => ?_⟩
    · have hl0 : 0 < len := by
        rcases Nat.eq_zero_or_pos len with h | h
        · subst h; simp at hne
        · exact h
      rw [hsp hl0]; rfl
    · have hi : i < len := by
        have := (List.getElem?_eq_some_iff.1 hq).1
        simpa using this
      have hq' : f i = q := by simpa [hi] using hq
      subst hq'
      have ha := hsp (by omega)
      obtain ⟨b, o, sp⟩ := a
      obtain rfl : sp = none := by simpa using ha
      have hc' := (World.cells?_some (hfn i hi).1).2.2
      have hlen : (E.enc (f i)).length = E.k := E.len _
      have eA : ∀ j, (((⟨b, o, none⟩ : Addr).add (i * E.k)).add j) = ⟨b, o + i * E.k + j, none⟩ := fun j => by
        rw [Go.Deep.add_add]; simp only [Addr.add]
        by_cases h0 : i * E.k + j = 0
        · rw [if_pos h0]
          have : i * E.k = 0 := by omega
          have : j = 0 := by omega
          simp_all
        · rw [if_neg h0, Nat.add_assoc]
      have h1 := hc' 0 hk
      rw [List.getElem?_eq_getElem (by omega), eA] at h1
      have hb1 : ∃ cs T fz, w.heap[b]? = some (.cells cs T fz) := by
        unfold World.cell? at h1
        split at h1
        · rename_i cs T fz hh; exact ⟨cs, T, fz, hh⟩
        · simp at h1
      obtain ⟨cs, T, fz, hh⟩ := hb1
      refine ⟨cs, T, fz, hh, fun j v hj => ?_⟩
      have hjk : j < E.k := by have := (List.getElem?_eq_some_iff.1 hj).1; omega
      have h2 := hc' j hjk
      rw [hj, eA] at h2
      unfold World.cell? at h2
      simp only [hh] at h2
      simp only [ofs]
      simpa using h2
    · obtain ⟨i, hi, rfl⟩ := List.mem_map.1 hq
      exact (hfn i (List.mem_range.1 hi)).2
theorem u8_of_wf {n : Int} (h : (Lit.int .u8 n).wf = true) : ∃ x : UInt8, n = (x.toNat : Int) := by
  have := bounds_u8 h
  refine ⟨UInt8.ofNat n.toNat, ?_⟩
  rw [UInt8.toNat_ofNat']; omega
theorem u32_of_wf {n : Int} (h : (Lit.int .u32 n).wf = true) : ∃ x : UInt32, n = (x.toNat : Int) := by
  have := bounds_u32 h
  refine ⟨UInt32.ofNat n.toNat, ?_⟩
  rw [UInt32.toNat_ofNat']; omega
theorem flat_u8 {e : TypeId} (he : P.underlying e = some (.int .u8)) {n : Nat} {cs : List Value} {y : DataW H × List MemPlace} (h : DataW.trod enc P w base spare held n e cs = some y) : ∃ a, cs = encU8.enc a ∧ True := by
  obtain ⟨z, rfl, _, hw⟩ := DataW.trod_int he h
  obtain ⟨x, rfl⟩ := u8_of_wf hw
  exact ⟨x, rfl, trivial⟩
end
end Go.HL
namespace Go.HL
open Go Go.Deep Go.ChangeShapes Go.WideShapes
section
variable {H : Type} {enc : TypeId × Value → H} {P : Program} {w : World} {base : Nat} {spare : Nat → Bool} {held : Bool}
/-- No slice and no text in it is beyond what the form reaches. -/
def Light (P : Program) (t : TypeId) (d : DataW H) : Prop := ∀ n ∈ d.weights P t, n ≤ reachBytes
theorem weightsAll_mem {P : Program} {e : TypeId} : ∀ {l : List (DataW H)} {d : DataW H}, d ∈ l → ∀ n ∈ d.weights P e, n ∈ DataW.weightsAll P e l
  | x :: l, d, h, n, hn => by
    simp only [DataW.weightsAll, List.mem_append]
    rcases List.mem_cons.1 h with rfl | h
    · exact .inl hn
    · exact .inr (weightsAll_mem h n hn)
theorem sl_of_trodW {α : Type} [Inhabited α] {E : Enc α} {R : α → Prop} {t e : TypeId} {fuel : Nat} {V : Value} {x : DataW H × List MemPlace} (ht : P.underlying t = some (.slice e)) (hc : P.cellsOf e = E.k) (hk : 0 < E.k) (hL : Light P t x.1)
    (hf : ∀ n cs y, cs.length = E.k → DataW.trod enc P w base spare held n e cs = some y → Light P e y.1 → ∃ a : α, cs = E.enc a ∧ R a)
    (h : DataW.trod enc P w base spare held fuel t [V] = some x) : ∃ l : List α, Sl (hp w) E l V ∧ (∀ a ∈ l, R a) ∧ l.length * P.bytesOf e ≤ reachBytes := by
  rcases open_slice ht h with ⟨h0, _⟩ | ⟨a, len, cap, m, n, D, Pl, hv, hb, hl, hm, hmm, hxx, hx⟩
  · simp only [List.cons.injEq, and_true] at h0
    subst h0
    exact ⟨[], Sl.nil _ _, by simp, by simp⟩
  · simp only [List.cons.injEq, and_true] at hv
    subst hv
    subst hxx
    have hlm : len ≤ m := by rw [hmm]; split <;> omega
    have hw : DataW.weights P t (.slice ((List.range len).map D) ((List.range (m - len)).map fun j => D (len + j))) = (((List.range len).map D).length + ((List.range (m - len)).map fun j => D (len + j)).length) * P.bytesOf e :: (DataW.weightsAll P e ((List.range len).map D) ++ DataW.weightsAll P e ((List.range (m - len)).map fun j => D (len + j))) := by
      simp only [DataW.weights, ht]
    have each : ∀ i, i < len → ∃ q : α, w.cells? base (a.add (i * E.k)) E.k = some (E.enc q) ∧ R q := fun i hi => by
      obtain ⟨cs', h1, h2⟩ := hx i (by omega)
      rw [hc] at h1
      obtain ⟨q, rfl, hq⟩ := hf n cs' _ (World.cells?_some h1).2.1 h2 (fun z hz => hL z (by
        rw [hw]
        exact .tail _ (List.mem_append.2 (.inl (weightsAll_mem (List.mem_map.2 ⟨i, List.mem_range.2 hi, rfl⟩) z hz)))))
      exact ⟨q, h1, hq⟩
    obtain ⟨f, hfn⟩ := choose_lt each
    have hsp : 0 < len → a = ⟨a.block, a.off, none⟩ := fun hl0 => by
      have h1 := (World.cells?_some (hfn 0 hl0).1).2.2 0 hk
      have hlen : 0 < (E.enc (f 0)).length := by rw [E.len]; exact hk
      rw [List.getElem?_eq_getElem hlen] at h1
      have hsp := World.cell?_spot h1
      obtain ⟨b, o, sp⟩ := a
      have : sp = none := by simpa [Addr.add] using hsp
      subst this
      rfl
    refine ⟨(List.range len).map f, ⟨⟨some a, cap, by simp, by simpa using hl, hm, fun hne => ?_⟩, fun i q hq => ?_⟩, fun q hq => ?_, ?_⟩
    · have hl0 : 0 < len := by
        rcases Nat.eq_zero_or_pos len with h | h
        · subst h; simp at hne
        · exact h
      rw [hsp hl0]; rfl
    · have hi : i < len := by
        have := (List.getElem?_eq_some_iff.1 hq).1
        simpa using this
      have hq' : f i = q := by simpa [hi] using hq
      subst hq'
      have ha := hsp (by omega)
      obtain ⟨b, o, sp⟩ := a
      obtain rfl : sp = none := by simpa using ha
      have hc' := (World.cells?_some (hfn i hi).1).2.2
      have hlen : (E.enc (f i)).length = E.k := E.len _
      have eA : ∀ j, (((⟨b, o, none⟩ : Addr).add (i * E.k)).add j) = ⟨b, o + i * E.k + j, none⟩ := fun j => by
        rw [Go.Deep.add_add]; simp only [Addr.add]
        by_cases h0 : i * E.k + j = 0
        · rw [if_pos h0]
          have : i * E.k = 0 := by omega
          have : j = 0 := by omega
          simp_all
        · rw [if_neg h0, Nat.add_assoc]
      have h1 := hc' 0 hk
      rw [List.getElem?_eq_getElem (by omega), eA] at h1
      have hb1 : ∃ cs T fz, w.heap[b]? = some (.cells cs T fz) := by
        unfold World.cell? at h1
        split at h1
        · rename_i cs T fz hh; exact ⟨cs, T, fz, hh⟩
        · simp at h1
      obtain ⟨cs, T, fz, hh⟩ := hb1
      refine ⟨cs, T, fz, hh, fun j v hj => ?_⟩
      have hjk : j < E.k := by have := (List.getElem?_eq_some_iff.1 hj).1; omega
      have h2 := hc' j hjk
      rw [hj, eA] at h2
      unfold World.cell? at h2
      simp only [hh] at h2
      simp only [ofs]
      simpa using h2
    · obtain ⟨i, hi, rfl⟩ := List.mem_map.1 hq
      exact (hfn i (List.mem_range.1 hi)).2
    · have := hL _ (by rw [hw]; exact .head _)
      simp only [List.length_map, List.length_range] at this ⊢
      exact Nat.le_trans (Nat.mul_le_mul_right _ (by omega)) this
theorem flat_sec {e ts tu tb tB eu : TypeId} {f0 f1 f2 f3 f4 : Field} (he : P.underlying e = some (.struct #[f0, f1, f2, f3, f4]))
    (ho : [f0.offset, f1.offset, f2.offset, f3.offset, f4.offset] = [0, 1, 2, 3, 4]) (ht : [f0.type, f1.type, f2.type, f3.type, f4.type] = [ts, tu, tb, tB, tB])
    (c0 : P.cellsOf ts = 1) (c1 : P.cellsOf tu = 1) (c2 : P.cellsOf tb = 1) (c3 : P.cellsOf tB = 1) (us : P.underlying ts = some .string) (uu : P.underlying tu = some (.int .u32))
    (ub : P.underlying tb = some (.slice eu)) (ue : P.underlying eu = some (.int .u8)) (ce : P.cellsOf eu = 1) (be : P.bytesOf eu = 1) (uB : P.underlying tB = some .bool)
    {n : Nat} {cs : List Value} {y : DataW H × List MemPlace} (hl : cs.length = 5) (h : DataW.trod enc P w base spare held n e cs = some y) (hL : Light P e y.1) :
    ∃ s : SecV, cs = encSec.enc s ∧ Sl (hp w) encU8 s.data (.slice s.dp s.data.length s.dc) ∧ s.data.length ≤ reachBytes ∧ s.name.size ≤ reachBytes := by
  simp only [List.cons.injEq, and_true] at ho ht
  obtain ⟨o0, o1, o2, o3, o4⟩ := ho
  obtain ⟨t0, t1, t2, t3, t4⟩ := ht
  obtain ⟨xs, k, hk, hxy, _, hxl, hf⟩ := DataW.trod_struct he h
  match xs, hxl, cs, hl with
  | [y0, y1, y2, y3, y4], _, [v0, v1, v2, v3, v4], _ =>
    have g0 := hf 0 f0 rfl
    have g1 := hf 1 f1 rfl
    have g2 := hf 2 f2 rfl
    have g3 := hf 3 f3 rfl
    have g4 := hf 4 f4 rfl
    simp [o0, o1, o2, o3, o4, t0, t1, t2, t3, t4, c0, c1, c2, c3] at g0 g1 g2 g3 g4
    subst hxy
    have hw : ∀ j t d, [ts, tu, tb, tB, tB][j]? = some t → [y0.1, y1.1, y2.1, y3.1, y4.1][j]? = some d → Light P t d := fun j t d q1 q2 z hz => hL z (by
      simp only [DataW.weights, he, List.map_cons, List.map_nil, t0, t1, t2, t3, t4]
      exact DataW.weights_mem_each (j := j) q1 q2 z hz)
    have w0' := hw 0 ts y0.1 rfl rfl
    have w2' := hw 2 tb y2.1 rfl rfl
    obtain ⟨z0, e0, q0, w0⟩ := DataW.trod_string us g0
    obtain ⟨z1, e1, _, w1⟩ := DataW.trod_int uu g1
    obtain ⟨l, s2, _, hbl⟩ := sl_of_trodW (E := encU8) (R := fun _ => True) ub ce (by decide) w2' (fun n cs y _ hh _ => flat_u8 ue hh) g2
    obtain ⟨z3, e3, _⟩ := DataW.trod_bool uB g3
    obtain ⟨z4, e4, _⟩ := DataW.trod_bool uB g4
    obtain ⟨x1, rfl⟩ := u32_of_wf w1
    simp only [List.cons.injEq, and_true] at e0 e1 e3 e4
    subst e0; subst e1; subst e3; subst e4
    obtain ⟨a, c, hv, _⟩ := s2.shape
    subst hv
    refine ⟨⟨z0, x1, l, a, c, z3, z4⟩, rfl, s2, by rw [be, Nat.mul_one] at hbl; exact hbl, ?_⟩
    have := w0' z0.data.toList.length (by rw [q0]; simp [DataW.weights])
    rw [Array.length_toList] at this
    exact this
end
end Go.HL
namespace Go.HL
open Go Go.Deep Go.ChangeShapes Go.WideShapes
section
variable {H : Type} {enc : TypeId × Value → H} {P : Program} {w : World} {base : Nat} {spare : Nat → Bool} {held : Bool}
theorem flat_u32 {e : TypeId} (he : P.underlying e = some (.int .u32)) {n : Nat} {cs : List Value} {y : DataW H × List MemPlace} (h : DataW.trod enc P w base spare held n e cs = some y) : ∃ a, cs = encU32.enc a ∧ True := by
  obtain ⟨z, rfl, _, hw⟩ := DataW.trod_int he h
  obtain ⟨x, rfl⟩ := u32_of_wf hw
  exact ⟨x, rfl, trivial⟩
end
end Go.HL
