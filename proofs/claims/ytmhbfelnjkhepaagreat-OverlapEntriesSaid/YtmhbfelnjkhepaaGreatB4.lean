/- Own rules and walks, part 4. -/
import Derived.Test.YtmhbfelnjkhepaaGreatB3
set_option linter.unusedSimpArgs false
set_option linter.unusedVariables false
set_option linter.unusedSectionVars false
namespace Go.Proofs.YtmhbfelnjkhepaaGreat
open Go Go.HL Go.RowKit
set_option maxRecDepth 100000 in
set_option maxHeartbeats 8000000 in
theorem entries13_true (ins : List Ins) (ents unk bad : List UInt32) (Vi Ve Vu Vb : Value) (w : World) (hV : Sl (hp w) encIns ins Vi) (hE : Sl (hp w) encU32 ents Ve) (hU : Sl (hp w) encU32 unk Vu) (hB : Sl (hp w) encU32 bad Vb) (hI : ∀ x ∈ ins, InsOK x) :
    Calls Tryz.prog 8 #[.agg #[Vi, Ve, Vu, Vb]] w (fun e w' => e = .returned (.bool true) ∧ Ext w w') := by
  have hV' : Sl (Bg.of w).blk encIns ins Vi := hV
  have hE' : Sl (Bg.of w).blk encU32 ents Ve := hE
  have hU' : Sl (Bg.of w).blk encU32 unk Vu := hU
  have hB' : Sl (Bg.of w).blk encU32 bad Vb := hB
  have hsh : (∃ p n c, Vi = .slice p n c) ∧ (∃ p n c, Ve = .slice p n c) ∧ (∃ p n c, Vu = .slice p n c) ∧ ∃ p n c, Vb = .slice p n c := by
    obtain ⟨si, ci, h1, _⟩ := hV.shape
    obtain ⟨se, ce, h2, _⟩ := hE.shape
    obtain ⟨su, cu, h3, _⟩ := hU.shape
    obtain ⟨sb, cb, h4, _⟩ := hB.shape
    exact ⟨⟨_, _, _, h1⟩, ⟨_, _, _, h2⟩, ⟨_, _, _, h3⟩, ⟨_, _, _, h4⟩⟩
  have hIx : ∀ x, x < ins.length → InsOK (ins.getD x default) := fun x hx => hI _ (mem_getD hx)
  have hil := hV.len_le
  refine enter Tryz.func8 rfl Tryz.ntmps8 rfl ?_
  refine Tr.seq ?_
  refine Tr.region ?_
  refine Tr.box rfl rfl rfl (fun b1 => ?_)
  refine Tr.q (QS.assign rfl) rfl ?_
  refine Tr.nil ?_
  refine Tr.thenN ?_
  refine Tr.seq ?_
  refine Tr.seq ?_
  refine Tr.region ?_
  refine Tr.q (QS.lW rfl Tryz.isAgg25 Tryz.sizeOf25) rfl ?_
  refine Tr.q (QS.call rfl Tryz.call10 (fun w hw => small13_any ins ents unk bad Vi Ve Vu Vb w (hw.slF hV') (hw.slF hE') (hw.slF hU') (hw.slF hB'))) rfl ?_
  refine Tr.q (QS.not rfl) rfl ?_
  refine Tr.nil ?_
  refine Tr.thenN ?_
  refine Tr.cond rfl (fun h2 => ?_) (fun h2 => ?_)
  · try simp only [bs] at h2
    refine Tr.seq ?_
    refine Tr.region ?_
    refine Tr.q (QS.call rfl Tryz.call11 (fun w hw => example13_any w)) rfl ?_
    refine Tr.q (QS.assign rfl) rfl ?_
    refine Tr.nil ?_
    refine Tr.thenN ?_
    refine Tr.ret ?_
    refine Tr.thenR ?_
    refine Tr.ret1 Tryz.results8 rfl (fun w' hw => ?_)
    exact ⟨rfl, hw.below (Bg.le.refl _)⟩
  · try simp only [bs] at h2
    refine Tr.skip ?_
    refine Tr.thenN ?_
    refine Tr.seq ?_
    refine Tr.seq ?_
    obtain ⟨sm1, sm2, sm3, sm4⟩ := small_iff.1 (by simp_all : smallP ins ents unk bad = true)
    refine Tr.region ?_
    refine Tr.q (QS.assign rfl) rfl ?_
    refine Tr.nil ?_
    refine Tr.thenN ?_
    refine Tr.block ?_
    refine Tr.loop (ι := Nat) (fun i => i ≤ ins.length ∧ ∀ x y, y < x → x < i → (ins.getD x default).addr ≠ (ins.getD y default).addr) (fun _ => _) (fun i => [cellE b1 [Vi, Ve, Vu, Vb] 25]) (fun i => [(3, .int .i64 (i : Nat))]) (fun i => ins.length - i) 0 ⟨Nat.zero_le _, fun x y p q => by omega⟩ (.cons (by first | rfl | exact lookI rfl (by omega) | exact lookI rfl (by simp) | exact lookB rfl (by simp)) Front.nil) (by repeat' (first | exact Pick.nil _ | exact Del.here _ | apply Pick.cons | apply Del.there)) rfl (fun i hi m hm => ?_)
    replace hi : i ≤ ins.length ∧ ∀ x y, y < x → x < i → (ins.getD x default).addr ≠ (ins.getD y default).addr := hi
    replace hm : m = ins.length - i := hm
    change Tr _ _ [cellE b1 [Vi, Ve, Vu, Vb] 25] ([(3, .int .i64 (i : Nat))] ++ _) _
    obtain ⟨hi1, hi2⟩ := hi
    refine Tr.seq ?_
    refine Tr.seq ?_
    refine Tr.region ?_
    refine Tr.q (QS.move rfl) rfl ?_
    refine Tr.q (QS.fieldAddr (off := 0) (ft := 22) rfl Tryz.underlying25 rfl rfl Tryz.sizeOf22 (by decide)) rfl ?_
    refine Tr.q (QS.lV rfl Tryz.isAgg22) rfl ?_
    refine Tr.q (QS.len rfl (by assumption) Tryz.underlying22) rfl ?_
    refine Tr.q (QS.lss rfl rfl) rfl ?_
    refine Tr.nil ?_
    refine Tr.thenN ?_
    refine Tr.cond rfl (fun h3 => ?_) (fun h3 => ?_)
    · try simp only [bs] at h3
      refine Tr.skip ?_
      refine Tr.thenN ?_
      refine Tr.seq ?_
      refine Tr.block ?_
      refine Tr.seq ?_
      refine Tr.region ?_
      refine Tr.q (QS.assign rfl) rfl ?_
      refine Tr.nil ?_
      refine Tr.thenN ?_
      refine Tr.block ?_
      refine Tr.loop (ι := Nat) (fun k => k ≤ i ∧ ∀ j, j < k → (ins.getD i default).addr ≠ (ins.getD j default).addr) (fun _ => _) (fun k => [cellE b1 [Vi, Ve, Vu, Vb] 25]) (fun k => [(4, .int .i64 (k : Nat))]) (fun k => i - k) 0 ⟨Nat.zero_le _, fun j p => by omega⟩ (.cons (by first | rfl | exact lookI rfl (by omega) | exact lookI rfl (by simp) | exact lookB rfl (by simp)) Front.nil) (by repeat' (first | exact Pick.nil _ | exact Del.here _ | apply Pick.cons | apply Del.there)) rfl (fun k hi m hm => ?_)
      replace hi : k ≤ i ∧ ∀ j, j < k → (ins.getD i default).addr ≠ (ins.getD j default).addr := hi
      replace hm : m = i - k := hm
      change Tr _ _ [cellE b1 [Vi, Ve, Vu, Vb] 25] ([(4, .int .i64 (k : Nat))] ++ _) _
      obtain ⟨hk1, hk2⟩ := hi
      refine Tr.seq ?_
      refine Tr.seq ?_
      refine Tr.region ?_
      refine Tr.q (QS.move rfl) rfl ?_
      refine Tr.q (QS.move rfl) rfl ?_
      refine Tr.q (QS.lss rfl rfl) rfl ?_
      refine Tr.nil ?_
      refine Tr.thenN ?_
      refine Tr.cond rfl (fun h4 => ?_) (fun h4 => ?_)
      · try simp only [bs] at h4
        refine Tr.skip ?_
        refine Tr.thenN ?_
        refine Tr.seq ?_
        refine Tr.block ?_
        refine Tr.seq ?_
        refine Tr.regionQ HLF.mixed (by kernel_rfl) ?_
        refine TrQ.q (QS.fieldAddr (off := 0) (ft := 22) rfl Tryz.underlying25 rfl rfl Tryz.sizeOf22 (by decide)) rfl ?_
        refine TrQ.q (QS.lV rfl Tryz.isAgg22) rfl ?_
        refine TrQ.q (QS.move rfl) rfl ?_
        refine TrQ.q (QS.idxN rfl rfl (by assumption) Tryz.underlying22 Tryz.sizeOf35 (by rfl) (by omega)) rfl ?_
        refine TrQ.q (QS.fieldAddr (off := 0) (ft := 33) rfl Tryz.underlying35 rfl rfl Tryz.sizeOf33 (by decide)) rfl ?_
        refine TrQ.q (QS.elF rfl (by assumption) Tryz.isAgg33 (by omega) (by rfl)) rfl ?_
        refine TrQ.q (QS.fieldAddr (off := 0) (ft := 22) rfl Tryz.underlying25 rfl rfl Tryz.sizeOf22 (by decide)) rfl ?_
        refine TrQ.q (QS.lV rfl Tryz.isAgg22) rfl ?_
        refine TrQ.q (QS.move rfl) rfl ?_
        refine TrQ.q (QS.idxN rfl rfl (by assumption) Tryz.underlying22 Tryz.sizeOf35 (by rfl) (by omega)) rfl ?_
        refine TrQ.q (QS.fieldAddr (off := 0) (ft := 33) rfl Tryz.underlying35 rfl rfl Tryz.sizeOf33 (by decide)) rfl ?_
        refine TrQ.q (QS.elF rfl (by assumption) Tryz.isAgg33 (by omega) (by rfl)) rfl ?_
        refine TrQ.q (QS.eql32 rfl rfl) rfl ?_
        refine TrQ.nil ?_
        refine Tr.thenN ?_
        refine Tr.cond rfl (fun h5 => ?_) (fun h5 => ?_)
        · try simp only [bs] at h5
          refine Tr.seq ?_
          refine Tr.region ?_
          refine Tr.q (QS.call rfl Tryz.call11 (fun w hw => example13_any w)) rfl ?_
          refine Tr.q (QS.assign rfl) rfl ?_
          refine Tr.nil ?_
          refine Tr.thenN ?_
          refine Tr.ret ?_
          refine Tr.inR ?_
          refine Tr.thenR ?_
          refine Tr.thenR ?_
          refine Tr.inR ?_
          refine Tr.inR ?_
          refine Tr.thenR ?_
          refine Tr.thenR ?_
          refine Tr.inR ?_
          refine Tr.thenR ?_
          refine Tr.ret1 Tryz.results8 rfl (fun w' hw => ?_)
          exact ⟨rfl, hw.below (Bg.le.refl _)⟩
        · try simp only [bs] at h5
          refine Tr.skip ?_
          refine Tr.inN ?_
          refine Tr.thenN ?_
          refine Tr.region ?_
          refine Tr.q (QS.move rfl) rfl ?_
          refine Tr.q (QS.addI rfl rfl (by omega)) rfl ?_
          refine Tr.q (QS.assign rfl) rfl ?_
          refine Tr.nil ?_
          refine Tr.thenN ?_
          apply Tr.again (k + 1)
          · exact rfl
          · exact (.cons (by first | rfl | exact lookI rfl (by omega) | exact lookI rfl (by simp) | exact lookB rfl (by simp)) Front.nil)
          · exact SubX.dropN 20 (by kernel_rfl) rfl
          · exact (by repeat' (first | exact Pick.nil _ | exact Del.here _ | apply Pick.cons | apply Del.there))
          · exact ⟨by omega, fun j p => by
              by_cases c : j = k
              · subst c; assumption
              · exact hk2 j (by omega)⟩
          · exact (by (try dsimp only); omega)
      · try simp only [bs] at h4
        refine Tr.exit ?_
        refine Tr.thenE ?_
        refine Tr.thenE ?_
        refine Tr.inHit ?_
        refine Tr.inN ?_
        refine Tr.thenN ?_
        refine Tr.region ?_
        refine Tr.q (QS.move rfl) rfl ?_
        refine Tr.q (QS.addI rfl rfl (by omega)) rfl ?_
        refine Tr.q (QS.assign rfl) rfl ?_
        refine Tr.nil ?_
        refine Tr.thenN ?_
        obtain rfl : k = i := by omega
        apply Tr.again (k + 1)
        · exact rfl
        · exact (.cons (by first | rfl | exact lookI rfl (by omega) | exact lookI rfl (by simp) | exact lookB rfl (by simp)) Front.nil)
        · exact SubX.dropN 14 (by kernel_rfl) rfl
        · exact (by repeat' (first | exact Pick.nil _ | exact Del.here _ | apply Pick.cons | apply Del.there))
        · exact ⟨by omega, fun x y p q => by
            by_cases c : x = k
            · subst c; exact hk2 y p
            · exact hi2 x y p (by omega)⟩
        · exact (by (try dsimp only); omega)
    · try simp only [bs] at h3
      refine Tr.exit ?_
      refine Tr.thenE ?_
      refine Tr.thenE ?_
      refine Tr.inHit ?_
      refine Tr.thenN ?_
      refine Tr.seq ?_
      have hd : dist ins := by
        refine List.pairwise_iff_getElem.2 fun x y hx hy hxy => ?_
        have q := hi2 y x hxy (by omega)
        rw [List.getD_eq_getElem?_getD, List.getD_eq_getElem?_getD, List.getElem?_eq_getElem hx, List.getElem?_eq_getElem hy] at q
        exact fun e => q e.symm
      refine Tr.region ?_
      refine Tr.q (QS.lW rfl Tryz.isAgg25 Tryz.sizeOf25) rfl ?_
      refine Tr.q (QS.call rfl Tryz.call13 (fun w hw => program13_any Vi Ve Vu Vb w hsh)) rfl ?_
      refine Tr.callEnts (fun i : Value × Value × Value × Value × Value => .tuple #[.agg #[i.1, i.2.1, i.2.2.1, i.2.2.2.1], i.2.2.2.2]) (fun i => [rowE i.1 35 encIns (resP ins ents unk bad).kept, rowE i.2.1 33 encU32 (resP ins ents unk bad).ents, rowE i.2.2.1 33 encU32 (resP ins ents unk bad).unk, rowE i.2.2.2.1 33 encU32 (resP ins ents unk bad).bad, rowE i.2.2.2.2 33 encU32 (resP ins ents unk bad).rem]) (ok := fun _ => True) rfl Tryz.call12 (fun w hw => (resolve_any ins ents unk bad Vi Ve Vu Vb w (hw.slF hV') (hw.slF hE') (hw.slF hU') (hw.slF hB') hI (by omega) (by omega) (by omega) (by omega)).mono fun e w' ⟨i, q1, q2, q3⟩ => ⟨i, q1, q2, q3, trivial⟩) rfl (fun i1 _ => ?_)
      obtain ⟨Vk, Vf, Vg, Vh, Vr⟩ := i1
      refine Tr.rowShape (V := Vk) (by repeat (first | exact List.Mem.head _ | apply List.Mem.tail)) (fun pVk cVk hpv => ?_)
      subst hpv
      refine Tr.rowShape (V := Vf) (by repeat (first | exact List.Mem.head _ | apply List.Mem.tail)) (fun pVf cVf hpv => ?_)
      subst hpv
      refine Tr.rowShape (V := Vg) (by repeat (first | exact List.Mem.head _ | apply List.Mem.tail)) (fun pVg cVg hpv => ?_)
      subst hpv
      refine Tr.rowShape (V := Vh) (by repeat (first | exact List.Mem.head _ | apply List.Mem.tail)) (fun pVh cVh hpv => ?_)
      subst hpv
      refine Tr.rowShape (V := Vr) (by repeat (first | exact List.Mem.head _ | apply List.Mem.tail)) (fun pVr cVr hpv => ?_)
      subst hpv
      obtain ⟨kp, hkp⟩ : ∃ r, r = (resP ins ents unk bad).kept := ⟨_, rfl⟩
      obtain ⟨ep, hep⟩ : ∃ r, r = (resP ins ents unk bad).ents := ⟨_, rfl⟩
      obtain ⟨up, hup⟩ : ∃ r, r = (resP ins ents unk bad).unk := ⟨_, rfl⟩
      obtain ⟨bp, hbp⟩ : ∃ r, r = (resP ins ents unk bad).bad := ⟨_, rfl⟩
      obtain ⟨rp, hrp⟩ : ∃ r, r = (resP ins ents unk bad).rem := ⟨_, rfl⟩
      simp only [← hkp, ← hep, ← hup, ← hbp, ← hrp]
      have hent := fun (a : Ins) ha hv he hn => entries_law (unk := unk) (bad := bad) hd (a := a) (ents := ents) ha hv he hn
      rw [← hkp, ← hep] at hent
      refine Tr.q (QS.move rfl) rfl ?_
      refine Tr.q (QS.extract rfl rfl) rfl ?_
      refine Tr.q (QS.extract rfl rfl) rfl ?_
      refine Tr.alloc Tryz.zeroValue28 rfl rfl (fun b6 => ?_)
      refine Tr.storeW rfl rfl Tryz.sizeOf28 (by repeat (first | exact Put.here _ | apply Put.there)) (by rfl) (by rfl) (by first | exact List.all_eq_true.1 rfl | exact Enc.one _ _ | (intro u hu; simp [Value.cells] at hu; simp_all [Value.oneCell'])) rfl ?_
      refine Tr.q (QS.assign rfl) rfl ?_
      refine Tr.nil ?_
      refine Tr.thenN ?_
      refine Tr.seq ?_
      refine Tr.seq ?_
      refine Tr.region ?_
      refine Tr.q (QS.assign rfl) rfl ?_
      refine Tr.nil ?_
      refine Tr.thenN ?_
      refine Tr.block ?_
      refine Tr.loop (ι := Nat) (fun i => i ≤ ins.length) (fun _ => _) (fun i => [cellE b6 [.slice pVk kp.length cVk, .slice pVf ep.length cVf, .slice pVg up.length cVg, .slice pVh bp.length cVh] 28, rowE (.slice pVk kp.length cVk) 35 encIns kp, rowE (.slice pVf ep.length cVf) 33 encU32 ep, rowE (.slice pVr rp.length cVr) 33 encU32 rp, cellE b1 [Vi, Ve, Vu, Vb] 25]) (fun i => [(7, .int .i64 (i : Nat))]) (fun i => ins.length - i) 0 (Nat.zero_le _) (.cons (by first | rfl | exact lookI rfl (by omega) | exact lookI rfl (by simp) | exact lookB rfl (by simp)) Front.nil) (by repeat' (first | exact Pick.nil _ | exact Del.here _ | apply Pick.cons | apply Del.there)) rfl (fun i hi m hm => ?_)
      replace hi : i ≤ ins.length := hi
      replace hm : m = ins.length - i := hm
      change Tr _ _ [cellE b6 [.slice pVk kp.length cVk, .slice pVf ep.length cVf, .slice pVg up.length cVg, .slice pVh bp.length cVh] 28, rowE (.slice pVk kp.length cVk) 35 encIns kp, rowE (.slice pVf ep.length cVf) 33 encU32 ep, rowE (.slice pVr rp.length cVr) 33 encU32 rp, cellE b1 [Vi, Ve, Vu, Vb] 25] ([(7, .int .i64 (i : Nat))] ++ _) _
      refine Tr.seq ?_
      refine Tr.seq ?_
      refine Tr.region ?_
      refine Tr.q (QS.move rfl) rfl ?_
      refine Tr.q (QS.fieldAddr (off := 0) (ft := 22) rfl Tryz.underlying25 rfl rfl Tryz.sizeOf22 (by decide)) rfl ?_
      refine Tr.q (QS.lV rfl Tryz.isAgg22) rfl ?_
      refine Tr.q (QS.len rfl (by assumption) Tryz.underlying22) rfl ?_
      refine Tr.q (QS.lss rfl rfl) rfl ?_
      refine Tr.nil ?_
      refine Tr.thenN ?_
      refine Tr.cond rfl (fun h7 => ?_) (fun h7 => ?_)
      · try simp only [bs] at h7
        refine Tr.skip ?_
        refine Tr.thenN ?_
        refine Tr.seq ?_
        refine Tr.block ?_
        refine Tr.seq ?_
        refine Tr.region ?_
        refine Tr.q (QS.fieldAddr (off := 0) (ft := 22) rfl Tryz.underlying25 rfl rfl Tryz.sizeOf22 (by decide)) rfl ?_
        refine Tr.q (QS.lV rfl Tryz.isAgg22) rfl ?_
        refine Tr.q (QS.move rfl) rfl ?_
        refine Tr.q (QS.idxN rfl rfl (by assumption) Tryz.underlying22 Tryz.sizeOf35 (by rfl) (by omega)) rfl ?_
        refine Tr.q (QS.elA rfl (by assumption) Tryz.isAgg35 Tryz.sizeOf35 (by rfl) (by omega)) rfl ?_
        refine Tr.alloc Tryz.zeroValue35 rfl rfl (fun b8 => ?_)
        refine Tr.storeW rfl rfl Tryz.sizeOf35 (by repeat (first | exact Put.here _ | apply Put.there)) (by rfl) (by rfl) (by first | exact List.all_eq_true.1 rfl | exact Enc.one _ _ | exact Enc.one encIns _) rfl ?_
        refine Tr.nil ?_
        refine Tr.thenN ?_
        refine Tr.seq ?_
        refine Tr.region ?_
        refine Tr.q (QS.lW rfl Tryz.isAgg35 Tryz.sizeOf35) rfl ?_
        refine Tr.q (QS.call rfl Tryz.call15 (fun w hw => valid_isa (ins.getD i default) w (hIx _ (by omega)))) rfl ?_
        refine Tr.q (QS.move rfl) rfl ?_
        apply Tr.andP
        · exact (rfl : _ = (6, 61, 67))
        · exact rfl
        · intro hT9; have hT9' := hT9
          try simp only [bs] at hT9'
          refine Tr.gq rfl rfl hT9 (QS.fieldAddr (off := 1) (ft := 23) rfl Tryz.underlying25 rfl rfl Tryz.sizeOf23 (by decide)) rfl ?_
          refine Tr.gq rfl rfl hT9 (QS.lV rfl Tryz.isAgg23) rfl ?_
          refine Tr.gq rfl rfl hT9 (QS.fieldAddr (off := 0) (ft := 33) rfl Tryz.underlying35 rfl rfl Tryz.sizeOf33 (by decide)) rfl ?_
          refine Tr.gq rfl rfl hT9 (QS.lV rfl Tryz.isAgg33) rfl ?_
          refine Tr.gq rfl rfl hT9 (QS.call rfl Tryz.call17 (fun w hw => has12_any ents Ve (ins.getD i default).addr w (hw.slF hE'))) rfl ?_
          refine Tr.q (QS.pickT rfl hT9 rfl) rfl ?_
          refine Tr.nil (Tr.thenN ?_)
          exact Tr.endX (Sub.cons rfl (Sub.dropN 6 (by kernel_rfl) rfl))
        · intro hF9
          refine Tr.gskip rfl rfl hF9 rfl ?_
          refine Tr.gskip rfl rfl hF9 rfl ?_
          refine Tr.gskip rfl rfl hF9 rfl ?_
          refine Tr.gskip rfl rfl hF9 rfl ?_
          refine Tr.gskip rfl rfl hF9 rfl ?_
          refine Tr.q (QS.pickF rfl hF9 rfl) rfl ?_
          refine Tr.nil (Tr.thenN ?_)
          exact Tr.endX (Sub.cons rfl (Sub.dropN 6 (by kernel_rfl) rfl))
        refine Tr.q (QS.assign rfl) rfl ?_
        refine Tr.nil ?_
        refine Tr.thenN ?_
        refine Tr.seq ?_
        refine Tr.seq ?_
        refine Tr.region ?_
        refine Tr.q (QS.assign rfl) rfl ?_
        refine Tr.nil ?_
        refine Tr.thenN ?_
        refine Tr.block ?_
        refine Tr.loop (ι := Nat × Bool) (fun ⟨k, fb⟩ => k ≤ ins.length ∧ fb = ((decide (errP (ins.getD i default) = 0) && hasU ents (ins.getD i default).addr) && (ins.take k).all (fun b => !(hasU ents b.addr && clashP (ins.getD i default) b)))) (fun _ => _) (fun ⟨k, fb⟩ => [cellE b8 (encIns.enc (ins.getD i default)) 35, cellE b6 [.slice pVk kp.length cVk, .slice pVf ep.length cVf, .slice pVg up.length cVg, .slice pVh bp.length cVh] 28, rowE (.slice pVk kp.length cVk) 35 encIns kp, rowE (.slice pVf ep.length cVf) 33 encU32 ep, rowE (.slice pVr rp.length cVr) 33 encU32 rp, cellE b1 [Vi, Ve, Vu, Vb] 25]) (fun ⟨k, fb⟩ => [(10, .int .i64 (k : Nat)), (9, .bool fb)]) (fun ⟨k, fb⟩ => ins.length - k) (0, (decide (errP (ins.getD i default) = 0) && hasU ents (ins.getD i default).addr)) ⟨Nat.zero_le _, by simp⟩ (.cons (by first | rfl | exact lookI rfl (by omega) | exact lookI rfl (by simp) | exact lookB rfl (by simp)) (.cons (by first | rfl | exact lookI rfl (by omega) | exact lookI rfl (by simp) | exact lookB rfl (by simp)) Front.nil)) (by repeat' (first | exact Pick.nil _ | exact Del.here _ | apply Pick.cons | apply Del.there)) rfl (fun i hi m hm => ?_)
        obtain ⟨k, fb⟩ := i
        replace hi : k ≤ ins.length ∧ fb = ((decide (errP (ins.getD i default) = 0) && hasU ents (ins.getD i default).addr) && (ins.take k).all (fun b => !(hasU ents b.addr && clashP (ins.getD i default) b))) := hi
        replace hm : m = ins.length - k := hm
        change Tr _ _ [cellE b8 (encIns.enc (ins.getD i default)) 35, cellE b6 [.slice pVk kp.length cVk, .slice pVf ep.length cVf, .slice pVg up.length cVg, .slice pVh bp.length cVh] 28, rowE (.slice pVk kp.length cVk) 35 encIns kp, rowE (.slice pVf ep.length cVf) 33 encU32 ep, rowE (.slice pVr rp.length cVr) 33 encU32 rp, cellE b1 [Vi, Ve, Vu, Vb] 25] ([(10, .int .i64 (k : Nat)), (9, .bool fb)] ++ _) _
        obtain ⟨hk1, hk2⟩ := hi
        refine Tr.seq ?_
        refine Tr.seq ?_
        refine Tr.region ?_
        refine Tr.q (QS.move rfl) rfl ?_
        refine Tr.q (QS.fieldAddr (off := 0) (ft := 22) rfl Tryz.underlying25 rfl rfl Tryz.sizeOf22 (by decide)) rfl ?_
        refine Tr.q (QS.lV rfl Tryz.isAgg22) rfl ?_
        refine Tr.q (QS.len rfl (by assumption) Tryz.underlying22) rfl ?_
        refine Tr.q (QS.lss rfl rfl) rfl ?_
        refine Tr.nil ?_
        refine Tr.thenN ?_
        refine Tr.cond rfl (fun h10 => ?_) (fun h10 => ?_)
        · try simp only [bs] at h10
          refine Tr.skip ?_
          refine Tr.thenN ?_
          refine Tr.seq ?_
          refine Tr.block ?_
          refine Tr.regionQ HLF.mixed (by kernel_rfl) ?_
          refine TrQ.q (QS.move rfl) rfl ?_
          refine TrQ.q (QS.move rfl) rfl ?_
          apply TrQ.andP
          · exact (rfl : _ = (20, 76, 96))
          · exact rfl
          · intro hT11; have hT11' := hT11
            try simp only [bs] at hT11'
            refine TrQ.gq rfl rfl hT11 (QS.fieldAddr (off := 1) (ft := 23) rfl Tryz.underlying25 rfl rfl Tryz.sizeOf23 (by decide)) rfl ?_
            refine TrQ.gq rfl rfl hT11 (QS.lV rfl Tryz.isAgg23) rfl ?_
            refine TrQ.gq rfl rfl hT11 (QS.fieldAddr (off := 0) (ft := 22) rfl Tryz.underlying25 rfl rfl Tryz.sizeOf22 (by decide)) rfl ?_
            refine TrQ.gq rfl rfl hT11 (QS.lV rfl Tryz.isAgg22) rfl ?_
            refine TrQ.gq rfl rfl hT11 (QS.move rfl) rfl ?_
            refine TrQ.gq rfl rfl hT11 (QS.idxN rfl rfl (by assumption) Tryz.underlying22 Tryz.sizeOf35 (by rfl) (by omega)) rfl ?_
            refine TrQ.gq rfl rfl hT11 (QS.fieldAddr (off := 0) (ft := 33) rfl Tryz.underlying35 rfl rfl Tryz.sizeOf33 (by decide)) rfl ?_
            refine TrQ.gq rfl rfl hT11 (QS.elF rfl (by assumption) Tryz.isAgg33 (by omega) (by rfl)) rfl ?_
            refine TrQ.gq rfl rfl hT11 (QS.call rfl Tryz.call17 (fun w hw => has12_any ents Ve (ins.getD k default).addr w (hw.slF hE'))) rfl ?_
            refine TrQ.gq rfl rfl hT11 (QS.move rfl) rfl ?_
            apply TrQ.andP
            · exact (rfl : _ = (8, 86, 94))
            · exact rfl
            · intro hT12; have hT12' := hT12
              try simp only [bs] at hT12'
              refine TrQ.gq rfl rfl hT12 (QS.lW rfl Tryz.isAgg35 Tryz.sizeOf35) rfl ?_
              refine TrQ.gq rfl rfl hT12 (QS.fieldAddr (off := 0) (ft := 22) rfl Tryz.underlying25 rfl rfl Tryz.sizeOf22 (by decide)) rfl ?_
              refine TrQ.gq rfl rfl hT12 (QS.lV rfl Tryz.isAgg22) rfl ?_
              refine TrQ.gq rfl rfl hT12 (QS.move rfl) rfl ?_
              refine TrQ.gq rfl rfl hT12 (QS.idxN rfl rfl (by assumption) Tryz.underlying22 Tryz.sizeOf35 (by rfl) (by omega)) rfl ?_
              refine TrQ.gq rfl rfl hT12 (QS.elA rfl (by assumption) Tryz.isAgg35 Tryz.sizeOf35 (by rfl) (by omega)) rfl ?_
              refine TrQ.gq rfl rfl hT12 (QS.call rfl Tryz.call19 (fun w hw => clash_any (ins.getD i default) (ins.getD k default) w (hIx _ (by omega)) (hIx _ (by omega)))) rfl ?_
              refine TrQ.gq rfl rfl hT11 (QS.pickT rfl hT12 rfl) rfl ?_
              exact TrQ.end (Sub.cons rfl (Sub.dropN 8 (by kernel_rfl) rfl))
            · intro hF12
              refine TrQ.gskip rfl rfl hF12 rfl ?_
              refine TrQ.gskip rfl rfl hF12 rfl ?_
              refine TrQ.gskip rfl rfl hF12 rfl ?_
              refine TrQ.gskip rfl rfl hF12 rfl ?_
              refine TrQ.gskip rfl rfl hF12 rfl ?_
              refine TrQ.gskip rfl rfl hF12 rfl ?_
              refine TrQ.gskip rfl rfl hF12 rfl ?_
              refine TrQ.gq rfl rfl hT11 (QS.pickF rfl hF12 rfl) rfl ?_
              exact TrQ.end (Sub.cons rfl (Sub.dropN 8 (by kernel_rfl) rfl))
            refine TrQ.gq rfl rfl hT11 (QS.not rfl) rfl ?_
            refine TrQ.q (QS.pickT rfl hT11 rfl) rfl ?_
            exact TrQ.end (Sub.cons rfl (Sub.dropN 13 (by kernel_rfl) rfl))
          · intro hF11
            refine TrQ.gskip rfl rfl hF11 rfl ?_
            refine TrQ.gskip rfl rfl hF11 rfl ?_
            refine TrQ.gskip rfl rfl hF11 rfl ?_
            refine TrQ.gskip rfl rfl hF11 rfl ?_
            refine TrQ.gskip rfl rfl hF11 rfl ?_
            refine TrQ.gskip rfl rfl hF11 rfl ?_
            refine TrQ.gskip rfl rfl hF11 rfl ?_
            refine TrQ.gskip rfl rfl hF11 rfl ?_
            refine TrQ.gskip rfl rfl hF11 rfl ?_
            refine TrQ.gskip rfl rfl hF11 rfl ?_
            refine TrQ.gskipU rfl rfl rfl ?_
            refine TrQ.gskipU rfl rfl rfl ?_
            refine TrQ.gskipU rfl rfl rfl ?_
            refine TrQ.gskipU rfl rfl rfl ?_
            refine TrQ.gskipU rfl rfl rfl ?_
            refine TrQ.gskipU rfl rfl rfl ?_
            refine TrQ.gskipU rfl rfl rfl ?_
            refine TrQ.gskip rfl rfl hF11 rfl ?_
            refine TrQ.gskip rfl rfl hF11 rfl ?_
            refine TrQ.q (QS.pickF rfl hF11 rfl) rfl ?_
            exact TrQ.end (Sub.cons rfl (Sub.dropN 20 (by kernel_rfl) rfl))
          refine TrQ.q (QS.assign rfl) rfl ?_
          refine TrQ.nil ?_
          refine Tr.inN ?_
          refine Tr.thenN ?_
          refine Tr.region ?_
          refine Tr.q (QS.move rfl) rfl ?_
          refine Tr.q (QS.addI rfl rfl (by omega)) rfl ?_
          refine Tr.q (QS.assign rfl) rfl ?_
          refine Tr.nil ?_
          refine Tr.thenN ?_
          have hst := all_take_succ (p := (fun b => !(hasU ents b.addr && clashP (ins.getD i default) b))) (l := ins) (k := k) (by omega)
          apply Tr.again (k + 1, _)
          · exact rfl
          · exact (.cons (by first | rfl | exact lookI rfl (by omega) | exact lookI rfl (by simp) | exact lookB rfl (by simp)) (.cons (by first | rfl | exact lookI rfl (by omega) | exact lookI rfl (by simp) | exact lookB rfl (by simp)) Front.nil))
          · exact SubX.dropN 14 (by kernel_rfl) rfl
          · exact (by repeat' (first | exact Pick.nil _ | exact Del.here _ | apply Pick.cons | apply Del.there))
          · exact ⟨by omega, by rw [hst, ← Bool.and_assoc, ← hk2]⟩
          · exact (by (try dsimp only); omega)
        · try simp only [bs] at h10
          refine Tr.exit ?_
          refine Tr.thenE ?_
          refine Tr.thenE ?_
          refine Tr.inHit ?_
          refine Tr.thenN ?_
          refine Tr.seq ?_
          refine Tr.region ?_
          refine Tr.q (QS.move rfl) rfl ?_
          refine Tr.q (QS.move rfl) rfl ?_
          apply Tr.andP
          · exact (rfl : _ = (15, 98, 113))
          · exact rfl
          · intro hT13; have hT13' := hT13
            try simp only [bs] at hT13'
            refine Tr.gq rfl rfl hT13 (QS.fieldAddr (off := 0) (ft := 22) rfl Tryz.underlying28 rfl rfl Tryz.sizeOf22 (by decide)) rfl ?_
            refine Tr.gq rfl rfl hT13 (QS.lV rfl Tryz.isAgg22) rfl ?_
            refine Tr.gq rfl rfl hT13 (QS.fieldAddr (off := 0) (ft := 33) rfl Tryz.underlying35 rfl rfl Tryz.sizeOf33 (by decide)) rfl ?_
            refine Tr.gq rfl rfl hT13 (QS.lV rfl Tryz.isAgg33) rfl ?_
            refine Tr.gq rfl rfl hT13 (QS.call rfl Tryz.call18 (fun w hw => begins13_any kp _ (ins.getD i default).addr w (hw.row (l := kp) (by repeat (first | exact List.Mem.head _ | apply List.Mem.tail))))) rfl ?_
            refine Tr.gq rfl rfl hT13 (QS.not rfl) rfl ?_
            refine Tr.gq rfl rfl hT13 (QS.move rfl) rfl ?_
            apply Tr.orP
            · exact (rfl : _ = (7, 105, 112))
            · exact rfl
            · intro hF14; have hF14' := hF14
              try simp only [bs] at hF14'
              refine Tr.gq rfl rfl hF14 (QS.fieldAddr (off := 1) (ft := 23) rfl Tryz.underlying28 rfl rfl Tryz.sizeOf23 (by decide)) rfl ?_
              refine Tr.gq rfl rfl hF14 (QS.lV rfl Tryz.isAgg23) rfl ?_
              refine Tr.gq rfl rfl hF14 (QS.fieldAddr (off := 0) (ft := 33) rfl Tryz.underlying35 rfl rfl Tryz.sizeOf33 (by decide)) rfl ?_
              refine Tr.gq rfl rfl hF14 (QS.lV rfl Tryz.isAgg33) rfl ?_
              refine Tr.gq rfl rfl hF14 (QS.call rfl Tryz.call17 (fun w hw => has12_any ep _ (ins.getD i default).addr w (hw.row (l := ep) (by repeat (first | exact List.Mem.head _ | apply List.Mem.tail))))) rfl ?_
              refine Tr.gq rfl rfl hF14 (QS.not rfl) rfl ?_
              refine Tr.gq rfl rfl hT13 (QS.pickF rfl hF14 rfl) rfl ?_
              refine Tr.nil (Tr.thenN ?_)
              exact Tr.endX (Sub.cons rfl (Sub.dropN 7 (by kernel_rfl) rfl))
            · intro hT14
              refine Tr.gskip rfl rfl hT14 rfl ?_
              refine Tr.gskip rfl rfl hT14 rfl ?_
              refine Tr.gskip rfl rfl hT14 rfl ?_
              refine Tr.gskip rfl rfl hT14 rfl ?_
              refine Tr.gskip rfl rfl hT14 rfl ?_
              refine Tr.gskip rfl rfl hT14 rfl ?_
              refine Tr.gq rfl rfl hT13 (QS.pickT rfl hT14 rfl) rfl ?_
              refine Tr.nil (Tr.thenN ?_)
              exact Tr.endX (Sub.cons rfl (Sub.dropN 7 (by kernel_rfl) rfl))
            refine Tr.q (QS.pickT rfl hT13 rfl) rfl ?_
            refine Tr.nil (Tr.thenN ?_)
            exact Tr.endX (Sub.cons rfl (Sub.dropN 9 (by kernel_rfl) rfl))
          · intro hF13
            refine Tr.gskip rfl rfl hF13 rfl ?_
            refine Tr.gskip rfl rfl hF13 rfl ?_
            refine Tr.gskip rfl rfl hF13 rfl ?_
            refine Tr.gskip rfl rfl hF13 rfl ?_
            refine Tr.gskip rfl rfl hF13 rfl ?_
            refine Tr.gskip rfl rfl hF13 rfl ?_
            refine Tr.gskip rfl rfl hF13 rfl ?_
            refine Tr.gskipU rfl rfl rfl ?_
            refine Tr.gskipU rfl rfl rfl ?_
            refine Tr.gskipU rfl rfl rfl ?_
            refine Tr.gskipU rfl rfl rfl ?_
            refine Tr.gskipU rfl rfl rfl ?_
            refine Tr.gskipU rfl rfl rfl ?_
            refine Tr.gskip rfl rfl hF13 rfl ?_
            refine Tr.q (QS.pickF rfl hF13 rfl) rfl ?_
            refine Tr.nil (Tr.thenN ?_)
            exact Tr.endX (Sub.cons rfl (Sub.dropN 15 (by kernel_rfl) rfl))
          refine Tr.nil ?_
          refine Tr.thenN ?_
          refine Tr.cond rfl (fun h15 => ?_) (fun h15 => ?_)
          · try simp only [bs] at h15
            refine Tr.seq ?_
            refine Tr.region ?_
            refine Tr.q (QS.assign rfl) rfl ?_
            refine Tr.nil ?_
            refine Tr.thenN ?_
            refine Tr.ret ?_
            refine Tr.inR ?_
            refine Tr.thenR ?_
            refine Tr.thenR ?_
            refine Tr.inR ?_
            refine Tr.thenR ?_
            refine Tr.ret1 Tryz.results8 rfl (fun w' hw => ?_)
            exfalso
            obtain rfl : k = ins.length := by omega
            rw [List.take_length, h15.1, eq_comm, Bool.and_eq_true, Bool.and_eq_true, decide_eq_true_eq, List.all_eq_true] at hk2
            obtain ⟨⟨q1, q2⟩, q3⟩ := hk2
            obtain ⟨g1, g2⟩ := hent _ (mem_getD (by omega)) q1 q2 (fun b hb hc => by have := q3 b hb; simpa [hc] using this)
            rcases h15.2 with q | q
            · rw [g1] at q; cases q
            · rw [g2] at q; cases q
          · try simp only [bs] at h15
            refine Tr.skip ?_
            refine Tr.inN ?_
            refine Tr.thenN ?_
            refine Tr.region ?_
            refine Tr.q (QS.move rfl) rfl ?_
            refine Tr.q (QS.addI rfl rfl (by omega)) rfl ?_
            refine Tr.q (QS.assign rfl) rfl ?_
            refine Tr.nil ?_
            refine Tr.thenN ?_
            apply Tr.again (i + 1)
            · exact rfl
            · exact (.cons (by first | rfl | exact lookI rfl (by omega) | exact lookI rfl (by simp) | exact lookB rfl (by simp)) Front.nil)
            · exact SubX.dropN 31 (by kernel_rfl) rfl
            · exact (by repeat' (first | exact Pick.nil _ | exact Del.here _ | apply Pick.cons | apply Del.there))
            · exact (by show i + 1 ≤ _; omega)
            · exact (by (try dsimp only); omega)
      · try simp only [bs] at h7
        refine Tr.exit ?_
        refine Tr.thenE ?_
        refine Tr.thenE ?_
        refine Tr.inHit ?_
        refine Tr.thenN ?_
        refine Tr.seq ?_
        refine Tr.region ?_
        refine Tr.q (QS.call rfl Tryz.call11 (fun w hw => example13_any w)) rfl ?_
        refine Tr.q (QS.assign rfl) rfl ?_
        refine Tr.nil ?_
        refine Tr.thenN ?_
        refine Tr.ret ?_
        refine Tr.ret1 Tryz.results8 rfl (fun w' hw => ?_)
        exact ⟨rfl, hw.below (Bg.le.refl _)⟩
end Go.Proofs.YtmhbfelnjkhepaaGreat
namespace Go.HL
open Go Go.Deep Go.ChangeShapes Go.WideShapes
section
variable {H : Type} {enc : TypeId × Value → H} {P : Program} {w : World} {base : Nat} {spare : Nat → Bool} {held : Bool}
theorem sl_of_trod {α : Type} [Inhabited α] {E : Enc α} {R : α → Prop} {t e : TypeId} {fuel : Nat} {V : Value} {x : DataW H × List MemPlace} (ht : P.underlying t = some (.slice e)) (hc : P.cellsOf e = E.k) (hk : 0 < E.k)
    (hf : ∀ n cs y, cs.length = E.k → DataW.trod enc P w base spare held n e cs = some y → ∃ a : α, cs = E.enc a ∧ R a)
    (h : DataW.trod enc P w base spare held fuel t [V] = some x) : ∃ l : List α, Sl (hp w) E l V ∧ ∀ a ∈ l, R a := by
  rcases open_slice ht h with ⟨h0, _⟩ | ⟨a, len, cap, m, n, D, Pl, hv, hb, hl, hm, hmm, _, hx⟩
  · simp only [List.cons.injEq, and_true] at h0
    subst h0
    exact ⟨[], Sl.nil _ _, by simp⟩
  · simp only [List.cons.injEq, and_true] at hv
    subst hv
    have hlm : len ≤ m := by rw [hmm]; split <;> omega
    have each : ∀ i, i < len → ∃ q : α, w.cells? base (a.add (i * E.k)) E.k = some (E.enc q) ∧ R q := fun i hi => by
      obtain ⟨cs', h1, h2⟩ := hx i (by omega)
      rw [hc] at h1
      obtain ⟨q, rfl, hq⟩ := hf n cs' _ (World.cells?_some h1).2.1 h2
      exact ⟨q, h1, hq⟩
    obtain ⟨f, hfn⟩ := choose_lt each
    have hsp : 0 < len → a = ⟨a.block, a.off, none⟩ := fun hl0 => by
      have h1 := (World.cells?_some (hfn 0 hl0).1).2.2 0 hk
      have hlen : 0 < (E.enc (f 0)).length := by rw [E.len]; exact hk
      rw [List.getElem?_eq_getElem hlen] at h1
      have hsp := World.cell?_spot h1
      obtain ⟨b, o, sp⟩ := a
      have : sp = none := by simpa [Addr.add] using hsp
      subst this
      rfl
    refine ⟨(List.range len).map f, ⟨⟨some a, cap, by simp, by simpa using hl, hm, fun hne => ?_⟩, fun i q hq => ?_⟩, fun q hq => ?_⟩
    · have hl0 : 0 < len := by
        rcases Nat.eq_zero_or_pos len with h | h
        · subst h; simp at hne
        · exact h
      rw [hsp hl0]; rfl
    · have hi : i < len := by
        have := (List.getElem?_eq_some_iff.1 hq).1
        simpa using this
      have hq' : f i = q := by simpa [hi] using hq
      subst hq'
      have ha := hsp (by omega)
      obtain ⟨b, o, sp⟩ := a
      obtain rfl : sp = none := by simpa using ha
      have hc' := (World.cells?_some (hfn i hi).1).2.2
      have hlen : (E.enc (f i)).length = E.k := E.len _
      have eA : ∀ j, (((⟨b, o, none⟩ : Addr).add (i * E.k)).add j) = ⟨b, o + i * E.k + j, none⟩ := fun j => by
        rw [Go.Deep.add_add]; simp only [Addr.add]
        by_cases h0 : i * E.k + j = 0
        · rw [if_pos h0]
          have : i * E.k = 0 := by omega
          have : j = 0 := by omega
          simp_all
        · rw [if_neg h0, Nat.add_assoc]
      have h1 := hc' 0 hk
      rw [List.getElem?_eq_getElem (by omega), eA] at h1
      have hb1 : ∃ cs T fz, w.heap[b]? = some (.cells cs T fz) := by
        unfold World.cell? at h1
        split at h1
        · rename_i cs T fz hh; exact ⟨cs, T, fz, hh⟩
        · simp at h1
      obtain ⟨cs, T, fz, hh⟩ := hb1
      refine ⟨cs, T, fz, hh, fun j v hj => ?_⟩
      have hjk : j < E.k := by have := (List.getElem?_eq_some_iff.1 hj).1; omega
      have h2 := hc' j hjk
      rw [hj, eA] at h2
      unfold World.cell? at h2
      simp only [hh] at h2
      simp only [ofs]
      simpa using h2
    · obtain ⟨i, hi, rfl⟩ := List.mem_map.1 hq
      exact (hfn i (List.mem_range.1 hi)).2
theorem u32_of_wf {n : Int} (h : (Lit.int .u32 n).wf = true) : ∃ x : UInt32, n = (x.toNat : Int) := by
  have := bounds_u32 h
  refine ⟨UInt32.ofNat n.toNat, ?_⟩
  rw [UInt32.toNat_ofNat']; omega
end
end Go.HL
namespace Go.HL
open Go Go.Deep Go.ChangeShapes Go.WideShapes
section
variable {H : Type} {enc : TypeId × Value → H} {P : Program} {w : World} {base : Nat} {spare : Nat → Bool} {held : Bool}
theorem flat_ins {e t0 t1 : TypeId} {f0 f1 f2 f3 f4 f5 f6 f7 f8 : Field} (he : P.underlying e = some (.struct #[f0, f1, f2, f3, f4, f5, f6, f7, f8]))
    (ho : [f0.offset, f1.offset, f2.offset, f3.offset, f4.offset, f5.offset, f6.offset, f7.offset, f8.offset] = [0, 1, 2, 3, 4, 5, 6, 7, 8])
    (ht : [f0.type, f1.type, f2.type, f3.type, f4.type, f5.type, f6.type, f7.type, f8.type] = [t0, t0, t1, t1, t1, t1, t1, t1, t1])
    (c0 : P.cellsOf t0 = 1) (c1 : P.cellsOf t1 = 1) (u0 : P.underlying t0 = some (.int .u32)) (u1 : P.underlying t1 = some (.int .i64))
    {n : Nat} {cs : List Value} {y : DataW H × List MemPlace} (hl : cs.length = 9) (h : DataW.trod enc P w base spare held n e cs = some y) : ∃ i, cs = encIns.enc i ∧ InsOK i := by
  simp only [List.cons.injEq, and_true] at ho ht
  obtain ⟨o0, o1, o2, o3, o4, o5, o6, o7, o8⟩ := ho
  obtain ⟨t0', t1', t2', t3', t4', t5', t6', t7', t8'⟩ := ht
  obtain ⟨xs, k, hk, hxy, _, hxl, hf⟩ := DataW.trod_struct he h
  match xs, hxl, cs, hl with
  | [y0, y1, y2, y3, y4, y5, y6, y7, y8], _, [v0, v1, v2, v3, v4, v5, v6, v7, v8], _ =>
    have g0 := hf 0 f0 rfl
    have g1 := hf 1 f1 rfl
    have g2 := hf 2 f2 rfl
    have g3 := hf 3 f3 rfl
    have g4 := hf 4 f4 rfl
    have g5 := hf 5 f5 rfl
    have g6 := hf 6 f6 rfl
    have g7 := hf 7 f7 rfl
    have g8 := hf 8 f8 rfl
    simp [o0, o1, o2, o3, o4, o5, o6, o7, o8, t0', t1', t2', t3', t4', t5', t6', t7', t8', c0, c1] at g0 g1 g2 g3 g4 g5 g6 g7 g8
    obtain ⟨z0, e0, _, w0⟩ := DataW.trod_int u0 g0
    obtain ⟨z1, e1, _, w1⟩ := DataW.trod_int u0 g1
    obtain ⟨z2, e2, _, w2⟩ := DataW.trod_int u1 g2
    obtain ⟨z3, e3, _, w3⟩ := DataW.trod_int u1 g3
    obtain ⟨z4, e4, _, w4⟩ := DataW.trod_int u1 g4
    obtain ⟨z5, e5, _, w5⟩ := DataW.trod_int u1 g5
    obtain ⟨z6, e6, _, w6⟩ := DataW.trod_int u1 g6
    obtain ⟨z7, e7, _, w7⟩ := DataW.trod_int u1 g7
    obtain ⟨z8, e8, _, w8⟩ := DataW.trod_int u1 g8
    obtain ⟨x0, rfl⟩ := u32_of_wf w0
    obtain ⟨x1, rfl⟩ := u32_of_wf w1
    simp only [List.cons.injEq, and_true] at e0 e1 e2 e3 e4 e5 e6 e7 e8
    subst e0; subst e1; subst e2; subst e3; subst e4; subst e5; subst e6; subst e7; subst e8
    have b2 := bounds_i64 w2
    have b3 := bounds_i64 w3
    have b4 := bounds_i64 w4
    have b5 := bounds_i64 w5
    have b6 := bounds_i64 w6
    have b7 := bounds_i64 w7
    have b8 := bounds_i64 w8
    exact ⟨⟨x0, x1, z2, z3, z4, z5, z6, z7, z8⟩, rfl, ⟨b2, b3, b4, b5, b6, b7, b8⟩⟩
theorem agg_of {cs : Array Value} {l : List Value} (h : (Value.agg cs).cells.toList = l) : cs = l.toArray := by
  subst h; simp [Value.cells]
end
end Go.HL
namespace Go.HL
open Go Go.Deep Go.ChangeShapes Go.WideShapes
section
variable {H : Type} {enc : TypeId × Value → H} {P : Program} {w : World} {base : Nat} {spare : Nat → Bool} {held : Bool}
theorem flat_u32 {e : TypeId} (he : P.underlying e = some (.int .u32)) {n : Nat} {cs : List Value} {y : DataW H × List MemPlace} (h : DataW.trod enc P w base spare held n e cs = some y) : ∃ a, cs = encU32.enc a ∧ True := by
  obtain ⟨z, rfl, _, hw⟩ := DataW.trod_int he h
  obtain ⟨x, rfl⟩ := u32_of_wf hw
  exact ⟨x, rfl, trivial⟩
theorem flat_code {e ti tu ei eu : TypeId} {f0 f1 f2 f3 : Field} (he : P.underlying e = some (.struct #[f0, f1, f2, f3]))
    (ho : [f0.offset, f1.offset, f2.offset, f3.offset] = [0, 1, 2, 3]) (ht : [f0.type, f1.type, f2.type, f3.type] = [ti, tu, tu, tu])
    (c0 : P.cellsOf ti = 1) (c1 : P.cellsOf tu = 1) (ui : P.underlying ti = some (.slice ei)) (uu : P.underlying tu = some (.slice eu)) (ue : P.underlying eu = some (.int .u32))
    (ci : P.cellsOf ei = 9) (cu : P.cellsOf eu = 1)
    (hfi : ∀ n cs y, cs.length = 9 → DataW.trod enc P w base spare held n ei cs = some y → ∃ i, cs = encIns.enc i ∧ InsOK i)
    {n : Nat} {cs : List Value} {y : DataW H × List MemPlace} (hl : cs.length = 4) (h : DataW.trod enc P w base spare held n e cs = some y) :
    ∃ (li : List Ins) (le lu lb : List UInt32) (Vi Ve Vu Vb : Value), cs = [Vi, Ve, Vu, Vb] ∧ Sl (hp w) encIns li Vi ∧ Sl (hp w) encU32 le Ve ∧ Sl (hp w) encU32 lu Vu ∧ Sl (hp w) encU32 lb Vb ∧ ∀ x ∈ li, InsOK x := by
  simp only [List.cons.injEq, and_true] at ho ht
  obtain ⟨o0, o1, o2, o3⟩ := ho
  obtain ⟨t0', t1', t2', t3'⟩ := ht
  obtain ⟨xs, k, hk, hxy, _, hxl, hf⟩ := DataW.trod_struct he h
  match xs, hxl, cs, hl with
  | [y0, y1, y2, y3], _, [v0, v1, v2, v3], _ =>
    have g0 := hf 0 f0 rfl
    have g1 := hf 1 f1 rfl
    have g2 := hf 2 f2 rfl
    have g3 := hf 3 f3 rfl
    simp [o0, o1, o2, o3, t0', t1', t2', t3', c0, c1] at g0 g1 g2 g3
    obtain ⟨li, s0, I0⟩ := sl_of_trod (E := encIns) (R := InsOK) ui ci (by decide) hfi g0
    obtain ⟨le, s1, _⟩ := sl_of_trod (E := encU32) (R := fun _ => True) uu cu (by decide) (fun n cs y _ hh => flat_u32 ue hh) g1
    obtain ⟨lu, s2, _⟩ := sl_of_trod (E := encU32) (R := fun _ => True) uu cu (by decide) (fun n cs y _ hh => flat_u32 ue hh) g2
    obtain ⟨lb, s3, _⟩ := sl_of_trod (E := encU32) (R := fun _ => True) uu cu (by decide) (fun n cs y _ hh => flat_u32 ue hh) g3
    exact ⟨li, le, lu, lb, v0, v1, v2, v3, rfl, s0, s1, s2, s3, I0⟩
end
end Go.HL
