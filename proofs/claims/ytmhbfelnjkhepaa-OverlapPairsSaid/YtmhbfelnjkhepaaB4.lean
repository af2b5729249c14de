/- Own rules and walks, part 4. -/
import Derived.Test.YtmhbfelnjkhepaaB3
set_option linter.unusedSimpArgs false
set_option linter.unusedVariables false
set_option linter.unusedSectionVars false
namespace Go.Proofs.Ytmhbfelnjkhepaa
open Go Go.HL Go.RowKit
set_option maxRecDepth 100000 in
set_option maxHeartbeats 8000000 in
theorem pairs13_true (l : List Ins) (V : Value) (w : World) (hV : Sl (hp w) encIns l V) (hI : ∀ x ∈ l, InsOK x) :
    Calls Try.prog 3 #[V] w (fun e w' => e = .returned (.bool true) ∧ Ext w w') := by
  have hV' : Sl (Bg.of w).blk encIns l V := hV
  obtain ⟨pl, hpl⟩ : ∃ pl, pl = confP l := ⟨_, rfl⟩
  obtain ⟨f1, f2, f3, f4, f5⟩ := pairs_facts l
  rw [← hpl] at f1 f2 f3 f4 f5
  have hIx : ∀ x, x < l.length → InsOK (l.getD x default) := fun x hx => hI _ (mem_getD hx)
  refine enter Try.func3 rfl Try.ntmps3 rfl ?_
  refine Tr.seq ?_
  refine Tr.region ?_
  refine Tr.q (QS.assign rfl) rfl ?_
  refine Tr.nil ?_
  refine Tr.thenN ?_
  refine Tr.seq ?_
  refine Tr.seq ?_
  refine Tr.region ?_
  refine Tr.q (QS.move rfl) rfl ?_
  refine Tr.q (QS.len rfl (by assumption) Try.underlying22) rfl ?_
  refine Tr.q (QS.gtr rfl rfl) rfl ?_
  refine Tr.nil ?_
  refine Tr.thenN ?_
  refine Tr.cond rfl (fun h1 => ?_) (fun h1 => ?_)
  · try simp only [bs] at h1
    refine Tr.seq ?_
    refine Tr.region ?_
    refine Tr.q (QS.call rfl Try.call4 (fun w hw => example13_any w)) rfl ?_
    refine Tr.q (QS.assign rfl) rfl ?_
    refine Tr.nil ?_
    refine Tr.thenN ?_
    refine Tr.ret ?_
    refine Tr.thenR ?_
    refine Tr.ret1 Try.results3 rfl (fun w' hw => ?_)
    exact ⟨rfl, hw.below (Bg.le.refl _)⟩
  · try simp only [bs] at h1
    refine Tr.skip ?_
    refine Tr.thenN ?_
    refine Tr.seq ?_
    refine Tr.region ?_
    refine Tr.q (QS.move rfl) rfl ?_
    refine Tr.callRow rfl Try.call5 (fun w hw => (by rw [hpl]; exact conflicts_any l V w (hw.slF hV') hI (by omega) : Calls Try.prog 5 #[V] w (fun e w' => ∃ V', e = .returned V' ∧ Ext w w' ∧ NewRow w w' 27 encRng (pl) V'))) rfl (fun V2 => ?_)
    refine Tr.q (QS.assign rfl) rfl ?_
    refine Tr.nil ?_
    refine Tr.thenN ?_
    refine Tr.seq ?_
    refine Tr.region ?_
    refine Tr.q (QS.assign rfl) rfl ?_
    refine Tr.nil ?_
    refine Tr.thenN ?_
    refine Tr.seq ?_
    refine Tr.seq ?_
    refine Tr.region ?_
    refine Tr.q (QS.assign rfl) rfl ?_
    refine Tr.nil ?_
    refine Tr.thenN ?_
    refine Tr.block ?_
    refine Tr.loop (ι := Nat) (fun i => i ≤ pl.length) (fun _ => _) (fun i => [rowE V2 27 encRng pl]) (fun i => [(5, .int .i64 (i : Nat)), (4, .int .i64 0)]) (fun i => pl.length - i) 0 (Nat.zero_le _) (.cons (by first | rfl | exact lookI rfl (by omega) | exact lookI rfl (by simp) | exact lookB rfl (by simp)) (.cons (by first | rfl | exact lookI rfl (by omega) | exact lookI rfl (by simp) | exact lookB rfl (by simp)) Front.nil)) (by repeat' (first | exact Pick.nil _ | exact Del.here _ | apply Pick.cons | apply Del.there)) rfl (fun i hi m hm => ?_)
    replace hi : i ≤ pl.length := hi
    replace hm : m = pl.length - i := hm
    change Tr _ _ [rowE V2 27 encRng pl] ([(5, .int .i64 (i : Nat)), (4, .int .i64 0)] ++ _) _
    have hpb := prs_len l l.length
    have hpm : l.length * l.length ≤ 40 * 40 := Nat.mul_le_mul (by omega) (by omega)
    have hj : ((i : Int) - 1).toNat = i - 1 := by omega
    have g1 := fun q : i < pl.length => f1 i q
    have g2 := fun (q : i < pl.length) (r : 0 < i) => f2 i r q
    refine Tr.seq ?_
    refine Tr.seq ?_
    refine Tr.region ?_
    refine Tr.q (QS.move rfl) rfl ?_
    refine Tr.q (QS.move rfl) rfl ?_
    refine Tr.q (QS.lenRow rfl (by repeat (first | exact List.Mem.head _ | apply List.Mem.tail)) Try.underlying24) rfl ?_
    refine Tr.q (QS.lss rfl rfl) rfl ?_
    refine Tr.nil ?_
    refine Tr.thenN ?_
    refine Tr.cond rfl (fun h3 => ?_) (fun h3 => ?_)
    · try simp only [bs] at h3
      refine Tr.skip ?_
      refine Tr.thenN ?_
      refine Tr.seq ?_
      refine Tr.block ?_
      refine Tr.seq ?_
      refine Tr.seq ?_
      refine Tr.regionQ HLF.mixed (by kernel_rfl) ?_
      refine TrQ.q (QS.move rfl) rfl ?_
      refine TrQ.q (QS.move rfl) rfl ?_
      refine TrQ.q (QS.idxRowN rfl rfl (by repeat (first | exact List.Mem.head _ | apply List.Mem.tail)) Try.underlying24 Try.sizeOf27 (by rfl) (by omega)) rfl ?_
      refine TrQ.q (QS.idxArr rfl rfl Try.underlying27 Try.sizeOf26 (by omega)) rfl ?_
      refine TrQ.q (QS.elRF rfl (by repeat (first | exact List.Mem.head _ | apply List.Mem.tail)) Try.isAgg26 (by omega) (by rfl)) rfl ?_
      refine TrQ.q (QS.move rfl) rfl ?_
      refine TrQ.q (QS.move rfl) rfl ?_
      refine TrQ.q (QS.idxRowN rfl rfl (by repeat (first | exact List.Mem.head _ | apply List.Mem.tail)) Try.underlying24 Try.sizeOf27 (by rfl) (by omega)) rfl ?_
      refine TrQ.q (QS.idxArr rfl rfl Try.underlying27 Try.sizeOf26 (by omega)) rfl ?_
      refine TrQ.q (QS.elRF rfl (by repeat (first | exact List.Mem.head _ | apply List.Mem.tail)) Try.isAgg26 (by omega) (by rfl)) rfl ?_
      refine TrQ.q (QS.geq32 rfl rfl) rfl ?_
      refine TrQ.q (QS.move rfl) rfl ?_
      apply TrQ.orP
      · exact (rfl : _ = (45, 36, 81))
      · exact rfl
      · intro hF4; have hF4' := hF4
        try simp only [bs] at hF4'
        refine TrQ.gq rfl rfl hF4 (QS.move rfl) rfl ?_
        refine TrQ.gq rfl rfl hF4 (QS.gtr rfl rfl) rfl ?_
        refine TrQ.gq rfl rfl hF4 (QS.move rfl) rfl ?_
        apply TrQ.andP
        · exact (rfl : _ = (41, 39, 80))
        · exact rfl
        · intro hT5; have hT5' := hT5
          try simp only [bs] at hT5'
          refine TrQ.gq rfl rfl hT5 (QS.move rfl) rfl ?_
          refine TrQ.gq rfl rfl hT5 (QS.move rfl) rfl ?_
          refine TrQ.gq rfl rfl hT5 (QS.idxRowN rfl rfl (by repeat (first | exact List.Mem.head _ | apply List.Mem.tail)) Try.underlying24 Try.sizeOf27 (by rfl) (by omega)) rfl ?_
          refine TrQ.gq rfl rfl hT5 (QS.idxArr rfl rfl Try.underlying27 Try.sizeOf26 (by omega)) rfl ?_
          refine TrQ.gq rfl rfl hT5 (QS.elRF rfl (by repeat (first | exact List.Mem.head _ | apply List.Mem.tail)) Try.isAgg26 (by omega) (by rfl)) rfl ?_
          refine TrQ.gq rfl rfl hT5 (QS.move rfl) rfl ?_
          refine TrQ.gq rfl rfl hT5 (QS.move rfl) rfl ?_
          refine TrQ.gq rfl rfl hT5 (QS.subI rfl rfl (by omega)) rfl ?_
          refine TrQ.gq rfl rfl hT5 (QS.idxRow rfl rfl (by repeat (first | exact List.Mem.head _ | apply List.Mem.tail)) Try.underlying24 Try.sizeOf27 (by rfl) (by omega)) rfl ?_
          refine TrQ.gq rfl rfl hT5 (QS.idxArr rfl rfl Try.underlying27 Try.sizeOf26 (by omega)) rfl ?_
          refine TrQ.gq rfl rfl hT5 (QS.elRF rfl (by repeat (first | exact List.Mem.head _ | apply List.Mem.tail)) Try.isAgg26 (by omega) (by rfl)) rfl ?_
          refine TrQ.gq rfl rfl hT5 (QS.lss32 rfl rfl) rfl ?_
          refine TrQ.gq rfl rfl hT5 (QS.move rfl) rfl ?_
          apply TrQ.orP
          · exact (rfl : _ = (27, 52, 79))
          · exact rfl
          · intro hF6; have hF6' := hF6
            try simp only [bs] at hF6'
            refine TrQ.gq rfl rfl hF6 (QS.move rfl) rfl ?_
            refine TrQ.gq rfl rfl hF6 (QS.move rfl) rfl ?_
            refine TrQ.gq rfl rfl hF6 (QS.idxRowN rfl rfl (by repeat (first | exact List.Mem.head _ | apply List.Mem.tail)) Try.underlying24 Try.sizeOf27 (by rfl) (by omega)) rfl ?_
            refine TrQ.gq rfl rfl hF6 (QS.idxArr rfl rfl Try.underlying27 Try.sizeOf26 (by omega)) rfl ?_
            refine TrQ.gq rfl rfl hF6 (QS.elRF rfl (by repeat (first | exact List.Mem.head _ | apply List.Mem.tail)) Try.isAgg26 (by omega) (by rfl)) rfl ?_
            refine TrQ.gq rfl rfl hF6 (QS.move rfl) rfl ?_
            refine TrQ.gq rfl rfl hF6 (QS.move rfl) rfl ?_
            refine TrQ.gq rfl rfl hF6 (QS.subI rfl rfl (by omega)) rfl ?_
            refine TrQ.gq rfl rfl hF6 (QS.idxRow rfl rfl (by repeat (first | exact List.Mem.head _ | apply List.Mem.tail)) Try.underlying24 Try.sizeOf27 (by rfl) (by omega)) rfl ?_
            refine TrQ.gq rfl rfl hF6 (QS.idxArr rfl rfl Try.underlying27 Try.sizeOf26 (by omega)) rfl ?_
            refine TrQ.gq rfl rfl hF6 (QS.elRF rfl (by repeat (first | exact List.Mem.head _ | apply List.Mem.tail)) Try.isAgg26 (by omega) (by rfl)) rfl ?_
            refine TrQ.gq rfl rfl hF6 (QS.eql32 rfl rfl) rfl ?_
            refine TrQ.gq rfl rfl hF6 (QS.move rfl) rfl ?_
            apply TrQ.andP
            · exact (rfl : _ = (13, 65, 78))
            · exact rfl
            · intro hT7; have hT7' := hT7
              try simp only [bs] at hT7'
              refine TrQ.gq rfl rfl hT7 (QS.move rfl) rfl ?_
              refine TrQ.gq rfl rfl hT7 (QS.move rfl) rfl ?_
              refine TrQ.gq rfl rfl hT7 (QS.idxRowN rfl rfl (by repeat (first | exact List.Mem.head _ | apply List.Mem.tail)) Try.underlying24 Try.sizeOf27 (by rfl) (by omega)) rfl ?_
              refine TrQ.gq rfl rfl hT7 (QS.idxArr rfl rfl Try.underlying27 Try.sizeOf26 (by omega)) rfl ?_
              refine TrQ.gq rfl rfl hT7 (QS.elRF rfl (by repeat (first | exact List.Mem.head _ | apply List.Mem.tail)) Try.isAgg26 (by omega) (by rfl)) rfl ?_
              refine TrQ.gq rfl rfl hT7 (QS.move rfl) rfl ?_
              refine TrQ.gq rfl rfl hT7 (QS.move rfl) rfl ?_
              refine TrQ.gq rfl rfl hT7 (QS.subI rfl rfl (by omega)) rfl ?_
              refine TrQ.gq rfl rfl hT7 (QS.idxRow rfl rfl (by repeat (first | exact List.Mem.head _ | apply List.Mem.tail)) Try.underlying24 Try.sizeOf27 (by rfl) (by omega)) rfl ?_
              refine TrQ.gq rfl rfl hT7 (QS.idxArr rfl rfl Try.underlying27 Try.sizeOf26 (by omega)) rfl ?_
              refine TrQ.gq rfl rfl hT7 (QS.elRF rfl (by repeat (first | exact List.Mem.head _ | apply List.Mem.tail)) Try.isAgg26 (by omega) (by rfl)) rfl ?_
              refine TrQ.gq rfl rfl hT7 (QS.leq32 rfl rfl) rfl ?_
              refine TrQ.gq rfl rfl hF6 (QS.pickT rfl hT7 rfl) rfl ?_
              exact TrQ.end (Sub.cons rfl (Sub.dropN 13 (by kernel_rfl) rfl))
            · intro hF7
              refine TrQ.gskip rfl rfl hF7 rfl ?_
              refine TrQ.gskip rfl rfl hF7 rfl ?_
              refine TrQ.gskip rfl rfl hF7 rfl ?_
              refine TrQ.gskip rfl rfl hF7 rfl ?_
              refine TrQ.gskip rfl rfl hF7 rfl ?_
              refine TrQ.gskip rfl rfl hF7 rfl ?_
              refine TrQ.gskip rfl rfl hF7 rfl ?_
              refine TrQ.gskip rfl rfl hF7 rfl ?_
              refine TrQ.gskip rfl rfl hF7 rfl ?_
              refine TrQ.gskip rfl rfl hF7 rfl ?_
              refine TrQ.gskip rfl rfl hF7 rfl ?_
              refine TrQ.gskip rfl rfl hF7 rfl ?_
              refine TrQ.gq rfl rfl hF6 (QS.pickF rfl hF7 rfl) rfl ?_
              exact TrQ.end (Sub.cons rfl (Sub.dropN 13 (by kernel_rfl) rfl))
            refine TrQ.gq rfl rfl hT5 (QS.pickF rfl hF6 rfl) rfl ?_
            exact TrQ.end (Sub.cons rfl (Sub.dropN 15 (by kernel_rfl) rfl))
          · intro hT6
            refine TrQ.gskip rfl rfl hT6 rfl ?_
            refine TrQ.gskip rfl rfl hT6 rfl ?_
            refine TrQ.gskip rfl rfl hT6 rfl ?_
            refine TrQ.gskip rfl rfl hT6 rfl ?_
            refine TrQ.gskip rfl rfl hT6 rfl ?_
            refine TrQ.gskip rfl rfl hT6 rfl ?_
            refine TrQ.gskip rfl rfl hT6 rfl ?_
            refine TrQ.gskip rfl rfl hT6 rfl ?_
            refine TrQ.gskip rfl rfl hT6 rfl ?_
            refine TrQ.gskip rfl rfl hT6 rfl ?_
            refine TrQ.gskip rfl rfl hT6 rfl ?_
            refine TrQ.gskip rfl rfl hT6 rfl ?_
            refine TrQ.gskip rfl rfl hT6 rfl ?_
            refine TrQ.gskipU rfl rfl rfl ?_
            refine TrQ.gskipU rfl rfl rfl ?_
            refine TrQ.gskipU rfl rfl rfl ?_
            refine TrQ.gskipU rfl rfl rfl ?_
            refine TrQ.gskipU rfl rfl rfl ?_
            refine TrQ.gskipU rfl rfl rfl ?_
            refine TrQ.gskipU rfl rfl rfl ?_
            refine TrQ.gskipU rfl rfl rfl ?_
            refine TrQ.gskipU rfl rfl rfl ?_
            refine TrQ.gskipU rfl rfl rfl ?_
            refine TrQ.gskipU rfl rfl rfl ?_
            refine TrQ.gskipU rfl rfl rfl ?_
            refine TrQ.gskip rfl rfl hT6 rfl ?_
            refine TrQ.gq rfl rfl hT5 (QS.pickT rfl hT6 rfl) rfl ?_
            exact TrQ.end (Sub.cons rfl (Sub.dropN 27 (by kernel_rfl) rfl))
          refine TrQ.gq rfl rfl hF4 (QS.pickT rfl hT5 rfl) rfl ?_
          exact TrQ.end (Sub.cons rfl (Sub.dropN 15 (by kernel_rfl) rfl))
        · intro hF5
          refine TrQ.gskip rfl rfl hF5 rfl ?_
          refine TrQ.gskip rfl rfl hF5 rfl ?_
          refine TrQ.gskip rfl rfl hF5 rfl ?_
          refine TrQ.gskip rfl rfl hF5 rfl ?_
          refine TrQ.gskip rfl rfl hF5 rfl ?_
          refine TrQ.gskip rfl rfl hF5 rfl ?_
          refine TrQ.gskip rfl rfl hF5 rfl ?_
          refine TrQ.gskip rfl rfl hF5 rfl ?_
          refine TrQ.gskip rfl rfl hF5 rfl ?_
          refine TrQ.gskip rfl rfl hF5 rfl ?_
          refine TrQ.gskip rfl rfl hF5 rfl ?_
          refine TrQ.gskip rfl rfl hF5 rfl ?_
          refine TrQ.gskip rfl rfl hF5 rfl ?_
          refine TrQ.gskipU rfl rfl rfl ?_
          refine TrQ.gskipU rfl rfl rfl ?_
          refine TrQ.gskipU rfl rfl rfl ?_
          refine TrQ.gskipU rfl rfl rfl ?_
          refine TrQ.gskipU rfl rfl rfl ?_
          refine TrQ.gskipU rfl rfl rfl ?_
          refine TrQ.gskipU rfl rfl rfl ?_
          refine TrQ.gskipU rfl rfl rfl ?_
          refine TrQ.gskipU rfl rfl rfl ?_
          refine TrQ.gskipU rfl rfl rfl ?_
          refine TrQ.gskipU rfl rfl rfl ?_
          refine TrQ.gskipU rfl rfl rfl ?_
          refine TrQ.gskipU rfl rfl rfl ?_
          refine TrQ.gskipU rfl rfl rfl ?_
          refine TrQ.gskipU rfl rfl rfl ?_
          refine TrQ.gskipU rfl rfl rfl ?_
          refine TrQ.gskipU rfl rfl rfl ?_
          refine TrQ.gskipU rfl rfl rfl ?_
          refine TrQ.gskipU rfl rfl rfl ?_
          refine TrQ.gskipU rfl rfl rfl ?_
          refine TrQ.gskipU rfl rfl rfl ?_
          refine TrQ.gskipU rfl rfl rfl ?_
          refine TrQ.gskipU rfl rfl rfl ?_
          refine TrQ.gskipU rfl rfl rfl ?_
          refine TrQ.gskipU rfl rfl rfl ?_
          refine TrQ.gskipU rfl rfl rfl ?_
          refine TrQ.gskip rfl rfl hF5 rfl ?_
          refine TrQ.gq rfl rfl hF4 (QS.pickF rfl hF5 rfl) rfl ?_
          exact TrQ.end (Sub.cons rfl (Sub.dropN 41 (by kernel_rfl) rfl))
        refine TrQ.q (QS.pickF rfl hF4 rfl) rfl ?_
        exact TrQ.end (Sub.cons rfl (Sub.dropN 5 (by kernel_rfl) rfl))
      · intro hT4
        refine TrQ.gskip rfl rfl hT4 rfl ?_
        refine TrQ.gskip rfl rfl hT4 rfl ?_
        refine TrQ.gskip rfl rfl hT4 rfl ?_
        refine TrQ.gskipU rfl rfl rfl ?_
        refine TrQ.gskipU rfl rfl rfl ?_
        refine TrQ.gskipU rfl rfl rfl ?_
        refine TrQ.gskipU rfl rfl rfl ?_
        refine TrQ.gskipU rfl rfl rfl ?_
        refine TrQ.gskipU rfl rfl rfl ?_
        refine TrQ.gskipU rfl rfl rfl ?_
        refine TrQ.gskipU rfl rfl rfl ?_
        refine TrQ.gskipU rfl rfl rfl ?_
        refine TrQ.gskipU rfl rfl rfl ?_
        refine TrQ.gskipU rfl rfl rfl ?_
        refine TrQ.gskipU rfl rfl rfl ?_
        refine TrQ.gskipU rfl rfl rfl ?_
        refine TrQ.gskipU rfl rfl rfl ?_
        refine TrQ.gskipU rfl rfl rfl ?_
        refine TrQ.gskipU rfl rfl rfl ?_
        refine TrQ.gskipU rfl rfl rfl ?_
        refine TrQ.gskipU rfl rfl rfl ?_
        refine TrQ.gskipU rfl rfl rfl ?_
        refine TrQ.gskipU rfl rfl rfl ?_
        refine TrQ.gskipU rfl rfl rfl ?_
        refine TrQ.gskipU rfl rfl rfl ?_
        refine TrQ.gskipU rfl rfl rfl ?_
        refine TrQ.gskipU rfl rfl rfl ?_
        refine TrQ.gskipU rfl rfl rfl ?_
        refine TrQ.gskipU rfl rfl rfl ?_
        refine TrQ.gskipU rfl rfl rfl ?_
        refine TrQ.gskipU rfl rfl rfl ?_
        refine TrQ.gskipU rfl rfl rfl ?_
        refine TrQ.gskipU rfl rfl rfl ?_
        refine TrQ.gskipU rfl rfl rfl ?_
        refine TrQ.gskipU rfl rfl rfl ?_
        refine TrQ.gskipU rfl rfl rfl ?_
        refine TrQ.gskipU rfl rfl rfl ?_
        refine TrQ.gskipU rfl rfl rfl ?_
        refine TrQ.gskipU rfl rfl rfl ?_
        refine TrQ.gskipU rfl rfl rfl ?_
        refine TrQ.gskipU rfl rfl rfl ?_
        refine TrQ.gskipU rfl rfl rfl ?_
        refine TrQ.gskipU rfl rfl rfl ?_
        refine TrQ.gskip rfl rfl hT4 rfl ?_
        refine TrQ.q (QS.pickT rfl hT4 rfl) rfl ?_
        exact TrQ.end (Sub.cons rfl (Sub.dropN 45 (by kernel_rfl) rfl))
      refine TrQ.nil ?_
      refine Tr.thenN ?_
      refine Tr.cond rfl (fun h8 => ?_) (fun h8 => ?_)
      · try simp only [bs] at h8
        refine Tr.seq ?_
        refine Tr.region ?_
        refine Tr.q (QS.assign rfl) rfl ?_
        refine Tr.nil ?_
        refine Tr.thenN ?_
        refine Tr.ret ?_
        refine Tr.thenR ?_
        refine Tr.inR ?_
        refine Tr.thenR ?_
        refine Tr.thenR ?_
        refine Tr.inR ?_
        refine Tr.thenR ?_
        refine Tr.ret1 Try.results3 rfl (fun w' hw => ?_)
        have g3 := g1 (by omega)
        have g4 := fun q => ltB_iff.1 (g2 (by omega) q)
        unfold ltPr at g4
        rw [hj] at h8
        simp only [UInt32.le_iff_toNat_le, UInt32.lt_iff_toNat_lt, ← UInt32.toNat_inj] at h8 g3
        exfalso; omega
      · try simp only [bs] at h8
        refine Tr.skip ?_
        refine Tr.thenN ?_
        refine Tr.seq ?_
        refine Tr.region ?_
        refine Tr.q (QS.assign rfl) rfl ?_
        refine Tr.nil ?_
        refine Tr.thenN ?_
        refine Tr.seq ?_
        refine Tr.seq ?_
        refine Tr.region ?_
        refine Tr.q (QS.assign rfl) rfl ?_
        refine Tr.nil ?_
        refine Tr.thenN ?_
        refine Tr.block ?_
        refine Tr.loop (ι := Nat × Bool) (fun ⟨x, fx⟩ => x ≤ l.length ∧ fx = (l.take x).any fun a => l.any (fndP (pl.getD i default) a)) (fun _ => _) (fun ⟨x, fx⟩ => [rowE V2 27 encRng pl]) (fun ⟨x, fx⟩ => [(7, .int .i64 (x : Nat)), (6, .bool fx)]) (fun ⟨x, fx⟩ => l.length - x) (0, false) ⟨Nat.zero_le _, rfl⟩ (.cons (by first | rfl | exact lookI rfl (by omega) | exact lookI rfl (by simp) | exact lookB rfl (by simp)) (.cons (by first | rfl | exact lookI rfl (by omega) | exact lookI rfl (by simp) | exact lookB rfl (by simp)) Front.nil)) (by repeat' (first | exact Pick.nil _ | exact Del.here _ | apply Pick.cons | apply Del.there)) rfl (fun i hi m hm => ?_)
        obtain ⟨x, fx⟩ := i
        replace hi : x ≤ l.length ∧ fx = (l.take x).any fun a => l.any (fndP (pl.getD i default) a) := hi
        replace hm : m = l.length - x := hm
        change Tr _ _ [rowE V2 27 encRng pl] ([(7, .int .i64 (x : Nat)), (6, .bool fx)] ++ _) _
        obtain ⟨hx1, hx2⟩ := hi
        refine Tr.seq ?_
        refine Tr.seq ?_
        refine Tr.region ?_
        refine Tr.q (QS.move rfl) rfl ?_
        refine Tr.q (QS.move rfl) rfl ?_
        refine Tr.q (QS.len rfl (by assumption) Try.underlying22) rfl ?_
        refine Tr.q (QS.lss rfl rfl) rfl ?_
        refine Tr.nil ?_
        refine Tr.thenN ?_
        refine Tr.cond rfl (fun h9 => ?_) (fun h9 => ?_)
        · try simp only [bs] at h9
          refine Tr.skip ?_
          refine Tr.thenN ?_
          refine Tr.seq ?_
          refine Tr.block ?_
          refine Tr.seq ?_
          refine Tr.region ?_
          refine Tr.q (QS.assign rfl) rfl ?_
          refine Tr.nil ?_
          refine Tr.thenN ?_
          refine Tr.block ?_
          refine Tr.loop (ι := Nat × Bool) (fun ⟨y, fy⟩ => y ≤ l.length ∧ fy = (fx || (l.take y).any (fndP (pl.getD i default) (l.getD x default)))) (fun _ => _) (fun ⟨y, fy⟩ => [rowE V2 27 encRng pl]) (fun ⟨y, fy⟩ => [(8, .int .i64 (y : Nat)), (6, .bool fy)]) (fun ⟨y, fy⟩ => l.length - y) (0, fx) ⟨Nat.zero_le _, by simp⟩ (.cons (by first | rfl | exact lookI rfl (by omega) | exact lookI rfl (by simp) | exact lookB rfl (by simp)) (.cons (by first | rfl | exact lookI rfl (by omega) | exact lookI rfl (by simp) | exact lookB rfl (by simp)) Front.nil)) (by repeat' (first | exact Pick.nil _ | exact Del.here _ | apply Pick.cons | apply Del.there)) rfl (fun i hi m hm => ?_)
          obtain ⟨y, fy⟩ := i
          replace hi : y ≤ l.length ∧ fy = (fx || (l.take y).any (fndP (pl.getD i default) (l.getD x default))) := hi
          replace hm : m = l.length - y := hm
          change Tr _ _ [rowE V2 27 encRng pl] ([(8, .int .i64 (y : Nat)), (6, .bool fy)] ++ _) _
          obtain ⟨hy1, hy2⟩ := hi
          refine Tr.seq ?_
          refine Tr.seq ?_
          refine Tr.region ?_
          refine Tr.q (QS.move rfl) rfl ?_
          refine Tr.q (QS.move rfl) rfl ?_
          refine Tr.q (QS.len rfl (by assumption) Try.underlying22) rfl ?_
          refine Tr.q (QS.lss rfl rfl) rfl ?_
          refine Tr.nil ?_
          refine Tr.thenN ?_
          refine Tr.cond rfl (fun h10 => ?_) (fun h10 => ?_)
          · try simp only [bs] at h10
            refine Tr.skip ?_
            refine Tr.thenN ?_
            refine Tr.seq ?_
            refine Tr.block ?_
            refine Tr.regionQ HLF.mixed (by kernel_rfl) ?_
            refine TrQ.q (QS.move rfl) rfl ?_
            refine TrQ.q (QS.move rfl) rfl ?_
            apply TrQ.orP
            · exact (rfl : _ = (36, 95, 131))
            · exact rfl
            · intro hF11; have hF11' := hF11
              try simp only [bs] at hF11'
              refine TrQ.gq rfl rfl hF11 (QS.move rfl) rfl ?_
              refine TrQ.gq rfl rfl hF11 (QS.move rfl) rfl ?_
              refine TrQ.gq rfl rfl hF11 (QS.idxN rfl rfl (by assumption) Try.underlying22 Try.sizeOf29 (by rfl) (by omega)) rfl ?_
              refine TrQ.gq rfl rfl hF11 (QS.fieldAddr (off := 0) (ft := 26) rfl Try.underlying29 rfl rfl Try.sizeOf26 (by decide)) rfl ?_
              refine TrQ.gq rfl rfl hF11 (QS.elF rfl (by assumption) Try.isAgg26 (by omega) (by rfl)) rfl ?_
              refine TrQ.gq rfl rfl hF11 (QS.move rfl) rfl ?_
              refine TrQ.gq rfl rfl hF11 (QS.move rfl) rfl ?_
              refine TrQ.gq rfl rfl hF11 (QS.idxRowN rfl rfl (by repeat (first | exact List.Mem.head _ | apply List.Mem.tail)) Try.underlying24 Try.sizeOf27 (by rfl) (by omega)) rfl ?_
              refine TrQ.gq rfl rfl hF11 (QS.idxArr rfl rfl Try.underlying27 Try.sizeOf26 (by omega)) rfl ?_
              refine TrQ.gq rfl rfl hF11 (QS.elRF rfl (by repeat (first | exact List.Mem.head _ | apply List.Mem.tail)) Try.isAgg26 (by omega) (by rfl)) rfl ?_
              refine TrQ.gq rfl rfl hF11 (QS.eql32 rfl rfl) rfl ?_
              refine TrQ.gq rfl rfl hF11 (QS.move rfl) rfl ?_
              apply TrQ.andP
              · exact (rfl : _ = (12, 107, 119))
              · exact rfl
              · intro hT12; have hT12' := hT12
                try simp only [bs] at hT12'
                refine TrQ.gq rfl rfl hT12 (QS.move rfl) rfl ?_
                refine TrQ.gq rfl rfl hT12 (QS.move rfl) rfl ?_
                refine TrQ.gq rfl rfl hT12 (QS.idxN rfl rfl (by assumption) Try.underlying22 Try.sizeOf29 (by rfl) (by omega)) rfl ?_
                refine TrQ.gq rfl rfl hT12 (QS.fieldAddr (off := 0) (ft := 26) rfl Try.underlying29 rfl rfl Try.sizeOf26 (by decide)) rfl ?_
                refine TrQ.gq rfl rfl hT12 (QS.elF rfl (by assumption) Try.isAgg26 (by omega) (by rfl)) rfl ?_
                refine TrQ.gq rfl rfl hT12 (QS.move rfl) rfl ?_
                refine TrQ.gq rfl rfl hT12 (QS.move rfl) rfl ?_
                refine TrQ.gq rfl rfl hT12 (QS.idxRowN rfl rfl (by repeat (first | exact List.Mem.head _ | apply List.Mem.tail)) Try.underlying24 Try.sizeOf27 (by rfl) (by omega)) rfl ?_
                refine TrQ.gq rfl rfl hT12 (QS.idxArr rfl rfl Try.underlying27 Try.sizeOf26 (by omega)) rfl ?_
                refine TrQ.gq rfl rfl hT12 (QS.elRF rfl (by repeat (first | exact List.Mem.head _ | apply List.Mem.tail)) Try.isAgg26 (by omega) (by rfl)) rfl ?_
                refine TrQ.gq rfl rfl hT12 (QS.eql32 rfl rfl) rfl ?_
                refine TrQ.gq rfl rfl hF11 (QS.pickT rfl hT12 rfl) rfl ?_
                exact TrQ.end (Sub.cons rfl (Sub.dropN 12 (by kernel_rfl) rfl))
              · intro hF12
                refine TrQ.gskip rfl rfl hF12 rfl ?_
                refine TrQ.gskip rfl rfl hF12 rfl ?_
                refine TrQ.gskip rfl rfl hF12 rfl ?_
                refine TrQ.gskip rfl rfl hF12 rfl ?_
                refine TrQ.gskip rfl rfl hF12 rfl ?_
                refine TrQ.gskip rfl rfl hF12 rfl ?_
                refine TrQ.gskip rfl rfl hF12 rfl ?_
                refine TrQ.gskip rfl rfl hF12 rfl ?_
                refine TrQ.gskip rfl rfl hF12 rfl ?_
                refine TrQ.gskip rfl rfl hF12 rfl ?_
                refine TrQ.gskip rfl rfl hF12 rfl ?_
                refine TrQ.gq rfl rfl hF11 (QS.pickF rfl hF12 rfl) rfl ?_
                exact TrQ.end (Sub.cons rfl (Sub.dropN 12 (by kernel_rfl) rfl))
              refine TrQ.gq rfl rfl hF11 (QS.move rfl) rfl ?_
              apply TrQ.andP
              · exact (rfl : _ = (10, 120, 130))
              · exact rfl
              · intro hT13; have hT13' := hT13
                try simp only [bs] at hT13'
                refine TrQ.gq rfl rfl hT13 (QS.move rfl) rfl ?_
                refine TrQ.gq rfl rfl hT13 (QS.move rfl) rfl ?_
                refine TrQ.gq rfl rfl hT13 (QS.idxN rfl rfl (by assumption) Try.underlying22 Try.sizeOf29 (by rfl) (by omega)) rfl ?_
                refine TrQ.gq rfl rfl hT13 (QS.elA rfl (by assumption) Try.isAgg29 Try.sizeOf29 (by rfl) (by omega)) rfl ?_
                refine TrQ.gq rfl rfl hT13 (QS.move rfl) rfl ?_
                refine TrQ.gq rfl rfl hT13 (QS.move rfl) rfl ?_
                refine TrQ.gq rfl rfl hT13 (QS.idxN rfl rfl (by assumption) Try.underlying22 Try.sizeOf29 (by rfl) (by omega)) rfl ?_
                refine TrQ.gq rfl rfl hT13 (QS.elA rfl (by assumption) Try.isAgg29 Try.sizeOf29 (by rfl) (by omega)) rfl ?_
                refine TrQ.gq rfl rfl hT13 (QS.call rfl Try.call6 (fun w hw => clash_any (l.getD x default) (l.getD y default) w (hIx _ (by omega)) (hIx _ (by omega)))) rfl ?_
                refine TrQ.gq rfl rfl hF11 (QS.pickT rfl hT13 rfl) rfl ?_
                exact TrQ.end (Sub.cons rfl (Sub.dropN 10 (by kernel_rfl) rfl))
              · intro hF13
                refine TrQ.gskip rfl rfl hF13 rfl ?_
                refine TrQ.gskip rfl rfl hF13 rfl ?_
                refine TrQ.gskip rfl rfl hF13 rfl ?_
                refine TrQ.gskip rfl rfl hF13 rfl ?_
                refine TrQ.gskip rfl rfl hF13 rfl ?_
                refine TrQ.gskip rfl rfl hF13 rfl ?_
                refine TrQ.gskip rfl rfl hF13 rfl ?_
                refine TrQ.gskip rfl rfl hF13 rfl ?_
                refine TrQ.gskip rfl rfl hF13 rfl ?_
                refine TrQ.gq rfl rfl hF11 (QS.pickF rfl hF13 rfl) rfl ?_
                exact TrQ.end (Sub.cons rfl (Sub.dropN 10 (by kernel_rfl) rfl))
              refine TrQ.q (QS.pickF rfl hF11 rfl) rfl ?_
              exact TrQ.end (Sub.cons rfl (Sub.dropN 16 (by kernel_rfl) rfl))
            · intro hT11
              refine TrQ.gskip rfl rfl hT11 rfl ?_
              refine TrQ.gskip rfl rfl hT11 rfl ?_
              refine TrQ.gskip rfl rfl hT11 rfl ?_
              refine TrQ.gskip rfl rfl hT11 rfl ?_
              refine TrQ.gskip rfl rfl hT11 rfl ?_
              refine TrQ.gskip rfl rfl hT11 rfl ?_
              refine TrQ.gskip rfl rfl hT11 rfl ?_
              refine TrQ.gskip rfl rfl hT11 rfl ?_
              refine TrQ.gskip rfl rfl hT11 rfl ?_
              refine TrQ.gskip rfl rfl hT11 rfl ?_
              refine TrQ.gskip rfl rfl hT11 rfl ?_
              refine TrQ.gskip rfl rfl hT11 rfl ?_
              refine TrQ.gskipU rfl rfl rfl ?_
              refine TrQ.gskipU rfl rfl rfl ?_
              refine TrQ.gskipU rfl rfl rfl ?_
              refine TrQ.gskipU rfl rfl rfl ?_
              refine TrQ.gskipU rfl rfl rfl ?_
              refine TrQ.gskipU rfl rfl rfl ?_
              refine TrQ.gskipU rfl rfl rfl ?_
              refine TrQ.gskipU rfl rfl rfl ?_
              refine TrQ.gskipU rfl rfl rfl ?_
              refine TrQ.gskipU rfl rfl rfl ?_
              refine TrQ.gskipU rfl rfl rfl ?_
              refine TrQ.gskip rfl rfl hT11 rfl ?_
              refine TrQ.gskip rfl rfl hT11 rfl ?_
              refine TrQ.gskipU rfl rfl rfl ?_
              refine TrQ.gskipU rfl rfl rfl ?_
              refine TrQ.gskipU rfl rfl rfl ?_
              refine TrQ.gskipU rfl rfl rfl ?_
              refine TrQ.gskipU rfl rfl rfl ?_
              refine TrQ.gskipU rfl rfl rfl ?_
              refine TrQ.gskipU rfl rfl rfl ?_
              refine TrQ.gskipU rfl rfl rfl ?_
              refine TrQ.gskipU rfl rfl rfl ?_
              refine TrQ.gskip rfl rfl hT11 rfl ?_
              refine TrQ.q (QS.pickT rfl hT11 rfl) rfl ?_
              exact TrQ.end (Sub.cons rfl (Sub.dropN 36 (by kernel_rfl) rfl))
            refine TrQ.q (QS.assign rfl) rfl ?_
            refine TrQ.nil ?_
            refine Tr.inN ?_
            refine Tr.thenN ?_
            refine Tr.region ?_
            refine Tr.q (QS.move rfl) rfl ?_
            refine Tr.q (QS.addI rfl rfl (by omega)) rfl ?_
            refine Tr.q (QS.assign rfl) rfl ?_
            refine Tr.nil ?_
            refine Tr.thenN ?_
            have hst := any_take_succ (p := fndP (pl.getD i default) (l.getD x default)) (l := l) (k := y) (by omega)
            apply Tr.again (y + 1, _)
            · exact rfl
            · exact (.cons (by first | rfl | exact lookI rfl (by omega) | exact lookI rfl (by simp) | exact lookB rfl (by simp)) (.cons (by first | rfl | exact lookI rfl (by omega) | exact lookI rfl (by simp) | exact lookB rfl (by simp)) Front.nil))
            · exact SubX.dropN 13 (by kernel_rfl) rfl
            · exact (by repeat' (first | exact Pick.nil _ | exact Del.here _ | apply Pick.cons | apply Del.there))
            · exact ⟨by omega, by rw [hst, ← Bool.or_assoc, ← hy2]; unfold fndP; simp_all⟩
            · exact (by (try dsimp only); omega)
          · try simp only [bs] at h10
            refine Tr.exit ?_
            refine Tr.thenE ?_
            refine Tr.thenE ?_
            refine Tr.inHit ?_
            refine Tr.inN ?_
            refine Tr.thenN ?_
            refine Tr.region ?_
            refine Tr.q (QS.move rfl) rfl ?_
            refine Tr.q (QS.addI rfl rfl (by omega)) rfl ?_
            refine Tr.q (QS.assign rfl) rfl ?_
            refine Tr.nil ?_
            refine Tr.thenN ?_
            obtain rfl : y = l.length := by omega
            rw [List.take_length] at hy2
            apply Tr.again (x + 1, _)
            · exact rfl
            · exact (.cons (by first | rfl | exact lookI rfl (by omega) | exact lookI rfl (by simp) | exact lookB rfl (by simp)) (.cons (by first | rfl | exact lookI rfl (by omega) | exact lookI rfl (by simp) | exact lookB rfl (by simp)) Front.nil))
            · exact SubX.dropN 16 (by kernel_rfl) rfl
            · exact (by repeat' (first | exact Pick.nil _ | exact Del.here _ | apply Pick.cons | apply Del.there))
            · exact ⟨by omega, by rw [any_take_succ (by omega), ← hx2, ← hy2]⟩
            · exact (by (try dsimp only); omega)
        · try simp only [bs] at h9
          refine Tr.exit ?_
          refine Tr.thenE ?_
          refine Tr.thenE ?_
          refine Tr.inHit ?_
          refine Tr.thenN ?_
          refine Tr.seq ?_
          refine Tr.region ?_
          refine Tr.q (QS.move rfl) rfl ?_
          refine Tr.q (QS.not rfl) rfl ?_
          refine Tr.nil ?_
          refine Tr.thenN ?_
          refine Tr.cond rfl (fun h14 => ?_) (fun h14 => ?_)
          · try simp only [bs] at h14
            refine Tr.seq ?_
            refine Tr.region ?_
            refine Tr.q (QS.assign rfl) rfl ?_
            refine Tr.nil ?_
            refine Tr.thenN ?_
            refine Tr.ret ?_
            refine Tr.inR ?_
            refine Tr.thenR ?_
            refine Tr.thenR ?_
            refine Tr.inR ?_
            refine Tr.thenR ?_
            refine Tr.ret1 Try.results3 rfl (fun w' hw => ?_)
            obtain rfl : x = l.length := by omega
            rw [List.take_length, f3 i (by omega)] at hx2
            exfalso; simp_all
          · try simp only [bs] at h14
            refine Tr.skip ?_
            refine Tr.inN ?_
            refine Tr.thenN ?_
            refine Tr.region ?_
            refine Tr.q (QS.move rfl) rfl ?_
            refine Tr.q (QS.addI rfl rfl (by omega)) rfl ?_
            refine Tr.q (QS.assign rfl) rfl ?_
            refine Tr.nil ?_
            refine Tr.thenN ?_
            apply Tr.again (i + 1)
            · exact rfl
            · exact (.cons (by first | rfl | exact lookI rfl (by omega) | exact lookI rfl (by simp) | exact lookB rfl (by simp)) (.cons (by first | rfl | exact lookI rfl (by omega) | exact lookI rfl (by simp) | exact lookB rfl (by simp)) Front.nil))
            · exact SubX.dropN 32 (by kernel_rfl) rfl
            · exact (by repeat' (first | exact Pick.nil _ | exact Del.here _ | apply Pick.cons | apply Del.there))
            · exact (by show i + 1 ≤ _; omega)
            · exact (by (try dsimp only); omega)
    · try simp only [bs] at h3
      refine Tr.exit ?_
      refine Tr.thenE ?_
      refine Tr.thenE ?_
      refine Tr.inHit ?_
      refine Tr.thenN ?_
      refine Tr.seq ?_
      refine Tr.seq ?_
      refine Tr.region ?_
      refine Tr.q (QS.assign rfl) rfl ?_
      refine Tr.nil ?_
      refine Tr.thenN ?_
      refine Tr.block ?_
      refine Tr.loop (ι := Nat × Int) (fun ⟨x, n⟩ => x ≤ l.length ∧ n = ((prsK l x).length : Int)) (fun _ => _) (fun ⟨x, n⟩ => [rowE V2 27 encRng pl]) (fun ⟨x, n⟩ => [(9, .int .i64 (x : Nat)), (4, .int .i64 n)]) (fun ⟨x, n⟩ => l.length - x) (0, 0) ⟨Nat.zero_le _, rfl⟩ (.cons (by first | rfl | exact lookI rfl (by omega) | exact lookI rfl (by simp) | exact lookB rfl (by simp)) (.cons (by first | rfl | exact lookI rfl (by omega) | exact lookI rfl (by simp) | exact lookB rfl (by simp)) Front.nil)) (by repeat' (first | exact Pick.nil _ | exact Del.here _ | apply Pick.cons | apply Del.there)) rfl (fun i hi m hm => ?_)
      obtain ⟨x, n⟩ := i
      replace hi : x ≤ l.length ∧ n = ((prsK l x).length : Int) := hi
      replace hm : m = l.length - x := hm
      change Tr _ _ [rowE V2 27 encRng pl] ([(9, .int .i64 (x : Nat)), (4, .int .i64 n)] ++ _) _
      obtain ⟨hx1, hx2⟩ := hi
      have hxl := prs_len l x
      refine Tr.seq ?_
      refine Tr.seq ?_
      refine Tr.region ?_
      refine Tr.q (QS.move rfl) rfl ?_
      refine Tr.q (QS.move rfl) rfl ?_
      refine Tr.q (QS.len rfl (by assumption) Try.underlying22) rfl ?_
      refine Tr.q (QS.lss rfl rfl) rfl ?_
      refine Tr.nil ?_
      refine Tr.thenN ?_
      refine Tr.cond rfl (fun h15 => ?_) (fun h15 => ?_)
      · try simp only [bs] at h15
        refine Tr.skip ?_
        refine Tr.thenN ?_
        refine Tr.seq ?_
        refine Tr.block ?_
        refine Tr.seq ?_
        refine Tr.region ?_
        refine Tr.q (QS.assign rfl) rfl ?_
        refine Tr.nil ?_
        refine Tr.thenN ?_
        refine Tr.block ?_
        refine Tr.loop (ι := Nat × Int) (fun ⟨y, n⟩ => y ≤ l.length ∧ n = ((prsK l x).length : Int) + (((l.take y).filter (ovP (l.getD x default))).length : Int)) (fun _ => _) (fun ⟨y, n⟩ => [rowE V2 27 encRng pl]) (fun ⟨y, n⟩ => [(10, .int .i64 (y : Nat)), (4, .int .i64 n)]) (fun ⟨y, n⟩ => l.length - y) (0, n) ⟨Nat.zero_le _, by simp [hx2]⟩ (.cons (by first | rfl | exact lookI rfl (by omega) | exact lookI rfl (by simp) | exact lookB rfl (by simp)) (.cons (by first | rfl | exact lookI rfl (by omega) | exact lookI rfl (by simp) | exact lookB rfl (by simp)) Front.nil)) (by repeat' (first | exact Pick.nil _ | exact Del.here _ | apply Pick.cons | apply Del.there)) rfl (fun i hi m hm => ?_)
        obtain ⟨y, n⟩ := i
        replace hi : y ≤ l.length ∧ n = ((prsK l x).length : Int) + (((l.take y).filter (ovP (l.getD x default))).length : Int) := hi
        replace hm : m = l.length - y := hm
        change Tr _ _ [rowE V2 27 encRng pl] ([(10, .int .i64 (y : Nat)), (4, .int .i64 n)] ++ _) _
        obtain ⟨hy1, hy2⟩ := hi
        have hyl := List.length_filter_le (ovP (l.getD x default)) (l.take y)
        rw [List.length_take] at hyl
        have hxm : x * l.length ≤ 40 * 40 := Nat.mul_le_mul (by omega) (by omega)
        have hov := ov_clash (l.getD x default) (l.getD y default)
        refine Tr.seq ?_
        refine Tr.seq ?_
        refine Tr.region ?_
        refine Tr.q (QS.move rfl) rfl ?_
        refine Tr.q (QS.move rfl) rfl ?_
        refine Tr.q (QS.len rfl (by assumption) Try.underlying22) rfl ?_
        refine Tr.q (QS.lss rfl rfl) rfl ?_
        refine Tr.nil ?_
        refine Tr.thenN ?_
        refine Tr.cond rfl (fun h16 => ?_) (fun h16 => ?_)
        · try simp only [bs] at h16
          refine Tr.skip ?_
          refine Tr.thenN ?_
          refine Tr.seq ?_
          refine Tr.block ?_
          refine Tr.seq ?_
          refine Tr.seq ?_
          refine Tr.regionQ HLF.mixed (by kernel_rfl) ?_
          refine TrQ.q (QS.move rfl) rfl ?_
          refine TrQ.q (QS.move rfl) rfl ?_
          refine TrQ.q (QS.idxN rfl rfl (by assumption) Try.underlying22 Try.sizeOf29 (by rfl) (by omega)) rfl ?_
          refine TrQ.q (QS.fieldAddr (off := 0) (ft := 26) rfl Try.underlying29 rfl rfl Try.sizeOf26 (by decide)) rfl ?_
          refine TrQ.q (QS.elF rfl (by assumption) Try.isAgg26 (by omega) (by rfl)) rfl ?_
          refine TrQ.q (QS.move rfl) rfl ?_
          refine TrQ.q (QS.move rfl) rfl ?_
          refine TrQ.q (QS.idxN rfl rfl (by assumption) Try.underlying22 Try.sizeOf29 (by rfl) (by omega)) rfl ?_
          refine TrQ.q (QS.fieldAddr (off := 0) (ft := 26) rfl Try.underlying29 rfl rfl Try.sizeOf26 (by decide)) rfl ?_
          refine TrQ.q (QS.elF rfl (by assumption) Try.isAgg26 (by omega) (by rfl)) rfl ?_
          refine TrQ.q (QS.geq32 rfl rfl) rfl ?_
          refine TrQ.q (QS.move rfl) rfl ?_
          apply TrQ.orP
          · exact (rfl : _ = (11, 157, 168))
          · exact rfl
          · intro hF17; have hF17' := hF17
            try simp only [bs] at hF17'
            refine TrQ.gq rfl rfl hF17 (QS.move rfl) rfl ?_
            refine TrQ.gq rfl rfl hF17 (QS.move rfl) rfl ?_
            refine TrQ.gq rfl rfl hF17 (QS.idxN rfl rfl (by assumption) Try.underlying22 Try.sizeOf29 (by rfl) (by omega)) rfl ?_
            refine TrQ.gq rfl rfl hF17 (QS.elA rfl (by assumption) Try.isAgg29 Try.sizeOf29 (by rfl) (by omega)) rfl ?_
            refine TrQ.gq rfl rfl hF17 (QS.move rfl) rfl ?_
            refine TrQ.gq rfl rfl hF17 (QS.move rfl) rfl ?_
            refine TrQ.gq rfl rfl hF17 (QS.idxN rfl rfl (by assumption) Try.underlying22 Try.sizeOf29 (by rfl) (by omega)) rfl ?_
            refine TrQ.gq rfl rfl hF17 (QS.elA rfl (by assumption) Try.isAgg29 Try.sizeOf29 (by rfl) (by omega)) rfl ?_
            refine TrQ.gq rfl rfl hF17 (QS.call rfl Try.call6 (fun w hw => clash_any (l.getD x default) (l.getD y default) w (hIx _ (by omega)) (hIx _ (by omega)))) rfl ?_
            refine TrQ.gq rfl rfl hF17 (QS.not rfl) rfl ?_
            refine TrQ.q (QS.pickF rfl hF17 rfl) rfl ?_
            exact TrQ.end (Sub.cons rfl (Sub.dropN 11 (by kernel_rfl) rfl))
          · intro hT17
            refine TrQ.gskip rfl rfl hT17 rfl ?_
            refine TrQ.gskip rfl rfl hT17 rfl ?_
            refine TrQ.gskip rfl rfl hT17 rfl ?_
            refine TrQ.gskip rfl rfl hT17 rfl ?_
            refine TrQ.gskip rfl rfl hT17 rfl ?_
            refine TrQ.gskip rfl rfl hT17 rfl ?_
            refine TrQ.gskip rfl rfl hT17 rfl ?_
            refine TrQ.gskip rfl rfl hT17 rfl ?_
            refine TrQ.gskip rfl rfl hT17 rfl ?_
            refine TrQ.gskip rfl rfl hT17 rfl ?_
            refine TrQ.q (QS.pickT rfl hT17 rfl) rfl ?_
            exact TrQ.end (Sub.cons rfl (Sub.dropN 11 (by kernel_rfl) rfl))
          refine TrQ.nil ?_
          refine Tr.thenN ?_
          refine Tr.cond rfl (fun h18 => ?_) (fun h18 => ?_)
          · try simp only [bs] at h18
            refine Tr.exit ?_
            refine Tr.thenE ?_
            refine Tr.inHit ?_
            refine Tr.thenN ?_
            refine Tr.region ?_
            refine Tr.q (QS.move rfl) rfl ?_
            refine Tr.q (QS.addI rfl rfl (by omega)) rfl ?_
            refine Tr.q (QS.assign rfl) rfl ?_
            refine Tr.nil ?_
            refine Tr.thenN ?_
            have hst := filter_take_neg (p := ovP (l.getD x default)) (l := l) (k := y) (by omega) (by rw [hov, Bool.and_eq_false_iff, decide_eq_false_iff_not, UInt32.not_lt]; assumption)
            apply Tr.again (y + 1, _)
            · exact rfl
            · exact (.cons (by first | rfl | exact lookI rfl (by omega) | exact lookI rfl (by simp) | exact lookB rfl (by simp)) (.cons (by first | rfl | exact lookI rfl (by omega) | exact lookI rfl (by simp) | exact lookB rfl (by simp)) Front.nil))
            · exact SubX.dropN 22 (by kernel_rfl) rfl
            · exact (by repeat' (first | exact Pick.nil _ | exact Del.here _ | apply Pick.cons | apply Del.there))
            · exact ⟨by omega, by rw [hst]; exact hy2⟩
            · exact (by (try dsimp only); omega)
          · try simp only [bs] at h18
            refine Tr.skip ?_
            refine Tr.thenN ?_
            refine Tr.seq ?_
            refine Tr.region ?_
            refine Tr.q (QS.move rfl) rfl ?_
            refine Tr.q (QS.addI rfl rfl (by omega)) rfl ?_
            refine Tr.q (QS.assign rfl) rfl ?_
            refine Tr.nil ?_
            refine Tr.thenN ?_
            refine Tr.seq ?_
            refine Tr.region ?_
            refine Tr.q (QS.assign rfl) rfl ?_
            refine Tr.nil ?_
            refine Tr.thenN ?_
            refine Tr.seq ?_
            refine Tr.seq ?_
            refine Tr.region ?_
            refine Tr.q (QS.assign rfl) rfl ?_
            refine Tr.nil ?_
            refine Tr.thenN ?_
            refine Tr.block ?_
            refine Tr.loop (ι := Nat × Bool) (fun ⟨i, fi⟩ => i ≤ pl.length ∧ fi = (pl.take i).any (fun q => decide (q = (⟨(l.getD x default).addr, (l.getD y default).addr⟩ : Rng)))) (fun _ => _) (fun ⟨i, fi⟩ => [rowE V2 27 encRng pl]) (fun ⟨i, fi⟩ => [(12, .int .i64 (i : Nat)), (11, .bool fi)]) (fun ⟨i, fi⟩ => pl.length - i) (0, false) ⟨Nat.zero_le _, rfl⟩ (.cons (by first | rfl | exact lookI rfl (by omega) | exact lookI rfl (by simp) | exact lookB rfl (by simp)) (.cons (by first | rfl | exact lookI rfl (by omega) | exact lookI rfl (by simp) | exact lookB rfl (by simp)) Front.nil)) (by repeat' (first | exact Pick.nil _ | exact Del.here _ | apply Pick.cons | apply Del.there)) rfl (fun i hi m hm => ?_)
            obtain ⟨i, fi⟩ := i
            replace hi : i ≤ pl.length ∧ fi = (pl.take i).any (fun q => decide (q = (⟨(l.getD x default).addr, (l.getD y default).addr⟩ : Rng))) := hi
            replace hm : m = pl.length - i := hm
            change Tr _ _ [rowE V2 27 encRng pl] ([(12, .int .i64 (i : Nat)), (11, .bool fi)] ++ _) _
            obtain ⟨hi1, hi2⟩ := hi
            refine Tr.seq ?_
            refine Tr.seq ?_
            refine Tr.region ?_
            refine Tr.q (QS.move rfl) rfl ?_
            refine Tr.q (QS.move rfl) rfl ?_
            refine Tr.q (QS.lenRow rfl (by repeat (first | exact List.Mem.head _ | apply List.Mem.tail)) Try.underlying24) rfl ?_
            refine Tr.q (QS.lss rfl rfl) rfl ?_
            refine Tr.nil ?_
            refine Tr.thenN ?_
            refine Tr.cond rfl (fun h19 => ?_) (fun h19 => ?_)
            · try simp only [bs] at h19
              refine Tr.skip ?_
              refine Tr.thenN ?_
              refine Tr.seq ?_
              refine Tr.block ?_
              refine Tr.regionQ HLF.mixed (by kernel_rfl) ?_
              refine TrQ.q (QS.move rfl) rfl ?_
              refine TrQ.q (QS.move rfl) rfl ?_
              apply TrQ.orP
              · exact (rfl : _ = (17, 178, 195))
              · exact rfl
              · intro hF20; have hF20' := hF20
                try simp only [bs] at hF20'
                refine TrQ.gq rfl rfl hF20 (QS.move rfl) rfl ?_
                refine TrQ.gq rfl rfl hF20 (QS.move rfl) rfl ?_
                refine TrQ.gq rfl rfl hF20 (QS.idxRowN rfl rfl (by repeat (first | exact List.Mem.head _ | apply List.Mem.tail)) Try.underlying24 Try.sizeOf27 (by rfl) (by omega)) rfl ?_
                refine TrQ.gq rfl rfl hF20 (QS.elRA rfl (by repeat (first | exact List.Mem.head _ | apply List.Mem.tail)) Try.isAgg27 Try.sizeOf27 (by rfl) (by omega)) rfl ?_
                refine TrQ.gq rfl rfl hF20 (QS.move rfl) rfl ?_
                refine TrQ.gq rfl rfl hF20 (QS.move rfl) rfl ?_
                refine TrQ.gq rfl rfl hF20 (QS.idxN rfl rfl (by assumption) Try.underlying22 Try.sizeOf29 (by rfl) (by omega)) rfl ?_
                refine TrQ.gq rfl rfl hF20 (QS.fieldAddr (off := 0) (ft := 26) rfl Try.underlying29 rfl rfl Try.sizeOf26 (by decide)) rfl ?_
                refine TrQ.gq rfl rfl hF20 (QS.elF rfl (by assumption) Try.isAgg26 (by omega) (by rfl)) rfl ?_
                refine TrQ.gq rfl rfl hF20 (QS.move rfl) rfl ?_
                refine TrQ.gq rfl rfl hF20 (QS.move rfl) rfl ?_
                refine TrQ.gq rfl rfl hF20 (QS.idxN rfl rfl (by assumption) Try.underlying22 Try.sizeOf29 (by rfl) (by omega)) rfl ?_
                refine TrQ.gq rfl rfl hF20 (QS.fieldAddr (off := 0) (ft := 26) rfl Try.underlying29 rfl rfl Try.sizeOf26 (by decide)) rfl ?_
                refine TrQ.gq rfl rfl hF20 (QS.elF rfl (by assumption) Try.isAgg26 (by omega) (by rfl)) rfl ?_
                refine TrQ.gq rfl rfl hF20 (QS.build (vs := [(0, _), (1, _)]) rfl rfl (HLF.built27_0_1 _ _)) rfl ?_
                refine TrQ.gq rfl rfl hF20 (QS.eqlP (q := ⟨(l.getD x default).addr, (l.getD y default).addr⟩) rfl rfl Try.underlying27 Try.underlying26 Try.sizeOf26 Try.isAgg26 HLF.eqg27) rfl ?_
                refine TrQ.q (QS.pickF rfl hF20 rfl) rfl ?_
                exact TrQ.end (Sub.cons rfl (Sub.dropN 17 (by kernel_rfl) rfl))
              · intro hT20
                refine TrQ.gskip rfl rfl hT20 rfl ?_
                refine TrQ.gskip rfl rfl hT20 rfl ?_
                refine TrQ.gskip rfl rfl hT20 rfl ?_
                refine TrQ.gskip rfl rfl hT20 rfl ?_
                refine TrQ.gskip rfl rfl hT20 rfl ?_
                refine TrQ.gskip rfl rfl hT20 rfl ?_
                refine TrQ.gskip rfl rfl hT20 rfl ?_
                refine TrQ.gskip rfl rfl hT20 rfl ?_
                refine TrQ.gskip rfl rfl hT20 rfl ?_
                refine TrQ.gskip rfl rfl hT20 rfl ?_
                refine TrQ.gskip rfl rfl hT20 rfl ?_
                refine TrQ.gskip rfl rfl hT20 rfl ?_
                refine TrQ.gskip rfl rfl hT20 rfl ?_
                refine TrQ.gskip rfl rfl hT20 rfl ?_
                refine TrQ.gskip rfl rfl hT20 rfl ?_
                refine TrQ.gskip rfl rfl hT20 rfl ?_
                refine TrQ.q (QS.pickT rfl hT20 rfl) rfl ?_
                exact TrQ.end (Sub.cons rfl (Sub.dropN 17 (by kernel_rfl) rfl))
              refine TrQ.q (QS.assign rfl) rfl ?_
              refine TrQ.nil ?_
              refine Tr.inN ?_
              refine Tr.thenN ?_
              refine Tr.region ?_
              refine Tr.q (QS.move rfl) rfl ?_
              refine Tr.q (QS.addI rfl rfl (by omega)) rfl ?_
              refine Tr.q (QS.assign rfl) rfl ?_
              refine Tr.nil ?_
              refine Tr.thenN ?_
              have hst := any_take_succ (p := (fun q => decide (q = (⟨(l.getD x default).addr, (l.getD y default).addr⟩ : Rng)))) (l := pl) (k := i) (by omega)
              apply Tr.again (i + 1, _)
              · exact rfl
              · exact (.cons (by first | rfl | exact lookI rfl (by omega) | exact lookI rfl (by simp) | exact lookB rfl (by simp)) (.cons (by first | rfl | exact lookI rfl (by omega) | exact lookI rfl (by simp) | exact lookB rfl (by simp)) Front.nil))
              · exact SubX.dropN 13 (by kernel_rfl) rfl
              · exact (by repeat' (first | exact Pick.nil _ | exact Del.here _ | apply Pick.cons | apply Del.there))
              · exact ⟨by omega, by rw [hst, ← hi2]⟩
              · exact (by (try dsimp only); omega)
            · try simp only [bs] at h19
              refine Tr.exit ?_
              refine Tr.thenE ?_
              refine Tr.thenE ?_
              refine Tr.inHit ?_
              refine Tr.thenN ?_
              refine Tr.seq ?_
              refine Tr.region ?_
              refine Tr.q (QS.move rfl) rfl ?_
              refine Tr.q (QS.not rfl) rfl ?_
              refine Tr.nil ?_
              refine Tr.thenN ?_
              refine Tr.cond rfl (fun h21 => ?_) (fun h21 => ?_)
              · try simp only [bs] at h21
                refine Tr.seq ?_
                refine Tr.region ?_
                refine Tr.q (QS.assign rfl) rfl ?_
                refine Tr.nil ?_
                refine Tr.thenN ?_
                refine Tr.ret ?_
                refine Tr.inR ?_
                refine Tr.thenR ?_
                refine Tr.thenR ?_
                refine Tr.inR ?_
                refine Tr.inR ?_
                refine Tr.thenR ?_
                refine Tr.thenR ?_
                refine Tr.inR ?_
                refine Tr.thenR ?_
                refine Tr.ret1 Try.results3 rfl (fun w' hw => ?_)
                obtain rfl : i = pl.length := by omega
                have q := f4 x y (by omega) (by omega) (by rw [hov, Bool.and_eq_true, decide_eq_true_eq, ← UInt32.not_le]; exact h18)
                rw [List.take_length, q] at hi2
                rw [hi2] at h21; cases h21
              · try simp only [bs] at h21
                refine Tr.skip ?_
                refine Tr.inN ?_
                refine Tr.thenN ?_
                refine Tr.region ?_
                refine Tr.q (QS.move rfl) rfl ?_
                refine Tr.q (QS.addI rfl rfl (by omega)) rfl ?_
                refine Tr.q (QS.assign rfl) rfl ?_
                refine Tr.nil ?_
                refine Tr.thenN ?_
                have hst := filter_take_pos (p := ovP (l.getD x default)) (l := l) (k := y) (by omega) (by simp_all)
                apply Tr.again (y + 1, _)
                · exact rfl
                · exact (.cons (by first | rfl | exact lookI rfl (by omega) | exact lookI rfl (by simp) | exact lookB rfl (by simp)) (.cons (by first | rfl | exact lookI rfl (by omega) | exact lookI rfl (by simp) | exact lookB rfl (by simp)) Front.nil))
                · exact SubX.dropN 35 (by kernel_rfl) rfl
                · exact (by repeat' (first | exact Pick.nil _ | exact Del.here _ | apply Pick.cons | apply Del.there))
                · exact ⟨by omega, by rw [hst, List.length_append]; simp only [List.length_singleton]; omega⟩
                · exact (by (try dsimp only); omega)
        · try simp only [bs] at h16
          refine Tr.exit ?_
          refine Tr.thenE ?_
          refine Tr.thenE ?_
          refine Tr.inHit ?_
          refine Tr.inN ?_
          refine Tr.thenN ?_
          refine Tr.region ?_
          refine Tr.q (QS.move rfl) rfl ?_
          refine Tr.q (QS.addI rfl rfl (by omega)) rfl ?_
          refine Tr.q (QS.assign rfl) rfl ?_
          refine Tr.nil ?_
          refine Tr.thenN ?_
          obtain rfl : y = l.length := by omega
          rw [List.take_length] at hy2
          apply Tr.again (x + 1, _)
          · exact rfl
          · exact (.cons (by first | rfl | exact lookI rfl (by omega) | exact lookI rfl (by simp) | exact lookB rfl (by simp)) (.cons (by first | rfl | exact lookI rfl (by omega) | exact lookI rfl (by simp) | exact lookB rfl (by simp)) Front.nil))
          · exact SubX.dropN 16 (by kernel_rfl) rfl
          · exact (by repeat' (first | exact Pick.nil _ | exact Del.here _ | apply Pick.cons | apply Del.there))
          · exact ⟨by omega, by rw [prs_succ]; omega⟩
          · exact (by (try dsimp only); omega)
      · try simp only [bs] at h15
        refine Tr.exit ?_
        refine Tr.thenE ?_
        refine Tr.thenE ?_
        refine Tr.inHit ?_
        refine Tr.thenN ?_
        refine Tr.seq ?_
        refine Tr.region ?_
        refine Tr.q (QS.move rfl) rfl ?_
        refine Tr.q (QS.lenRow rfl (by repeat (first | exact List.Mem.head _ | apply List.Mem.tail)) Try.underlying24) rfl ?_
        refine Tr.q (QS.move rfl) rfl ?_
        refine Tr.q (QS.leq rfl rfl) rfl ?_
        refine Tr.q (QS.move rfl) rfl ?_
        apply Tr.andP
        · exact (rfl : _ = (2, 202, 204))
        · exact rfl
        · intro hT22; have hT22' := hT22
          try simp only [bs] at hT22'
          refine Tr.gq rfl rfl hT22 (QS.call rfl Try.call4 (fun w hw => example13_any w)) rfl ?_
          refine Tr.q (QS.pickT rfl hT22 rfl) rfl ?_
          refine Tr.nil (Tr.thenN ?_)
          exact Tr.endX (Sub.cons rfl (Sub.dropN 2 (by kernel_rfl) rfl))
        · intro hF22
          refine Tr.gskip rfl rfl hF22 rfl ?_
          refine Tr.q (QS.pickF rfl hF22 rfl) rfl ?_
          refine Tr.nil (Tr.thenN ?_)
          exact Tr.endX (Sub.cons rfl (Sub.dropN 2 (by kernel_rfl) rfl))
        refine Tr.q (QS.assign rfl) rfl ?_
        refine Tr.nil ?_
        refine Tr.thenN ?_
        refine Tr.ret ?_
        refine Tr.ret1 Try.results3 rfl (fun w' hw => ?_)
        obtain rfl : x = l.length := by omega
        exact ⟨by rw [decide_eq_true (by omega)]; rfl, hw.below (Bg.le.refl _)⟩
end Go.Proofs.Ytmhbfelnjkhepaa
namespace Go.HL
open Go Go.Deep Go.ChangeShapes Go.WideShapes
section
variable {H : Type} {enc : TypeId × Value → H} {P : Program} {w : World} {base : Nat} {spare : Nat → Bool} {held : Bool}
theorem sl_of_trod {α : Type} [Inhabited α] {E : Enc α} {R : α → Prop} {t e : TypeId} {fuel : Nat} {V : Value} {x : DataW H × List MemPlace} (ht : P.underlying t = some (.slice e)) (hc : P.cellsOf e = E.k) (hk : 0 < E.k)
    (hf : ∀ n cs y, cs.length = E.k → DataW.trod enc P w base spare held n e cs = some y → ∃ a : α, cs = E.enc a ∧ R a)
    (h : DataW.trod enc P w base spare held fuel t [V] = some x) : ∃ l : List α, Sl (hp w) E l V ∧ ∀ a ∈ l, R a := by
  rcases open_slice ht h with ⟨h0, _⟩ | ⟨a, len, cap, m, n, D, Pl, hv, hb, hl, hm, hmm, _, hx⟩
  · simp only [List.cons.injEq, and_true] at h0
    subst h0
    exact ⟨[], Sl.nil _ _, by simp⟩
  · simp only [List.cons.injEq, and_true] at hv
    subst hv
    have hlm : len ≤ m := by rw [hmm]; split <;> omega
    have each : ∀ i, i < len → ∃ q : α, w.cells? base (a.add (i * E.k)) E.k = some (E.enc q) ∧ R q := fun i hi => by
      obtain ⟨cs', h1, h2⟩ := hx i (by omega)
      rw [hc] at h1
      obtain ⟨q, rfl, hq⟩ := hf n cs' _ (World.cells?_some h1).2.1 h2
      exact ⟨q, h1, hq⟩
    obtain ⟨f, hfn⟩ := choose_lt each
    have hsp : 0 < len → a = ⟨a.block, a.off, none⟩ := fun hl0 => by
      have h1 := (World.cells?_some (hfn 0 hl0).1).2.2 0 hk
      have hlen : 0 < (E.enc (f 0)).length := by rw [E.len]; exact hk
      rw [List.getElem?_eq_getElem hlen] at h1
      have hsp := World.cell?_spot h1
      obtain ⟨b, o, sp⟩ := a
      have : sp = none := by simpa [Addr.add] using hsp
      subst this
      rfl
    refine ⟨(List.range len).map f, ⟨⟨some a, cap, by simp, by simpa using hl, hm, fun hne => ?_⟩, fun i q hq => ?_⟩, fun q hq => ?_⟩
    · have hl0 : 0 < len := by
        rcases Nat.eq_zero_or_pos len with h | h
        · subst h; simp at hne
        · exact h
      rw [hsp hl0]; rfl
    · have hi : i < len := by
        have := (List.getElem?_eq_some_iff.1 hq).1
        simpa using this
      have hq' : f i = q := by simpa [hi] using hq
      subst hq'
      have ha := hsp (by omega)
      obtain ⟨b, o, sp⟩ := a
      obtain rfl : sp = none := by simpa using ha
      have hc' := (World.cells?_some (hfn i hi).1).2.2
      have hlen : (E.enc (f i)).length = E.k := E.len _
      have eA : ∀ j, (((⟨b, o, none⟩ : Addr).add (i * E.k)).add j) = ⟨b, o + i * E.k + j, none⟩ := fun j => by
        rw [Go.Deep.add_add]; simp only [Addr.add]
        by_cases h0 : i * E.k + j = 0
        · rw [if_pos h0]
          have : i * E.k = 0 := by omega
          have : j = 0 := by omega
          simp_all
        · rw [if_neg h0, Nat.add_assoc]
      have h1 := hc' 0 hk
      rw [List.getElem?_eq_getElem (by omega), eA] at h1
      have hb1 : ∃ cs T fz, w.heap[b]? = some (.cells cs T fz) := by
        unfold World.cell? at h1
        split at h1
        · rename_i cs T fz hh; exact ⟨cs, T, fz, hh⟩
        · simp at h1
      obtain ⟨cs, T, fz, hh⟩ := hb1
      refine ⟨cs, T, fz, hh, fun j v hj => ?_⟩
      have hjk : j < E.k := by have := (List.getElem?_eq_some_iff.1 hj).1; omega
      have h2 := hc' j hjk
      rw [hj, eA] at h2
      unfold World.cell? at h2
      simp only [hh] at h2
      simp only [ofs]
      simpa using h2
    · obtain ⟨i, hi, rfl⟩ := List.mem_map.1 hq
      exact (hfn i (List.mem_range.1 hi)).2
theorem u32_of_wf {n : Int} (h : (Lit.int .u32 n).wf = true) : ∃ x : UInt32, n = (x.toNat : Int) := by
  have := bounds_u32 h
  refine ⟨UInt32.ofNat n.toNat, ?_⟩
  rw [UInt32.toNat_ofNat']; omega
end
end Go.HL
namespace Go.HL
open Go Go.Deep Go.ChangeShapes Go.WideShapes
section
variable {H : Type} {enc : TypeId × Value → H} {P : Program} {w : World} {base : Nat} {spare : Nat → Bool} {held : Bool}
theorem flat_ins {e t0 t1 : TypeId} {f0 f1 f2 f3 f4 f5 f6 f7 f8 : Field} (he : P.underlying e = some (.struct #[f0, f1, f2, f3, f4, f5, f6, f7, f8]))
    (ho : [f0.offset, f1.offset, f2.offset, f3.offset, f4.offset, f5.offset, f6.offset, f7.offset, f8.offset] = [0, 1, 2, 3, 4, 5, 6, 7, 8])
    (ht : [f0.type, f1.type, f2.type, f3.type, f4.type, f5.type, f6.type, f7.type, f8.type] = [t0, t0, t1, t1, t1, t1, t1, t1, t1])
    (c0 : P.cellsOf t0 = 1) (c1 : P.cellsOf t1 = 1) (u0 : P.underlying t0 = some (.int .u32)) (u1 : P.underlying t1 = some (.int .i64))
    {n : Nat} {cs : List Value} {y : DataW H × List MemPlace} (hl : cs.length = 9) (h : DataW.trod enc P w base spare held n e cs = some y) : ∃ i, cs = encIns.enc i ∧ InsOK i := by
  simp only [List.cons.injEq, and_true] at ho ht
  obtain ⟨o0, o1, o2, o3, o4, o5, o6, o7, o8⟩ := ho
  obtain ⟨t0', t1', t2', t3', t4', t5', t6', t7', t8'⟩ := ht
  obtain ⟨xs, k, hk, hxy, _, hxl, hf⟩ := DataW.trod_struct he h
  match xs, hxl, cs, hl with
  | [y0, y1, y2, y3, y4, y5, y6, y7, y8], _, [v0, v1, v2, v3, v4, v5, v6, v7, v8], _ =>
    have g0 := hf 0 f0 rfl
    have g1 := hf 1 f1 rfl
    have g2 := hf 2 f2 rfl
    have g3 := hf 3 f3 rfl
    have g4 := hf 4 f4 rfl
    have g5 := hf 5 f5 rfl
    have g6 := hf 6 f6 rfl
    have g7 := hf 7 f7 rfl
    have g8 := hf 8 f8 rfl
    simp [o0, o1, o2, o3, o4, o5, o6, o7, o8, t0', t1', t2', t3', t4', t5', t6', t7', t8', c0, c1] at g0 g1 g2 g3 g4 g5 g6 g7 g8
    obtain ⟨z0, e0, _, w0⟩ := DataW.trod_int u0 g0
    obtain ⟨z1, e1, _, w1⟩ := DataW.trod_int u0 g1
    obtain ⟨z2, e2, _, w2⟩ := DataW.trod_int u1 g2
    obtain ⟨z3, e3, _, w3⟩ := DataW.trod_int u1 g3
    obtain ⟨z4, e4, _, w4⟩ := DataW.trod_int u1 g4
    obtain ⟨z5, e5, _, w5⟩ := DataW.trod_int u1 g5
    obtain ⟨z6, e6, _, w6⟩ := DataW.trod_int u1 g6
    obtain ⟨z7, e7, _, w7⟩ := DataW.trod_int u1 g7
    obtain ⟨z8, e8, _, w8⟩ := DataW.trod_int u1 g8
    obtain ⟨x0, rfl⟩ := u32_of_wf w0
    obtain ⟨x1, rfl⟩ := u32_of_wf w1
    simp only [List.cons.injEq, and_true] at e0 e1 e2 e3 e4 e5 e6 e7 e8
    subst e0; subst e1; subst e2; subst e3; subst e4; subst e5; subst e6; subst e7; subst e8
    have b2 := bounds_i64 w2
    have b3 := bounds_i64 w3
    have b4 := bounds_i64 w4
    have b5 := bounds_i64 w5
    have b6 := bounds_i64 w6
    have b7 := bounds_i64 w7
    have b8 := bounds_i64 w8
    exact ⟨⟨x0, x1, z2, z3, z4, z5, z6, z7, z8⟩, rfl, ⟨b2, b3, b4, b5, b6, b7, b8⟩⟩
end
end Go.HL
