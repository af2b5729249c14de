/- Own rules and walks, part 4. -/
import Derived.Test.YtpeaodkfbjenpaaB3
set_option linter.unusedSimpArgs false
set_option linter.unusedVariables false
set_option linter.unusedSectionVars false
namespace Go.Proofs.Ytpeaodkfbjenpaa
open Go Go.HL Go.RowKit
def effF (op : Int) : Nat :=
 if op = 3 ∨ op = 4 then 74 else if op = 16 ∨ op = 17 ∨ op = 18 then 75 else if op = 20 ∨ op = 21 ∨ op = 22 then 76 else if op = 23 ∨ op = 24 ∨ op = 2 then 77 else if op = 26 ∨ op = 27 then 78 else 79
def effV (op : Int) : Value := .func (.func (effF op)) #[] #[]
set_option maxRecDepth 100000 in
set_option maxHeartbeats 2000000 in
theorem cmade_any (s : St) (bc bM : Nat) (vi vo eff : Value) (w : World) (hc : CellsIn (hp w) bc (cpuC s bM vi vo eff)) :
  Calls Try.prog 37 #[.pointer (some ⟨bc, 0, none⟩)] w (fun e w' => e = .returned (.bool true) ∧ Ext w w') := by
 have hc' : CellsIn (Bg.of w).blk bc (cpuC s bM vi vo eff) := hc
 refine enter Try.func37 rfl Try.ntmps37 rfl ?_
 refine Tr.seq (Tr.region ?_)
 refine Tr.q (QS.assign rfl) rfl ?_
 refine Tr.nil (Tr.thenN (Tr.seq (Tr.region ?_)))
 refine Tr.q (QS.move rfl) rfl ?_
 refine Tr.q (QS.neqPN rfl rfl Try.underlying27 rfl) rfl ?_
 refine Tr.q (QS.move rfl) rfl ?_
 apply Tr.andP
 ·exact (rfl : _ = (6, 5, 11))
 ·exact rfl
 ·intro hT1; have hT1' := hT1
  try simp only [bs] at hT1'
  refine Tr.gq rfl rfl hT1 (QS.move rfl) rfl ?_
  refine Tr.gq rfl rfl hT1 (QS.nilCheck rfl) rfl ?_
  refine Tr.gq rfl rfl hT1 (QS.fieldAddr (off := 13) (ft := 23) rfl Try.underlying47 rfl rfl Try.sizeOf23 (by decide)) rfl ?_
  refine Tr.gq rfl rfl hT1 (QS.loadCF rfl (by assumption) Try.isAgg23 (by rfl)) rfl ?_
  refine Tr.gq rfl rfl hT1 (QS.neqPN rfl rfl Try.underlying23 rfl) rfl ?_
  refine Tr.q (QS.pickT rfl hT1 rfl) rfl ?_
  refine Tr.nil (Tr.thenN ?_)
  exact Tr.endX (Sub.cons rfl (Sub.dropN 6 (by kernel_rfl) rfl))
 ·intro hF1
  refine Tr.gskip rfl rfl hF1 rfl ?_
  refine Tr.gskip rfl rfl hF1 rfl ?_
  refine Tr.gskip rfl rfl hF1 rfl ?_
  refine Tr.gskip rfl rfl hF1 rfl ?_
  refine Tr.gskip rfl rfl hF1 rfl ?_
  refine Tr.q (QS.pickF rfl hF1 rfl) rfl ?_
  refine Tr.nil (Tr.thenN ?_)
  exact Tr.endX (Sub.cons rfl (Sub.dropN 6 (by kernel_rfl) rfl))
 refine Tr.q (QS.assign rfl) rfl ?_
 refine Tr.nil (Tr.thenN (Tr.ret ?_))
 refine Tr.ret1 Try.results37 rfl (fun w' hw => ?_)
 exact ⟨rfl, hw.below (Bg.le.refl _)⟩
set_option maxRecDepth 100000 in
set_option maxHeartbeats 2000000 in
theorem cmade_nil (w : World) :
  Calls Try.prog 37 #[.pointer none] w (fun e w' => e = .returned (.bool false) ∧ Ext w w') := by
 refine enter Try.func37 rfl Try.ntmps37 rfl ?_
 refine Tr.seq (Tr.region ?_)
 refine Tr.q (QS.assign rfl) rfl ?_
 refine Tr.nil (Tr.thenN (Tr.seq (Tr.region ?_)))
 refine Tr.q (QS.move rfl) rfl ?_
 refine Tr.q (QS.neqPN rfl rfl Try.underlying27 rfl) rfl ?_
 refine Tr.q (QS.move rfl) rfl ?_
 apply Tr.andP (y := true)
 ·exact (rfl : _ = (6, 5, 11))
 ·exact rfl
 ·intro hT1; have hT1' := hT1
  try simp only [bs] at hT1'
  cases hT1
 ·intro hF1
  refine Tr.gskip rfl rfl hF1 rfl ?_
  refine Tr.gskip rfl rfl hF1 rfl ?_
  refine Tr.gskip rfl rfl hF1 rfl ?_
  refine Tr.gskip rfl rfl hF1 rfl ?_
  refine Tr.gskip rfl rfl hF1 rfl ?_
  refine Tr.q (QS.pickF rfl hF1 rfl) rfl ?_
  refine Tr.nil (Tr.thenN ?_)
  exact Tr.endX (Sub.cons rfl (Sub.dropN 6 (by kernel_rfl) rfl))
 refine Tr.q (QS.assign rfl) rfl ?_
 refine Tr.nil (Tr.thenN (Tr.ret ?_))
 refine Tr.ret1 Try.results37 rfl (fun w' hw => ?_)
 exact ⟨rfl, hw.below (Bg.le.refl _)⟩
set_option maxRecDepth 100000 in
set_option maxHeartbeats 2000000 in
theorem source_cpu (s : St) (bc bM : Nat) (vi vo eff : Value) (i : Ins) (w : World) (hc : CellsIn (hp w) bc (cpuC s bM vi vo eff)) (hB : 0 ≤ i.b ∧ i.b < 8) :
  Calls Try.prog 90 #[.pointer (some ⟨bc, 0, none⟩), .agg (encIns.enc i).toArray] w (fun e w' => e = .returned (.int .u32 (srcP s.m i).toNat) ∧ Ext w w') := by
 have hc' : CellsIn (Bg.of w).blk bc (cpuC s bM vi vo eff) := hc
 refine enter Try.func90 rfl Try.ntmps90 rfl ?_
 refine Tr.seq (Tr.region ?_)
 refine Tr.box rfl rfl rfl (fun b1 => ?_)
 refine Tr.q (QS.assign rfl) rfl ?_
 refine Tr.nil (Tr.thenN (Tr.seq (Tr.seq (Tr.region ?_))))
 refine Tr.q (QS.fieldAddr (off := 3) (ft := 3) rfl Try.underlying67 rfl rfl Try.sizeOf3 (by decide)) rfl ?_
 refine Tr.q (QS.lV rfl Try.isAgg3) rfl ?_
 refine Tr.q (QS.eql rfl rfl) rfl ?_
 refine Tr.nil (Tr.thenN ?_)
 refine Tr.cond rfl (fun h2 => ?_) (fun h2 => ?_)
 ·try simp only [bs] at h2
  refine Tr.seq ?_
  refine Tr.regionH ([cellE b1 (encIns.enc i) 67]) 9 rfl HLF.mixed ?_
  refine Tr.hT 0 rfl (by kernel_rfl) (panicThen (panicThen panicBody)) (QS.move rfl) ?_
  refine Tr.hT 1 rfl (by kernel_rfl) (panicThen (panicThen panicBody)) (QS.fieldAddr (off := 7) (ft := 3) rfl Try.underlying67 rfl rfl Try.sizeOf3 (by decide)) ?_
  refine Tr.hT 2 rfl (by kernel_rfl) (panicThen (panicThen panicBody)) (QS.lV rfl Try.isAgg3) ?_
  refine Tr.hT 3 rfl (by kernel_rfl) (panicThen (panicThen panicBody)) (QS.nilCheck rfl) ?_
  refine Tr.hT 4 rfl (by kernel_rfl) (panicThen (panicThen panicBody)) (QS.fieldAddr (off := 0) (ft := 42) rfl Try.underlying47 rfl rfl Try.sizeOf42 (by decide)) ?_
  refine Tr.hT 5 rfl (by kernel_rfl) (panicThen (panicThen panicBody)) (QS.fieldAddr (off := 0) (ft := 38) rfl Try.underlying42 rfl rfl Try.sizeOf38 (by decide)) ?_
  refine Tr.hT 6 rfl (by kernel_rfl) (panicThen (panicThen panicBody)) (QS.idxArr rfl rfl Try.underlying38 Try.sizeOf22 (by omega)) ?_
  refine Tr.hT 7 rfl (by kernel_rfl) (panicThen (panicThen panicBody)) (QS.loadCF rfl hc' Try.isAgg22 (cpuC_reg hB (by simp))) ?_
  refine Tr.hT 8 rfl (by kernel_rfl) (panicThen (panicThen panicBody)) (QS.assign rfl) ?_
  refine Tr.hDone (by kernel_rfl) ?_
  refine Tr.thenN (Tr.ret (Tr.thenR ?_))
  refine Tr.ret1 Try.results90 rfl (fun w' hw => ?_)
  exact ⟨by unfold srcP; rw [if_pos (by assumption)], hw.below (Bg.le.refl _)⟩
 ·try simp only [bs] at h2
  refine Tr.skip (Tr.thenN (Tr.seq (Tr.region ?_)))
  refine Tr.q (QS.fieldAddr (off := 1) (ft := 22) rfl Try.underlying67 rfl rfl Try.sizeOf22 (by decide)) rfl ?_
  refine Tr.q (QS.lV rfl Try.isAgg22) rfl ?_
  refine Tr.q (QS.assign rfl) rfl ?_
  refine Tr.nil (Tr.thenN (Tr.ret ?_))
  refine Tr.ret1 Try.results90 rfl (fun w' hw => ?_)
  exact ⟨by unfold srcP; rw [if_neg (by assumption)], hw.below (Bg.le.refl _)⟩
set_option maxRecDepth 100000 in
set_option maxHeartbeats 2000000 in
theorem next_cpu (s : St) (bc bM : Nat) (vi vo eff : Value) (i : Ins) (w : World) (ho : OwnAt w [cellE bc (cpuC s bM vi vo eff) 47]) (hI : InsOK i) :
  Calls Try.prog 87 #[.pointer (some ⟨bc, 0, none⟩), .agg (encIns.enc i).toArray] w (fun e w' => ∃ _ : Unit, e = .returned (.tuple #[]) ∧ Upd 0 w w' (blks [cellE bc (cpuC s bM vi vo eff) 47]) [cellE bc (cpuC (s.to (nextP i)) bM vi vo eff) 47] ∧ True) := by
 refine enterB (L := [cellE bc (cpuC s bM vi vo eff) 47]) ho rfl (Nat.zero_le _) Try.func87 rfl Try.ntmps87 rfl ?_
 refine Tr.seq (Tr.region ?_)
 refine Tr.box rfl rfl rfl (fun b1 => ?_)
 refine Tr.nil (Tr.thenN (Tr.region ?_))
 refine Tr.q (QS.move rfl) rfl ?_
 refine Tr.q (QS.lW rfl Try.isAgg67 Try.sizeOf67) rfl ?_
 refine Tr.q (QS.call rfl Try.call88 (fun w hw => next_isa i w hI)) rfl ?_
 refine Tr.q (QS.nilCheck rfl) rfl ?_
 refine Tr.q (QS.fieldAddr (off := 0) (ft := 42) rfl Try.underlying47 rfl rfl Try.sizeOf42 (by decide)) rfl ?_
 refine Tr.q (QS.fieldAddr (off := 8) (ft := 22) rfl Try.underlying42 rfl rfl Try.sizeOf22 (by decide)) rfl ?_
 refine Tr.storeV rfl rfl Try.sizeOf22 (by repeat constructor) (cpuC_to _) (by rfl) (by exact Nat.le_of_ble_eq_true rfl) (by first | exact List.all_eq_true.1 rfl | exact Enc.one _ _ | (intro u hu; simp [Value.cells] at hu; simp_all [Value.oneCell'])) rfl ?_
 refine Tr.nil ?_
 refine Tr.ret0n Try.results87 (fun w' hw => ?_)
 exact ⟨(), rfl, hw.upd (Bg.le.refl _) (by repeat' constructor), trivial⟩
set_option maxRecDepth 100000 in
set_option maxHeartbeats 8000000 in
theorem plain_cpu (s : St) (bc bM : Nat) (vi vo eff : Value) (i : Ins) (w : World) (ho : OwnAt w [cellE bc (cpuC s bM vi vo eff) 47]) (hI : InsOK i) (hA : 0 ≤ i.a ∧ i.a < 8) (hB : 0 ≤ i.b ∧ i.b < 8) :
  Calls Try.prog 79 #[.pointer (some ⟨bc, 0, none⟩), .agg (encIns.enc i).toArray] w (fun e w' => ∃ _ : Unit, e = .returned (.int .i64 0) ∧ Upd 0 w w' (blks [cellE bc (cpuC s bM vi vo eff) 47]) [cellE bc (cpuC (plainS s i (nextP i)) bM vi vo eff) 47] ∧ True) := by
 refine enterB (L := [cellE bc (cpuC s bM vi vo eff) 47]) ho rfl (Nat.zero_le _) Try.func79 rfl Try.ntmps79 rfl ?_
 refine Tr.seq (Tr.region ?_)
 refine Tr.box rfl rfl rfl (fun b1 => ?_)
 refine Tr.q (QS.assign rfl) rfl ?_
 refine Tr.nil (Tr.thenN (Tr.seq ?_))
 refine Tr.regionH ([cellE bc (cpuC s bM vi vo eff) 47, cellE b1 (encIns.enc i) 67]) 13 rfl HLF.mixed ?_
 refine Tr.hT 0 rfl (by kernel_rfl) (panicThen panicBody) (QS.move rfl) ?_
 refine Tr.hT 1 rfl (by kernel_rfl) (panicThen panicBody) (QS.fieldAddr (off := 6) (ft := 3) rfl Try.underlying67 rfl rfl Try.sizeOf3 (by decide)) ?_
 refine Tr.hT 2 rfl (by kernel_rfl) (panicThen panicBody) (QS.lV rfl Try.isAgg3) ?_
 refine Tr.hT 3 rfl (by kernel_rfl) (panicThen panicBody) (QS.nilCheck rfl) ?_
 refine Tr.hT 4 rfl (by kernel_rfl) (panicThen panicBody) (QS.fieldAddr (off := 0) (ft := 42) rfl Try.underlying47 rfl rfl Try.sizeOf42 (by decide)) ?_
 refine Tr.hT 5 rfl (by kernel_rfl) (panicThen panicBody) (QS.fieldAddr (off := 0) (ft := 38) rfl Try.underlying42 rfl rfl Try.sizeOf38 (by decide)) ?_
 refine Tr.hT 6 rfl (by kernel_rfl) (panicThen panicBody) (QS.idxArr rfl rfl Try.underlying38 Try.sizeOf22 (by omega)) ?_
 refine Tr.hT 7 rfl (by kernel_rfl) (panicThen panicBody) (QS.loadV rfl (by repeat constructor) Try.isAgg22 (cpuC_reg hA (by simp))) ?_
 refine Tr.hT 8 rfl (by kernel_rfl) (panicThen panicBody) (QS.move rfl) ?_
 refine Tr.hT 9 rfl (by kernel_rfl) (panicThen panicBody) (QS.lW rfl Try.isAgg67 Try.sizeOf67) ?_
 refine Tr.hAll [10] (by kernel_rfl) (by simp) (fun iq hq => ?_)
 obtain rfl := List.mem_singleton.1 hq
 refine Tr.hOp rfl ?_
 refine Tr.q (QS.call rfl Try.call90 (fun w hw => source_cpu s bc bM vi vo eff i w (cellE.cellsIn (hw.ent _ (by repeat constructor)) (Ext.refl _)) hB)) rfl ?_
 refine Tr.hN ?_
 refine Tr.hT 11 rfl (by kernel_rfl) (panicThen panicBody) (QS.assign rfl) ?_
 refine Tr.hT 12 rfl (by kernel_rfl) (panicThen panicBody) (QS.assign rfl) ?_
 refine Tr.hDone (by kernel_rfl) ?_
 refine Tr.thenN (Tr.seq ?_)
 refine Tr.regionH ([cellE bc (cpuC s bM vi vo eff) 47, cellE b1 (encIns.enc i) 67]) 9 rfl HLF.mixed ?_
 refine Tr.hT 0 rfl (by kernel_rfl) (panicThen panicBody) (QS.move rfl) ?_
 refine Tr.hT 1 rfl (by kernel_rfl) (panicThen panicBody) (QS.move rfl) ?_
 refine Tr.hT 2 rfl (by kernel_rfl) (panicThen panicBody) (QS.nilCheck rfl) ?_
 refine Tr.hT 3 rfl (by kernel_rfl) (panicThen panicBody) (QS.fieldAddr (off := 0) (ft := 42) rfl Try.underlying47 rfl rfl Try.sizeOf42 (by decide)) ?_
 refine Tr.hT 4 rfl (by kernel_rfl) (panicThen panicBody) (QS.fieldAddr (off := 9) (ft := 40) rfl Try.underlying42 rfl rfl Try.sizeOf40 (by decide)) ?_
 refine Tr.hT 5 rfl (by kernel_rfl) (panicThen panicBody) (QS.loadVA (vs := encFlg.enc s.m.f) rfl (by repeat constructor) Try.isAgg40 Try.sizeOf40 rfl rfl) ?_
 refine Tr.hAll [6] (by kernel_rfl) (by simp) (fun iq hq => ?_)
 obtain rfl := List.mem_singleton.1 hq
 refine Tr.hOp rfl ?_
 refine Tr.alloc Try.zeroValue40 rfl rfl (fun b2 => ?_)
 refine Tr.hN ?_
 refine Tr.hT 7 rfl (by kernel_rfl) (panicThen panicBody) (QS.assign rfl) ?_
 refine Tr.hAll [8] (by kernel_rfl) (by simp) (fun iq hq => ?_)
 obtain rfl := List.mem_singleton.1 hq
 refine Tr.hOp rfl ?_
 refine Tr.storeW rfl rfl Try.sizeOf40 (by repeat constructor) (by rfl) (by rfl) (by first | exact List.all_eq_true.1 rfl | exact Enc.one _ _ | exact Enc.one encFlg _) rfl ?_
 refine Tr.hN ?_
 refine Tr.hDone (by kernel_rfl) ?_
 refine Tr.thenN ?_
 refine Tr.seqJ (ι := UInt32 × Flg × Bool) (fun ⟨r, f, dn⟩ => r = (aluP s.m i).1 ∧ f = (aluP s.m i).2 ∧ dn = (decide (i.op = 1) || s.done)) (fun _ => (Bg.lessB w (blks [cellE bc (cpuC s bM vi vo eff) 47]) 0)) (fun ⟨r, f, dn⟩ => [cellE b2 (encFlg.enc f) 40, cellE b1 (encIns.enc i) 67, cellE bc (cpuC { s with done := dn } bM vi vo eff) 47]) (fun ⟨r, f, dn⟩ => [(7, .int .u32 r.toNat)]) ?_ (fun i hi => ?_)
 ·skip
  refine Tr.seq (Tr.region ?_)
  refine Tr.q (QS.fieldAddr (off := 2) (ft := 3) rfl Try.underlying67 rfl rfl Try.sizeOf3 (by decide)) rfl ?_
  refine Tr.q (QS.lV rfl Try.isAgg3) rfl ?_
  refine Tr.nil (Tr.thenN (Tr.block (Tr.seq (Tr.region ?_))))
  refine Tr.q (QS.eql rfl rfl) rfl ?_
  refine Tr.q (QS.assign rfl) rfl ?_
  refine Tr.nil (Tr.thenN ?_)
  refine Tr.cond rfl (fun h3 => ?_) (fun h3 => ?_)
  ·try simp only [bs] at h3
   refine Tr.region ?_
   refine Tr.q (QS.move rfl) rfl ?_
   refine Tr.q (QS.nilCheck rfl) rfl ?_
   refine Tr.q (QS.fieldAddr (off := 17) (ft := 4) rfl Try.underlying47 rfl rfl Try.sizeOf4 (by decide)) rfl ?_
   refine Tr.storeV rfl rfl Try.sizeOf4 (by repeat constructor) ((rfl : splice (cpuC s bM vi vo eff) 17 [.bool true] = cpuC { s with done := true } bM vi vo eff)) (by rfl) (by exact Nat.le_of_ble_eq_true rfl) (by first | exact List.all_eq_true.1 rfl | exact Enc.one _ _ | (intro u hu; simp [Value.cells] at hu; simp_all [Value.oneCell'])) rfl ?_
   refine Tr.nil (Tr.inN (Tr.thenN ?_))
   apply Tr.joined (s.m.reg i.a, s.m.f, true)
   ·exact rfl
   ·exact (.cons (by first | rfl | exact lookI rfl (by omega) | exact lookI rfl (by rw [hh]; rfl) | exact lookI rfl (by simp) | exact lookB rfl (by simp)) Front.nil)
   ·exact SubX.dropN 7 (by kernel_rfl) rfl
   ·exact (by repeat' constructor)
   ·exact ⟨by unfold aluP; repeat (first | rw [if_pos (by omega)] | rw [if_neg (by omega)]), by unfold aluP; repeat (first | rw [if_pos (by omega)] | rw [if_neg (by omega)]), by first | (rw [decide_eq_true (by omega)]; rfl) | (rw [decide_eq_false (by omega)]; rfl)⟩
  ·try simp only [bs] at h3
   refine Tr.seq (Tr.region ?_)
   refine Tr.q (QS.eql rfl rfl) rfl ?_
   refine Tr.q (QS.assign rfl) rfl ?_
   refine Tr.nil (Tr.thenN ?_)
   refine Tr.cond rfl (fun h4 => ?_) (fun h4 => ?_)
   ·try simp only [bs] at h4
    refine Tr.region ?_
    refine Tr.q (QS.move rfl) rfl ?_
    refine Tr.q (QS.assign rfl) rfl ?_
    refine Tr.nil (Tr.inN (Tr.thenN ?_))
    apply Tr.joined (srcP s.m i, s.m.f, s.done)
    ·exact rfl
    ·exact (.cons (by first | rfl | exact lookI rfl (by omega) | exact lookI rfl (by rw [hh]; rfl) | exact lookI rfl (by simp) | exact lookB rfl (by simp)) Front.nil)
    ·exact SubX.dropN 8 (by kernel_rfl) rfl
    ·exact (by repeat' constructor)
    ·exact ⟨by unfold aluP; repeat (first | rw [if_pos (by omega)] | rw [if_neg (by omega)]), by unfold aluP; repeat (first | rw [if_pos (by omega)] | rw [if_neg (by omega)]), by first | (rw [decide_eq_true (by omega)]; rfl) | (rw [decide_eq_false (by omega)]; rfl)⟩
   ·try simp only [bs] at h4
    refine Tr.seq (Tr.region ?_)
    refine Tr.q (QS.eql rfl rfl) rfl ?_
    refine Tr.q (QS.assign rfl) rfl ?_
    refine Tr.nil (Tr.thenN ?_)
    refine Tr.cond rfl (fun h5 => ?_) (fun h5 => ?_)
    ·try simp only [bs] at h5
     refine Tr.region ?_
     refine Tr.q (QS.move rfl) rfl ?_
     refine Tr.q (QS.move rfl) rfl ?_
     refine Tr.q (QS.call rfl Try.call24 (fun w hw => add_bits (s.m.reg i.a) (srcP s.m i) w)) rfl ?_
     refine Tr.q (QS.move rfl) rfl ?_
     refine Tr.q (QS.extract rfl rfl) rfl ?_
     refine Tr.q (QS.extract rfl rfl) rfl ?_
     refine Tr.q (QS.assign rfl) rfl ?_
     refine Tr.storeW rfl rfl Try.sizeOf40 (by repeat constructor) (by rfl) (by rfl) (by first | exact List.all_eq_true.1 rfl | exact Enc.one _ _ | exact Enc.one encFlg _) rfl ?_
     refine Tr.nil (Tr.inN (Tr.thenN ?_))
     apply Tr.joined (s.m.reg i.a + srcP s.m i, addF (s.m.reg i.a) (srcP s.m i), s.done)
     ·exact rfl
     ·exact (.cons (by first | rfl | exact lookI rfl (by omega) | exact lookI rfl (by rw [hh]; rfl) | exact lookI rfl (by simp) | exact lookB rfl (by simp)) Front.nil)
     ·exact SubX.dropN 15 (by kernel_rfl) rfl
     ·exact (by repeat' constructor)
     ·exact ⟨by unfold aluP; repeat (first | rw [if_pos (by omega)] | rw [if_neg (by omega)]), by unfold aluP; repeat (first | rw [if_pos (by omega)] | rw [if_neg (by omega)]), by first | (rw [decide_eq_true (by omega)]; rfl) | (rw [decide_eq_false (by omega)]; rfl)⟩
    ·try simp only [bs] at h5
     refine Tr.seq (Tr.region ?_)
     refine Tr.q (QS.eql rfl rfl) rfl ?_
     refine Tr.q (QS.assign rfl) rfl ?_
     refine Tr.nil (Tr.thenN ?_)
     refine Tr.cond rfl (fun h6 => ?_) (fun h6 => ?_)
     ·try simp only [bs] at h6
      refine Tr.region ?_
      refine Tr.q (QS.move rfl) rfl ?_
      refine Tr.q (QS.move rfl) rfl ?_
      refine Tr.q (QS.call rfl Try.call25 (fun w hw => sub_bits (s.m.reg i.a) (srcP s.m i) w)) rfl ?_
      refine Tr.q (QS.move rfl) rfl ?_
      refine Tr.q (QS.extract rfl rfl) rfl ?_
      refine Tr.q (QS.extract rfl rfl) rfl ?_
      refine Tr.q (QS.assign rfl) rfl ?_
      refine Tr.storeW rfl rfl Try.sizeOf40 (by repeat constructor) (by rfl) (by rfl) (by first | exact List.all_eq_true.1 rfl | exact Enc.one _ _ | exact Enc.one encFlg _) rfl ?_
      refine Tr.nil (Tr.inN (Tr.thenN ?_))
      apply Tr.joined (s.m.reg i.a - srcP s.m i, subF (s.m.reg i.a) (srcP s.m i), s.done)
      ·exact rfl
      ·exact (.cons (by first | rfl | exact lookI rfl (by omega) | exact lookI rfl (by rw [hh]; rfl) | exact lookI rfl (by simp) | exact lookB rfl (by simp)) Front.nil)
      ·exact SubX.dropN 17 (by kernel_rfl) rfl
      ·exact (by repeat' constructor)
      ·exact ⟨by unfold aluP; repeat (first | rw [if_pos (by omega)] | rw [if_neg (by omega)]), by unfold aluP; repeat (first | rw [if_pos (by omega)] | rw [if_neg (by omega)]), by first | (rw [decide_eq_true (by omega)]; rfl) | (rw [decide_eq_false (by omega)]; rfl)⟩
     ·try simp only [bs] at h6
      refine Tr.seq (Tr.region ?_)
      refine Tr.q (QS.eql rfl rfl) rfl ?_
      refine Tr.q (QS.assign rfl) rfl ?_
      refine Tr.nil (Tr.thenN ?_)
      refine Tr.cond rfl (fun h7 => ?_) (fun h7 => ?_)
      ·try simp only [bs] at h7
       refine Tr.region ?_
       refine Tr.q (QS.move rfl) rfl ?_
       refine Tr.q (QS.move rfl) rfl ?_
       refine Tr.q (QS.call rfl Try.call25 (fun w hw => sub_bits (s.m.reg i.a) (srcP s.m i) w)) rfl ?_
       refine Tr.q (QS.move rfl) rfl ?_
       refine Tr.q (QS.extract rfl rfl) rfl ?_
       refine Tr.q (QS.extract rfl rfl) rfl ?_
       refine Tr.storeW rfl rfl Try.sizeOf40 (by repeat constructor) (by rfl) (by rfl) (by first | exact List.all_eq_true.1 rfl | exact Enc.one _ _ | exact Enc.one encFlg _) rfl ?_
       refine Tr.nil (Tr.inN (Tr.thenN ?_))
       apply Tr.joined (s.m.reg i.a, subF (s.m.reg i.a) (srcP s.m i), s.done)
       ·exact rfl
       ·exact (.cons (by first | rfl | exact lookI rfl (by omega) | exact lookI rfl (by rw [hh]; rfl) | exact lookI rfl (by simp) | exact lookB rfl (by simp)) Front.nil)
       ·exact SubX.dropN 18 (by kernel_rfl) rfl
       ·exact (by repeat' constructor)
       ·exact ⟨by unfold aluP; repeat (first | rw [if_pos (by omega)] | rw [if_neg (by omega)]), by unfold aluP; repeat (first | rw [if_pos (by omega)] | rw [if_neg (by omega)]), by first | (rw [decide_eq_true (by omega)]; rfl) | (rw [decide_eq_false (by omega)]; rfl)⟩
      ·try simp only [bs] at h7
       refine Tr.seq (Tr.region ?_)
       refine Tr.q (QS.eql rfl rfl) rfl ?_
       refine Tr.q (QS.assign rfl) rfl ?_
       refine Tr.nil (Tr.thenN ?_)
       refine Tr.cond rfl (fun h8 => ?_) (fun h8 => ?_)
       ·try simp only [bs] at h8
        refine Tr.regionH ([cellE bc (cpuC s bM vi vo eff) 47, cellE b1 (encIns.enc i) 67]) 12 rfl HLF.mixed ?_
        refine Tr.hT 0 rfl (by kernel_rfl) (panicIn (panicThen panicBody)) (QS.move rfl) ?_
        refine Tr.hT 1 rfl (by kernel_rfl) (panicIn (panicThen panicBody)) (QS.fieldAddr (off := 7) (ft := 3) rfl Try.underlying67 rfl rfl Try.sizeOf3 (by decide)) ?_
        refine Tr.hT 2 rfl (by kernel_rfl) (panicIn (panicThen panicBody)) (QS.lV rfl Try.isAgg3) ?_
        refine Tr.hT 3 rfl (by kernel_rfl) (panicIn (panicThen panicBody)) (QS.nilCheck rfl) ?_
        refine Tr.hT 4 rfl (by kernel_rfl) (panicIn (panicThen panicBody)) (QS.fieldAddr (off := 0) (ft := 42) rfl Try.underlying47 rfl rfl Try.sizeOf42 (by decide)) ?_
        refine Tr.hT 5 rfl (by kernel_rfl) (panicIn (panicThen panicBody)) (QS.fieldAddr (off := 0) (ft := 38) rfl Try.underlying42 rfl rfl Try.sizeOf38 (by decide)) ?_
        refine Tr.hT 6 rfl (by kernel_rfl) (panicIn (panicThen panicBody)) (QS.idxArr rfl rfl Try.underlying38 Try.sizeOf22 (by omega)) ?_
        refine Tr.hT 7 rfl (by kernel_rfl) (panicIn (panicThen panicBody)) (QS.loadV rfl (by repeat constructor) Try.isAgg22 (cpuC_reg hB (by simp))) ?_
        refine Tr.hT 8 rfl (by kernel_rfl) (panicIn (panicThen panicBody)) (QS.fieldAddr (off := 1) (ft := 22) rfl Try.underlying67 rfl rfl Try.sizeOf22 (by decide)) ?_
        refine Tr.hT 9 rfl (by kernel_rfl) (panicIn (panicThen panicBody)) (QS.lV rfl Try.isAgg22) ?_
        refine Tr.hT 10 rfl (by kernel_rfl) (panicIn (panicThen panicBody)) (QS.add32 rfl rfl) ?_
        refine Tr.hT 11 rfl (by kernel_rfl) (panicIn (panicThen panicBody)) (QS.assign rfl) ?_
        refine Tr.hDone (by kernel_rfl) ?_
        refine Tr.inN (Tr.thenN ?_)
        apply Tr.joined (s.m.reg i.b + i.imm, s.m.f, s.done)
        ·exact rfl
        ·exact (.cons (by first | rfl | exact lookI rfl (by omega) | exact lookI rfl (by rw [hh]; rfl) | exact lookI rfl (by simp) | exact lookB rfl (by simp)) Front.nil)
        ·exact SubX.dropN 26 (by kernel_rfl) rfl
        ·exact (by repeat' constructor)
        ·exact ⟨by unfold aluP; repeat (first | rw [if_pos (by omega)] | rw [if_neg (by omega)]), by unfold aluP; repeat (first | rw [if_pos (by omega)] | rw [if_neg (by omega)]), by first | (rw [decide_eq_true (by omega)]; rfl) | (rw [decide_eq_false (by omega)]; rfl)⟩
       ·try simp only [bs] at h8
        refine Tr.seq (Tr.region ?_)
        refine Tr.q (QS.eql rfl rfl) rfl ?_
        refine Tr.q (QS.assign rfl) rfl ?_
        refine Tr.nil (Tr.thenN ?_)
        refine Tr.cond rfl (fun h9 => ?_) (fun h9 => ?_)
        ·try simp only [bs] at h9
         refine Tr.seq (Tr.region ?_)
         refine Tr.q (QS.assign rfl) rfl ?_
         refine Tr.nil (Tr.thenN (Tr.seq (Tr.region ?_)))
         refine Tr.q (QS.fieldAddr (off := 5) (ft := 3) rfl Try.underlying67 rfl rfl Try.sizeOf3 (by decide)) rfl ?_
         refine Tr.q (QS.lV rfl Try.isAgg3) rfl ?_
         refine Tr.q (QS.lW rfl Try.isAgg40 Try.sizeOf40) rfl ?_
         refine Tr.q (QS.call rfl Try.call89 (fun w hw => holds_bits i.cc s.m.f w)) rfl ?_
         refine Tr.nil (Tr.thenN ?_)
         refine Tr.cond rfl (fun h10 => ?_) (fun h10 => ?_)
         ·try simp only [bs] at h10
          refine Tr.region ?_
          refine Tr.q (QS.assign rfl) rfl ?_
          refine Tr.nil (Tr.inN (Tr.thenN ?_))
          have hh : holdsP i.cc s.m.f = true := by assumption
          apply Tr.joined (num01 (holdsP i.cc s.m.f), s.m.f, s.done)
          ·exact rfl
          ·exact (.cons (by first | rfl | exact lookI rfl (by omega) | exact lookI rfl (by rw [hh]; rfl) | exact lookI rfl (by simp) | exact lookB rfl (by simp)) Front.nil)
          ·exact SubX.dropN 22 (by kernel_rfl) rfl
          ·exact (by repeat' constructor)
          ·exact ⟨by unfold aluP; repeat (first | rw [if_pos (by omega)] | rw [if_neg (by omega)]), by unfold aluP; repeat (first | rw [if_pos (by omega)] | rw [if_neg (by omega)]), by first | (rw [decide_eq_true (by omega)]; rfl) | (rw [decide_eq_false (by omega)]; rfl)⟩
         ·try simp only [bs] at h10
          refine Tr.skip (Tr.inN (Tr.thenN ?_))
          have hh : holdsP i.cc s.m.f = false := by simp_all
          apply Tr.joined (num01 (holdsP i.cc s.m.f), s.m.f, s.done)
          ·exact rfl
          ·exact (.cons (by first | rfl | exact lookI rfl (by omega) | exact lookI rfl (by rw [hh]; rfl) | exact lookI rfl (by simp) | exact lookB rfl (by simp)) Front.nil)
          ·exact SubX.dropN 21 (by kernel_rfl) rfl
          ·exact (by repeat' constructor)
          ·exact ⟨by unfold aluP; repeat (first | rw [if_pos (by omega)] | rw [if_neg (by omega)]), by unfold aluP; repeat (first | rw [if_pos (by omega)] | rw [if_neg (by omega)]), by first | (rw [decide_eq_true (by omega)]; rfl) | (rw [decide_eq_false (by omega)]; rfl)⟩
        ·try simp only [bs] at h9
         refine Tr.seq (Tr.seq (Tr.region ?_))
         refine Tr.q (QS.eql rfl rfl) rfl ?_
         refine Tr.q (QS.assign rfl) rfl ?_
         refine Tr.nil (Tr.thenN ?_)
         apply Tr.condOr
         ·exact rfl
         ·intro hO11
          try simp only [bs] at hO11
          refine Tr.seq (Tr.region ?_)
          refine Tr.q (QS.eql rfl rfl) rfl ?_
          refine Tr.q (QS.assign rfl) rfl ?_
          refine Tr.nil (Tr.thenN ?_)
          apply Tr.condOr
          ·exact rfl
          ·intro hO12
           try simp only [bs] at hO12
           refine Tr.seq (Tr.region ?_)
           refine Tr.q (QS.eql rfl rfl) rfl ?_
           refine Tr.q (QS.assign rfl) rfl ?_
           refine Tr.nil (Tr.thenN ?_)
           apply Tr.condOr
           ·exact rfl
           ·intro hO13
            try simp only [bs] at hO13
            refine Tr.seq (Tr.region ?_)
            refine Tr.q (QS.eql rfl rfl) rfl ?_
            refine Tr.q (QS.assign rfl) rfl ?_
            refine Tr.nil (Tr.thenN ?_)
            apply Tr.condOr
            ·exact rfl
            ·intro hO14
             try simp only [bs] at hO14
             refine Tr.seq (Tr.region ?_)
             refine Tr.q (QS.eql rfl rfl) rfl ?_
             refine Tr.q (QS.assign rfl) rfl ?_
             refine Tr.nil (Tr.thenN ?_)
             apply Tr.condOr
             ·exact rfl
             ·intro hO15
              try simp only [bs] at hO15
              refine Tr.seq (Tr.region ?_)
              refine Tr.q (QS.eql rfl rfl) rfl ?_
              refine Tr.q (QS.assign rfl) rfl ?_
              refine Tr.nil (Tr.thenN ?_)
              apply Tr.condOr
              ·exact rfl
              ·intro hO16
               try simp only [bs] at hO16
               refine Tr.region ?_
               refine Tr.q (QS.eql rfl rfl) rfl ?_
               refine Tr.q (QS.assign rfl) rfl ?_
               refine Tr.nil (Tr.thenN ?_)
               exact Tr.endOr rfl (SubX.dropN 2 (by kernel_rfl) rfl)
              refine Tr.thenN ?_
              exact Tr.endOr rfl (SubX.dropN 3 (by kernel_rfl) rfl)
             refine Tr.thenN ?_
             exact Tr.endOr rfl (SubX.dropN 3 (by kernel_rfl) rfl)
            refine Tr.thenN ?_
            exact Tr.endOr rfl (SubX.dropN 3 (by kernel_rfl) rfl)
           refine Tr.thenN ?_
           exact Tr.endOr rfl (SubX.dropN 3 (by kernel_rfl) rfl)
          refine Tr.thenN ?_
          exact Tr.endOr rfl (SubX.dropN 3 (by kernel_rfl) rfl)
         refine Tr.thenN ?_
         refine Tr.cond rfl (fun h17 => ?_) (fun h17 => ?_)
         ·try simp only [bs] at h17
          refine Tr.seq (Tr.region ?_)
          refine Tr.q (QS.build (vs := [(0, _), (1, _), (2, _), (3, _), (4, _), (5, _), (6, _)]) rfl rfl (HLF.built138_0_1_2_3_4_5_6 _ _ _ _ _ _ _)) rfl ?_
          refine Tr.alloc Try.zeroValue138 rfl rfl (fun b18 => ?_)
          refine Tr.storeW rfl rfl Try.sizeOf138 (by repeat constructor) (by rfl) (by rfl) (by first | exact List.all_eq_true.1 rfl | exact Enc.one _ _ | (intro u hu; simp [Value.cells] at hu; simp_all [Value.oneCell'])) rfl ?_
          refine Tr.nil (Tr.thenN (Tr.seq (Tr.region ?_)))
          refine Tr.q (QS.fieldAddr (off := 2) (ft := 3) rfl Try.underlying67 rfl rfl Try.sizeOf3 (by decide)) rfl ?_
          refine Tr.q (QS.lV rfl Try.isAgg3) rfl ?_
          refine Tr.q (QS.subI rfl rfl (by omega)) rfl ?_
          refine Tr.q (QS.idxArr rfl rfl Try.underlying138 Try.sizeOf3 (by omega)) rfl ?_
          refine Tr.q (QS.loadV (v := .int .i64 (aluP.opX i.op)) rfl (by repeat constructor) Try.isAgg3 (opx_get (by omega) (by simp))) rfl ?_
          refine Tr.q (QS.move rfl) rfl ?_
          refine Tr.q (QS.move rfl) rfl ?_
          refine Tr.q (QS.call rfl Try.call22 (fun w hw => apply_bits (aluP.opX i.op) (s.m.reg i.a) (srcP s.m i) w)) rfl ?_
          refine Tr.q (QS.move rfl) rfl ?_
          refine Tr.q (QS.extract rfl rfl) rfl ?_
          refine Tr.q (QS.extract rfl rfl) rfl ?_
          refine Tr.q (QS.assign rfl) rfl ?_
          refine Tr.nil (Tr.thenN (Tr.region ?_))
          refine Tr.q (QS.move rfl) rfl ?_
          refine Tr.q (QS.call rfl Try.call23 (fun w hw => logic_bits (appP (aluP.opX i.op) (s.m.reg i.a) (srcP s.m i)).1 w)) rfl ?_
          refine Tr.storeW rfl rfl Try.sizeOf40 (by repeat constructor) (by rfl) (by rfl) (by first | exact List.all_eq_true.1 rfl | exact Enc.one _ _ | exact Enc.one encFlg _) rfl ?_
          refine Tr.nil (Tr.inN (Tr.thenN ?_))
          rw [app_opx (by omega)]
          apply Tr.joined ((binP (aluP.opX i.op) (s.m.reg i.a) (srcP s.m i)), logF (binP (aluP.opX i.op) (s.m.reg i.a) (srcP s.m i)), s.done)
          ·exact rfl
          ·exact (.cons (by first | rfl | exact lookI rfl (by omega) | exact lookI rfl (by rw [hh]; rfl) | exact lookI rfl (by simp) | exact lookB rfl (by simp)) Front.nil)
          ·exact SubX.dropN 35 (by kernel_rfl) rfl
          ·exact (by repeat' constructor)
          ·exact ⟨by unfold aluP; repeat (first | rw [if_pos (by omega)] | rw [if_neg (by omega)]), by unfold aluP; repeat (first | rw [if_pos (by omega)] | rw [if_neg (by omega)]), by first | (rw [decide_eq_true (by omega)]; rfl) | (rw [decide_eq_false (by omega)]; rfl)⟩
         ·try simp only [bs] at h17
          refine Tr.skip (Tr.inN (Tr.thenN ?_))
          apply Tr.joined (s.m.reg i.a, s.m.f, s.done)
          ·exact rfl
          ·exact (.cons (by first | rfl | exact lookI rfl (by omega) | exact lookI rfl (by rw [hh]; rfl) | exact lookI rfl (by simp) | exact lookB rfl (by simp)) Front.nil)
          ·exact SubX.dropN 19 (by kernel_rfl) rfl
          ·exact (by repeat' constructor)
          ·exact ⟨by unfold aluP; repeat (first | rw [if_pos (by omega)] | rw [if_neg (by omega)]), by unfold aluP; repeat (first | rw [if_pos (by omega)] | rw [if_neg (by omega)]), by first | (rw [decide_eq_true (by omega)]; rfl) | (rw [decide_eq_false (by omega)]; rfl)⟩
 ·obtain ⟨r, f, dn⟩ := i
  replace hi : r = (aluP s.m i).1 ∧ f = (aluP s.m i).2 ∧ dn = (decide (i.op = 1) || s.done) := hi
  change Tr _ _ [cellE b2 (encFlg.enc f) 40, cellE b1 (encIns.enc i) 67, cellE bc (cpuC { s with done := dn } bM vi vo eff) 47] ([(7, .int .u32 r.toNat)] ++ _) _
  obtain ⟨hr, hf, hdn⟩ := hi
  refine Tr.seqJ (ι := Unit) (fun u => True) (fun _ => (Bg.lessB w (blks [cellE bc (cpuC s bM vi vo eff) 47]) 0)) (fun u => [cellE b2 (encFlg.enc f) 40, cellE b1 (encIns.enc i) 67, cellE bc (cpuC (({ s with done := dn }.setR i.a r).setF f) bM vi vo eff) 47]) (fun u => []) ?_ (fun u hi => ?_)
  ·skip
   refine Tr.regionH ([cellE b2 (encFlg.enc f) 40, cellE b1 (encIns.enc i) 67]) 15 rfl HLF.mixed ?_
   refine Tr.hT 0 rfl (by kernel_rfl) (panicThen panicBody) (QS.move rfl) ?_
   refine Tr.hT 1 rfl (by kernel_rfl) (panicThen panicBody) (QS.fieldAddr (off := 6) (ft := 3) rfl Try.underlying67 rfl rfl Try.sizeOf3 (by decide)) ?_
   refine Tr.hT 2 rfl (by kernel_rfl) (panicThen panicBody) (QS.lV rfl Try.isAgg3) ?_
   refine Tr.hT 3 rfl (by kernel_rfl) (panicThen panicBody) (QS.move rfl) ?_
   refine Tr.hT 4 rfl (by kernel_rfl) (panicThen panicBody) (QS.move rfl) ?_
   refine Tr.hT 5 rfl (by kernel_rfl) (panicThen panicBody) (QS.lW rfl Try.isAgg40 Try.sizeOf40) ?_
   refine Tr.hT 6 rfl (by kernel_rfl) (panicThen panicBody) (QS.nilCheck rfl) ?_
   refine Tr.hT 7 rfl (by kernel_rfl) (panicThen panicBody) (QS.fieldAddr (off := 0) (ft := 42) rfl Try.underlying47 rfl rfl Try.sizeOf42 (by decide)) ?_
   refine Tr.hT 8 rfl (by kernel_rfl) (panicThen panicBody) (QS.fieldAddr (off := 0) (ft := 38) rfl Try.underlying42 rfl rfl Try.sizeOf38 (by decide)) ?_
   refine Tr.hT 9 rfl (by kernel_rfl) (panicThen panicBody) (QS.idxArr rfl rfl Try.underlying38 Try.sizeOf22 (by omega)) ?_
   refine Tr.hAll [10] (by kernel_rfl) (by simp) (fun iq hq => ?_)
   obtain rfl := List.mem_singleton.1 hq
   refine Tr.hOp rfl ?_
   refine Tr.storeV rfl rfl Try.sizeOf22 (by repeat constructor) (cpuC_set hA (by simp) _) (by rfl) (by rw [cpuC_len]; first | (simp; done) | (simp; omega)) (by first | exact List.all_eq_true.1 rfl | exact Enc.one _ _ | (intro u hu; simp [Value.cells] at hu; simp_all [Value.oneCell'])) rfl ?_
   refine Tr.hN ?_
   refine Tr.hT 11 rfl (by kernel_rfl) (panicThen panicBody) (QS.nilCheck rfl) ?_
   refine Tr.hT 12 rfl (by kernel_rfl) (panicThen panicBody) (QS.fieldAddr (off := 0) (ft := 42) rfl Try.underlying47 rfl rfl Try.sizeOf42 (by decide)) ?_
   refine Tr.hT 13 rfl (by kernel_rfl) (panicThen panicBody) (QS.fieldAddr (off := 9) (ft := 40) rfl Try.underlying42 rfl rfl Try.sizeOf40 (by decide)) ?_
   refine Tr.hAll [14] (by kernel_rfl) (by simp) (fun iq hq => ?_)
   obtain rfl := List.mem_singleton.1 hq
   refine Tr.hOp rfl ?_
   refine Tr.storeV rfl rfl Try.sizeOf40 (by repeat constructor) (cpuC_flg f) (by rfl) (by exact Nat.le_of_ble_eq_true rfl) (by first | exact List.all_eq_true.1 rfl | exact Enc.one _ _ | (intro u hu; simp [Value.cells] at hu; simp_all [Value.oneCell'])) rfl ?_
   refine Tr.hN ?_
   refine Tr.hDone (by kernel_rfl) ?_
   refine Tr.thenN ?_
   try rw [St.setF_setR]
   apply Tr.joined ()
   ·exact rfl
   ·exact Front.nil
   ·exact SubX.dropN 13 (by kernel_rfl) rfl
   ·exact (by repeat' constructor)
   ·exact trivial
  ·skip
   replace hi : True := hi
   change Tr _ _ [cellE b2 (encFlg.enc f) 40, cellE b1 (encIns.enc i) 67, cellE bc (cpuC (({ s with done := dn }.setR i.a r).setF f) bM vi vo eff) 47] ([] ++ _) _
   refine Tr.seq (Tr.region ?_)
   refine Tr.q (QS.move rfl) rfl ?_
   refine Tr.q (QS.lW rfl Try.isAgg67 Try.sizeOf67) rfl ?_
   refine Tr.callO (fun _ : Unit => .tuple #[]) [cellE bc (cpuC (({ s with done := dn }.setR i.a r).setF f) bM vi vo eff) 47] (fun _ => [cellE bc (cpuC ((({ s with done := dn }.setR i.a r).setF f).to (nextP i)) bM vi vo eff) 47]) (ok := fun _ => True) (dd := fun _ => 0) rfl Try.call87 (by repeat' (first | exact Split.nil _ | exact Del.here _ | apply Split.cons | apply Del.there)) (fun w hw => Nat.le_refl _) (fun w hw => next_cpu (({ s with done := dn }.setR i.a r).setF f) bc bM vi vo eff i w (hw.own (by repeat' (first | exact Split.nil _ | exact Del.here _ | apply Split.cons | apply Del.there))) hI) rfl (fun _ _ => ?_)
   refine Tr.nil (Tr.thenN (Tr.seq (Tr.region ?_)))
   refine Tr.q (QS.assign rfl) rfl ?_
   refine Tr.nil (Tr.thenN (Tr.ret ?_))
   refine Tr.ret1 Try.results79 rfl (fun w' hw => ?_)
   have hfin : ((({ s with done := dn } : St).setR i.a r).setF f).to (nextP i) = plainS s i (nextP i) := by subst hr hf hdn; rfl
   rw [hfin] at hw
   exact ⟨(), rfl, hw.upd (Bg.le.refl _) (by repeat' constructor), trivial⟩
set_option maxRecDepth 100000 in
set_option maxHeartbeats 8000000 in
theorem stack_cpu (s : St) (bc bM bm : Nat) (VR vi vo eff : Value) (rs : List RegV) (l : List SecV) (wl : WL) (i : Ins) (w : World) (ho : OwnAt w [cellE bc (cpuC s bM vi vo eff) 47, mapE bm u8V wl]) (hM : MemAt (Bg.lessB w (blks [cellE bc (cpuC s bM vi vo eff) 47, mapE bm u8V wl]) 0).blk bM bm VR rs) (hO : MemOK l rs) (hwl : mread wl = s.w) (hI : InsOK i) (hA : 0 ≤ i.a ∧ i.a < 8) (hB : 0 ≤ i.b ∧ i.b < 8) :
  Calls Try.prog 74 #[.pointer (some ⟨bc, 0, none⟩), .agg (encIns.enc i).toArray] w (fun e w' => ∃ wl' : WL, e = .returned (.int .i64 (stackS l s i (nextP i)).2) ∧ Upd 0 w w' (blks [cellE bc (cpuC s bM vi vo eff) 47, mapE bm u8V wl]) [cellE bc (cpuC (stackS l s i (nextP i)).1 bM vi vo eff) 47, mapE bm u8V wl'] ∧ (mread wl' = (stackS l s i (nextP i)).1.w ∧ wl'.length ≤ wl.length + 4)) := by
 refine enterB (L := [cellE bc (cpuC s bM vi vo eff) 47, mapE bm u8V wl]) ho rfl (Nat.zero_le _) Try.func74 rfl Try.ntmps74 rfl ?_
 refine Tr.seq (Tr.region ?_)
 refine Tr.box rfl rfl rfl (fun b1 => ?_)
 refine Tr.q (QS.assign rfl) rfl ?_
 refine Tr.nil (Tr.thenN (Tr.seq (Tr.region ?_)))
 refine Tr.q (QS.move rfl) rfl ?_
 refine Tr.q (QS.nilCheck rfl) rfl ?_
 refine Tr.q (QS.fieldAddr (off := 0) (ft := 42) rfl Try.underlying47 rfl rfl Try.sizeOf42 (by decide)) rfl ?_
 refine Tr.q (QS.fieldAddr (off := 0) (ft := 38) rfl Try.underlying42 rfl rfl Try.sizeOf38 (by decide)) rfl ?_
 refine Tr.q (QS.idxArr rfl rfl Try.underlying38 Try.sizeOf22 (by omega)) rfl ?_
 refine Tr.q (QS.loadV rfl (by repeat constructor) Try.isAgg22 (by rfl)) rfl ?_
 refine Tr.q (QS.assign rfl) rfl ?_
 refine Tr.nil (Tr.thenN (Tr.seq (Tr.seq (Tr.region ?_))))
 refine Tr.q (QS.fieldAddr (off := 2) (ft := 3) rfl Try.underlying67 rfl rfl Try.sizeOf3 (by decide)) rfl ?_
 refine Tr.q (QS.lV rfl Try.isAgg3) rfl ?_
 refine Tr.q (QS.eql rfl rfl) rfl ?_
 refine Tr.nil (Tr.thenN ?_)
 refine Tr.cond rfl (fun h2 => ?_) (fun h2 => ?_)
 ·try simp only [bs] at h2
  refine Tr.seq (Tr.seq ?_)
  refine Tr.regionH ([cellE bc (cpuC s bM vi vo eff) 47, cellE b1 (encIns.enc i) 67]) 16 rfl HLF.mixed ?_
  refine Tr.hT 0 rfl (by kernel_rfl) (panicThen (panicThen (panicThen panicBody))) (QS.move rfl) ?_
  refine Tr.hT 1 rfl (by kernel_rfl) (panicThen (panicThen (panicThen panicBody))) (QS.nilCheck rfl) ?_
  refine Tr.hT 2 rfl (by kernel_rfl) (panicThen (panicThen (panicThen panicBody))) (QS.fieldAddr (off := 13) (ft := 23) rfl Try.underlying47 rfl rfl Try.sizeOf23 (by decide)) ?_
  refine Tr.hT 3 rfl (by kernel_rfl) (panicThen (panicThen (panicThen panicBody))) (QS.loadV rfl (by repeat constructor) Try.isAgg23 (by rfl)) ?_
  refine Tr.hT 4 rfl (by kernel_rfl) (panicThen (panicThen (panicThen panicBody))) (QS.move rfl) ?_
  refine Tr.hT 5 rfl (by kernel_rfl) (panicThen (panicThen (panicThen panicBody))) (QS.sub32 (n := 4) rfl rfl) ?_
  refine Tr.hT 6 rfl (by kernel_rfl) (panicThen (panicThen (panicThen panicBody))) (QS.move rfl) ?_
  refine Tr.hT 7 rfl (by kernel_rfl) (panicThen (panicThen (panicThen panicBody))) (QS.fieldAddr (off := 6) (ft := 3) rfl Try.underlying67 rfl rfl Try.sizeOf3 (by decide)) ?_
  refine Tr.hT 8 rfl (by kernel_rfl) (panicThen (panicThen (panicThen panicBody))) (QS.lV rfl Try.isAgg3) ?_
  refine Tr.hT 9 rfl (by kernel_rfl) (panicThen (panicThen (panicThen panicBody))) (QS.nilCheck rfl) ?_
  refine Tr.hT 10 rfl (by kernel_rfl) (panicThen (panicThen (panicThen panicBody))) (QS.fieldAddr (off := 0) (ft := 42) rfl Try.underlying47 rfl rfl Try.sizeOf42 (by decide)) ?_
  refine Tr.hT 11 rfl (by kernel_rfl) (panicThen (panicThen (panicThen panicBody))) (QS.fieldAddr (off := 0) (ft := 38) rfl Try.underlying42 rfl rfl Try.sizeOf38 (by decide)) ?_
  refine Tr.hT 12 rfl (by kernel_rfl) (panicThen (panicThen (panicThen panicBody))) (QS.idxArr rfl rfl Try.underlying38 Try.sizeOf22 (by omega)) ?_
  refine Tr.hT 13 rfl (by kernel_rfl) (panicThen (panicThen (panicThen panicBody))) (QS.loadV rfl (by repeat constructor) Try.isAgg22 (cpuC_reg hA (by simp))) ?_
  refine Tr.hAll [14] (by kernel_rfl) (by simp) (fun iq hq => ?_)
  obtain rfl := List.mem_singleton.1 hq
  refine Tr.hOp rfl ?_
  refine Tr.callO (fun _ : WL => .int .i64 (storeA l s.w (s.m.r7 - 4) 4 (s.m.reg i.a)).2) [mapE bm u8V wl] (fun wl' => [mapE bm u8V wl']) (ok := fun wl' => mread wl' = (storeA l s.w (s.m.r7 - 4) 4 (s.m.reg i.a)).1 ∧ wl'.length ≤ wl.length + 4) (dd := fun _ => 0) rfl Try.call35 (by repeat' (first | exact Split.nil _ | exact Del.here _ | apply Split.cons | apply Del.there)) (fun w hw => Nat.le_refl _) (fun w hw => by have q := mstore_any bM bm VR rs l (s.m.r7 - 4) 4 (s.m.reg i.a) wl w (hw.own (by repeat' (first | exact Split.nil _ | exact Del.here _ | apply Split.cons | apply Del.there))) (hM.mono (hw.lessB (Lo := [mapE bm u8V wl]) (by repeat' (first | exact Split.nil _ | exact Del.here _ | apply Split.cons | apply Del.there)))) hO; rw [hwl] at q; exact q) rfl (fun wl2 hw2 => ?_)
  refine Tr.hN ?_
  refine Tr.hT 15 rfl (by kernel_rfl) (panicThen (panicThen (panicThen panicBody))) (QS.assign rfl) ?_
  refine Tr.hDone (by kernel_rfl) ?_
  refine Tr.thenN (Tr.seq (Tr.region ?_))
  refine Tr.q (QS.move rfl) rfl ?_
  refine Tr.q (QS.neq rfl rfl) rfl ?_
  refine Tr.nil (Tr.thenN ?_)
  refine Tr.cond rfl (fun h3 => ?_) (fun h3 => ?_)
  ·try simp only [bs] at h3
   refine Tr.seq (Tr.region ?_)
   refine Tr.q (QS.move rfl) rfl ?_
   refine Tr.q (QS.assign rfl) rfl ?_
   refine Tr.nil (Tr.thenN (Tr.ret (Tr.thenR (Tr.thenR ?_))))
   refine Tr.ret1 Try.results74 rfl (fun w' hw => ?_)
   have hq : stackS l s i (nextP i) = (s, (storeA l s.w (s.m.r7 - 4) 4 (s.m.reg i.a)).2) := by unfold stackS; repeat (first | rw [if_pos (by first | assumption | omega)] | rw [if_neg (by first | assumption | omega)])
   exact ⟨wl2, by rw [hq]; try rfl, by rw [hq]; exact hw.upd (Bg.le.refl _) (by repeat' constructor), by rw [hq]; exact ⟨hw2.1.trans (store_err (by assumption)), hw2.2⟩⟩
  ·try simp only [bs] at h3
   refine Tr.skip (Tr.thenN (Tr.region ?_))
   refine Tr.q (QS.move rfl) rfl ?_
   refine Tr.q (QS.move rfl) rfl ?_
   refine Tr.q (QS.sub32 (n := 4) rfl rfl) rfl ?_
   refine Tr.q (QS.nilCheck rfl) rfl ?_
   refine Tr.q (QS.fieldAddr (off := 0) (ft := 42) rfl Try.underlying47 rfl rfl Try.sizeOf42 (by decide)) rfl ?_
   refine Tr.q (QS.fieldAddr (off := 0) (ft := 38) rfl Try.underlying42 rfl rfl Try.sizeOf38 (by decide)) rfl ?_
   refine Tr.q (QS.idxArr rfl rfl Try.underlying38 Try.sizeOf22 (by omega)) rfl ?_
   refine Tr.storeV rfl rfl Try.sizeOf22 (by repeat constructor) (cpuC_set (k := 7) (by omega) (by simp) _) (by rfl) (by rw [cpuC_len]; first | (simp; done) | (simp; omega)) (by first | exact List.all_eq_true.1 rfl | exact Enc.one _ _ | (intro u hu; simp [Value.cells] at hu; simp_all [Value.oneCell'])) rfl ?_
   refine Tr.nil (Tr.thenN (Tr.seq (Tr.region ?_)))
   refine Tr.q (QS.move rfl) rfl ?_
   refine Tr.q (QS.lW rfl Try.isAgg67 Try.sizeOf67) rfl ?_
   refine Tr.callO (fun _ : Unit => .tuple #[]) [cellE bc (cpuC (s.setR 7 (s.m.r7 - 4)) bM vi vo eff) 47] (fun _ => [cellE bc (cpuC ((s.setR 7 (s.m.r7 - 4)).to (nextP i)) bM vi vo eff) 47]) (ok := fun _ => True) (dd := fun _ => 0) rfl Try.call87 (by repeat' (first | exact Split.nil _ | exact Del.here _ | apply Split.cons | apply Del.there)) (fun w hw => Nat.le_refl _) (fun w hw => next_cpu (s.setR 7 (s.m.r7 - 4)) bc bM vi vo eff i w (hw.own (by repeat' (first | exact Split.nil _ | exact Del.here _ | apply Split.cons | apply Del.there))) hI) rfl (fun _ _ => ?_)
   refine Tr.nil (Tr.thenN (Tr.seq (Tr.region ?_)))
   refine Tr.q (QS.assign rfl) rfl ?_
   refine Tr.nil (Tr.thenN (Tr.ret ?_))
   refine Tr.ret1 Try.results74 rfl (fun w' hw => ?_)
   have hq : stackS l s i (nextP i) = ({ s with w := (storeA l s.w (s.m.r7 - 4) 4 (s.m.reg i.a)).1, m := (s.m.set 7 (s.m.r7 - 4)).to (nextP i) }, 0) := by unfold stackS; repeat (first | rw [if_pos (by first | assumption | omega)] | rw [if_neg (by first | assumption | omega)])
   exact ⟨wl2, by rw [hq]; try rfl, by rw [hq]; exact hw.upd (Bg.le.refl _) (by repeat' constructor), by rw [hq]; exact ⟨hw2.1, hw2.2⟩⟩
 ·try simp only [bs] at h2
  refine Tr.seq (Tr.region ?_)
  refine Tr.q (QS.move rfl) rfl ?_
  refine Tr.q (QS.nilCheck rfl) rfl ?_
  refine Tr.q (QS.fieldAddr (off := 13) (ft := 23) rfl Try.underlying47 rfl rfl Try.sizeOf23 (by decide)) rfl ?_
  refine Tr.q (QS.loadV rfl (by repeat constructor) Try.isAgg23 (by rfl)) rfl ?_
  refine Tr.q (QS.move rfl) rfl ?_
  refine Tr.q (QS.call rfl Try.call12 (fun w hw => (by have q := mload_any bM bm VR rs l s.m.r7 4 wl w (hM.mono hw.bg) hO (mapE.in_ (hw.ent _ (by repeat constructor))); rw [hwl] at q; exact q))) rfl ?_
  refine Tr.q (QS.move rfl) rfl ?_
  refine Tr.q (QS.extract rfl rfl) rfl ?_
  refine Tr.q (QS.extract rfl rfl) rfl ?_
  refine Tr.q (QS.assign rfl) rfl ?_
  refine Tr.q (QS.assign rfl) rfl ?_
  refine Tr.nil (Tr.thenN (Tr.seq (Tr.seq (Tr.region ?_))))
  refine Tr.q (QS.move rfl) rfl ?_
  refine Tr.q (QS.neq rfl rfl) rfl ?_
  refine Tr.nil (Tr.thenN ?_)
  refine Tr.cond rfl (fun h4 => ?_) (fun h4 => ?_)
  ·try simp only [bs] at h4
   refine Tr.seq (Tr.region ?_)
   refine Tr.q (QS.move rfl) rfl ?_
   refine Tr.q (QS.assign rfl) rfl ?_
   refine Tr.nil (Tr.thenN (Tr.ret (Tr.thenR (Tr.thenR ?_))))
   refine Tr.ret1 Try.results74 rfl (fun w' hw => ?_)
   have hq : stackS l s i (nextP i) = (s, (loadA l s.w s.m.r7 4).2) := by unfold stackS; repeat (first | rw [if_pos (by first | assumption | omega)] | rw [if_neg (by first | assumption | omega)])
   exact ⟨wl, by rw [hq]; try rfl, by rw [hq]; exact hw.upd (Bg.le.refl _) (by repeat' constructor), by rw [hq]; exact ⟨hwl, by omega⟩⟩
  ·try simp only [bs] at h4
   refine Tr.skip (Tr.thenN (Tr.seq (Tr.region ?_)))
   refine Tr.q (QS.move rfl) rfl ?_
   refine Tr.q (QS.move rfl) rfl ?_
   refine Tr.q (QS.add32 (n := 4) rfl rfl) rfl ?_
   refine Tr.q (QS.nilCheck rfl) rfl ?_
   refine Tr.q (QS.fieldAddr (off := 0) (ft := 42) rfl Try.underlying47 rfl rfl Try.sizeOf42 (by decide)) rfl ?_
   refine Tr.q (QS.fieldAddr (off := 0) (ft := 38) rfl Try.underlying42 rfl rfl Try.sizeOf38 (by decide)) rfl ?_
   refine Tr.q (QS.idxArr rfl rfl Try.underlying38 Try.sizeOf22 (by omega)) rfl ?_
   refine Tr.storeV rfl rfl Try.sizeOf22 (by repeat constructor) (cpuC_set (k := 7) (by omega) (by simp) _) (by rfl) (by rw [cpuC_len]; first | (simp; done) | (simp; omega)) (by first | exact List.all_eq_true.1 rfl | exact Enc.one _ _ | (intro u hu; simp [Value.cells] at hu; simp_all [Value.oneCell'])) rfl ?_
   refine Tr.nil (Tr.thenN ?_)
   refine Tr.regionH ([cellE b1 (encIns.enc i) 67]) 9 rfl HLF.mixed ?_
   refine Tr.hT 0 rfl (by kernel_rfl) (panicThen panicBody) (QS.move rfl) ?_
   refine Tr.hT 1 rfl (by kernel_rfl) (panicThen panicBody) (QS.fieldAddr (off := 6) (ft := 3) rfl Try.underlying67 rfl rfl Try.sizeOf3 (by decide)) ?_
   refine Tr.hT 2 rfl (by kernel_rfl) (panicThen panicBody) (QS.lV rfl Try.isAgg3) ?_
   refine Tr.hT 3 rfl (by kernel_rfl) (panicThen panicBody) (QS.move rfl) ?_
   refine Tr.hT 4 rfl (by kernel_rfl) (panicThen panicBody) (QS.nilCheck rfl) ?_
   refine Tr.hT 5 rfl (by kernel_rfl) (panicThen panicBody) (QS.fieldAddr (off := 0) (ft := 42) rfl Try.underlying47 rfl rfl Try.sizeOf42 (by decide)) ?_
   refine Tr.hT 6 rfl (by kernel_rfl) (panicThen panicBody) (QS.fieldAddr (off := 0) (ft := 38) rfl Try.underlying42 rfl rfl Try.sizeOf38 (by decide)) ?_
   refine Tr.hT 7 rfl (by kernel_rfl) (panicThen panicBody) (QS.idxArr rfl rfl Try.underlying38 Try.sizeOf22 (by omega)) ?_
   refine Tr.hAll [8] (by kernel_rfl) (by simp) (fun iq hq => ?_)
   obtain rfl := List.mem_singleton.1 hq
   refine Tr.hOp rfl ?_
   refine Tr.storeV rfl rfl Try.sizeOf22 (by repeat constructor) (cpuC_set hA (by simp) _) (by rfl) (by rw [cpuC_len]; first | (simp; done) | (simp; omega)) (by first | exact List.all_eq_true.1 rfl | exact Enc.one _ _ | (intro u hu; simp [Value.cells] at hu; simp_all [Value.oneCell'])) rfl ?_
   refine Tr.hN ?_
   refine Tr.hDone (by kernel_rfl) ?_
   refine Tr.thenN (Tr.seq (Tr.region ?_))
   refine Tr.q (QS.move rfl) rfl ?_
   refine Tr.q (QS.lW rfl Try.isAgg67 Try.sizeOf67) rfl ?_
   refine Tr.callO (fun _ : Unit => .tuple #[]) [cellE bc (cpuC ((s.setR 7 (s.m.r7 + 4)).setR i.a (loadA l s.w s.m.r7 4).1) bM vi vo eff) 47] (fun _ => [cellE bc (cpuC (((s.setR 7 (s.m.r7 + 4)).setR i.a (loadA l s.w s.m.r7 4).1).to (nextP i)) bM vi vo eff) 47]) (ok := fun _ => True) (dd := fun _ => 0) rfl Try.call87 (by repeat' (first | exact Split.nil _ | exact Del.here _ | apply Split.cons | apply Del.there)) (fun w hw => Nat.le_refl _) (fun w hw => next_cpu ((s.setR 7 (s.m.r7 + 4)).setR i.a (loadA l s.w s.m.r7 4).1) bc bM vi vo eff i w (hw.own (by repeat' (first | exact Split.nil _ | exact Del.here _ | apply Split.cons | apply Del.there))) hI) rfl (fun _ _ => ?_)
   refine Tr.nil (Tr.thenN (Tr.seq (Tr.region ?_)))
   refine Tr.q (QS.assign rfl) rfl ?_
   refine Tr.nil (Tr.thenN (Tr.ret ?_))
   refine Tr.ret1 Try.results74 rfl (fun w' hw => ?_)
   have hq : stackS l s i (nextP i) = ({ s with m := ((s.m.set 7 (s.m.r7 + 4)).set i.a (loadA l s.w s.m.r7 4).1).to (nextP i) }, 0) := by unfold stackS; repeat (first | rw [if_pos (by first | assumption | omega)] | rw [if_neg (by first | assumption | omega)])
   exact ⟨wl, by rw [hq]; try rfl, by rw [hq]; exact hw.upd (Bg.le.refl _) (by repeat' constructor), by rw [hq]; exact ⟨hwl, by omega⟩⟩
set_option maxRecDepth 100000 in
set_option maxHeartbeats 8000000 in
theorem access_cpu (s : St) (bc bM bm : Nat) (VR vi vo eff : Value) (rs : List RegV) (l : List SecV) (wl : WL) (i : Ins) (w : World) (ho : OwnAt w [cellE bc (cpuC s bM vi vo eff) 47, mapE bm u8V wl]) (hM : MemAt (Bg.lessB w (blks [cellE bc (cpuC s bM vi vo eff) 47, mapE bm u8V wl]) 0).blk bM bm VR rs) (hO : MemOK l rs) (hwl : mread wl = s.w) (hI : InsOK i) (hA : 0 ≤ i.a ∧ i.a < 8) (hB : 0 ≤ i.b ∧ i.b < 8) :
  Calls Try.prog 75 #[.pointer (some ⟨bc, 0, none⟩), .agg (encIns.enc i).toArray] w (fun e w' => ∃ wl' : WL, e = .returned (.int .i64 (accessS l s i (nextP i)).2) ∧ Upd 0 w w' (blks [cellE bc (cpuC s bM vi vo eff) 47, mapE bm u8V wl]) [cellE bc (cpuC (accessS l s i (nextP i)).1 bM vi vo eff) 47, mapE bm u8V wl'] ∧ (mread wl' = (accessS l s i (nextP i)).1.w ∧ wl'.length ≤ wl.length + 4)) := by
 refine enterB (L := [cellE bc (cpuC s bM vi vo eff) 47, mapE bm u8V wl]) ho rfl (Nat.zero_le _) Try.func75 rfl Try.ntmps75 rfl ?_
 refine Tr.seq (Tr.region ?_)
 refine Tr.box rfl rfl rfl (fun b1 => ?_)
 refine Tr.q (QS.assign rfl) rfl ?_
 refine Tr.nil (Tr.thenN (Tr.seq ?_))
 refine Tr.regionH ([cellE bc (cpuC s bM vi vo eff) 47, cellE b1 (encIns.enc i) 67]) 12 rfl HLF.mixed ?_
 refine Tr.hT 0 rfl (by kernel_rfl) (panicThen panicBody) (QS.move rfl) ?_
 refine Tr.hT 1 rfl (by kernel_rfl) (panicThen panicBody) (QS.fieldAddr (off := 7) (ft := 3) rfl Try.underlying67 rfl rfl Try.sizeOf3 (by decide)) ?_
 refine Tr.hT 2 rfl (by kernel_rfl) (panicThen panicBody) (QS.lV rfl Try.isAgg3) ?_
 refine Tr.hT 3 rfl (by kernel_rfl) (panicThen panicBody) (QS.nilCheck rfl) ?_
 refine Tr.hT 4 rfl (by kernel_rfl) (panicThen panicBody) (QS.fieldAddr (off := 0) (ft := 42) rfl Try.underlying47 rfl rfl Try.sizeOf42 (by decide)) ?_
 refine Tr.hT 5 rfl (by kernel_rfl) (panicThen panicBody) (QS.fieldAddr (off := 0) (ft := 38) rfl Try.underlying42 rfl rfl Try.sizeOf38 (by decide)) ?_
 refine Tr.hT 6 rfl (by kernel_rfl) (panicThen panicBody) (QS.idxArr rfl rfl Try.underlying38 Try.sizeOf22 (by omega)) ?_
 refine Tr.hT 7 rfl (by kernel_rfl) (panicThen panicBody) (QS.loadV rfl (by repeat constructor) Try.isAgg22 (cpuC_reg hB (by simp))) ?_
 refine Tr.hT 8 rfl (by kernel_rfl) (panicThen panicBody) (QS.fieldAddr (off := 1) (ft := 22) rfl Try.underlying67 rfl rfl Try.sizeOf22 (by decide)) ?_
 refine Tr.hT 9 rfl (by kernel_rfl) (panicThen panicBody) (QS.lV rfl Try.isAgg22) ?_
 refine Tr.hT 10 rfl (by kernel_rfl) (panicThen panicBody) (QS.add32 rfl rfl) ?_
 refine Tr.hT 11 rfl (by kernel_rfl) (panicThen panicBody) (QS.assign rfl) ?_
 refine Tr.hDone (by kernel_rfl) ?_
 refine Tr.thenN (Tr.seq (Tr.seq (Tr.region ?_)))
 refine Tr.q (QS.fieldAddr (off := 2) (ft := 3) rfl Try.underlying67 rfl rfl Try.sizeOf3 (by decide)) rfl ?_
 refine Tr.q (QS.lV rfl Try.isAgg3) rfl ?_
 refine Tr.q (QS.eql rfl rfl) rfl ?_
 refine Tr.nil (Tr.thenN ?_)
 refine Tr.cond rfl (fun h2 => ?_) (fun h2 => ?_)
 ·try simp only [bs] at h2
  refine Tr.seq (Tr.seq ?_)
  refine Tr.regionH ([cellE bc (cpuC s bM vi vo eff) 47, cellE b1 (encIns.enc i) 67]) 17 rfl HLF.mixed ?_
  refine Tr.hT 0 rfl (by kernel_rfl) (panicThen (panicThen (panicThen panicBody))) (QS.move rfl) ?_
  refine Tr.hT 1 rfl (by kernel_rfl) (panicThen (panicThen (panicThen panicBody))) (QS.nilCheck rfl) ?_
  refine Tr.hT 2 rfl (by kernel_rfl) (panicThen (panicThen (panicThen panicBody))) (QS.fieldAddr (off := 13) (ft := 23) rfl Try.underlying47 rfl rfl Try.sizeOf23 (by decide)) ?_
  refine Tr.hT 3 rfl (by kernel_rfl) (panicThen (panicThen (panicThen panicBody))) (QS.loadV rfl (by repeat constructor) Try.isAgg23 (by rfl)) ?_
  refine Tr.hT 4 rfl (by kernel_rfl) (panicThen (panicThen (panicThen panicBody))) (QS.move rfl) ?_
  refine Tr.hT 5 rfl (by kernel_rfl) (panicThen (panicThen (panicThen panicBody))) (QS.fieldAddr (off := 4) (ft := 3) rfl Try.underlying67 rfl rfl Try.sizeOf3 (by decide)) ?_
  refine Tr.hT 6 rfl (by kernel_rfl) (panicThen (panicThen (panicThen panicBody))) (QS.lV rfl Try.isAgg3) ?_
  refine Tr.hT 7 rfl (by kernel_rfl) (panicThen (panicThen (panicThen panicBody))) (QS.move rfl) ?_
  refine Tr.hT 8 rfl (by kernel_rfl) (panicThen (panicThen (panicThen panicBody))) (QS.fieldAddr (off := 6) (ft := 3) rfl Try.underlying67 rfl rfl Try.sizeOf3 (by decide)) ?_
  refine Tr.hT 9 rfl (by kernel_rfl) (panicThen (panicThen (panicThen panicBody))) (QS.lV rfl Try.isAgg3) ?_
  refine Tr.hT 10 rfl (by kernel_rfl) (panicThen (panicThen (panicThen panicBody))) (QS.nilCheck rfl) ?_
  refine Tr.hT 11 rfl (by kernel_rfl) (panicThen (panicThen (panicThen panicBody))) (QS.fieldAddr (off := 0) (ft := 42) rfl Try.underlying47 rfl rfl Try.sizeOf42 (by decide)) ?_
  refine Tr.hT 12 rfl (by kernel_rfl) (panicThen (panicThen (panicThen panicBody))) (QS.fieldAddr (off := 0) (ft := 38) rfl Try.underlying42 rfl rfl Try.sizeOf38 (by decide)) ?_
  refine Tr.hT 13 rfl (by kernel_rfl) (panicThen (panicThen (panicThen panicBody))) (QS.idxArr rfl rfl Try.underlying38 Try.sizeOf22 (by omega)) ?_
  refine Tr.hT 14 rfl (by kernel_rfl) (panicThen (panicThen (panicThen panicBody))) (QS.loadV rfl (by repeat constructor) Try.isAgg22 (cpuC_reg hA (by simp))) ?_
  refine Tr.hAll [15] (by kernel_rfl) (by simp) (fun iq hq => ?_)
  obtain rfl := List.mem_singleton.1 hq
  refine Tr.hOp rfl ?_
  refine Tr.callO (fun _ : WL => .int .i64 (storeA l s.w (s.m.reg i.b + i.imm) i.width (s.m.reg i.a)).2) [mapE bm u8V wl] (fun wl' => [mapE bm u8V wl']) (ok := fun wl' => mread wl' = (storeA l s.w (s.m.reg i.b + i.imm) i.width (s.m.reg i.a)).1 ∧ wl'.length ≤ wl.length + 4) (dd := fun _ => 0) rfl Try.call35 (by repeat' (first | exact Split.nil _ | exact Del.here _ | apply Split.cons | apply Del.there)) (fun w hw => Nat.le_refl _) (fun w hw => by have q := mstore_any bM bm VR rs l (s.m.reg i.b + i.imm) i.width (s.m.reg i.a) wl w (hw.own (by repeat' (first | exact Split.nil _ | exact Del.here _ | apply Split.cons | apply Del.there))) (hM.mono (hw.lessB (Lo := [mapE bm u8V wl]) (by repeat' (first | exact Split.nil _ | exact Del.here _ | apply Split.cons | apply Del.there)))) hO; rw [hwl] at q; exact q) rfl (fun wl2 hw2 => ?_)
  refine Tr.hN ?_
  refine Tr.hT 16 rfl (by kernel_rfl) (panicThen (panicThen (panicThen panicBody))) (QS.assign rfl) ?_
  refine Tr.hDone (by kernel_rfl) ?_
  refine Tr.thenN (Tr.seq (Tr.region ?_))
  refine Tr.q (QS.move rfl) rfl ?_
  refine Tr.q (QS.neq rfl rfl) rfl ?_
  refine Tr.nil (Tr.thenN ?_)
  refine Tr.cond rfl (fun h3 => ?_) (fun h3 => ?_)
  ·try simp only [bs] at h3
   refine Tr.seq (Tr.region ?_)
   refine Tr.q (QS.move rfl) rfl ?_
   refine Tr.q (QS.assign rfl) rfl ?_
   refine Tr.nil (Tr.thenN (Tr.ret (Tr.thenR (Tr.thenR ?_))))
   refine Tr.ret1 Try.results75 rfl (fun w' hw => ?_)
   have hq : accessS l s i (nextP i) = (s, (storeA l s.w (s.m.reg i.b + i.imm) i.width (s.m.reg i.a)).2) := by unfold accessS; repeat (first | rw [if_pos (by first | assumption | omega)] | rw [if_neg (by first | assumption | omega)])
   exact ⟨wl2, by rw [hq]; try rfl, by rw [hq]; exact hw.upd (Bg.le.refl _) (by repeat' constructor), by rw [hq]; exact ⟨hw2.1.trans (store_err (by assumption)), hw2.2⟩⟩
  ·try simp only [bs] at h3
   refine Tr.skip (Tr.thenN (Tr.seq (Tr.region ?_)))
   refine Tr.q (QS.move rfl) rfl ?_
   refine Tr.q (QS.lW rfl Try.isAgg67 Try.sizeOf67) rfl ?_
   refine Tr.callO (fun _ : Unit => .tuple #[]) [cellE bc (cpuC (s) bM vi vo eff) 47] (fun _ => [cellE bc (cpuC ((s).to (nextP i)) bM vi vo eff) 47]) (ok := fun _ => True) (dd := fun _ => 0) rfl Try.call87 (by repeat' (first | exact Split.nil _ | exact Del.here _ | apply Split.cons | apply Del.there)) (fun w hw => Nat.le_refl _) (fun w hw => next_cpu (s) bc bM vi vo eff i w (hw.own (by repeat' (first | exact Split.nil _ | exact Del.here _ | apply Split.cons | apply Del.there))) hI) rfl (fun _ _ => ?_)
   refine Tr.nil (Tr.thenN (Tr.seq (Tr.region ?_)))
   refine Tr.q (QS.assign rfl) rfl ?_
   refine Tr.nil (Tr.thenN (Tr.ret (Tr.thenR ?_)))
   refine Tr.ret1 Try.results75 rfl (fun w' hw => ?_)
   have hq : accessS l s i (nextP i) = ({ s with w := (storeA l s.w (s.m.reg i.b + i.imm) i.width (s.m.reg i.a)).1, m := s.m.to (nextP i) }, 0) := by unfold accessS; repeat (first | rw [if_pos (by first | assumption | omega)] | rw [if_neg (by first | assumption | omega)])
   exact ⟨wl2, by rw [hq]; try rfl, by rw [hq]; exact hw.upd (Bg.le.refl _) (by repeat' constructor), by rw [hq]; exact ⟨hw2.1, hw2.2⟩⟩
 ·try simp only [bs] at h2
  refine Tr.skip (Tr.thenN (Tr.seq ?_))
  refine Tr.regionH ([cellE bc (cpuC s bM vi vo eff) 47, cellE b1 (encIns.enc i) 67]) 13 rfl HLF.mixed ?_
  refine Tr.hT 0 rfl (by kernel_rfl) (panicThen panicBody) (QS.move rfl) ?_
  refine Tr.hT 1 rfl (by kernel_rfl) (panicThen panicBody) (QS.nilCheck rfl) ?_
  refine Tr.hT 2 rfl (by kernel_rfl) (panicThen panicBody) (QS.fieldAddr (off := 13) (ft := 23) rfl Try.underlying47 rfl rfl Try.sizeOf23 (by decide)) ?_
  refine Tr.hT 3 rfl (by kernel_rfl) (panicThen panicBody) (QS.loadV rfl (by repeat constructor) Try.isAgg23 (by rfl)) ?_
  refine Tr.hT 4 rfl (by kernel_rfl) (panicThen panicBody) (QS.move rfl) ?_
  refine Tr.hT 5 rfl (by kernel_rfl) (panicThen panicBody) (QS.fieldAddr (off := 4) (ft := 3) rfl Try.underlying67 rfl rfl Try.sizeOf3 (by decide)) ?_
  refine Tr.hT 6 rfl (by kernel_rfl) (panicThen panicBody) (QS.lV rfl Try.isAgg3) ?_
  refine Tr.hAll [7] (by kernel_rfl) (by simp) (fun iq hq => ?_)
  obtain rfl := List.mem_singleton.1 hq
  refine Tr.hOp rfl ?_
  refine Tr.q (QS.call rfl Try.call12 (fun w hw => (by have q := mload_any bM bm VR rs l (s.m.reg i.b + i.imm) i.width wl w (hM.mono hw.bg) hO (mapE.in_ (hw.ent _ (by repeat constructor))); rw [hwl] at q; exact q))) rfl ?_
  refine Tr.hN ?_
  refine Tr.hT 8 rfl (by kernel_rfl) (panicThen panicBody) (QS.move rfl) ?_
  refine Tr.hT 9 rfl (by kernel_rfl) (panicThen panicBody) (QS.extract rfl rfl) ?_
  refine Tr.hT 10 rfl (by kernel_rfl) (panicThen panicBody) (QS.extract rfl rfl) ?_
  refine Tr.hT 11 rfl (by kernel_rfl) (panicThen panicBody) (QS.assign rfl) ?_
  refine Tr.hT 12 rfl (by kernel_rfl) (panicThen panicBody) (QS.assign rfl) ?_
  refine Tr.hDone (by kernel_rfl) ?_
  refine Tr.thenN (Tr.seq (Tr.seq (Tr.region ?_)))
  refine Tr.q (QS.move rfl) rfl ?_
  refine Tr.q (QS.neq rfl rfl) rfl ?_
  refine Tr.nil (Tr.thenN ?_)
  refine Tr.cond rfl (fun h4 => ?_) (fun h4 => ?_)
  ·try simp only [bs] at h4
   refine Tr.seq (Tr.region ?_)
   refine Tr.q (QS.move rfl) rfl ?_
   refine Tr.q (QS.assign rfl) rfl ?_
   refine Tr.nil (Tr.thenN (Tr.ret (Tr.thenR ?_)))
   refine Tr.ret1 Try.results75 rfl (fun w' hw => ?_)
   have hq : accessS l s i (nextP i) = (s, (loadA l s.w (s.m.reg i.b + i.imm) i.width).2) := by unfold accessS; repeat (first | rw [if_pos (by first | assumption | omega)] | rw [if_neg (by first | assumption | omega)])
   exact ⟨wl, by rw [hq]; try rfl, by rw [hq]; exact hw.upd (Bg.le.refl _) (by repeat' constructor), by rw [hq]; exact ⟨hwl, by omega⟩⟩
  ·try simp only [bs] at h4
   refine Tr.skip (Tr.thenN (Tr.seq (Tr.seq (Tr.region ?_))))
   refine Tr.q (QS.fieldAddr (off := 2) (ft := 3) rfl Try.underlying67 rfl rfl Try.sizeOf3 (by decide)) rfl ?_
   refine Tr.q (QS.lV rfl Try.isAgg3) rfl ?_
   refine Tr.q (QS.eql rfl rfl) rfl ?_
   refine Tr.nil (Tr.thenN ?_)
   refine Tr.cond rfl (fun h5 => ?_) (fun h5 => ?_)
   ·try simp only [bs] at h5
    refine Tr.region ?_
    refine Tr.q (QS.move rfl) rfl ?_
    refine Tr.q (QS.fieldAddr (off := 4) (ft := 3) rfl Try.underlying67 rfl rfl Try.sizeOf3 (by decide)) rfl ?_
    refine Tr.q (QS.lV rfl Try.isAgg3) rfl ?_
    refine Tr.q (QS.call rfl Try.call71 (fun w hw => extend_any (loadA l s.w (s.m.reg i.b + i.imm) i.width).1 i.width w)) rfl ?_
    refine Tr.q (QS.assign rfl) rfl ?_
    refine Tr.nil (Tr.thenN (Tr.seq ?_))
    refine Tr.regionH ([cellE b1 (encIns.enc i) 67]) 9 rfl HLF.mixed ?_
    refine Tr.hT 0 rfl (by kernel_rfl) (panicThen panicBody) (QS.move rfl) ?_
    refine Tr.hT 1 rfl (by kernel_rfl) (panicThen panicBody) (QS.fieldAddr (off := 6) (ft := 3) rfl Try.underlying67 rfl rfl Try.sizeOf3 (by decide)) ?_
    refine Tr.hT 2 rfl (by kernel_rfl) (panicThen panicBody) (QS.lV rfl Try.isAgg3) ?_
    refine Tr.hT 3 rfl (by kernel_rfl) (panicThen panicBody) (QS.move rfl) ?_
    refine Tr.hT 4 rfl (by kernel_rfl) (panicThen panicBody) (QS.nilCheck rfl) ?_
    refine Tr.hT 5 rfl (by kernel_rfl) (panicThen panicBody) (QS.fieldAddr (off := 0) (ft := 42) rfl Try.underlying47 rfl rfl Try.sizeOf42 (by decide)) ?_
    refine Tr.hT 6 rfl (by kernel_rfl) (panicThen panicBody) (QS.fieldAddr (off := 0) (ft := 38) rfl Try.underlying42 rfl rfl Try.sizeOf38 (by decide)) ?_
    refine Tr.hT 7 rfl (by kernel_rfl) (panicThen panicBody) (QS.idxArr rfl rfl Try.underlying38 Try.sizeOf22 (by omega)) ?_
    refine Tr.hAll [8] (by kernel_rfl) (by simp) (fun iq hq => ?_)
    obtain rfl := List.mem_singleton.1 hq
    refine Tr.hOp rfl ?_
    refine Tr.storeV rfl rfl Try.sizeOf22 (by repeat constructor) (cpuC_set hA (by simp) _) (by rfl) (by rw [cpuC_len]; first | (simp; done) | (simp; omega)) (by first | exact List.all_eq_true.1 rfl | exact Enc.one _ _ | (intro u hu; simp [Value.cells] at hu; simp_all [Value.oneCell'])) rfl ?_
    refine Tr.hN ?_
    refine Tr.hDone (by kernel_rfl) ?_
    refine Tr.thenN (Tr.seq (Tr.region ?_))
    refine Tr.q (QS.move rfl) rfl ?_
    refine Tr.q (QS.lW rfl Try.isAgg67 Try.sizeOf67) rfl ?_
    refine Tr.callO (fun _ : Unit => .tuple #[]) [cellE bc (cpuC (s.setR i.a (extP (loadA l s.w (s.m.reg i.b + i.imm) i.width).1 i.width)) bM vi vo eff) 47] (fun _ => [cellE bc (cpuC ((s.setR i.a (extP (loadA l s.w (s.m.reg i.b + i.imm) i.width).1 i.width)).to (nextP i)) bM vi vo eff) 47]) (ok := fun _ => True) (dd := fun _ => 0) rfl Try.call87 (by repeat' (first | exact Split.nil _ | exact Del.here _ | apply Split.cons | apply Del.there)) (fun w hw => Nat.le_refl _) (fun w hw => next_cpu (s.setR i.a (extP (loadA l s.w (s.m.reg i.b + i.imm) i.width).1 i.width)) bc bM vi vo eff i w (hw.own (by repeat' (first | exact Split.nil _ | exact Del.here _ | apply Split.cons | apply Del.there))) hI) rfl (fun _ _ => ?_)
    refine Tr.nil (Tr.thenN (Tr.seq (Tr.region ?_)))
    refine Tr.q (QS.assign rfl) rfl ?_
    refine Tr.nil (Tr.thenN (Tr.ret ?_))
    refine Tr.ret1 Try.results75 rfl (fun w' hw => ?_)
    have hq : accessS l s i (nextP i) = ({ s with m := (s.m.set i.a (extP (loadA l s.w (s.m.reg i.b + i.imm) i.width).1 i.width)).to (nextP i) }, 0) := by unfold accessS; repeat (first | rw [if_pos (by first | assumption | omega)] | rw [if_neg (by first | assumption | omega)])
    exact ⟨wl, by rw [hq]; try rfl, by rw [hq]; exact hw.upd (Bg.le.refl _) (by repeat' constructor), by rw [hq]; exact ⟨hwl, by omega⟩⟩
   ·try simp only [bs] at h5
    refine Tr.skip (Tr.thenN (Tr.seq ?_))
    refine Tr.regionH ([cellE b1 (encIns.enc i) 67]) 9 rfl HLF.mixed ?_
    refine Tr.hT 0 rfl (by kernel_rfl) (panicThen panicBody) (QS.move rfl) ?_
    refine Tr.hT 1 rfl (by kernel_rfl) (panicThen panicBody) (QS.fieldAddr (off := 6) (ft := 3) rfl Try.underlying67 rfl rfl Try.sizeOf3 (by decide)) ?_
    refine Tr.hT 2 rfl (by kernel_rfl) (panicThen panicBody) (QS.lV rfl Try.isAgg3) ?_
    refine Tr.hT 3 rfl (by kernel_rfl) (panicThen panicBody) (QS.move rfl) ?_
    refine Tr.hT 4 rfl (by kernel_rfl) (panicThen panicBody) (QS.nilCheck rfl) ?_
    refine Tr.hT 5 rfl (by kernel_rfl) (panicThen panicBody) (QS.fieldAddr (off := 0) (ft := 42) rfl Try.underlying47 rfl rfl Try.sizeOf42 (by decide)) ?_
    refine Tr.hT 6 rfl (by kernel_rfl) (panicThen panicBody) (QS.fieldAddr (off := 0) (ft := 38) rfl Try.underlying42 rfl rfl Try.sizeOf38 (by decide)) ?_
    refine Tr.hT 7 rfl (by kernel_rfl) (panicThen panicBody) (QS.idxArr rfl rfl Try.underlying38 Try.sizeOf22 (by omega)) ?_
    refine Tr.hAll [8] (by kernel_rfl) (by simp) (fun iq hq => ?_)
    obtain rfl := List.mem_singleton.1 hq
    refine Tr.hOp rfl ?_
    refine Tr.storeV rfl rfl Try.sizeOf22 (by repeat constructor) (cpuC_set hA (by simp) _) (by rfl) (by rw [cpuC_len]; first | (simp; done) | (simp; omega)) (by first | exact List.all_eq_true.1 rfl | exact Enc.one _ _ | (intro u hu; simp [Value.cells] at hu; simp_all [Value.oneCell'])) rfl ?_
    refine Tr.hN ?_
    refine Tr.hDone (by kernel_rfl) ?_
    refine Tr.thenN (Tr.seq (Tr.region ?_))
    refine Tr.q (QS.move rfl) rfl ?_
    refine Tr.q (QS.lW rfl Try.isAgg67 Try.sizeOf67) rfl ?_
    refine Tr.callO (fun _ : Unit => .tuple #[]) [cellE bc (cpuC (s.setR i.a (loadA l s.w (s.m.reg i.b + i.imm) i.width).1) bM vi vo eff) 47] (fun _ => [cellE bc (cpuC ((s.setR i.a (loadA l s.w (s.m.reg i.b + i.imm) i.width).1).to (nextP i)) bM vi vo eff) 47]) (ok := fun _ => True) (dd := fun _ => 0) rfl Try.call87 (by repeat' (first | exact Split.nil _ | exact Del.here _ | apply Split.cons | apply Del.there)) (fun w hw => Nat.le_refl _) (fun w hw => next_cpu (s.setR i.a (loadA l s.w (s.m.reg i.b + i.imm) i.width).1) bc bM vi vo eff i w (hw.own (by repeat' (first | exact Split.nil _ | exact Del.here _ | apply Split.cons | apply Del.there))) hI) rfl (fun _ _ => ?_)
    refine Tr.nil (Tr.thenN (Tr.seq (Tr.region ?_)))
    refine Tr.q (QS.assign rfl) rfl ?_
    refine Tr.nil (Tr.thenN (Tr.ret ?_))
    refine Tr.ret1 Try.results75 rfl (fun w' hw => ?_)
    have hq : accessS l s i (nextP i) = ({ s with m := (s.m.set i.a (loadA l s.w (s.m.reg i.b + i.imm) i.width).1).to (nextP i) }, 0) := by unfold accessS; repeat (first | rw [if_pos (by first | assumption | omega)] | rw [if_neg (by first | assumption | omega)])
    exact ⟨wl, by rw [hq]; try rfl, by rw [hq]; exact hw.upd (Bg.le.refl _) (by repeat' constructor), by rw [hq]; exact ⟨hwl, by omega⟩⟩
set_option maxRecDepth 100000 in
set_option maxHeartbeats 8000000 in
theorem jump_cpu (s : St) (bc bM bm : Nat) (VR vi vo eff : Value) (rs : List RegV) (l : List SecV) (wl : WL) (i : Ins) (w : World) (ho : OwnAt w [cellE bc (cpuC s bM vi vo eff) 47, mapE bm u8V wl]) (hM : MemAt (Bg.lessB w (blks [cellE bc (cpuC s bM vi vo eff) 47, mapE bm u8V wl]) 0).blk bM bm VR rs) (hO : MemOK l rs) (hwl : mread wl = s.w) (hI : InsOK i) (hA : 0 ≤ i.a ∧ i.a < 8) (hB : 0 ≤ i.b ∧ i.b < 8) :
  Calls Try.prog 76 #[.pointer (some ⟨bc, 0, none⟩), .agg (encIns.enc i).toArray] w (fun e w' => ∃ wl' : WL, e = .returned (.int .i64 (jumpS l s i (nextP i)).2) ∧ Upd 0 w w' (blks [cellE bc (cpuC s bM vi vo eff) 47, mapE bm u8V wl]) [cellE bc (cpuC (jumpS l s i (nextP i)).1 bM vi vo eff) 47, mapE bm u8V wl'] ∧ (mread wl' = (jumpS l s i (nextP i)).1.w ∧ wl'.length ≤ wl.length + 4)) := by
 refine enterB (L := [cellE bc (cpuC s bM vi vo eff) 47, mapE bm u8V wl]) ho rfl (Nat.zero_le _) Try.func76 rfl Try.ntmps76 rfl ?_
 refine Tr.seq (Tr.region ?_)
 refine Tr.box rfl rfl rfl (fun b1 => ?_)
 refine Tr.q (QS.assign rfl) rfl ?_
 refine Tr.nil (Tr.thenN (Tr.seq (Tr.region ?_)))
 refine Tr.q (QS.lW rfl Try.isAgg67 Try.sizeOf67) rfl ?_
 refine Tr.q (QS.call rfl Try.call88 (fun w hw => next_isa i w hI)) rfl ?_
 refine Tr.q (QS.assign rfl) rfl ?_
 refine Tr.nil (Tr.thenN (Tr.seq (Tr.block (Tr.seq (Tr.region ?_)))))
 refine Tr.q (QS.fieldAddr (off := 2) (ft := 3) rfl Try.underlying67 rfl rfl Try.sizeOf3 (by decide)) rfl ?_
 refine Tr.q (QS.lV rfl Try.isAgg3) rfl ?_
 refine Tr.q (QS.eql rfl rfl) rfl ?_
 refine Tr.q (QS.assign rfl) rfl ?_
 refine Tr.nil (Tr.thenN ?_)
 refine Tr.cond rfl (fun h2 => ?_) (fun h2 => ?_)
 ·try simp only [bs] at h2
  refine Tr.regionH ([cellE bc (cpuC s bM vi vo eff) 47, cellE b1 (encIns.enc i) 67]) 9 rfl HLF.mixed ?_
  refine Tr.hT 0 rfl (by kernel_rfl) (panicIn (panicThen panicBody)) (QS.move rfl) ?_
  refine Tr.hT 1 rfl (by kernel_rfl) (panicIn (panicThen panicBody)) (QS.fieldAddr (off := 6) (ft := 3) rfl Try.underlying67 rfl rfl Try.sizeOf3 (by decide)) ?_
  refine Tr.hT 2 rfl (by kernel_rfl) (panicIn (panicThen panicBody)) (QS.lV rfl Try.isAgg3) ?_
  refine Tr.hT 3 rfl (by kernel_rfl) (panicIn (panicThen panicBody)) (QS.nilCheck rfl) ?_
  refine Tr.hT 4 rfl (by kernel_rfl) (panicIn (panicThen panicBody)) (QS.fieldAddr (off := 0) (ft := 42) rfl Try.underlying47 rfl rfl Try.sizeOf42 (by decide)) ?_
  refine Tr.hT 5 rfl (by kernel_rfl) (panicIn (panicThen panicBody)) (QS.fieldAddr (off := 0) (ft := 38) rfl Try.underlying42 rfl rfl Try.sizeOf38 (by decide)) ?_
  refine Tr.hT 6 rfl (by kernel_rfl) (panicIn (panicThen panicBody)) (QS.idxArr rfl rfl Try.underlying38 Try.sizeOf22 (by omega)) ?_
  refine Tr.hT 7 rfl (by kernel_rfl) (panicIn (panicThen panicBody)) (QS.loadV rfl (by repeat constructor) Try.isAgg22 (cpuC_reg hA (by simp))) ?_
  refine Tr.hT 8 rfl (by kernel_rfl) (panicIn (panicThen panicBody)) (QS.assign rfl) ?_
  refine Tr.hDone (by kernel_rfl) ?_
  refine Tr.inN (Tr.thenN (Tr.seq (Tr.region ?_)))
  refine Tr.q (QS.move rfl) rfl ?_
  refine Tr.q (QS.move rfl) rfl ?_
  refine Tr.q (QS.nilCheck rfl) rfl ?_
  refine Tr.q (QS.fieldAddr (off := 0) (ft := 42) rfl Try.underlying47 rfl rfl Try.sizeOf42 (by decide)) rfl ?_
  refine Tr.q (QS.fieldAddr (off := 8) (ft := 22) rfl Try.underlying42 rfl rfl Try.sizeOf22 (by decide)) rfl ?_
  refine Tr.storeV rfl rfl Try.sizeOf22 (by repeat constructor) (cpuC_to _) (by rfl) (by exact Nat.le_of_ble_eq_true rfl) (by first | exact List.all_eq_true.1 rfl | exact Enc.one _ _ | (intro u hu; simp [Value.cells] at hu; simp_all [Value.oneCell'])) rfl ?_
  refine Tr.nil (Tr.thenN (Tr.seq (Tr.region ?_)))
  refine Tr.q (QS.assign rfl) rfl ?_
  refine Tr.nil (Tr.thenN (Tr.ret ?_))
  refine Tr.ret1 Try.results76 rfl (fun w' hw => ?_)
  have hq : jumpS l s i (nextP i) = ({ s with m := s.m.to (s.m.reg i.a) }, 0) := by unfold jumpS; repeat (first | rw [if_pos (by first | assumption | omega)] | rw [if_neg (by first | assumption | omega)])
  exact ⟨wl, by rw [hq]; try rfl, by rw [hq]; exact hw.upd (Bg.le.refl _) (by repeat' constructor), by rw [hq]; exact ⟨hwl, by omega⟩⟩
 ·try simp only [bs] at h2
  refine Tr.seq (Tr.region ?_)
  refine Tr.q (QS.fieldAddr (off := 2) (ft := 3) rfl Try.underlying67 rfl rfl Try.sizeOf3 (by decide)) rfl ?_
  refine Tr.q (QS.lV rfl Try.isAgg3) rfl ?_
  refine Tr.q (QS.eql rfl rfl) rfl ?_
  refine Tr.q (QS.assign rfl) rfl ?_
  refine Tr.nil (Tr.thenN ?_)
  refine Tr.cond rfl (fun h3 => ?_) (fun h3 => ?_)
  ·try simp only [bs] at h3
   refine Tr.seq ?_
   refine Tr.regionH ([cellE bc (cpuC s bM vi vo eff) 47, cellE b1 (encIns.enc i) 67]) 22 rfl HLF.mixed ?_
   refine Tr.hT 0 rfl (by kernel_rfl) (panicThen (panicIn (panicThen panicBody))) (QS.move rfl) ?_
   refine Tr.hT 1 rfl (by kernel_rfl) (panicThen (panicIn (panicThen panicBody))) (QS.nilCheck rfl) ?_
   refine Tr.hT 2 rfl (by kernel_rfl) (panicThen (panicIn (panicThen panicBody))) (QS.fieldAddr (off := 13) (ft := 23) rfl Try.underlying47 rfl rfl Try.sizeOf23 (by decide)) ?_
   refine Tr.hT 3 rfl (by kernel_rfl) (panicThen (panicIn (panicThen panicBody))) (QS.loadV rfl (by repeat constructor) Try.isAgg23 (by rfl)) ?_
   refine Tr.hT 4 rfl (by kernel_rfl) (panicThen (panicIn (panicThen panicBody))) (QS.fieldAddr (off := 1) (ft := 22) rfl Try.underlying67 rfl rfl Try.sizeOf22 (by decide)) ?_
   refine Tr.hT 5 rfl (by kernel_rfl) (panicThen (panicIn (panicThen panicBody))) (QS.lV rfl Try.isAgg22) ?_
   refine Tr.hT 6 rfl (by kernel_rfl) (panicThen (panicIn (panicThen panicBody))) (QS.move rfl) ?_
   refine Tr.hT 7 rfl (by kernel_rfl) (panicThen (panicIn (panicThen panicBody))) (QS.fieldAddr (off := 6) (ft := 3) rfl Try.underlying67 rfl rfl Try.sizeOf3 (by decide)) ?_
   refine Tr.hT 8 rfl (by kernel_rfl) (panicThen (panicIn (panicThen panicBody))) (QS.lV rfl Try.isAgg3) ?_
   refine Tr.hT 9 rfl (by kernel_rfl) (panicThen (panicIn (panicThen panicBody))) (QS.nilCheck rfl) ?_
   refine Tr.hT 10 rfl (by kernel_rfl) (panicThen (panicIn (panicThen panicBody))) (QS.fieldAddr (off := 0) (ft := 42) rfl Try.underlying47 rfl rfl Try.sizeOf42 (by decide)) ?_
   refine Tr.hT 11 rfl (by kernel_rfl) (panicThen (panicIn (panicThen panicBody))) (QS.fieldAddr (off := 0) (ft := 38) rfl Try.underlying42 rfl rfl Try.sizeOf38 (by decide)) ?_
   refine Tr.hT 12 rfl (by kernel_rfl) (panicThen (panicIn (panicThen panicBody))) (QS.idxArr rfl rfl Try.underlying38 Try.sizeOf22 (by omega)) ?_
   refine Tr.hT 13 rfl (by kernel_rfl) (panicThen (panicIn (panicThen panicBody))) (QS.loadV rfl (by repeat constructor) Try.isAgg22 (cpuC_reg hA (by simp))) ?_
   refine Tr.hT 14 rfl (by kernel_rfl) (panicThen (panicIn (panicThen panicBody))) (QS.mul32 (m := 4) rfl rfl) ?_
   refine Tr.hT 15 rfl (by kernel_rfl) (panicThen (panicIn (panicThen panicBody))) (QS.add32 rfl rfl) ?_
   refine Tr.hAll [16] (by kernel_rfl) (by simp) (fun iq hq => ?_)
   obtain rfl := List.mem_singleton.1 hq
   refine Tr.hOp rfl ?_
   refine Tr.q (QS.call rfl Try.call12 (fun w hw => (by have q := mload_any bM bm VR rs l (i.imm + 4 * s.m.reg i.a) 4 wl w (hM.mono hw.bg) hO (mapE.in_ (hw.ent _ (by repeat constructor))); rw [hwl] at q; exact q))) rfl ?_
   refine Tr.hN ?_
   refine Tr.hT 17 rfl (by kernel_rfl) (panicThen (panicIn (panicThen panicBody))) (QS.move rfl) ?_
   refine Tr.hT 18 rfl (by kernel_rfl) (panicThen (panicIn (panicThen panicBody))) (QS.extract rfl rfl) ?_
   refine Tr.hT 19 rfl (by kernel_rfl) (panicThen (panicIn (panicThen panicBody))) (QS.extract rfl rfl) ?_
   refine Tr.hT 20 rfl (by kernel_rfl) (panicThen (panicIn (panicThen panicBody))) (QS.assign rfl) ?_
   refine Tr.hT 21 rfl (by kernel_rfl) (panicThen (panicIn (panicThen panicBody))) (QS.assign rfl) ?_
   refine Tr.hDone (by kernel_rfl) ?_
   refine Tr.thenN (Tr.seq (Tr.seq (Tr.region ?_)))
   refine Tr.q (QS.move rfl) rfl ?_
   refine Tr.q (QS.neq rfl rfl) rfl ?_
   refine Tr.nil (Tr.thenN ?_)
   refine Tr.cond rfl (fun h4 => ?_) (fun h4 => ?_)
   ·try simp only [bs] at h4
    refine Tr.seq (Tr.region ?_)
    refine Tr.q (QS.move rfl) rfl ?_
    refine Tr.q (QS.assign rfl) rfl ?_
    refine Tr.nil (Tr.thenN (Tr.ret (Tr.thenR ?_)))
    refine Tr.inR ?_
    refine Tr.thenR ?_
    refine Tr.ret1 Try.results76 rfl (fun w' hw => ?_)
    have hq : jumpS l s i (nextP i) = (s, (loadA l s.w (i.imm + 4 * s.m.reg i.a) 4).2) := by unfold jumpS; repeat (first | rw [if_pos (by first | assumption | omega)] | rw [if_neg (by first | assumption | omega)])
    exact ⟨wl, by rw [hq]; try rfl, by rw [hq]; exact hw.upd (Bg.le.refl _) (by repeat' constructor), by rw [hq]; exact ⟨hwl, by omega⟩⟩
   ·try simp only [bs] at h4
    refine Tr.skip (Tr.thenN (Tr.region ?_))
    refine Tr.q (QS.move rfl) rfl ?_
    refine Tr.q (QS.assign rfl) rfl ?_
    refine Tr.nil (Tr.inN (Tr.thenN (Tr.seq (Tr.region ?_))))
    refine Tr.q (QS.move rfl) rfl ?_
    refine Tr.q (QS.move rfl) rfl ?_
    refine Tr.q (QS.nilCheck rfl) rfl ?_
    refine Tr.q (QS.fieldAddr (off := 0) (ft := 42) rfl Try.underlying47 rfl rfl Try.sizeOf42 (by decide)) rfl ?_
    refine Tr.q (QS.fieldAddr (off := 8) (ft := 22) rfl Try.underlying42 rfl rfl Try.sizeOf22 (by decide)) rfl ?_
    refine Tr.storeV rfl rfl Try.sizeOf22 (by repeat constructor) (cpuC_to _) (by rfl) (by exact Nat.le_of_ble_eq_true rfl) (by first | exact List.all_eq_true.1 rfl | exact Enc.one _ _ | (intro u hu; simp [Value.cells] at hu; simp_all [Value.oneCell'])) rfl ?_
    refine Tr.nil (Tr.thenN (Tr.seq (Tr.region ?_)))
    refine Tr.q (QS.assign rfl) rfl ?_
    refine Tr.nil (Tr.thenN (Tr.ret ?_))
    refine Tr.ret1 Try.results76 rfl (fun w' hw => ?_)
    have hq : jumpS l s i (nextP i) = ({ s with m := s.m.to (loadA l s.w (i.imm + 4 * s.m.reg i.a) 4).1 }, 0) := by unfold jumpS; repeat (first | rw [if_pos (by first | assumption | omega)] | rw [if_neg (by first | assumption | omega)])
    exact ⟨wl, by rw [hq]; try rfl, by rw [hq]; exact hw.upd (Bg.le.refl _) (by repeat' constructor), by rw [hq]; exact ⟨hwl, by omega⟩⟩
  ·try simp only [bs] at h3
   refine Tr.seq ?_
   refine Tr.regionH ([cellE bc (cpuC s bM vi vo eff) 47, cellE b1 (encIns.enc i) 67]) 9 rfl HLF.mixed ?_
   refine Tr.hT 0 rfl (by kernel_rfl) (panicThen (panicIn (panicThen panicBody))) (QS.fieldAddr (off := 5) (ft := 3) rfl Try.underlying67 rfl rfl Try.sizeOf3 (by decide)) ?_
   refine Tr.hT 1 rfl (by kernel_rfl) (panicThen (panicIn (panicThen panicBody))) (QS.lV rfl Try.isAgg3) ?_
   refine Tr.hT 2 rfl (by kernel_rfl) (panicThen (panicIn (panicThen panicBody))) (QS.move rfl) ?_
   refine Tr.hT 3 rfl (by kernel_rfl) (panicThen (panicIn (panicThen panicBody))) (QS.nilCheck rfl) ?_
   refine Tr.hT 4 rfl (by kernel_rfl) (panicThen (panicIn (panicThen panicBody))) (QS.fieldAddr (off := 0) (ft := 42) rfl Try.underlying47 rfl rfl Try.sizeOf42 (by decide)) ?_
   refine Tr.hT 5 rfl (by kernel_rfl) (panicThen (panicIn (panicThen panicBody))) (QS.fieldAddr (off := 9) (ft := 40) rfl Try.underlying42 rfl rfl Try.sizeOf40 (by decide)) ?_
   refine Tr.hT 6 rfl (by kernel_rfl) (panicThen (panicIn (panicThen panicBody))) (QS.loadVA (vs := encFlg.enc s.m.f) rfl (by repeat constructor) Try.isAgg40 Try.sizeOf40 rfl rfl) ?_
   refine Tr.hAll [7] (by kernel_rfl) (by simp) (fun iq hq => ?_)
   obtain rfl := List.mem_singleton.1 hq
   refine Tr.hOp rfl ?_
   refine Tr.q (QS.call rfl Try.call89 (fun w hw => holds_bits i.cc s.m.f w)) rfl ?_
   refine Tr.hN ?_
   refine Tr.hT 8 rfl (by kernel_rfl) (panicThen (panicIn (panicThen panicBody))) (QS.assign rfl) ?_
   refine Tr.hDone (by kernel_rfl) ?_
   refine Tr.thenN ?_
   refine Tr.cond rfl (fun h5 => ?_) (fun h5 => ?_)
   ·try simp only [bs] at h5
    refine Tr.region ?_
    refine Tr.q (QS.fieldAddr (off := 1) (ft := 22) rfl Try.underlying67 rfl rfl Try.sizeOf22 (by decide)) rfl ?_
    refine Tr.q (QS.lV rfl Try.isAgg22) rfl ?_
    refine Tr.q (QS.assign rfl) rfl ?_
    refine Tr.nil (Tr.inN (Tr.thenN (Tr.seq (Tr.region ?_))))
    refine Tr.q (QS.move rfl) rfl ?_
    refine Tr.q (QS.move rfl) rfl ?_
    refine Tr.q (QS.nilCheck rfl) rfl ?_
    refine Tr.q (QS.fieldAddr (off := 0) (ft := 42) rfl Try.underlying47 rfl rfl Try.sizeOf42 (by decide)) rfl ?_
    refine Tr.q (QS.fieldAddr (off := 8) (ft := 22) rfl Try.underlying42 rfl rfl Try.sizeOf22 (by decide)) rfl ?_
    refine Tr.storeV rfl rfl Try.sizeOf22 (by repeat constructor) (cpuC_to _) (by rfl) (by exact Nat.le_of_ble_eq_true rfl) (by first | exact List.all_eq_true.1 rfl | exact Enc.one _ _ | (intro u hu; simp [Value.cells] at hu; simp_all [Value.oneCell'])) rfl ?_
    refine Tr.nil (Tr.thenN (Tr.seq (Tr.region ?_)))
    refine Tr.q (QS.assign rfl) rfl ?_
    refine Tr.nil (Tr.thenN (Tr.ret ?_))
    refine Tr.ret1 Try.results76 rfl (fun w' hw => ?_)
    have hq : jumpS l s i (nextP i) = ({ s with m := s.m.to i.imm }, 0) := by unfold jumpS; repeat (first | rw [if_pos (by first | assumption | omega)] | rw [if_neg (by first | assumption | omega)])
    exact ⟨wl, by rw [hq]; try rfl, by rw [hq]; exact hw.upd (Bg.le.refl _) (by repeat' constructor), by rw [hq]; exact ⟨hwl, by omega⟩⟩
   ·try simp only [bs] at h5
    refine Tr.skip (Tr.inN (Tr.thenN (Tr.seq (Tr.region ?_))))
    refine Tr.q (QS.move rfl) rfl ?_
    refine Tr.q (QS.move rfl) rfl ?_
    refine Tr.q (QS.nilCheck rfl) rfl ?_
    refine Tr.q (QS.fieldAddr (off := 0) (ft := 42) rfl Try.underlying47 rfl rfl Try.sizeOf42 (by decide)) rfl ?_
    refine Tr.q (QS.fieldAddr (off := 8) (ft := 22) rfl Try.underlying42 rfl rfl Try.sizeOf22 (by decide)) rfl ?_
    refine Tr.storeV rfl rfl Try.sizeOf22 (by repeat constructor) (cpuC_to _) (by rfl) (by exact Nat.le_of_ble_eq_true rfl) (by first | exact List.all_eq_true.1 rfl | exact Enc.one _ _ | (intro u hu; simp [Value.cells] at hu; simp_all [Value.oneCell'])) rfl ?_
    refine Tr.nil (Tr.thenN (Tr.seq (Tr.region ?_)))
    refine Tr.q (QS.assign rfl) rfl ?_
    refine Tr.nil (Tr.thenN (Tr.ret ?_))
    refine Tr.ret1 Try.results76 rfl (fun w' hw => ?_)
    have hh : ¬ holdsP i.cc s.m.f = true := by simp_all
    have hq : jumpS l s i (nextP i) = ({ s with m := s.m.to (nextP i) }, 0) := by unfold jumpS; repeat (first | rw [if_pos (by first | assumption | omega)] | rw [if_neg (by first | assumption | omega)])
    exact ⟨wl, by rw [hq]; try rfl, by rw [hq]; exact hw.upd (Bg.le.refl _) (by repeat' constructor), by rw [hq]; exact ⟨hwl, by omega⟩⟩
set_option maxRecDepth 100000 in
set_option maxHeartbeats 8000000 in
theorem call_cpu (s : St) (bc bM bm : Nat) (VR vi vo eff : Value) (rs : List RegV) (l : List SecV) (wl : WL) (i : Ins) (w : World) (ho : OwnAt w [cellE bc (cpuC s bM vi vo eff) 47, mapE bm u8V wl]) (hM : MemAt (Bg.lessB w (blks [cellE bc (cpuC s bM vi vo eff) 47, mapE bm u8V wl]) 0).blk bM bm VR rs) (hO : MemOK l rs) (hwl : mread wl = s.w) (hI : InsOK i) (hA : 0 ≤ i.a ∧ i.a < 8) (hB : 0 ≤ i.b ∧ i.b < 8) :
  Calls Try.prog 77 #[.pointer (some ⟨bc, 0, none⟩), .agg (encIns.enc i).toArray] w (fun e w' => ∃ wl' : WL, e = .returned (.int .i64 (callS l s i (nextP i)).2) ∧ Upd 0 w w' (blks [cellE bc (cpuC s bM vi vo eff) 47, mapE bm u8V wl]) [cellE bc (cpuC (callS l s i (nextP i)).1 bM vi vo eff) 47, mapE bm u8V wl'] ∧ (mread wl' = (callS l s i (nextP i)).1.w ∧ wl'.length ≤ wl.length + 4)) := by
 refine enterB (L := [cellE bc (cpuC s bM vi vo eff) 47, mapE bm u8V wl]) ho rfl (Nat.zero_le _) Try.func77 rfl Try.ntmps77 rfl ?_
 refine Tr.seq (Tr.region ?_)
 refine Tr.box rfl rfl rfl (fun b1 => ?_)
 refine Tr.q (QS.assign rfl) rfl ?_
 refine Tr.nil (Tr.thenN (Tr.seq (Tr.region ?_)))
 refine Tr.q (QS.move rfl) rfl ?_
 refine Tr.q (QS.nilCheck rfl) rfl ?_
 refine Tr.q (QS.fieldAddr (off := 0) (ft := 42) rfl Try.underlying47 rfl rfl Try.sizeOf42 (by decide)) rfl ?_
 refine Tr.q (QS.fieldAddr (off := 0) (ft := 38) rfl Try.underlying42 rfl rfl Try.sizeOf38 (by decide)) rfl ?_
 refine Tr.q (QS.idxArr rfl rfl Try.underlying38 Try.sizeOf22 (by omega)) rfl ?_
 refine Tr.q (QS.loadV rfl (by repeat constructor) Try.isAgg22 (by rfl)) rfl ?_
 refine Tr.q (QS.assign rfl) rfl ?_
 refine Tr.nil (Tr.thenN (Tr.seq (Tr.seq (Tr.region ?_))))
 refine Tr.q (QS.fieldAddr (off := 2) (ft := 3) rfl Try.underlying67 rfl rfl Try.sizeOf3 (by decide)) rfl ?_
 refine Tr.q (QS.lV rfl Try.isAgg3) rfl ?_
 refine Tr.q (QS.eql rfl rfl) rfl ?_
 refine Tr.nil (Tr.thenN ?_)
 refine Tr.cond rfl (fun h2 => ?_) (fun h2 => ?_)
 ·try simp only [bs] at h2
  refine Tr.seq (Tr.region ?_)
  refine Tr.q (QS.move rfl) rfl ?_
  refine Tr.q (QS.nilCheck rfl) rfl ?_
  refine Tr.q (QS.fieldAddr (off := 13) (ft := 23) rfl Try.underlying47 rfl rfl Try.sizeOf23 (by decide)) rfl ?_
  refine Tr.q (QS.loadV rfl (by repeat constructor) Try.isAgg23 (by rfl)) rfl ?_
  refine Tr.q (QS.move rfl) rfl ?_
  refine Tr.q (QS.call rfl Try.call12 (fun w hw => (by have q := mload_any bM bm VR rs l s.m.r7 4 wl w (hM.mono hw.bg) hO (mapE.in_ (hw.ent _ (by repeat constructor))); rw [hwl] at q; exact q))) rfl ?_
  refine Tr.q (QS.move rfl) rfl ?_
  refine Tr.q (QS.extract rfl rfl) rfl ?_
  refine Tr.q (QS.extract rfl rfl) rfl ?_
  refine Tr.q (QS.assign rfl) rfl ?_
  refine Tr.q (QS.assign rfl) rfl ?_
  refine Tr.nil (Tr.thenN (Tr.seq (Tr.seq (Tr.region ?_))))
  refine Tr.q (QS.move rfl) rfl ?_
  refine Tr.q (QS.neq rfl rfl) rfl ?_
  refine Tr.nil (Tr.thenN ?_)
  refine Tr.cond rfl (fun h3 => ?_) (fun h3 => ?_)
  ·try simp only [bs] at h3
   refine Tr.seq (Tr.region ?_)
   refine Tr.q (QS.move rfl) rfl ?_
   refine Tr.q (QS.assign rfl) rfl ?_
   refine Tr.nil (Tr.thenN (Tr.ret (Tr.thenR (Tr.thenR ?_))))
   refine Tr.ret1 Try.results77 rfl (fun w' hw => ?_)
   have hq : callS l s i (nextP i) = (s, (loadA l s.w s.m.r7 4).2) := by unfold callS; repeat (first | rw [if_pos (by first | assumption | omega)] | rw [if_neg (by first | assumption | omega)])
   exact ⟨wl, by rw [hq]; try rfl, by rw [hq]; exact hw.upd (Bg.le.refl _) (by repeat' constructor), by rw [hq]; exact ⟨hwl, by omega⟩⟩
  ·try simp only [bs] at h3
   refine Tr.skip (Tr.thenN (Tr.seq (Tr.region ?_)))
   refine Tr.q (QS.move rfl) rfl ?_
   refine Tr.q (QS.move rfl) rfl ?_
   refine Tr.q (QS.add32 (n := 4) rfl rfl) rfl ?_
   refine Tr.q (QS.nilCheck rfl) rfl ?_
   refine Tr.q (QS.fieldAddr (off := 0) (ft := 42) rfl Try.underlying47 rfl rfl Try.sizeOf42 (by decide)) rfl ?_
   refine Tr.q (QS.fieldAddr (off := 0) (ft := 38) rfl Try.underlying42 rfl rfl Try.sizeOf38 (by decide)) rfl ?_
   refine Tr.q (QS.idxArr rfl rfl Try.underlying38 Try.sizeOf22 (by omega)) rfl ?_
   refine Tr.storeV rfl rfl Try.sizeOf22 (by repeat constructor) (cpuC_set (k := 7) (by omega) (by simp) _) (by rfl) (by rw [cpuC_len]; first | (simp; done) | (simp; omega)) (by first | exact List.all_eq_true.1 rfl | exact Enc.one _ _ | (intro u hu; simp [Value.cells] at hu; simp_all [Value.oneCell'])) rfl ?_
   refine Tr.nil (Tr.thenN (Tr.seq (Tr.region ?_)))
   refine Tr.q (QS.move rfl) rfl ?_
   refine Tr.q (QS.move rfl) rfl ?_
   refine Tr.q (QS.nilCheck rfl) rfl ?_
   refine Tr.q (QS.fieldAddr (off := 0) (ft := 42) rfl Try.underlying47 rfl rfl Try.sizeOf42 (by decide)) rfl ?_
   refine Tr.q (QS.fieldAddr (off := 8) (ft := 22) rfl Try.underlying42 rfl rfl Try.sizeOf22 (by decide)) rfl ?_
   refine Tr.storeV rfl rfl Try.sizeOf22 (by repeat constructor) (cpuC_to _) (by rfl) (by exact Nat.le_of_ble_eq_true rfl) (by first | exact List.all_eq_true.1 rfl | exact Enc.one _ _ | (intro u hu; simp [Value.cells] at hu; simp_all [Value.oneCell'])) rfl ?_
   refine Tr.nil (Tr.thenN (Tr.seq (Tr.region ?_)))
   refine Tr.q (QS.move rfl) rfl ?_
   refine Tr.q (QS.move rfl) rfl ?_
   refine Tr.q (QS.eql32 (n := 4294967295) rfl rfl) rfl ?_
   refine Tr.q (QS.nilCheck rfl) rfl ?_
   refine Tr.q (QS.fieldAddr (off := 17) (ft := 4) rfl Try.underlying47 rfl rfl Try.sizeOf4 (by decide)) rfl ?_
   refine Tr.storeV rfl rfl Try.sizeOf4 (by repeat constructor) (cpuC_done _) (by rfl) (by exact Nat.le_of_ble_eq_true rfl) (by first | exact List.all_eq_true.1 rfl | exact Enc.one _ _ | (intro u hu; simp [Value.cells] at hu; simp_all [Value.oneCell'])) rfl ?_
   refine Tr.nil (Tr.thenN (Tr.seq (Tr.region ?_)))
   refine Tr.q (QS.assign rfl) rfl ?_
   refine Tr.nil (Tr.thenN (Tr.ret (Tr.thenR ?_)))
   refine Tr.ret1 Try.results77 rfl (fun w' hw => ?_)
   have hq : callS l s i (nextP i) = ({ s with m := (s.m.set 7 (s.m.r7 + 4)).to (loadA l s.w s.m.r7 4).1, done := decide ((loadA l s.w s.m.r7 4).1 = 4294967295) }, 0) := by unfold callS; repeat (first | rw [if_pos (by first | assumption | omega)] | rw [if_neg (by first | assumption | omega)])
   exact ⟨wl, by rw [hq]; try rfl, by rw [hq]; exact hw.upd (Bg.le.refl _) (by repeat' constructor), by rw [hq]; exact ⟨hwl, by omega⟩⟩
 ·try simp only [bs] at h2
  refine Tr.skip (Tr.thenN (Tr.seq (Tr.region ?_)))
  refine Tr.q (QS.fieldAddr (off := 1) (ft := 22) rfl Try.underlying67 rfl rfl Try.sizeOf22 (by decide)) rfl ?_
  refine Tr.q (QS.lV rfl Try.isAgg22) rfl ?_
  refine Tr.q (QS.assign rfl) rfl ?_
  refine Tr.nil (Tr.thenN (Tr.seq (Tr.seq (Tr.region ?_))))
  refine Tr.q (QS.fieldAddr (off := 2) (ft := 3) rfl Try.underlying67 rfl rfl Try.sizeOf3 (by decide)) rfl ?_
  refine Tr.q (QS.lV rfl Try.isAgg3) rfl ?_
  refine Tr.q (QS.eql rfl rfl) rfl ?_
  refine Tr.nil (Tr.thenN ?_)
  refine Tr.cond rfl (fun h4 => ?_) (fun h4 => ?_)
  ·try simp only [bs] at h4
   refine Tr.regionH ([cellE bc (cpuC s bM vi vo eff) 47, cellE b1 (encIns.enc i) 67]) 9 rfl HLF.mixed ?_
   refine Tr.hT 0 rfl (by kernel_rfl) (panicThen panicBody) (QS.move rfl) ?_
   refine Tr.hT 1 rfl (by kernel_rfl) (panicThen panicBody) (QS.fieldAddr (off := 6) (ft := 3) rfl Try.underlying67 rfl rfl Try.sizeOf3 (by decide)) ?_
   refine Tr.hT 2 rfl (by kernel_rfl) (panicThen panicBody) (QS.lV rfl Try.isAgg3) ?_
   refine Tr.hT 3 rfl (by kernel_rfl) (panicThen panicBody) (QS.nilCheck rfl) ?_
   refine Tr.hT 4 rfl (by kernel_rfl) (panicThen panicBody) (QS.fieldAddr (off := 0) (ft := 42) rfl Try.underlying47 rfl rfl Try.sizeOf42 (by decide)) ?_
   refine Tr.hT 5 rfl (by kernel_rfl) (panicThen panicBody) (QS.fieldAddr (off := 0) (ft := 38) rfl Try.underlying42 rfl rfl Try.sizeOf38 (by decide)) ?_
   refine Tr.hT 6 rfl (by kernel_rfl) (panicThen panicBody) (QS.idxArr rfl rfl Try.underlying38 Try.sizeOf22 (by omega)) ?_
   refine Tr.hT 7 rfl (by kernel_rfl) (panicThen panicBody) (QS.loadV rfl (by repeat constructor) Try.isAgg22 (cpuC_reg hA (by simp))) ?_
   refine Tr.hT 8 rfl (by kernel_rfl) (panicThen panicBody) (QS.assign rfl) ?_
   refine Tr.hDone (by kernel_rfl) ?_
   refine Tr.thenN (Tr.seq (Tr.seq ?_))
   refine Tr.regionH ([cellE bc (cpuC s bM vi vo eff) 47, cellE b1 (encIns.enc i) 67]) 10 rfl HLF.mixed ?_
   refine Tr.hT 0 rfl (by kernel_rfl) (panicThen (panicThen panicBody)) (QS.move rfl) ?_
   refine Tr.hT 1 rfl (by kernel_rfl) (panicThen (panicThen panicBody)) (QS.nilCheck rfl) ?_
   refine Tr.hT 2 rfl (by kernel_rfl) (panicThen (panicThen panicBody)) (QS.fieldAddr (off := 13) (ft := 23) rfl Try.underlying47 rfl rfl Try.sizeOf23 (by decide)) ?_
   refine Tr.hT 3 rfl (by kernel_rfl) (panicThen (panicThen panicBody)) (QS.loadV rfl (by repeat constructor) Try.isAgg23 (by rfl)) ?_
   refine Tr.hT 4 rfl (by kernel_rfl) (panicThen (panicThen panicBody)) (QS.move rfl) ?_
   refine Tr.hT 5 rfl (by kernel_rfl) (panicThen (panicThen panicBody)) (QS.sub32 (n := 4) rfl rfl) ?_
   refine Tr.hT 6 rfl (by kernel_rfl) (panicThen (panicThen panicBody)) (QS.lW rfl Try.isAgg67 Try.sizeOf67) ?_
   refine Tr.hAll [7] (by kernel_rfl) (by simp) (fun iq hq => ?_)
   obtain rfl := List.mem_singleton.1 hq
   refine Tr.hOp rfl ?_
   refine Tr.q (QS.call rfl Try.call88 (fun w hw => next_isa i w hI)) rfl ?_
   refine Tr.hN ?_
   refine Tr.hAll [8] (by kernel_rfl) (by simp) (fun iq hq => ?_)
   obtain rfl := List.mem_singleton.1 hq
   refine Tr.hOp rfl ?_
   refine Tr.callO (fun _ : WL => .int .i64 (storeA l s.w (s.m.r7 - 4) 4 (nextP i)).2) [mapE bm u8V wl] (fun wl' => [mapE bm u8V wl']) (ok := fun wl' => mread wl' = (storeA l s.w (s.m.r7 - 4) 4 (nextP i)).1 ∧ wl'.length ≤ wl.length + 4) (dd := fun _ => 0) rfl Try.call35 (by repeat' (first | exact Split.nil _ | exact Del.here _ | apply Split.cons | apply Del.there)) (fun w hw => Nat.le_refl _) (fun w hw => by have q := mstore_any bM bm VR rs l (s.m.r7 - 4) 4 (nextP i) wl w (hw.own (by repeat' (first | exact Split.nil _ | exact Del.here _ | apply Split.cons | apply Del.there))) (hM.mono (hw.lessB (Lo := [mapE bm u8V wl]) (by repeat' (first | exact Split.nil _ | exact Del.here _ | apply Split.cons | apply Del.there)))) hO; rw [hwl] at q; exact q) rfl (fun wl2 hw2 => ?_)
   refine Tr.hN ?_
   refine Tr.hT 9 rfl (by kernel_rfl) (panicThen (panicThen panicBody)) (QS.assign rfl) ?_
   refine Tr.hDone (by kernel_rfl) ?_
   refine Tr.thenN (Tr.seq (Tr.region ?_))
   refine Tr.q (QS.move rfl) rfl ?_
   refine Tr.q (QS.neq rfl rfl) rfl ?_
   refine Tr.nil (Tr.thenN ?_)
   refine Tr.cond rfl (fun h5 => ?_) (fun h5 => ?_)
   ·try simp only [bs] at h5
    refine Tr.seq (Tr.region ?_)
    refine Tr.q (QS.move rfl) rfl ?_
    refine Tr.q (QS.assign rfl) rfl ?_
    refine Tr.nil (Tr.thenN (Tr.ret (Tr.thenR ?_)))
    refine Tr.ret1 Try.results77 rfl (fun w' hw => ?_)
    have hq : callS l s i (nextP i) = (s, (storeA l s.w (s.m.r7 - 4) 4 (nextP i)).2) := by unfold callS; repeat (first | rw [if_pos (by first | assumption | omega)] | rw [if_neg (by first | assumption | omega)])
    exact ⟨wl2, by rw [hq]; try rfl, by rw [hq]; exact hw.upd (Bg.le.refl _) (by repeat' constructor), by rw [hq]; exact ⟨hw2.1.trans (store_err (by assumption)), hw2.2⟩⟩
   ·try simp only [bs] at h5
    refine Tr.skip (Tr.thenN (Tr.seq (Tr.region ?_)))
    refine Tr.q (QS.move rfl) rfl ?_
    refine Tr.q (QS.move rfl) rfl ?_
    refine Tr.q (QS.sub32 (n := 4) rfl rfl) rfl ?_
    refine Tr.q (QS.nilCheck rfl) rfl ?_
    refine Tr.q (QS.fieldAddr (off := 0) (ft := 42) rfl Try.underlying47 rfl rfl Try.sizeOf42 (by decide)) rfl ?_
    refine Tr.q (QS.fieldAddr (off := 0) (ft := 38) rfl Try.underlying42 rfl rfl Try.sizeOf38 (by decide)) rfl ?_
    refine Tr.q (QS.idxArr rfl rfl Try.underlying38 Try.sizeOf22 (by omega)) rfl ?_
    refine Tr.storeV rfl rfl Try.sizeOf22 (by repeat constructor) (cpuC_set (k := 7) (by omega) (by simp) _) (by rfl) (by rw [cpuC_len]; first | (simp; done) | (simp; omega)) (by first | exact List.all_eq_true.1 rfl | exact Enc.one _ _ | (intro u hu; simp [Value.cells] at hu; simp_all [Value.oneCell'])) rfl ?_
    refine Tr.nil (Tr.thenN (Tr.seq (Tr.region ?_)))
    refine Tr.q (QS.move rfl) rfl ?_
    refine Tr.q (QS.move rfl) rfl ?_
    refine Tr.q (QS.nilCheck rfl) rfl ?_
    refine Tr.q (QS.fieldAddr (off := 0) (ft := 42) rfl Try.underlying47 rfl rfl Try.sizeOf42 (by decide)) rfl ?_
    refine Tr.q (QS.fieldAddr (off := 8) (ft := 22) rfl Try.underlying42 rfl rfl Try.sizeOf22 (by decide)) rfl ?_
    refine Tr.storeV rfl rfl Try.sizeOf22 (by repeat constructor) (cpuC_to _) (by rfl) (by exact Nat.le_of_ble_eq_true rfl) (by first | exact List.all_eq_true.1 rfl | exact Enc.one _ _ | (intro u hu; simp [Value.cells] at hu; simp_all [Value.oneCell'])) rfl ?_
    refine Tr.nil (Tr.thenN (Tr.seq (Tr.region ?_)))
    refine Tr.q (QS.assign rfl) rfl ?_
    refine Tr.nil (Tr.thenN (Tr.ret ?_))
    refine Tr.ret1 Try.results77 rfl (fun w' hw => ?_)
    have hq : callS l s i (nextP i) = ({ s with w := (storeA l s.w (s.m.r7 - 4) 4 (nextP i)).1, m := (s.m.set 7 (s.m.r7 - 4)).to (s.m.reg i.a) }, 0) := by unfold callS; repeat (first | rw [if_pos (by first | assumption | omega)] | rw [if_neg (by first | assumption | omega)])
    exact ⟨wl2, by rw [hq]; try rfl, by rw [hq]; exact hw.upd (Bg.le.refl _) (by repeat' constructor), by rw [hq]; exact ⟨hw2.1, hw2.2⟩⟩
  ·try simp only [bs] at h4
   refine Tr.skip (Tr.thenN (Tr.seq (Tr.seq ?_)))
   refine Tr.regionH ([cellE bc (cpuC s bM vi vo eff) 47, cellE b1 (encIns.enc i) 67]) 10 rfl HLF.mixed ?_
   refine Tr.hT 0 rfl (by kernel_rfl) (panicThen (panicThen panicBody)) (QS.move rfl) ?_
   refine Tr.hT 1 rfl (by kernel_rfl) (panicThen (panicThen panicBody)) (QS.nilCheck rfl) ?_
   refine Tr.hT 2 rfl (by kernel_rfl) (panicThen (panicThen panicBody)) (QS.fieldAddr (off := 13) (ft := 23) rfl Try.underlying47 rfl rfl Try.sizeOf23 (by decide)) ?_
   refine Tr.hT 3 rfl (by kernel_rfl) (panicThen (panicThen panicBody)) (QS.loadV rfl (by repeat constructor) Try.isAgg23 (by rfl)) ?_
   refine Tr.hT 4 rfl (by kernel_rfl) (panicThen (panicThen panicBody)) (QS.move rfl) ?_
   refine Tr.hT 5 rfl (by kernel_rfl) (panicThen (panicThen panicBody)) (QS.sub32 (n := 4) rfl rfl) ?_
   refine Tr.hT 6 rfl (by kernel_rfl) (panicThen (panicThen panicBody)) (QS.lW rfl Try.isAgg67 Try.sizeOf67) ?_
   refine Tr.hAll [7] (by kernel_rfl) (by simp) (fun iq hq => ?_)
   obtain rfl := List.mem_singleton.1 hq
   refine Tr.hOp rfl ?_
   refine Tr.q (QS.call rfl Try.call88 (fun w hw => next_isa i w hI)) rfl ?_
   refine Tr.hN ?_
   refine Tr.hAll [8] (by kernel_rfl) (by simp) (fun iq hq => ?_)
   obtain rfl := List.mem_singleton.1 hq
   refine Tr.hOp rfl ?_
   refine Tr.callO (fun _ : WL => .int .i64 (storeA l s.w (s.m.r7 - 4) 4 (nextP i)).2) [mapE bm u8V wl] (fun wl' => [mapE bm u8V wl']) (ok := fun wl' => mread wl' = (storeA l s.w (s.m.r7 - 4) 4 (nextP i)).1 ∧ wl'.length ≤ wl.length + 4) (dd := fun _ => 0) rfl Try.call35 (by repeat' (first | exact Split.nil _ | exact Del.here _ | apply Split.cons | apply Del.there)) (fun w hw => Nat.le_refl _) (fun w hw => by have q := mstore_any bM bm VR rs l (s.m.r7 - 4) 4 (nextP i) wl w (hw.own (by repeat' (first | exact Split.nil _ | exact Del.here _ | apply Split.cons | apply Del.there))) (hM.mono (hw.lessB (Lo := [mapE bm u8V wl]) (by repeat' (first | exact Split.nil _ | exact Del.here _ | apply Split.cons | apply Del.there)))) hO; rw [hwl] at q; exact q) rfl (fun wl2 hw2 => ?_)
   refine Tr.hN ?_
   refine Tr.hT 9 rfl (by kernel_rfl) (panicThen (panicThen panicBody)) (QS.assign rfl) ?_
   refine Tr.hDone (by kernel_rfl) ?_
   refine Tr.thenN (Tr.seq (Tr.region ?_))
   refine Tr.q (QS.move rfl) rfl ?_
   refine Tr.q (QS.neq rfl rfl) rfl ?_
   refine Tr.nil (Tr.thenN ?_)
   refine Tr.cond rfl (fun h6 => ?_) (fun h6 => ?_)
   ·try simp only [bs] at h6
    refine Tr.seq (Tr.region ?_)
    refine Tr.q (QS.move rfl) rfl ?_
    refine Tr.q (QS.assign rfl) rfl ?_
    refine Tr.nil (Tr.thenN (Tr.ret (Tr.thenR ?_)))
    refine Tr.ret1 Try.results77 rfl (fun w' hw => ?_)
    have hq : callS l s i (nextP i) = (s, (storeA l s.w (s.m.r7 - 4) 4 (nextP i)).2) := by unfold callS; repeat (first | rw [if_pos (by first | assumption | omega)] | rw [if_neg (by first | assumption | omega)])
    exact ⟨wl2, by rw [hq]; try rfl, by rw [hq]; exact hw.upd (Bg.le.refl _) (by repeat' constructor), by rw [hq]; exact ⟨hw2.1.trans (store_err (by assumption)), hw2.2⟩⟩
   ·try simp only [bs] at h6
    refine Tr.skip (Tr.thenN (Tr.seq (Tr.region ?_)))
    refine Tr.q (QS.move rfl) rfl ?_
    refine Tr.q (QS.move rfl) rfl ?_
    refine Tr.q (QS.sub32 (n := 4) rfl rfl) rfl ?_
    refine Tr.q (QS.nilCheck rfl) rfl ?_
    refine Tr.q (QS.fieldAddr (off := 0) (ft := 42) rfl Try.underlying47 rfl rfl Try.sizeOf42 (by decide)) rfl ?_
    refine Tr.q (QS.fieldAddr (off := 0) (ft := 38) rfl Try.underlying42 rfl rfl Try.sizeOf38 (by decide)) rfl ?_
    refine Tr.q (QS.idxArr rfl rfl Try.underlying38 Try.sizeOf22 (by omega)) rfl ?_
    refine Tr.storeV rfl rfl Try.sizeOf22 (by repeat constructor) (cpuC_set (k := 7) (by omega) (by simp) _) (by rfl) (by rw [cpuC_len]; first | (simp; done) | (simp; omega)) (by first | exact List.all_eq_true.1 rfl | exact Enc.one _ _ | (intro u hu; simp [Value.cells] at hu; simp_all [Value.oneCell'])) rfl ?_
    refine Tr.nil (Tr.thenN (Tr.seq (Tr.region ?_)))
    refine Tr.q (QS.move rfl) rfl ?_
    refine Tr.q (QS.move rfl) rfl ?_
    refine Tr.q (QS.nilCheck rfl) rfl ?_
    refine Tr.q (QS.fieldAddr (off := 0) (ft := 42) rfl Try.underlying47 rfl rfl Try.sizeOf42 (by decide)) rfl ?_
    refine Tr.q (QS.fieldAddr (off := 8) (ft := 22) rfl Try.underlying42 rfl rfl Try.sizeOf22 (by decide)) rfl ?_
    refine Tr.storeV rfl rfl Try.sizeOf22 (by repeat constructor) (cpuC_to _) (by rfl) (by exact Nat.le_of_ble_eq_true rfl) (by first | exact List.all_eq_true.1 rfl | exact Enc.one _ _ | (intro u hu; simp [Value.cells] at hu; simp_all [Value.oneCell'])) rfl ?_
    refine Tr.nil (Tr.thenN (Tr.seq (Tr.region ?_)))
    refine Tr.q (QS.assign rfl) rfl ?_
    refine Tr.nil (Tr.thenN (Tr.ret ?_))
    refine Tr.ret1 Try.results77 rfl (fun w' hw => ?_)
    have hq : callS l s i (nextP i) = ({ s with w := (storeA l s.w (s.m.r7 - 4) 4 (nextP i)).1, m := (s.m.set 7 (s.m.r7 - 4)).to i.imm }, 0) := by unfold callS; repeat (first | rw [if_pos (by first | assumption | omega)] | rw [if_neg (by first | assumption | omega)])
    exact ⟨wl2, by rw [hq]; try rfl, by rw [hq]; exact hw.upd (Bg.le.refl _) (by repeat' constructor), by rw [hq]; exact ⟨hw2.1, hw2.2⟩⟩
set_option maxRecDepth 100000 in
set_option maxHeartbeats 8000000 in
theorem trans_cpu (s : St) (bc bM : Nat) (vi vo eff : Value) (inp : List UInt32) (i : Ins) (w : World) (ho : OwnAt w [cellE bc (cpuC s bM vi vo eff) 47, rowE vo 22 encU32 s.out]) (hin : Sl (Bg.lessB w (blks [cellE bc (cpuC s bM vi vo eff) 47, rowE vo 22 encU32 s.out]) 0).blk encU32 inp vi) (hvo : ∃ a n c, vo = .slice a n c) (hI : InsOK i) (hA : 0 ≤ i.a ∧ i.a < 8) (hB : 0 ≤ i.b ∧ i.b < 8) :
  Calls Try.prog 78 #[.pointer (some ⟨bc, 0, none⟩), .agg (encIns.enc i).toArray] w (fun e w' => ∃ vo' : Value, e = .returned (.int .i64 (transS inp s i (nextP i)).2) ∧ Upd 0 w w' (blks [cellE bc (cpuC s bM vi vo eff) 47, rowE vo 22 encU32 s.out]) [cellE bc (cpuC (transS inp s i (nextP i)).1 bM vi vo' eff) 47, rowE vo' 22 encU32 (transS inp s i (nextP i)).1.out] ∧ True) := by
 have hil := hin.len_le
 refine enterB (L := [cellE bc (cpuC s bM vi vo eff) 47, rowE vo 22 encU32 s.out]) ho rfl (Nat.zero_le _) Try.func78 rfl Try.ntmps78 rfl ?_
 refine Tr.seq (Tr.region ?_)
 refine Tr.box rfl rfl rfl (fun b1 => ?_)
 refine Tr.q (QS.assign rfl) rfl ?_
 refine Tr.nil (Tr.thenN (Tr.seq (Tr.seq (Tr.region ?_))))
 refine Tr.q (QS.fieldAddr (off := 2) (ft := 3) rfl Try.underlying67 rfl rfl Try.sizeOf3 (by decide)) rfl ?_
 refine Tr.q (QS.lV rfl Try.isAgg3) rfl ?_
 refine Tr.q (QS.eql rfl rfl) rfl ?_
 refine Tr.nil (Tr.thenN ?_)
 refine Tr.cond rfl (fun h2 => ?_) (fun h2 => ?_)
 ·try simp only [bs] at h2
  refine Tr.seq (Tr.seq ?_)
  refine Tr.regionH ([cellE bc (cpuC s bM vi vo eff) 47, cellE b1 (encIns.enc i) 67]) 10 rfl HLF.mixed ?_
  refine Tr.hT 0 rfl (by kernel_rfl) (panicThen (panicThen (panicThen panicBody))) (QS.move rfl) ?_
  refine Tr.hT 1 rfl (by kernel_rfl) (panicThen (panicThen (panicThen panicBody))) (QS.nilCheck rfl) ?_
  refine Tr.hT 2 rfl (by kernel_rfl) (panicThen (panicThen (panicThen panicBody))) (QS.fieldAddr (off := 15) (ft := 3) rfl Try.underlying47 rfl rfl Try.sizeOf3 (by decide)) ?_
  refine Tr.hT 3 rfl (by kernel_rfl) (panicThen (panicThen (panicThen panicBody))) (QS.loadV rfl (by repeat constructor) Try.isAgg3 (by rfl)) ?_
  refine Tr.hT 4 rfl (by kernel_rfl) (panicThen (panicThen (panicThen panicBody))) (QS.move rfl) ?_
  refine Tr.hT 5 rfl (by kernel_rfl) (panicThen (panicThen (panicThen panicBody))) (QS.nilCheck rfl) ?_
  refine Tr.hT 6 rfl (by kernel_rfl) (panicThen (panicThen (panicThen panicBody))) (QS.fieldAddr (off := 14) (ft := 34) rfl Try.underlying47 rfl rfl Try.sizeOf34 (by decide)) ?_
  refine Tr.hT 7 rfl (by kernel_rfl) (panicThen (panicThen (panicThen panicBody))) (QS.loadV rfl (by repeat constructor) Try.isAgg34 (by rfl)) ?_
  refine Tr.hAll [8] (by kernel_rfl) (by simp) (fun iq hq => ?_)
  obtain rfl := List.mem_singleton.1 hq
  refine Tr.hOp rfl ?_
  refine Tr.q (QS.len rfl (by assumption) Try.underlying34) rfl ?_
  refine Tr.hN ?_
  refine Tr.hT 9 rfl (by kernel_rfl) (panicThen (panicThen (panicThen panicBody))) (QS.geq rfl rfl) ?_
  refine Tr.hDone (by kernel_rfl) ?_
  refine Tr.thenN ?_
  refine Tr.cond rfl (fun h3 => ?_) (fun h3 => ?_)
  ·try simp only [bs] at h3
   refine Tr.seq (Tr.region ?_)
   refine Tr.q (QS.assign rfl) rfl ?_
   refine Tr.nil (Tr.thenN (Tr.ret (Tr.thenR (Tr.thenR ?_))))
   refine Tr.ret1 Try.results78 rfl (fun w' hw => ?_)
   have hq : transS inp s i (nextP i) = (s, 14) := by unfold transS; repeat (first | rw [if_pos (by first | assumption | omega)] | rw [if_neg (by first | assumption | omega)])
   exact ⟨vo, by rw [hq]; try rfl, by rw [hq]; exact hw.upd (Bg.le.refl _) (by repeat' constructor), trivial⟩
  ·try simp only [bs] at h3
   refine Tr.skip (Tr.thenN ?_)
   refine Tr.seqJ (ι := Unit) (fun u => True) (fun _ => (Bg.lessB w (blks [cellE bc (cpuC s bM vi vo eff) 47, rowE vo 22 encU32 s.out]) 0)) (fun u => [cellE b1 (encIns.enc i) 67, cellE bc (cpuC (s.setR i.a (inp.getD s.read default)) bM vi vo eff) 47, rowE vo 22 encU32 s.out]) (fun u => []) ?_ (fun u hi => ?_)
   ·skip
    refine Tr.regionH ([cellE b1 (encIns.enc i) 67]) 18 rfl HLF.mixed ?_
    refine Tr.hT 0 rfl (by kernel_rfl) (panicThen (panicThen panicBody)) (QS.move rfl) ?_
    refine Tr.hT 1 rfl (by kernel_rfl) (panicThen (panicThen panicBody)) (QS.fieldAddr (off := 6) (ft := 3) rfl Try.underlying67 rfl rfl Try.sizeOf3 (by decide)) ?_
    refine Tr.hT 2 rfl (by kernel_rfl) (panicThen (panicThen panicBody)) (QS.lV rfl Try.isAgg3) ?_
    refine Tr.hT 3 rfl (by kernel_rfl) (panicThen (panicThen panicBody)) (QS.move rfl) ?_
    refine Tr.hT 4 rfl (by kernel_rfl) (panicThen (panicThen panicBody)) (QS.nilCheck rfl) ?_
    refine Tr.hT 5 rfl (by kernel_rfl) (panicThen (panicThen panicBody)) (QS.fieldAddr (off := 14) (ft := 34) rfl Try.underlying47 rfl rfl Try.sizeOf34 (by decide)) ?_
    refine Tr.hT 7 rfl (by kernel_rfl) (panicThen (panicThen panicBody)) (QS.move rfl) ?_
    refine Tr.hT 8 rfl (by kernel_rfl) (panicThen (panicThen panicBody)) (QS.nilCheck rfl) ?_
    refine Tr.hT 9 rfl (by kernel_rfl) (panicThen (panicThen panicBody)) (QS.fieldAddr (off := 15) (ft := 3) rfl Try.underlying47 rfl rfl Try.sizeOf3 (by decide)) ?_
    refine Tr.hT 13 rfl (by kernel_rfl) (panicThen (panicThen panicBody)) (QS.nilCheck rfl) ?_
    refine Tr.hT 14 rfl (by kernel_rfl) (panicThen (panicThen panicBody)) (QS.fieldAddr (off := 0) (ft := 42) rfl Try.underlying47 rfl rfl Try.sizeOf42 (by decide)) ?_
    refine Tr.hT 15 rfl (by kernel_rfl) (panicThen (panicThen panicBody)) (QS.fieldAddr (off := 0) (ft := 38) rfl Try.underlying42 rfl rfl Try.sizeOf38 (by decide)) ?_
    refine Tr.hAll [6, 10] (by kernel_rfl) (by simp) (fun iq hq => ?_)
    rcases List.mem_cons.1 hq with rfl | hq
    ·skip
     refine Tr.hOp rfl ?_
     refine Tr.q (QS.loadV rfl (by repeat constructor) Try.isAgg34 (by rfl)) rfl ?_
     refine Tr.hN ?_
     refine Tr.hAll [10] (by kernel_rfl) (by simp) (fun iq hq => ?_)
     obtain rfl := List.mem_singleton.1 hq
     refine Tr.hOp rfl ?_
     refine Tr.q (QS.loadV rfl (by repeat constructor) Try.isAgg3 (by rfl)) rfl ?_
     refine Tr.hN ?_
     refine Tr.hT 11 rfl (by kernel_rfl) (panicThen (panicThen panicBody)) (QS.idxN rfl rfl (by assumption) Try.underlying34 Try.sizeOf22 (by rfl) (by omega)) ?_
     refine Tr.hT 12 rfl (by kernel_rfl) (panicThen (panicThen panicBody)) (QS.el1 rfl (by assumption) Try.isAgg22 (by omega) (by rfl)) ?_
     refine Tr.hT 16 rfl (by kernel_rfl) (panicThen (panicThen panicBody)) (QS.idxArr rfl rfl Try.underlying38 Try.sizeOf22 (by omega)) ?_
     refine Tr.hAll [17] (by kernel_rfl) (by simp) (fun iq hq => ?_)
     obtain rfl := List.mem_singleton.1 hq
     refine Tr.hOp rfl ?_
     refine Tr.storeV rfl rfl Try.sizeOf22 (by repeat constructor) (cpuC_set hA (by simp) _) (by rfl) (by rw [cpuC_len]; first | (simp; done) | (simp; omega)) (by first | exact List.all_eq_true.1 rfl | exact Enc.one _ _ | (intro u hu; simp [Value.cells] at hu; simp_all [Value.oneCell'])) rfl ?_
     refine Tr.hN ?_
     refine Tr.hDone (by kernel_rfl) ?_
     refine Tr.thenN ?_
     apply Tr.joined ()
     ·exact rfl
     ·exact Front.nil
     ·exact SubX.dropN 17 (by kernel_rfl) rfl
     ·exact (by repeat' constructor)
     ·exact trivial
    obtain rfl := List.mem_singleton.1 hq
    refine Tr.hOp rfl ?_
    refine Tr.q (QS.loadV rfl (by repeat constructor) Try.isAgg3 (by rfl)) rfl ?_
    refine Tr.hN ?_
    refine Tr.hAll [6] (by kernel_rfl) (by simp) (fun iq hq => ?_)
    obtain rfl := List.mem_singleton.1 hq
    refine Tr.hOp rfl ?_
    refine Tr.q (QS.loadV rfl (by repeat constructor) Try.isAgg34 (by rfl)) rfl ?_
    refine Tr.hN ?_
    refine Tr.hT 11 rfl (by kernel_rfl) (panicThen (panicThen panicBody)) (QS.idxN rfl rfl (by assumption) Try.underlying34 Try.sizeOf22 (by rfl) (by omega)) ?_
    refine Tr.hT 12 rfl (by kernel_rfl) (panicThen (panicThen panicBody)) (QS.el1 rfl (by assumption) Try.isAgg22 (by omega) (by rfl)) ?_
    refine Tr.hT 16 rfl (by kernel_rfl) (panicThen (panicThen panicBody)) (QS.idxArr rfl rfl Try.underlying38 Try.sizeOf22 (by omega)) ?_
    refine Tr.hAll [17] (by kernel_rfl) (by simp) (fun iq hq => ?_)
    obtain rfl := List.mem_singleton.1 hq
    refine Tr.hOp rfl ?_
    refine Tr.storeV rfl rfl Try.sizeOf22 (by repeat constructor) (cpuC_set hA (by simp) _) (by rfl) (by rw [cpuC_len]; first | (simp; done) | (simp; omega)) (by first | exact List.all_eq_true.1 rfl | exact Enc.one _ _ | (intro u hu; simp [Value.cells] at hu; simp_all [Value.oneCell'])) rfl ?_
    refine Tr.hN ?_
    refine Tr.hDone (by kernel_rfl) ?_
    refine Tr.thenN ?_
    apply Tr.joined ()
    ·exact rfl
    ·exact Front.nil
    ·exact SubX.dropN 17 (by kernel_rfl) rfl
    ·exact (by repeat' constructor)
    ·exact trivial
   ·skip
    replace hi : True := hi
    change Tr _ _ [cellE b1 (encIns.enc i) 67, cellE bc (cpuC (s.setR i.a (inp.getD s.read default)) bM vi vo eff) 47, rowE vo 22 encU32 s.out] ([] ++ _) _
    have hrd : (s.setR i.a (inp.getD s.read default)).read = s.read := rfl
    have hrl : s.read < inp.length := by omega
    refine Tr.region ?_
    refine Tr.q (QS.move rfl) rfl ?_
    refine Tr.q (QS.nilCheck rfl) rfl ?_
    refine Tr.q (QS.fieldAddr (off := 15) (ft := 3) rfl Try.underlying47 rfl rfl Try.sizeOf3 (by decide)) rfl ?_
    refine Tr.q (QS.loadV rfl (by repeat constructor) Try.isAgg3 (by rfl)) rfl ?_
    refine Tr.q (QS.addI rfl rfl (by omega)) rfl ?_
    refine Tr.q (QS.nilCheck rfl) rfl ?_
    refine Tr.q (QS.fieldAddr (off := 15) (ft := 3) rfl Try.underlying47 rfl rfl Try.sizeOf3 (by decide)) rfl ?_
    refine Tr.storeV rfl rfl Try.sizeOf3 (by repeat constructor) (cpuC_read (s := s.setR i.a (inp.getD s.read default))) (by rfl) (by exact Nat.le_of_ble_eq_true rfl) (by first | exact List.all_eq_true.1 rfl | exact Enc.one _ _ | (intro u hu; simp [Value.cells] at hu; simp_all [Value.oneCell'])) rfl ?_
    refine Tr.nil (Tr.thenN (Tr.seq (Tr.region ?_)))
    refine Tr.q (QS.move rfl) rfl ?_
    refine Tr.q (QS.lW rfl Try.isAgg67 Try.sizeOf67) rfl ?_
    refine Tr.callO (fun _ : Unit => .tuple #[]) [cellE bc (cpuC ({ s.setR i.a (inp.getD s.read default) with read := s.read + 1 }) bM vi vo eff) 47] (fun _ => [cellE bc (cpuC (({ s.setR i.a (inp.getD s.read default) with read := s.read + 1 }).to (nextP i)) bM vi vo eff) 47]) (ok := fun _ => True) (dd := fun _ => 0) rfl Try.call87 (by repeat' (first | exact Split.nil _ | exact Del.here _ | apply Split.cons | apply Del.there)) (fun w hw => Nat.le_refl _) (fun w hw => next_cpu ({ s.setR i.a (inp.getD s.read default) with read := s.read + 1 }) bc bM vi vo eff i w (hw.own (by repeat' (first | exact Split.nil _ | exact Del.here _ | apply Split.cons | apply Del.there))) hI) rfl (fun _ _ => ?_)
    refine Tr.nil (Tr.thenN (Tr.seq (Tr.region ?_)))
    refine Tr.q (QS.assign rfl) rfl ?_
    refine Tr.nil (Tr.thenN (Tr.ret ?_))
    refine Tr.ret1 Try.results78 rfl (fun w' hw => ?_)
    have hq : transS inp s i (nextP i) = ({ s with m := (s.m.set i.a (inp.getD s.read default)).to (nextP i), read := s.read + 1 }, 0) := by unfold transS; repeat (first | rw [if_pos (by first | assumption | omega)] | rw [if_neg (by first | assumption | omega)])
    exact ⟨vo, by rw [hq]; try rfl, by rw [hq]; exact hw.upd (Bg.le.refl _) (by repeat' constructor), trivial⟩
 ·try simp only [bs] at h2
  refine Tr.seq (Tr.seq (Tr.region ?_))
  refine Tr.q (QS.move rfl) rfl ?_
  refine Tr.q (QS.nilCheck rfl) rfl ?_
  refine Tr.q (QS.fieldAddr (off := 16) (ft := 34) rfl Try.underlying47 rfl rfl Try.sizeOf34 (by decide)) rfl ?_
  refine Tr.q (QS.loadV rfl (by repeat constructor) Try.isAgg34 (by rfl)) rfl ?_
  refine Tr.q (QS.lenRow rfl (by repeat constructor) Try.underlying34) rfl ?_
  refine Tr.q (QS.geq rfl rfl) rfl ?_
  refine Tr.nil (Tr.thenN ?_)
  refine Tr.cond rfl (fun h4 => ?_) (fun h4 => ?_)
  ·try simp only [bs] at h4
   refine Tr.seq (Tr.region ?_)
   refine Tr.q (QS.assign rfl) rfl ?_
   refine Tr.nil (Tr.thenN (Tr.ret (Tr.thenR (Tr.thenR ?_))))
   refine Tr.ret1 Try.results78 rfl (fun w' hw => ?_)
   have hq : transS inp s i (nextP i) = (s, 6) := by unfold transS; repeat (first | rw [if_pos (by first | assumption | omega)] | rw [if_neg (by first | assumption | omega)])
   exact ⟨vo, by rw [hq]; try rfl, by rw [hq]; exact hw.upd (Bg.le.refl _) (by repeat' constructor), trivial⟩
  ·try simp only [bs] at h4
   refine Tr.skip (Tr.thenN ?_)
   refine Tr.regionH ([cellE b1 (encIns.enc i) 67]) 18 rfl HLF.mixed ?_
   refine Tr.hT 0 rfl (by kernel_rfl) (panicThen panicBody) (QS.move rfl) ?_
   refine Tr.hT 1 rfl (by kernel_rfl) (panicThen panicBody) (QS.move rfl) ?_
   refine Tr.hT 2 rfl (by kernel_rfl) (panicThen panicBody) (QS.nilCheck rfl) ?_
   refine Tr.hT 3 rfl (by kernel_rfl) (panicThen panicBody) (QS.fieldAddr (off := 16) (ft := 34) rfl Try.underlying47 rfl rfl Try.sizeOf34 (by decide)) ?_
   refine Tr.hT 5 rfl (by kernel_rfl) (panicThen panicBody) (QS.move rfl) ?_
   refine Tr.hT 6 rfl (by kernel_rfl) (panicThen panicBody) (QS.fieldAddr (off := 6) (ft := 3) rfl Try.underlying67 rfl rfl Try.sizeOf3 (by decide)) ?_
   refine Tr.hT 7 rfl (by kernel_rfl) (panicThen panicBody) (QS.lV rfl Try.isAgg3) ?_
   refine Tr.hT 8 rfl (by kernel_rfl) (panicThen panicBody) (QS.nilCheck rfl) ?_
   refine Tr.hT 9 rfl (by kernel_rfl) (panicThen panicBody) (QS.fieldAddr (off := 0) (ft := 42) rfl Try.underlying47 rfl rfl Try.sizeOf42 (by decide)) ?_
   refine Tr.hT 10 rfl (by kernel_rfl) (panicThen panicBody) (QS.fieldAddr (off := 0) (ft := 38) rfl Try.underlying42 rfl rfl Try.sizeOf38 (by decide)) ?_
   refine Tr.hT 11 rfl (by kernel_rfl) (panicThen panicBody) (QS.idxArr rfl rfl Try.underlying38 Try.sizeOf22 (by omega)) ?_
   refine Tr.hAll [4, 12] (by kernel_rfl) (by simp) (fun iq hq => ?_)
   rcases List.mem_cons.1 hq with rfl | hq
   ·skip
    refine Tr.hOp rfl ?_
    refine Tr.q (QS.loadV rfl (by repeat constructor) Try.isAgg34 (by rfl)) rfl ?_
    refine Tr.hN ?_
    refine Tr.hAll [12] (by kernel_rfl) (by simp) (fun iq hq => ?_)
    obtain rfl := List.mem_singleton.1 hq
    refine Tr.hOp rfl ?_
    refine Tr.q (QS.loadV rfl (by repeat constructor) Try.isAgg22 (cpuC_reg hA (by simp))) rfl ?_
    refine Tr.hN ?_
    refine Tr.hAll [13] (by kernel_rfl) (by simp) (fun iq hq => ?_)
    obtain rfl := List.mem_singleton.1 hq
    refine Tr.hOp rfl ?_
    refine Tr.lit1 (E := encU32) (s.m.reg i.a) rfl rfl Try.underlying34 Try.sizeOf22 Try.zeroValue22 (by rfl) (by rfl) rfl (fun V5 => ?_)
    refine Tr.hN ?_
    refine Tr.hAll [14] (by kernel_rfl) (by simp) (fun iq hq => ?_)
    obtain rfl := List.mem_singleton.1 hq
    refine Tr.hOp rfl ?_
    refine Tr.append1 rfl rfl (by repeat constructor) (by repeat constructor) Try.underlying34 HLF.info22 (by rfl) (by rfl) (by (try simp only [List.length_cons, List.length_nil, List.length_append, List.length_take]); omega) (by unfold maxLen; (try simp only [List.length_cons, List.length_nil, List.length_append, List.length_take]); omega) rfl (fun V44 => ?_)
    refine Tr.rowShape (V := V44) (by repeat constructor) (fun pn cn hpv => ?_)
    subst hpv
    refine Tr.hN ?_
    refine Tr.hT 15 rfl (by kernel_rfl) (panicThen panicBody) (QS.nilCheck rfl) ?_
    refine Tr.hT 16 rfl (by kernel_rfl) (panicThen panicBody) (QS.fieldAddr (off := 16) (ft := 34) rfl Try.underlying47 rfl rfl Try.sizeOf34 (by decide)) ?_
    refine Tr.hAll [17] (by kernel_rfl) (by simp) (fun iq hq => ?_)
    obtain rfl := List.mem_singleton.1 hq
    refine Tr.hOp rfl ?_
    refine Tr.storeV rfl rfl Try.sizeOf34 (by repeat constructor) (cpuC_out _) (by rfl) (by exact Nat.le_of_ble_eq_true rfl) (by first | exact List.all_eq_true.1 rfl | exact Enc.one _ _ | (intro u hu; simp [Value.cells] at hu; simp_all [Value.oneCell'])) rfl ?_
    refine Tr.hN ?_
    refine Tr.hDone (by kernel_rfl) ?_
    refine Tr.thenN (Tr.seq (Tr.region ?_))
    refine Tr.q (QS.move rfl) rfl ?_
    refine Tr.q (QS.lW rfl Try.isAgg67 Try.sizeOf67) rfl ?_
    refine Tr.callO (fun _ : Unit => .tuple #[]) [cellE bc (cpuC (s) bM vi (.slice pn (s.out ++ [s.m.reg i.a]).length cn) eff) 47] (fun _ => [cellE bc (cpuC ((s).to (nextP i)) bM vi (.slice pn (s.out ++ [s.m.reg i.a]).length cn) eff) 47]) (ok := fun _ => True) (dd := fun _ => 0) rfl Try.call87 (by repeat' (first | exact Split.nil _ | exact Del.here _ | apply Split.cons | apply Del.there)) (fun w hw => Nat.le_refl _) (fun w hw => next_cpu (s) bc bM vi (.slice pn (s.out ++ [s.m.reg i.a]).length cn) eff i w (hw.own (by repeat' (first | exact Split.nil _ | exact Del.here _ | apply Split.cons | apply Del.there))) hI) rfl (fun _ _ => ?_)
    refine Tr.nil (Tr.thenN (Tr.seq (Tr.region ?_)))
    refine Tr.q (QS.assign rfl) rfl ?_
    refine Tr.nil (Tr.thenN (Tr.ret ?_))
    refine Tr.ret1 Try.results78 rfl (fun w' hw => ?_)
    have hq : transS inp s i (nextP i) = ({ s with m := s.m.to (nextP i), out := s.out ++ [s.m.reg i.a] }, 0) := by unfold transS; repeat (first | rw [if_pos (by first | assumption | omega)] | rw [if_neg (by first | assumption | omega)])
    exact ⟨(.slice pn (s.out ++ [s.m.reg i.a]).length cn), by rw [hq]; try rfl, by rw [hq]; exact hw.upd (Bg.le.refl _) (by repeat' constructor), trivial⟩
   obtain rfl := List.mem_singleton.1 hq
   refine Tr.hOp rfl ?_
   refine Tr.q (QS.loadV rfl (by repeat constructor) Try.isAgg22 (cpuC_reg hA (by simp))) rfl ?_
   refine Tr.hN ?_
   refine Tr.hAll [4, 13] (by kernel_rfl) (by simp) (fun iq hq => ?_)
   rcases List.mem_cons.1 hq with rfl | hq
   ·skip
    refine Tr.hOp rfl ?_
    refine Tr.q (QS.loadV rfl (by repeat constructor) Try.isAgg34 (by rfl)) rfl ?_
    refine Tr.hN ?_
    refine Tr.hAll [13] (by kernel_rfl) (by simp) (fun iq hq => ?_)
    obtain rfl := List.mem_singleton.1 hq
    refine Tr.hOp rfl ?_
    refine Tr.lit1 (E := encU32) (s.m.reg i.a) rfl rfl Try.underlying34 Try.sizeOf22 Try.zeroValue22 (by rfl) (by rfl) rfl (fun V6 => ?_)
    refine Tr.hN ?_
    refine Tr.hAll [14] (by kernel_rfl) (by simp) (fun iq hq => ?_)
    obtain rfl := List.mem_singleton.1 hq
    refine Tr.hOp rfl ?_
    refine Tr.append1 rfl rfl (by repeat constructor) (by repeat constructor) Try.underlying34 HLF.info22 (by rfl) (by rfl) (by (try simp only [List.length_cons, List.length_nil, List.length_append, List.length_take]); omega) (by unfold maxLen; (try simp only [List.length_cons, List.length_nil, List.length_append, List.length_take]); omega) rfl (fun V44 => ?_)
    refine Tr.rowShape (V := V44) (by repeat constructor) (fun pn cn hpv => ?_)
    subst hpv
    refine Tr.hN ?_
    refine Tr.hT 15 rfl (by kernel_rfl) (panicThen panicBody) (QS.nilCheck rfl) ?_
    refine Tr.hT 16 rfl (by kernel_rfl) (panicThen panicBody) (QS.fieldAddr (off := 16) (ft := 34) rfl Try.underlying47 rfl rfl Try.sizeOf34 (by decide)) ?_
    refine Tr.hAll [17] (by kernel_rfl) (by simp) (fun iq hq => ?_)
    obtain rfl := List.mem_singleton.1 hq
    refine Tr.hOp rfl ?_
    refine Tr.storeV rfl rfl Try.sizeOf34 (by repeat constructor) (cpuC_out _) (by rfl) (by exact Nat.le_of_ble_eq_true rfl) (by first | exact List.all_eq_true.1 rfl | exact Enc.one _ _ | (intro u hu; simp [Value.cells] at hu; simp_all [Value.oneCell'])) rfl ?_
    refine Tr.hN ?_
    refine Tr.hDone (by kernel_rfl) ?_
    refine Tr.thenN (Tr.seq (Tr.region ?_))
    refine Tr.q (QS.move rfl) rfl ?_
    refine Tr.q (QS.lW rfl Try.isAgg67 Try.sizeOf67) rfl ?_
    refine Tr.callO (fun _ : Unit => .tuple #[]) [cellE bc (cpuC (s) bM vi (.slice pn (s.out ++ [s.m.reg i.a]).length cn) eff) 47] (fun _ => [cellE bc (cpuC ((s).to (nextP i)) bM vi (.slice pn (s.out ++ [s.m.reg i.a]).length cn) eff) 47]) (ok := fun _ => True) (dd := fun _ => 0) rfl Try.call87 (by repeat' (first | exact Split.nil _ | exact Del.here _ | apply Split.cons | apply Del.there)) (fun w hw => Nat.le_refl _) (fun w hw => next_cpu (s) bc bM vi (.slice pn (s.out ++ [s.m.reg i.a]).length cn) eff i w (hw.own (by repeat' (first | exact Split.nil _ | exact Del.here _ | apply Split.cons | apply Del.there))) hI) rfl (fun _ _ => ?_)
    refine Tr.nil (Tr.thenN (Tr.seq (Tr.region ?_)))
    refine Tr.q (QS.assign rfl) rfl ?_
    refine Tr.nil (Tr.thenN (Tr.ret ?_))
    refine Tr.ret1 Try.results78 rfl (fun w' hw => ?_)
    have hq : transS inp s i (nextP i) = ({ s with m := s.m.to (nextP i), out := s.out ++ [s.m.reg i.a] }, 0) := by unfold transS; repeat (first | rw [if_pos (by first | assumption | omega)] | rw [if_neg (by first | assumption | omega)])
    exact ⟨(.slice pn (s.out ++ [s.m.reg i.a]).length cn), by rw [hq]; try rfl, by rw [hq]; exact hw.upd (Bg.le.refl _) (by repeat' constructor), trivial⟩
   obtain rfl := List.mem_singleton.1 hq
   refine Tr.hOp rfl ?_
   refine Tr.lit1 (E := encU32) (s.m.reg i.a) rfl rfl Try.underlying34 Try.sizeOf22 Try.zeroValue22 (by rfl) (by rfl) rfl (fun V7 => ?_)
   refine Tr.hN ?_
   refine Tr.hAll [4] (by kernel_rfl) (by simp) (fun iq hq => ?_)
   obtain rfl := List.mem_singleton.1 hq
   refine Tr.hOp rfl ?_
   refine Tr.q (QS.loadV rfl (by repeat constructor) Try.isAgg34 (by rfl)) rfl ?_
   refine Tr.hN ?_
   refine Tr.hAll [14] (by kernel_rfl) (by simp) (fun iq hq => ?_)
   obtain rfl := List.mem_singleton.1 hq
   refine Tr.hOp rfl ?_
   refine Tr.append1 rfl rfl (by repeat constructor) (by repeat constructor) Try.underlying34 HLF.info22 (by rfl) (by rfl) (by (try simp only [List.length_cons, List.length_nil, List.length_append, List.length_take]); omega) (by unfold maxLen; (try simp only [List.length_cons, List.length_nil, List.length_append, List.length_take]); omega) rfl (fun V44 => ?_)
   refine Tr.rowShape (V := V44) (by repeat constructor) (fun pn cn hpv => ?_)
   subst hpv
   refine Tr.hN ?_
   refine Tr.hT 15 rfl (by kernel_rfl) (panicThen panicBody) (QS.nilCheck rfl) ?_
   refine Tr.hT 16 rfl (by kernel_rfl) (panicThen panicBody) (QS.fieldAddr (off := 16) (ft := 34) rfl Try.underlying47 rfl rfl Try.sizeOf34 (by decide)) ?_
   refine Tr.hAll [17] (by kernel_rfl) (by simp) (fun iq hq => ?_)
   obtain rfl := List.mem_singleton.1 hq
   refine Tr.hOp rfl ?_
   refine Tr.storeV rfl rfl Try.sizeOf34 (by repeat constructor) (cpuC_out _) (by rfl) (by exact Nat.le_of_ble_eq_true rfl) (by first | exact List.all_eq_true.1 rfl | exact Enc.one _ _ | (intro u hu; simp [Value.cells] at hu; simp_all [Value.oneCell'])) rfl ?_
   refine Tr.hN ?_
   refine Tr.hDone (by kernel_rfl) ?_
   refine Tr.thenN (Tr.seq (Tr.region ?_))
   refine Tr.q (QS.move rfl) rfl ?_
   refine Tr.q (QS.lW rfl Try.isAgg67 Try.sizeOf67) rfl ?_
   refine Tr.callO (fun _ : Unit => .tuple #[]) [cellE bc (cpuC (s) bM vi (.slice pn (s.out ++ [s.m.reg i.a]).length cn) eff) 47] (fun _ => [cellE bc (cpuC ((s).to (nextP i)) bM vi (.slice pn (s.out ++ [s.m.reg i.a]).length cn) eff) 47]) (ok := fun _ => True) (dd := fun _ => 0) rfl Try.call87 (by repeat' (first | exact Split.nil _ | exact Del.here _ | apply Split.cons | apply Del.there)) (fun w hw => Nat.le_refl _) (fun w hw => next_cpu (s) bc bM vi (.slice pn (s.out ++ [s.m.reg i.a]).length cn) eff i w (hw.own (by repeat' (first | exact Split.nil _ | exact Del.here _ | apply Split.cons | apply Del.there))) hI) rfl (fun _ _ => ?_)
   refine Tr.nil (Tr.thenN (Tr.seq (Tr.region ?_)))
   refine Tr.q (QS.assign rfl) rfl ?_
   refine Tr.nil (Tr.thenN (Tr.ret ?_))
   refine Tr.ret1 Try.results78 rfl (fun w' hw => ?_)
   have hq : transS inp s i (nextP i) = ({ s with m := s.m.to (nextP i), out := s.out ++ [s.m.reg i.a] }, 0) := by unfold transS; repeat (first | rw [if_pos (by first | assumption | omega)] | rw [if_neg (by first | assumption | omega)])
   exact ⟨(.slice pn (s.out ++ [s.m.reg i.a]).length cn), by rw [hq]; try rfl, by rw [hq]; exact hw.upd (Bg.le.refl _) (by repeat' constructor), trivial⟩
set_option maxRecDepth 100000 in
set_option maxHeartbeats 4000000 in
theorem choose_cpu (s : St) (bc bM : Nat) (vi vo eff : Value) (i : Ins) (w : World) (ho : OwnAt w [cellE bc (cpuC s bM vi vo eff) 47]) :
  Calls Try.prog 62 #[.pointer (some ⟨bc, 0, none⟩), .agg (encIns.enc i).toArray] w (fun e w' => ∃ _ : Unit, e = .returned (.tuple #[]) ∧ Upd 0 w w' (blks [cellE bc (cpuC s bM vi vo eff) 47]) [cellE bc (cpuC s bM vi vo (effV i.op)) 47] ∧ True) := by
 refine enterB (L := [cellE bc (cpuC s bM vi vo eff) 47]) ho rfl (Nat.zero_le _) Try.func62 rfl Try.ntmps62 rfl ?_
 refine Tr.seq (Tr.region ?_)
 refine Tr.box rfl rfl rfl (fun b1 => ?_)
 refine Tr.nil (Tr.thenN (Tr.seq (Tr.region ?_)))
 refine Tr.q (QS.fieldAddr (off := 2) (ft := 3) rfl Try.underlying67 rfl rfl Try.sizeOf3 (by decide)) rfl ?_
 refine Tr.q (QS.lV rfl Try.isAgg3) rfl ?_
 refine Tr.nil (Tr.thenN (Tr.block (Tr.seq (Tr.seq (Tr.region ?_)))))
 refine Tr.q (QS.eql rfl rfl) rfl ?_
 refine Tr.q (QS.assign rfl) rfl ?_
 refine Tr.nil (Tr.thenN ?_)
 apply Tr.condOr
 ·exact rfl
 ·intro hO2
  try simp only [bs] at hO2
  refine Tr.region ?_
  refine Tr.q (QS.eql rfl rfl) rfl ?_
  refine Tr.q (QS.assign rfl) rfl ?_
  refine Tr.nil (Tr.thenN ?_)
  exact Tr.endOr rfl (SubX.dropN 2 (by kernel_rfl) rfl)
 refine Tr.thenN ?_
 refine Tr.cond rfl (fun h3 => ?_) (fun h3 => ?_)
 ·try simp only [bs] at h3
  refine Tr.region ?_
  refine Tr.q (QS.move rfl) rfl ?_
  refine Tr.q (QS.nilCheck rfl) rfl ?_
  refine Tr.q (QS.fieldAddr (off := 19) (ft := 45) rfl Try.underlying47 rfl rfl Try.sizeOf45 (by decide)) rfl ?_
  refine Tr.storeV rfl rfl Try.sizeOf45 (by repeat constructor) (cpuC_eff _) (by rfl) (by exact Nat.le_of_ble_eq_true rfl) (by first | exact List.all_eq_true.1 rfl | exact Enc.one _ _ | (intro u hu; simp [Value.cells] at hu; simp_all [Value.oneCell'])) rfl ?_
  refine Tr.nil (Tr.inN ?_)
  refine Tr.ret0n Try.results62 (fun w' hw => ?_)
  have he : effV i.op = .func (.func 74) #[] #[] := by unfold effV effF; repeat (first | rw [if_pos (by omega)] | rw [if_neg (by omega)])
  rw [← he] at hw
  exact ⟨(), rfl, hw.upd (Bg.le.refl _) (by repeat' constructor), trivial⟩
 ·try simp only [bs] at h3
  refine Tr.seq (Tr.seq (Tr.region ?_))
  refine Tr.q (QS.eql rfl rfl) rfl ?_
  refine Tr.q (QS.assign rfl) rfl ?_
  refine Tr.nil (Tr.thenN ?_)
  apply Tr.condOr
  ·exact rfl
  ·intro hO4
   try simp only [bs] at hO4
   refine Tr.seq (Tr.region ?_)
   refine Tr.q (QS.eql rfl rfl) rfl ?_
   refine Tr.q (QS.assign rfl) rfl ?_
   refine Tr.nil (Tr.thenN ?_)
   apply Tr.condOr
   ·exact rfl
   ·intro hO5
    try simp only [bs] at hO5
    refine Tr.region ?_
    refine Tr.q (QS.eql rfl rfl) rfl ?_
    refine Tr.q (QS.assign rfl) rfl ?_
    refine Tr.nil (Tr.thenN ?_)
    exact Tr.endOr rfl (SubX.dropN 2 (by kernel_rfl) rfl)
   refine Tr.thenN ?_
   exact Tr.endOr rfl (SubX.dropN 3 (by kernel_rfl) rfl)
  refine Tr.thenN ?_
  refine Tr.cond rfl (fun h6 => ?_) (fun h6 => ?_)
  ·try simp only [bs] at h6
   refine Tr.region ?_
   refine Tr.q (QS.move rfl) rfl ?_
   refine Tr.q (QS.nilCheck rfl) rfl ?_
   refine Tr.q (QS.fieldAddr (off := 19) (ft := 45) rfl Try.underlying47 rfl rfl Try.sizeOf45 (by decide)) rfl ?_
   refine Tr.storeV rfl rfl Try.sizeOf45 (by repeat constructor) (cpuC_eff _) (by rfl) (by exact Nat.le_of_ble_eq_true rfl) (by first | exact List.all_eq_true.1 rfl | exact Enc.one _ _ | (intro u hu; simp [Value.cells] at hu; simp_all [Value.oneCell'])) rfl ?_
   refine Tr.nil (Tr.inN ?_)
   refine Tr.ret0n Try.results62 (fun w' hw => ?_)
   have he : effV i.op = .func (.func 75) #[] #[] := by unfold effV effF; repeat (first | rw [if_pos (by omega)] | rw [if_neg (by omega)])
   rw [← he] at hw
   exact ⟨(), rfl, hw.upd (Bg.le.refl _) (by repeat' constructor), trivial⟩
  ·try simp only [bs] at h6
   refine Tr.seq (Tr.seq (Tr.region ?_))
   refine Tr.q (QS.eql rfl rfl) rfl ?_
   refine Tr.q (QS.assign rfl) rfl ?_
   refine Tr.nil (Tr.thenN ?_)
   apply Tr.condOr
   ·exact rfl
   ·intro hO7
    try simp only [bs] at hO7
    refine Tr.seq (Tr.region ?_)
    refine Tr.q (QS.eql rfl rfl) rfl ?_
    refine Tr.q (QS.assign rfl) rfl ?_
    refine Tr.nil (Tr.thenN ?_)
    apply Tr.condOr
    ·exact rfl
    ·intro hO8
     try simp only [bs] at hO8
     refine Tr.region ?_
     refine Tr.q (QS.eql rfl rfl) rfl ?_
     refine Tr.q (QS.assign rfl) rfl ?_
     refine Tr.nil (Tr.thenN ?_)
     exact Tr.endOr rfl (SubX.dropN 2 (by kernel_rfl) rfl)
    refine Tr.thenN ?_
    exact Tr.endOr rfl (SubX.dropN 3 (by kernel_rfl) rfl)
   refine Tr.thenN ?_
   refine Tr.cond rfl (fun h9 => ?_) (fun h9 => ?_)
   ·try simp only [bs] at h9
    refine Tr.region ?_
    refine Tr.q (QS.move rfl) rfl ?_
    refine Tr.q (QS.nilCheck rfl) rfl ?_
    refine Tr.q (QS.fieldAddr (off := 19) (ft := 45) rfl Try.underlying47 rfl rfl Try.sizeOf45 (by decide)) rfl ?_
    refine Tr.storeV rfl rfl Try.sizeOf45 (by repeat constructor) (cpuC_eff _) (by rfl) (by exact Nat.le_of_ble_eq_true rfl) (by first | exact List.all_eq_true.1 rfl | exact Enc.one _ _ | (intro u hu; simp [Value.cells] at hu; simp_all [Value.oneCell'])) rfl ?_
    refine Tr.nil (Tr.inN ?_)
    refine Tr.ret0n Try.results62 (fun w' hw => ?_)
    have he : effV i.op = .func (.func 76) #[] #[] := by unfold effV effF; repeat (first | rw [if_pos (by omega)] | rw [if_neg (by omega)])
    rw [← he] at hw
    exact ⟨(), rfl, hw.upd (Bg.le.refl _) (by repeat' constructor), trivial⟩
   ·try simp only [bs] at h9
    refine Tr.seq (Tr.seq (Tr.region ?_))
    refine Tr.q (QS.eql rfl rfl) rfl ?_
    refine Tr.q (QS.assign rfl) rfl ?_
    refine Tr.nil (Tr.thenN ?_)
    apply Tr.condOr
    ·exact rfl
    ·intro hO10
     try simp only [bs] at hO10
     refine Tr.seq (Tr.region ?_)
     refine Tr.q (QS.eql rfl rfl) rfl ?_
     refine Tr.q (QS.assign rfl) rfl ?_
     refine Tr.nil (Tr.thenN ?_)
     apply Tr.condOr
     ·exact rfl
     ·intro hO11
      try simp only [bs] at hO11
      refine Tr.region ?_
      refine Tr.q (QS.eql rfl rfl) rfl ?_
      refine Tr.q (QS.assign rfl) rfl ?_
      refine Tr.nil (Tr.thenN ?_)
      exact Tr.endOr rfl (SubX.dropN 2 (by kernel_rfl) rfl)
     refine Tr.thenN ?_
     exact Tr.endOr rfl (SubX.dropN 3 (by kernel_rfl) rfl)
    refine Tr.thenN ?_
    refine Tr.cond rfl (fun h12 => ?_) (fun h12 => ?_)
    ·try simp only [bs] at h12
     refine Tr.region ?_
     refine Tr.q (QS.move rfl) rfl ?_
     refine Tr.q (QS.nilCheck rfl) rfl ?_
     refine Tr.q (QS.fieldAddr (off := 19) (ft := 45) rfl Try.underlying47 rfl rfl Try.sizeOf45 (by decide)) rfl ?_
     refine Tr.storeV rfl rfl Try.sizeOf45 (by repeat constructor) (cpuC_eff _) (by rfl) (by exact Nat.le_of_ble_eq_true rfl) (by first | exact List.all_eq_true.1 rfl | exact Enc.one _ _ | (intro u hu; simp [Value.cells] at hu; simp_all [Value.oneCell'])) rfl ?_
     refine Tr.nil (Tr.inN ?_)
     refine Tr.ret0n Try.results62 (fun w' hw => ?_)
     have he : effV i.op = .func (.func 77) #[] #[] := by unfold effV effF; repeat (first | rw [if_pos (by omega)] | rw [if_neg (by omega)])
     rw [← he] at hw
     exact ⟨(), rfl, hw.upd (Bg.le.refl _) (by repeat' constructor), trivial⟩
    ·try simp only [bs] at h12
     refine Tr.seq (Tr.seq (Tr.region ?_))
     refine Tr.q (QS.eql rfl rfl) rfl ?_
     refine Tr.q (QS.assign rfl) rfl ?_
     refine Tr.nil (Tr.thenN ?_)
     apply Tr.condOr
     ·exact rfl
     ·intro hO13
      try simp only [bs] at hO13
      refine Tr.region ?_
      refine Tr.q (QS.eql rfl rfl) rfl ?_
      refine Tr.q (QS.assign rfl) rfl ?_
      refine Tr.nil (Tr.thenN ?_)
      exact Tr.endOr rfl (SubX.dropN 2 (by kernel_rfl) rfl)
     refine Tr.thenN ?_
     refine Tr.cond rfl (fun h14 => ?_) (fun h14 => ?_)
     ·try simp only [bs] at h14
      refine Tr.region ?_
      refine Tr.q (QS.move rfl) rfl ?_
      refine Tr.q (QS.nilCheck rfl) rfl ?_
      refine Tr.q (QS.fieldAddr (off := 19) (ft := 45) rfl Try.underlying47 rfl rfl Try.sizeOf45 (by decide)) rfl ?_
      refine Tr.storeV rfl rfl Try.sizeOf45 (by repeat constructor) (cpuC_eff _) (by rfl) (by exact Nat.le_of_ble_eq_true rfl) (by first | exact List.all_eq_true.1 rfl | exact Enc.one _ _ | (intro u hu; simp [Value.cells] at hu; simp_all [Value.oneCell'])) rfl ?_
      refine Tr.nil (Tr.inN ?_)
      refine Tr.ret0n Try.results62 (fun w' hw => ?_)
      have he : effV i.op = .func (.func 78) #[] #[] := by unfold effV effF; repeat (first | rw [if_pos (by omega)] | rw [if_neg (by omega)])
      rw [← he] at hw
      exact ⟨(), rfl, hw.upd (Bg.le.refl _) (by repeat' constructor), trivial⟩
     ·try simp only [bs] at h14
      refine Tr.region ?_
      refine Tr.q (QS.move rfl) rfl ?_
      refine Tr.q (QS.nilCheck rfl) rfl ?_
      refine Tr.q (QS.fieldAddr (off := 19) (ft := 45) rfl Try.underlying47 rfl rfl Try.sizeOf45 (by decide)) rfl ?_
      refine Tr.storeV rfl rfl Try.sizeOf45 (by repeat constructor) (cpuC_eff _) (by rfl) (by exact Nat.le_of_ble_eq_true rfl) (by first | exact List.all_eq_true.1 rfl | exact Enc.one _ _ | (intro u hu; simp [Value.cells] at hu; simp_all [Value.oneCell'])) rfl ?_
      refine Tr.nil (Tr.inN ?_)
      refine Tr.ret0n Try.results62 (fun w' hw => ?_)
      have he : effV i.op = .func (.func 79) #[] #[] := by unfold effV effF; repeat (first | rw [if_pos (by omega)] | rw [if_neg (by omega)])
      rw [← he] at hw
      exact ⟨(), rfl, hw.upd (Bg.le.refl _) (by repeat' constructor), trivial⟩
end Go.Proofs.Ytpeaodkfbjenpaa
namespace Go.Proofs.Ytpeaodkfbjenpaa
open Go Go.HL Go.RowKit
theorem eff_any (s : St) (bc bM bm : Nat) (VR vi vo eff : Value) (rs : List RegV) (l : List SecV) (wl : WL) (inp : List UInt32) (i : Ins) (w : World) (ho : OwnAt w [cellE bc (cpuC s bM vi vo eff) 47, mapE bm u8V wl, rowE vo 22 encU32 s.out]) (hC : CpuAt (Bg.lessB w (blks [cellE bc (cpuC s bM vi vo eff) 47, mapE bm u8V wl, rowE vo 22 encU32 s.out]) 0).blk bM bm VR vi rs inp) (hO : MemOK l rs) (hwl : mread wl = s.w) (hvo : ∃ a n c, vo = .slice a n c) (hI : InsOK i) (hA : 0 ≤ i.a ∧ i.a < 8) (hB : 0 ≤ i.b ∧ i.b < 8) :
  Calls Try.prog (effF i.op) #[.pointer (some ⟨bc, 0, none⟩), .agg (encIns.enc i).toArray] w (fun e w' => ∃ j : WL × Value, e = .returned (.int .i64 (effS l inp s i (nextP i)).2) ∧ Upd 0 w w' (blks [cellE bc (cpuC s bM vi vo eff) 47, mapE bm u8V wl, rowE vo 22 encU32 s.out]) [cellE bc (cpuC (effS l inp s i (nextP i)).1 bM vi j.2 eff) 47, mapE bm u8V j.1, rowE j.2 22 encU32 (effS l inp s i (nextP i)).1.out] ∧ (mread j.1 = (effS l inp s i (nextP i)).1.w ∧ j.1.length ≤ wl.length + 4 ∧ ∃ a n c, j.2 = .slice a n c)) := by
 have hM2 : MemAt (Bg.lessB w (blks [cellE bc (cpuC s bM vi vo eff) 47, mapE bm u8V wl]) 0).blk bM bm VR rs := hC.mem.mono (lessB_le (blks_sub (fun e he => by simp only [List.mem_cons, List.not_mem_nil, or_false] at he ⊢; rcases he with rfl | rfl <;> simp)))
 have hi3 : Sl (Bg.lessB w (blks [cellE bc (cpuC s bM vi vo eff) 47, rowE vo 22 encU32 s.out]) 0).blk encU32 inp vi := hC.inp.mono (lessB_le (blks_sub (fun e he => by simp only [List.mem_cons, List.not_mem_nil, or_false] at he ⊢; rcases he with rfl | rfl <;> simp)))
 have ho2 : OwnAt w ([cellE bc (cpuC s bM vi vo eff) 47, mapE bm u8V wl] ++ [rowE vo 22 encU32 s.out]) := ho
 have ho1 : OwnAt w ([cellE bc (cpuC s bM vi vo eff) 47] ++ [mapE bm u8V wl, rowE vo 22 encU32 s.out]) := ho
 have hp : ([cellE bc (cpuC s bM vi vo eff) 47, rowE vo 22 encU32 s.out] ++ [mapE bm u8V wl]).Perm [cellE bc (cpuC s bM vi vo eff) 47, mapE bm u8V wl, rowE vo 22 encU32 s.out] := .cons _ (.swap _ _ _)
 have ho3 : OwnAt w ([cellE bc (cpuC s bM vi vo eff) 47, rowE vo 22 encU32 s.out] ++ [mapE bm u8V wl]) := ho.perm hp
 unfold effF effS
 by_cases h1 : i.op = 3 ∨ i.op = 4
 ·rw [if_pos h1, if_pos h1]
  refine (stack_cpu s bc bM bm VR vi vo eff rs l wl i w ho2.left hM2 hO hwl hI hA hB).mono fun e w' ⟨wl', q1, q2, q3, q4⟩ => ⟨(wl', vo), q1, ?_, q3, q4, hvo⟩
  rw [stack_out]; exact q2.frame ho2
 rw [if_neg h1, if_neg h1]
 by_cases h2 : i.op = 16 ∨ i.op = 17 ∨ i.op = 18
 ·rw [if_pos h2, if_pos h2]
  refine (access_cpu s bc bM bm VR vi vo eff rs l wl i w ho2.left hM2 hO hwl hI hA hB).mono fun e w' ⟨wl', q1, q2, q3, q4⟩ => ⟨(wl', vo), q1, ?_, q3, q4, hvo⟩
  rw [access_out]; exact q2.frame ho2
 rw [if_neg h2, if_neg h2]
 by_cases h3 : i.op = 20 ∨ i.op = 21 ∨ i.op = 22
 ·rw [if_pos h3, if_pos h3]
  refine (jump_cpu s bc bM bm VR vi vo eff rs l wl i w ho2.left hM2 hO hwl hI hA hB).mono fun e w' ⟨wl', q1, q2, q3, q4⟩ => ⟨(wl', vo), q1, ?_, q3, q4, hvo⟩
  rw [jump_out]; exact q2.frame ho2
 rw [if_neg h3, if_neg h3]
 by_cases h4 : i.op = 23 ∨ i.op = 24 ∨ i.op = 2
 ·rw [if_pos h4, if_pos h4]
  refine (call_cpu s bc bM bm VR vi vo eff rs l wl i w ho2.left hM2 hO hwl hI hA hB).mono fun e w' ⟨wl', q1, q2, q3, q4⟩ => ⟨(wl', vo), q1, ?_, q3, q4, hvo⟩
  rw [call_out]; exact q2.frame ho2
 rw [if_neg h4, if_neg h4]
 by_cases h5 : i.op = 26 ∨ i.op = 27
 ·rw [if_pos h5, if_pos h5]
  refine (trans_cpu s bc bM vi vo eff inp i w ho3.left hi3 hvo hI hA hB).mono fun e w' ⟨vo', q1, q2, _⟩ => ⟨(wl, vo'), q1, ?_, by rw [trans_w]; exact hwl, Nat.le_add_right _ _, ?_⟩
  ·exact (q2.frame ho3).perm hp.symm (.cons _ (.swap _ _ _))
  ·have hr := q2.ent (rowE vo' 22 encU32 (transS inp s i (nextP i)).1.out) (by simp)
   have hr' : RowOK vo' 22 encU32 (transS inp s i (nextP i)).1.out (vo'.ownBlock.bind (w'.heap[·]?)) := hr
   rcases hr' with ⟨e1, _⟩ | ⟨g, cap, cur, e1, _⟩
   ·exact ⟨_, _, _, e1⟩
   ·exact ⟨_, _, _, e1⟩
 rw [if_neg h5, if_neg h5]
 refine (plain_cpu s bc bM vi vo eff i w ho1.left hI hA hB).mono fun e w' ⟨_, q1, q2, _⟩ => ⟨(wl, vo), q1, q2.frame ho1, hwl, Nat.le_add_right _ _, hvo⟩
theorem eff_enters (op : Int) (args : Array Value) (w : World) : (callFunc (effF op) args).run Try.prog w = .ok (.enter (effF op) args) w := by
 unfold effF
 split
 ·exact Try.call74 args w
 split
 ·exact Try.call75 args w
 split
 ·exact Try.call76 args w
 split
 ·exact Try.call77 args w
 split
 ·exact Try.call78 args w
 ·exact Try.call79 args w
set_option maxRecDepth 100000 in
set_option maxHeartbeats 8000000 in
theorem exec_cpu (s : St) (bc bM bm : Nat) (VR vi vo eff : Value) (rs : List RegV) (l : List SecV) (wl : WL) (inp : List UInt32) (w : World) (ho : OwnAt w [cellE bc (cpuC s bM vi vo eff) 47, mapE bm u8V wl, rowE vo 22 encU32 s.out]) (hC : CpuAt (Bg.lessB w (blks [cellE bc (cpuC s bM vi vo eff) 47, mapE bm u8V wl, rowE vo 22 encU32 s.out]) 0).blk bM bm VR vi rs inp) (hO : MemOK l rs) (hwl : mread wl = s.w) (hvo : ∃ a n c, vo = .slice a n c) :
  Calls Try.prog 42 #[.pointer (some ⟨bc, 0, none⟩)] w (fun e w' => ∃ j : WL × Value × Value, e = .returned (.int .i64 (execS l inp s).2) ∧ Upd 0 w w' (blks [cellE bc (cpuC s bM vi vo eff) 47, mapE bm u8V wl, rowE vo 22 encU32 s.out]) [cellE bc (cpuC (execS l inp s).1 bM vi j.2.1 j.2.2) 47, mapE bm u8V j.1, rowE j.2.1 22 encU32 (execS l inp s).1.out] ∧ (mread j.1 = (execS l inp s).1.w ∧ j.1.length ≤ wl.length + 4 ∧ ∃ a n c, j.2.1 = .slice a n c)) := by
 refine enterB (L := [cellE bc (cpuC s bM vi vo eff) 47, mapE bm u8V wl, rowE vo 22 encU32 s.out]) ho rfl (Nat.zero_le _) Try.func42 rfl Try.ntmps42 rfl ?_
 refine Tr.seq (Tr.region ?_)
 refine Tr.q (QS.assign rfl) rfl ?_
 refine Tr.nil (Tr.thenN (Tr.seq ?_))
 refine Tr.regionH ([cellE bc (cpuC s bM vi vo eff) 47]) 15 rfl HLF.mixed ?_
 refine Tr.hT 0 rfl (by kernel_rfl) (panicThen panicBody) (QS.move rfl) ?_
 refine Tr.hT 1 rfl (by kernel_rfl) (panicThen panicBody) (QS.nilCheck rfl) ?_
 refine Tr.hT 2 rfl (by kernel_rfl) (panicThen panicBody) (QS.fieldAddr (off := 13) (ft := 23) rfl Try.underlying47 rfl rfl Try.sizeOf23 (by decide)) ?_
 refine Tr.hT 3 rfl (by kernel_rfl) (panicThen panicBody) (QS.loadV rfl (by repeat constructor) Try.isAgg23 (by rfl)) ?_
 refine Tr.hT 4 rfl (by kernel_rfl) (panicThen panicBody) (QS.move rfl) ?_
 refine Tr.hT 5 rfl (by kernel_rfl) (panicThen panicBody) (QS.nilCheck rfl) ?_
 refine Tr.hT 6 rfl (by kernel_rfl) (panicThen panicBody) (QS.fieldAddr (off := 0) (ft := 42) rfl Try.underlying47 rfl rfl Try.sizeOf42 (by decide)) ?_
 refine Tr.hT 7 rfl (by kernel_rfl) (panicThen panicBody) (QS.fieldAddr (off := 8) (ft := 22) rfl Try.underlying42 rfl rfl Try.sizeOf22 (by decide)) ?_
 refine Tr.hT 8 rfl (by kernel_rfl) (panicThen panicBody) (QS.loadV rfl (by repeat constructor) Try.isAgg22 (by rfl)) ?_
 refine Tr.hAll [9] (by kernel_rfl) (by simp) (fun iq hq => ?_)
 obtain rfl := List.mem_singleton.1 hq
 refine Tr.hOp rfl ?_
 refine Tr.callRowF (fun V => .tuple #[V, .int .i64 (fetchA l s.w s.m.pc).2]) rfl Try.call60 (fun w hw => by have q := mfetch_any bM bm VR rs l s.m.pc wl w (hC.mem.mono hw.bg) hO (mapE.in_ (hw.ent _ (by repeat constructor))); rw [hwl] at q; exact q) rfl (fun V51 => ?_)
 refine Tr.hN ?_
 refine Tr.hT 10 rfl (by kernel_rfl) (panicThen panicBody) (QS.move rfl) ?_
 refine Tr.hT 11 rfl (by kernel_rfl) (panicThen panicBody) (QS.extract rfl rfl) ?_
 refine Tr.hT 12 rfl (by kernel_rfl) (panicThen panicBody) (QS.extract rfl rfl) ?_
 refine Tr.hT 13 rfl (by kernel_rfl) (panicThen panicBody) (QS.assign rfl) ?_
 refine Tr.hT 14 rfl (by kernel_rfl) (panicThen panicBody) (QS.assign rfl) ?_
 refine Tr.hDone (by kernel_rfl) ?_
 refine Tr.thenN (Tr.seq (Tr.seq (Tr.region ?_)))
 refine Tr.q (QS.move rfl) rfl ?_
 refine Tr.q (QS.neq rfl rfl) rfl ?_
 refine Tr.nil (Tr.thenN ?_)
 refine Tr.cond rfl (fun h1 => ?_) (fun h1 => ?_)
 ·try simp only [bs] at h1
  refine Tr.seq (Tr.region ?_)
  refine Tr.q (QS.move rfl) rfl ?_
  refine Tr.q (QS.assign rfl) rfl ?_
  refine Tr.nil (Tr.thenN (Tr.ret (Tr.thenR ?_)))
  refine Tr.ret1 Try.results42 rfl (fun w' hw => ?_)
  have hq : execS l inp s = (s, (fetchA l s.w s.m.pc).2) := by unfold execS; rw [if_pos (by assumption)]
  exact ⟨(wl, vo, eff), by rw [hq]; try rfl, by rw [hq]; exact hw.upd (Bg.le.refl _) (by repeat' constructor), by rw [hq]; exact ⟨hwl, Nat.le_add_right _ _, hvo⟩⟩
 ·try simp only [bs] at h1
  refine Tr.skip (Tr.thenN (Tr.seq (Tr.region ?_)))
  refine Tr.q (QS.move rfl) rfl ?_
  refine Tr.q (QS.move rfl) rfl ?_
  refine Tr.q (QS.nilCheck rfl) rfl ?_
  refine Tr.q (QS.fieldAddr (off := 0) (ft := 42) rfl Try.underlying47 rfl rfl Try.sizeOf42 (by decide)) rfl ?_
  refine Tr.q (QS.fieldAddr (off := 8) (ft := 22) rfl Try.underlying42 rfl rfl Try.sizeOf22 (by decide)) rfl ?_
  refine Tr.q (QS.loadV rfl (by repeat constructor) Try.isAgg22 (by rfl)) rfl ?_
  refine Tr.q (QS.call rfl Try.call61 (fun w hw => decode_isa (fetchA l s.w s.m.pc).1 _ s.m.pc w (hw.row (by repeat constructor)))) rfl ?_
  refine Tr.q (QS.move rfl) rfl ?_
  refine Tr.q (QS.extract rfl rfl) rfl ?_
  refine Tr.q (QS.extract rfl rfl) rfl ?_
  refine Tr.alloc Try.zeroValue67 rfl rfl (fun b2 => ?_)
  refine Tr.storeW rfl rfl Try.sizeOf67 (by repeat constructor) (by rfl) (by rfl) (by first | exact List.all_eq_true.1 rfl | exact Enc.one _ _ | exact Enc.one encIns _) rfl ?_
  obtain ⟨ii, hii⟩ : ∃ ii, ii = (decP (fetchA l s.w s.m.pc).1 s.m.pc).1 := ⟨_, rfl⟩
  change Tr _ _ (cellE b2 (encIns.enc (decP (fetchA l s.w s.m.pc).1 s.m.pc).1) 67 :: _) _ _
  rw [← hii]
  refine Tr.q (QS.assign rfl) rfl ?_
  refine Tr.nil (Tr.thenN (Tr.seq (Tr.seq (Tr.region ?_))))
  refine Tr.q (QS.move rfl) rfl ?_
  refine Tr.q (QS.neq rfl rfl) rfl ?_
  refine Tr.nil (Tr.thenN ?_)
  refine Tr.cond rfl (fun h3 => ?_) (fun h3 => ?_)
  ·try simp only [bs] at h3
   refine Tr.seq (Tr.region ?_)
   refine Tr.q (QS.move rfl) rfl ?_
   refine Tr.q (QS.assign rfl) rfl ?_
   refine Tr.nil (Tr.thenN (Tr.ret (Tr.thenR ?_)))
   refine Tr.ret1 Try.results42 rfl (fun w' hw => ?_)
   have hq : execS l inp s = (s, (decP (fetchA l s.w s.m.pc).1 s.m.pc).2) := by unfold execS; rw [if_neg (by simp_all), if_pos (by assumption)]
   exact ⟨(wl, vo, eff), by rw [hq]; try rfl, by rw [hq]; exact hw.upd (Bg.le.refl _) (by repeat' constructor), by rw [hq]; exact ⟨hwl, Nat.le_add_right _ _, hvo⟩⟩
  ·try simp only [bs] at h3
   refine Tr.skip (Tr.thenN (Tr.seq ?_))
   have hd0 : (decP (fetchA l s.w s.m.pc).1 s.m.pc).2 = 0 := by simp_all
   have hIi : InsOK ii := by rw [hii]; exact dec_ok
   obtain ⟨hAi, hBi⟩ := dec_regs hd0
   rw [← hii] at hAi hBi
   refine Tr.region ?_
   refine Tr.q (QS.move rfl) rfl ?_
   refine Tr.q (QS.lW rfl Try.isAgg67 Try.sizeOf67) rfl ?_
   refine Tr.callO (fun _ : Unit => .tuple #[]) [cellE bc (cpuC s bM vi vo eff) 47] (fun _ => [cellE bc (cpuC s bM vi vo (effV ii.op)) 47]) (ok := fun _ => True) (dd := fun _ => 0) rfl Try.call62 (by repeat' (first | exact Split.nil _ | exact Del.here _ | apply Split.cons | apply Del.there)) (fun w hw => Nat.le_refl _) (fun w hw => choose_cpu s bc bM vi vo eff ii w (hw.own (by repeat' (first | exact Split.nil _ | exact Del.here _ | apply Split.cons | apply Del.there)))) rfl (fun _ _ => ?_)
   refine Tr.nil (Tr.thenN (Tr.seq ?_))
   refine Tr.regionH ([cellE b2 (encIns.enc ii) 67]) 8 rfl HLF.mixed ?_
   refine Tr.hT 0 rfl (by kernel_rfl) (panicThen panicBody) (QS.move rfl) ?_
   refine Tr.hT 1 rfl (by kernel_rfl) (panicThen panicBody) (QS.nilCheck rfl) ?_
   refine Tr.hT 2 rfl (by kernel_rfl) (panicThen panicBody) (QS.fieldAddr (off := 19) (ft := 45) rfl Try.underlying47 rfl rfl Try.sizeOf45 (by decide)) ?_
   refine Tr.hT 4 rfl (by kernel_rfl) (panicThen panicBody) (QS.move rfl) ?_
   refine Tr.hT 5 rfl (by kernel_rfl) (panicThen panicBody) (QS.lW rfl Try.isAgg67 Try.sizeOf67) ?_
   refine Tr.hAll [3] (by kernel_rfl) (by simp) (fun iq hq => ?_)
   obtain rfl := List.mem_singleton.1 hq
   refine Tr.hOp rfl ?_
   refine Tr.q (QS.loadV rfl (by repeat constructor) Try.isAgg45 (by rfl)) rfl ?_
   refine Tr.hN ?_
   refine Tr.hAll [6] (by kernel_rfl) (by simp) (fun iq hq => ?_)
   obtain rfl := List.mem_singleton.1 hq
   refine Tr.hOp rfl ?_
   refine Tr.callOV (fun _ : WL × Value => .int .i64 (effS l inp s ii (nextP ii)).2) [cellE bc (cpuC s bM vi vo (effV ii.op)) 47, mapE bm u8V wl, rowE vo 22 encU32 s.out] (fun j => [cellE bc (cpuC (effS l inp s ii (nextP ii)).1 bM vi j.2 (effV ii.op)) 47, mapE bm u8V j.1, rowE j.2 22 encU32 (effS l inp s ii (nextP ii)).1.out]) (ok := fun j => mread j.1 = (effS l inp s ii (nextP ii)).1.w ∧ j.1.length ≤ wl.length + 4 ∧ ∃ a n c, j.2 = .slice a n c) (f := effF ii.op) (dd := fun _ => 0) rfl rfl (eff_enters ii.op) (by repeat' (first | exact Split.nil _ | exact Del.here _ | apply Split.cons | apply Del.there)) (fun w hw => Nat.le_refl _) (fun w hw => eff_any s bc bM bm VR vi vo (effV ii.op) rs l wl inp ii w (hw.own (by repeat' (first | exact Split.nil _ | exact Del.here _ | apply Split.cons | apply Del.there))) (hC.mono (hw.lessB (Lo := [cellE bc (cpuC s bM vi vo (effV ii.op)) 47, mapE bm u8V wl, rowE vo 22 encU32 s.out]) (by repeat' (first | exact Split.nil _ | exact Del.here _ | apply Split.cons | apply Del.there)))) hO hwl hvo hIi hAi hBi) rfl (fun j hj => ?_)
   refine Tr.hN ?_
   refine Tr.hT 7 rfl (by kernel_rfl) (panicThen panicBody) (QS.assign rfl) ?_
   refine Tr.hDone (by kernel_rfl) ?_
   refine Tr.thenN (Tr.ret ?_)
   refine Tr.ret1 Try.results42 rfl (fun w' hw => ?_)
   have hq : execS l inp s = effS l inp s ii (nextP ii) := by rw [hii]; unfold execS; rw [if_neg (by simp_all), if_neg (by simp_all)]
   exact ⟨(j.1, j.2, effV ii.op), by rw [hq], by rw [hq]; exact hw.upd (Bg.le.refl _) (by repeat' constructor), by rw [hq]; exact hj⟩
set_option maxRecDepth 100000 in
set_option maxHeartbeats 8000000 in
theorem step_cpu (s : St) (bc bM bm : Nat) (VR vi vo eff : Value) (rs : List RegV) (l : List SecV) (wl : WL) (inp : List UInt32) (w : World) (ho : OwnAt w [cellE bc (cpuC s bM vi vo eff) 47, mapE bm u8V wl, rowE vo 22 encU32 s.out]) (hC : CpuAt (Bg.lessB w (blks [cellE bc (cpuC s bM vi vo eff) 47, mapE bm u8V wl, rowE vo 22 encU32 s.out]) 0).blk bM bm VR vi rs inp) (hO : MemOK l rs) (hwl : mread wl = s.w) (hvo : ∃ a n c, vo = .slice a n c) :
  Calls Try.prog 18 #[.pointer (some ⟨bc, 0, none⟩)] w (fun e w' => ∃ j : WL × Value × Value, e = .returned (.int .i64 (stepS l inp s).2) ∧ Upd 0 w w' (blks [cellE bc (cpuC s bM vi vo eff) 47, mapE bm u8V wl, rowE vo 22 encU32 s.out]) [cellE bc (cpuC (stepS l inp s).1 bM vi j.2.1 j.2.2) 47, mapE bm u8V j.1, rowE j.2.1 22 encU32 (stepS l inp s).1.out] ∧ (mread j.1 = (stepS l inp s).1.w ∧ j.1.length ≤ wl.length + 4 ∧ ∃ a n c, j.2.1 = .slice a n c)) := by
 refine enterB (L := [cellE bc (cpuC s bM vi vo eff) 47, mapE bm u8V wl, rowE vo 22 encU32 s.out]) ho rfl (Nat.zero_le _) Try.func18 rfl Try.ntmps18 rfl ?_
 refine Tr.seq (Tr.region ?_)
 refine Tr.q (QS.assign rfl) rfl ?_
 refine Tr.nil (Tr.thenN (Tr.seq (Tr.block (Tr.seq (Tr.region ?_)))))
 refine Tr.q (QS.move rfl) rfl ?_
 refine Tr.q (QS.call rfl Try.call37 (fun w hw => cmade_any s bc bM vi vo eff w (cellE.cellsIn (hw.ent _ (by repeat constructor)) (Ext.refl _)))) rfl ?_
 refine Tr.q (QS.not rfl) rfl ?_
 refine Tr.q (QS.assign rfl) rfl ?_
 refine Tr.nil (Tr.thenN ?_)
 refine Tr.cond rfl (fun h1 => ?_) (fun h1 => ?_)
 ·try simp only [bs] at h1
  first | contradiction | (exfalso; omega) | simp_all
 ·try simp only [bs] at h1
  refine Tr.seq (Tr.region ?_)
  refine Tr.q (QS.move rfl) rfl ?_
  refine Tr.q (QS.nilCheck rfl) rfl ?_
  refine Tr.q (QS.fieldAddr (off := 17) (ft := 4) rfl Try.underlying47 rfl rfl Try.sizeOf4 (by decide)) rfl ?_
  refine Tr.q (QS.loadV rfl (by repeat constructor) Try.isAgg4 (by rfl)) rfl ?_
  refine Tr.q (QS.assign rfl) rfl ?_
  refine Tr.nil (Tr.thenN ?_)
  refine Tr.cond rfl (fun h2 => ?_) (fun h2 => ?_)
  ·try simp only [bs] at h2
   refine Tr.seq (Tr.region ?_)
   refine Tr.q (QS.assign rfl) rfl ?_
   refine Tr.nil (Tr.thenN (Tr.ret ?_))
   refine Tr.inR ?_
   refine Tr.thenR ?_
   refine Tr.ret1 Try.results18 rfl (fun w' hw => ?_)
   have hq : stepS l inp s = (s, 21) := by unfold stepS; rw [if_pos (by assumption)]
   exact ⟨(wl, vo, eff), by rw [hq], by rw [hq]; exact hw.upd (Bg.le.refl _) (by repeat' constructor), by rw [hq]; exact ⟨hwl, Nat.le_add_right _ _, hvo⟩⟩
  ·try simp only [bs] at h2
   refine Tr.seq (Tr.region ?_)
   refine Tr.q (QS.move rfl) rfl ?_
   refine Tr.q (QS.nilCheck rfl) rfl ?_
   refine Tr.q (QS.fieldAddr (off := 18) (ft := 24) rfl Try.underlying47 rfl rfl Try.sizeOf24 (by decide)) rfl ?_
   refine Tr.q (QS.loadV rfl (by repeat constructor) Try.isAgg24 (by rfl)) rfl ?_
   refine Tr.q (QS.eql rfl rfl) rfl ?_
   refine Tr.q (QS.assign rfl) rfl ?_
   refine Tr.nil (Tr.thenN ?_)
   refine Tr.cond rfl (fun h3 => ?_) (fun h3 => ?_)
   ·try simp only [bs] at h3
    refine Tr.region ?_
    refine Tr.q (QS.move rfl) rfl ?_
    refine Tr.q (QS.move rfl) rfl ?_
    refine Tr.callO (fun _ : WL × Value × Value => .int .i64 (execS l inp s).2) [cellE bc (cpuC s bM vi vo eff) 47, mapE bm u8V wl, rowE vo 22 encU32 s.out] (fun j => [cellE bc (cpuC (execS l inp s).1 bM vi j.2.1 j.2.2) 47, mapE bm u8V j.1, rowE j.2.1 22 encU32 (execS l inp s).1.out]) (ok := fun j => mread j.1 = (execS l inp s).1.w ∧ j.1.length ≤ wl.length + 4 ∧ ∃ a n c, j.2.1 = .slice a n c) (dd := fun _ => 0) rfl Try.call42 (by repeat' (first | exact Split.nil _ | exact Del.here _ | apply Split.cons | apply Del.there)) (fun w hw => Nat.le_refl _) (fun w hw => exec_cpu s bc bM bm VR vi vo eff rs l wl inp w (hw.own (by repeat' (first | exact Split.nil _ | exact Del.here _ | apply Split.cons | apply Del.there))) (hC.mono (hw.lessB (Lo := [cellE bc (cpuC s bM vi vo eff) 47, mapE bm u8V wl, rowE vo 22 encU32 s.out]) (by repeat' (first | exact Split.nil _ | exact Del.here _ | apply Split.cons | apply Del.there)))) hO hwl hvo) rfl (fun j hj => ?_)
    refine Tr.q (QS.nilCheck rfl) rfl ?_
    refine Tr.q (QS.fieldAddr (off := 18) (ft := 24) rfl Try.underlying47 rfl rfl Try.sizeOf24 (by decide)) rfl ?_
    refine Tr.storeV rfl rfl Try.sizeOf24 (by repeat constructor) (cpuC_err _) (by rfl) (by exact Nat.le_of_ble_eq_true rfl) (by first | exact List.all_eq_true.1 rfl | exact Enc.one _ _ | (intro u hu; simp [Value.cells] at hu; simp_all [Value.oneCell'])) rfl ?_
    refine Tr.nil (Tr.inN (Tr.thenN (Tr.seq (Tr.region ?_))))
    refine Tr.q (QS.move rfl) rfl ?_
    refine Tr.q (QS.nilCheck rfl) rfl ?_
    refine Tr.q (QS.fieldAddr (off := 18) (ft := 24) rfl Try.underlying47 rfl rfl Try.sizeOf24 (by decide)) rfl ?_
    refine Tr.q (QS.loadV rfl (by repeat constructor) Try.isAgg24 (by rfl)) rfl ?_
    refine Tr.q (QS.assign rfl) rfl ?_
    refine Tr.nil (Tr.thenN (Tr.ret ?_))
    refine Tr.ret1 Try.results18 rfl (fun w' hw => ?_)
    have hq : stepS l inp s = ({ (execS l inp s).1 with err := (execS l inp s).2 }, (execS l inp s).2) := by unfold stepS; rw [if_neg (by simp_all), if_neg (by simp_all)]
    exact ⟨j, by rw [hq]; try rfl, by rw [hq]; exact hw.upd (Bg.le.refl _) (by repeat' constructor), by rw [hq]; exact hj⟩
   ·try simp only [bs] at h3
    refine Tr.skip (Tr.inN (Tr.thenN (Tr.seq (Tr.region ?_))))
    refine Tr.q (QS.move rfl) rfl ?_
    refine Tr.q (QS.nilCheck rfl) rfl ?_
    refine Tr.q (QS.fieldAddr (off := 18) (ft := 24) rfl Try.underlying47 rfl rfl Try.sizeOf24 (by decide)) rfl ?_
    refine Tr.q (QS.loadV rfl (by repeat constructor) Try.isAgg24 (by rfl)) rfl ?_
    refine Tr.q (QS.assign rfl) rfl ?_
    refine Tr.nil (Tr.thenN (Tr.ret ?_))
    refine Tr.ret1 Try.results18 rfl (fun w' hw => ?_)
    have hq : stepS l inp s = (s, s.err) := by unfold stepS; rw [if_neg (by simp_all), if_pos (by assumption)]
    exact ⟨(wl, vo, eff), by rw [hq]; try rfl, by rw [hq]; exact hw.upd (Bg.le.refl _) (by repeat' constructor), by rw [hq]; exact ⟨hwl, Nat.le_add_right _ _, hvo⟩⟩
set_option maxRecDepth 100000 in
set_option maxHeartbeats 8000000 in
theorem trace_cpu (s : St) (bc bM bm : Nat) (VR vi vo eff : Value) (rs : List RegV) (l : List SecV) (wl : WL) (inp : List UInt32) (n : Int) (w : World) (ho : OwnAt w [cellE bc (cpuC s bM vi vo eff) 47, mapE bm u8V wl, rowE vo 22 encU32 s.out]) (hC : CpuAt (Bg.lessB w (blks [cellE bc (cpuC s bM vi vo eff) 47, mapE bm u8V wl, rowE vo 22 encU32 s.out]) 0).blk bM bm VR vi rs inp) (hO : MemOK l rs) (hwl : mread wl = s.w) (hvo : ∃ a n c, vo = .slice a n c) (hol : s.out.length ≤ 4096) :
  Calls Try.prog 16 #[.pointer (some ⟨bc, 0, none⟩), .int .i64 n] w (fun e w' => ∃ j : WL × Value × Value × Value × Value, e = .returned (.tuple #[j.2.2.2.1, .agg #[.int .i64 (errR (runS l inp (min n 65536).toNat s)), j.2.2.2.2, .int .i64 ((traceS l inp (min n 65536).toNat s).length : Nat)]]) ∧ Upd 0 w w' (blks [cellE bc (cpuC s bM vi vo eff) 47, mapE bm u8V wl, rowE vo 22 encU32 s.out]) [cellE bc (cpuC (runS l inp (min n 65536).toNat s) bM vi j.2.1 j.2.2.1) 47, mapE bm u8V j.1, rowE j.2.1 22 encU32 (runS l inp (min n 65536).toNat s).out, rowE j.2.2.2.1 22 encU32 (traceS l inp (min n 65536).toNat s), rowE j.2.2.2.2 22 encU32 (runS l inp (min n 65536).toNat s).out] ∧ (mread j.1 = (runS l inp (min n 65536).toNat s).w ∧ j.1.length ≤ wl.length + 4 * (traceS l inp (min n 65536).toNat s).length ∧ ∃ a n c, j.2.1 = .slice a n c)) := by
 refine enterB (L := [cellE bc (cpuC s bM vi vo eff) 47, mapE bm u8V wl, rowE vo 22 encU32 s.out]) ho rfl (Nat.zero_le _) Try.func16 rfl Try.ntmps16 rfl ?_
 refine Tr.seq (Tr.region ?_)
 refine Tr.q (QS.assign rfl) rfl ?_
 refine Tr.alloc Try.zeroValue50 rfl rfl (fun b1 => ?_)
 refine Tr.nil (Tr.thenN (Tr.seq (Tr.seq (Tr.region ?_))))
 refine Tr.q (QS.move rfl) rfl ?_
 refine Tr.q (QS.call rfl Try.call37 (fun w hw => cmade_any s bc bM vi vo eff w (cellE.cellsIn (hw.ent _ (by repeat constructor)) (Ext.refl _)))) rfl ?_
 refine Tr.q (QS.not rfl) rfl ?_
 refine Tr.nil (Tr.thenN ?_)
 refine Tr.cond rfl (fun h2 => ?_) (fun h2 => ?_)
 ·try simp only [bs] at h2
  first | contradiction | (exfalso; omega) | simp_all
 ·try simp only [bs] at h2
  refine Tr.skip (Tr.thenN (Tr.seq (Tr.region ?_)))
  refine Tr.q (QS.assign rfl) rfl ?_
  refine Tr.nil (Tr.thenN (Tr.seq (Tr.block ?_)))
  refine Tr.ownNil 22 encU32 ?_
  refine Tr.loop (ι := Nat × St × List UInt32 × WL × Value × Value × Value) (fun ⟨k, t, tr, wl1, vo1, eff1, vt⟩ => Ran l inp s k t tr ∧ k ≤ (min n 65536).toNat ∧ mread wl1 = t.w ∧ wl1.length ≤ wl.length + 4 * k ∧ ∃ a n c, vo1 = .slice a n c) (fun _ => (Bg.lessB w (blks [cellE bc (cpuC s bM vi vo eff) 47, mapE bm u8V wl, rowE vo 22 encU32 s.out]) 0)) (fun ⟨k, t, tr, wl1, vo1, eff1, vt⟩ => [rowE vt 22 encU32 tr, cellE bc (cpuC t bM vi vo1 eff1) 47, mapE bm u8V wl1, rowE vo1 22 encU32 t.out, cellE b1 [.int .i64 0, .slice none 0 0, .int .i64 0] 50]) (fun ⟨k, t, tr, wl1, vo1, eff1, vt⟩ => [(6, vt)]) (fun ⟨k, t, tr, wl1, vo1, eff1, vt⟩ => (min n 65536).toNat - k) (0, s, [], wl, vo, eff, _) ⟨.nil, Nat.zero_le _, hwl, Nat.le_refl _, hvo⟩ (.cons (by first | rfl | exact lookI rfl (by omega) | exact lookI rfl (by simp) | exact lookB rfl (by simp)) Front.nil) (by repeat' constructor) rfl (fun i hi m hm => ?_)
  obtain ⟨k, t, tr, wl1, vo1, eff1, vt⟩ := i
  replace hi : Ran l inp s k t tr ∧ k ≤ (min n 65536).toNat ∧ mread wl1 = t.w ∧ wl1.length ≤ wl.length + 4 * k ∧ ∃ a n c, vo1 = .slice a n c := hi
  replace hm : m = (min n 65536).toNat - k := hm
  change Tr _ _ [rowE vt 22 encU32 tr, cellE bc (cpuC t bM vi vo1 eff1) 47, mapE bm u8V wl1, rowE vo1 22 encU32 t.out, cellE b1 [.int .i64 0, .slice none 0 0, .int .i64 0] 50] ([(6, vt)] ++ _) _
  obtain ⟨hR, hk, hwl1, hwn1, hvo1⟩ := hi
  have hrl := hR.len
  refine Tr.seq (Tr.seq (Tr.region ?_))
  refine Tr.q (QS.move rfl) rfl ?_
  refine Tr.q (QS.lenRow rfl (by repeat constructor) Try.underlying34) rfl ?_
  refine Tr.q (QS.move rfl) rfl ?_
  refine Tr.q (QS.min2 rfl rfl) rfl ?_
  refine Tr.q (QS.lss rfl rfl) rfl ?_
  refine Tr.q (QS.move rfl) rfl ?_
  apply Tr.andP
  ·exact (rfl : _ = (6, 17, 23))
  ·exact rfl
  ·intro hT3; have hT3' := hT3
   try simp only [bs] at hT3'
   refine Tr.gq rfl rfl hT3 (QS.move rfl) rfl ?_
   refine Tr.gq rfl rfl hT3 (QS.nilCheck rfl) rfl ?_
   refine Tr.gq rfl rfl hT3 (QS.fieldAddr (off := 17) (ft := 4) rfl Try.underlying47 rfl rfl Try.sizeOf4 (by decide)) rfl ?_
   refine Tr.gq rfl rfl hT3 (QS.loadV rfl (by repeat constructor) Try.isAgg4 (by rfl)) rfl ?_
   refine Tr.gq rfl rfl hT3 (QS.not rfl) rfl ?_
   refine Tr.q (QS.pickT rfl hT3 rfl) rfl ?_
   refine Tr.nil (Tr.thenN ?_)
   exact Tr.endX (Sub.cons rfl (Sub.dropN 6 (by kernel_rfl) rfl))
  ·intro hF3
   refine Tr.gskip rfl rfl hF3 rfl ?_
   refine Tr.gskip rfl rfl hF3 rfl ?_
   refine Tr.gskip rfl rfl hF3 rfl ?_
   refine Tr.gskip rfl rfl hF3 rfl ?_
   refine Tr.gskip rfl rfl hF3 rfl ?_
   refine Tr.q (QS.pickF rfl hF3 rfl) rfl ?_
   refine Tr.nil (Tr.thenN ?_)
   exact Tr.endX (Sub.cons rfl (Sub.dropN 6 (by kernel_rfl) rfl))
  refine Tr.q (QS.move rfl) rfl ?_
  apply Tr.andP
  ·exact (rfl : _ = (6, 24, 30))
  ·exact rfl
  ·intro hT4; have hT4' := hT4
   try simp only [bs] at hT4'
   refine Tr.gq rfl rfl hT4 (QS.move rfl) rfl ?_
   refine Tr.gq rfl rfl hT4 (QS.nilCheck rfl) rfl ?_
   refine Tr.gq rfl rfl hT4 (QS.fieldAddr (off := 18) (ft := 24) rfl Try.underlying47 rfl rfl Try.sizeOf24 (by decide)) rfl ?_
   refine Tr.gq rfl rfl hT4 (QS.loadV rfl (by repeat constructor) Try.isAgg24 (by rfl)) rfl ?_
   refine Tr.gq rfl rfl hT4 (QS.eql rfl rfl) rfl ?_
   refine Tr.q (QS.pickT rfl hT4 rfl) rfl ?_
   refine Tr.nil (Tr.thenN ?_)
   exact Tr.endX (Sub.cons rfl (Sub.dropN 6 (by kernel_rfl) rfl))
  ·intro hF4
   refine Tr.gskip rfl rfl hF4 rfl ?_
   refine Tr.gskip rfl rfl hF4 rfl ?_
   refine Tr.gskip rfl rfl hF4 rfl ?_
   refine Tr.gskip rfl rfl hF4 rfl ?_
   refine Tr.gskip rfl rfl hF4 rfl ?_
   refine Tr.q (QS.pickF rfl hF4 rfl) rfl ?_
   refine Tr.nil (Tr.thenN ?_)
   exact Tr.endX (Sub.cons rfl (Sub.dropN 6 (by kernel_rfl) rfl))
  refine Tr.nil (Tr.thenN ?_)
  refine Tr.cond rfl (fun h5 => ?_) (fun h5 => ?_)
  ·try simp only [bs] at h5
   refine Tr.skip (Tr.thenN (Tr.block (Tr.seq (Tr.region ?_))))
   refine Tr.q (QS.move rfl) rfl ?_
   refine Tr.q (QS.move rfl) rfl ?_
   refine Tr.q (QS.nilCheck rfl) rfl ?_
   refine Tr.q (QS.fieldAddr (off := 0) (ft := 42) rfl Try.underlying47 rfl rfl Try.sizeOf42 (by decide)) rfl ?_
   refine Tr.q (QS.fieldAddr (off := 8) (ft := 22) rfl Try.underlying42 rfl rfl Try.sizeOf22 (by decide)) rfl ?_
   refine Tr.q (QS.loadV rfl (by repeat constructor) Try.isAgg22 (by rfl)) rfl ?_
   refine Tr.lit1 (E := encU32) t.m.pc rfl rfl Try.underlying34 Try.sizeOf22 Try.zeroValue22 (by rfl) (by rfl) rfl (fun V6 => ?_)
   refine Tr.append1 rfl rfl (by repeat constructor) (by repeat constructor) Try.underlying34 HLF.info22 (by rfl) (by rfl) (by (try simp only [List.length_cons, List.length_nil, List.length_append, List.length_take]); omega) (by unfold maxLen; (try simp only [List.length_cons, List.length_nil, List.length_append, List.length_take]); omega) rfl (fun V44 => ?_)
   refine Tr.q (QS.assign rfl) rfl ?_
   refine Tr.nil (Tr.thenN (Tr.region ?_))
   refine Tr.q (QS.move rfl) rfl ?_
   refine Tr.callO (fun _ : WL × Value × Value => .int .i64 (stepS l inp t).2) [cellE bc (cpuC t bM vi vo1 eff1) 47, mapE bm u8V wl1, rowE vo1 22 encU32 t.out] (fun j => [cellE bc (cpuC (stepS l inp t).1 bM vi j.2.1 j.2.2) 47, mapE bm u8V j.1, rowE j.2.1 22 encU32 (stepS l inp t).1.out]) (ok := fun j => mread j.1 = (stepS l inp t).1.w ∧ j.1.length ≤ wl1.length + 4 ∧ ∃ a n c, j.2.1 = .slice a n c) (dd := fun _ => 0) rfl Try.call18 (by repeat' (first | exact Split.nil _ | exact Del.here _ | apply Split.cons | apply Del.there)) (fun w hw => Nat.le_refl _) (fun w hw => step_cpu t bc bM bm VR vi vo1 eff1 rs l wl1 inp w (hw.own (by repeat' (first | exact Split.nil _ | exact Del.here _ | apply Split.cons | apply Del.there))) (hC.mono (hw.lessB (Lo := [cellE bc (cpuC t bM vi vo1 eff1) 47, mapE bm u8V wl1, rowE vo1 22 encU32 t.out]) (by repeat' (first | exact Split.nil _ | exact Del.here _ | apply Split.cons | apply Del.there)))) hO hwl1 hvo1) rfl (fun j hj => ?_)
   refine Tr.nil (Tr.inN (Tr.thenN ?_))
   apply Tr.again (k + 1, (stepS l inp t).1, tr ++ [t.m.pc], j.1, j.2.1, j.2.2, V44)
   ·exact rfl
   ·exact (.cons (by first | rfl | exact lookI rfl (by omega) | exact lookI rfl (by simp) | exact lookB rfl (by simp)) Front.nil)
   ·exact SubX.dropN 21 (by kernel_rfl) rfl
   ·exact (by repeat' constructor)
   ·exact ⟨.snoc hR (by simp_all) (by simp_all), by omega, hj.1, by have := hj.2.1; show j.1.length ≤ _; omega, hj.2.2⟩
   ·exact (by show (min n 65536).toNat - (k + 1) < m; omega)
  ·try simp only [bs] at h5
   refine Tr.exit ?_
   refine Tr.thenE (Tr.thenE (Tr.inHit (Tr.thenN ?_)))
   have hol1 := hR.out_len hol
   have hfu := hR.full (n := (min n 65536).toNat) hk (by by_cases hq : k = (min n 65536).toNat; exact .inl hq; right; rintro ⟨q1, q2⟩; simp_all; omega)
   refine Tr.seqJ (ι := Option Addr × Nat × Nat) (fun ⟨pq, cq, bq⟩ => True) (fun _ => (Bg.lessB w (blks [cellE bc (cpuC s bM vi vo eff) 47, mapE bm u8V wl, rowE vo 22 encU32 s.out]) 0)) (fun ⟨pq, cq, bq⟩ => [cellE bq [.int .i64 t.err, .slice pq t.out.length cq, .int .i64 (tr.length : Nat)] 50, rowE (.slice pq t.out.length cq) 22 encU32 t.out, cellE bc (cpuC t bM vi vo1 eff1) 47, mapE bm u8V wl1, rowE vo1 22 encU32 t.out, rowE vt 22 encU32 tr, cellE b1 [.int .i64 0, .slice none 0 0, .int .i64 0] 50]) (fun ⟨pq, cq, bq⟩ => [(7, .pointer (some ⟨bq, 0, none⟩))]) ?_ (fun i hi => ?_)
   ·skip
    refine Tr.regionH ([cellE bc (cpuC t bM vi vo1 eff1) 47, mapE bm u8V wl1, rowE vo1 22 encU32 t.out, rowE vt 22 encU32 tr]) 14 rfl HLF.mixed ?_
    refine Tr.hT 0 rfl (by kernel_rfl) (panicThen panicBody) (QS.move rfl) ?_
    refine Tr.hT 1 rfl (by kernel_rfl) (panicThen panicBody) (QS.nilCheck rfl) ?_
    refine Tr.hT 2 rfl (by kernel_rfl) (panicThen panicBody) (QS.fieldAddr (off := 18) (ft := 24) rfl Try.underlying47 rfl rfl Try.sizeOf24 (by decide)) ?_
    refine Tr.hT 3 rfl (by kernel_rfl) (panicThen panicBody) (QS.loadV rfl (by repeat constructor) Try.isAgg24 (by rfl)) ?_
    refine Tr.hT 4 rfl (by kernel_rfl) (panicThen panicBody) (QS.move rfl) ?_
    refine Tr.hT 5 rfl (by kernel_rfl) (panicThen panicBody) (QS.nilCheck rfl) ?_
    refine Tr.hT 6 rfl (by kernel_rfl) (panicThen panicBody) (QS.fieldAddr (off := 16) (ft := 34) rfl Try.underlying47 rfl rfl Try.sizeOf34 (by decide)) ?_
    refine Tr.hT 7 rfl (by kernel_rfl) (panicThen panicBody) (QS.loadV rfl (by repeat constructor) Try.isAgg34 (by rfl)) ?_
    refine Tr.hT 9 rfl (by kernel_rfl) (panicThen panicBody) (QS.move rfl) ?_
    refine Tr.hAll [8, 10, 12] (by kernel_rfl) (by simp) (fun iq hq => ?_)
    rcases List.mem_cons.1 hq with rfl | hq
    ·skip
     refine Tr.hOp rfl ?_
     refine Tr.callRow rfl Try.call36 (fun w hw => clone_u32 t.out _ w (hw.row (by repeat constructor)) (by omega)) rfl (fun V45 => ?_)
     refine Tr.rowShape (V := V45) (by repeat constructor) (fun pq cq hpv => ?_)
     subst hpv
     refine Tr.hN ?_
     refine Tr.hAll [10, 12] (by kernel_rfl) (by simp) (fun iq hq => ?_)
     rcases List.mem_cons.1 hq with rfl | hq
     ·skip
      refine Tr.hOp rfl ?_
      refine Tr.q (QS.lenRow rfl (by repeat constructor) Try.underlying34) rfl ?_
      refine Tr.hN ?_
      refine Tr.hT 11 rfl (by kernel_rfl) (panicThen panicBody) (QS.build (vs := [(0, _), (1, _), (2, _)]) (cs := #[.int .i64 t.err, .slice pq t.out.length cq, .int .i64 (tr.length : Nat)]) rfl rfl (by kernel_rfl)) ?_
      refine Tr.hAll [12] (by kernel_rfl) (by simp) (fun iq hq => ?_)
      obtain rfl := List.mem_singleton.1 hq
      refine Tr.hOp rfl ?_
      refine Tr.alloc Try.zeroValue50 rfl rfl (fun b7 => ?_)
      refine Tr.hN ?_
      refine Tr.hAll [13] (by kernel_rfl) (by simp) (fun iq hq => ?_)
      obtain rfl := List.mem_singleton.1 hq
      refine Tr.hOp rfl ?_
      refine Tr.storeW rfl rfl Try.sizeOf50 (by repeat constructor) (by rfl) (by rfl) (by first | exact List.all_eq_true.1 rfl | exact Enc.one _ _ | (intro u hu; simp [Value.cells] at hu; simp_all [Value.oneCell'])) rfl ?_
      refine Tr.hN ?_
      refine Tr.hDone (by kernel_rfl) ?_
      refine Tr.thenN ?_
      apply Tr.joined (_, _, _)
      ·exact rfl
      ·exact (.cons (by first | rfl | exact lookI rfl (by omega) | exact lookI rfl (by simp) | exact lookB rfl (by simp)) Front.nil)
      ·exact SubX.dropN 13 (by kernel_rfl) rfl
      ·exact (by repeat' constructor)
      ·exact trivial
     obtain rfl := List.mem_singleton.1 hq
     refine Tr.hOp rfl ?_
     refine Tr.alloc Try.zeroValue50 rfl rfl (fun b8 => ?_)
     refine Tr.hN ?_
     refine Tr.hAll [10] (by kernel_rfl) (by simp) (fun iq hq => ?_)
     obtain rfl := List.mem_singleton.1 hq
     refine Tr.hOp rfl ?_
     refine Tr.q (QS.lenRow rfl (by repeat constructor) Try.underlying34) rfl ?_
     refine Tr.hN ?_
     refine Tr.hT 11 rfl (by kernel_rfl) (panicThen panicBody) (QS.build (vs := [(0, _), (1, _), (2, _)]) (cs := #[.int .i64 t.err, .slice pq t.out.length cq, .int .i64 (tr.length : Nat)]) rfl rfl (by kernel_rfl)) ?_
     refine Tr.hAll [13] (by kernel_rfl) (by simp) (fun iq hq => ?_)
     obtain rfl := List.mem_singleton.1 hq
     refine Tr.hOp rfl ?_
     refine Tr.storeW rfl rfl Try.sizeOf50 (by repeat constructor) (by rfl) (by rfl) (by first | exact List.all_eq_true.1 rfl | exact Enc.one _ _ | (intro u hu; simp [Value.cells] at hu; simp_all [Value.oneCell'])) rfl ?_
     refine Tr.hN ?_
     refine Tr.hDone (by kernel_rfl) ?_
     refine Tr.thenN ?_
     apply Tr.joined (_, _, _)
     ·exact rfl
     ·exact (.cons (by first | rfl | exact lookI rfl (by omega) | exact lookI rfl (by simp) | exact lookB rfl (by simp)) Front.nil)
     ·exact SubX.dropN 13 (by kernel_rfl) rfl
     ·exact (by repeat' constructor)
     ·exact trivial
    rcases List.mem_cons.1 hq with rfl | hq
    ·skip
     refine Tr.hOp rfl ?_
     refine Tr.q (QS.lenRow rfl (by repeat constructor) Try.underlying34) rfl ?_
     refine Tr.hN ?_
     refine Tr.hAll [8, 12] (by kernel_rfl) (by simp) (fun iq hq => ?_)
     rcases List.mem_cons.1 hq with rfl | hq
     ·skip
      refine Tr.hOp rfl ?_
      refine Tr.callRow rfl Try.call36 (fun w hw => clone_u32 t.out _ w (hw.row (by repeat constructor)) (by omega)) rfl (fun V45 => ?_)
      refine Tr.rowShape (V := V45) (by repeat constructor) (fun pq cq hpv => ?_)
      subst hpv
      refine Tr.hN ?_
      refine Tr.hT 11 rfl (by kernel_rfl) (panicThen panicBody) (QS.build (vs := [(0, _), (1, _), (2, _)]) (cs := #[.int .i64 t.err, .slice pq t.out.length cq, .int .i64 (tr.length : Nat)]) rfl rfl (by kernel_rfl)) ?_
      refine Tr.hAll [12] (by kernel_rfl) (by simp) (fun iq hq => ?_)
      obtain rfl := List.mem_singleton.1 hq
      refine Tr.hOp rfl ?_
      refine Tr.alloc Try.zeroValue50 rfl rfl (fun b9 => ?_)
      refine Tr.hN ?_
      refine Tr.hAll [13] (by kernel_rfl) (by simp) (fun iq hq => ?_)
      obtain rfl := List.mem_singleton.1 hq
      refine Tr.hOp rfl ?_
      refine Tr.storeW rfl rfl Try.sizeOf50 (by repeat constructor) (by rfl) (by rfl) (by first | exact List.all_eq_true.1 rfl | exact Enc.one _ _ | (intro u hu; simp [Value.cells] at hu; simp_all [Value.oneCell'])) rfl ?_
      refine Tr.hN ?_
      refine Tr.hDone (by kernel_rfl) ?_
      refine Tr.thenN ?_
      apply Tr.joined (_, _, _)
      ·exact rfl
      ·exact (.cons (by first | rfl | exact lookI rfl (by omega) | exact lookI rfl (by simp) | exact lookB rfl (by simp)) Front.nil)
      ·exact SubX.dropN 13 (by kernel_rfl) rfl
      ·exact (by repeat' constructor)
      ·exact trivial
     obtain rfl := List.mem_singleton.1 hq
     refine Tr.hOp rfl ?_
     refine Tr.alloc Try.zeroValue50 rfl rfl (fun b10 => ?_)
     refine Tr.hN ?_
     refine Tr.hAll [8] (by kernel_rfl) (by simp) (fun iq hq => ?_)
     obtain rfl := List.mem_singleton.1 hq
     refine Tr.hOp rfl ?_
     refine Tr.callRow rfl Try.call36 (fun w hw => clone_u32 t.out _ w (hw.row (by repeat constructor)) (by omega)) rfl (fun V45 => ?_)
     refine Tr.rowShape (V := V45) (by repeat constructor) (fun pq cq hpv => ?_)
     subst hpv
     refine Tr.hN ?_
     refine Tr.hT 11 rfl (by kernel_rfl) (panicThen panicBody) (QS.build (vs := [(0, _), (1, _), (2, _)]) (cs := #[.int .i64 t.err, .slice pq t.out.length cq, .int .i64 (tr.length : Nat)]) rfl rfl (by kernel_rfl)) ?_
     refine Tr.hAll [13] (by kernel_rfl) (by simp) (fun iq hq => ?_)
     obtain rfl := List.mem_singleton.1 hq
     refine Tr.hOp rfl ?_
     refine Tr.storeW rfl rfl Try.sizeOf50 (by repeat constructor) (by rfl) (by rfl) (by first | exact List.all_eq_true.1 rfl | exact Enc.one _ _ | (intro u hu; simp [Value.cells] at hu; simp_all [Value.oneCell'])) rfl ?_
     refine Tr.hN ?_
     refine Tr.hDone (by kernel_rfl) ?_
     refine Tr.thenN ?_
     apply Tr.joined (_, _, _)
     ·exact rfl
     ·exact (.cons (by first | rfl | exact lookI rfl (by omega) | exact lookI rfl (by simp) | exact lookB rfl (by simp)) Front.nil)
     ·exact SubX.dropN 13 (by kernel_rfl) rfl
     ·exact (by repeat' constructor)
     ·exact trivial
    obtain rfl := List.mem_singleton.1 hq
    refine Tr.hOp rfl ?_
    refine Tr.alloc Try.zeroValue50 rfl rfl (fun b11 => ?_)
    refine Tr.hN ?_
    refine Tr.hAll [8, 10] (by kernel_rfl) (by simp) (fun iq hq => ?_)
    rcases List.mem_cons.1 hq with rfl | hq
    ·skip
     refine Tr.hOp rfl ?_
     refine Tr.callRow rfl Try.call36 (fun w hw => clone_u32 t.out _ w (hw.row (by repeat constructor)) (by omega)) rfl (fun V45 => ?_)
     refine Tr.rowShape (V := V45) (by repeat constructor) (fun pq cq hpv => ?_)
     subst hpv
     refine Tr.hN ?_
     refine Tr.hAll [10] (by kernel_rfl) (by simp) (fun iq hq => ?_)
     obtain rfl := List.mem_singleton.1 hq
     refine Tr.hOp rfl ?_
     refine Tr.q (QS.lenRow rfl (by repeat constructor) Try.underlying34) rfl ?_
     refine Tr.hN ?_
     refine Tr.hT 11 rfl (by kernel_rfl) (panicThen panicBody) (QS.build (vs := [(0, _), (1, _), (2, _)]) (cs := #[.int .i64 t.err, .slice pq t.out.length cq, .int .i64 (tr.length : Nat)]) rfl rfl (by kernel_rfl)) ?_
     refine Tr.hAll [13] (by kernel_rfl) (by simp) (fun iq hq => ?_)
     obtain rfl := List.mem_singleton.1 hq
     refine Tr.hOp rfl ?_
     refine Tr.storeW rfl rfl Try.sizeOf50 (by repeat constructor) (by rfl) (by rfl) (by first | exact List.all_eq_true.1 rfl | exact Enc.one _ _ | (intro u hu; simp [Value.cells] at hu; simp_all [Value.oneCell'])) rfl ?_
     refine Tr.hN ?_
     refine Tr.hDone (by kernel_rfl) ?_
     refine Tr.thenN ?_
     apply Tr.joined (_, _, _)
     ·exact rfl
     ·exact (.cons (by first | rfl | exact lookI rfl (by omega) | exact lookI rfl (by simp) | exact lookB rfl (by simp)) Front.nil)
     ·exact SubX.dropN 13 (by kernel_rfl) rfl
     ·exact (by repeat' constructor)
     ·exact trivial
    obtain rfl := List.mem_singleton.1 hq
    refine Tr.hOp rfl ?_
    refine Tr.q (QS.lenRow rfl (by repeat constructor) Try.underlying34) rfl ?_
    refine Tr.hN ?_
    refine Tr.hAll [8] (by kernel_rfl) (by simp) (fun iq hq => ?_)
    obtain rfl := List.mem_singleton.1 hq
    refine Tr.hOp rfl ?_
    refine Tr.callRow rfl Try.call36 (fun w hw => clone_u32 t.out _ w (hw.row (by repeat constructor)) (by omega)) rfl (fun V45 => ?_)
    refine Tr.rowShape (V := V45) (by repeat constructor) (fun pq cq hpv => ?_)
    subst hpv
    refine Tr.hN ?_
    refine Tr.hT 11 rfl (by kernel_rfl) (panicThen panicBody) (QS.build (vs := [(0, _), (1, _), (2, _)]) (cs := #[.int .i64 t.err, .slice pq t.out.length cq, .int .i64 (tr.length : Nat)]) rfl rfl (by kernel_rfl)) ?_
    refine Tr.hAll [13] (by kernel_rfl) (by simp) (fun iq hq => ?_)
    obtain rfl := List.mem_singleton.1 hq
    refine Tr.hOp rfl ?_
    refine Tr.storeW rfl rfl Try.sizeOf50 (by repeat constructor) (by rfl) (by rfl) (by first | exact List.all_eq_true.1 rfl | exact Enc.one _ _ | (intro u hu; simp [Value.cells] at hu; simp_all [Value.oneCell'])) rfl ?_
    refine Tr.hN ?_
    refine Tr.hDone (by kernel_rfl) ?_
    refine Tr.thenN ?_
    apply Tr.joined (_, _, _)
    ·exact rfl
    ·exact (.cons (by first | rfl | exact lookI rfl (by omega) | exact lookI rfl (by simp) | exact lookB rfl (by simp)) Front.nil)
    ·exact SubX.dropN 13 (by kernel_rfl) rfl
    ·exact (by repeat' constructor)
    ·exact trivial
   ·obtain ⟨pq, cq, bq⟩ := i
    replace hi : True := hi
    change Tr _ _ [cellE bq [.int .i64 t.err, .slice pq t.out.length cq, .int .i64 (tr.length : Nat)] 50, rowE (.slice pq t.out.length cq) 22 encU32 t.out, cellE bc (cpuC t bM vi vo1 eff1) 47, mapE bm u8V wl1, rowE vo1 22 encU32 t.out, rowE vt 22 encU32 tr, cellE b1 [.int .i64 0, .slice none 0 0, .int .i64 0] 50] ([(7, .pointer (some ⟨bq, 0, none⟩))] ++ _) _
    refine Tr.seqJ (ι := Int) (fun er => er = errR t) (fun _ => (Bg.lessB w (blks [cellE bc (cpuC s bM vi vo eff) 47, mapE bm u8V wl, rowE vo 22 encU32 s.out]) 0)) (fun er => [cellE bq [.int .i64 er, .slice pq t.out.length cq, .int .i64 (tr.length : Nat)] 50, rowE (.slice pq t.out.length cq) 22 encU32 t.out, cellE bc (cpuC t bM vi vo1 eff1) 47, mapE bm u8V wl1, rowE vo1 22 encU32 t.out, rowE vt 22 encU32 tr, cellE b1 [.int .i64 0, .slice none 0 0, .int .i64 0] 50]) (fun er => []) ?_ (fun er hi => ?_)
    ·skip
     refine Tr.seq (Tr.region ?_)
     refine Tr.q (QS.move rfl) rfl ?_
     refine Tr.q (QS.nilCheck rfl) rfl ?_
     refine Tr.q (QS.fieldAddr (off := 18) (ft := 24) rfl Try.underlying47 rfl rfl Try.sizeOf24 (by decide)) rfl ?_
     refine Tr.q (QS.loadV rfl (by repeat constructor) Try.isAgg24 (by rfl)) rfl ?_
     refine Tr.q (QS.eql rfl rfl) rfl ?_
     refine Tr.q (QS.move rfl) rfl ?_
     apply Tr.andP
     ·exact (rfl : _ = (6, 58, 64))
     ·exact rfl
     ·intro hT12; have hT12' := hT12
      try simp only [bs] at hT12'
      refine Tr.gq rfl rfl hT12 (QS.move rfl) rfl ?_
      refine Tr.gq rfl rfl hT12 (QS.nilCheck rfl) rfl ?_
      refine Tr.gq rfl rfl hT12 (QS.fieldAddr (off := 17) (ft := 4) rfl Try.underlying47 rfl rfl Try.sizeOf4 (by decide)) rfl ?_
      refine Tr.gq rfl rfl hT12 (QS.loadV rfl (by repeat constructor) Try.isAgg4 (by rfl)) rfl ?_
      refine Tr.gq rfl rfl hT12 (QS.not rfl) rfl ?_
      refine Tr.q (QS.pickT rfl hT12 rfl) rfl ?_
      refine Tr.nil (Tr.thenN ?_)
      exact Tr.endX (Sub.cons rfl (Sub.dropN 6 (by kernel_rfl) rfl))
     ·intro hF12
      refine Tr.gskip rfl rfl hF12 rfl ?_
      refine Tr.gskip rfl rfl hF12 rfl ?_
      refine Tr.gskip rfl rfl hF12 rfl ?_
      refine Tr.gskip rfl rfl hF12 rfl ?_
      refine Tr.gskip rfl rfl hF12 rfl ?_
      refine Tr.q (QS.pickF rfl hF12 rfl) rfl ?_
      refine Tr.nil (Tr.thenN ?_)
      exact Tr.endX (Sub.cons rfl (Sub.dropN 6 (by kernel_rfl) rfl))
     refine Tr.nil (Tr.thenN ?_)
     refine Tr.cond rfl (fun h13 => ?_) (fun h13 => ?_)
     ·try simp only [bs] at h13
      refine Tr.region ?_
      refine Tr.q (QS.fieldAddr (off := 0) (ft := 24) rfl Try.underlying50 rfl rfl Try.sizeOf24 (by decide)) rfl ?_
      refine Tr.storeV (cs' := [_, _, _]) rfl rfl Try.sizeOf24 (by repeat constructor) rfl (by rfl) (by first | exact Nat.le_of_ble_eq_true rfl | simp) (by first | exact List.all_eq_true.1 rfl | (intro u hu; simp [Value.cells] at hu; simp_all [Value.oneCell'])) rfl ?_
      refine Tr.nil (Tr.thenN ?_)
      apply Tr.joined 15
      ·exact rfl
      ·exact Front.nil
      ·exact SubX.dropN 8 (by kernel_rfl) rfl
      ·exact (by repeat' constructor)
      ·exact (by show _ = _; unfold errR; clear hfu; rw [if_pos (by simp_all)])
     ·try simp only [bs] at h13
      refine Tr.skip (Tr.thenN ?_)
      apply Tr.joined t.err
      ·exact rfl
      ·exact Front.nil
      ·exact SubX.dropN 7 (by kernel_rfl) rfl
      ·exact (by repeat' constructor)
      ·exact (by show _ = _; unfold errR; clear hfu; rw [if_neg (fun q => by obtain ⟨q1, q2⟩ := q; simp_all)])
    ·skip
     replace hi : er = errR t := hi
     change Tr _ _ [cellE bq [.int .i64 er, .slice pq t.out.length cq, .int .i64 (tr.length : Nat)] 50, rowE (.slice pq t.out.length cq) 22 encU32 t.out, cellE bc (cpuC t bM vi vo1 eff1) 47, mapE bm u8V wl1, rowE vo1 22 encU32 t.out, rowE vt 22 encU32 tr, cellE b1 [.int .i64 0, .slice none 0 0, .int .i64 0] 50] ([] ++ _) _
     refine Tr.seq ?_
     refine Tr.regionH ([cellE bq [.int .i64 er, .slice pq t.out.length cq, .int .i64 (tr.length : Nat)] 50]) 4 rfl HLF.mixed ?_
     refine Tr.hT 0 rfl (by kernel_rfl) (panicThen panicBody) (QS.move rfl) ?_
     refine Tr.hT 1 rfl (by kernel_rfl) (panicThen panicBody) (QS.lW rfl Try.isAgg50 Try.sizeOf50) ?_
     refine Tr.hT 2 rfl (by kernel_rfl) (panicThen panicBody) (QS.assign rfl) ?_
     refine Tr.hAll [3] (by kernel_rfl) (by simp) (fun iq hq => ?_)
     obtain rfl := List.mem_singleton.1 hq
     refine Tr.hOp rfl ?_
     refine Tr.storeW rfl rfl Try.sizeOf50 (by repeat constructor) (by rfl) (by rfl) (by first | exact List.all_eq_true.1 rfl | exact Enc.one _ _ | (intro u hu; simp [Value.cells] at hu; simp_all [Value.oneCell'])) rfl ?_
     refine Tr.hN ?_
     refine Tr.hDone (by kernel_rfl) ?_
     refine Tr.thenN (Tr.ret ?_)
     refine Tr.retTC Try.results16 rfl rfl (by repeat constructor) Try.isAgg50 Try.sizeOf50 (by rfl) (fun w' hw => ?_)
     obtain ⟨e1, e2⟩ := hfu
     have hrl2 := hR.len
     subst hi
     exact ⟨(wl1, vo1, eff1, vt, .slice pq t.out.length cq), by rw [← e1, ← e2]; try rfl, by rw [← e1, ← e2]; exact hw.upd (Bg.le.refl _) (by repeat' constructor), by rw [← e1, ← e2]; exact ⟨hwl1, by show wl1.length ≤ _; omega, hvo1⟩⟩
set_option maxRecDepth 100000 in
set_option maxHeartbeats 8000000 in
theorem run_cpu (s : St) (bc bM bm : Nat) (VR vi vo eff : Value) (rs : List RegV) (l : List SecV) (wl : WL) (inp : List UInt32) (n : Int) (w : World) (ho : OwnAt w [cellE bc (cpuC s bM vi vo eff) 47, mapE bm u8V wl, rowE vo 22 encU32 s.out]) (hC : CpuAt (Bg.lessB w (blks [cellE bc (cpuC s bM vi vo eff) 47, mapE bm u8V wl, rowE vo 22 encU32 s.out]) 0).blk bM bm VR vi rs inp) (hO : MemOK l rs) (hwl : mread wl = s.w) (hvo : ∃ a n c, vo = .slice a n c) (hol : s.out.length ≤ 4096) :
  Calls Try.prog 17 #[.pointer (some ⟨bc, 0, none⟩), .int .i64 n] w (fun e w' => ∃ j : WL × Value × Value × Value × Value, e = .returned (.agg #[.int .i64 (errR (runS l inp (min n 65536).toNat s)), j.2.2.2.2, .int .i64 ((traceS l inp (min n 65536).toNat s).length : Nat)]) ∧ Upd 0 w w' (blks [cellE bc (cpuC s bM vi vo eff) 47, mapE bm u8V wl, rowE vo 22 encU32 s.out]) [cellE bc (cpuC (runS l inp (min n 65536).toNat s) bM vi j.2.1 j.2.2.1) 47, mapE bm u8V j.1, rowE j.2.1 22 encU32 (runS l inp (min n 65536).toNat s).out, rowE j.2.2.2.2 22 encU32 (runS l inp (min n 65536).toNat s).out] ∧ (mread j.1 = (runS l inp (min n 65536).toNat s).w ∧ j.1.length ≤ wl.length + 4 * (traceS l inp (min n 65536).toNat s).length ∧ ∃ a n c, j.2.1 = .slice a n c)) := by
 refine enterB (L := [cellE bc (cpuC s bM vi vo eff) 47, mapE bm u8V wl, rowE vo 22 encU32 s.out]) ho rfl (Nat.zero_le _) Try.func17 rfl Try.ntmps17 rfl ?_
 refine Tr.seq (Tr.region ?_)
 refine Tr.alloc Try.zeroValue50 rfl rfl (fun b1 => ?_)
 refine Tr.nil (Tr.thenN (Tr.seq (Tr.region ?_)))
 refine Tr.q (QS.move rfl) rfl ?_
 refine Tr.q (QS.move rfl) rfl ?_
 refine Tr.callO (fun j : WL × Value × Value × Value × Value => .tuple #[j.2.2.2.1, .agg #[.int .i64 (errR (runS l inp (min n 65536).toNat s)), j.2.2.2.2, .int .i64 ((traceS l inp (min n 65536).toNat s).length : Nat)]]) [cellE bc (cpuC s bM vi vo eff) 47, mapE bm u8V wl, rowE vo 22 encU32 s.out] (fun j => [cellE bc (cpuC (runS l inp (min n 65536).toNat s) bM vi j.2.1 j.2.2.1) 47, mapE bm u8V j.1, rowE j.2.1 22 encU32 (runS l inp (min n 65536).toNat s).out, rowE j.2.2.2.1 22 encU32 (traceS l inp (min n 65536).toNat s), rowE j.2.2.2.2 22 encU32 (runS l inp (min n 65536).toNat s).out]) (ok := fun j => mread j.1 = (runS l inp (min n 65536).toNat s).w ∧ j.1.length ≤ wl.length + 4 * (traceS l inp (min n 65536).toNat s).length ∧ ∃ a n c, j.2.1 = .slice a n c) (dd := fun _ => 0) rfl Try.call16 (by repeat' (first | exact Split.nil _ | exact Del.here _ | apply Split.cons | apply Del.there)) (fun w hw => Nat.le_refl _) (fun w hw => trace_cpu s bc bM bm VR vi vo eff rs l wl inp n w (hw.own (by repeat' (first | exact Split.nil _ | exact Del.here _ | apply Split.cons | apply Del.there))) (hC.mono (hw.lessB (Lo := [cellE bc (cpuC s bM vi vo eff) 47, mapE bm u8V wl, rowE vo 22 encU32 s.out]) (by repeat' (first | exact Split.nil _ | exact Del.here _ | apply Split.cons | apply Del.there)))) hO hwl hvo hol) rfl (fun j hj => ?_)
 obtain ⟨wl1, vo1, eff1, vt, vq⟩ := j
 change Tr _ _ (cellE bc (cpuC (runS l inp (min n 65536).toNat s) bM vi vo1 eff1) 47 :: mapE bm u8V wl1 :: rowE vo1 22 encU32 (runS l inp (min n 65536).toNat s).out :: rowE vt 22 encU32 (traceS l inp (min n 65536).toNat s) :: rowE vq 22 encU32 (runS l inp (min n 65536).toNat s).out :: _) _ _
 refine Tr.rowShape (V := vq) (by repeat constructor) (fun pq cq hpv => ?_)
 subst hpv
 refine Tr.q (QS.move rfl) rfl ?_
 refine Tr.q (QS.extract rfl rfl) rfl ?_
 refine Tr.q (QS.extract rfl rfl) rfl ?_
 refine Tr.alloc Try.zeroValue50 rfl rfl (fun b2 => ?_)
 refine Tr.q (QS.assign rfl) rfl ?_
 refine Tr.storeW rfl rfl Try.sizeOf50 (by repeat constructor) (by rfl) (by rfl) (by first | exact List.all_eq_true.1 rfl | exact Enc.one _ _ | (intro u hu; simp [Value.cells] at hu; simp_all [Value.oneCell'])) rfl ?_
 refine Tr.nil (Tr.thenN (Tr.seq (Tr.region ?_)))
 refine Tr.q (QS.lW rfl Try.isAgg50 Try.sizeOf50) rfl ?_
 refine Tr.storeW rfl rfl Try.sizeOf50 (by repeat constructor) (by rfl) (by rfl) (by first | exact List.all_eq_true.1 rfl | exact Enc.one _ _ | (intro u hu; simp [Value.cells] at hu; simp_all [Value.oneCell'])) rfl ?_
 refine Tr.nil (Tr.thenN (Tr.ret ?_))
 refine Tr.retC1 Try.results17 rfl (by repeat constructor) Try.isAgg50 Try.sizeOf50 (by rfl) (fun w' hw => ?_)
 exact ⟨(wl1, vo1, eff1, vt, .slice pq (runS l inp (min n 65536).toNat s).out.length cq), rfl, hw.upd (Bg.le.refl _) (by repeat' constructor), hj⟩
set_option maxRecDepth 100000 in
set_option maxHeartbeats 2000000 in
theorem state_cpu (s : St) (bc bM : Nat) (vi vo eff : Value) (w : World) (hc : CellsIn (hp w) bc (cpuC s bM vi vo eff)) :
  Calls Try.prog 13 #[.pointer (some ⟨bc, 0, none⟩)] w (fun e w' => e = .returned (.agg (encMach.enc s.m).toArray) ∧ Ext w w') := by
 have hc' : CellsIn (Bg.of w).blk bc (cpuC s bM vi vo eff) := hc
 have hcp : CellsIn (Bg.of w).blk bc (encMach.enc s.m) := hc'.prefix_
 refine enter Try.func13 rfl Try.ntmps13 rfl ?_
 refine Tr.seq (Tr.region ?_)
 refine Tr.alloc Try.zeroValue42 rfl rfl (fun b1 => ?_)
 refine Tr.nil (Tr.thenN (Tr.seq (Tr.seq (Tr.region ?_))))
 refine Tr.q (QS.move rfl) rfl ?_
 refine Tr.q (QS.call rfl Try.call37 (fun w hw => cmade_any s bc bM vi vo eff w (hc'.mono hw.bg))) rfl ?_
 refine Tr.q (QS.not rfl) rfl ?_
 refine Tr.nil (Tr.thenN ?_)
 refine Tr.cond rfl (fun h2 => ?_) (fun h2 => ?_)
 ·try simp only [bs] at h2
  first | contradiction | (exfalso; omega) | simp_all
 ·try simp only [bs] at h2
  refine Tr.skip (Tr.thenN (Tr.seq (Tr.region ?_)))
  refine Tr.q (QS.move rfl) rfl ?_
  refine Tr.q (QS.nilCheck rfl) rfl ?_
  refine Tr.q (QS.fieldAddr (off := 0) (ft := 42) rfl Try.underlying47 rfl rfl Try.sizeOf42 (by decide)) rfl ?_
  refine Tr.q (QS.loadCA rfl hcp Try.isAgg42 Try.sizeOf42 rfl) rfl ?_
  refine Tr.storeW rfl rfl Try.sizeOf42 (by repeat constructor) (by rfl) (by rfl) (by first | exact List.all_eq_true.1 rfl | exact Enc.one _ _ | exact Enc.one encMach _) rfl ?_
  refine Tr.nil (Tr.thenN (Tr.ret ?_))
  refine Tr.retC1 Try.results13 rfl (by repeat constructor) Try.isAgg42 Try.sizeOf42 (by rfl) (fun w' hw => ?_)
  exact ⟨rfl, hw.below (Bg.le.refl _)⟩
set_option maxRecDepth 100000 in
set_option maxHeartbeats 2000000 in
theorem memory_cpu (s : St) (bc bM : Nat) (vi vo eff : Value) (bm : Nat) (VR : Value) (rs : List RegV) (wl : WL) (w : World) (hc : CellsIn (hp w) bc (cpuC s bM vi vo eff)) (hM : MemAt (hp w) bM bm VR rs) (hW : MapIn (hp w) bm u8V wl) (hr : rs.length ≤ 100) :
  Calls Try.prog 11 #[.pointer (some ⟨bc, 0, none⟩)] w (fun e w' => ∃ i : Nat × Nat × Value, e = .returned (.pointer (some ⟨i.1, 0, none⟩)) ∧ Ext w w' ∧ NewEnts w w' [cellE i.1 [i.2.2, .map (some i.2.1)] 33, mapE i.2.1 u8V wl, rowE i.2.2 86 encReg rs] ∧ True) := by
 have hc' : CellsIn (Bg.of w).blk bc (cpuC s bM vi vo eff) := hc
 have hM' : MemAt (Bg.of w).blk bM bm VR rs := hM
 have hW' : MapIn (Bg.of w).blk bm u8V wl := hW
 refine enter Try.func11 rfl Try.ntmps11 rfl ?_
 refine Tr.seq (Tr.region ?_)
 refine Tr.q (QS.assign rfl) rfl ?_
 refine Tr.nil (Tr.thenN (Tr.seq (Tr.seq (Tr.region ?_))))
 refine Tr.q (QS.move rfl) rfl ?_
 refine Tr.q (QS.call rfl Try.call37 (fun w hw => cmade_any s bc bM vi vo eff w (hc'.mono hw.bg))) rfl ?_
 refine Tr.q (QS.not rfl) rfl ?_
 refine Tr.nil (Tr.thenN ?_)
 refine Tr.cond rfl (fun h1 => ?_) (fun h1 => ?_)
 ·try simp only [bs] at h1
  first | contradiction | (exfalso; omega) | simp_all
 ·try simp only [bs] at h1
  refine Tr.skip (Tr.thenN (Tr.seq (Tr.region ?_)))
  refine Tr.q (QS.move rfl) rfl ?_
  refine Tr.q (QS.nilCheck rfl) rfl ?_
  refine Tr.q (QS.fieldAddr (off := 13) (ft := 23) rfl Try.underlying47 rfl rfl Try.sizeOf23 (by decide)) rfl ?_
  refine Tr.q (QS.loadCF rfl (by assumption) Try.isAgg23 (by rfl)) rfl ?_
  refine Tr.callEnts (fun i : Nat × Nat × Value => .pointer (some ⟨i.1, 0, none⟩)) (fun i => [cellE i.1 [i.2.2, .map (some i.2.1)] 33, mapE i.2.1 u8V wl, rowE i.2.2 86 encReg rs]) (ok := fun _ => True) rfl Try.call34 (fun w hw => mclo_any bM bm VR rs wl w (hM'.mono hw.bg) (hW'.mono hw.bg) hr) rfl (fun i _ => ?_)
  refine Tr.q (QS.assign rfl) rfl ?_
  refine Tr.nil (Tr.thenN (Tr.ret ?_))
  refine Tr.ret1 Try.results11 rfl (fun w' hw => ?_)
  exact ⟨i, rfl, hw.below (Bg.le.refl _), hw.ents (Bg.le.refl _) (by repeat' constructor), trivial⟩
set_option maxRecDepth 100000 in
set_option maxHeartbeats 2000000 in
theorem halted_cpu (s : St) (bc bM : Nat) (vi vo eff : Value) (w : World) (hc : CellsIn (hp w) bc (cpuC s bM vi vo eff)) :
  Calls Try.prog 20 #[.pointer (some ⟨bc, 0, none⟩)] w (fun e w' => e = .returned (.bool s.done) ∧ Ext w w') := by
 have hc' : CellsIn (Bg.of w).blk bc (cpuC s bM vi vo eff) := hc
 refine enter Try.func20 rfl Try.ntmps20 rfl ?_
 refine Tr.seq (Tr.region ?_)
 refine Tr.q (QS.assign rfl) rfl ?_
 refine Tr.nil (Tr.thenN (Tr.seq (Tr.region ?_)))
 refine Tr.q (QS.move rfl) rfl ?_
 refine Tr.q (QS.call rfl Try.call37 (fun w hw => cmade_any s bc bM vi vo eff w (hc'.mono hw.bg))) rfl ?_
 refine Tr.q (QS.move rfl) rfl ?_
 apply Tr.andP
 ·exact (rfl : _ = (5, 5, 10))
 ·exact rfl
 ·intro hT1; have hT1' := hT1
  try simp only [bs] at hT1'
  refine Tr.gq rfl rfl hT1 (QS.move rfl) rfl ?_
  refine Tr.gq rfl rfl hT1 (QS.nilCheck rfl) rfl ?_
  refine Tr.gq rfl rfl hT1 (QS.fieldAddr (off := 17) (ft := 4) rfl Try.underlying47 rfl rfl Try.sizeOf4 (by decide)) rfl ?_
  refine Tr.gq rfl rfl hT1 (QS.loadCF rfl (by assumption) Try.isAgg4 (by rfl)) rfl ?_
  refine Tr.q (QS.pickT rfl hT1 rfl) rfl ?_
  refine Tr.nil (Tr.thenN ?_)
  exact Tr.endX (Sub.cons rfl (Sub.dropN 5 (by kernel_rfl) rfl))
 ·intro hF1
  refine Tr.gskip rfl rfl hF1 rfl ?_
  refine Tr.gskip rfl rfl hF1 rfl ?_
  refine Tr.gskip rfl rfl hF1 rfl ?_
  refine Tr.gskip rfl rfl hF1 rfl ?_
  refine Tr.q (QS.pickF rfl hF1 rfl) rfl ?_
  refine Tr.nil (Tr.thenN ?_)
  exact Tr.endX (Sub.cons rfl (Sub.dropN 5 (by kernel_rfl) rfl))
 refine Tr.q (QS.assign rfl) rfl ?_
 refine Tr.nil (Tr.thenN (Tr.ret ?_))
 refine Tr.ret1 Try.results20 rfl (fun w' hw => ?_)
 exact ⟨by simp, hw.below (Bg.le.refl _)⟩
set_option maxRecDepth 100000 in
set_option maxHeartbeats 2000000 in
theorem start_cpu (p : UInt32) (w : World) :
  Calls Try.prog 15 #[.int .u32 p.toNat] w (fun e w' => e = .returned (.agg (encMach.enc (startM p)).toArray) ∧ Ext w w') := by
 refine enter Try.func15 rfl Try.ntmps15 rfl ?_
 refine Tr.seq (Tr.region ?_)
 refine Tr.alloc Try.zeroValue42 rfl rfl (fun b1 => ?_)
 refine Tr.nil (Tr.thenN (Tr.seq (Tr.region ?_)))
 refine Tr.alloc Try.zeroValue42 rfl rfl (fun b2 => ?_)
 refine Tr.nil (Tr.thenN (Tr.seq (Tr.region ?_)))
 refine Tr.q (QS.fieldAddr (off := 0) (ft := 38) rfl Try.underlying42 rfl rfl Try.sizeOf38 (by decide)) rfl ?_
 refine Tr.q (QS.idxArr rfl rfl Try.underlying38 Try.sizeOf22 (by omega)) rfl ?_
 refine Tr.storeV (cs' := [_, _, _, _, _, _, _, _, _, _, _, _, _]) rfl rfl Try.sizeOf22 (by repeat constructor) rfl (by rfl) (by first | exact Nat.le_of_ble_eq_true rfl | simp) (by first | exact List.all_eq_true.1 rfl | (intro u hu; simp [Value.cells] at hu; simp_all [Value.oneCell'])) rfl ?_
 refine Tr.nil (Tr.thenN (Tr.seq (Tr.region ?_)))
 refine Tr.q (QS.move rfl) rfl ?_
 refine Tr.q (QS.fieldAddr (off := 8) (ft := 22) rfl Try.underlying42 rfl rfl Try.sizeOf22 (by decide)) rfl ?_
 refine Tr.storeV (cs' := [_, _, _, _, _, _, _, _, _, _, _, _, _]) rfl rfl Try.sizeOf22 (by repeat constructor) rfl (by rfl) (by first | exact Nat.le_of_ble_eq_true rfl | simp) (by first | exact List.all_eq_true.1 rfl | (intro u hu; simp [Value.cells] at hu; simp_all [Value.oneCell'])) rfl ?_
 refine Tr.nil (Tr.thenN (Tr.seq (Tr.region ?_)))
 refine Tr.q (QS.lW rfl Try.isAgg42 Try.sizeOf42) rfl ?_
 refine Tr.storeW rfl rfl Try.sizeOf42 (by repeat constructor) (by rfl) (by rfl) (by first | exact List.all_eq_true.1 rfl | exact Enc.one _ _ | exact Enc.one encMach _) rfl ?_
 refine Tr.nil (Tr.thenN (Tr.ret ?_))
 refine Tr.retC1 Try.results15 rfl (by repeat constructor) Try.isAgg42 Try.sizeOf42 (by rfl) (fun w' hw => ?_)
 exact ⟨rfl, hw.below (Bg.le.refl _)⟩
end Go.Proofs.Ytpeaodkfbjenpaa
namespace Go.HL
open Go Go.RowKit
def exC (b : List UInt8) (dp : Option Addr) (dc : Nat) : SecV := ⟨⟨#[99]⟩, 4096, b, dp, dc, false, true⟩
def exB1 : List UInt8 := [48, 0, 5, 161, 0, 1]
theorem ex_chk1 (dp : Option Addr) (dc : Nat) : checkS [exC exB1 dp dc] = 0 := by kernel_rfl
theorem ex_chk2 (dp : Option Addr) (dc : Nat) : checkS [exC [2] dp dc] = 0 := by kernel_rfl
theorem ex_run1 (dp : Option Addr) (dc : Nat) : (let t := runS [exC exB1 dp dc] [] 2 (newS 4096); decide (t.err = 0) && !t.done && decide (t.out = [5]) && decide ((traceS [exC exB1 dp dc] [] 2 (newS 4096)).length = 2)) = true := by kernel_rfl
theorem ex_run2 (dp : Option Addr) (dc : Nat) : (let t := runS [exC exB1 dp dc] [] 1 (runS [exC exB1 dp dc] [] 2 (newS 4096)); decide (t.err = 0) && t.done && decide ((traceS [exC exB1 dp dc] [] 1 (runS [exC exB1 dp dc] [] 2 (newS 4096))).length = 1)) = true := by kernel_rfl
theorem ex_run3 (dp : Option Addr) (dc : Nat) : (let t := runS [exC [2] dp dc] [] 9 (newS 4096); decide (t.err = 0) && t.done && decide (t.out = []) && decide (t.m.pc = 4294967295) && decide (t.m.r7 = 983040) && decide ((traceS [exC [2] dp dc] [] 9 (newS 4096)).length = 1)) = true := by kernel_rfl
theorem min2 : (min (2 : Int) 65536).toNat = 2 := by decide
theorem min1 : (min (1 : Int) 65536).toNat = 1 := by decide
theorem min9 : (min (9 : Int) 65536).toNat = 9 := by decide
theorem errR_done {t : St} (h : t.done = true) : errR t = t.err := by
  unfold errR
  rw [if_neg (fun q => by rw [h] at q; cases q.2)]
theorem errR_go {t : St} (h : t.err = 0) (h2 : t.done = false) : errR t = 15 := by
  unfold errR
  rw [if_pos ⟨h, h2⟩]
theorem ex_c1 {dp : Option Addr} {dc n : Nat} {t : St} (h : t = runS [exC exB1 dp dc] [] (min (2 : Int) 65536).toNat (newS 4096)) (hn : n = (traceS [exC exB1 dp dc] [] (min (2 : Int) 65536).toNat (newS 4096)).length) : errR t = 15 ∧ t.out = [5] ∧ n = 2 := by
  have q := ex_run1 dp dc
  rw [min2] at h hn
  simp only [Bool.and_eq_true, decide_eq_true_eq, Bool.not_eq_true'] at q
  rw [← h, ← hn] at q
  exact ⟨errR_go q.1.1.1 q.1.1.2, q.1.2, q.2⟩
theorem ex_c2 {dp : Option Addr} {dc n : Nat} {t t1 : St} (h1 : t1 = runS [exC exB1 dp dc] [] (min (2 : Int) 65536).toNat (newS 4096)) (h : t = runS [exC exB1 dp dc] [] (min (1 : Int) 65536).toNat t1) (hn : n = (traceS [exC exB1 dp dc] [] (min (1 : Int) 65536).toNat t1).length) : errR t = 0 ∧ t.done = true ∧ n = 1 := by
  have q := ex_run2 dp dc
  rw [min2] at h1
  rw [min1] at h hn
  simp only [Bool.and_eq_true, decide_eq_true_eq] at q
  rw [← h1, ← h, ← hn] at q
  exact ⟨(errR_done q.1.2).trans q.1.1, q.1.2, q.2⟩
theorem ex_d {dp : Option Addr} {dc n : Nat} {t : St} (h : t = runS [exC [2] dp dc] [] (min (9 : Int) 65536).toNat (newS 4096)) (hn : n = (traceS [exC [2] dp dc] [] (min (9 : Int) 65536).toNat (newS 4096)).length) : errR t = 0 ∧ n = 1 ∧ t.m.pc = 4294967295 ∧ t.m.r7 = 983040 := by
  have q := ex_run3 dp dc
  rw [min9] at h hn
  simp only [Bool.and_eq_true, decide_eq_true_eq] at q
  rw [← h, ← hn] at q
  exact ⟨(errR_done q.1.1.1.1.2).trans q.1.1.1.1.1, q.2, q.1.1.2, q.1.2⟩
theorem del_mid {e : Ent} (B L : List Ent) : ∀ A : List Ent, Del e (A ++ (e :: B) ++ L) (A ++ B ++ L)
  | [] => .here _
  | a :: A => .there _ (del_mid B L A)
theorem split_mid (L : List Ent) (A : List Ent) : ∀ B : List Ent, Split (A ++ B ++ L) B (A ++ L)
  | [] => by rw [List.append_nil]; exact .nil _
  | b :: B => .cons (del_mid B L A) (split_mid L A B)
section
variable {P : Program} {ops : Array Oper} {Q : Exit → Act → World → Prop} {N : Nat} {F : Bg} {L : List Ent} {M : Fr} {ty : TypeId} {pos : String} {after : Array Edge} {rest : List Oper} {d : Nat}
/-- A call that hands back new blocks; those of B are only read from then on. -/
theorem Tr.callMix0 {ι : Type} (φ : ι → Value) (A B : ι → List Ent) {ok : ι → Prop} {f : FuncId} {xs : List Operand} {vs : List Value} {ts : Array TypeId} (h0 : F.dr = 0) (hx : opvs M xs = some vs)
    (he : ∀ (args : Array Value) (w : World), (callFunc f args).run P w = .ok (.enter f args) w)
    (hc : ∀ w, HpOK F L w → Calls P f vs.toArray w fun e w' => ∃ i, e = .returned (φ i) ∧ Below w.heap.size w w' ∧ NewEnts w w' (A i ++ B i) ∧ ok i) (hd : Nat.ble (d + 1) N = true)
    (K : ∀ i F', ok i → F.le F' → (∀ e ∈ B i, e.ok (e.blk.bind F'.blk)) → Tr N F' (A i ++ L) ((d, φ i) :: M) (wpList P ops Q rest)) :
    Tr N F L M (wpList P ops Q (⟨some d, .call { callee := .value (.func f), args := xs.toArray, argTypes := ts }, ty, pos, after, none⟩ :: rest)) := by
  refine Tr.callEnts0 φ (fun i => A i ++ B i) (ok := ok) h0 hx he hc hd (fun i hi => ?_)
  exact Tr.frozenL (split_mid L (A i) (B i)) (fun F' hF' hk => K i F' hi hF' hk)
end
theorem memAt_own {F : Bg} {L : List Ent} {w : World} {bM bm : Nat} {VR : Value} {T T2 U : TypeId} {rs : List RegV} (h : HpOK F L w) (h1 : cellE bM [VR, .map (some bm)] T ∈ L) (h2 : rowE VR T2 encReg rs ∈ L) (h3 : ∀ e ∈ regEnts U rs, e ∈ L) : MemAt (hp w) bM bm VR rs :=
  ⟨cellE.cellsIn (h.ent _ h1) (Ext.refl _), h.row h2, fun r hr => rowE.sl (h.ent _ (h3 _ (regEnts_mem hr)))⟩
/-- What a processor has to be read, once its parts are only read. -/
theorem cpuAt_of {h : Hp} {bM bm : Nat} {VR vi : Value} {T T2 U U8 : TypeId} {rs : List RegV} {inp : List UInt32} (k : ∀ e ∈ (cellE bM [VR, .map (some bm)] T :: rowE VR T2 encReg rs :: rowE vi U encU32 inp :: regEnts U8 rs), e.ok (e.blk.bind h)) : CpuAt h bM bm VR vi rs inp :=
  ⟨memAt_of k (.head _) (.tail _ (.head _)) (fun e he => .tail _ (.tail _ (.tail _ he))), RowOK.sl (k _ (.tail _ (.tail _ (.head _))))⟩
end Go.HL
namespace Go.Proofs.Ytpeaodkfbjenpaa
open Go Go.HL Go.RowKit
theorem mnew_ok (l : List SecV) (V : Value) (w : World) (hV : Sl (hp w) encSec l V) (hB : SecB l) (hN : ∀ s ∈ l, s.name.size ≤ 140737488351232) (hD : DataIn (hp w) l) (h : checkS l = 0) : Calls Try.prog 9 #[V] w (fun e w' => ∃ j : Nat × Nat × Value × List RegV, e = .returned (.tuple #[.pointer (some ⟨j.1, 0, none⟩), .int .i64 0]) ∧ Ext w w' ∧ NewEnts w w' (cellE j.1 [j.2.2.1, .map (some j.2.1)] 33 :: mapE j.2.1 u8V [] :: rowE j.2.2.1 86 encReg j.2.2.2 :: regEnts 5 j.2.2.2) ∧ MemOK l j.2.2.2) := by
 refine (mnew_any l V w hV hB hN hD).mono fun e w' ⟨i, h1, h2, h3, h4⟩ => ?_
 rcases i with _ | j
 ·exact absurd h h4
 ·rw [h] at h1
  exact ⟨j, h1, h2, h3, h4⟩
set_option maxRecDepth 100000 in
set_option maxHeartbeats 8000000 in
theorem newc_any (bM0 bm0 : Nat) (VR0 vi0 : Value) (rs : List RegV) (l : List SecV) (wl : WL) (p : UInt32) (inp : List UInt32) (w : World) (hM : MemAt (hp w) bM0 bm0 VR0 rs) (hW : MapIn (hp w) bm0 u8V wl) (hO : MemOK l rs) (hwl : mread wl = fun _ => none) (hin : Sl (hp w) encU32 inp vi0) (hil : inp.length ≤ 4096) :
  Calls Try.prog 10 #[.pointer (some ⟨bM0, 0, none⟩), .int .u32 p.toNat, vi0] w (fun e w' => ∃ j : Nat × Nat × Nat × Value × Value × WL, e = .returned (.tuple #[.pointer (some ⟨j.1, 0, none⟩), .int .i64 0]) ∧ Below w.heap.size w w' ∧ NewEnts w w' [cellE j.1 (cpuC (newS p) j.2.1 j.2.2.2.2.1 (.slice none 0 0) .nilFunc) 47, mapE j.2.2.1 u8V j.2.2.2.2.2, rowE (.slice none 0 0) 22 encU32 [], cellE j.2.1 [j.2.2.2.1, .map (some j.2.2.1)] 33, rowE j.2.2.2.1 86 encReg rs, rowE j.2.2.2.2.1 22 encU32 inp] ∧ (mread j.2.2.2.2.2 = (newS p).w ∧ j.2.2.2.2.2.length ≤ wl.length + 4)) := by
 have hM' : MemAt (Bg.of0 w).blk bM0 bm0 VR0 rs := hM
 have hW' : MapIn (Bg.of0 w).blk bm0 u8V wl := hW
 have hin' : Sl (Bg.of0 w).blk encU32 inp vi0 := hin
 have hrl := hO.bounds.1
 refine enter0 Try.func10 rfl Try.ntmps10 rfl ?_
 refine Tr.seq (Tr.region ?_)
 refine Tr.q (QS.assign rfl) rfl ?_
 refine Tr.q (QS.assign rfl) rfl ?_
 refine Tr.nil (Tr.thenN (Tr.seq (Tr.region ?_)))
 refine Tr.q (QS.move rfl) rfl ?_
 refine Tr.callEnts (fun i : Nat × Nat × Value => .pointer (some ⟨i.1, 0, none⟩)) (fun i => [cellE i.1 [i.2.2, .map (some i.2.1)] 33, mapE i.2.1 u8V wl, rowE i.2.2 86 encReg rs]) (ok := fun _ => True) rfl Try.call34 (fun w hw => mclo_any bM0 bm0 VR0 rs wl w (hM'.mono hw.bg) (hW'.mono hw.bg) (by omega)) rfl (fun i _ => ?_)
 refine Tr.q (QS.assign rfl) rfl ?_
 refine Tr.nil (Tr.thenN (Tr.seq (Tr.seq (Tr.region ?_))))
 refine Tr.q (QS.move rfl) rfl ?_
 refine Tr.q (QS.eqlPN rfl rfl Try.underlying23 rfl) rfl ?_
 refine Tr.nil (Tr.thenN ?_)
 refine Tr.cond rfl (fun h1 => ?_) (fun h1 => ?_)
 ·try simp only [bs] at h1
  first | contradiction | (exfalso; omega) | simp_all
 ·try simp only [bs] at h1
  refine Tr.skip (Tr.thenN (Tr.seq (Tr.seq (Tr.region ?_))))
  refine Tr.q (QS.move rfl) rfl ?_
  refine Tr.q (QS.len rfl (by assumption) Try.underlying34) rfl ?_
  refine Tr.q (QS.gtr rfl rfl) rfl ?_
  refine Tr.nil (Tr.thenN ?_)
  refine Tr.cond rfl (fun h2 => ?_) (fun h2 => ?_)
  ·try simp only [bs] at h2
   first | contradiction | (exfalso; omega) | simp_all
  ·try simp only [bs] at h2
   refine Tr.skip (Tr.thenN (Tr.seq (Tr.seq (Tr.region ?_))))
   refine Tr.q (QS.move rfl) rfl ?_
   refine Tr.callO (fun _ : WL => .int .i64 0) [mapE i.2.1 u8V wl] (fun wl' => [mapE i.2.1 u8V wl']) (ok := fun wl' => mread wl' = (newS p).w ∧ wl'.length ≤ wl.length + 4) (dd := fun _ => 0) rfl Try.call35 (by repeat' (first | exact Split.nil _ | exact Del.here _ | apply Split.cons | apply Del.there)) (fun w hw => Nat.le_of_eq rfl) (fun w hw => by have q := mstore_any i.1 i.2.1 i.2.2 rs l 983036 4 4294967295 wl w (hw.own (by repeat' (first | exact Split.nil _ | exact Del.here _ | apply Split.cons | apply Del.there))) (memAt_less hw (by repeat' (first | exact Split.nil _ | exact Del.here _ | apply Split.cons | apply Del.there)) (by repeat constructor) (by repeat constructor) hM'.data) hO; rw [stk_store, hwl] at q; exact q) rfl (fun wl2 hw2 => ?_)
   refine Tr.q (QS.assign rfl) rfl ?_
   refine Tr.nil (Tr.thenN (Tr.seq (Tr.region ?_)))
   refine Tr.q (QS.move rfl) rfl ?_
   refine Tr.q (QS.neq rfl rfl) rfl ?_
   refine Tr.nil (Tr.thenN ?_)
   refine Tr.cond rfl (fun h3 => ?_) (fun h3 => ?_)
   ·try simp only [bs] at h3
    first | contradiction | (exfalso; omega) | simp_all
   ·try simp only [bs] at h3
    refine Tr.skip (Tr.thenN (Tr.seq ?_))
    refine Tr.ownNil 22 encU32 ?_
    refine Tr.region ?_
    refine Tr.q (QS.move rfl) rfl ?_
    refine Tr.q (QS.call rfl Try.call15 (fun w hw => start_cpu p w)) rfl ?_
    refine Tr.q (QS.move rfl) rfl ?_
    refine Tr.q (QS.move rfl) rfl ?_
    refine Tr.callRow rfl Try.call36 (fun w hw => clone_u32 inp vi0 w (hw.slF hin') (by omega)) rfl (fun V46 => ?_)
    refine Tr.rowShape (V := V46) (by repeat constructor) (fun pi ci hpv => ?_)
    subst hpv
    refine Tr.q (QS.build (vs := [(0, _), (1, _), (2, _)]) (cs := (cpuC (newS p) i.1 (.slice pi inp.length ci) (.slice none 0 0) .nilFunc).toArray) rfl rfl (by kernel_rfl)) rfl ?_
    refine Tr.box (cs := (cpuC (newS p) i.1 (.slice pi inp.length ci) (.slice none 0 0) .nilFunc)) rfl rfl rfl (fun b47 => ?_)
    refine Tr.q (QS.assign rfl) rfl ?_
    refine Tr.q (QS.assign rfl) rfl ?_
    refine Tr.nil (Tr.thenN (Tr.ret ?_))
    refine Tr.ret2 Try.results10 rfl rfl (fun w' hw => ?_)
    exact ⟨(b47, i.1, i.2.1, i.2.2, .slice pi inp.length ci, wl2), rfl, hw.below0 (Bg.le.refl _), hw.ents0 rfl (by repeat' constructor), hw2⟩
set_option maxRecDepth 100000 in
set_option maxHeartbeats 8000000 in
theorem boot_ok (l : List SecV) (V : Value) (p : UInt32) (inp : List UInt32) (vi0 : Value) (w : World) (hV : Sl (hp w) encSec l V) (hB : SecB l) (hN : ∀ s ∈ l, s.name.size ≤ 140737488351232) (hD : DataIn (hp w) l) (hin : Sl (hp w) encU32 inp vi0) (hil : inp.length ≤ 4096) (h : checkS l = 0) :
  Calls Try.prog 26 #[V, .int .u32 p.toNat, vi0] w (fun e w' => ∃ j : Nat × Nat × Nat × Value × Value × WL × List RegV, e = .returned (.pointer (some ⟨j.1, 0, none⟩)) ∧ Below w.heap.size w w' ∧ NewEnts w w' ([cellE j.1 (cpuC (newS p) j.2.1 j.2.2.2.2.1 (.slice none 0 0) .nilFunc) 47, mapE j.2.2.1 u8V j.2.2.2.2.2.1, rowE (.slice none 0 0) 22 encU32 []] ++ (cellE j.2.1 [j.2.2.2.1, .map (some j.2.2.1)] 33 :: rowE j.2.2.2.1 86 encReg j.2.2.2.2.2.2 :: rowE j.2.2.2.2.1 22 encU32 inp :: regEnts 5 j.2.2.2.2.2.2)) ∧ (mread j.2.2.2.2.2.1 = (newS p).w ∧ j.2.2.2.2.2.1.length ≤ 4) ∧ MemOK l j.2.2.2.2.2.2) := by
 have hV' : Sl (Bg.of0 w).blk encSec l V := hV
 have hD' : DataIn (Bg.of0 w).blk l := hD
 have hin' : Sl (Bg.of0 w).blk encU32 inp vi0 := hin
 refine enter0 Try.func26 rfl Try.ntmps26 rfl ?_
 refine Tr.seq (Tr.region ?_)
 refine Tr.q (QS.assign rfl) rfl ?_
 refine Tr.nil (Tr.thenN (Tr.seq (Tr.region ?_)))
 refine Tr.q (QS.move rfl) rfl ?_
 refine Tr.callEnts (fun j : Nat × Nat × Value × List RegV => .tuple #[.pointer (some ⟨j.1, 0, none⟩), .int .i64 0]) (fun j => (cellE j.1 [j.2.2.1, .map (some j.2.1)] 33 :: mapE j.2.1 u8V [] :: rowE j.2.2.1 86 encReg j.2.2.2 :: regEnts 5 j.2.2.2)) (ok := fun j => MemOK l j.2.2.2) rfl Try.call9 (fun w hw => mnew_ok l V w (hw.slF hV') hB hN (hD'.mono hw.bg) h) rfl (fun i hO => ?_)
 obtain ⟨bM0, bm0, VR0, rs⟩ := i
 rw [List.append_nil]
 refine Tr.q (QS.move rfl) rfl ?_
 refine Tr.q (QS.extract rfl rfl) rfl ?_
 refine Tr.q (QS.extract rfl rfl) rfl ?_
 refine Tr.q (QS.assign rfl) rfl ?_
 refine Tr.q (QS.assign rfl) rfl ?_
 refine Tr.nil (Tr.thenN (Tr.seq (Tr.seq (Tr.region ?_))))
 refine Tr.q (QS.move rfl) rfl ?_
 refine Tr.q (QS.neq rfl rfl) rfl ?_
 refine Tr.q (QS.move rfl) rfl ?_
 apply Tr.orP
 ·exact (rfl : _ = (3, 17, 20))
 ·exact rfl
 ·intro hF1; have hF1' := hF1
  try simp only [bs] at hF1'
  refine Tr.gq rfl rfl hF1 (QS.move rfl) rfl ?_
  refine Tr.gq rfl rfl hF1 (QS.eqlPN rfl rfl Try.underlying23 rfl) rfl ?_
  refine Tr.q (QS.pickF rfl hF1 rfl) rfl ?_
  refine Tr.nil (Tr.thenN ?_)
  exact Tr.endX (hL := Pick.refl _) (Sub.cons rfl (Sub.dropN 3 (by kernel_rfl) rfl))
 ·intro hT1
  refine Tr.gskip rfl rfl hT1 rfl ?_
  refine Tr.gskip rfl rfl hT1 rfl ?_
  refine Tr.q (QS.pickT rfl hT1 rfl) rfl ?_
  refine Tr.nil (Tr.thenN ?_)
  exact Tr.endX (hL := Pick.refl _) (Sub.cons rfl (Sub.dropN 3 (by kernel_rfl) rfl))
 refine Tr.nil (Tr.thenN ?_)
 refine Tr.cond rfl (fun h2 => ?_) (fun h2 => ?_)
 ·try simp only [bs] at h2
  first | contradiction | (exfalso; omega) | simp_all
 ·try simp only [bs] at h2
  refine Tr.skip (Tr.thenN (Tr.seq (Tr.region ?_)))
  refine Tr.q (QS.move rfl) rfl ?_
  refine Tr.q (QS.move rfl) rfl ?_
  refine Tr.q (QS.move rfl) rfl ?_
  refine Tr.callEnts0 (fun j : Nat × Nat × Nat × Value × Value × WL => .tuple #[.pointer (some ⟨j.1, 0, none⟩), .int .i64 0]) (fun j => [cellE j.1 (cpuC (newS p) j.2.1 j.2.2.2.2.1 (.slice none 0 0) .nilFunc) 47, mapE j.2.2.1 u8V j.2.2.2.2.2, rowE (.slice none 0 0) 22 encU32 [], cellE j.2.1 [j.2.2.2.1, .map (some j.2.2.1)] 33, rowE j.2.2.2.1 86 encReg rs, rowE j.2.2.2.2.1 22 encU32 inp]) (ok := fun j => mread j.2.2.2.2.2 = (newS p).w ∧ j.2.2.2.2.2.length ≤ ([] : WL).length + 4) rfl rfl Try.call10 (fun w hw => newc_any bM0 bm0 VR0 vi0 rs l [] p inp w (memAt_own (T := 33) (T2 := 86) (U := 5) hw (by repeat constructor) (by repeat constructor) (fun e he => .tail _ (.tail _ (.tail _ he)))) (mapE.in_ (hw.ent _ (by repeat constructor))) hO rfl (hw.slF hin') hil) rfl (fun j hj => ?_)
  refine Tr.q (QS.move rfl) rfl ?_
  refine Tr.q (QS.extract rfl rfl) rfl ?_
  refine Tr.q (QS.extract rfl rfl) rfl ?_
  refine Tr.q (QS.assign rfl) rfl ?_
  refine Tr.q (QS.assign rfl) rfl ?_
  refine Tr.nil (Tr.thenN (Tr.seq (Tr.seq (Tr.region ?_))))
  refine Tr.q (QS.move rfl) rfl ?_
  refine Tr.q (QS.neq rfl rfl) rfl ?_
  refine Tr.nil (Tr.thenN ?_)
  refine Tr.cond rfl (fun h3 => ?_) (fun h3 => ?_)
  ·try simp only [bs] at h3
   first | contradiction | (exfalso; omega) | simp_all
  ·try simp only [bs] at h3
   refine Tr.skip (Tr.thenN (Tr.seq (Tr.region ?_)))
   refine Tr.q (QS.move rfl) rfl ?_
   refine Tr.q (QS.assign rfl) rfl ?_
   refine Tr.nil (Tr.thenN (Tr.ret ?_))
   refine Tr.ret1 Try.results26 rfl (fun w' hw => ?_)
   exact ⟨(j.1, j.2.1, j.2.2.1, j.2.2.2.1, j.2.2.2.2.1, j.2.2.2.2.2, rs), rfl, hw.below0 (Bg.le.refl _), hw.ents0 rfl (by show Pick _ (cellE j.1 (cpuC (newS p) j.2.1 j.2.2.2.2.1 (.slice none 0 0) .nilFunc) 47 :: mapE j.2.2.1 u8V j.2.2.2.2.2 :: rowE (.slice none 0 0) 22 encU32 [] :: (cellE j.2.1 [j.2.2.2.1, .map (some j.2.2.1)] 33 :: rowE j.2.2.2.1 86 encReg rs :: rowE j.2.2.2.2.1 22 encU32 inp :: regEnts 5 rs)); exact .cons (by repeat constructor) (.cons (by repeat constructor) (.cons (by repeat constructor) (.cons (by repeat constructor) (.cons (by repeat constructor) (.cons (by repeat constructor) (by repeat (first | exact Pick.refl _ | apply Pick.skip)))))))), hj, hO⟩
end Go.Proofs.Ytpeaodkfbjenpaa
namespace Go.Proofs.Ytpeaodkfbjenpaa
open Go Go.HL Go.RowKit
set_option maxRecDepth 100000 in
set_option maxHeartbeats 16000000 in
theorem example10_any (w : World) :
  Calls Try.prog 21 #[] w (fun e w' => e = .returned (.bool true) ∧ Below w.heap.size w w') := by
 refine enter0 Try.func21 rfl Try.ntmps21 rfl ?_
 refine Tr.seq (Tr.region ?_)
 refine Tr.q (QS.assign rfl) rfl ?_
 refine Tr.nil (Tr.thenN (Tr.seq (Tr.region ?_)))
 refine Tr.litN (E := encU8) exB1 (vs := [(0, _), (1, _), (2, _), (3, _), (4, _), (5, _)]) rfl rfl Try.underlying78 Try.sizeOf5 Try.zeroValue5 (by rfl) (by rfl) rfl (by first | kernel_rfl | rfl) rfl (fun V1 => ?_)
 refine Tr.rowShape (.head _) (fun pa1 ca1 hpv => ?_)
 subst hpv
 refine Tr.frozen (.here _) (fun F1 hF1 hD1 => ?_)
 refine Tr.q (QS.build (vs := [(0, _), (1, _), (2, _), (4, _)]) (cs := (encSec.enc (exC exB1 pa1 ca1)).toArray) rfl rfl (by kernel_rfl)) rfl ?_
 refine Tr.lit1 (E := encSec) (exC exB1 pa1 ca1) rfl rfl Try.underlying64 Try.sizeOf80 Try.zeroValue80 (by rfl) (by rfl) rfl (fun V2 => ?_)
 refine Tr.frozen (.here _) (fun F2 hF2 hS1 => ?_)
 replace hD1 := hD1.mono hF2.blk
 refine Tr.callMix0 (fun j : Nat × Nat × Nat × Value × Value × WL × List RegV => .pointer (some ⟨j.1, 0, none⟩)) (fun j => [cellE j.1 (cpuC (newS 4096) j.2.1 j.2.2.2.2.1 (.slice none 0 0) .nilFunc) 47, mapE j.2.2.1 u8V j.2.2.2.2.2.1, rowE (.slice none 0 0) 22 encU32 []]) (fun j => (cellE j.2.1 [j.2.2.2.1, .map (some j.2.2.1)] 33 :: rowE j.2.2.2.1 86 encReg j.2.2.2.2.2.2 :: rowE j.2.2.2.2.1 22 encU32 [] :: regEnts 5 j.2.2.2.2.2.2)) (ok := fun j => (mread j.2.2.2.2.2.1 = (newS 4096).w ∧ j.2.2.2.2.2.1.length ≤ 4) ∧ MemOK [exC exB1 pa1 ca1] j.2.2.2.2.2.2) ((hF1.trans hF2).dr) rfl Try.call26 (fun w hw => boot_ok [exC exB1 pa1 ca1] _ 4096 [] _ w (hw.slF hS1) ⟨by simp, by simp [exC, exB1]⟩ (by simp [exC]; decide) (fun s hs => by simp only [List.mem_singleton] at hs; subst hs; exact hw.slF hD1) (Sl.nil _ _) (by decide) (ex_chk1 _ _)) rfl (fun j F3 hj hF3 hk => ?_)
 obtain ⟨bc1, bM1, bm1, VR1, vi1, wl1, rs1⟩ := j
 have hC1 : CpuAt F3.blk bM1 bm1 VR1 vi1 rs1 [] := cpuAt_of hk
 obtain ⟨⟨hw1, hn1⟩, hO1⟩ := hj
 replace hO1 : MemOK [exC exB1 pa1 ca1] rs1 := hO1
 change Tr _ _ ([cellE bc1 (cpuC (newS 4096) bM1 vi1 (.slice none 0 0) .nilFunc) 47, mapE bm1 u8V wl1, rowE (.slice none 0 0) 22 encU32 (newS 4096).out] ++ _) _ _
 refine Tr.q (QS.assign rfl) rfl ?_
 refine Tr.nil (Tr.thenN (Tr.seq (Tr.region ?_)))
 refine Tr.lit1 (E := encU8) (2 : UInt8) rfl rfl Try.underlying78 Try.sizeOf5 Try.zeroValue5 (by rfl) (by rfl) rfl (fun V3 => ?_)
 refine Tr.rowShape (.head _) (fun pa2 ca2 hpv => ?_)
 subst hpv
 refine Tr.frozen (.here _) (fun F4 hF4 hD2 => ?_)
 refine Tr.q (QS.build (vs := [(0, _), (1, _), (2, _), (4, _)]) (cs := (encSec.enc (exC [2] pa2 ca2)).toArray) rfl rfl (by kernel_rfl)) rfl ?_
 refine Tr.lit1 (E := encSec) (exC [2] pa2 ca2) rfl rfl Try.underlying64 Try.sizeOf80 Try.zeroValue80 (by rfl) (by rfl) rfl (fun V4 => ?_)
 refine Tr.frozen (.here _) (fun F5 hF5 hS2 => ?_)
 replace hD2 := hD2.mono hF5.blk
 refine Tr.callMix0 (fun j : Nat × Nat × Nat × Value × Value × WL × List RegV => .pointer (some ⟨j.1, 0, none⟩)) (fun j => [cellE j.1 (cpuC (newS 4096) j.2.1 j.2.2.2.2.1 (.slice none 0 0) .nilFunc) 47, mapE j.2.2.1 u8V j.2.2.2.2.2.1, rowE (.slice none 0 0) 22 encU32 []]) (fun j => (cellE j.2.1 [j.2.2.2.1, .map (some j.2.2.1)] 33 :: rowE j.2.2.2.1 86 encReg j.2.2.2.2.2.2 :: rowE j.2.2.2.2.1 22 encU32 [] :: regEnts 5 j.2.2.2.2.2.2)) (ok := fun j => (mread j.2.2.2.2.2.1 = (newS 4096).w ∧ j.2.2.2.2.2.1.length ≤ 4) ∧ MemOK [exC [2] pa2 ca2] j.2.2.2.2.2.2) ((hF1.trans (hF2.trans (hF3.trans (hF4.trans hF5)))).dr) rfl Try.call26 (fun w hw => boot_ok [exC [2] pa2 ca2] _ 4096 [] _ w (hw.slF hS2) ⟨by simp, by simp [exC, exB1]⟩ (by simp [exC]; decide) (fun s hs => by simp only [List.mem_singleton] at hs; subst hs; exact hw.slF hD2) (Sl.nil _ _) (by decide) (ex_chk2 _ _)) rfl (fun j F6 hj hF6 hk => ?_)
 obtain ⟨bc2, bM2, bm2, VR2, vi2, wl2, rs2⟩ := j
 have hC2 : CpuAt F6.blk bM2 bm2 VR2 vi2 rs2 [] := cpuAt_of hk
 obtain ⟨⟨hw2, hn2⟩, hO2⟩ := hj
 replace hO2 : MemOK [exC [2] pa2 ca2] rs2 := hO2
 change Tr _ _ ([cellE bc2 (cpuC (newS 4096) bM2 vi2 (.slice none 0 0) .nilFunc) 47, mapE bm2 u8V wl2, rowE (.slice none 0 0) 22 encU32 (newS 4096).out] ++ _) _ _
 have hF16 := hF1.trans (hF2.trans (hF3.trans (hF4.trans (hF5.trans hF6))))
 have hdr6 : F6.dr = 0 := hF16.dr
 replace hC1 := hC1.mono (hF4.trans (hF5.trans hF6)).blk
 refine Tr.q (QS.assign rfl) rfl ?_
 refine Tr.nil (Tr.thenN (Tr.seq (Tr.seq (Tr.region ?_))))
 refine Tr.q (QS.move rfl) rfl ?_
 refine Tr.q (QS.eqlPN rfl rfl Try.underlying27 rfl) rfl ?_
 refine Tr.q (QS.move rfl) rfl ?_
 apply Tr.orP
 ·exact (rfl : _ = (3, 17, 20))
 ·exact rfl
 ·intro hF5; have hF5' := hF5
  try simp only [bs] at hF5'
  refine Tr.gq rfl rfl hF5 (QS.move rfl) rfl ?_
  refine Tr.gq rfl rfl hF5 (QS.eqlPN rfl rfl Try.underlying27 rfl) rfl ?_
  refine Tr.q (QS.pickF rfl hF5 rfl) rfl ?_
  refine Tr.nil (Tr.thenN ?_)
  exact Tr.endX (Sub.cons rfl (Sub.dropN 3 (by kernel_rfl) rfl))
 ·intro hT5
  refine Tr.gskip rfl rfl hT5 rfl ?_
  refine Tr.gskip rfl rfl hT5 rfl ?_
  refine Tr.q (QS.pickT rfl hT5 rfl) rfl ?_
  refine Tr.nil (Tr.thenN ?_)
  exact Tr.endX (Sub.cons rfl (Sub.dropN 3 (by kernel_rfl) rfl))
 refine Tr.nil (Tr.thenN ?_)
 refine Tr.cond rfl (fun h6 => ?_) (fun h6 => ?_)
 ·try simp only [bs] at h6
  first | contradiction | (exfalso; omega) | simp_all
 ·try simp only [bs] at h6
  refine Tr.skip (Tr.thenN (Tr.seq (Tr.region ?_)))
  refine Tr.q (QS.move rfl) rfl ?_
  refine Tr.callO (fun j : WL × Value × Value × Value × Value => .agg #[.int .i64 (errR (runS [exC exB1 pa1 ca1] [] (min (2 : Int) 65536).toNat (newS 4096))), j.2.2.2.2, .int .i64 ((traceS [exC exB1 pa1 ca1] [] (min (2 : Int) 65536).toNat (newS 4096)).length : Nat)]) [cellE bc1 (cpuC (newS 4096) bM1 vi1 (.slice none 0 0) .nilFunc) 47, mapE bm1 u8V wl1, rowE (.slice none 0 0) 22 encU32 (newS 4096).out] (fun j => [cellE bc1 (cpuC (runS [exC exB1 pa1 ca1] [] (min (2 : Int) 65536).toNat (newS 4096)) bM1 vi1 j.2.1 j.2.2.1) 47, mapE bm1 u8V j.1, rowE j.2.1 22 encU32 (runS [exC exB1 pa1 ca1] [] (min (2 : Int) 65536).toNat (newS 4096)).out, rowE j.2.2.2.2 22 encU32 (runS [exC exB1 pa1 ca1] [] (min (2 : Int) 65536).toNat (newS 4096)).out]) (ok := fun j => mread j.1 = (runS [exC exB1 pa1 ca1] [] (min (2 : Int) 65536).toNat (newS 4096)).w ∧ j.1.length ≤ wl1.length + 4 * (traceS [exC exB1 pa1 ca1] [] (min (2 : Int) 65536).toNat (newS 4096)).length ∧ ∃ a n c, j.2.1 = .slice a n c) (dd := fun _ => 0) rfl Try.call17 (by repeat' (first | exact Split.nil _ | exact Del.here _ | apply Split.cons | apply Del.there)) (fun w hw => Nat.le_of_eq (hdr6)) (fun w hw => run_cpu (newS 4096) bc1 bM1 bm1 VR1 vi1 (.slice none 0 0) .nilFunc rs1 [exC exB1 pa1 ca1] wl1 [] (2 : Int) w (hw.own (by repeat' (first | exact Split.nil _ | exact Del.here _ | apply Split.cons | apply Del.there))) (hC1.mono (hw.lessB (Lo := [cellE bc1 (cpuC (newS 4096) bM1 vi1 (.slice none 0 0) .nilFunc) 47, mapE bm1 u8V wl1, rowE (.slice none 0 0) 22 encU32 (newS 4096).out]) (by repeat' (first | exact Split.nil _ | exact Del.here _ | apply Split.cons | apply Del.there)))) hO1 hw1 ⟨_, _, _, rfl⟩ (by show (0 : Nat) ≤ 4096; omega)) rfl (fun j hj => ?_)
  obtain ⟨wl3, vo3, ef3, vt3, vq3⟩ := j
  obtain ⟨hw3, hn3, hv3⟩ := hj
  change Tr _ _ (cellE bc1 (cpuC (runS [exC exB1 pa1 ca1] [] (min (2 : Int) 65536).toNat (newS 4096)) bM1 vi1 vo3 ef3) 47 :: mapE bm1 u8V wl3 :: rowE vo3 22 encU32 (runS [exC exB1 pa1 ca1] [] (min (2 : Int) 65536).toNat (newS 4096)).out :: rowE vq3 22 encU32 (runS [exC exB1 pa1 ca1] [] (min (2 : Int) 65536).toNat (newS 4096)).out :: _) _ _
  obtain ⟨n3, hm3⟩ : ∃ n, n = (traceS [exC exB1 pa1 ca1] [] (min (2 : Int) 65536).toNat (newS 4096)).length := ⟨_, rfl⟩
  rw [← hm3] at hn3 ⊢
  obtain ⟨t3, ht3⟩ : ∃ t, t = (runS [exC exB1 pa1 ca1] [] (min (2 : Int) 65536).toNat (newS 4096)) := ⟨_, rfl⟩
  rw [← ht3] at hw3 ⊢
  refine Tr.rowShape (V := vq3) (by repeat constructor) (fun pq3 cq3 hpv => ?_)
  subst hpv
  obtain ⟨hx1, hx2, hx3⟩ := ex_c1 ht3 hm3
  rw [hx1, hx3]
  have hxl : t3.out.length = 1 := by rw [hx2]; rfl
  refine Tr.q (QS.move rfl) rfl ?_
  refine Tr.callO (fun j : WL × Value × Value × Value × Value => .agg #[.int .i64 (errR (runS [exC exB1 pa1 ca1] [] (min (1 : Int) 65536).toNat t3)), j.2.2.2.2, .int .i64 ((traceS [exC exB1 pa1 ca1] [] (min (1 : Int) 65536).toNat t3).length : Nat)]) [cellE bc1 (cpuC t3 bM1 vi1 vo3 ef3) 47, mapE bm1 u8V wl3, rowE vo3 22 encU32 t3.out] (fun j => [cellE bc1 (cpuC (runS [exC exB1 pa1 ca1] [] (min (1 : Int) 65536).toNat t3) bM1 vi1 j.2.1 j.2.2.1) 47, mapE bm1 u8V j.1, rowE j.2.1 22 encU32 (runS [exC exB1 pa1 ca1] [] (min (1 : Int) 65536).toNat t3).out, rowE j.2.2.2.2 22 encU32 (runS [exC exB1 pa1 ca1] [] (min (1 : Int) 65536).toNat t3).out]) (ok := fun j => mread j.1 = (runS [exC exB1 pa1 ca1] [] (min (1 : Int) 65536).toNat t3).w ∧ j.1.length ≤ wl3.length + 4 * (traceS [exC exB1 pa1 ca1] [] (min (1 : Int) 65536).toNat t3).length ∧ ∃ a n c, j.2.1 = .slice a n c) (dd := fun _ => 0) rfl Try.call17 (by repeat' (first | exact Split.nil _ | exact Del.here _ | apply Split.cons | apply Del.there)) (fun w hw => Nat.le_of_eq (hdr6)) (fun w hw => run_cpu t3 bc1 bM1 bm1 VR1 vi1 vo3 ef3 rs1 [exC exB1 pa1 ca1] wl3 [] (1 : Int) w (hw.own (by repeat' (first | exact Split.nil _ | exact Del.here _ | apply Split.cons | apply Del.there))) (hC1.mono (hw.lessB (Lo := [cellE bc1 (cpuC t3 bM1 vi1 vo3 ef3) 47, mapE bm1 u8V wl3, rowE vo3 22 encU32 t3.out]) (by repeat' (first | exact Split.nil _ | exact Del.here _ | apply Split.cons | apply Del.there)))) hO1 hw3 hv3 (by rw [hx2]; decide)) rfl (fun j hj => ?_)
  obtain ⟨wl4, vo4, ef4, vt4, vq4⟩ := j
  obtain ⟨hw4, hn4, hv4⟩ := hj
  change Tr _ _ (cellE bc1 (cpuC (runS [exC exB1 pa1 ca1] [] (min (1 : Int) 65536).toNat t3) bM1 vi1 vo4 ef4) 47 :: mapE bm1 u8V wl4 :: rowE vo4 22 encU32 (runS [exC exB1 pa1 ca1] [] (min (1 : Int) 65536).toNat t3).out :: rowE vq4 22 encU32 (runS [exC exB1 pa1 ca1] [] (min (1 : Int) 65536).toNat t3).out :: _) _ _
  obtain ⟨n4, hm4⟩ : ∃ n, n = (traceS [exC exB1 pa1 ca1] [] (min (1 : Int) 65536).toNat t3).length := ⟨_, rfl⟩
  rw [← hm4] at hn4 ⊢
  obtain ⟨t4, ht4⟩ : ∃ t, t = (runS [exC exB1 pa1 ca1] [] (min (1 : Int) 65536).toNat t3) := ⟨_, rfl⟩
  rw [← ht4] at hw4 ⊢
  refine Tr.rowShape (V := vq4) (by repeat constructor) (fun pq4 cq4 hpv => ?_)
  subst hpv
  obtain ⟨hy1, hy2, hy3⟩ := ex_c2 ht3 ht4 hm4
  rw [hy1, hy3]
  refine Tr.alloc Try.zeroValue50 rfl rfl (fun b7 => ?_)
  refine Tr.alloc Try.zeroValue50 rfl rfl (fun b8 => ?_)
  refine Tr.storeW rfl rfl Try.sizeOf50 (by repeat constructor) (by rfl) (by rfl) (by first | exact List.all_eq_true.1 rfl | exact Enc.one _ _ | (intro u hu; simp [Value.cells] at hu; simp_all [Value.oneCell'])) rfl ?_
  refine Tr.storeW rfl rfl Try.sizeOf50 (by repeat constructor) (by rfl) (by rfl) (by first | exact List.all_eq_true.1 rfl | exact Enc.one _ _ | (intro u hu; simp [Value.cells] at hu; simp_all [Value.oneCell'])) rfl ?_
  refine Tr.nil (Tr.thenN (Tr.seq (Tr.region ?_)))
  refine Tr.q (QS.move rfl) rfl ?_
  refine Tr.callO (fun j : WL × Value × Value × Value × Value => .agg #[.int .i64 (errR (runS [exC [2] pa2 ca2] [] (min (9 : Int) 65536).toNat (newS 4096))), j.2.2.2.2, .int .i64 ((traceS [exC [2] pa2 ca2] [] (min (9 : Int) 65536).toNat (newS 4096)).length : Nat)]) [cellE bc2 (cpuC (newS 4096) bM2 vi2 (.slice none 0 0) .nilFunc) 47, mapE bm2 u8V wl2, rowE (.slice none 0 0) 22 encU32 (newS 4096).out] (fun j => [cellE bc2 (cpuC (runS [exC [2] pa2 ca2] [] (min (9 : Int) 65536).toNat (newS 4096)) bM2 vi2 j.2.1 j.2.2.1) 47, mapE bm2 u8V j.1, rowE j.2.1 22 encU32 (runS [exC [2] pa2 ca2] [] (min (9 : Int) 65536).toNat (newS 4096)).out, rowE j.2.2.2.2 22 encU32 (runS [exC [2] pa2 ca2] [] (min (9 : Int) 65536).toNat (newS 4096)).out]) (ok := fun j => mread j.1 = (runS [exC [2] pa2 ca2] [] (min (9 : Int) 65536).toNat (newS 4096)).w ∧ j.1.length ≤ wl2.length + 4 * (traceS [exC [2] pa2 ca2] [] (min (9 : Int) 65536).toNat (newS 4096)).length ∧ ∃ a n c, j.2.1 = .slice a n c) (dd := fun _ => 0) rfl Try.call17 (by repeat' (first | exact Split.nil _ | exact Del.here _ | apply Split.cons | apply Del.there)) (fun w hw => Nat.le_of_eq (hdr6)) (fun w hw => run_cpu (newS 4096) bc2 bM2 bm2 VR2 vi2 (.slice none 0 0) .nilFunc rs2 [exC [2] pa2 ca2] wl2 [] (9 : Int) w (hw.own (by repeat' (first | exact Split.nil _ | exact Del.here _ | apply Split.cons | apply Del.there))) (hC2.mono (hw.lessB (Lo := [cellE bc2 (cpuC (newS 4096) bM2 vi2 (.slice none 0 0) .nilFunc) 47, mapE bm2 u8V wl2, rowE (.slice none 0 0) 22 encU32 (newS 4096).out]) (by repeat' (first | exact Split.nil _ | exact Del.here _ | apply Split.cons | apply Del.there)))) hO2 hw2 ⟨_, _, _, rfl⟩ (by show (0 : Nat) ≤ 4096; omega)) rfl (fun j hj => ?_)
  obtain ⟨wl5, vo5, ef5, vt5, vq5⟩ := j
  obtain ⟨hw5, hn5, hv5⟩ := hj
  change Tr _ _ (cellE bc2 (cpuC (runS [exC [2] pa2 ca2] [] (min (9 : Int) 65536).toNat (newS 4096)) bM2 vi2 vo5 ef5) 47 :: mapE bm2 u8V wl5 :: rowE vo5 22 encU32 (runS [exC [2] pa2 ca2] [] (min (9 : Int) 65536).toNat (newS 4096)).out :: rowE vq5 22 encU32 (runS [exC [2] pa2 ca2] [] (min (9 : Int) 65536).toNat (newS 4096)).out :: _) _ _
  obtain ⟨n5, hm5⟩ : ∃ n, n = (traceS [exC [2] pa2 ca2] [] (min (9 : Int) 65536).toNat (newS 4096)).length := ⟨_, rfl⟩
  rw [← hm5] at hn5 ⊢
  obtain ⟨t5, ht5⟩ : ∃ t, t = (runS [exC [2] pa2 ca2] [] (min (9 : Int) 65536).toNat (newS 4096)) := ⟨_, rfl⟩
  rw [← ht5] at hw5 ⊢
  refine Tr.rowShape (V := vq5) (by repeat constructor) (fun pq5 cq5 hpv => ?_)
  subst hpv
  obtain ⟨hz1, hz2, hz3, hz4⟩ := ex_d ht5 hm5
  rw [hz1, hz2]
  refine Tr.alloc Try.zeroValue50 rfl rfl (fun b9 => ?_)
  refine Tr.storeW rfl rfl Try.sizeOf50 (by repeat constructor) (by rfl) (by rfl) (by first | exact List.all_eq_true.1 rfl | exact Enc.one _ _ | (intro u hu; simp [Value.cells] at hu; simp_all [Value.oneCell'])) rfl ?_
  refine Tr.nil (Tr.thenN (Tr.seq (Tr.region ?_)))
  refine Tr.q (QS.move rfl) rfl ?_
  refine Tr.q (QS.call rfl Try.call13 (fun w hw => state_cpu t5 bc2 bM2 vi2 vo5 ef5 w (cellE.cellsIn (hw.ent _ (by repeat constructor)) (Ext.refl _)))) rfl ?_
  refine Tr.alloc Try.zeroValue42 rfl rfl (fun b10 => ?_)
  refine Tr.storeW rfl rfl Try.sizeOf42 (by repeat constructor) (by rfl) (by rfl) (by first | exact List.all_eq_true.1 rfl | exact Enc.one _ _ | exact Enc.one encMach _) rfl ?_
  refine Tr.nil (Tr.thenN (Tr.seq (Tr.region ?_)))
  refine Tr.q (QS.fieldAddr (off := 0) (ft := 24) rfl Try.underlying50 rfl rfl Try.sizeOf24 (by decide)) rfl ?_
  refine Tr.q (QS.lV rfl Try.isAgg24) rfl ?_
  refine Tr.q (QS.eql rfl rfl) rfl ?_
  refine Tr.q (QS.move rfl) rfl ?_
  apply Tr.andP
  ·exact (rfl : _ = (4, 32, 36))
  ·exact rfl
  ·intro hT11; have hT11' := hT11
   try simp only [bs] at hT11'
   refine Tr.gq rfl rfl hT11 (QS.fieldAddr (off := 2) (ft := 3) rfl Try.underlying50 rfl rfl Try.sizeOf3 (by decide)) rfl ?_
   refine Tr.gq rfl rfl hT11 (QS.lV rfl Try.isAgg3) rfl ?_
   refine Tr.gq rfl rfl hT11 (QS.eql rfl rfl) rfl ?_
   refine Tr.q (QS.pickT rfl hT11 rfl) rfl ?_
   refine Tr.nil (Tr.thenN ?_)
   exact Tr.endX (Sub.cons rfl (Sub.dropN 4 (by kernel_rfl) rfl))
  ·intro hF11
   refine Tr.gskip rfl rfl hF11 rfl ?_
   refine Tr.gskip rfl rfl hF11 rfl ?_
   refine Tr.gskip rfl rfl hF11 rfl ?_
   refine Tr.q (QS.pickF rfl hF11 rfl) rfl ?_
   refine Tr.nil (Tr.thenN ?_)
   exact Tr.endX (Sub.cons rfl (Sub.dropN 4 (by kernel_rfl) rfl))
  refine Tr.q (QS.move rfl) rfl ?_
  apply Tr.andP
  ·exact (rfl : _ = (5, 37, 42))
  ·exact rfl
  ·intro hT12; have hT12' := hT12
   try simp only [bs] at hT12'
   refine Tr.gq rfl rfl hT12 (QS.fieldAddr (off := 1) (ft := 34) rfl Try.underlying50 rfl rfl Try.sizeOf34 (by decide)) rfl ?_
   refine Tr.gq rfl rfl hT12 (QS.lV rfl Try.isAgg34) rfl ?_
   refine Tr.gq rfl rfl hT12 (QS.lenRow rfl (by repeat constructor) Try.underlying34) rfl ?_
   refine Tr.gq rfl rfl hT12 (QS.eql rfl rfl) rfl ?_
   refine Tr.q (QS.pickT rfl hT12 rfl) rfl ?_
   refine Tr.nil (Tr.thenN ?_)
   exact Tr.endX (Sub.cons rfl (Sub.dropN 5 (by kernel_rfl) rfl))
  ·intro hF12
   refine Tr.gskip rfl rfl hF12 rfl ?_
   refine Tr.gskip rfl rfl hF12 rfl ?_
   refine Tr.gskip rfl rfl hF12 rfl ?_
   refine Tr.gskip rfl rfl hF12 rfl ?_
   refine Tr.q (QS.pickF rfl hF12 rfl) rfl ?_
   refine Tr.nil (Tr.thenN ?_)
   exact Tr.endX (Sub.cons rfl (Sub.dropN 5 (by kernel_rfl) rfl))
  refine Tr.q (QS.move rfl) rfl ?_
  apply Tr.andP
  ·exact (rfl : _ = (6, 43, 49))
  ·exact rfl
  ·intro hT13; have hT13' := hT13
   try simp only [bs] at hT13'
   refine Tr.gq rfl rfl hT13 (QS.fieldAddr (off := 1) (ft := 34) rfl Try.underlying50 rfl rfl Try.sizeOf34 (by decide)) rfl ?_
   refine Tr.gq rfl rfl hT13 (QS.lV rfl Try.isAgg34) rfl ?_
   refine Tr.gq rfl rfl hT13 (QS.idxRow rfl rfl (by repeat constructor) Try.underlying34 Try.sizeOf22 (by rfl) (by omega)) rfl ?_
   refine Tr.gq rfl rfl hT13 (QS.elR1 rfl (by repeat constructor) Try.isAgg22 (by omega) (by rfl)) rfl ?_
   refine Tr.gq rfl rfl hT13 (QS.eql32 (n := 5) rfl rfl) rfl ?_
   refine Tr.q (QS.pickT rfl hT13 rfl) rfl ?_
   refine Tr.nil (Tr.thenN ?_)
   exact Tr.endX (Sub.cons rfl (Sub.dropN 6 (by kernel_rfl) rfl))
  ·intro hF13
   refine Tr.gskip rfl rfl hF13 rfl ?_
   refine Tr.gskip rfl rfl hF13 rfl ?_
   refine Tr.gskip rfl rfl hF13 rfl ?_
   refine Tr.gskip rfl rfl hF13 rfl ?_
   refine Tr.gskip rfl rfl hF13 rfl ?_
   refine Tr.q (QS.pickF rfl hF13 rfl) rfl ?_
   refine Tr.nil (Tr.thenN ?_)
   exact Tr.endX (Sub.cons rfl (Sub.dropN 6 (by kernel_rfl) rfl))
  refine Tr.q (QS.move rfl) rfl ?_
  apply Tr.andP
  ·exact (rfl : _ = (4, 50, 54))
  ·exact rfl
  ·intro hT14; have hT14' := hT14
   try simp only [bs] at hT14'
   refine Tr.gq rfl rfl hT14 (QS.fieldAddr (off := 0) (ft := 24) rfl Try.underlying50 rfl rfl Try.sizeOf24 (by decide)) rfl ?_
   refine Tr.gq rfl rfl hT14 (QS.lV rfl Try.isAgg24) rfl ?_
   refine Tr.gq rfl rfl hT14 (QS.eql rfl rfl) rfl ?_
   refine Tr.q (QS.pickT rfl hT14 rfl) rfl ?_
   refine Tr.nil (Tr.thenN ?_)
   exact Tr.endX (Sub.cons rfl (Sub.dropN 4 (by kernel_rfl) rfl))
  ·intro hF14
   refine Tr.gskip rfl rfl hF14 rfl ?_
   refine Tr.gskip rfl rfl hF14 rfl ?_
   refine Tr.gskip rfl rfl hF14 rfl ?_
   refine Tr.q (QS.pickF rfl hF14 rfl) rfl ?_
   refine Tr.nil (Tr.thenN ?_)
   exact Tr.endX (Sub.cons rfl (Sub.dropN 4 (by kernel_rfl) rfl))
  refine Tr.q (QS.move rfl) rfl ?_
  apply Tr.andP
  ·exact (rfl : _ = (4, 55, 59))
  ·exact rfl
  ·intro hT15; have hT15' := hT15
   try simp only [bs] at hT15'
   refine Tr.gq rfl rfl hT15 (QS.fieldAddr (off := 2) (ft := 3) rfl Try.underlying50 rfl rfl Try.sizeOf3 (by decide)) rfl ?_
   refine Tr.gq rfl rfl hT15 (QS.lV rfl Try.isAgg3) rfl ?_
   refine Tr.gq rfl rfl hT15 (QS.eql rfl rfl) rfl ?_
   refine Tr.q (QS.pickT rfl hT15 rfl) rfl ?_
   refine Tr.nil (Tr.thenN ?_)
   exact Tr.endX (Sub.cons rfl (Sub.dropN 4 (by kernel_rfl) rfl))
  ·intro hF15
   refine Tr.gskip rfl rfl hF15 rfl ?_
   refine Tr.gskip rfl rfl hF15 rfl ?_
   refine Tr.gskip rfl rfl hF15 rfl ?_
   refine Tr.q (QS.pickF rfl hF15 rfl) rfl ?_
   refine Tr.nil (Tr.thenN ?_)
   exact Tr.endX (Sub.cons rfl (Sub.dropN 4 (by kernel_rfl) rfl))
  refine Tr.q (QS.move rfl) rfl ?_
  apply Tr.andP
  ·exact (rfl : _ = (3, 60, 63))
  ·exact rfl
  ·intro hT16; have hT16' := hT16
   try simp only [bs] at hT16'
   refine Tr.gq rfl rfl hT16 (QS.move rfl) rfl ?_
   refine Tr.gq rfl rfl hT16 (QS.call rfl Try.call20 (fun w hw => halted_cpu t4 bc1 bM1 vi1 vo4 ef4 w (cellE.cellsIn (hw.ent _ (by repeat constructor)) (Ext.refl _)))) rfl ?_
   refine Tr.q (QS.pickT rfl hT16 rfl) rfl ?_
   refine Tr.nil (Tr.thenN ?_)
   exact Tr.endX (Sub.cons rfl (Sub.dropN 3 (by kernel_rfl) rfl))
  ·intro hF16
   refine Tr.gskip rfl rfl hF16 rfl ?_
   refine Tr.gskip rfl rfl hF16 rfl ?_
   refine Tr.q (QS.pickF rfl hF16 rfl) rfl ?_
   refine Tr.nil (Tr.thenN ?_)
   exact Tr.endX (Sub.cons rfl (Sub.dropN 3 (by kernel_rfl) rfl))
  refine Tr.q (QS.move rfl) rfl ?_
  apply Tr.andP
  ·exact (rfl : _ = (4, 64, 68))
  ·exact rfl
  ·intro hT17; have hT17' := hT17
   try simp only [bs] at hT17'
   refine Tr.gq rfl rfl hT17 (QS.fieldAddr (off := 0) (ft := 24) rfl Try.underlying50 rfl rfl Try.sizeOf24 (by decide)) rfl ?_
   refine Tr.gq rfl rfl hT17 (QS.lV rfl Try.isAgg24) rfl ?_
   refine Tr.gq rfl rfl hT17 (QS.eql rfl rfl) rfl ?_
   refine Tr.q (QS.pickT rfl hT17 rfl) rfl ?_
   refine Tr.nil (Tr.thenN ?_)
   exact Tr.endX (Sub.cons rfl (Sub.dropN 4 (by kernel_rfl) rfl))
  ·intro hF17
   refine Tr.gskip rfl rfl hF17 rfl ?_
   refine Tr.gskip rfl rfl hF17 rfl ?_
   refine Tr.gskip rfl rfl hF17 rfl ?_
   refine Tr.q (QS.pickF rfl hF17 rfl) rfl ?_
   refine Tr.nil (Tr.thenN ?_)
   exact Tr.endX (Sub.cons rfl (Sub.dropN 4 (by kernel_rfl) rfl))
  refine Tr.q (QS.move rfl) rfl ?_
  apply Tr.andP
  ·exact (rfl : _ = (4, 69, 73))
  ·exact rfl
  ·intro hT18; have hT18' := hT18
   try simp only [bs] at hT18'
   refine Tr.gq rfl rfl hT18 (QS.fieldAddr (off := 2) (ft := 3) rfl Try.underlying50 rfl rfl Try.sizeOf3 (by decide)) rfl ?_
   refine Tr.gq rfl rfl hT18 (QS.lV rfl Try.isAgg3) rfl ?_
   refine Tr.gq rfl rfl hT18 (QS.eql rfl rfl) rfl ?_
   refine Tr.q (QS.pickT rfl hT18 rfl) rfl ?_
   refine Tr.nil (Tr.thenN ?_)
   exact Tr.endX (Sub.cons rfl (Sub.dropN 4 (by kernel_rfl) rfl))
  ·intro hF18
   refine Tr.gskip rfl rfl hF18 rfl ?_
   refine Tr.gskip rfl rfl hF18 rfl ?_
   refine Tr.gskip rfl rfl hF18 rfl ?_
   refine Tr.q (QS.pickF rfl hF18 rfl) rfl ?_
   refine Tr.nil (Tr.thenN ?_)
   exact Tr.endX (Sub.cons rfl (Sub.dropN 4 (by kernel_rfl) rfl))
  refine Tr.q (QS.move rfl) rfl ?_
  apply Tr.andP
  ·exact (rfl : _ = (4, 74, 78))
  ·exact rfl
  ·intro hT19; have hT19' := hT19
   try simp only [bs] at hT19'
   refine Tr.gq rfl rfl hT19 (QS.fieldAddr (off := 8) (ft := 22) rfl Try.underlying42 rfl rfl Try.sizeOf22 (by decide)) rfl ?_
   refine Tr.gq rfl rfl hT19 (QS.lV rfl Try.isAgg22) rfl ?_
   refine Tr.gq rfl rfl hT19 (QS.eql32 (n := 4294967295) rfl rfl) rfl ?_
   refine Tr.q (QS.pickT rfl hT19 rfl) rfl ?_
   refine Tr.nil (Tr.thenN ?_)
   exact Tr.endX (Sub.cons rfl (Sub.dropN 4 (by kernel_rfl) rfl))
  ·intro hF19
   refine Tr.gskip rfl rfl hF19 rfl ?_
   refine Tr.gskip rfl rfl hF19 rfl ?_
   refine Tr.gskip rfl rfl hF19 rfl ?_
   refine Tr.q (QS.pickF rfl hF19 rfl) rfl ?_
   refine Tr.nil (Tr.thenN ?_)
   exact Tr.endX (Sub.cons rfl (Sub.dropN 4 (by kernel_rfl) rfl))
  refine Tr.q (QS.move rfl) rfl ?_
  apply Tr.andP
  ·exact (rfl : _ = (5, 79, 84))
  ·exact rfl
  ·intro hT20; have hT20' := hT20
   try simp only [bs] at hT20'
   refine Tr.gq rfl rfl hT20 (QS.fieldAddr (off := 0) (ft := 38) rfl Try.underlying42 rfl rfl Try.sizeOf38 (by decide)) rfl ?_
   refine Tr.gq rfl rfl hT20 (QS.idxArr rfl rfl Try.underlying38 Try.sizeOf22 (by omega)) rfl ?_
   refine Tr.gq rfl rfl hT20 (QS.lV rfl Try.isAgg22) rfl ?_
   refine Tr.gq rfl rfl hT20 (QS.eql32 (n := 983040) rfl rfl) rfl ?_
   refine Tr.q (QS.pickT rfl hT20 rfl) rfl ?_
   refine Tr.nil (Tr.thenN ?_)
   exact Tr.endX (Sub.cons rfl (Sub.dropN 5 (by kernel_rfl) rfl))
  ·intro hF20
   refine Tr.gskip rfl rfl hF20 rfl ?_
   refine Tr.gskip rfl rfl hF20 rfl ?_
   refine Tr.gskip rfl rfl hF20 rfl ?_
   refine Tr.gskip rfl rfl hF20 rfl ?_
   refine Tr.q (QS.pickF rfl hF20 rfl) rfl ?_
   refine Tr.nil (Tr.thenN ?_)
   exact Tr.endX (Sub.cons rfl (Sub.dropN 5 (by kernel_rfl) rfl))
  refine Tr.q (QS.move rfl) rfl ?_
  apply Tr.andP
  ·exact (rfl : _ = (4, 85, 89))
  ·exact rfl
  ·intro hT21; have hT21' := hT21
   try simp only [bs] at hT21'
   refine Tr.gq rfl rfl hT21 (QS.call rfl Try.call15 (fun w hw => start_cpu 7 w)) rfl ?_
   refine Tr.gq rfl rfl hT21 (QS.field (k := 0) (off := 8) (ft := 22) rfl Try.underlying42 rfl rfl Try.isAgg22 rfl) rfl ?_
   refine Tr.gq rfl rfl hT21 (QS.eql32 (n := 7) rfl rfl) rfl ?_
   refine Tr.q (QS.pickT rfl hT21 rfl) rfl ?_
   refine Tr.nil (Tr.thenN ?_)
   exact Tr.endX (Sub.cons rfl (Sub.dropN 4 (by kernel_rfl) rfl))
  ·intro hF21
   refine Tr.gskip rfl rfl hF21 rfl ?_
   refine Tr.gskip rfl rfl hF21 rfl ?_
   refine Tr.gskip rfl rfl hF21 rfl ?_
   refine Tr.q (QS.pickF rfl hF21 rfl) rfl ?_
   refine Tr.nil (Tr.thenN ?_)
   exact Tr.endX (Sub.cons rfl (Sub.dropN 4 (by kernel_rfl) rfl))
  refine Tr.q (QS.assign rfl) rfl ?_
  refine Tr.nil (Tr.thenN (Tr.ret ?_))
  refine Tr.ret1 Try.results21 rfl (fun w' hw => ?_)
  exact ⟨by simp [hx1, hx2, hx3, hy1, hy2, hy3, hz1, hz2, hz3, hz4, startM], hw.below0 hF16⟩
end Go.Proofs.Ytpeaodkfbjenpaa
namespace Go.HL
open Go Go.RowKit
section
variable {l : List SecV} {inp : List UInt32} {s : St} {n : Nat}
end
section
variable (n : UInt32) (dp : Option Addr) (dc : Nat)
def outS (p : UInt32) (k : Nat) (e : Int) : St := ⟨{ startM p with r1 := n }, (newS 4096).w, 0, List.replicate k n, false, e⟩
theorem out_len (p : UInt32) (k : Nat) (e : Int) : (outS n p k e).out.length = k := List.length_replicate
end
end Go.HL
namespace Go.HL
open Go Go.RowKit
section
variable (e : UInt8) (x y : UInt32) (dp : Option Addr) (dc : Nat)
end
theorem flgEqEnc : EqEnc encFlg [.bool, .bool, .bool, .bool] [0, 1, 2, 3] := by
  intro x y
  refine ⟨fun j o e ho he => ?_, ?_⟩
  · rcases j with _ | _ | _ | _ | j <;> simp at ho he <;> subst ho <;> subst he <;> trivial
  · obtain ⟨a0, a1, a2, a3⟩ := x
    obtain ⟨c0, c1, c2, c3⟩ := y
    rw [Bool.eq_iff_iff]
    simp [eqAt, encFlg]
end Go.HL
namespace Go.HL
open Go Go.RowKit
section
variable (e1 e2 e3 e4 : UInt8) (n : UInt32) (dp : Option Addr) (dc : Nat)
end
theorem leP_word (n : UInt32) : leP [(shr32 n 0).toUInt8, (shr32 n 8).toUInt8, (shr32 n 16).toUInt8, (shr32 n 24).toUInt8] = n := by
  rw [← UInt32.toNat_inj, leP_nat _ (by simp)]
  have h := n.toNat_lt
  simp only [leN, UInt32.toNat_toUInt8, shr32_toNat]
  omega
section
variable {P : Program} {N : Nat} {F : Bg} {L : List Ent} {M : Fr} {dst : Option Tmp} {ty : TypeId} {pos : String} {after : Array Edge} {g : Option (Nat × Bool)}
end
end Go.HL
namespace Go.HL
open Go Go.RowKit
section
variable {P : Program}
/-- Fields compared, whatever they are. -/
inductive FieldsRun (P : Program) (d : Nat) (xs ys : Array Value) : List Field → List Bool → Prop
  | nil : FieldsRun P d xs ys [] []
  | cons {f : Field} {fs : List Field} {u v : Value} {b : Bool} {bs : List Bool} (hn : f.name ≠ "_") (hx : ∀ w, (part f.type xs f.offset).run P w = .ok u w) (hy : ∀ w, (part f.type ys f.offset).run P w = .ok v w)
      (he : ∀ w, (Op.equalIn d f.type u v).run P w = .ok b w) (h : FieldsRun P d xs ys fs bs) : FieldsRun P d xs ys (f :: fs) (b :: bs)
theorem run_eqFields_gen {d : Nat} {xs ys : Array Value} (w : World) : ∀ {fs : List Field} {bs : List Bool}, FieldsRun P d xs ys fs bs → (Op.eqFields d xs ys fs).run P w = .ok (bs.all id) w
  | [], _, .nil => by simp [Op.eqFields]
  | f :: fs, _, .cons (b := b) (bs := bs) hn hx hy he h => by
    have ih := run_eqFields_gen w h
    simp only [Op.eqFields, hn, ne_eq, not_false_eq_true, if_true, Sem.run_bind, List.all_cons, hx, hy, he, Result.andThen_ok]
    cases b
    · simp
    · simpa using ih
theorem run_arr8 {d : Nat} {t e : TypeId} {a0 a1 a2 a3 a4 a5 a6 a7 b0 b1 b2 b3 b4 b5 b6 b7 : Int} (ht : P.underlying t = some (.array 8 e)) (he : P.underlying e = some (.int .u32)) (hz : ∀ w, (sizeOf e).run P w = .ok 1 w) (hag : ∀ w, (isAgg e).run P w = .ok false w) (w : World) :
    (Op.equalIn (d + 1 + 1) t (.agg #[.int .u32 a0, .int .u32 a1, .int .u32 a2, .int .u32 a3, .int .u32 a4, .int .u32 a5, .int .u32 a6, .int .u32 a7]) (.agg #[.int .u32 b0, .int .u32 b1, .int .u32 b2, .int .u32 b3, .int .u32 b4, .int .u32 b5, .int .u32 b6, .int .u32 b7])).run P w =
      .ok (decide (a0 = b0 ∧ a1 = b1 ∧ a2 = b2 ∧ a3 = b3 ∧ a4 = b4 ∧ a5 = b5 ∧ a6 = b6 ∧ a7 = b7)) w := by
  have r : ∀ xs : Array Value, ∀ v i, xs[i]? = some v → (part e xs i).run P w = .ok v w := fun xs v i h => part_word hag h
  have q : ∀ c0 c1 c2 c3 c4 c5 c6 c7 : Int, ∀ i v, (#[Value.int .u32 c0, .int .u32 c1, .int .u32 c2, .int .u32 c3, .int .u32 c4, .int .u32 c5, .int .u32 c6, .int .u32 c7] : Array Value)[i]? = some v → (part e #[Value.int .u32 c0, .int .u32 c1, .int .u32 c2, .int .u32 c3, .int .u32 c4, .int .u32 c5, .int .u32 c6, .int .u32 c7] i).run P w = .ok v w := fun c0 c1 c2 c3 c4 c5 c6 c7 i v h => r _ v i h
  have p0 := fun c0 c1 c2 c3 c4 c5 c6 c7 => q c0 c1 c2 c3 c4 c5 c6 c7 0 _ rfl
  have p1 := fun c0 c1 c2 c3 c4 c5 c6 c7 => q c0 c1 c2 c3 c4 c5 c6 c7 1 _ rfl
  have p2 := fun c0 c1 c2 c3 c4 c5 c6 c7 => q c0 c1 c2 c3 c4 c5 c6 c7 2 _ rfl
  have p3 := fun c0 c1 c2 c3 c4 c5 c6 c7 => q c0 c1 c2 c3 c4 c5 c6 c7 3 _ rfl
  have p4 := fun c0 c1 c2 c3 c4 c5 c6 c7 => q c0 c1 c2 c3 c4 c5 c6 c7 4 _ rfl
  have p5 := fun c0 c1 c2 c3 c4 c5 c6 c7 => q c0 c1 c2 c3 c4 c5 c6 c7 5 _ rfl
  have p6 := fun c0 c1 c2 c3 c4 c5 c6 c7 => q c0 c1 c2 c3 c4 c5 c6 c7 6 _ rfl
  have p7 := fun c0 c1 c2 c3 c4 c5 c6 c7 => q c0 c1 c2 c3 c4 c5 c6 c7 7 _ rfl
  rw [Op.equalIn]
  simp only [Sem.run_bind, run_underlying ht, Result.andThen_ok, hz, Std.Legacy.Range.forIn_eq_forIn_range', Std.Legacy.Range.size]
  simp [List.range', p0, p1, p2, p3, p4, p5, p6, p7, run_equalIn_int w _ _ _ _ _ _ he]
  by_cases h0 : a0 = b0
  · by_cases h1 : a1 = b1
    · by_cases h2 : a2 = b2
      · by_cases h3 : a3 = b3
        · by_cases h4 : a4 = b4
          · by_cases h5 : a5 = b5
            · by_cases h6 : a6 = b6
              · by_cases h7 : a7 = b7 <;> simp [h0, h1, h2, h3, h4, h5, h6, h7]
              · simp [h0, h1, h2, h3, h4, h5, h6]
            · simp [h0, h1, h2, h3, h4, h5]
          · simp [h0, h1, h2, h3, h4]
        · simp [h0, h1, h2, h3]
      · simp [h0, h1, h2]
    · simp [h0, h1]
  · simp [h0]
theorem run_flgIn {d : Nat} {t : TypeId} {fs : Array Field} (ht : P.underlying t = some (.struct fs)) (hw : WordFields P fs.toList [.bool, .bool, .bool, .bool]) (ho : fs.toList.map (·.offset) = [0, 1, 2, 3])
    (hh : P.stoodInHeld t = false) (x y : Flg) (w : World) : (Op.equalIn (d + 1 + 1) t (.agg (encFlg.enc x).toArray) (.agg (encFlg.enc y).toArray)).run P w = .ok (decide (x = y)) w := by
  have hf : P.fieldsOf t = fs := by simp [Program.fieldsOf, ht]
  rw [run_equalIn_struct w _ t _ _ (by rw [hf]; exact ht) hh, hf]
  obtain ⟨h1, h2⟩ := flgEqEnc x y
  rw [run_eqFields_words _ _ _ w fs.toList _ hw (fun j f e hj he => h1 j f.offset e (by rw [← ho]; simp [hj]) he), ← h2, ← ho, List.all_map]
  rfl
/-- What is known of a machine's type. -/
structure MachTy (P : Program) (t : TypeId) : Prop where
  ex : ∃ (tr tp tf tu : TypeId) (f0 f1 f2 : Field) (fs : Array Field), P.underlying t = some (.struct #[f0, f1, f2]) ∧ f0.name ≠ "_" ∧ f1.name ≠ "_" ∧ f2.name ≠ "_" ∧ f0.type = tr ∧ f1.type = tp ∧ f2.type = tf ∧ f0.offset = 0 ∧ f1.offset = 8 ∧ f2.offset = 9 ∧
    P.stoodInHeld t = false ∧ P.underlying tr = some (.array 8 tu) ∧ (∀ w, (isAgg tr).run P w = .ok true w) ∧ (∀ w, (sizeOf tr).run P w = .ok 8 w) ∧ P.underlying tu = some (.int .u32) ∧ (∀ w, (sizeOf tu).run P w = .ok 1 w) ∧ (∀ w, (isAgg tu).run P w = .ok false w) ∧
    P.underlying tp = some (.int .u32) ∧ (∀ w, (isAgg tp).run P w = .ok false w) ∧ P.underlying tf = some (.struct fs) ∧ WordFields P fs.toList [.bool, .bool, .bool, .bool] ∧ fs.toList.map (·.offset) = [0, 1, 2, 3] ∧ P.stoodInHeld tf = false ∧ (∀ w, (isAgg tf).run P w = .ok true w) ∧ (∀ w, (sizeOf tf).run P w = .ok 4 w)
theorem mach_ext {x y : Mach} (h : (x.r0.toNat = y.r0.toNat ∧ x.r1.toNat = y.r1.toNat ∧ x.r2.toNat = y.r2.toNat ∧ x.r3.toNat = y.r3.toNat ∧ x.r4.toNat = y.r4.toNat ∧ x.r5.toNat = y.r5.toNat ∧ x.r6.toNat = y.r6.toNat ∧ x.r7.toNat = y.r7.toNat) ∧ x.pc.toNat = y.pc.toNat ∧ x.f = y.f) : x = y := by
  obtain ⟨⟨h0, h1, h2, h3, h4, h5, h6, h7⟩, h8, h9⟩ := h
  cases x; cases y
  simp only at h0 h1 h2 h3 h4 h5 h6 h7 h8 h9
  rw [UInt32.toNat_inj] at h0 h1 h2 h3 h4 h5 h6 h7 h8
  subst h0 h1 h2 h3 h4 h5 h6 h7 h8 h9
  rfl
theorem part_agg {t : TypeId} {cs vs : List Value} {o k : Nat} (ha : ∀ w, (isAgg t).run P w = .ok true w) (hz : ∀ w, (sizeOf t).run P w = .ok k w) (hv : (cs.drop o).take k = vs) (w : World) : (part t cs.toArray o).run P w = .ok (.agg vs.toArray) w := by
  have h1 : cs.toArray.extract o (o + k) = vs.toArray := by
    apply Array.toList_inj.1
    simp only [Array.toList_extract, List.extract]
    rw [show o + k - o = k by omega, hv]
  simp [part, ha, hz, hv]
open Classical in
theorem run_equalM {t : TypeId} (h : MachTy P t) (x y : Mach) (w : World) : (Op.equal t (.agg (encMach.enc x).toArray) (.agg (encMach.enc y).toArray)).run P w = .ok (decide (x = y)) w := by
  obtain ⟨tr, tp, tf, tu, f0, f1, f2, fs, ht, n0, n1, n2, y0, y1, y2, o0, o1, o2, hh, htr, hatr, hztr, htu, hztu, hatu, htp, hatp, htf, hwf, hof, hhf, hatf, hztf⟩ := h.ex
  have hf : P.fieldsOf t = #[f0, f1, f2] := by simp [Program.fieldsOf, ht]
  subst y0 y1 y2
  unfold Op.equal
  show (Op.equalIn (9997 + 1 + 1 + 1) t _ _).run P w = _
  rw [run_equalIn_struct w _ t _ _ (by rw [hf]; exact ht) hh, hf]
  have hr := run_eqFields_gen w (FieldsRun.cons (P := P) (d := 9997 + 1 + 1) (xs := (encMach.enc x).toArray) (ys := (encMach.enc y).toArray) (f := f0) (fs := [f1, f2]) n0
    (fun w => by rw [o0]; exact part_agg hatr hztr (vs := [.int .u32 x.r0.toNat, .int .u32 x.r1.toNat, .int .u32 x.r2.toNat, .int .u32 x.r3.toNat, .int .u32 x.r4.toNat, .int .u32 x.r5.toNat, .int .u32 x.r6.toNat, .int .u32 x.r7.toNat]) rfl w)
    (fun w => by rw [o0]; exact part_agg hatr hztr (vs := [.int .u32 y.r0.toNat, .int .u32 y.r1.toNat, .int .u32 y.r2.toNat, .int .u32 y.r3.toNat, .int .u32 y.r4.toNat, .int .u32 y.r5.toNat, .int .u32 y.r6.toNat, .int .u32 y.r7.toNat]) rfl w)
    (fun w => run_arr8 htr htu hztu hatu w)
    (FieldsRun.cons (f := f1) (fs := [f2]) n1 (fun w => by rw [o1]; exact part_word hatp (v := .int .u32 x.pc.toNat) rfl) (fun w => by rw [o1]; exact part_word hatp (v := .int .u32 y.pc.toNat) rfl)
      (fun w => run_equalIn_int w _ _ _ _ _ _ htp)
      (FieldsRun.cons (f := f2) (fs := []) n2 (fun w => by rw [o2]; exact part_agg hatf hztf (vs := encFlg.enc x.f) rfl w) (fun w => by rw [o2]; exact part_agg hatf hztf (vs := encFlg.enc y.f) rfl w)
        (fun w => run_flgIn htf hwf hof hhf x.f y.f w) .nil)))
  refine hr.trans ?_
  congr 1
  rw [Bool.eq_iff_iff]
  simp only [List.all_cons, List.all_nil, id, Bool.and_true, Bool.and_eq_true, decide_eq_true_eq, beq_iff_eq, Int.natCast_inj]
  constructor
  · rintro ⟨q1, q2, q3⟩; exact mach_ext ⟨q1, q2, q3⟩
  · rintro rfl; exact ⟨⟨rfl, rfl, rfl, rfl, rfl, rfl, rfl, rfl⟩, rfl, rfl⟩
end
section
variable {P : Program} {N : Nat} {F : Bg} {L : List Ent} {M : Fr} {dst : Option Tmp} {ty : TypeId} {pos : String} {after : Array Edge} {g : Option (Nat × Bool)}
open Classical in
open Classical in
theorem QS.neqM {x y : Operand} {t u : TypeId} {p q : Mach} (hx : opv M x = some (.agg (encMach.enc p).toArray)) (hy : opv M y = some (.agg (encMach.enc q).toArray)) (h : MachTy P t) (hg : P.eqGuardType P.depth t = false) :
    QS P N F L M ⟨dst, .binOp .neq t x y u, ty, pos, after, g⟩ (.bool (decide (p ≠ q))) :=
  QS.of_run fun a w ha _ => by
    simp [execOp, ha.eval hx, ha.eval hy, eqGuard_agg w hg, binOp, run_equalM h]
end
theorem srt_len : ∀ {xs : List UInt32} {b : Nat}, xs.Pairwise (· < ·) → (∀ a ∈ xs, b ≤ a.toNat) → b ≤ 4294967296 → b + xs.length ≤ 4294967296
  | [], b, _, _, hb => by simpa using hb
  | x :: xs, b, h, ha, hb => by
    rw [List.pairwise_cons] at h
    have h0 := ha x (.head _)
    have hx := x.toNat_lt
    have ih := srt_len (xs := xs) (b := x.toNat + 1) h.2 (fun a q => by have := UInt32.lt_iff_toNat_lt.1 (h.1 a q); omega) (by omega)
    rw [List.length_cons]
    omega
theorem IsChg.len {l : List SecV} {w : WrF} {xs : List UInt32} (h : IsChg l w xs) : xs.length ≤ 4294967296 := by
  have := srt_len (b := 0) h.1 (fun a _ => Nat.zero_le _) (by omega)
  omega
end Go.HL
namespace Go.Proofs.Ytpeaodkfbjenpaa
open Go Go.HL Go.RowKit
theorem machTy42 : MachTy Try.prog 42 :=
 ⟨⟨38, 22, 40, 22, _, _, _, _, Try.underlying42, by decide, by decide, by decide, rfl, rfl, rfl, rfl, rfl, rfl, by kernel_rfl, Try.underlying38, Try.isAgg38, Try.sizeOf38, Try.underlying22, Try.sizeOf22, Try.isAgg22, Try.underlying22, Try.isAgg22, Try.underlying40, HLF.words40 _ Try.underlying40, rfl, HLF.held40, Try.isAgg40, Try.sizeOf40⟩⟩
theorem eqg42 : Try.prog.eqGuardType Try.prog.depth 42 = false := by kernel_rfl
end Go.Proofs.Ytpeaodkfbjenpaa
namespace Go.Proofs.Ytpeaodkfbjenpaa
open Go Go.HL Go.RowKit
/-- No processor, or one that New did not make. -/
def NoCpu (h : Hp) (p : Option Addr) : Prop := p = none ∨ ∃ b, p = some ⟨b, 0, none⟩ ∧ Cell h b 13 (.pointer none)
theorem NoCpu.mono {h h' : Hp} {p : Option Addr} (c : NoCpu h p) (hh : Hp.le h h') : NoCpu h' p := c.imp id fun ⟨b, e, k⟩ => ⟨b, e, k.mono hh⟩
set_option maxRecDepth 100000 in
set_option maxHeartbeats 2000000 in
theorem cmade_zero (b : Nat) (w : World) (hc : Cell (hp w) b 13 (.pointer none)) :
  Calls Try.prog 37 #[.pointer (some ⟨b, 0, none⟩)] w (fun e w' => e = .returned (.bool false) ∧ Ext w w') := by
 have hc' : Cell (Bg.of w).blk b 13 (.pointer none) := hc
 refine enter Try.func37 rfl Try.ntmps37 rfl ?_
 refine Tr.seq (Tr.region ?_)
 refine Tr.q (QS.assign rfl) rfl ?_
 refine Tr.nil (Tr.thenN (Tr.seq (Tr.region ?_)))
 refine Tr.q (QS.move rfl) rfl ?_
 refine Tr.q (QS.neqPN rfl rfl Try.underlying27 rfl) rfl ?_
 refine Tr.q (QS.move rfl) rfl ?_
 apply Tr.andP
 ·exact (rfl : _ = (6, 5, 11))
 ·exact rfl
 ·intro hT1; have hT1' := hT1
  try simp only [bs] at hT1'
  refine Tr.gq rfl rfl hT1 (QS.move rfl) rfl ?_
  refine Tr.gq rfl rfl hT1 (QS.nilCheck rfl) rfl ?_
  refine Tr.gq rfl rfl hT1 (QS.fieldAddr (off := 13) (ft := 23) rfl Try.underlying47 rfl rfl Try.sizeOf23 (by decide)) rfl ?_
  refine Tr.gq rfl rfl hT1 (QS.loadC rfl hc' Try.isAgg23) rfl ?_
  refine Tr.gq rfl rfl hT1 (QS.neqPN rfl rfl Try.underlying23 rfl) rfl ?_
  refine Tr.q (QS.pickT rfl hT1 rfl) rfl ?_
  refine Tr.nil (Tr.thenN ?_)
  exact Tr.endX (Sub.cons rfl (Sub.dropN 6 (by kernel_rfl) rfl))
 ·intro hF1
  refine Tr.gskip rfl rfl hF1 rfl ?_
  refine Tr.gskip rfl rfl hF1 rfl ?_
  refine Tr.gskip rfl rfl hF1 rfl ?_
  refine Tr.gskip rfl rfl hF1 rfl ?_
  refine Tr.gskip rfl rfl hF1 rfl ?_
  refine Tr.q (QS.pickF rfl hF1 rfl) rfl ?_
  refine Tr.nil (Tr.thenN ?_)
  exact Tr.endX (Sub.cons rfl (Sub.dropN 6 (by kernel_rfl) rfl))
 refine Tr.q (QS.assign rfl) rfl ?_
 refine Tr.nil (Tr.thenN (Tr.ret ?_))
 refine Tr.ret1 Try.results37 rfl (fun w' hw => ?_)
 exact ⟨rfl, hw.below (Bg.le.refl _)⟩
end Go.Proofs.Ytpeaodkfbjenpaa
namespace Go.Proofs.Ytpeaodkfbjenpaa
open Go Go.HL Go.RowKit
theorem cmade_no (p : Option Addr) (w : World) (h : NoCpu (hp w) p) : Calls Try.prog 37 #[.pointer p] w (fun e w' => e = .returned (.bool false) ∧ Ext w w') := by
 rcases h with rfl | ⟨b, rfl, hc⟩
 ·exact cmade_nil w
 ·exact cmade_zero b w hc
set_option maxRecDepth 100000 in
set_option maxHeartbeats 2000000 in
theorem state_no (p : Option Addr) (w : World) (h : NoCpu (hp w) p) :
  Calls Try.prog 13 #[.pointer p] w (fun e w' => e = .returned (.agg (encMach.enc ⟨0, 0, 0, 0, 0, 0, 0, 0, 0, ⟨false, false, false, false⟩⟩).toArray) ∧ Ext w w') := by
 have h' : NoCpu (Bg.of w).blk p := h
 refine enter Try.func13 rfl Try.ntmps13 rfl ?_
 refine Tr.seq (Tr.region ?_)
 refine Tr.alloc Try.zeroValue42 rfl rfl (fun b1 => ?_)
 refine Tr.nil (Tr.thenN (Tr.seq (Tr.seq (Tr.region ?_))))
 refine Tr.q (QS.move rfl) rfl ?_
 refine Tr.q (QS.call rfl Try.call37 (fun w hw => cmade_no p w (h'.mono hw.bg))) rfl ?_
 refine Tr.q (QS.not rfl) rfl ?_
 refine Tr.nil (Tr.thenN ?_)
 refine Tr.cond rfl (fun h2 => ?_) (fun h2 => ?_)
 ·try simp only [bs] at h2
  refine Tr.seq (Tr.region ?_)
  refine Tr.q (QS.build (vs := []) rfl rfl (HLF.built42)) rfl ?_
  refine Tr.storeW rfl rfl Try.sizeOf42 (by repeat constructor) (by rfl) (by rfl) (by first | exact List.all_eq_true.1 rfl | exact Enc.one _ _ | exact Enc.one encMach _) rfl ?_
  refine Tr.nil (Tr.thenN (Tr.ret (Tr.thenR ?_)))
  refine Tr.retC1 Try.results13 rfl (by repeat constructor) Try.isAgg42 Try.sizeOf42 (by rfl) (fun w' hw => ?_)
  exact ⟨rfl, hw.below (Bg.le.refl _)⟩
 ·try simp only [bs] at h2
  first | contradiction | (exfalso; omega) | simp_all
set_option maxRecDepth 100000 in
set_option maxHeartbeats 2000000 in
theorem memory_no (p : Option Addr) (w : World) (h : NoCpu (hp w) p) :
  Calls Try.prog 11 #[.pointer p] w (fun e w' => e = .returned (.pointer none) ∧ Ext w w') := by
 have h' : NoCpu (Bg.of w).blk p := h
 refine enter Try.func11 rfl Try.ntmps11 rfl ?_
 refine Tr.seq (Tr.region ?_)
 refine Tr.q (QS.assign rfl) rfl ?_
 refine Tr.nil (Tr.thenN (Tr.seq (Tr.seq (Tr.region ?_))))
 refine Tr.q (QS.move rfl) rfl ?_
 refine Tr.q (QS.call rfl Try.call37 (fun w hw => cmade_no p w (h'.mono hw.bg))) rfl ?_
 refine Tr.q (QS.not rfl) rfl ?_
 refine Tr.nil (Tr.thenN ?_)
 refine Tr.cond rfl (fun h1 => ?_) (fun h1 => ?_)
 ·try simp only [bs] at h1
  refine Tr.seq (Tr.region ?_)
  refine Tr.q (QS.assign rfl) rfl ?_
  refine Tr.nil (Tr.thenN (Tr.ret (Tr.thenR ?_)))
  refine Tr.ret1 Try.results11 rfl (fun w' hw => ?_)
  exact ⟨rfl, hw.below (Bg.le.refl _)⟩
 ·try simp only [bs] at h1
  first | contradiction | (exfalso; omega) | simp_all
set_option maxRecDepth 100000 in
set_option maxHeartbeats 2000000 in
theorem output_no (p : Option Addr) (w : World) (h : NoCpu (hp w) p) :
  Calls Try.prog 19 #[.pointer p] w (fun e w' => e = .returned (.slice none 0 0) ∧ Ext w w') := by
 have h' : NoCpu (Bg.of w).blk p := h
 refine enter Try.func19 rfl Try.ntmps19 rfl ?_
 refine Tr.seq (Tr.region ?_)
 refine Tr.q (QS.assign rfl) rfl ?_
 refine Tr.nil (Tr.thenN (Tr.seq (Tr.seq (Tr.region ?_))))
 refine Tr.q (QS.move rfl) rfl ?_
 refine Tr.q (QS.call rfl Try.call37 (fun w hw => cmade_no p w (h'.mono hw.bg))) rfl ?_
 refine Tr.q (QS.not rfl) rfl ?_
 refine Tr.nil (Tr.thenN ?_)
 refine Tr.cond rfl (fun h1 => ?_) (fun h1 => ?_)
 ·try simp only [bs] at h1
  refine Tr.seq (Tr.region ?_)
  refine Tr.q (QS.assign rfl) rfl ?_
  refine Tr.nil (Tr.thenN (Tr.ret (Tr.thenR ?_)))
  refine Tr.ret1 Try.results19 rfl (fun w' hw => ?_)
  exact ⟨rfl, hw.below (Bg.le.refl _)⟩
 ·try simp only [bs] at h1
  first | contradiction | (exfalso; omega) | simp_all
set_option maxRecDepth 100000 in
set_option maxHeartbeats 2000000 in
theorem halted_no (p : Option Addr) (w : World) (h : NoCpu (hp w) p) :
  Calls Try.prog 20 #[.pointer p] w (fun e w' => e = .returned (.bool false) ∧ Ext w w') := by
 have h' : NoCpu (Bg.of w).blk p := h
 refine enter Try.func20 rfl Try.ntmps20 rfl ?_
 refine Tr.seq (Tr.region ?_)
 refine Tr.q (QS.assign rfl) rfl ?_
 refine Tr.nil (Tr.thenN (Tr.seq (Tr.region ?_)))
 refine Tr.q (QS.move rfl) rfl ?_
 refine Tr.q (QS.call rfl Try.call37 (fun w hw => cmade_no p w (h'.mono hw.bg))) rfl ?_
 refine Tr.q (QS.move rfl) rfl ?_
 apply Tr.andP (y := true)
 ·exact (rfl : _ = (5, 5, 10))
 ·exact rfl
 ·intro hT1; have hT1' := hT1
  try simp only [bs] at hT1'
  cases hT1
 ·intro hF1
  refine Tr.gskip rfl rfl hF1 rfl ?_
  refine Tr.gskip rfl rfl hF1 rfl ?_
  refine Tr.gskip rfl rfl hF1 rfl ?_
  refine Tr.gskip rfl rfl hF1 rfl ?_
  refine Tr.q (QS.pickF rfl hF1 rfl) rfl ?_
  refine Tr.nil (Tr.thenN ?_)
  exact Tr.endX (Sub.cons rfl (Sub.dropN 5 (by kernel_rfl) rfl))
 refine Tr.q (QS.assign rfl) rfl ?_
 refine Tr.nil (Tr.thenN (Tr.ret ?_))
 refine Tr.ret1 Try.results20 rfl (fun w' hw => ?_)
 exact ⟨rfl, hw.below (Bg.le.refl _)⟩
set_option maxRecDepth 100000 in
set_option maxHeartbeats 2000000 in
theorem step_no (p : Option Addr) (w : World) (h : NoCpu (hp w) p) :
  Calls Try.prog 18 #[.pointer p] w (fun e w' => e = .returned (.int .i64 1) ∧ Ext w w') := by
 have h' : NoCpu (Bg.of w).blk p := h
 refine enter Try.func18 rfl Try.ntmps18 rfl ?_
 refine Tr.seq (Tr.region ?_)
 refine Tr.q (QS.assign rfl) rfl ?_
 refine Tr.nil (Tr.thenN (Tr.seq (Tr.block (Tr.seq (Tr.region ?_)))))
 refine Tr.q (QS.move rfl) rfl ?_
 refine Tr.q (QS.call rfl Try.call37 (fun w hw => cmade_no p w (h'.mono hw.bg))) rfl ?_
 refine Tr.q (QS.not rfl) rfl ?_
 refine Tr.q (QS.assign rfl) rfl ?_
 refine Tr.nil (Tr.thenN ?_)
 refine Tr.cond rfl (fun h1 => ?_) (fun h1 => ?_)
 ·try simp only [bs] at h1
  refine Tr.seq (Tr.region ?_)
  refine Tr.q (QS.assign rfl) rfl ?_
  refine Tr.nil (Tr.thenN (Tr.ret ?_))
  refine Tr.inR ?_
  refine Tr.thenR ?_
  refine Tr.ret1 Try.results18 rfl (fun w' hw => ?_)
  exact ⟨rfl, hw.below (Bg.le.refl _)⟩
 ·try simp only [bs] at h1
  first | contradiction | (exfalso; omega) | simp_all
set_option maxRecDepth 100000 in
set_option maxHeartbeats 2000000 in
theorem trace_no (p : Option Addr) (n : Int) (w : World) (h : NoCpu (hp w) p) :
  Calls Try.prog 16 #[.pointer p, .int .i64 n] w (fun e w' => e = .returned (.tuple #[.slice none 0 0, .agg #[.int .i64 1, .slice none 0 0, .int .i64 0]]) ∧ Ext w w') := by
 have h' : NoCpu (Bg.of w).blk p := h
 refine enter Try.func16 rfl Try.ntmps16 rfl ?_
 refine Tr.seq (Tr.region ?_)
 refine Tr.q (QS.assign rfl) rfl ?_
 refine Tr.alloc Try.zeroValue50 rfl rfl (fun b1 => ?_)
 refine Tr.nil (Tr.thenN (Tr.seq (Tr.seq (Tr.region ?_))))
 refine Tr.q (QS.move rfl) rfl ?_
 refine Tr.q (QS.call rfl Try.call37 (fun w hw => cmade_no p w (h'.mono hw.bg))) rfl ?_
 refine Tr.q (QS.not rfl) rfl ?_
 refine Tr.nil (Tr.thenN ?_)
 refine Tr.cond rfl (fun h2 => ?_) (fun h2 => ?_)
 ·try simp only [bs] at h2
  refine Tr.seq (Tr.region ?_)
  refine Tr.q (QS.build (vs := [(0, _)]) rfl rfl (HLF.built50_0 _)) rfl ?_
  refine Tr.q (QS.assign rfl) rfl ?_
  first | refine Tr.storeW rfl rfl Try.sizeOf50 (by repeat constructor) (by rfl) (by rfl) (by first | exact List.all_eq_true.1 rfl | exact Enc.one _ _ | (intro u hu; simp [Value.cells] at hu; simp_all [Value.oneCell'])) rfl ?_ | refine Tr.storeV (cs' := [_, _, _]) rfl rfl Try.sizeOf50 (by repeat constructor) rfl (by rfl) (by first | exact Nat.le_of_ble_eq_true rfl | simp) (by first | exact List.all_eq_true.1 rfl | (intro u hu; simp [Value.cells] at hu; simp_all [Value.oneCell'])) rfl ?_
  refine Tr.nil (Tr.thenN (Tr.ret (Tr.thenR ?_)))
  refine Tr.retTC Try.results16 rfl rfl (by repeat constructor) Try.isAgg50 Try.sizeOf50 (by rfl) (fun w' hw => ?_)
  exact ⟨rfl, hw.below (Bg.le.refl _)⟩
 ·try simp only [bs] at h2
  first | contradiction | (exfalso; omega) | simp_all
set_option maxRecDepth 100000 in
set_option maxHeartbeats 2000000 in
theorem run_no (p : Option Addr) (n : Int) (w : World) (h : NoCpu (hp w) p) :
  Calls Try.prog 17 #[.pointer p, .int .i64 n] w (fun e w' => e = .returned (.agg #[.int .i64 1, .slice none 0 0, .int .i64 0]) ∧ Ext w w') := by
 have h' : NoCpu (Bg.of w).blk p := h
 refine enter Try.func17 rfl Try.ntmps17 rfl ?_
 refine Tr.seq (Tr.region ?_)
 refine Tr.alloc Try.zeroValue50 rfl rfl (fun b1 => ?_)
 refine Tr.nil (Tr.thenN (Tr.seq (Tr.region ?_)))
 refine Tr.q (QS.move rfl) rfl ?_
 refine Tr.q (QS.move rfl) rfl ?_
 refine Tr.q (QS.call rfl Try.call16 (fun w hw => trace_no p n w (h'.mono hw.bg))) rfl ?_
 refine Tr.q (QS.move rfl) rfl ?_
 refine Tr.q (QS.extract rfl rfl) rfl ?_
 refine Tr.q (QS.extract rfl rfl) rfl ?_
 refine Tr.alloc Try.zeroValue50 rfl rfl (fun b2 => ?_)
 refine Tr.q (QS.assign rfl) rfl ?_
 first | refine Tr.storeW rfl rfl Try.sizeOf50 (by repeat constructor) (by rfl) (by rfl) (by first | exact List.all_eq_true.1 rfl | exact Enc.one _ _ | (intro u hu; simp [Value.cells] at hu; simp_all [Value.oneCell'])) rfl ?_ | refine Tr.storeV (cs' := [_, _, _]) rfl rfl Try.sizeOf50 (by repeat constructor) rfl (by rfl) (by first | exact Nat.le_of_ble_eq_true rfl | simp) (by first | exact List.all_eq_true.1 rfl | (intro u hu; simp [Value.cells] at hu; simp_all [Value.oneCell'])) rfl ?_
 refine Tr.nil (Tr.thenN (Tr.seq (Tr.region ?_)))
 refine Tr.q (QS.lW rfl Try.isAgg50 Try.sizeOf50) rfl ?_
 first | refine Tr.storeW rfl rfl Try.sizeOf50 (by repeat constructor) (by rfl) (by rfl) (by first | exact List.all_eq_true.1 rfl | exact Enc.one _ _ | (intro u hu; simp [Value.cells] at hu; simp_all [Value.oneCell'])) rfl ?_ | refine Tr.storeV (cs' := [_, _, _]) rfl rfl Try.sizeOf50 (by repeat constructor) rfl (by rfl) (by first | exact Nat.le_of_ble_eq_true rfl | simp) (by first | exact List.all_eq_true.1 rfl | (intro u hu; simp [Value.cells] at hu; simp_all [Value.oneCell'])) rfl ?_
 refine Tr.nil (Tr.thenN (Tr.ret ?_))
 refine Tr.retC1 Try.results17 rfl (by repeat constructor) Try.isAgg50 Try.sizeOf50 (by rfl) (fun w' hw => ?_)
 exact ⟨rfl, hw.below (Bg.le.refl _)⟩
end Go.Proofs.Ytpeaodkfbjenpaa
namespace Go.Proofs.Ytpeaodkfbjenpaa
open Go Go.HL Go.RowKit
/-- No memory, or one that New did not make. -/
def NoMem (h : Hp) (p : Option Addr) : Prop := p = none ∨ ∃ b, p = some ⟨b, 0, none⟩ ∧ Cell h b 1 (.map none)
theorem NoMem.mono {h h' : Hp} {p : Option Addr} (c : NoMem h p) (hh : Hp.le h h') : NoMem h' p := c.imp id fun ⟨b, e, k⟩ => ⟨b, e, k.mono hh⟩
set_option maxRecDepth 100000 in
set_option maxHeartbeats 2000000 in
theorem mmade_zero (b : Nat) (w : World) (hc : Cell (hp w) b 1 (.map none)) :
  Calls Try.prog 38 #[.pointer (some ⟨b, 0, none⟩)] w (fun e w' => e = .returned (.bool false) ∧ Ext w w') := by
 have hc' : Cell (Bg.of w).blk b 1 (.map none) := hc
 refine enter Try.func38 rfl Try.ntmps38 rfl ?_
 refine Tr.seq (Tr.region ?_)
 refine Tr.q (QS.assign rfl) rfl ?_
 refine Tr.nil (Tr.thenN (Tr.seq (Tr.region ?_)))
 refine Tr.q (QS.move rfl) rfl ?_
 refine Tr.q (QS.neqPN rfl rfl Try.underlying23 rfl) rfl ?_
 refine Tr.q (QS.move rfl) rfl ?_
 apply Tr.andP
 ·exact (rfl : _ = (6, 5, 11))
 ·exact rfl
 ·intro hT1; have hT1' := hT1
  try simp only [bs] at hT1'
  refine Tr.gq rfl rfl hT1 (QS.move rfl) rfl ?_
  refine Tr.gq rfl rfl hT1 (QS.nilCheck rfl) rfl ?_
  refine Tr.gq rfl rfl hT1 (QS.fieldAddr (off := 1) (ft := 31) rfl Try.underlying33 rfl rfl Try.sizeOf31 (by decide)) rfl ?_
  refine Tr.gq rfl rfl hT1 (QS.loadC rfl hc' Try.isAgg31) rfl ?_
  refine Tr.gq rfl rfl hT1 (QS.neqMN rfl rfl Try.underlying31 rfl) rfl ?_
  refine Tr.q (QS.pickT rfl hT1 rfl) rfl ?_
  refine Tr.nil (Tr.thenN ?_)
  exact Tr.endX (Sub.cons rfl (Sub.dropN 6 (by kernel_rfl) rfl))
 ·intro hF1
  refine Tr.gskip rfl rfl hF1 rfl ?_
  refine Tr.gskip rfl rfl hF1 rfl ?_
  refine Tr.gskip rfl rfl hF1 rfl ?_
  refine Tr.gskip rfl rfl hF1 rfl ?_
  refine Tr.gskip rfl rfl hF1 rfl ?_
  refine Tr.q (QS.pickF rfl hF1 rfl) rfl ?_
  refine Tr.nil (Tr.thenN ?_)
  exact Tr.endX (Sub.cons rfl (Sub.dropN 6 (by kernel_rfl) rfl))
 refine Tr.q (QS.assign rfl) rfl ?_
 refine Tr.nil (Tr.thenN (Tr.ret ?_))
 refine Tr.ret1 Try.results38 rfl (fun w' hw => ?_)
 exact ⟨rfl, hw.below (Bg.le.refl _)⟩
end Go.Proofs.Ytpeaodkfbjenpaa
namespace Go.Proofs.Ytpeaodkfbjenpaa
open Go Go.HL Go.RowKit
theorem mmade_no (p : Option Addr) (w : World) (h : NoMem (hp w) p) : Calls Try.prog 38 #[.pointer p] w (fun e w' => e = .returned (.bool false) ∧ Ext w w') := by
  rcases h with rfl | ⟨b, rfl, hc⟩
  · exact mmade_nil w
  · exact mmade_zero b w hc
set_option maxRecDepth 100000 in
set_option maxHeartbeats 2000000 in
theorem mclo_no (p : Option Addr) (w : World) (h : NoMem (hp w) p) :
    Calls Try.prog 34 #[.pointer p] w (fun e w' => e = .returned (.pointer none) ∧ Ext w w') := by
  have h' : NoMem (Bg.of w).blk p := h
  refine enter Try.func34 rfl Try.ntmps34 rfl ?_
  refine Tr.seq ?_
  refine Tr.region ?_
  refine Tr.q (QS.assign rfl) rfl ?_
  refine Tr.nil ?_
  refine Tr.thenN ?_
  refine Tr.seq ?_
  refine Tr.seq ?_
  refine Tr.region ?_
  refine Tr.q (QS.move rfl) rfl ?_
  refine Tr.q (QS.call rfl Try.call38 (fun w hw => mmade_no p w (h'.mono hw.bg))) rfl ?_
  refine Tr.q (QS.not rfl) rfl ?_
  refine Tr.nil ?_
  refine Tr.thenN ?_
  refine Tr.cond rfl (fun h1 => ?_) (fun h1 => ?_)
  · try simp only [bs] at h1
    refine Tr.seq ?_
    refine Tr.region ?_
    refine Tr.q (QS.assign rfl) rfl ?_
    refine Tr.nil ?_
    refine Tr.thenN ?_
    refine Tr.ret ?_
    refine Tr.thenR ?_
    refine Tr.ret1 Try.results34 rfl (fun w' hw => ?_)
    exact ⟨rfl, hw.below (Bg.le.refl _)⟩
  · try simp only [bs] at h1
    first | contradiction | (exfalso; omega) | simp_all
set_option maxRecDepth 100000 in
set_option maxHeartbeats 2000000 in
theorem newc_no (p : Option Addr) (a : UInt32) (vi0 : Value) (w : World) (h : NoMem (hp w) p) :
    Calls Try.prog 10 #[.pointer p, .int .u32 a.toNat, vi0] w (fun e w' => e = .returned (.tuple #[.pointer none, .int .i64 1]) ∧ Ext w w') := by
  have h' : NoMem (Bg.of w).blk p := h
  refine enter Try.func10 rfl Try.ntmps10 rfl ?_
  refine Tr.seq ?_
  refine Tr.region ?_
  refine Tr.q (QS.assign rfl) rfl ?_
  refine Tr.q (QS.assign rfl) rfl ?_
  refine Tr.nil ?_
  refine Tr.thenN ?_
  refine Tr.seq ?_
  refine Tr.region ?_
  refine Tr.q (QS.move rfl) rfl ?_
  refine Tr.q (QS.call rfl Try.call34 (fun w hw => mclo_no p w (h'.mono hw.bg))) rfl ?_
  refine Tr.q (QS.assign rfl) rfl ?_
  refine Tr.nil ?_
  refine Tr.thenN ?_
  refine Tr.seq ?_
  refine Tr.seq ?_
  refine Tr.region ?_
  refine Tr.q (QS.move rfl) rfl ?_
  refine Tr.q (QS.eqlPN rfl rfl Try.underlying23 rfl) rfl ?_
  refine Tr.nil ?_
  refine Tr.thenN ?_
  refine Tr.cond rfl (fun h1 => ?_) (fun h1 => ?_)
  · try simp only [bs] at h1
    refine Tr.seq ?_
    refine Tr.region ?_
    refine Tr.q (QS.assign rfl) rfl ?_
    refine Tr.q (QS.assign rfl) rfl ?_
    refine Tr.nil ?_
    refine Tr.thenN ?_
    refine Tr.ret ?_
    refine Tr.thenR ?_
    refine Tr.ret2 Try.results10 rfl rfl (fun w' hw => ?_)
    exact ⟨rfl, hw.below (Bg.le.refl _)⟩
  · try simp only [bs] at h1
    first | contradiction | (exfalso; omega) | simp_all
set_option maxRecDepth 100000 in
set_option maxHeartbeats 8000000 in
theorem newc_long (bM0 bm0 : Nat) (VR0 vi0 : Value) (rs : List RegV) (l : List SecV) (wl : WL) (p : UInt32) (inp : List UInt32) (w : World) (hM : MemAt (hp w) bM0 bm0 VR0 rs) (hW : MapIn (hp w) bm0 u8V wl) (hO : MemOK l rs) (hwl : mread wl = fun _ => none) (hin : Sl (hp w) encU32 inp vi0) (hil : 4096 < inp.length) :
    Calls Try.prog 10 #[.pointer (some ⟨bM0, 0, none⟩), .int .u32 p.toNat, vi0] w (fun e w' => e = .returned (.tuple #[.pointer none, .int .i64 6]) ∧ Below w.heap.size w w') := by
  have hM' : MemAt (Bg.of0 w).blk bM0 bm0 VR0 rs := hM
  have hW' : MapIn (Bg.of0 w).blk bm0 u8V wl := hW
  have hin' : Sl (Bg.of0 w).blk encU32 inp vi0 := hin
  have hrl := hO.bounds.1
  refine enter0 Try.func10 rfl Try.ntmps10 rfl ?_
  refine Tr.seq ?_
  refine Tr.region ?_
  refine Tr.q (QS.assign rfl) rfl ?_
  refine Tr.q (QS.assign rfl) rfl ?_
  refine Tr.nil ?_
  refine Tr.thenN ?_
  refine Tr.seq ?_
  refine Tr.region ?_
  refine Tr.q (QS.move rfl) rfl ?_
  refine Tr.callEnts (fun i : Nat × Nat × Value => .pointer (some ⟨i.1, 0, none⟩)) (fun i => [cellE i.1 [i.2.2, .map (some i.2.1)] 33, mapE i.2.1 u8V wl, rowE i.2.2 86 encReg rs]) (ok := fun _ => True) rfl Try.call34 (fun w hw => mclo_any bM0 bm0 VR0 rs wl w (hM'.mono hw.bg) (hW'.mono hw.bg) (by omega)) rfl (fun i _ => ?_)
  refine Tr.q (QS.assign rfl) rfl ?_
  refine Tr.nil ?_
  refine Tr.thenN ?_
  refine Tr.seq ?_
  refine Tr.seq ?_
  refine Tr.region ?_
  refine Tr.q (QS.move rfl) rfl ?_
  refine Tr.q (QS.eqlPN rfl rfl Try.underlying23 rfl) rfl ?_
  refine Tr.nil ?_
  refine Tr.thenN ?_
  refine Tr.cond rfl (fun h1 => ?_) (fun h1 => ?_)
  · try simp only [bs] at h1
    first | contradiction | (exfalso; omega) | simp_all
  · try simp only [bs] at h1
    refine Tr.skip ?_
    refine Tr.thenN ?_
    refine Tr.seq ?_
    refine Tr.seq ?_
    refine Tr.region ?_
    refine Tr.q (QS.move rfl) rfl ?_
    first | refine Tr.q (QS.len rfl (by assumption) Try.underlying34) rfl ?_ | refine Tr.q (QS.lenRow rfl (by repeat (first | exact List.Mem.head _ | apply List.Mem.tail)) Try.underlying34) rfl ?_ | refine Tr.q (QS.lenNil rfl Try.underlying34) rfl ?_
    refine Tr.q (QS.gtr rfl rfl) rfl ?_
    refine Tr.nil ?_
    refine Tr.thenN ?_
    refine Tr.cond rfl (fun h2 => ?_) (fun h2 => ?_)
    · try simp only [bs] at h2
      refine Tr.seq ?_
      refine Tr.region ?_
      refine Tr.q (QS.assign rfl) rfl ?_
      refine Tr.q (QS.assign rfl) rfl ?_
      refine Tr.nil ?_
      refine Tr.thenN ?_
      refine Tr.ret ?_
      refine Tr.thenR ?_
      refine Tr.ret2 Try.results10 rfl rfl (fun w' hw => ?_)
      exact ⟨rfl, hw.below0 (Bg.le.refl _)⟩
    · try simp only [bs] at h2
      first | contradiction | (exfalso; omega) | simp_all
set_option maxRecDepth 100000 in
set_option maxHeartbeats 2000000 in
theorem start_ref (p : UInt32) (w : World) :
    Calls Try.prog 14 #[.int .u32 p.toNat] w (fun e w' => e = .returned (.agg (encMach.enc (startM p)).toArray) ∧ Ext w w') := by
  refine enter Try.func14 rfl Try.ntmps14 rfl ?_
  refine Tr.seq ?_
  refine Tr.region ?_
  refine Tr.alloc Try.zeroValue42 rfl rfl (fun b1 => ?_)
  refine Tr.nil ?_
  refine Tr.thenN ?_
  refine Tr.seq ?_
  refine Tr.region ?_
  refine Tr.alloc Try.zeroValue42 rfl rfl (fun b2 => ?_)
  refine Tr.nil ?_
  refine Tr.thenN ?_
  refine Tr.seq ?_
  refine Tr.region ?_
  refine Tr.q (QS.fieldAddr (off := 0) (ft := 38) rfl Try.underlying42 rfl rfl Try.sizeOf38 (by decide)) rfl ?_
  refine Tr.q (QS.idxArr rfl rfl Try.underlying38 Try.sizeOf22 (by omega)) rfl ?_
  refine Tr.storeV (cs' := [_, _, _, _, _, _, _, _, _, _, _, _, _]) rfl rfl Try.sizeOf22 (by repeat (first | exact Put.here _ | apply Put.there)) rfl (by rfl) (by first | exact Nat.le_of_ble_eq_true rfl | simp) (by first | exact List.all_eq_true.1 rfl | (intro u hu; simp [Value.cells] at hu; simp_all [Value.oneCell'])) rfl ?_
  refine Tr.nil ?_
  refine Tr.thenN ?_
  refine Tr.seq ?_
  refine Tr.region ?_
  refine Tr.q (QS.move rfl) rfl ?_
  refine Tr.q (QS.fieldAddr (off := 8) (ft := 22) rfl Try.underlying42 rfl rfl Try.sizeOf22 (by decide)) rfl ?_
  refine Tr.storeV (cs' := [_, _, _, _, _, _, _, _, _, _, _, _, _]) rfl rfl Try.sizeOf22 (by repeat (first | exact Put.here _ | apply Put.there)) rfl (by rfl) (by first | exact Nat.le_of_ble_eq_true rfl | simp) (by first | exact List.all_eq_true.1 rfl | (intro u hu; simp [Value.cells] at hu; simp_all [Value.oneCell'])) rfl ?_
  refine Tr.nil ?_
  refine Tr.thenN ?_
  refine Tr.seq ?_
  refine Tr.region ?_
  refine Tr.q (QS.lW rfl Try.isAgg42 Try.sizeOf42) rfl ?_
  refine Tr.storeW rfl rfl Try.sizeOf42 (by repeat (first | exact Put.here _ | apply Put.there)) (by rfl) (by rfl) (by first | exact List.all_eq_true.1 rfl | exact Enc.one _ _ | exact Enc.one encMach _) rfl ?_
  refine Tr.nil ?_
  refine Tr.thenN ?_
  refine Tr.ret ?_
  refine Tr.retC1 Try.results14 rfl (by repeat (first | exact List.Mem.head _ | apply List.Mem.tail)) Try.isAgg42 Try.sizeOf42 (by rfl) (fun w' hw => ?_)
  exact ⟨rfl, hw.below (Bg.le.refl _)⟩
end Go.Proofs.Ytpeaodkfbjenpaa
namespace Go.HL
open Go Go.RowKit
def encPtr : Enc (Option Addr) := ⟨1, fun p => [.pointer p], fun _ => rfl, fun x v h => by simp at h; subst h; rfl⟩
theorem new_top0 (p : UInt32) : loadA [] (newS p).w 983036 4 = (leP [(shr32 4294967295 0).toUInt8, (shr32 4294967295 8).toUInt8, (shr32 4294967295 16).toUInt8, (shr32 4294967295 24).toUInt8], 0) := by kernel_rfl
theorem new_top (p : UInt32) : loadA [] (newS p).w 983036 4 = (4294967295, 0) := by rw [new_top0, leP_word]
theorem new_zero : loadA [] (mread []) 983036 4 = (0, 0) := by kernel_rfl
theorem nil_chk : checkS [] = 0 := by kernel_rfl
theorem nil_secB : SecB [] := ⟨by simp, by simp⟩
end Go.HL
