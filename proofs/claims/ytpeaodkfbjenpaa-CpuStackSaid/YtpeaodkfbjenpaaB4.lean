/- Own rules and walks, part 4. -/
import Derived.Test.YtpeaodkfbjenpaaB3
set_option linter.unusedSimpArgs false
set_option linter.unusedVariables false
set_option linter.unusedSectionVars false
namespace Go.Proofs.Ytpeaodkfbjenpaa
open Go Go.HL Go.RowKit
def effF (op : Int) : Nat :=
 if op = 3 ∨ op = 4 then 74 else if op = 16 ∨ op = 17 ∨ op = 18 then 75 else if op = 20 ∨ op = 21 ∨ op = 22 then 76 else if op = 23 ∨ op = 24 ∨ op = 2 then 77 else if op = 26 ∨ op = 27 then 78 else 79
def effV (op : Int) : Value := .func (.func (effF op)) #[] #[]
set_option maxRecDepth 100000 in
set_option maxHeartbeats 2000000 in
theorem cmade_any (s : St) (bc bM : Nat) (vi vo eff : Value) (w : World) (hc : CellsIn (hp w) bc (cpuC s bM vi vo eff)) :
  Calls Try.prog 37 #[.pointer (some ⟨bc, 0, none⟩)] w (fun e w' => e = .returned (.bool true) ∧ Ext w w') := by
 have hc' : CellsIn (Bg.of w).blk bc (cpuC s bM vi vo eff) := hc
 refine enter Try.func37 rfl Try.ntmps37 rfl ?_
 refine Tr.seq (Tr.region ?_)
 refine Tr.q (QS.assign rfl) rfl ?_
 refine Tr.nil (Tr.thenN (Tr.seq (Tr.region ?_)))
 refine Tr.q (QS.move rfl) rfl ?_
 refine Tr.q (QS.neqPN rfl rfl Try.underlying27 rfl) rfl ?_
 refine Tr.q (QS.move rfl) rfl ?_
 apply Tr.andP
 ·exact (rfl : _ = (6, 5, 11))
 ·exact rfl
 ·intro hT1; have hT1' := hT1
  try simp only [bs] at hT1'
  refine Tr.gq rfl rfl hT1 (QS.move rfl) rfl ?_
  refine Tr.gq rfl rfl hT1 (QS.nilCheck rfl) rfl ?_
  refine Tr.gq rfl rfl hT1 (QS.fieldAddr (off := 13) (ft := 23) rfl Try.underlying47 rfl rfl Try.sizeOf23 (by decide)) rfl ?_
  refine Tr.gq rfl rfl hT1 (QS.loadCF rfl (by assumption) Try.isAgg23 (by rfl)) rfl ?_
  refine Tr.gq rfl rfl hT1 (QS.neqPN rfl rfl Try.underlying23 rfl) rfl ?_
  refine Tr.q (QS.pickT rfl hT1 rfl) rfl ?_
  refine Tr.nil (Tr.thenN ?_)
  exact Tr.endX (Sub.cons rfl (Sub.dropN 6 (by kernel_rfl) rfl))
 ·intro hF1
  refine Tr.gskip rfl rfl hF1 rfl ?_
  refine Tr.gskip rfl rfl hF1 rfl ?_
  refine Tr.gskip rfl rfl hF1 rfl ?_
  refine Tr.gskip rfl rfl hF1 rfl ?_
  refine Tr.gskip rfl rfl hF1 rfl ?_
  refine Tr.q (QS.pickF rfl hF1 rfl) rfl ?_
  refine Tr.nil (Tr.thenN ?_)
  exact Tr.endX (Sub.cons rfl (Sub.dropN 6 (by kernel_rfl) rfl))
 refine Tr.q (QS.assign rfl) rfl ?_
 refine Tr.nil (Tr.thenN (Tr.ret ?_))
 refine Tr.ret1 Try.results37 rfl (fun w' hw => ?_)
 exact ⟨rfl, hw.below (Bg.le.refl _)⟩
set_option maxRecDepth 100000 in
set_option maxHeartbeats 2000000 in
theorem source_cpu (s : St) (bc bM : Nat) (vi vo eff : Value) (i : Ins) (w : World) (hc : CellsIn (hp w) bc (cpuC s bM vi vo eff)) (hB : 0 ≤ i.b ∧ i.b < 8) :
  Calls Try.prog 90 #[.pointer (some ⟨bc, 0, none⟩), .agg (encIns.enc i).toArray] w (fun e w' => e = .returned (.int .u32 (srcP s.m i).toNat) ∧ Ext w w') := by
 have hc' : CellsIn (Bg.of w).blk bc (cpuC s bM vi vo eff) := hc
 refine enter Try.func90 rfl Try.ntmps90 rfl ?_
 refine Tr.seq (Tr.region ?_)
 refine Tr.box rfl rfl rfl (fun b1 => ?_)
 refine Tr.q (QS.assign rfl) rfl ?_
 refine Tr.nil (Tr.thenN (Tr.seq (Tr.seq (Tr.region ?_))))
 refine Tr.q (QS.fieldAddr (off := 3) (ft := 3) rfl Try.underlying67 rfl rfl Try.sizeOf3 (by decide)) rfl ?_
 refine Tr.q (QS.lV rfl Try.isAgg3) rfl ?_
 refine Tr.q (QS.eql rfl rfl) rfl ?_
 refine Tr.nil (Tr.thenN ?_)
 refine Tr.cond rfl (fun h2 => ?_) (fun h2 => ?_)
 ·try simp only [bs] at h2
  refine Tr.seq ?_
  refine Tr.regionH ([cellE b1 (encIns.enc i) 67]) 9 rfl HLF.mixed ?_
  refine Tr.hT 0 rfl (by kernel_rfl) (panicThen (panicThen panicBody)) (QS.move rfl) ?_
  refine Tr.hT 1 rfl (by kernel_rfl) (panicThen (panicThen panicBody)) (QS.fieldAddr (off := 7) (ft := 3) rfl Try.underlying67 rfl rfl Try.sizeOf3 (by decide)) ?_
  refine Tr.hT 2 rfl (by kernel_rfl) (panicThen (panicThen panicBody)) (QS.lV rfl Try.isAgg3) ?_
  refine Tr.hT 3 rfl (by kernel_rfl) (panicThen (panicThen panicBody)) (QS.nilCheck rfl) ?_
  refine Tr.hT 4 rfl (by kernel_rfl) (panicThen (panicThen panicBody)) (QS.fieldAddr (off := 0) (ft := 42) rfl Try.underlying47 rfl rfl Try.sizeOf42 (by decide)) ?_
  refine Tr.hT 5 rfl (by kernel_rfl) (panicThen (panicThen panicBody)) (QS.fieldAddr (off := 0) (ft := 38) rfl Try.underlying42 rfl rfl Try.sizeOf38 (by decide)) ?_
  refine Tr.hT 6 rfl (by kernel_rfl) (panicThen (panicThen panicBody)) (QS.idxArr rfl rfl Try.underlying38 Try.sizeOf22 (by omega)) ?_
  refine Tr.hT 7 rfl (by kernel_rfl) (panicThen (panicThen panicBody)) (QS.loadCF rfl hc' Try.isAgg22 (cpuC_reg hB (by simp))) ?_
  refine Tr.hT 8 rfl (by kernel_rfl) (panicThen (panicThen panicBody)) (QS.assign rfl) ?_
  refine Tr.hDone (by kernel_rfl) ?_
  refine Tr.thenN (Tr.ret (Tr.thenR ?_))
  refine Tr.ret1 Try.results90 rfl (fun w' hw => ?_)
  exact ⟨by unfold srcP; rw [if_pos (by assumption)], hw.below (Bg.le.refl _)⟩
 ·try simp only [bs] at h2
  refine Tr.skip (Tr.thenN (Tr.seq (Tr.region ?_)))
  refine Tr.q (QS.fieldAddr (off := 1) (ft := 22) rfl Try.underlying67 rfl rfl Try.sizeOf22 (by decide)) rfl ?_
  refine Tr.q (QS.lV rfl Try.isAgg22) rfl ?_
  refine Tr.q (QS.assign rfl) rfl ?_
  refine Tr.nil (Tr.thenN (Tr.ret ?_))
  refine Tr.ret1 Try.results90 rfl (fun w' hw => ?_)
  exact ⟨by unfold srcP; rw [if_neg (by assumption)], hw.below (Bg.le.refl _)⟩
set_option maxRecDepth 100000 in
set_option maxHeartbeats 2000000 in
theorem next_cpu (s : St) (bc bM : Nat) (vi vo eff : Value) (i : Ins) (w : World) (ho : OwnAt w [cellE bc (cpuC s bM vi vo eff) 47]) (hI : InsOK i) :
  Calls Try.prog 87 #[.pointer (some ⟨bc, 0, none⟩), .agg (encIns.enc i).toArray] w (fun e w' => ∃ _ : Unit, e = .returned (.tuple #[]) ∧ Upd 0 w w' (blks [cellE bc (cpuC s bM vi vo eff) 47]) [cellE bc (cpuC (s.to (nextP i)) bM vi vo eff) 47] ∧ True) := by
 refine enterB (L := [cellE bc (cpuC s bM vi vo eff) 47]) ho rfl (Nat.zero_le _) Try.func87 rfl Try.ntmps87 rfl ?_
 refine Tr.seq (Tr.region ?_)
 refine Tr.box rfl rfl rfl (fun b1 => ?_)
 refine Tr.nil (Tr.thenN (Tr.region ?_))
 refine Tr.q (QS.move rfl) rfl ?_
 refine Tr.q (QS.lW rfl Try.isAgg67 Try.sizeOf67) rfl ?_
 refine Tr.q (QS.call rfl Try.call88 (fun w hw => next_isa i w hI)) rfl ?_
 refine Tr.q (QS.nilCheck rfl) rfl ?_
 refine Tr.q (QS.fieldAddr (off := 0) (ft := 42) rfl Try.underlying47 rfl rfl Try.sizeOf42 (by decide)) rfl ?_
 refine Tr.q (QS.fieldAddr (off := 8) (ft := 22) rfl Try.underlying42 rfl rfl Try.sizeOf22 (by decide)) rfl ?_
 refine Tr.storeV rfl rfl Try.sizeOf22 (by repeat constructor) (cpuC_to _) (by rfl) (by exact Nat.le_of_ble_eq_true rfl) (by first | exact List.all_eq_true.1 rfl | exact Enc.one _ _ | (intro u hu; simp [Value.cells] at hu; simp_all [Value.oneCell'])) rfl ?_
 refine Tr.nil ?_
 refine Tr.ret0n Try.results87 (fun w' hw => ?_)
 exact ⟨(), rfl, hw.upd (Bg.le.refl _) (by repeat' constructor), trivial⟩
set_option maxRecDepth 100000 in
set_option maxHeartbeats 8000000 in
theorem plain_cpu (s : St) (bc bM : Nat) (vi vo eff : Value) (i : Ins) (w : World) (ho : OwnAt w [cellE bc (cpuC s bM vi vo eff) 47]) (hI : InsOK i) (hA : 0 ≤ i.a ∧ i.a < 8) (hB : 0 ≤ i.b ∧ i.b < 8) :
  Calls Try.prog 79 #[.pointer (some ⟨bc, 0, none⟩), .agg (encIns.enc i).toArray] w (fun e w' => ∃ _ : Unit, e = .returned (.int .i64 0) ∧ Upd 0 w w' (blks [cellE bc (cpuC s bM vi vo eff) 47]) [cellE bc (cpuC (plainS s i (nextP i)) bM vi vo eff) 47] ∧ True) := by
 refine enterB (L := [cellE bc (cpuC s bM vi vo eff) 47]) ho rfl (Nat.zero_le _) Try.func79 rfl Try.ntmps79 rfl ?_
 refine Tr.seq (Tr.region ?_)
 refine Tr.box rfl rfl rfl (fun b1 => ?_)
 refine Tr.q (QS.assign rfl) rfl ?_
 refine Tr.nil (Tr.thenN (Tr.seq ?_))
 refine Tr.regionH ([cellE bc (cpuC s bM vi vo eff) 47, cellE b1 (encIns.enc i) 67]) 13 rfl HLF.mixed ?_
 refine Tr.hT 0 rfl (by kernel_rfl) (panicThen panicBody) (QS.move rfl) ?_
 refine Tr.hT 1 rfl (by kernel_rfl) (panicThen panicBody) (QS.fieldAddr (off := 6) (ft := 3) rfl Try.underlying67 rfl rfl Try.sizeOf3 (by decide)) ?_
 refine Tr.hT 2 rfl (by kernel_rfl) (panicThen panicBody) (QS.lV rfl Try.isAgg3) ?_
 refine Tr.hT 3 rfl (by kernel_rfl) (panicThen panicBody) (QS.nilCheck rfl) ?_
 refine Tr.hT 4 rfl (by kernel_rfl) (panicThen panicBody) (QS.fieldAddr (off := 0) (ft := 42) rfl Try.underlying47 rfl rfl Try.sizeOf42 (by decide)) ?_
 refine Tr.hT 5 rfl (by kernel_rfl) (panicThen panicBody) (QS.fieldAddr (off := 0) (ft := 38) rfl Try.underlying42 rfl rfl Try.sizeOf38 (by decide)) ?_
 refine Tr.hT 6 rfl (by kernel_rfl) (panicThen panicBody) (QS.idxArr rfl rfl Try.underlying38 Try.sizeOf22 (by omega)) ?_
 refine Tr.hT 7 rfl (by kernel_rfl) (panicThen panicBody) (QS.loadV rfl (by repeat constructor) Try.isAgg22 (cpuC_reg hA (by simp))) ?_
 refine Tr.hT 8 rfl (by kernel_rfl) (panicThen panicBody) (QS.move rfl) ?_
 refine Tr.hT 9 rfl (by kernel_rfl) (panicThen panicBody) (QS.lW rfl Try.isAgg67 Try.sizeOf67) ?_
 refine Tr.hAll [10] (by kernel_rfl) (by simp) (fun iq hq => ?_)
 obtain rfl := List.mem_singleton.1 hq
 refine Tr.hOp rfl ?_
 refine Tr.q (QS.call rfl Try.call90 (fun w hw => source_cpu s bc bM vi vo eff i w (cellE.cellsIn (hw.ent _ (by repeat constructor)) (Ext.refl _)) hB)) rfl ?_
 refine Tr.hN ?_
 refine Tr.hT 11 rfl (by kernel_rfl) (panicThen panicBody) (QS.assign rfl) ?_
 refine Tr.hT 12 rfl (by kernel_rfl) (panicThen panicBody) (QS.assign rfl) ?_
 refine Tr.hDone (by kernel_rfl) ?_
 refine Tr.thenN (Tr.seq ?_)
 refine Tr.regionH ([cellE bc (cpuC s bM vi vo eff) 47, cellE b1 (encIns.enc i) 67]) 9 rfl HLF.mixed ?_
 refine Tr.hT 0 rfl (by kernel_rfl) (panicThen panicBody) (QS.move rfl) ?_
 refine Tr.hT 1 rfl (by kernel_rfl) (panicThen panicBody) (QS.move rfl) ?_
 refine Tr.hT 2 rfl (by kernel_rfl) (panicThen panicBody) (QS.nilCheck rfl) ?_
 refine Tr.hT 3 rfl (by kernel_rfl) (panicThen panicBody) (QS.fieldAddr (off := 0) (ft := 42) rfl Try.underlying47 rfl rfl Try.sizeOf42 (by decide)) ?_
 refine Tr.hT 4 rfl (by kernel_rfl) (panicThen panicBody) (QS.fieldAddr (off := 9) (ft := 40) rfl Try.underlying42 rfl rfl Try.sizeOf40 (by decide)) ?_
 refine Tr.hT 5 rfl (by kernel_rfl) (panicThen panicBody) (QS.loadVA (vs := encFlg.enc s.m.f) rfl (by repeat constructor) Try.isAgg40 Try.sizeOf40 rfl rfl) ?_
 refine Tr.hAll [6] (by kernel_rfl) (by simp) (fun iq hq => ?_)
 obtain rfl := List.mem_singleton.1 hq
 refine Tr.hOp rfl ?_
 refine Tr.alloc Try.zeroValue40 rfl rfl (fun b2 => ?_)
 refine Tr.hN ?_
 refine Tr.hT 7 rfl (by kernel_rfl) (panicThen panicBody) (QS.assign rfl) ?_
 refine Tr.hAll [8] (by kernel_rfl) (by simp) (fun iq hq => ?_)
 obtain rfl := List.mem_singleton.1 hq
 refine Tr.hOp rfl ?_
 refine Tr.storeW rfl rfl Try.sizeOf40 (by repeat constructor) (by rfl) (by rfl) (by first | exact List.all_eq_true.1 rfl | exact Enc.one _ _ | exact Enc.one encFlg _) rfl ?_
 refine Tr.hN ?_
 refine Tr.hDone (by kernel_rfl) ?_
 refine Tr.thenN ?_
 refine Tr.seqJ (ι := UInt32 × Flg × Bool) (fun ⟨r, f, dn⟩ => r = (aluP s.m i).1 ∧ f = (aluP s.m i).2 ∧ dn = (decide (i.op = 1) || s.done)) (fun _ => (Bg.lessB w (blks [cellE bc (cpuC s bM vi vo eff) 47]) 0)) (fun ⟨r, f, dn⟩ => [cellE b2 (encFlg.enc f) 40, cellE b1 (encIns.enc i) 67, cellE bc (cpuC { s with done := dn } bM vi vo eff) 47]) (fun ⟨r, f, dn⟩ => [(7, .int .u32 r.toNat)]) ?_ (fun i hi => ?_)
 ·skip
  refine Tr.seq (Tr.region ?_)
  refine Tr.q (QS.fieldAddr (off := 2) (ft := 3) rfl Try.underlying67 rfl rfl Try.sizeOf3 (by decide)) rfl ?_
  refine Tr.q (QS.lV rfl Try.isAgg3) rfl ?_
  refine Tr.nil (Tr.thenN (Tr.block (Tr.seq (Tr.region ?_))))
  refine Tr.q (QS.eql rfl rfl) rfl ?_
  refine Tr.q (QS.assign rfl) rfl ?_
  refine Tr.nil (Tr.thenN ?_)
  refine Tr.cond rfl (fun h3 => ?_) (fun h3 => ?_)
  ·try simp only [bs] at h3
   refine Tr.region ?_
   refine Tr.q (QS.move rfl) rfl ?_
   refine Tr.q (QS.nilCheck rfl) rfl ?_
   refine Tr.q (QS.fieldAddr (off := 17) (ft := 4) rfl Try.underlying47 rfl rfl Try.sizeOf4 (by decide)) rfl ?_
   refine Tr.storeV rfl rfl Try.sizeOf4 (by repeat constructor) ((rfl : splice (cpuC s bM vi vo eff) 17 [.bool true] = cpuC { s with done := true } bM vi vo eff)) (by rfl) (by exact Nat.le_of_ble_eq_true rfl) (by first | exact List.all_eq_true.1 rfl | exact Enc.one _ _ | (intro u hu; simp [Value.cells] at hu; simp_all [Value.oneCell'])) rfl ?_
   refine Tr.nil (Tr.inN (Tr.thenN ?_))
   apply Tr.joined (s.m.reg i.a, s.m.f, true)
   ·exact rfl
   ·exact (.cons (by first | rfl | exact lookI rfl (by omega) | exact lookI rfl (by rw [hh]; rfl) | exact lookI rfl (by simp) | exact lookB rfl (by simp)) Front.nil)
   ·exact SubX.dropN 7 (by kernel_rfl) rfl
   ·exact (by repeat' constructor)
   ·exact ⟨by unfold aluP; repeat (first | rw [if_pos (by omega)] | rw [if_neg (by omega)]), by unfold aluP; repeat (first | rw [if_pos (by omega)] | rw [if_neg (by omega)]), by first | (rw [decide_eq_true (by omega)]; rfl) | (rw [decide_eq_false (by omega)]; rfl)⟩
  ·try simp only [bs] at h3
   refine Tr.seq (Tr.region ?_)
   refine Tr.q (QS.eql rfl rfl) rfl ?_
   refine Tr.q (QS.assign rfl) rfl ?_
   refine Tr.nil (Tr.thenN ?_)
   refine Tr.cond rfl (fun h4 => ?_) (fun h4 => ?_)
   ·try simp only [bs] at h4
    refine Tr.region ?_
    refine Tr.q (QS.move rfl) rfl ?_
    refine Tr.q (QS.assign rfl) rfl ?_
    refine Tr.nil (Tr.inN (Tr.thenN ?_))
    apply Tr.joined (srcP s.m i, s.m.f, s.done)
    ·exact rfl
    ·exact (.cons (by first | rfl | exact lookI rfl (by omega) | exact lookI rfl (by rw [hh]; rfl) | exact lookI rfl (by simp) | exact lookB rfl (by simp)) Front.nil)
    ·exact SubX.dropN 8 (by kernel_rfl) rfl
    ·exact (by repeat' constructor)
    ·exact ⟨by unfold aluP; repeat (first | rw [if_pos (by omega)] | rw [if_neg (by omega)]), by unfold aluP; repeat (first | rw [if_pos (by omega)] | rw [if_neg (by omega)]), by first | (rw [decide_eq_true (by omega)]; rfl) | (rw [decide_eq_false (by omega)]; rfl)⟩
   ·try simp only [bs] at h4
    refine Tr.seq (Tr.region ?_)
    refine Tr.q (QS.eql rfl rfl) rfl ?_
    refine Tr.q (QS.assign rfl) rfl ?_
    refine Tr.nil (Tr.thenN ?_)
    refine Tr.cond rfl (fun h5 => ?_) (fun h5 => ?_)
    ·try simp only [bs] at h5
     refine Tr.region ?_
     refine Tr.q (QS.move rfl) rfl ?_
     refine Tr.q (QS.move rfl) rfl ?_
     refine Tr.q (QS.call rfl Try.call24 (fun w hw => add_bits (s.m.reg i.a) (srcP s.m i) w)) rfl ?_
     refine Tr.q (QS.move rfl) rfl ?_
     refine Tr.q (QS.extract rfl rfl) rfl ?_
     refine Tr.q (QS.extract rfl rfl) rfl ?_
     refine Tr.q (QS.assign rfl) rfl ?_
     refine Tr.storeW rfl rfl Try.sizeOf40 (by repeat constructor) (by rfl) (by rfl) (by first | exact List.all_eq_true.1 rfl | exact Enc.one _ _ | exact Enc.one encFlg _) rfl ?_
     refine Tr.nil (Tr.inN (Tr.thenN ?_))
     apply Tr.joined (s.m.reg i.a + srcP s.m i, addF (s.m.reg i.a) (srcP s.m i), s.done)
     ·exact rfl
     ·exact (.cons (by first | rfl | exact lookI rfl (by omega) | exact lookI rfl (by rw [hh]; rfl) | exact lookI rfl (by simp) | exact lookB rfl (by simp)) Front.nil)
     ·exact SubX.dropN 15 (by kernel_rfl) rfl
     ·exact (by repeat' constructor)
     ·exact ⟨by unfold aluP; repeat (first | rw [if_pos (by omega)] | rw [if_neg (by omega)]), by unfold aluP; repeat (first | rw [if_pos (by omega)] | rw [if_neg (by omega)]), by first | (rw [decide_eq_true (by omega)]; rfl) | (rw [decide_eq_false (by omega)]; rfl)⟩
    ·try simp only [bs] at h5
     refine Tr.seq (Tr.region ?_)
     refine Tr.q (QS.eql rfl rfl) rfl ?_
     refine Tr.q (QS.assign rfl) rfl ?_
     refine Tr.nil (Tr.thenN ?_)
     refine Tr.cond rfl (fun h6 => ?_) (fun h6 => ?_)
     ·try simp only [bs] at h6
      refine Tr.region ?_
      refine Tr.q (QS.move rfl) rfl ?_
      refine Tr.q (QS.move rfl) rfl ?_
      refine Tr.q (QS.call rfl Try.call25 (fun w hw => sub_bits (s.m.reg i.a) (srcP s.m i) w)) rfl ?_
      refine Tr.q (QS.move rfl) rfl ?_
      refine Tr.q (QS.extract rfl rfl) rfl ?_
      refine Tr.q (QS.extract rfl rfl) rfl ?_
      refine Tr.q (QS.assign rfl) rfl ?_
      refine Tr.storeW rfl rfl Try.sizeOf40 (by repeat constructor) (by rfl) (by rfl) (by first | exact List.all_eq_true.1 rfl | exact Enc.one _ _ | exact Enc.one encFlg _) rfl ?_
      refine Tr.nil (Tr.inN (Tr.thenN ?_))
      apply Tr.joined (s.m.reg i.a - srcP s.m i, subF (s.m.reg i.a) (srcP s.m i), s.done)
      ·exact rfl
      ·exact (.cons (by first | rfl | exact lookI rfl (by omega) | exact lookI rfl (by rw [hh]; rfl) | exact lookI rfl (by simp) | exact lookB rfl (by simp)) Front.nil)
      ·exact SubX.dropN 17 (by kernel_rfl) rfl
      ·exact (by repeat' constructor)
      ·exact ⟨by unfold aluP; repeat (first | rw [if_pos (by omega)] | rw [if_neg (by omega)]), by unfold aluP; repeat (first | rw [if_pos (by omega)] | rw [if_neg (by omega)]), by first | (rw [decide_eq_true (by omega)]; rfl) | (rw [decide_eq_false (by omega)]; rfl)⟩
     ·try simp only [bs] at h6
      refine Tr.seq (Tr.region ?_)
      refine Tr.q (QS.eql rfl rfl) rfl ?_
      refine Tr.q (QS.assign rfl) rfl ?_
      refine Tr.nil (Tr.thenN ?_)
      refine Tr.cond rfl (fun h7 => ?_) (fun h7 => ?_)
      ·try simp only [bs] at h7
       refine Tr.region ?_
       refine Tr.q (QS.move rfl) rfl ?_
       refine Tr.q (QS.move rfl) rfl ?_
       refine Tr.q (QS.call rfl Try.call25 (fun w hw => sub_bits (s.m.reg i.a) (srcP s.m i) w)) rfl ?_
       refine Tr.q (QS.move rfl) rfl ?_
       refine Tr.q (QS.extract rfl rfl) rfl ?_
       refine Tr.q (QS.extract rfl rfl) rfl ?_
       refine Tr.storeW rfl rfl Try.sizeOf40 (by repeat constructor) (by rfl) (by rfl) (by first | exact List.all_eq_true.1 rfl | exact Enc.one _ _ | exact Enc.one encFlg _) rfl ?_
       refine Tr.nil (Tr.inN (Tr.thenN ?_))
       apply Tr.joined (s.m.reg i.a, subF (s.m.reg i.a) (srcP s.m i), s.done)
       ·exact rfl
       ·exact (.cons (by first | rfl | exact lookI rfl (by omega) | exact lookI rfl (by rw [hh]; rfl) | exact lookI rfl (by simp) | exact lookB rfl (by simp)) Front.nil)
       ·exact SubX.dropN 18 (by kernel_rfl) rfl
       ·exact (by repeat' constructor)
       ·exact ⟨by unfold aluP; repeat (first | rw [if_pos (by omega)] | rw [if_neg (by omega)]), by unfold aluP; repeat (first | rw [if_pos (by omega)] | rw [if_neg (by omega)]), by first | (rw [decide_eq_true (by omega)]; rfl) | (rw [decide_eq_false (by omega)]; rfl)⟩
      ·try simp only [bs] at h7
       refine Tr.seq (Tr.region ?_)
       refine Tr.q (QS.eql rfl rfl) rfl ?_
       refine Tr.q (QS.assign rfl) rfl ?_
       refine Tr.nil (Tr.thenN ?_)
       refine Tr.cond rfl (fun h8 => ?_) (fun h8 => ?_)
       ·try simp only [bs] at h8
        refine Tr.regionH ([cellE bc (cpuC s bM vi vo eff) 47, cellE b1 (encIns.enc i) 67]) 12 rfl HLF.mixed ?_
        refine Tr.hT 0 rfl (by kernel_rfl) (panicIn (panicThen panicBody)) (QS.move rfl) ?_
        refine Tr.hT 1 rfl (by kernel_rfl) (panicIn (panicThen panicBody)) (QS.fieldAddr (off := 7) (ft := 3) rfl Try.underlying67 rfl rfl Try.sizeOf3 (by decide)) ?_
        refine Tr.hT 2 rfl (by kernel_rfl) (panicIn (panicThen panicBody)) (QS.lV rfl Try.isAgg3) ?_
        refine Tr.hT 3 rfl (by kernel_rfl) (panicIn (panicThen panicBody)) (QS.nilCheck rfl) ?_
        refine Tr.hT 4 rfl (by kernel_rfl) (panicIn (panicThen panicBody)) (QS.fieldAddr (off := 0) (ft := 42) rfl Try.underlying47 rfl rfl Try.sizeOf42 (by decide)) ?_
        refine Tr.hT 5 rfl (by kernel_rfl) (panicIn (panicThen panicBody)) (QS.fieldAddr (off := 0) (ft := 38) rfl Try.underlying42 rfl rfl Try.sizeOf38 (by decide)) ?_
        refine Tr.hT 6 rfl (by kernel_rfl) (panicIn (panicThen panicBody)) (QS.idxArr rfl rfl Try.underlying38 Try.sizeOf22 (by omega)) ?_
        refine Tr.hT 7 rfl (by kernel_rfl) (panicIn (panicThen panicBody)) (QS.loadV rfl (by repeat constructor) Try.isAgg22 (cpuC_reg hB (by simp))) ?_
        refine Tr.hT 8 rfl (by kernel_rfl) (panicIn (panicThen panicBody)) (QS.fieldAddr (off := 1) (ft := 22) rfl Try.underlying67 rfl rfl Try.sizeOf22 (by decide)) ?_
        refine Tr.hT 9 rfl (by kernel_rfl) (panicIn (panicThen panicBody)) (QS.lV rfl Try.isAgg22) ?_
        refine Tr.hT 10 rfl (by kernel_rfl) (panicIn (panicThen panicBody)) (QS.add32 rfl rfl) ?_
        refine Tr.hT 11 rfl (by kernel_rfl) (panicIn (panicThen panicBody)) (QS.assign rfl) ?_
        refine Tr.hDone (by kernel_rfl) ?_
        refine Tr.inN (Tr.thenN ?_)
        apply Tr.joined (s.m.reg i.b + i.imm, s.m.f, s.done)
        ·exact rfl
        ·exact (.cons (by first | rfl | exact lookI rfl (by omega) | exact lookI rfl (by rw [hh]; rfl) | exact lookI rfl (by simp) | exact lookB rfl (by simp)) Front.nil)
        ·exact SubX.dropN 26 (by kernel_rfl) rfl
        ·exact (by repeat' constructor)
        ·exact ⟨by unfold aluP; repeat (first | rw [if_pos (by omega)] | rw [if_neg (by omega)]), by unfold aluP; repeat (first | rw [if_pos (by omega)] | rw [if_neg (by omega)]), by first | (rw [decide_eq_true (by omega)]; rfl) | (rw [decide_eq_false (by omega)]; rfl)⟩
       ·try simp only [bs] at h8
        refine Tr.seq (Tr.region ?_)
        refine Tr.q (QS.eql rfl rfl) rfl ?_
        refine Tr.q (QS.assign rfl) rfl ?_
        refine Tr.nil (Tr.thenN ?_)
        refine Tr.cond rfl (fun h9 => ?_) (fun h9 => ?_)
        ·try simp only [bs] at h9
         refine Tr.seq (Tr.region ?_)
         refine Tr.q (QS.assign rfl) rfl ?_
         refine Tr.nil (Tr.thenN (Tr.seq (Tr.region ?_)))
         refine Tr.q (QS.fieldAddr (off := 5) (ft := 3) rfl Try.underlying67 rfl rfl Try.sizeOf3 (by decide)) rfl ?_
         refine Tr.q (QS.lV rfl Try.isAgg3) rfl ?_
         refine Tr.q (QS.lW rfl Try.isAgg40 Try.sizeOf40) rfl ?_
         refine Tr.q (QS.call rfl Try.call89 (fun w hw => holds_bits i.cc s.m.f w)) rfl ?_
         refine Tr.nil (Tr.thenN ?_)
         refine Tr.cond rfl (fun h10 => ?_) (fun h10 => ?_)
         ·try simp only [bs] at h10
          refine Tr.region ?_
          refine Tr.q (QS.assign rfl) rfl ?_
          refine Tr.nil (Tr.inN (Tr.thenN ?_))
          have hh : holdsP i.cc s.m.f = true := by assumption
          apply Tr.joined (num01 (holdsP i.cc s.m.f), s.m.f, s.done)
          ·exact rfl
          ·exact (.cons (by first | rfl | exact lookI rfl (by omega) | exact lookI rfl (by rw [hh]; rfl) | exact lookI rfl (by simp) | exact lookB rfl (by simp)) Front.nil)
          ·exact SubX.dropN 22 (by kernel_rfl) rfl
          ·exact (by repeat' constructor)
          ·exact ⟨by unfold aluP; repeat (first | rw [if_pos (by omega)] | rw [if_neg (by omega)]), by unfold aluP; repeat (first | rw [if_pos (by omega)] | rw [if_neg (by omega)]), by first | (rw [decide_eq_true (by omega)]; rfl) | (rw [decide_eq_false (by omega)]; rfl)⟩
         ·try simp only [bs] at h10
          refine Tr.skip (Tr.inN (Tr.thenN ?_))
          have hh : holdsP i.cc s.m.f = false := by simp_all
          apply Tr.joined (num01 (holdsP i.cc s.m.f), s.m.f, s.done)
          ·exact rfl
          ·exact (.cons (by first | rfl | exact lookI rfl (by omega) | exact lookI rfl (by rw [hh]; rfl) | exact lookI rfl (by simp) | exact lookB rfl (by simp)) Front.nil)
          ·exact SubX.dropN 21 (by kernel_rfl) rfl
          ·exact (by repeat' constructor)
          ·exact ⟨by unfold aluP; repeat (first | rw [if_pos (by omega)] | rw [if_neg (by omega)]), by unfold aluP; repeat (first | rw [if_pos (by omega)] | rw [if_neg (by omega)]), by first | (rw [decide_eq_true (by omega)]; rfl) | (rw [decide_eq_false (by omega)]; rfl)⟩
        ·try simp only [bs] at h9
         refine Tr.seq (Tr.seq (Tr.region ?_))
         refine Tr.q (QS.eql rfl rfl) rfl ?_
         refine Tr.q (QS.assign rfl) rfl ?_
         refine Tr.nil (Tr.thenN ?_)
         apply Tr.condOr
         ·exact rfl
         ·intro hO11
          try simp only [bs] at hO11
          refine Tr.seq (Tr.region ?_)
          refine Tr.q (QS.eql rfl rfl) rfl ?_
          refine Tr.q (QS.assign rfl) rfl ?_
          refine Tr.nil (Tr.thenN ?_)
          apply Tr.condOr
          ·exact rfl
          ·intro hO12
           try simp only [bs] at hO12
           refine Tr.seq (Tr.region ?_)
           refine Tr.q (QS.eql rfl rfl) rfl ?_
           refine Tr.q (QS.assign rfl) rfl ?_
           refine Tr.nil (Tr.thenN ?_)
           apply Tr.condOr
           ·exact rfl
           ·intro hO13
            try simp only [bs] at hO13
            refine Tr.seq (Tr.region ?_)
            refine Tr.q (QS.eql rfl rfl) rfl ?_
            refine Tr.q (QS.assign rfl) rfl ?_
            refine Tr.nil (Tr.thenN ?_)
            apply Tr.condOr
            ·exact rfl
            ·intro hO14
             try simp only [bs] at hO14
             refine Tr.seq (Tr.region ?_)
             refine Tr.q (QS.eql rfl rfl) rfl ?_
             refine Tr.q (QS.assign rfl) rfl ?_
             refine Tr.nil (Tr.thenN ?_)
             apply Tr.condOr
             ·exact rfl
             ·intro hO15
              try simp only [bs] at hO15
              refine Tr.seq (Tr.region ?_)
              refine Tr.q (QS.eql rfl rfl) rfl ?_
              refine Tr.q (QS.assign rfl) rfl ?_
              refine Tr.nil (Tr.thenN ?_)
              apply Tr.condOr
              ·exact rfl
              ·intro hO16
               try simp only [bs] at hO16
               refine Tr.region ?_
               refine Tr.q (QS.eql rfl rfl) rfl ?_
               refine Tr.q (QS.assign rfl) rfl ?_
               refine Tr.nil (Tr.thenN ?_)
               exact Tr.endOr rfl (SubX.dropN 2 (by kernel_rfl) rfl)
              refine Tr.thenN ?_
              exact Tr.endOr rfl (SubX.dropN 3 (by kernel_rfl) rfl)
             refine Tr.thenN ?_
             exact Tr.endOr rfl (SubX.dropN 3 (by kernel_rfl) rfl)
            refine Tr.thenN ?_
            exact Tr.endOr rfl (SubX.dropN 3 (by kernel_rfl) rfl)
           refine Tr.thenN ?_
           exact Tr.endOr rfl (SubX.dropN 3 (by kernel_rfl) rfl)
          refine Tr.thenN ?_
          exact Tr.endOr rfl (SubX.dropN 3 (by kernel_rfl) rfl)
         refine Tr.thenN ?_
         refine Tr.cond rfl (fun h17 => ?_) (fun h17 => ?_)
         ·try simp only [bs] at h17
          refine Tr.seq (Tr.region ?_)
          refine Tr.q (QS.build (vs := [(0, _), (1, _), (2, _), (3, _), (4, _), (5, _), (6, _)]) rfl rfl (HLF.built138_0_1_2_3_4_5_6 _ _ _ _ _ _ _)) rfl ?_
          refine Tr.alloc Try.zeroValue138 rfl rfl (fun b18 => ?_)
          refine Tr.storeW rfl rfl Try.sizeOf138 (by repeat constructor) (by rfl) (by rfl) (by first | exact List.all_eq_true.1 rfl | exact Enc.one _ _ | (intro u hu; simp [Value.cells] at hu; simp_all [Value.oneCell'])) rfl ?_
          refine Tr.nil (Tr.thenN (Tr.seq (Tr.region ?_)))
          refine Tr.q (QS.fieldAddr (off := 2) (ft := 3) rfl Try.underlying67 rfl rfl Try.sizeOf3 (by decide)) rfl ?_
          refine Tr.q (QS.lV rfl Try.isAgg3) rfl ?_
          refine Tr.q (QS.subI rfl rfl (by omega)) rfl ?_
          refine Tr.q (QS.idxArr rfl rfl Try.underlying138 Try.sizeOf3 (by omega)) rfl ?_
          refine Tr.q (QS.loadV (v := .int .i64 (aluP.opX i.op)) rfl (by repeat constructor) Try.isAgg3 (opx_get (by omega) (by simp))) rfl ?_
          refine Tr.q (QS.move rfl) rfl ?_
          refine Tr.q (QS.move rfl) rfl ?_
          refine Tr.q (QS.call rfl Try.call22 (fun w hw => apply_bits (aluP.opX i.op) (s.m.reg i.a) (srcP s.m i) w)) rfl ?_
          refine Tr.q (QS.move rfl) rfl ?_
          refine Tr.q (QS.extract rfl rfl) rfl ?_
          refine Tr.q (QS.extract rfl rfl) rfl ?_
          refine Tr.q (QS.assign rfl) rfl ?_
          refine Tr.nil (Tr.thenN (Tr.region ?_))
          refine Tr.q (QS.move rfl) rfl ?_
          refine Tr.q (QS.call rfl Try.call23 (fun w hw => logic_bits (appP (aluP.opX i.op) (s.m.reg i.a) (srcP s.m i)).1 w)) rfl ?_
          refine Tr.storeW rfl rfl Try.sizeOf40 (by repeat constructor) (by rfl) (by rfl) (by first | exact List.all_eq_true.1 rfl | exact Enc.one _ _ | exact Enc.one encFlg _) rfl ?_
          refine Tr.nil (Tr.inN (Tr.thenN ?_))
          rw [app_opx (by omega)]
          apply Tr.joined ((binP (aluP.opX i.op) (s.m.reg i.a) (srcP s.m i)), logF (binP (aluP.opX i.op) (s.m.reg i.a) (srcP s.m i)), s.done)
          ·exact rfl
          ·exact (.cons (by first | rfl | exact lookI rfl (by omega) | exact lookI rfl (by rw [hh]; rfl) | exact lookI rfl (by simp) | exact lookB rfl (by simp)) Front.nil)
          ·exact SubX.dropN 35 (by kernel_rfl) rfl
          ·exact (by repeat' constructor)
          ·exact ⟨by unfold aluP; repeat (first | rw [if_pos (by omega)] | rw [if_neg (by omega)]), by unfold aluP; repeat (first | rw [if_pos (by omega)] | rw [if_neg (by omega)]), by first | (rw [decide_eq_true (by omega)]; rfl) | (rw [decide_eq_false (by omega)]; rfl)⟩
         ·try simp only [bs] at h17
          refine Tr.skip (Tr.inN (Tr.thenN ?_))
          apply Tr.joined (s.m.reg i.a, s.m.f, s.done)
          ·exact rfl
          ·exact (.cons (by first | rfl | exact lookI rfl (by omega) | exact lookI rfl (by rw [hh]; rfl) | exact lookI rfl (by simp) | exact lookB rfl (by simp)) Front.nil)
          ·exact SubX.dropN 19 (by kernel_rfl) rfl
          ·exact (by repeat' constructor)
          ·exact ⟨by unfold aluP; repeat (first | rw [if_pos (by omega)] | rw [if_neg (by omega)]), by unfold aluP; repeat (first | rw [if_pos (by omega)] | rw [if_neg (by omega)]), by first | (rw [decide_eq_true (by omega)]; rfl) | (rw [decide_eq_false (by omega)]; rfl)⟩
 ·obtain ⟨r, f, dn⟩ := i
  replace hi : r = (aluP s.m i).1 ∧ f = (aluP s.m i).2 ∧ dn = (decide (i.op = 1) || s.done) := hi
  change Tr _ _ [cellE b2 (encFlg.enc f) 40, cellE b1 (encIns.enc i) 67, cellE bc (cpuC { s with done := dn } bM vi vo eff) 47] ([(7, .int .u32 r.toNat)] ++ _) _
  obtain ⟨hr, hf, hdn⟩ := hi
  refine Tr.seqJ (ι := Unit) (fun u => True) (fun _ => (Bg.lessB w (blks [cellE bc (cpuC s bM vi vo eff) 47]) 0)) (fun u => [cellE b2 (encFlg.enc f) 40, cellE b1 (encIns.enc i) 67, cellE bc (cpuC (({ s with done := dn }.setR i.a r).setF f) bM vi vo eff) 47]) (fun u => []) ?_ (fun u hi => ?_)
  ·skip
   refine Tr.regionH ([cellE b2 (encFlg.enc f) 40, cellE b1 (encIns.enc i) 67]) 15 rfl HLF.mixed ?_
   refine Tr.hT 0 rfl (by kernel_rfl) (panicThen panicBody) (QS.move rfl) ?_
   refine Tr.hT 1 rfl (by kernel_rfl) (panicThen panicBody) (QS.fieldAddr (off := 6) (ft := 3) rfl Try.underlying67 rfl rfl Try.sizeOf3 (by decide)) ?_
   refine Tr.hT 2 rfl (by kernel_rfl) (panicThen panicBody) (QS.lV rfl Try.isAgg3) ?_
   refine Tr.hT 3 rfl (by kernel_rfl) (panicThen panicBody) (QS.move rfl) ?_
   refine Tr.hT 4 rfl (by kernel_rfl) (panicThen panicBody) (QS.move rfl) ?_
   refine Tr.hT 5 rfl (by kernel_rfl) (panicThen panicBody) (QS.lW rfl Try.isAgg40 Try.sizeOf40) ?_
   refine Tr.hT 6 rfl (by kernel_rfl) (panicThen panicBody) (QS.nilCheck rfl) ?_
   refine Tr.hT 7 rfl (by kernel_rfl) (panicThen panicBody) (QS.fieldAddr (off := 0) (ft := 42) rfl Try.underlying47 rfl rfl Try.sizeOf42 (by decide)) ?_
   refine Tr.hT 8 rfl (by kernel_rfl) (panicThen panicBody) (QS.fieldAddr (off := 0) (ft := 38) rfl Try.underlying42 rfl rfl Try.sizeOf38 (by decide)) ?_
   refine Tr.hT 9 rfl (by kernel_rfl) (panicThen panicBody) (QS.idxArr rfl rfl Try.underlying38 Try.sizeOf22 (by omega)) ?_
   refine Tr.hAll [10] (by kernel_rfl) (by simp) (fun iq hq => ?_)
   obtain rfl := List.mem_singleton.1 hq
   refine Tr.hOp rfl ?_
   refine Tr.storeV rfl rfl Try.sizeOf22 (by repeat constructor) (cpuC_set hA (by simp) _) (by rfl) (by rw [cpuC_len]; first | (simp; done) | (simp; omega)) (by first | exact List.all_eq_true.1 rfl | exact Enc.one _ _ | (intro u hu; simp [Value.cells] at hu; simp_all [Value.oneCell'])) rfl ?_
   refine Tr.hN ?_
   refine Tr.hT 11 rfl (by kernel_rfl) (panicThen panicBody) (QS.nilCheck rfl) ?_
   refine Tr.hT 12 rfl (by kernel_rfl) (panicThen panicBody) (QS.fieldAddr (off := 0) (ft := 42) rfl Try.underlying47 rfl rfl Try.sizeOf42 (by decide)) ?_
   refine Tr.hT 13 rfl (by kernel_rfl) (panicThen panicBody) (QS.fieldAddr (off := 9) (ft := 40) rfl Try.underlying42 rfl rfl Try.sizeOf40 (by decide)) ?_
   refine Tr.hAll [14] (by kernel_rfl) (by simp) (fun iq hq => ?_)
   obtain rfl := List.mem_singleton.1 hq
   refine Tr.hOp rfl ?_
   refine Tr.storeV rfl rfl Try.sizeOf40 (by repeat constructor) (cpuC_flg f) (by rfl) (by exact Nat.le_of_ble_eq_true rfl) (by first | exact List.all_eq_true.1 rfl | exact Enc.one _ _ | (intro u hu; simp [Value.cells] at hu; simp_all [Value.oneCell'])) rfl ?_
   refine Tr.hN ?_
   refine Tr.hDone (by kernel_rfl) ?_
   refine Tr.thenN ?_
   try rw [St.setF_setR]
   apply Tr.joined ()
   ·exact rfl
   ·exact Front.nil
   ·exact SubX.dropN 13 (by kernel_rfl) rfl
   ·exact (by repeat' constructor)
   ·exact trivial
  ·skip
   replace hi : True := hi
   change Tr _ _ [cellE b2 (encFlg.enc f) 40, cellE b1 (encIns.enc i) 67, cellE bc (cpuC (({ s with done := dn }.setR i.a r).setF f) bM vi vo eff) 47] ([] ++ _) _
   refine Tr.seq (Tr.region ?_)
   refine Tr.q (QS.move rfl) rfl ?_
   refine Tr.q (QS.lW rfl Try.isAgg67 Try.sizeOf67) rfl ?_
   refine Tr.callO (fun _ : Unit => .tuple #[]) [cellE bc (cpuC (({ s with done := dn }.setR i.a r).setF f) bM vi vo eff) 47] (fun _ => [cellE bc (cpuC ((({ s with done := dn }.setR i.a r).setF f).to (nextP i)) bM vi vo eff) 47]) (ok := fun _ => True) (dd := fun _ => 0) rfl Try.call87 (by repeat' (first | exact Split.nil _ | exact Del.here _ | apply Split.cons | apply Del.there)) (fun w hw => Nat.le_refl _) (fun w hw => next_cpu (({ s with done := dn }.setR i.a r).setF f) bc bM vi vo eff i w (hw.own (by repeat' (first | exact Split.nil _ | exact Del.here _ | apply Split.cons | apply Del.there))) hI) rfl (fun _ _ => ?_)
   refine Tr.nil (Tr.thenN (Tr.seq (Tr.region ?_)))
   refine Tr.q (QS.assign rfl) rfl ?_
   refine Tr.nil (Tr.thenN (Tr.ret ?_))
   refine Tr.ret1 Try.results79 rfl (fun w' hw => ?_)
   have hfin : ((({ s with done := dn } : St).setR i.a r).setF f).to (nextP i) = plainS s i (nextP i) := by subst hr hf hdn; rfl
   rw [hfin] at hw
   exact ⟨(), rfl, hw.upd (Bg.le.refl _) (by repeat' constructor), trivial⟩
set_option maxRecDepth 100000 in
set_option maxHeartbeats 8000000 in
theorem stack_cpu (s : St) (bc bM bm : Nat) (VR vi vo eff : Value) (rs : List RegV) (l : List SecV) (wl : WL) (i : Ins) (w : World) (ho : OwnAt w [cellE bc (cpuC s bM vi vo eff) 47, mapE bm u8V wl]) (hM : MemAt (Bg.lessB w (blks [cellE bc (cpuC s bM vi vo eff) 47, mapE bm u8V wl]) 0).blk bM bm VR rs) (hO : MemOK l rs) (hwl : mread wl = s.w) (hI : InsOK i) (hA : 0 ≤ i.a ∧ i.a < 8) (hB : 0 ≤ i.b ∧ i.b < 8) :
  Calls Try.prog 74 #[.pointer (some ⟨bc, 0, none⟩), .agg (encIns.enc i).toArray] w (fun e w' => ∃ wl' : WL, e = .returned (.int .i64 (stackS l s i (nextP i)).2) ∧ Upd 0 w w' (blks [cellE bc (cpuC s bM vi vo eff) 47, mapE bm u8V wl]) [cellE bc (cpuC (stackS l s i (nextP i)).1 bM vi vo eff) 47, mapE bm u8V wl'] ∧ (mread wl' = (stackS l s i (nextP i)).1.w ∧ wl'.length ≤ wl.length + 4)) := by
 refine enterB (L := [cellE bc (cpuC s bM vi vo eff) 47, mapE bm u8V wl]) ho rfl (Nat.zero_le _) Try.func74 rfl Try.ntmps74 rfl ?_
 refine Tr.seq (Tr.region ?_)
 refine Tr.box rfl rfl rfl (fun b1 => ?_)
 refine Tr.q (QS.assign rfl) rfl ?_
 refine Tr.nil (Tr.thenN (Tr.seq (Tr.region ?_)))
 refine Tr.q (QS.move rfl) rfl ?_
 refine Tr.q (QS.nilCheck rfl) rfl ?_
 refine Tr.q (QS.fieldAddr (off := 0) (ft := 42) rfl Try.underlying47 rfl rfl Try.sizeOf42 (by decide)) rfl ?_
 refine Tr.q (QS.fieldAddr (off := 0) (ft := 38) rfl Try.underlying42 rfl rfl Try.sizeOf38 (by decide)) rfl ?_
 refine Tr.q (QS.idxArr rfl rfl Try.underlying38 Try.sizeOf22 (by omega)) rfl ?_
 refine Tr.q (QS.loadV rfl (by repeat constructor) Try.isAgg22 (by rfl)) rfl ?_
 refine Tr.q (QS.assign rfl) rfl ?_
 refine Tr.nil (Tr.thenN (Tr.seq (Tr.seq (Tr.region ?_))))
 refine Tr.q (QS.fieldAddr (off := 2) (ft := 3) rfl Try.underlying67 rfl rfl Try.sizeOf3 (by decide)) rfl ?_
 refine Tr.q (QS.lV rfl Try.isAgg3) rfl ?_
 refine Tr.q (QS.eql rfl rfl) rfl ?_
 refine Tr.nil (Tr.thenN ?_)
 refine Tr.cond rfl (fun h2 => ?_) (fun h2 => ?_)
 ·try simp only [bs] at h2
  refine Tr.seq (Tr.seq ?_)
  refine Tr.regionH ([cellE bc (cpuC s bM vi vo eff) 47, cellE b1 (encIns.enc i) 67]) 16 rfl HLF.mixed ?_
  refine Tr.hT 0 rfl (by kernel_rfl) (panicThen (panicThen (panicThen panicBody))) (QS.move rfl) ?_
  refine Tr.hT 1 rfl (by kernel_rfl) (panicThen (panicThen (panicThen panicBody))) (QS.nilCheck rfl) ?_
  refine Tr.hT 2 rfl (by kernel_rfl) (panicThen (panicThen (panicThen panicBody))) (QS.fieldAddr (off := 13) (ft := 23) rfl Try.underlying47 rfl rfl Try.sizeOf23 (by decide)) ?_
  refine Tr.hT 3 rfl (by kernel_rfl) (panicThen (panicThen (panicThen panicBody))) (QS.loadV rfl (by repeat constructor) Try.isAgg23 (by rfl)) ?_
  refine Tr.hT 4 rfl (by kernel_rfl) (panicThen (panicThen (panicThen panicBody))) (QS.move rfl) ?_
  refine Tr.hT 5 rfl (by kernel_rfl) (panicThen (panicThen (panicThen panicBody))) (QS.sub32 (n := 4) rfl rfl) ?_
  refine Tr.hT 6 rfl (by kernel_rfl) (panicThen (panicThen (panicThen panicBody))) (QS.move rfl) ?_
  refine Tr.hT 7 rfl (by kernel_rfl) (panicThen (panicThen (panicThen panicBody))) (QS.fieldAddr (off := 6) (ft := 3) rfl Try.underlying67 rfl rfl Try.sizeOf3 (by decide)) ?_
  refine Tr.hT 8 rfl (by kernel_rfl) (panicThen (panicThen (panicThen panicBody))) (QS.lV rfl Try.isAgg3) ?_
  refine Tr.hT 9 rfl (by kernel_rfl) (panicThen (panicThen (panicThen panicBody))) (QS.nilCheck rfl) ?_
  refine Tr.hT 10 rfl (by kernel_rfl) (panicThen (panicThen (panicThen panicBody))) (QS.fieldAddr (off := 0) (ft := 42) rfl Try.underlying47 rfl rfl Try.sizeOf42 (by decide)) ?_
  refine Tr.hT 11 rfl (by kernel_rfl) (panicThen (panicThen (panicThen panicBody))) (QS.fieldAddr (off := 0) (ft := 38) rfl Try.underlying42 rfl rfl Try.sizeOf38 (by decide)) ?_
  refine Tr.hT 12 rfl (by kernel_rfl) (panicThen (panicThen (panicThen panicBody))) (QS.idxArr rfl rfl Try.underlying38 Try.sizeOf22 (by omega)) ?_
  refine Tr.hT 13 rfl (by kernel_rfl) (panicThen (panicThen (panicThen panicBody))) (QS.loadV rfl (by repeat constructor) Try.isAgg22 (cpuC_reg hA (by simp))) ?_
  refine Tr.hAll [14] (by kernel_rfl) (by simp) (fun iq hq => ?_)
  obtain rfl := List.mem_singleton.1 hq
  refine Tr.hOp rfl ?_
  refine Tr.callO (fun _ : WL => .int .i64 (storeA l s.w (s.m.r7 - 4) 4 (s.m.reg i.a)).2) [mapE bm u8V wl] (fun wl' => [mapE bm u8V wl']) (ok := fun wl' => mread wl' = (storeA l s.w (s.m.r7 - 4) 4 (s.m.reg i.a)).1 ∧ wl'.length ≤ wl.length + 4) (dd := fun _ => 0) rfl Try.call35 (by repeat' (first | exact Split.nil _ | exact Del.here _ | apply Split.cons | apply Del.there)) (fun w hw => Nat.le_refl _) (fun w hw => by have q := mstore_any bM bm VR rs l (s.m.r7 - 4) 4 (s.m.reg i.a) wl w (hw.own (by repeat' (first | exact Split.nil _ | exact Del.here _ | apply Split.cons | apply Del.there))) (hM.mono (hw.lessB (Lo := [mapE bm u8V wl]) (by repeat' (first | exact Split.nil _ | exact Del.here _ | apply Split.cons | apply Del.there)))) hO; rw [hwl] at q; exact q) rfl (fun wl2 hw2 => ?_)
  refine Tr.hN ?_
  refine Tr.hT 15 rfl (by kernel_rfl) (panicThen (panicThen (panicThen panicBody))) (QS.assign rfl) ?_
  refine Tr.hDone (by kernel_rfl) ?_
  refine Tr.thenN (Tr.seq (Tr.region ?_))
  refine Tr.q (QS.move rfl) rfl ?_
  refine Tr.q (QS.neq rfl rfl) rfl ?_
  refine Tr.nil (Tr.thenN ?_)
  refine Tr.cond rfl (fun h3 => ?_) (fun h3 => ?_)
  ·try simp only [bs] at h3
   refine Tr.seq (Tr.region ?_)
   refine Tr.q (QS.move rfl) rfl ?_
   refine Tr.q (QS.assign rfl) rfl ?_
   refine Tr.nil (Tr.thenN (Tr.ret (Tr.thenR (Tr.thenR ?_))))
   refine Tr.ret1 Try.results74 rfl (fun w' hw => ?_)
   have hq : stackS l s i (nextP i) = (s, (storeA l s.w (s.m.r7 - 4) 4 (s.m.reg i.a)).2) := by unfold stackS; repeat (first | rw [if_pos (by first | assumption | omega)] | rw [if_neg (by first | assumption | omega)])
   exact ⟨wl2, by rw [hq]; try rfl, by rw [hq]; exact hw.upd (Bg.le.refl _) (by repeat' constructor), by rw [hq]; exact ⟨hw2.1.trans (store_err (by assumption)), hw2.2⟩⟩
  ·try simp only [bs] at h3
   refine Tr.skip (Tr.thenN (Tr.region ?_))
   refine Tr.q (QS.move rfl) rfl ?_
   refine Tr.q (QS.move rfl) rfl ?_
   refine Tr.q (QS.sub32 (n := 4) rfl rfl) rfl ?_
   refine Tr.q (QS.nilCheck rfl) rfl ?_
   refine Tr.q (QS.fieldAddr (off := 0) (ft := 42) rfl Try.underlying47 rfl rfl Try.sizeOf42 (by decide)) rfl ?_
   refine Tr.q (QS.fieldAddr (off := 0) (ft := 38) rfl Try.underlying42 rfl rfl Try.sizeOf38 (by decide)) rfl ?_
   refine Tr.q (QS.idxArr rfl rfl Try.underlying38 Try.sizeOf22 (by omega)) rfl ?_
   refine Tr.storeV rfl rfl Try.sizeOf22 (by repeat constructor) (cpuC_set (k := 7) (by omega) (by simp) _) (by rfl) (by rw [cpuC_len]; first | (simp; done) | (simp; omega)) (by first | exact List.all_eq_true.1 rfl | exact Enc.one _ _ | (intro u hu; simp [Value.cells] at hu; simp_all [Value.oneCell'])) rfl ?_
   refine Tr.nil (Tr.thenN (Tr.seq (Tr.region ?_)))
   refine Tr.q (QS.move rfl) rfl ?_
   refine Tr.q (QS.lW rfl Try.isAgg67 Try.sizeOf67) rfl ?_
   refine Tr.callO (fun _ : Unit => .tuple #[]) [cellE bc (cpuC (s.setR 7 (s.m.r7 - 4)) bM vi vo eff) 47] (fun _ => [cellE bc (cpuC ((s.setR 7 (s.m.r7 - 4)).to (nextP i)) bM vi vo eff) 47]) (ok := fun _ => True) (dd := fun _ => 0) rfl Try.call87 (by repeat' (first | exact Split.nil _ | exact Del.here _ | apply Split.cons | apply Del.there)) (fun w hw => Nat.le_refl _) (fun w hw => next_cpu (s.setR 7 (s.m.r7 - 4)) bc bM vi vo eff i w (hw.own (by repeat' (first | exact Split.nil _ | exact Del.here _ | apply Split.cons | apply Del.there))) hI) rfl (fun _ _ => ?_)
   refine Tr.nil (Tr.thenN (Tr.seq (Tr.region ?_)))
   refine Tr.q (QS.assign rfl) rfl ?_
   refine Tr.nil (Tr.thenN (Tr.ret ?_))
   refine Tr.ret1 Try.results74 rfl (fun w' hw => ?_)
   have hq : stackS l s i (nextP i) = ({ s with w := (storeA l s.w (s.m.r7 - 4) 4 (s.m.reg i.a)).1, m := (s.m.set 7 (s.m.r7 - 4)).to (nextP i) }, 0) := by unfold stackS; repeat (first | rw [if_pos (by first | assumption | omega)] | rw [if_neg (by first | assumption | omega)])
   exact ⟨wl2, by rw [hq]; try rfl, by rw [hq]; exact hw.upd (Bg.le.refl _) (by repeat' constructor), by rw [hq]; exact ⟨hw2.1, hw2.2⟩⟩
 ·try simp only [bs] at h2
  refine Tr.seq (Tr.region ?_)
  refine Tr.q (QS.move rfl) rfl ?_
  refine Tr.q (QS.nilCheck rfl) rfl ?_
  refine Tr.q (QS.fieldAddr (off := 13) (ft := 23) rfl Try.underlying47 rfl rfl Try.sizeOf23 (by decide)) rfl ?_
  refine Tr.q (QS.loadV rfl (by repeat constructor) Try.isAgg23 (by rfl)) rfl ?_
  refine Tr.q (QS.move rfl) rfl ?_
  refine Tr.q (QS.call rfl Try.call12 (fun w hw => (by have q := mload_any bM bm VR rs l s.m.r7 4 wl w (hM.mono hw.bg) hO (mapE.in_ (hw.ent _ (by repeat constructor))); rw [hwl] at q; exact q))) rfl ?_
  refine Tr.q (QS.move rfl) rfl ?_
  refine Tr.q (QS.extract rfl rfl) rfl ?_
  refine Tr.q (QS.extract rfl rfl) rfl ?_
  refine Tr.q (QS.assign rfl) rfl ?_
  refine Tr.q (QS.assign rfl) rfl ?_
  refine Tr.nil (Tr.thenN (Tr.seq (Tr.seq (Tr.region ?_))))
  refine Tr.q (QS.move rfl) rfl ?_
  refine Tr.q (QS.neq rfl rfl) rfl ?_
  refine Tr.nil (Tr.thenN ?_)
  refine Tr.cond rfl (fun h4 => ?_) (fun h4 => ?_)
  ·try simp only [bs] at h4
   refine Tr.seq (Tr.region ?_)
   refine Tr.q (QS.move rfl) rfl ?_
   refine Tr.q (QS.assign rfl) rfl ?_
   refine Tr.nil (Tr.thenN (Tr.ret (Tr.thenR (Tr.thenR ?_))))
   refine Tr.ret1 Try.results74 rfl (fun w' hw => ?_)
   have hq : stackS l s i (nextP i) = (s, (loadA l s.w s.m.r7 4).2) := by unfold stackS; repeat (first | rw [if_pos (by first | assumption | omega)] | rw [if_neg (by first | assumption | omega)])
   exact ⟨wl, by rw [hq]; try rfl, by rw [hq]; exact hw.upd (Bg.le.refl _) (by repeat' constructor), by rw [hq]; exact ⟨hwl, by omega⟩⟩
  ·try simp only [bs] at h4
   refine Tr.skip (Tr.thenN (Tr.seq (Tr.region ?_)))
   refine Tr.q (QS.move rfl) rfl ?_
   refine Tr.q (QS.move rfl) rfl ?_
   refine Tr.q (QS.add32 (n := 4) rfl rfl) rfl ?_
   refine Tr.q (QS.nilCheck rfl) rfl ?_
   refine Tr.q (QS.fieldAddr (off := 0) (ft := 42) rfl Try.underlying47 rfl rfl Try.sizeOf42 (by decide)) rfl ?_
   refine Tr.q (QS.fieldAddr (off := 0) (ft := 38) rfl Try.underlying42 rfl rfl Try.sizeOf38 (by decide)) rfl ?_
   refine Tr.q (QS.idxArr rfl rfl Try.underlying38 Try.sizeOf22 (by omega)) rfl ?_
   refine Tr.storeV rfl rfl Try.sizeOf22 (by repeat constructor) (cpuC_set (k := 7) (by omega) (by simp) _) (by rfl) (by rw [cpuC_len]; first | (simp; done) | (simp; omega)) (by first | exact List.all_eq_true.1 rfl | exact Enc.one _ _ | (intro u hu; simp [Value.cells] at hu; simp_all [Value.oneCell'])) rfl ?_
   refine Tr.nil (Tr.thenN ?_)
   refine Tr.regionH ([cellE b1 (encIns.enc i) 67]) 9 rfl HLF.mixed ?_
   refine Tr.hT 0 rfl (by kernel_rfl) (panicThen panicBody) (QS.move rfl) ?_
   refine Tr.hT 1 rfl (by kernel_rfl) (panicThen panicBody) (QS.fieldAddr (off := 6) (ft := 3) rfl Try.underlying67 rfl rfl Try.sizeOf3 (by decide)) ?_
   refine Tr.hT 2 rfl (by kernel_rfl) (panicThen panicBody) (QS.lV rfl Try.isAgg3) ?_
   refine Tr.hT 3 rfl (by kernel_rfl) (panicThen panicBody) (QS.move rfl) ?_
   refine Tr.hT 4 rfl (by kernel_rfl) (panicThen panicBody) (QS.nilCheck rfl) ?_
   refine Tr.hT 5 rfl (by kernel_rfl) (panicThen panicBody) (QS.fieldAddr (off := 0) (ft := 42) rfl Try.underlying47 rfl rfl Try.sizeOf42 (by decide)) ?_
   refine Tr.hT 6 rfl (by kernel_rfl) (panicThen panicBody) (QS.fieldAddr (off := 0) (ft := 38) rfl Try.underlying42 rfl rfl Try.sizeOf38 (by decide)) ?_
   refine Tr.hT 7 rfl (by kernel_rfl) (panicThen panicBody) (QS.idxArr rfl rfl Try.underlying38 Try.sizeOf22 (by omega)) ?_
   refine Tr.hAll [8] (by kernel_rfl) (by simp) (fun iq hq => ?_)
   obtain rfl := List.mem_singleton.1 hq
   refine Tr.hOp rfl ?_
   refine Tr.storeV rfl rfl Try.sizeOf22 (by repeat constructor) (cpuC_set hA (by simp) _) (by rfl) (by rw [cpuC_len]; first | (simp; done) | (simp; omega)) (by first | exact List.all_eq_true.1 rfl | exact Enc.one _ _ | (intro u hu; simp [Value.cells] at hu; simp_all [Value.oneCell'])) rfl ?_
   refine Tr.hN ?_
   refine Tr.hDone (by kernel_rfl) ?_
   refine Tr.thenN (Tr.seq (Tr.region ?_))
   refine Tr.q (QS.move rfl) rfl ?_
   refine Tr.q (QS.lW rfl Try.isAgg67 Try.sizeOf67) rfl ?_
   refine Tr.callO (fun _ : Unit => .tuple #[]) [cellE bc (cpuC ((s.setR 7 (s.m.r7 + 4)).setR i.a (loadA l s.w s.m.r7 4).1) bM vi vo eff) 47] (fun _ => [cellE bc (cpuC (((s.setR 7 (s.m.r7 + 4)).setR i.a (loadA l s.w s.m.r7 4).1).to (nextP i)) bM vi vo eff) 47]) (ok := fun _ => True) (dd := fun _ => 0) rfl Try.call87 (by repeat' (first | exact Split.nil _ | exact Del.here _ | apply Split.cons | apply Del.there)) (fun w hw => Nat.le_refl _) (fun w hw => next_cpu ((s.setR 7 (s.m.r7 + 4)).setR i.a (loadA l s.w s.m.r7 4).1) bc bM vi vo eff i w (hw.own (by repeat' (first | exact Split.nil _ | exact Del.here _ | apply Split.cons | apply Del.there))) hI) rfl (fun _ _ => ?_)
   refine Tr.nil (Tr.thenN (Tr.seq (Tr.region ?_)))
   refine Tr.q (QS.assign rfl) rfl ?_
   refine Tr.nil (Tr.thenN (Tr.ret ?_))
   refine Tr.ret1 Try.results74 rfl (fun w' hw => ?_)
   have hq : stackS l s i (nextP i) = ({ s with m := ((s.m.set 7 (s.m.r7 + 4)).set i.a (loadA l s.w s.m.r7 4).1).to (nextP i) }, 0) := by unfold stackS; repeat (first | rw [if_pos (by first | assumption | omega)] | rw [if_neg (by first | assumption | omega)])
   exact ⟨wl, by rw [hq]; try rfl, by rw [hq]; exact hw.upd (Bg.le.refl _) (by repeat' constructor), by rw [hq]; exact ⟨hwl, by omega⟩⟩
set_option maxRecDepth 100000 in
set_option maxHeartbeats 8000000 in
theorem access_cpu (s : St) (bc bM bm : Nat) (VR vi vo eff : Value) (rs : List RegV) (l : List SecV) (wl : WL) (i : Ins) (w : World) (ho : OwnAt w [cellE bc (cpuC s bM vi vo eff) 47, mapE bm u8V wl]) (hM : MemAt (Bg.lessB w (blks [cellE bc (cpuC s bM vi vo eff) 47, mapE bm u8V wl]) 0).blk bM bm VR rs) (hO : MemOK l rs) (hwl : mread wl = s.w) (hI : InsOK i) (hA : 0 ≤ i.a ∧ i.a < 8) (hB : 0 ≤ i.b ∧ i.b < 8) :
  Calls Try.prog 75 #[.pointer (some ⟨bc, 0, none⟩), .agg (encIns.enc i).toArray] w (fun e w' => ∃ wl' : WL, e = .returned (.int .i64 (accessS l s i (nextP i)).2) ∧ Upd 0 w w' (blks [cellE bc (cpuC s bM vi vo eff) 47, mapE bm u8V wl]) [cellE bc (cpuC (accessS l s i (nextP i)).1 bM vi vo eff) 47, mapE bm u8V wl'] ∧ (mread wl' = (accessS l s i (nextP i)).1.w ∧ wl'.length ≤ wl.length + 4)) := by
 refine enterB (L := [cellE bc (cpuC s bM vi vo eff) 47, mapE bm u8V wl]) ho rfl (Nat.zero_le _) Try.func75 rfl Try.ntmps75 rfl ?_
 refine Tr.seq (Tr.region ?_)
 refine Tr.box rfl rfl rfl (fun b1 => ?_)
 refine Tr.q (QS.assign rfl) rfl ?_
 refine Tr.nil (Tr.thenN (Tr.seq ?_))
 refine Tr.regionH ([cellE bc (cpuC s bM vi vo eff) 47, cellE b1 (encIns.enc i) 67]) 12 rfl HLF.mixed ?_
 refine Tr.hT 0 rfl (by kernel_rfl) (panicThen panicBody) (QS.move rfl) ?_
 refine Tr.hT 1 rfl (by kernel_rfl) (panicThen panicBody) (QS.fieldAddr (off := 7) (ft := 3) rfl Try.underlying67 rfl rfl Try.sizeOf3 (by decide)) ?_
 refine Tr.hT 2 rfl (by kernel_rfl) (panicThen panicBody) (QS.lV rfl Try.isAgg3) ?_
 refine Tr.hT 3 rfl (by kernel_rfl) (panicThen panicBody) (QS.nilCheck rfl) ?_
 refine Tr.hT 4 rfl (by kernel_rfl) (panicThen panicBody) (QS.fieldAddr (off := 0) (ft := 42) rfl Try.underlying47 rfl rfl Try.sizeOf42 (by decide)) ?_
 refine Tr.hT 5 rfl (by kernel_rfl) (panicThen panicBody) (QS.fieldAddr (off := 0) (ft := 38) rfl Try.underlying42 rfl rfl Try.sizeOf38 (by decide)) ?_
 refine Tr.hT 6 rfl (by kernel_rfl) (panicThen panicBody) (QS.idxArr rfl rfl Try.underlying38 Try.sizeOf22 (by omega)) ?_
 refine Tr.hT 7 rfl (by kernel_rfl) (panicThen panicBody) (QS.loadV rfl (by repeat constructor) Try.isAgg22 (cpuC_reg hB (by simp))) ?_
 refine Tr.hT 8 rfl (by kernel_rfl) (panicThen panicBody) (QS.fieldAddr (off := 1) (ft := 22) rfl Try.underlying67 rfl rfl Try.sizeOf22 (by decide)) ?_
 refine Tr.hT 9 rfl (by kernel_rfl) (panicThen panicBody) (QS.lV rfl Try.isAgg22) ?_
 refine Tr.hT 10 rfl (by kernel_rfl) (panicThen panicBody) (QS.add32 rfl rfl) ?_
 refine Tr.hT 11 rfl (by kernel_rfl) (panicThen panicBody) (QS.assign rfl) ?_
 refine Tr.hDone (by kernel_rfl) ?_
 refine Tr.thenN (Tr.seq (Tr.seq (Tr.region ?_)))
 refine Tr.q (QS.fieldAddr (off := 2) (ft := 3) rfl Try.underlying67 rfl rfl Try.sizeOf3 (by decide)) rfl ?_
 refine Tr.q (QS.lV rfl Try.isAgg3) rfl ?_
 refine Tr.q (QS.eql rfl rfl) rfl ?_
 refine Tr.nil (Tr.thenN ?_)
 refine Tr.cond rfl (fun h2 => ?_) (fun h2 => ?_)
 ·try simp only [bs] at h2
  refine Tr.seq (Tr.seq ?_)
  refine Tr.regionH ([cellE bc (cpuC s bM vi vo eff) 47, cellE b1 (encIns.enc i) 67]) 17 rfl HLF.mixed ?_
  refine Tr.hT 0 rfl (by kernel_rfl) (panicThen (panicThen (panicThen panicBody))) (QS.move rfl) ?_
  refine Tr.hT 1 rfl (by kernel_rfl) (panicThen (panicThen (panicThen panicBody))) (QS.nilCheck rfl) ?_
  refine Tr.hT 2 rfl (by kernel_rfl) (panicThen (panicThen (panicThen panicBody))) (QS.fieldAddr (off := 13) (ft := 23) rfl Try.underlying47 rfl rfl Try.sizeOf23 (by decide)) ?_
  refine Tr.hT 3 rfl (by kernel_rfl) (panicThen (panicThen (panicThen panicBody))) (QS.loadV rfl (by repeat constructor) Try.isAgg23 (by rfl)) ?_
  refine Tr.hT 4 rfl (by kernel_rfl) (panicThen (panicThen (panicThen panicBody))) (QS.move rfl) ?_
  refine Tr.hT 5 rfl (by kernel_rfl) (panicThen (panicThen (panicThen panicBody))) (QS.fieldAddr (off := 4) (ft := 3) rfl Try.underlying67 rfl rfl Try.sizeOf3 (by decide)) ?_
  refine Tr.hT 6 rfl (by kernel_rfl) (panicThen (panicThen (panicThen panicBody))) (QS.lV rfl Try.isAgg3) ?_
  refine Tr.hT 7 rfl (by kernel_rfl) (panicThen (panicThen (panicThen panicBody))) (QS.move rfl) ?_
  refine Tr.hT 8 rfl (by kernel_rfl) (panicThen (panicThen (panicThen panicBody))) (QS.fieldAddr (off := 6) (ft := 3) rfl Try.underlying67 rfl rfl Try.sizeOf3 (by decide)) ?_
  refine Tr.hT 9 rfl (by kernel_rfl) (panicThen (panicThen (panicThen panicBody))) (QS.lV rfl Try.isAgg3) ?_
  refine Tr.hT 10 rfl (by kernel_rfl) (panicThen (panicThen (panicThen panicBody))) (QS.nilCheck rfl) ?_
  refine Tr.hT 11 rfl (by kernel_rfl) (panicThen (panicThen (panicThen panicBody))) (QS.fieldAddr (off := 0) (ft := 42) rfl Try.underlying47 rfl rfl Try.sizeOf42 (by decide)) ?_
  refine Tr.hT 12 rfl (by kernel_rfl) (panicThen (panicThen (panicThen panicBody))) (QS.fieldAddr (off := 0) (ft := 38) rfl Try.underlying42 rfl rfl Try.sizeOf38 (by decide)) ?_
  refine Tr.hT 13 rfl (by kernel_rfl) (panicThen (panicThen (panicThen panicBody))) (QS.idxArr rfl rfl Try.underlying38 Try.sizeOf22 (by omega)) ?_
  refine Tr.hT 14 rfl (by kernel_rfl) (panicThen (panicThen (panicThen panicBody))) (QS.loadV rfl (by repeat constructor) Try.isAgg22 (cpuC_reg hA (by simp))) ?_
  refine Tr.hAll [15] (by kernel_rfl) (by simp) (fun iq hq => ?_)
  obtain rfl := List.mem_singleton.1 hq
  refine Tr.hOp rfl ?_
  refine Tr.callO (fun _ : WL => .int .i64 (storeA l s.w (s.m.reg i.b + i.imm) i.width (s.m.reg i.a)).2) [mapE bm u8V wl] (fun wl' => [mapE bm u8V wl']) (ok := fun wl' => mread wl' = (storeA l s.w (s.m.reg i.b + i.imm) i.width (s.m.reg i.a)).1 ∧ wl'.length ≤ wl.length + 4) (dd := fun _ => 0) rfl Try.call35 (by repeat' (first | exact Split.nil _ | exact Del.here _ | apply Split.cons | apply Del.there)) (fun w hw => Nat.le_refl _) (fun w hw => by have q := mstore_any bM bm VR rs l (s.m.reg i.b + i.imm) i.width (s.m.reg i.a) wl w (hw.own (by repeat' (first | exact Split.nil _ | exact Del.here _ | apply Split.cons | apply Del.there))) (hM.mono (hw.lessB (Lo := [mapE bm u8V wl]) (by repeat' (first | exact Split.nil _ | exact Del.here _ | apply Split.cons | apply Del.there)))) hO; rw [hwl] at q; exact q) rfl (fun wl2 hw2 => ?_)
  refine Tr.hN ?_
  refine Tr.hT 16 rfl (by kernel_rfl) (panicThen (panicThen (panicThen panicBody))) (QS.assign rfl) ?_
  refine Tr.hDone (by kernel_rfl) ?_
  refine Tr.thenN (Tr.seq (Tr.region ?_))
  refine Tr.q (QS.move rfl) rfl ?_
  refine Tr.q (QS.neq rfl rfl) rfl ?_
  refine Tr.nil (Tr.thenN ?_)
  refine Tr.cond rfl (fun h3 => ?_) (fun h3 => ?_)
  ·try simp only [bs] at h3
   refine Tr.seq (Tr.region ?_)
   refine Tr.q (QS.move rfl) rfl ?_
   refine Tr.q (QS.assign rfl) rfl ?_
   refine Tr.nil (Tr.thenN (Tr.ret (Tr.thenR (Tr.thenR ?_))))
   refine Tr.ret1 Try.results75 rfl (fun w' hw => ?_)
   have hq : accessS l s i (nextP i) = (s, (storeA l s.w (s.m.reg i.b + i.imm) i.width (s.m.reg i.a)).2) := by unfold accessS; repeat (first | rw [if_pos (by first | assumption | omega)] | rw [if_neg (by first | assumption | omega)])
   exact ⟨wl2, by rw [hq]; try rfl, by rw [hq]; exact hw.upd (Bg.le.refl _) (by repeat' constructor), by rw [hq]; exact ⟨hw2.1.trans (store_err (by assumption)), hw2.2⟩⟩
  ·try simp only [bs] at h3
   refine Tr.skip (Tr.thenN (Tr.seq (Tr.region ?_)))
   refine Tr.q (QS.move rfl) rfl ?_
   refine Tr.q (QS.lW rfl Try.isAgg67 Try.sizeOf67) rfl ?_
   refine Tr.callO (fun _ : Unit => .tuple #[]) [cellE bc (cpuC (s) bM vi vo eff) 47] (fun _ => [cellE bc (cpuC ((s).to (nextP i)) bM vi vo eff) 47]) (ok := fun _ => True) (dd := fun _ => 0) rfl Try.call87 (by repeat' (first | exact Split.nil _ | exact Del.here _ | apply Split.cons | apply Del.there)) (fun w hw => Nat.le_refl _) (fun w hw => next_cpu (s) bc bM vi vo eff i w (hw.own (by repeat' (first | exact Split.nil _ | exact Del.here _ | apply Split.cons | apply Del.there))) hI) rfl (fun _ _ => ?_)
   refine Tr.nil (Tr.thenN (Tr.seq (Tr.region ?_)))
   refine Tr.q (QS.assign rfl) rfl ?_
   refine Tr.nil (Tr.thenN (Tr.ret (Tr.thenR ?_)))
   refine Tr.ret1 Try.results75 rfl (fun w' hw => ?_)
   have hq : accessS l s i (nextP i) = ({ s with w := (storeA l s.w (s.m.reg i.b + i.imm) i.width (s.m.reg i.a)).1, m := s.m.to (nextP i) }, 0) := by unfold accessS; repeat (first | rw [if_pos (by first | assumption | omega)] | rw [if_neg (by first | assumption | omega)])
   exact ⟨wl2, by rw [hq]; try rfl, by rw [hq]; exact hw.upd (Bg.le.refl _) (by repeat' constructor), by rw [hq]; exact ⟨hw2.1, hw2.2⟩⟩
 ·try simp only [bs] at h2
  refine Tr.skip (Tr.thenN (Tr.seq ?_))
  refine Tr.regionH ([cellE bc (cpuC s bM vi vo eff) 47, cellE b1 (encIns.enc i) 67]) 13 rfl HLF.mixed ?_
  refine Tr.hT 0 rfl (by kernel_rfl) (panicThen panicBody) (QS.move rfl) ?_
  refine Tr.hT 1 rfl (by kernel_rfl) (panicThen panicBody) (QS.nilCheck rfl) ?_
  refine Tr.hT 2 rfl (by kernel_rfl) (panicThen panicBody) (QS.fieldAddr (off := 13) (ft := 23) rfl Try.underlying47 rfl rfl Try.sizeOf23 (by decide)) ?_
  refine Tr.hT 3 rfl (by kernel_rfl) (panicThen panicBody) (QS.loadV rfl (by repeat constructor) Try.isAgg23 (by rfl)) ?_
  refine Tr.hT 4 rfl (by kernel_rfl) (panicThen panicBody) (QS.move rfl) ?_
  refine Tr.hT 5 rfl (by kernel_rfl) (panicThen panicBody) (QS.fieldAddr (off := 4) (ft := 3) rfl Try.underlying67 rfl rfl Try.sizeOf3 (by decide)) ?_
  refine Tr.hT 6 rfl (by kernel_rfl) (panicThen panicBody) (QS.lV rfl Try.isAgg3) ?_
  refine Tr.hAll [7] (by kernel_rfl) (by simp) (fun iq hq => ?_)
  obtain rfl := List.mem_singleton.1 hq
  refine Tr.hOp rfl ?_
  refine Tr.q (QS.call rfl Try.call12 (fun w hw => (by have q := mload_any bM bm VR rs l (s.m.reg i.b + i.imm) i.width wl w (hM.mono hw.bg) hO (mapE.in_ (hw.ent _ (by repeat constructor))); rw [hwl] at q; exact q))) rfl ?_
  refine Tr.hN ?_
  refine Tr.hT 8 rfl (by kernel_rfl) (panicThen panicBody) (QS.move rfl) ?_
  refine Tr.hT 9 rfl (by kernel_rfl) (panicThen panicBody) (QS.extract rfl rfl) ?_
  refine Tr.hT 10 rfl (by kernel_rfl) (panicThen panicBody) (QS.extract rfl rfl) ?_
  refine Tr.hT 11 rfl (by kernel_rfl) (panicThen panicBody) (QS.assign rfl) ?_
  refine Tr.hT 12 rfl (by kernel_rfl) (panicThen panicBody) (QS.assign rfl) ?_
  refine Tr.hDone (by kernel_rfl) ?_
  refine Tr.thenN (Tr.seq (Tr.seq (Tr.region ?_)))
  refine Tr.q (QS.move rfl) rfl ?_
  refine Tr.q (QS.neq rfl rfl) rfl ?_
  refine Tr.nil (Tr.thenN ?_)
  refine Tr.cond rfl (fun h4 => ?_) (fun h4 => ?_)
  ·try simp only [bs] at h4
   refine Tr.seq (Tr.region ?_)
   refine Tr.q (QS.move rfl) rfl ?_
   refine Tr.q (QS.assign rfl) rfl ?_
   refine Tr.nil (Tr.thenN (Tr.ret (Tr.thenR ?_)))
   refine Tr.ret1 Try.results75 rfl (fun w' hw => ?_)
   have hq : accessS l s i (nextP i) = (s, (loadA l s.w (s.m.reg i.b + i.imm) i.width).2) := by unfold accessS; repeat (first | rw [if_pos (by first | assumption | omega)] | rw [if_neg (by first | assumption | omega)])
   exact ⟨wl, by rw [hq]; try rfl, by rw [hq]; exact hw.upd (Bg.le.refl _) (by repeat' constructor), by rw [hq]; exact ⟨hwl, by omega⟩⟩
  ·try simp only [bs] at h4
   refine Tr.skip (Tr.thenN (Tr.seq (Tr.seq (Tr.region ?_))))
   refine Tr.q (QS.fieldAddr (off := 2) (ft := 3) rfl Try.underlying67 rfl rfl Try.sizeOf3 (by decide)) rfl ?_
   refine Tr.q (QS.lV rfl Try.isAgg3) rfl ?_
   refine Tr.q (QS.eql rfl rfl) rfl ?_
   refine Tr.nil (Tr.thenN ?_)
   refine Tr.cond rfl (fun h5 => ?_) (fun h5 => ?_)
   ·try simp only [bs] at h5
    refine Tr.region ?_
    refine Tr.q (QS.move rfl) rfl ?_
    refine Tr.q (QS.fieldAddr (off := 4) (ft := 3) rfl Try.underlying67 rfl rfl Try.sizeOf3 (by decide)) rfl ?_
    refine Tr.q (QS.lV rfl Try.isAgg3) rfl ?_
    refine Tr.q (QS.call rfl Try.call71 (fun w hw => extend_any (loadA l s.w (s.m.reg i.b + i.imm) i.width).1 i.width w)) rfl ?_
    refine Tr.q (QS.assign rfl) rfl ?_
    refine Tr.nil (Tr.thenN (Tr.seq ?_))
    refine Tr.regionH ([cellE b1 (encIns.enc i) 67]) 9 rfl HLF.mixed ?_
    refine Tr.hT 0 rfl (by kernel_rfl) (panicThen panicBody) (QS.move rfl) ?_
    refine Tr.hT 1 rfl (by kernel_rfl) (panicThen panicBody) (QS.fieldAddr (off := 6) (ft := 3) rfl Try.underlying67 rfl rfl Try.sizeOf3 (by decide)) ?_
    refine Tr.hT 2 rfl (by kernel_rfl) (panicThen panicBody) (QS.lV rfl Try.isAgg3) ?_
    refine Tr.hT 3 rfl (by kernel_rfl) (panicThen panicBody) (QS.move rfl) ?_
    refine Tr.hT 4 rfl (by kernel_rfl) (panicThen panicBody) (QS.nilCheck rfl) ?_
    refine Tr.hT 5 rfl (by kernel_rfl) (panicThen panicBody) (QS.fieldAddr (off := 0) (ft := 42) rfl Try.underlying47 rfl rfl Try.sizeOf42 (by decide)) ?_
    refine Tr.hT 6 rfl (by kernel_rfl) (panicThen panicBody) (QS.fieldAddr (off := 0) (ft := 38) rfl Try.underlying42 rfl rfl Try.sizeOf38 (by decide)) ?_
    refine Tr.hT 7 rfl (by kernel_rfl) (panicThen panicBody) (QS.idxArr rfl rfl Try.underlying38 Try.sizeOf22 (by omega)) ?_
    refine Tr.hAll [8] (by kernel_rfl) (by simp) (fun iq hq => ?_)
    obtain rfl := List.mem_singleton.1 hq
    refine Tr.hOp rfl ?_
    refine Tr.storeV rfl rfl Try.sizeOf22 (by repeat constructor) (cpuC_set hA (by simp) _) (by rfl) (by rw [cpuC_len]; first | (simp; done) | (simp; omega)) (by first | exact List.all_eq_true.1 rfl | exact Enc.one _ _ | (intro u hu; simp [Value.cells] at hu; simp_all [Value.oneCell'])) rfl ?_
    refine Tr.hN ?_
    refine Tr.hDone (by kernel_rfl) ?_
    refine Tr.thenN (Tr.seq (Tr.region ?_))
    refine Tr.q (QS.move rfl) rfl ?_
    refine Tr.q (QS.lW rfl Try.isAgg67 Try.sizeOf67) rfl ?_
    refine Tr.callO (fun _ : Unit => .tuple #[]) [cellE bc (cpuC (s.setR i.a (extP (loadA l s.w (s.m.reg i.b + i.imm) i.width).1 i.width)) bM vi vo eff) 47] (fun _ => [cellE bc (cpuC ((s.setR i.a (extP (loadA l s.w (s.m.reg i.b + i.imm) i.width).1 i.width)).to (nextP i)) bM vi vo eff) 47]) (ok := fun _ => True) (dd := fun _ => 0) rfl Try.call87 (by repeat' (first | exact Split.nil _ | exact Del.here _ | apply Split.cons | apply Del.there)) (fun w hw => Nat.le_refl _) (fun w hw => next_cpu (s.setR i.a (extP (loadA l s.w (s.m.reg i.b + i.imm) i.width).1 i.width)) bc bM vi vo eff i w (hw.own (by repeat' (first | exact Split.nil _ | exact Del.here _ | apply Split.cons | apply Del.there))) hI) rfl (fun _ _ => ?_)
    refine Tr.nil (Tr.thenN (Tr.seq (Tr.region ?_)))
    refine Tr.q (QS.assign rfl) rfl ?_
    refine Tr.nil (Tr.thenN (Tr.ret ?_))
    refine Tr.ret1 Try.results75 rfl (fun w' hw => ?_)
    have hq : accessS l s i (nextP i) = ({ s with m := (s.m.set i.a (extP (loadA l s.w (s.m.reg i.b + i.imm) i.width).1 i.width)).to (nextP i) }, 0) := by unfold accessS; repeat (first | rw [if_pos (by first | assumption | omega)] | rw [if_neg (by first | assumption | omega)])
    exact ⟨wl, by rw [hq]; try rfl, by rw [hq]; exact hw.upd (Bg.le.refl _) (by repeat' constructor), by rw [hq]; exact ⟨hwl, by omega⟩⟩
   ·try simp only [bs] at h5
    refine Tr.skip (Tr.thenN (Tr.seq ?_))
    refine Tr.regionH ([cellE b1 (encIns.enc i) 67]) 9 rfl HLF.mixed ?_
    refine Tr.hT 0 rfl (by kernel_rfl) (panicThen panicBody) (QS.move rfl) ?_
    refine Tr.hT 1 rfl (by kernel_rfl) (panicThen panicBody) (QS.fieldAddr (off := 6) (ft := 3) rfl Try.underlying67 rfl rfl Try.sizeOf3 (by decide)) ?_
    refine Tr.hT 2 rfl (by kernel_rfl) (panicThen panicBody) (QS.lV rfl Try.isAgg3) ?_
    refine Tr.hT 3 rfl (by kernel_rfl) (panicThen panicBody) (QS.move rfl) ?_
    refine Tr.hT 4 rfl (by kernel_rfl) (panicThen panicBody) (QS.nilCheck rfl) ?_
    refine Tr.hT 5 rfl (by kernel_rfl) (panicThen panicBody) (QS.fieldAddr (off := 0) (ft := 42) rfl Try.underlying47 rfl rfl Try.sizeOf42 (by decide)) ?_
    refine Tr.hT 6 rfl (by kernel_rfl) (panicThen panicBody) (QS.fieldAddr (off := 0) (ft := 38) rfl Try.underlying42 rfl rfl Try.sizeOf38 (by decide)) ?_
    refine Tr.hT 7 rfl (by kernel_rfl) (panicThen panicBody) (QS.idxArr rfl rfl Try.underlying38 Try.sizeOf22 (by omega)) ?_
    refine Tr.hAll [8] (by kernel_rfl) (by simp) (fun iq hq => ?_)
    obtain rfl := List.mem_singleton.1 hq
    refine Tr.hOp rfl ?_
    refine Tr.storeV rfl rfl Try.sizeOf22 (by repeat constructor) (cpuC_set hA (by simp) _) (by rfl) (by rw [cpuC_len]; first | (simp; done) | (simp; omega)) (by first | exact List.all_eq_true.1 rfl | exact Enc.one _ _ | (intro u hu; simp [Value.cells] at hu; simp_all [Value.oneCell'])) rfl ?_
    refine Tr.hN ?_
    refine Tr.hDone (by kernel_rfl) ?_
    refine Tr.thenN (Tr.seq (Tr.region ?_))
    refine Tr.q (QS.move rfl) rfl ?_
    refine Tr.q (QS.lW rfl Try.isAgg67 Try.sizeOf67) rfl ?_
    refine Tr.callO (fun _ : Unit => .tuple #[]) [cellE bc (cpuC (s.setR i.a (loadA l s.w (s.m.reg i.b + i.imm) i.width).1) bM vi vo eff) 47] (fun _ => [cellE bc (cpuC ((s.setR i.a (loadA l s.w (s.m.reg i.b + i.imm) i.width).1).to (nextP i)) bM vi vo eff) 47]) (ok := fun _ => True) (dd := fun _ => 0) rfl Try.call87 (by repeat' (first | exact Split.nil _ | exact Del.here _ | apply Split.cons | apply Del.there)) (fun w hw => Nat.le_refl _) (fun w hw => next_cpu (s.setR i.a (loadA l s.w (s.m.reg i.b + i.imm) i.width).1) bc bM vi vo eff i w (hw.own (by repeat' (first | exact Split.nil _ | exact Del.here _ | apply Split.cons | apply Del.there))) hI) rfl (fun _ _ => ?_)
    refine Tr.nil (Tr.thenN (Tr.seq (Tr.region ?_)))
    refine Tr.q (QS.assign rfl) rfl ?_
    refine Tr.nil (Tr.thenN (Tr.ret ?_))
    refine Tr.ret1 Try.results75 rfl (fun w' hw => ?_)
    have hq : accessS l s i (nextP i) = ({ s with m := (s.m.set i.a (loadA l s.w (s.m.reg i.b + i.imm) i.width).1).to (nextP i) }, 0) := by unfold accessS; repeat (first | rw [if_pos (by first | assumption | omega)] | rw [if_neg (by first | assumption | omega)])
    exact ⟨wl, by rw [hq]; try rfl, by rw [hq]; exact hw.upd (Bg.le.refl _) (by repeat' constructor), by rw [hq]; exact ⟨hwl, by omega⟩⟩
set_option maxRecDepth 100000 in
set_option maxHeartbeats 8000000 in
theorem jump_cpu (s : St) (bc bM bm : Nat) (VR vi vo eff : Value) (rs : List RegV) (l : List SecV) (wl : WL) (i : Ins) (w : World) (ho : OwnAt w [cellE bc (cpuC s bM vi vo eff) 47, mapE bm u8V wl]) (hM : MemAt (Bg.lessB w (blks [cellE bc (cpuC s bM vi vo eff) 47, mapE bm u8V wl]) 0).blk bM bm VR rs) (hO : MemOK l rs) (hwl : mread wl = s.w) (hI : InsOK i) (hA : 0 ≤ i.a ∧ i.a < 8) (hB : 0 ≤ i.b ∧ i.b < 8) :
  Calls Try.prog 76 #[.pointer (some ⟨bc, 0, none⟩), .agg (encIns.enc i).toArray] w (fun e w' => ∃ wl' : WL, e = .returned (.int .i64 (jumpS l s i (nextP i)).2) ∧ Upd 0 w w' (blks [cellE bc (cpuC s bM vi vo eff) 47, mapE bm u8V wl]) [cellE bc (cpuC (jumpS l s i (nextP i)).1 bM vi vo eff) 47, mapE bm u8V wl'] ∧ (mread wl' = (jumpS l s i (nextP i)).1.w ∧ wl'.length ≤ wl.length + 4)) := by
 refine enterB (L := [cellE bc (cpuC s bM vi vo eff) 47, mapE bm u8V wl]) ho rfl (Nat.zero_le _) Try.func76 rfl Try.ntmps76 rfl ?_
 refine Tr.seq (Tr.region ?_)
 refine Tr.box rfl rfl rfl (fun b1 => ?_)
 refine Tr.q (QS.assign rfl) rfl ?_
 refine Tr.nil (Tr.thenN (Tr.seq (Tr.region ?_)))
 refine Tr.q (QS.lW rfl Try.isAgg67 Try.sizeOf67) rfl ?_
 refine Tr.q (QS.call rfl Try.call88 (fun w hw => next_isa i w hI)) rfl ?_
 refine Tr.q (QS.assign rfl) rfl ?_
 refine Tr.nil (Tr.thenN (Tr.seq (Tr.block (Tr.seq (Tr.region ?_)))))
 refine Tr.q (QS.fieldAddr (off := 2) (ft := 3) rfl Try.underlying67 rfl rfl Try.sizeOf3 (by decide)) rfl ?_
 refine Tr.q (QS.lV rfl Try.isAgg3) rfl ?_
 refine Tr.q (QS.eql rfl rfl) rfl ?_
 refine Tr.q (QS.assign rfl) rfl ?_
 refine Tr.nil (Tr.thenN ?_)
 refine Tr.cond rfl (fun h2 => ?_) (fun h2 => ?_)
 ·try simp only [bs] at h2
  refine Tr.regionH ([cellE bc (cpuC s bM vi vo eff) 47, cellE b1 (encIns.enc i) 67]) 9 rfl HLF.mixed ?_
  refine Tr.hT 0 rfl (by kernel_rfl) (panicIn (panicThen panicBody)) (QS.move rfl) ?_
  refine Tr.hT 1 rfl (by kernel_rfl) (panicIn (panicThen panicBody)) (QS.fieldAddr (off := 6) (ft := 3) rfl Try.underlying67 rfl rfl Try.sizeOf3 (by decide)) ?_
  refine Tr.hT 2 rfl (by kernel_rfl) (panicIn (panicThen panicBody)) (QS.lV rfl Try.isAgg3) ?_
  refine Tr.hT 3 rfl (by kernel_rfl) (panicIn (panicThen panicBody)) (QS.nilCheck rfl) ?_
  refine Tr.hT 4 rfl (by kernel_rfl) (panicIn (panicThen panicBody)) (QS.fieldAddr (off := 0) (ft := 42) rfl Try.underlying47 rfl rfl Try.sizeOf42 (by decide)) ?_
  refine Tr.hT 5 rfl (by kernel_rfl) (panicIn (panicThen panicBody)) (QS.fieldAddr (off := 0) (ft := 38) rfl Try.underlying42 rfl rfl Try.sizeOf38 (by decide)) ?_
  refine Tr.hT 6 rfl (by kernel_rfl) (panicIn (panicThen panicBody)) (QS.idxArr rfl rfl Try.underlying38 Try.sizeOf22 (by omega)) ?_
  refine Tr.hT 7 rfl (by kernel_rfl) (panicIn (panicThen panicBody)) (QS.loadV rfl (by repeat constructor) Try.isAgg22 (cpuC_reg hA (by simp))) ?_
  refine Tr.hT 8 rfl (by kernel_rfl) (panicIn (panicThen panicBody)) (QS.assign rfl) ?_
  refine Tr.hDone (by kernel_rfl) ?_
  refine Tr.inN (Tr.thenN (Tr.seq (Tr.region ?_)))
  refine Tr.q (QS.move rfl) rfl ?_
  refine Tr.q (QS.move rfl) rfl ?_
  refine Tr.q (QS.nilCheck rfl) rfl ?_
  refine Tr.q (QS.fieldAddr (off := 0) (ft := 42) rfl Try.underlying47 rfl rfl Try.sizeOf42 (by decide)) rfl ?_
  refine Tr.q (QS.fieldAddr (off := 8) (ft := 22) rfl Try.underlying42 rfl rfl Try.sizeOf22 (by decide)) rfl ?_
  refine Tr.storeV rfl rfl Try.sizeOf22 (by repeat constructor) (cpuC_to _) (by rfl) (by exact Nat.le_of_ble_eq_true rfl) (by first | exact List.all_eq_true.1 rfl | exact Enc.one _ _ | (intro u hu; simp [Value.cells] at hu; simp_all [Value.oneCell'])) rfl ?_
  refine Tr.nil (Tr.thenN (Tr.seq (Tr.region ?_)))
  refine Tr.q (QS.assign rfl) rfl ?_
  refine Tr.nil (Tr.thenN (Tr.ret ?_))
  refine Tr.ret1 Try.results76 rfl (fun w' hw => ?_)
  have hq : jumpS l s i (nextP i) = ({ s with m := s.m.to (s.m.reg i.a) }, 0) := by unfold jumpS; repeat (first | rw [if_pos (by first | assumption | omega)] | rw [if_neg (by first | assumption | omega)])
  exact ⟨wl, by rw [hq]; try rfl, by rw [hq]; exact hw.upd (Bg.le.refl _) (by repeat' constructor), by rw [hq]; exact ⟨hwl, by omega⟩⟩
 ·try simp only [bs] at h2
  refine Tr.seq (Tr.region ?_)
  refine Tr.q (QS.fieldAddr (off := 2) (ft := 3) rfl Try.underlying67 rfl rfl Try.sizeOf3 (by decide)) rfl ?_
  refine Tr.q (QS.lV rfl Try.isAgg3) rfl ?_
  refine Tr.q (QS.eql rfl rfl) rfl ?_
  refine Tr.q (QS.assign rfl) rfl ?_
  refine Tr.nil (Tr.thenN ?_)
  refine Tr.cond rfl (fun h3 => ?_) (fun h3 => ?_)
  ·try simp only [bs] at h3
   refine Tr.seq ?_
   refine Tr.regionH ([cellE bc (cpuC s bM vi vo eff) 47, cellE b1 (encIns.enc i) 67]) 22 rfl HLF.mixed ?_
   refine Tr.hT 0 rfl (by kernel_rfl) (panicThen (panicIn (panicThen panicBody))) (QS.move rfl) ?_
   refine Tr.hT 1 rfl (by kernel_rfl) (panicThen (panicIn (panicThen panicBody))) (QS.nilCheck rfl) ?_
   refine Tr.hT 2 rfl (by kernel_rfl) (panicThen (panicIn (panicThen panicBody))) (QS.fieldAddr (off := 13) (ft := 23) rfl Try.underlying47 rfl rfl Try.sizeOf23 (by decide)) ?_
   refine Tr.hT 3 rfl (by kernel_rfl) (panicThen (panicIn (panicThen panicBody))) (QS.loadV rfl (by repeat constructor) Try.isAgg23 (by rfl)) ?_
   refine Tr.hT 4 rfl (by kernel_rfl) (panicThen (panicIn (panicThen panicBody))) (QS.fieldAddr (off := 1) (ft := 22) rfl Try.underlying67 rfl rfl Try.sizeOf22 (by decide)) ?_
   refine Tr.hT 5 rfl (by kernel_rfl) (panicThen (panicIn (panicThen panicBody))) (QS.lV rfl Try.isAgg22) ?_
   refine Tr.hT 6 rfl (by kernel_rfl) (panicThen (panicIn (panicThen panicBody))) (QS.move rfl) ?_
   refine Tr.hT 7 rfl (by kernel_rfl) (panicThen (panicIn (panicThen panicBody))) (QS.fieldAddr (off := 6) (ft := 3) rfl Try.underlying67 rfl rfl Try.sizeOf3 (by decide)) ?_
   refine Tr.hT 8 rfl (by kernel_rfl) (panicThen (panicIn (panicThen panicBody))) (QS.lV rfl Try.isAgg3) ?_
   refine Tr.hT 9 rfl (by kernel_rfl) (panicThen (panicIn (panicThen panicBody))) (QS.nilCheck rfl) ?_
   refine Tr.hT 10 rfl (by kernel_rfl) (panicThen (panicIn (panicThen panicBody))) (QS.fieldAddr (off := 0) (ft := 42) rfl Try.underlying47 rfl rfl Try.sizeOf42 (by decide)) ?_
   refine Tr.hT 11 rfl (by kernel_rfl) (panicThen (panicIn (panicThen panicBody))) (QS.fieldAddr (off := 0) (ft := 38) rfl Try.underlying42 rfl rfl Try.sizeOf38 (by decide)) ?_
   refine Tr.hT 12 rfl (by kernel_rfl) (panicThen (panicIn (panicThen panicBody))) (QS.idxArr rfl rfl Try.underlying38 Try.sizeOf22 (by omega)) ?_
   refine Tr.hT 13 rfl (by kernel_rfl) (panicThen (panicIn (panicThen panicBody))) (QS.loadV rfl (by repeat constructor) Try.isAgg22 (cpuC_reg hA (by simp))) ?_
   refine Tr.hT 14 rfl (by kernel_rfl) (panicThen (panicIn (panicThen panicBody))) (QS.mul32 (m := 4) rfl rfl) ?_
   refine Tr.hT 15 rfl (by kernel_rfl) (panicThen (panicIn (panicThen panicBody))) (QS.add32 rfl rfl) ?_
   refine Tr.hAll [16] (by kernel_rfl) (by simp) (fun iq hq => ?_)
   obtain rfl := List.mem_singleton.1 hq
   refine Tr.hOp rfl ?_
   refine Tr.q (QS.call rfl Try.call12 (fun w hw => (by have q := mload_any bM bm VR rs l (i.imm + 4 * s.m.reg i.a) 4 wl w (hM.mono hw.bg) hO (mapE.in_ (hw.ent _ (by repeat constructor))); rw [hwl] at q; exact q))) rfl ?_
   refine Tr.hN ?_
   refine Tr.hT 17 rfl (by kernel_rfl) (panicThen (panicIn (panicThen panicBody))) (QS.move rfl) ?_
   refine Tr.hT 18 rfl (by kernel_rfl) (panicThen (panicIn (panicThen panicBody))) (QS.extract rfl rfl) ?_
   refine Tr.hT 19 rfl (by kernel_rfl) (panicThen (panicIn (panicThen panicBody))) (QS.extract rfl rfl) ?_
   refine Tr.hT 20 rfl (by kernel_rfl) (panicThen (panicIn (panicThen panicBody))) (QS.assign rfl) ?_
   refine Tr.hT 21 rfl (by kernel_rfl) (panicThen (panicIn (panicThen panicBody))) (QS.assign rfl) ?_
   refine Tr.hDone (by kernel_rfl) ?_
   refine Tr.thenN (Tr.seq (Tr.seq (Tr.region ?_)))
   refine Tr.q (QS.move rfl) rfl ?_
   refine Tr.q (QS.neq rfl rfl) rfl ?_
   refine Tr.nil (Tr.thenN ?_)
   refine Tr.cond rfl (fun h4 => ?_) (fun h4 => ?_)
   ·try simp only [bs] at h4
    refine Tr.seq (Tr.region ?_)
    refine Tr.q (QS.move rfl) rfl ?_
    refine Tr.q (QS.assign rfl) rfl ?_
    refine Tr.nil (Tr.thenN (Tr.ret (Tr.thenR ?_)))
    refine Tr.inR ?_
    refine Tr.thenR ?_
    refine Tr.ret1 Try.results76 rfl (fun w' hw => ?_)
    have hq : jumpS l s i (nextP i) = (s, (loadA l s.w (i.imm + 4 * s.m.reg i.a) 4).2) := by unfold jumpS; repeat (first | rw [if_pos (by first | assumption | omega)] | rw [if_neg (by first | assumption | omega)])
    exact ⟨wl, by rw [hq]; try rfl, by rw [hq]; exact hw.upd (Bg.le.refl _) (by repeat' constructor), by rw [hq]; exact ⟨hwl, by omega⟩⟩
   ·try simp only [bs] at h4
    refine Tr.skip (Tr.thenN (Tr.region ?_))
    refine Tr.q (QS.move rfl) rfl ?_
    refine Tr.q (QS.assign rfl) rfl ?_
    refine Tr.nil (Tr.inN (Tr.thenN (Tr.seq (Tr.region ?_))))
    refine Tr.q (QS.move rfl) rfl ?_
    refine Tr.q (QS.move rfl) rfl ?_
    refine Tr.q (QS.nilCheck rfl) rfl ?_
    refine Tr.q (QS.fieldAddr (off := 0) (ft := 42) rfl Try.underlying47 rfl rfl Try.sizeOf42 (by decide)) rfl ?_
    refine Tr.q (QS.fieldAddr (off := 8) (ft := 22) rfl Try.underlying42 rfl rfl Try.sizeOf22 (by decide)) rfl ?_
    refine Tr.storeV rfl rfl Try.sizeOf22 (by repeat constructor) (cpuC_to _) (by rfl) (by exact Nat.le_of_ble_eq_true rfl) (by first | exact List.all_eq_true.1 rfl | exact Enc.one _ _ | (intro u hu; simp [Value.cells] at hu; simp_all [Value.oneCell'])) rfl ?_
    refine Tr.nil (Tr.thenN (Tr.seq (Tr.region ?_)))
    refine Tr.q (QS.assign rfl) rfl ?_
    refine Tr.nil (Tr.thenN (Tr.ret ?_))
    refine Tr.ret1 Try.results76 rfl (fun w' hw => ?_)
    have hq : jumpS l s i (nextP i) = ({ s with m := s.m.to (loadA l s.w (i.imm + 4 * s.m.reg i.a) 4).1 }, 0) := by unfold jumpS; repeat (first | rw [if_pos (by first | assumption | omega)] | rw [if_neg (by first | assumption | omega)])
    exact ⟨wl, by rw [hq]; try rfl, by rw [hq]; exact hw.upd (Bg.le.refl _) (by repeat' constructor), by rw [hq]; exact ⟨hwl, by omega⟩⟩
  ·try simp only [bs] at h3
   refine Tr.seq ?_
   refine Tr.regionH ([cellE bc (cpuC s bM vi vo eff) 47, cellE b1 (encIns.enc i) 67]) 9 rfl HLF.mixed ?_
   refine Tr.hT 0 rfl (by kernel_rfl) (panicThen (panicIn (panicThen panicBody))) (QS.fieldAddr (off := 5) (ft := 3) rfl Try.underlying67 rfl rfl Try.sizeOf3 (by decide)) ?_
   refine Tr.hT 1 rfl (by kernel_rfl) (panicThen (panicIn (panicThen panicBody))) (QS.lV rfl Try.isAgg3) ?_
   refine Tr.hT 2 rfl (by kernel_rfl) (panicThen (panicIn (panicThen panicBody))) (QS.move rfl) ?_
   refine Tr.hT 3 rfl (by kernel_rfl) (panicThen (panicIn (panicThen panicBody))) (QS.nilCheck rfl) ?_
   refine Tr.hT 4 rfl (by kernel_rfl) (panicThen (panicIn (panicThen panicBody))) (QS.fieldAddr (off := 0) (ft := 42) rfl Try.underlying47 rfl rfl Try.sizeOf42 (by decide)) ?_
   refine Tr.hT 5 rfl (by kernel_rfl) (panicThen (panicIn (panicThen panicBody))) (QS.fieldAddr (off := 9) (ft := 40) rfl Try.underlying42 rfl rfl Try.sizeOf40 (by decide)) ?_
   refine Tr.hT 6 rfl (by kernel_rfl) (panicThen (panicIn (panicThen panicBody))) (QS.loadVA (vs := encFlg.enc s.m.f) rfl (by repeat constructor) Try.isAgg40 Try.sizeOf40 rfl rfl) ?_
   refine Tr.hAll [7] (by kernel_rfl) (by simp) (fun iq hq => ?_)
   obtain rfl := List.mem_singleton.1 hq
   refine Tr.hOp rfl ?_
   refine Tr.q (QS.call rfl Try.call89 (fun w hw => holds_bits i.cc s.m.f w)) rfl ?_
   refine Tr.hN ?_
   refine Tr.hT 8 rfl (by kernel_rfl) (panicThen (panicIn (panicThen panicBody))) (QS.assign rfl) ?_
   refine Tr.hDone (by kernel_rfl) ?_
   refine Tr.thenN ?_
   refine Tr.cond rfl (fun h5 => ?_) (fun h5 => ?_)
   ·try simp only [bs] at h5
    refine Tr.region ?_
    refine Tr.q (QS.fieldAddr (off := 1) (ft := 22) rfl Try.underlying67 rfl rfl Try.sizeOf22 (by decide)) rfl ?_
    refine Tr.q (QS.lV rfl Try.isAgg22) rfl ?_
    refine Tr.q (QS.assign rfl) rfl ?_
    refine Tr.nil (Tr.inN (Tr.thenN (Tr.seq (Tr.region ?_))))
    refine Tr.q (QS.move rfl) rfl ?_
    refine Tr.q (QS.move rfl) rfl ?_
    refine Tr.q (QS.nilCheck rfl) rfl ?_
    refine Tr.q (QS.fieldAddr (off := 0) (ft := 42) rfl Try.underlying47 rfl rfl Try.sizeOf42 (by decide)) rfl ?_
    refine Tr.q (QS.fieldAddr (off := 8) (ft := 22) rfl Try.underlying42 rfl rfl Try.sizeOf22 (by decide)) rfl ?_
    refine Tr.storeV rfl rfl Try.sizeOf22 (by repeat constructor) (cpuC_to _) (by rfl) (by exact Nat.le_of_ble_eq_true rfl) (by first | exact List.all_eq_true.1 rfl | exact Enc.one _ _ | (intro u hu; simp [Value.cells] at hu; simp_all [Value.oneCell'])) rfl ?_
    refine Tr.nil (Tr.thenN (Tr.seq (Tr.region ?_)))
    refine Tr.q (QS.assign rfl) rfl ?_
    refine Tr.nil (Tr.thenN (Tr.ret ?_))
    refine Tr.ret1 Try.results76 rfl (fun w' hw => ?_)
    have hq : jumpS l s i (nextP i) = ({ s with m := s.m.to i.imm }, 0) := by unfold jumpS; repeat (first | rw [if_pos (by first | assumption | omega)] | rw [if_neg (by first | assumption | omega)])
    exact ⟨wl, by rw [hq]; try rfl, by rw [hq]; exact hw.upd (Bg.le.refl _) (by repeat' constructor), by rw [hq]; exact ⟨hwl, by omega⟩⟩
   ·try simp only [bs] at h5
    refine Tr.skip (Tr.inN (Tr.thenN (Tr.seq (Tr.region ?_))))
    refine Tr.q (QS.move rfl) rfl ?_
    refine Tr.q (QS.move rfl) rfl ?_
    refine Tr.q (QS.nilCheck rfl) rfl ?_
    refine Tr.q (QS.fieldAddr (off := 0) (ft := 42) rfl Try.underlying47 rfl rfl Try.sizeOf42 (by decide)) rfl ?_
    refine Tr.q (QS.fieldAddr (off := 8) (ft := 22) rfl Try.underlying42 rfl rfl Try.sizeOf22 (by decide)) rfl ?_
    refine Tr.storeV rfl rfl Try.sizeOf22 (by repeat constructor) (cpuC_to _) (by rfl) (by exact Nat.le_of_ble_eq_true rfl) (by first | exact List.all_eq_true.1 rfl | exact Enc.one _ _ | (intro u hu; simp [Value.cells] at hu; simp_all [Value.oneCell'])) rfl ?_
    refine Tr.nil (Tr.thenN (Tr.seq (Tr.region ?_)))
    refine Tr.q (QS.assign rfl) rfl ?_
    refine Tr.nil (Tr.thenN (Tr.ret ?_))
    refine Tr.ret1 Try.results76 rfl (fun w' hw => ?_)
    have hh : ¬ holdsP i.cc s.m.f = true := by simp_all
    have hq : jumpS l s i (nextP i) = ({ s with m := s.m.to (nextP i) }, 0) := by unfold jumpS; repeat (first | rw [if_pos (by first | assumption | omega)] | rw [if_neg (by first | assumption | omega)])
    exact ⟨wl, by rw [hq]; try rfl, by rw [hq]; exact hw.upd (Bg.le.refl _) (by repeat' constructor), by rw [hq]; exact ⟨hwl, by omega⟩⟩
set_option maxRecDepth 100000 in
set_option maxHeartbeats 8000000 in
theorem call_cpu (s : St) (bc bM bm : Nat) (VR vi vo eff : Value) (rs : List RegV) (l : List SecV) (wl : WL) (i : Ins) (w : World) (ho : OwnAt w [cellE bc (cpuC s bM vi vo eff) 47, mapE bm u8V wl]) (hM : MemAt (Bg.lessB w (blks [cellE bc (cpuC s bM vi vo eff) 47, mapE bm u8V wl]) 0).blk bM bm VR rs) (hO : MemOK l rs) (hwl : mread wl = s.w) (hI : InsOK i) (hA : 0 ≤ i.a ∧ i.a < 8) (hB : 0 ≤ i.b ∧ i.b < 8) :
  Calls Try.prog 77 #[.pointer (some ⟨bc, 0, none⟩), .agg (encIns.enc i).toArray] w (fun e w' => ∃ wl' : WL, e = .returned (.int .i64 (callS l s i (nextP i)).2) ∧ Upd 0 w w' (blks [cellE bc (cpuC s bM vi vo eff) 47, mapE bm u8V wl]) [cellE bc (cpuC (callS l s i (nextP i)).1 bM vi vo eff) 47, mapE bm u8V wl'] ∧ (mread wl' = (callS l s i (nextP i)).1.w ∧ wl'.length ≤ wl.length + 4)) := by
 refine enterB (L := [cellE bc (cpuC s bM vi vo eff) 47, mapE bm u8V wl]) ho rfl (Nat.zero_le _) Try.func77 rfl Try.ntmps77 rfl ?_
 refine Tr.seq (Tr.region ?_)
 refine Tr.box rfl rfl rfl (fun b1 => ?_)
 refine Tr.q (QS.assign rfl) rfl ?_
 refine Tr.nil (Tr.thenN (Tr.seq (Tr.region ?_)))
 refine Tr.q (QS.move rfl) rfl ?_
 refine Tr.q (QS.nilCheck rfl) rfl ?_
 refine Tr.q (QS.fieldAddr (off := 0) (ft := 42) rfl Try.underlying47 rfl rfl Try.sizeOf42 (by decide)) rfl ?_
 refine Tr.q (QS.fieldAddr (off := 0) (ft := 38) rfl Try.underlying42 rfl rfl Try.sizeOf38 (by decide)) rfl ?_
 refine Tr.q (QS.idxArr rfl rfl Try.underlying38 Try.sizeOf22 (by omega)) rfl ?_
 refine Tr.q (QS.loadV rfl (by repeat constructor) Try.isAgg22 (by rfl)) rfl ?_
 refine Tr.q (QS.assign rfl) rfl ?_
 refine Tr.nil (Tr.thenN (Tr.seq (Tr.seq (Tr.region ?_))))
 refine Tr.q (QS.fieldAddr (off := 2) (ft := 3) rfl Try.underlying67 rfl rfl Try.sizeOf3 (by decide)) rfl ?_
 refine Tr.q (QS.lV rfl Try.isAgg3) rfl ?_
 refine Tr.q (QS.eql rfl rfl) rfl ?_
 refine Tr.nil (Tr.thenN ?_)
 refine Tr.cond rfl (fun h2 => ?_) (fun h2 => ?_)
 ·try simp only [bs] at h2
  refine Tr.seq (Tr.region ?_)
  refine Tr.q (QS.move rfl) rfl ?_
  refine Tr.q (QS.nilCheck rfl) rfl ?_
  refine Tr.q (QS.fieldAddr (off := 13) (ft := 23) rfl Try.underlying47 rfl rfl Try.sizeOf23 (by decide)) rfl ?_
  refine Tr.q (QS.loadV rfl (by repeat constructor) Try.isAgg23 (by rfl)) rfl ?_
  refine Tr.q (QS.move rfl) rfl ?_
  refine Tr.q (QS.call rfl Try.call12 (fun w hw => (by have q := mload_any bM bm VR rs l s.m.r7 4 wl w (hM.mono hw.bg) hO (mapE.in_ (hw.ent _ (by repeat constructor))); rw [hwl] at q; exact q))) rfl ?_
  refine Tr.q (QS.move rfl) rfl ?_
  refine Tr.q (QS.extract rfl rfl) rfl ?_
  refine Tr.q (QS.extract rfl rfl) rfl ?_
  refine Tr.q (QS.assign rfl) rfl ?_
  refine Tr.q (QS.assign rfl) rfl ?_
  refine Tr.nil (Tr.thenN (Tr.seq (Tr.seq (Tr.region ?_))))
  refine Tr.q (QS.move rfl) rfl ?_
  refine Tr.q (QS.neq rfl rfl) rfl ?_
  refine Tr.nil (Tr.thenN ?_)
  refine Tr.cond rfl (fun h3 => ?_) (fun h3 => ?_)
  ·try simp only [bs] at h3
   refine Tr.seq (Tr.region ?_)
   refine Tr.q (QS.move rfl) rfl ?_
   refine Tr.q (QS.assign rfl) rfl ?_
   refine Tr.nil (Tr.thenN (Tr.ret (Tr.thenR (Tr.thenR ?_))))
   refine Tr.ret1 Try.results77 rfl (fun w' hw => ?_)
   have hq : callS l s i (nextP i) = (s, (loadA l s.w s.m.r7 4).2) := by unfold callS; repeat (first | rw [if_pos (by first | assumption | omega)] | rw [if_neg (by first | assumption | omega)])
   exact ⟨wl, by rw [hq]; try rfl, by rw [hq]; exact hw.upd (Bg.le.refl _) (by repeat' constructor), by rw [hq]; exact ⟨hwl, by omega⟩⟩
  ·try simp only [bs] at h3
   refine Tr.skip (Tr.thenN (Tr.seq (Tr.region ?_)))
   refine Tr.q (QS.move rfl) rfl ?_
   refine Tr.q (QS.move rfl) rfl ?_
   refine Tr.q (QS.add32 (n := 4) rfl rfl) rfl ?_
   refine Tr.q (QS.nilCheck rfl) rfl ?_
   refine Tr.q (QS.fieldAddr (off := 0) (ft := 42) rfl Try.underlying47 rfl rfl Try.sizeOf42 (by decide)) rfl ?_
   refine Tr.q (QS.fieldAddr (off := 0) (ft := 38) rfl Try.underlying42 rfl rfl Try.sizeOf38 (by decide)) rfl ?_
   refine Tr.q (QS.idxArr rfl rfl Try.underlying38 Try.sizeOf22 (by omega)) rfl ?_
   refine Tr.storeV rfl rfl Try.sizeOf22 (by repeat constructor) (cpuC_set (k := 7) (by omega) (by simp) _) (by rfl) (by rw [cpuC_len]; first | (simp; done) | (simp; omega)) (by first | exact List.all_eq_true.1 rfl | exact Enc.one _ _ | (intro u hu; simp [Value.cells] at hu; simp_all [Value.oneCell'])) rfl ?_
   refine Tr.nil (Tr.thenN (Tr.seq (Tr.region ?_)))
   refine Tr.q (QS.move rfl) rfl ?_
   refine Tr.q (QS.move rfl) rfl ?_
   refine Tr.q (QS.nilCheck rfl) rfl ?_
   refine Tr.q (QS.fieldAddr (off := 0) (ft := 42) rfl Try.underlying47 rfl rfl Try.sizeOf42 (by decide)) rfl ?_
   refine Tr.q (QS.fieldAddr (off := 8) (ft := 22) rfl Try.underlying42 rfl rfl Try.sizeOf22 (by decide)) rfl ?_
   refine Tr.storeV rfl rfl Try.sizeOf22 (by repeat constructor) (cpuC_to _) (by rfl) (by exact Nat.le_of_ble_eq_true rfl) (by first | exact List.all_eq_true.1 rfl | exact Enc.one _ _ | (intro u hu; simp [Value.cells] at hu; simp_all [Value.oneCell'])) rfl ?_
   refine Tr.nil (Tr.thenN (Tr.seq (Tr.region ?_)))
   refine Tr.q (QS.move rfl) rfl ?_
   refine Tr.q (QS.move rfl) rfl ?_
   refine Tr.q (QS.eql32 (n := 4294967295) rfl rfl) rfl ?_
   refine Tr.q (QS.nilCheck rfl) rfl ?_
   refine Tr.q (QS.fieldAddr (off := 17) (ft := 4) rfl Try.underlying47 rfl rfl Try.sizeOf4 (by decide)) rfl ?_
   refine Tr.storeV rfl rfl Try.sizeOf4 (by repeat constructor) (cpuC_done _) (by rfl) (by exact Nat.le_of_ble_eq_true rfl) (by first | exact List.all_eq_true.1 rfl | exact Enc.one _ _ | (intro u hu; simp [Value.cells] at hu; simp_all [Value.oneCell'])) rfl ?_
   refine Tr.nil (Tr.thenN (Tr.seq (Tr.region ?_)))
   refine Tr.q (QS.assign rfl) rfl ?_
   refine Tr.nil (Tr.thenN (Tr.ret (Tr.thenR ?_)))
   refine Tr.ret1 Try.results77 rfl (fun w' hw => ?_)
   have hq : callS l s i (nextP i) = ({ s with m := (s.m.set 7 (s.m.r7 + 4)).to (loadA l s.w s.m.r7 4).1, done := decide ((loadA l s.w s.m.r7 4).1 = 4294967295) }, 0) := by unfold callS; repeat (first | rw [if_pos (by first | assumption | omega)] | rw [if_neg (by first | assumption | omega)])
   exact ⟨wl, by rw [hq]; try rfl, by rw [hq]; exact hw.upd (Bg.le.refl _) (by repeat' constructor), by rw [hq]; exact ⟨hwl, by omega⟩⟩
 ·try simp only [bs] at h2
  refine Tr.skip (Tr.thenN (Tr.seq (Tr.region ?_)))
  refine Tr.q (QS.fieldAddr (off := 1) (ft := 22) rfl Try.underlying67 rfl rfl Try.sizeOf22 (by decide)) rfl ?_
  refine Tr.q (QS.lV rfl Try.isAgg22) rfl ?_
  refine Tr.q (QS.assign rfl) rfl ?_
  refine Tr.nil (Tr.thenN (Tr.seq (Tr.seq (Tr.region ?_))))
  refine Tr.q (QS.fieldAddr (off := 2) (ft := 3) rfl Try.underlying67 rfl rfl Try.sizeOf3 (by decide)) rfl ?_
  refine Tr.q (QS.lV rfl Try.isAgg3) rfl ?_
  refine Tr.q (QS.eql rfl rfl) rfl ?_
  refine Tr.nil (Tr.thenN ?_)
  refine Tr.cond rfl (fun h4 => ?_) (fun h4 => ?_)
  ·try simp only [bs] at h4
   refine Tr.regionH ([cellE bc (cpuC s bM vi vo eff) 47, cellE b1 (encIns.enc i) 67]) 9 rfl HLF.mixed ?_
   refine Tr.hT 0 rfl (by kernel_rfl) (panicThen panicBody) (QS.move rfl) ?_
   refine Tr.hT 1 rfl (by kernel_rfl) (panicThen panicBody) (QS.fieldAddr (off := 6) (ft := 3) rfl Try.underlying67 rfl rfl Try.sizeOf3 (by decide)) ?_
   refine Tr.hT 2 rfl (by kernel_rfl) (panicThen panicBody) (QS.lV rfl Try.isAgg3) ?_
   refine Tr.hT 3 rfl (by kernel_rfl) (panicThen panicBody) (QS.nilCheck rfl) ?_
   refine Tr.hT 4 rfl (by kernel_rfl) (panicThen panicBody) (QS.fieldAddr (off := 0) (ft := 42) rfl Try.underlying47 rfl rfl Try.sizeOf42 (by decide)) ?_
   refine Tr.hT 5 rfl (by kernel_rfl) (panicThen panicBody) (QS.fieldAddr (off := 0) (ft := 38) rfl Try.underlying42 rfl rfl Try.sizeOf38 (by decide)) ?_
   refine Tr.hT 6 rfl (by kernel_rfl) (panicThen panicBody) (QS.idxArr rfl rfl Try.underlying38 Try.sizeOf22 (by omega)) ?_
   refine Tr.hT 7 rfl (by kernel_rfl) (panicThen panicBody) (QS.loadV rfl (by repeat constructor) Try.isAgg22 (cpuC_reg hA (by simp))) ?_
   refine Tr.hT 8 rfl (by kernel_rfl) (panicThen panicBody) (QS.assign rfl) ?_
   refine Tr.hDone (by kernel_rfl) ?_
   refine Tr.thenN (Tr.seq (Tr.seq ?_))
   refine Tr.regionH ([cellE bc (cpuC s bM vi vo eff) 47, cellE b1 (encIns.enc i) 67]) 10 rfl HLF.mixed ?_
   refine Tr.hT 0 rfl (by kernel_rfl) (panicThen (panicThen panicBody)) (QS.move rfl) ?_
   refine Tr.hT 1 rfl (by kernel_rfl) (panicThen (panicThen panicBody)) (QS.nilCheck rfl) ?_
   refine Tr.hT 2 rfl (by kernel_rfl) (panicThen (panicThen panicBody)) (QS.fieldAddr (off := 13) (ft := 23) rfl Try.underlying47 rfl rfl Try.sizeOf23 (by decide)) ?_
   refine Tr.hT 3 rfl (by kernel_rfl) (panicThen (panicThen panicBody)) (QS.loadV rfl (by repeat constructor) Try.isAgg23 (by rfl)) ?_
   refine Tr.hT 4 rfl (by kernel_rfl) (panicThen (panicThen panicBody)) (QS.move rfl) ?_
   refine Tr.hT 5 rfl (by kernel_rfl) (panicThen (panicThen panicBody)) (QS.sub32 (n := 4) rfl rfl) ?_
   refine Tr.hT 6 rfl (by kernel_rfl) (panicThen (panicThen panicBody)) (QS.lW rfl Try.isAgg67 Try.sizeOf67) ?_
   refine Tr.hAll [7] (by kernel_rfl) (by simp) (fun iq hq => ?_)
   obtain rfl := List.mem_singleton.1 hq
   refine Tr.hOp rfl ?_
   refine Tr.q (QS.call rfl Try.call88 (fun w hw => next_isa i w hI)) rfl ?_
   refine Tr.hN ?_
   refine Tr.hAll [8] (by kernel_rfl) (by simp) (fun iq hq => ?_)
   obtain rfl := List.mem_singleton.1 hq
   refine Tr.hOp rfl ?_
   refine Tr.callO (fun _ : WL => .int .i64 (storeA l s.w (s.m.r7 - 4) 4 (nextP i)).2) [mapE bm u8V wl] (fun wl' => [mapE bm u8V wl']) (ok := fun wl' => mread wl' = (storeA l s.w (s.m.r7 - 4) 4 (nextP i)).1 ∧ wl'.length ≤ wl.length + 4) (dd := fun _ => 0) rfl Try.call35 (by repeat' (first | exact Split.nil _ | exact Del.here _ | apply Split.cons | apply Del.there)) (fun w hw => Nat.le_refl _) (fun w hw => by have q := mstore_any bM bm VR rs l (s.m.r7 - 4) 4 (nextP i) wl w (hw.own (by repeat' (first | exact Split.nil _ | exact Del.here _ | apply Split.cons | apply Del.there))) (hM.mono (hw.lessB (Lo := [mapE bm u8V wl]) (by repeat' (first | exact Split.nil _ | exact Del.here _ | apply Split.cons | apply Del.there)))) hO; rw [hwl] at q; exact q) rfl (fun wl2 hw2 => ?_)
   refine Tr.hN ?_
   refine Tr.hT 9 rfl (by kernel_rfl) (panicThen (panicThen panicBody)) (QS.assign rfl) ?_
   refine Tr.hDone (by kernel_rfl) ?_
   refine Tr.thenN (Tr.seq (Tr.region ?_))
   refine Tr.q (QS.move rfl) rfl ?_
   refine Tr.q (QS.neq rfl rfl) rfl ?_
   refine Tr.nil (Tr.thenN ?_)
   refine Tr.cond rfl (fun h5 => ?_) (fun h5 => ?_)
   ·try simp only [bs] at h5
    refine Tr.seq (Tr.region ?_)
    refine Tr.q (QS.move rfl) rfl ?_
    refine Tr.q (QS.assign rfl) rfl ?_
    refine Tr.nil (Tr.thenN (Tr.ret (Tr.thenR ?_)))
    refine Tr.ret1 Try.results77 rfl (fun w' hw => ?_)
    have hq : callS l s i (nextP i) = (s, (storeA l s.w (s.m.r7 - 4) 4 (nextP i)).2) := by unfold callS; repeat (first | rw [if_pos (by first | assumption | omega)] | rw [if_neg (by first | assumption | omega)])
    exact ⟨wl2, by rw [hq]; try rfl, by rw [hq]; exact hw.upd (Bg.le.refl _) (by repeat' constructor), by rw [hq]; exact ⟨hw2.1.trans (store_err (by assumption)), hw2.2⟩⟩
   ·try simp only [bs] at h5
    refine Tr.skip (Tr.thenN (Tr.seq (Tr.region ?_)))
    refine Tr.q (QS.move rfl) rfl ?_
    refine Tr.q (QS.move rfl) rfl ?_
    refine Tr.q (QS.sub32 (n := 4) rfl rfl) rfl ?_
    refine Tr.q (QS.nilCheck rfl) rfl ?_
    refine Tr.q (QS.fieldAddr (off := 0) (ft := 42) rfl Try.underlying47 rfl rfl Try.sizeOf42 (by decide)) rfl ?_
    refine Tr.q (QS.fieldAddr (off := 0) (ft := 38) rfl Try.underlying42 rfl rfl Try.sizeOf38 (by decide)) rfl ?_
    refine Tr.q (QS.idxArr rfl rfl Try.underlying38 Try.sizeOf22 (by omega)) rfl ?_
    refine Tr.storeV rfl rfl Try.sizeOf22 (by repeat constructor) (cpuC_set (k := 7) (by omega) (by simp) _) (by rfl) (by rw [cpuC_len]; first | (simp; done) | (simp; omega)) (by first | exact List.all_eq_true.1 rfl | exact Enc.one _ _ | (intro u hu; simp [Value.cells] at hu; simp_all [Value.oneCell'])) rfl ?_
    refine Tr.nil (Tr.thenN (Tr.seq (Tr.region ?_)))
    refine Tr.q (QS.move rfl) rfl ?_
    refine Tr.q (QS.move rfl) rfl ?_
    refine Tr.q (QS.nilCheck rfl) rfl ?_
    refine Tr.q (QS.fieldAddr (off := 0) (ft := 42) rfl Try.underlying47 rfl rfl Try.sizeOf42 (by decide)) rfl ?_
    refine Tr.q (QS.fieldAddr (off := 8) (ft := 22) rfl Try.underlying42 rfl rfl Try.sizeOf22 (by decide)) rfl ?_
    refine Tr.storeV rfl rfl Try.sizeOf22 (by repeat constructor) (cpuC_to _) (by rfl) (by exact Nat.le_of_ble_eq_true rfl) (by first | exact List.all_eq_true.1 rfl | exact Enc.one _ _ | (intro u hu; simp [Value.cells] at hu; simp_all [Value.oneCell'])) rfl ?_
    refine Tr.nil (Tr.thenN (Tr.seq (Tr.region ?_)))
    refine Tr.q (QS.assign rfl) rfl ?_
    refine Tr.nil (Tr.thenN (Tr.ret ?_))
    refine Tr.ret1 Try.results77 rfl (fun w' hw => ?_)
    have hq : callS l s i (nextP i) = ({ s with w := (storeA l s.w (s.m.r7 - 4) 4 (nextP i)).1, m := (s.m.set 7 (s.m.r7 - 4)).to (s.m.reg i.a) }, 0) := by unfold callS; repeat (first | rw [if_pos (by first | assumption | omega)] | rw [if_neg (by first | assumption | omega)])
    exact ⟨wl2, by rw [hq]; try rfl, by rw [hq]; exact hw.upd (Bg.le.refl _) (by repeat' constructor), by rw [hq]; exact ⟨hw2.1, hw2.2⟩⟩
  ·try simp only [bs] at h4
   refine Tr.skip (Tr.thenN (Tr.seq (Tr.seq ?_)))
   refine Tr.regionH ([cellE bc (cpuC s bM vi vo eff) 47, cellE b1 (encIns.enc i) 67]) 10 rfl HLF.mixed ?_
   refine Tr.hT 0 rfl (by kernel_rfl) (panicThen (panicThen panicBody)) (QS.move rfl) ?_
   refine Tr.hT 1 rfl (by kernel_rfl) (panicThen (panicThen panicBody)) (QS.nilCheck rfl) ?_
   refine Tr.hT 2 rfl (by kernel_rfl) (panicThen (panicThen panicBody)) (QS.fieldAddr (off := 13) (ft := 23) rfl Try.underlying47 rfl rfl Try.sizeOf23 (by decide)) ?_
   refine Tr.hT 3 rfl (by kernel_rfl) (panicThen (panicThen panicBody)) (QS.loadV rfl (by repeat constructor) Try.isAgg23 (by rfl)) ?_
   refine Tr.hT 4 rfl (by kernel_rfl) (panicThen (panicThen panicBody)) (QS.move rfl) ?_
   refine Tr.hT 5 rfl (by kernel_rfl) (panicThen (panicThen panicBody)) (QS.sub32 (n := 4) rfl rfl) ?_
   refine Tr.hT 6 rfl (by kernel_rfl) (panicThen (panicThen panicBody)) (QS.lW rfl Try.isAgg67 Try.sizeOf67) ?_
   refine Tr.hAll [7] (by kernel_rfl) (by simp) (fun iq hq => ?_)
   obtain rfl := List.mem_singleton.1 hq
   refine Tr.hOp rfl ?_
   refine Tr.q (QS.call rfl Try.call88 (fun w hw => next_isa i w hI)) rfl ?_
   refine Tr.hN ?_
   refine Tr.hAll [8] (by kernel_rfl) (by simp) (fun iq hq => ?_)
   obtain rfl := List.mem_singleton.1 hq
   refine Tr.hOp rfl ?_
   refine Tr.callO (fun _ : WL => .int .i64 (storeA l s.w (s.m.r7 - 4) 4 (nextP i)).2) [mapE bm u8V wl] (fun wl' => [mapE bm u8V wl']) (ok := fun wl' => mread wl' = (storeA l s.w (s.m.r7 - 4) 4 (nextP i)).1 ∧ wl'.length ≤ wl.length + 4) (dd := fun _ => 0) rfl Try.call35 (by repeat' (first | exact Split.nil _ | exact Del.here _ | apply Split.cons | apply Del.there)) (fun w hw => Nat.le_refl _) (fun w hw => by have q := mstore_any bM bm VR rs l (s.m.r7 - 4) 4 (nextP i) wl w (hw.own (by repeat' (first | exact Split.nil _ | exact Del.here _ | apply Split.cons | apply Del.there))) (hM.mono (hw.lessB (Lo := [mapE bm u8V wl]) (by repeat' (first | exact Split.nil _ | exact Del.here _ | apply Split.cons | apply Del.there)))) hO; rw [hwl] at q; exact q) rfl (fun wl2 hw2 => ?_)
   refine Tr.hN ?_
   refine Tr.hT 9 rfl (by kernel_rfl) (panicThen (panicThen panicBody)) (QS.assign rfl) ?_
   refine Tr.hDone (by kernel_rfl) ?_
   refine Tr.thenN (Tr.seq (Tr.region ?_))
   refine Tr.q (QS.move rfl) rfl ?_
   refine Tr.q (QS.neq rfl rfl) rfl ?_
   refine Tr.nil (Tr.thenN ?_)
   refine Tr.cond rfl (fun h6 => ?_) (fun h6 => ?_)
   ·try simp only [bs] at h6
    refine Tr.seq (Tr.region ?_)
    refine Tr.q (QS.move rfl) rfl ?_
    refine Tr.q (QS.assign rfl) rfl ?_
    refine Tr.nil (Tr.thenN (Tr.ret (Tr.thenR ?_)))
    refine Tr.ret1 Try.results77 rfl (fun w' hw => ?_)
    have hq : callS l s i (nextP i) = (s, (storeA l s.w (s.m.r7 - 4) 4 (nextP i)).2) := by unfold callS; repeat (first | rw [if_pos (by first | assumption | omega)] | rw [if_neg (by first | assumption | omega)])
    exact ⟨wl2, by rw [hq]; try rfl, by rw [hq]; exact hw.upd (Bg.le.refl _) (by repeat' constructor), by rw [hq]; exact ⟨hw2.1.trans (store_err (by assumption)), hw2.2⟩⟩
   ·try simp only [bs] at h6
    refine Tr.skip (Tr.thenN (Tr.seq (Tr.region ?_)))
    refine Tr.q (QS.move rfl) rfl ?_
    refine Tr.q (QS.move rfl) rfl ?_
    refine Tr.q (QS.sub32 (n := 4) rfl rfl) rfl ?_
    refine Tr.q (QS.nilCheck rfl) rfl ?_
    refine Tr.q (QS.fieldAddr (off := 0) (ft := 42) rfl Try.underlying47 rfl rfl Try.sizeOf42 (by decide)) rfl ?_
    refine Tr.q (QS.fieldAddr (off := 0) (ft := 38) rfl Try.underlying42 rfl rfl Try.sizeOf38 (by decide)) rfl ?_
    refine Tr.q (QS.idxArr rfl rfl Try.underlying38 Try.sizeOf22 (by omega)) rfl ?_
    refine Tr.storeV rfl rfl Try.sizeOf22 (by repeat constructor) (cpuC_set (k := 7) (by omega) (by simp) _) (by rfl) (by rw [cpuC_len]; first | (simp; done) | (simp; omega)) (by first | exact List.all_eq_true.1 rfl | exact Enc.one _ _ | (intro u hu; simp [Value.cells] at hu; simp_all [Value.oneCell'])) rfl ?_
    refine Tr.nil (Tr.thenN (Tr.seq (Tr.region ?_)))
    refine Tr.q (QS.move rfl) rfl ?_
    refine Tr.q (QS.move rfl) rfl ?_
    refine Tr.q (QS.nilCheck rfl) rfl ?_
    refine Tr.q (QS.fieldAddr (off := 0) (ft := 42) rfl Try.underlying47 rfl rfl Try.sizeOf42 (by decide)) rfl ?_
    refine Tr.q (QS.fieldAddr (off := 8) (ft := 22) rfl Try.underlying42 rfl rfl Try.sizeOf22 (by decide)) rfl ?_
    refine Tr.storeV rfl rfl Try.sizeOf22 (by repeat constructor) (cpuC_to _) (by rfl) (by exact Nat.le_of_ble_eq_true rfl) (by first | exact List.all_eq_true.1 rfl | exact Enc.one _ _ | (intro u hu; simp [Value.cells] at hu; simp_all [Value.oneCell'])) rfl ?_
    refine Tr.nil (Tr.thenN (Tr.seq (Tr.region ?_)))
    refine Tr.q (QS.assign rfl) rfl ?_
    refine Tr.nil (Tr.thenN (Tr.ret ?_))
    refine Tr.ret1 Try.results77 rfl (fun w' hw => ?_)
    have hq : callS l s i (nextP i) = ({ s with w := (storeA l s.w (s.m.r7 - 4) 4 (nextP i)).1, m := (s.m.set 7 (s.m.r7 - 4)).to i.imm }, 0) := by unfold callS; repeat (first | rw [if_pos (by first | assumption | omega)] | rw [if_neg (by first | assumption | omega)])
    exact ⟨wl2, by rw [hq]; try rfl, by rw [hq]; exact hw.upd (Bg.le.refl _) (by repeat' constructor), by rw [hq]; exact ⟨hw2.1, hw2.2⟩⟩
set_option maxRecDepth 100000 in
set_option maxHeartbeats 8000000 in
theorem trans_cpu (s : St) (bc bM : Nat) (vi vo eff : Value) (inp : List UInt32) (i : Ins) (w : World) (ho : OwnAt w [cellE bc (cpuC s bM vi vo eff) 47, rowE vo 22 encU32 s.out]) (hin : Sl (Bg.lessB w (blks [cellE bc (cpuC s bM vi vo eff) 47, rowE vo 22 encU32 s.out]) 0).blk encU32 inp vi) (hvo : ∃ a n c, vo = .slice a n c) (hI : InsOK i) (hA : 0 ≤ i.a ∧ i.a < 8) (hB : 0 ≤ i.b ∧ i.b < 8) :
  Calls Try.prog 78 #[.pointer (some ⟨bc, 0, none⟩), .agg (encIns.enc i).toArray] w (fun e w' => ∃ vo' : Value, e = .returned (.int .i64 (transS inp s i (nextP i)).2) ∧ Upd 0 w w' (blks [cellE bc (cpuC s bM vi vo eff) 47, rowE vo 22 encU32 s.out]) [cellE bc (cpuC (transS inp s i (nextP i)).1 bM vi vo' eff) 47, rowE vo' 22 encU32 (transS inp s i (nextP i)).1.out] ∧ True) := by
 have hil := hin.len_le
 refine enterB (L := [cellE bc (cpuC s bM vi vo eff) 47, rowE vo 22 encU32 s.out]) ho rfl (Nat.zero_le _) Try.func78 rfl Try.ntmps78 rfl ?_
 refine Tr.seq (Tr.region ?_)
 refine Tr.box rfl rfl rfl (fun b1 => ?_)
 refine Tr.q (QS.assign rfl) rfl ?_
 refine Tr.nil (Tr.thenN (Tr.seq (Tr.seq (Tr.region ?_))))
 refine Tr.q (QS.fieldAddr (off := 2) (ft := 3) rfl Try.underlying67 rfl rfl Try.sizeOf3 (by decide)) rfl ?_
 refine Tr.q (QS.lV rfl Try.isAgg3) rfl ?_
 refine Tr.q (QS.eql rfl rfl) rfl ?_
 refine Tr.nil (Tr.thenN ?_)
 refine Tr.cond rfl (fun h2 => ?_) (fun h2 => ?_)
 ·try simp only [bs] at h2
  refine Tr.seq (Tr.seq ?_)
  refine Tr.regionH ([cellE bc (cpuC s bM vi vo eff) 47, cellE b1 (encIns.enc i) 67]) 10 rfl HLF.mixed ?_
  refine Tr.hT 0 rfl (by kernel_rfl) (panicThen (panicThen (panicThen panicBody))) (QS.move rfl) ?_
  refine Tr.hT 1 rfl (by kernel_rfl) (panicThen (panicThen (panicThen panicBody))) (QS.nilCheck rfl) ?_
  refine Tr.hT 2 rfl (by kernel_rfl) (panicThen (panicThen (panicThen panicBody))) (QS.fieldAddr (off := 15) (ft := 3) rfl Try.underlying47 rfl rfl Try.sizeOf3 (by decide)) ?_
  refine Tr.hT 3 rfl (by kernel_rfl) (panicThen (panicThen (panicThen panicBody))) (QS.loadV rfl (by repeat constructor) Try.isAgg3 (by rfl)) ?_
  refine Tr.hT 4 rfl (by kernel_rfl) (panicThen (panicThen (panicThen panicBody))) (QS.move rfl) ?_
  refine Tr.hT 5 rfl (by kernel_rfl) (panicThen (panicThen (panicThen panicBody))) (QS.nilCheck rfl) ?_
  refine Tr.hT 6 rfl (by kernel_rfl) (panicThen (panicThen (panicThen panicBody))) (QS.fieldAddr (off := 14) (ft := 34) rfl Try.underlying47 rfl rfl Try.sizeOf34 (by decide)) ?_
  refine Tr.hT 7 rfl (by kernel_rfl) (panicThen (panicThen (panicThen panicBody))) (QS.loadV rfl (by repeat constructor) Try.isAgg34 (by rfl)) ?_
  refine Tr.hAll [8] (by kernel_rfl) (by simp) (fun iq hq => ?_)
  obtain rfl := List.mem_singleton.1 hq
  refine Tr.hOp rfl ?_
  refine Tr.q (QS.len rfl (by assumption) Try.underlying34) rfl ?_
  refine Tr.hN ?_
  refine Tr.hT 9 rfl (by kernel_rfl) (panicThen (panicThen (panicThen panicBody))) (QS.geq rfl rfl) ?_
  refine Tr.hDone (by kernel_rfl) ?_
  refine Tr.thenN ?_
  refine Tr.cond rfl (fun h3 => ?_) (fun h3 => ?_)
  ·try simp only [bs] at h3
   refine Tr.seq (Tr.region ?_)
   refine Tr.q (QS.assign rfl) rfl ?_
   refine Tr.nil (Tr.thenN (Tr.ret (Tr.thenR (Tr.thenR ?_))))
   refine Tr.ret1 Try.results78 rfl (fun w' hw => ?_)
   have hq : transS inp s i (nextP i) = (s, 14) := by unfold transS; repeat (first | rw [if_pos (by first | assumption | omega)] | rw [if_neg (by first | assumption | omega)])
   exact ⟨vo, by rw [hq]; try rfl, by rw [hq]; exact hw.upd (Bg.le.refl _) (by repeat' constructor), trivial⟩
  ·try simp only [bs] at h3
   refine Tr.skip (Tr.thenN ?_)
   refine Tr.seqJ (ι := Unit) (fun u => True) (fun _ => (Bg.lessB w (blks [cellE bc (cpuC s bM vi vo eff) 47, rowE vo 22 encU32 s.out]) 0)) (fun u => [cellE b1 (encIns.enc i) 67, cellE bc (cpuC (s.setR i.a (inp.getD s.read default)) bM vi vo eff) 47, rowE vo 22 encU32 s.out]) (fun u => []) ?_ (fun u hi => ?_)
   ·skip
    refine Tr.regionH ([cellE b1 (encIns.enc i) 67]) 18 rfl HLF.mixed ?_
    refine Tr.hT 0 rfl (by kernel_rfl) (panicThen (panicThen panicBody)) (QS.move rfl) ?_
    refine Tr.hT 1 rfl (by kernel_rfl) (panicThen (panicThen panicBody)) (QS.fieldAddr (off := 6) (ft := 3) rfl Try.underlying67 rfl rfl Try.sizeOf3 (by decide)) ?_
    refine Tr.hT 2 rfl (by kernel_rfl) (panicThen (panicThen panicBody)) (QS.lV rfl Try.isAgg3) ?_
    refine Tr.hT 3 rfl (by kernel_rfl) (panicThen (panicThen panicBody)) (QS.move rfl) ?_
    refine Tr.hT 4 rfl (by kernel_rfl) (panicThen (panicThen panicBody)) (QS.nilCheck rfl) ?_
    refine Tr.hT 5 rfl (by kernel_rfl) (panicThen (panicThen panicBody)) (QS.fieldAddr (off := 14) (ft := 34) rfl Try.underlying47 rfl rfl Try.sizeOf34 (by decide)) ?_
    refine Tr.hT 7 rfl (by kernel_rfl) (panicThen (panicThen panicBody)) (QS.move rfl) ?_
    refine Tr.hT 8 rfl (by kernel_rfl) (panicThen (panicThen panicBody)) (QS.nilCheck rfl) ?_
    refine Tr.hT 9 rfl (by kernel_rfl) (panicThen (panicThen panicBody)) (QS.fieldAddr (off := 15) (ft := 3) rfl Try.underlying47 rfl rfl Try.sizeOf3 (by decide)) ?_
    refine Tr.hT 13 rfl (by kernel_rfl) (panicThen (panicThen panicBody)) (QS.nilCheck rfl) ?_
    refine Tr.hT 14 rfl (by kernel_rfl) (panicThen (panicThen panicBody)) (QS.fieldAddr (off := 0) (ft := 42) rfl Try.underlying47 rfl rfl Try.sizeOf42 (by decide)) ?_
    refine Tr.hT 15 rfl (by kernel_rfl) (panicThen (panicThen panicBody)) (QS.fieldAddr (off := 0) (ft := 38) rfl Try.underlying42 rfl rfl Try.sizeOf38 (by decide)) ?_
    refine Tr.hAll [6, 10] (by kernel_rfl) (by simp) (fun iq hq => ?_)
    rcases List.mem_cons.1 hq with rfl | hq
    ·skip
     refine Tr.hOp rfl ?_
     refine Tr.q (QS.loadV rfl (by repeat constructor) Try.isAgg34 (by rfl)) rfl ?_
     refine Tr.hN ?_
     refine Tr.hAll [10] (by kernel_rfl) (by simp) (fun iq hq => ?_)
     obtain rfl := List.mem_singleton.1 hq
     refine Tr.hOp rfl ?_
     refine Tr.q (QS.loadV rfl (by repeat constructor) Try.isAgg3 (by rfl)) rfl ?_
     refine Tr.hN ?_
     refine Tr.hT 11 rfl (by kernel_rfl) (panicThen (panicThen panicBody)) (QS.idxN rfl rfl (by assumption) Try.underlying34 Try.sizeOf22 (by rfl) (by omega)) ?_
     refine Tr.hT 12 rfl (by kernel_rfl) (panicThen (panicThen panicBody)) (QS.el1 rfl (by assumption) Try.isAgg22 (by omega) (by rfl)) ?_
     refine Tr.hT 16 rfl (by kernel_rfl) (panicThen (panicThen panicBody)) (QS.idxArr rfl rfl Try.underlying38 Try.sizeOf22 (by omega)) ?_
     refine Tr.hAll [17] (by kernel_rfl) (by simp) (fun iq hq => ?_)
     obtain rfl := List.mem_singleton.1 hq
     refine Tr.hOp rfl ?_
     refine Tr.storeV rfl rfl Try.sizeOf22 (by repeat constructor) (cpuC_set hA (by simp) _) (by rfl) (by rw [cpuC_len]; first | (simp; done) | (simp; omega)) (by first | exact List.all_eq_true.1 rfl | exact Enc.one _ _ | (intro u hu; simp [Value.cells] at hu; simp_all [Value.oneCell'])) rfl ?_
     refine Tr.hN ?_
     refine Tr.hDone (by kernel_rfl) ?_
     refine Tr.thenN ?_
     apply Tr.joined ()
     ·exact rfl
     ·exact Front.nil
     ·exact SubX.dropN 17 (by kernel_rfl) rfl
     ·exact (by repeat' constructor)
     ·exact trivial
    obtain rfl := List.mem_singleton.1 hq
    refine Tr.hOp rfl ?_
    refine Tr.q (QS.loadV rfl (by repeat constructor) Try.isAgg3 (by rfl)) rfl ?_
    refine Tr.hN ?_
    refine Tr.hAll [6] (by kernel_rfl) (by simp) (fun iq hq => ?_)
    obtain rfl := List.mem_singleton.1 hq
    refine Tr.hOp rfl ?_
    refine Tr.q (QS.loadV rfl (by repeat constructor) Try.isAgg34 (by rfl)) rfl ?_
    refine Tr.hN ?_
    refine Tr.hT 11 rfl (by kernel_rfl) (panicThen (panicThen panicBody)) (QS.idxN rfl rfl (by assumption) Try.underlying34 Try.sizeOf22 (by rfl) (by omega)) ?_
    refine Tr.hT 12 rfl (by kernel_rfl) (panicThen (panicThen panicBody)) (QS.el1 rfl (by assumption) Try.isAgg22 (by omega) (by rfl)) ?_
    refine Tr.hT 16 rfl (by kernel_rfl) (panicThen (panicThen panicBody)) (QS.idxArr rfl rfl Try.underlying38 Try.sizeOf22 (by omega)) ?_
    refine Tr.hAll [17] (by kernel_rfl) (by simp) (fun iq hq => ?_)
    obtain rfl := List.mem_singleton.1 hq
    refine Tr.hOp rfl ?_
    refine Tr.storeV rfl rfl Try.sizeOf22 (by repeat constructor) (cpuC_set hA (by simp) _) (by rfl) (by rw [cpuC_len]; first | (simp; done) | (simp; omega)) (by first | exact List.all_eq_true.1 rfl | exact Enc.one _ _ | (intro u hu; simp [Value.cells] at hu; simp_all [Value.oneCell'])) rfl ?_
    refine Tr.hN ?_
    refine Tr.hDone (by kernel_rfl) ?_
    refine Tr.thenN ?_
    apply Tr.joined ()
    ·exact rfl
    ·exact Front.nil
    ·exact SubX.dropN 17 (by kernel_rfl) rfl
    ·exact (by repeat' constructor)
    ·exact trivial
   ·skip
    replace hi : True := hi
    change Tr _ _ [cellE b1 (encIns.enc i) 67, cellE bc (cpuC (s.setR i.a (inp.getD s.read default)) bM vi vo eff) 47, rowE vo 22 encU32 s.out] ([] ++ _) _
    have hrd : (s.setR i.a (inp.getD s.read default)).read = s.read := rfl
    have hrl : s.read < inp.length := by omega
    refine Tr.region ?_
    refine Tr.q (QS.move rfl) rfl ?_
    refine Tr.q (QS.nilCheck rfl) rfl ?_
    refine Tr.q (QS.fieldAddr (off := 15) (ft := 3) rfl Try.underlying47 rfl rfl Try.sizeOf3 (by decide)) rfl ?_
    refine Tr.q (QS.loadV rfl (by repeat constructor) Try.isAgg3 (by rfl)) rfl ?_
    refine Tr.q (QS.addI rfl rfl (by omega)) rfl ?_
    refine Tr.q (QS.nilCheck rfl) rfl ?_
    refine Tr.q (QS.fieldAddr (off := 15) (ft := 3) rfl Try.underlying47 rfl rfl Try.sizeOf3 (by decide)) rfl ?_
    refine Tr.storeV rfl rfl Try.sizeOf3 (by repeat constructor) (cpuC_read (s := s.setR i.a (inp.getD s.read default))) (by rfl) (by exact Nat.le_of_ble_eq_true rfl) (by first | exact List.all_eq_true.1 rfl | exact Enc.one _ _ | (intro u hu; simp [Value.cells] at hu; simp_all [Value.oneCell'])) rfl ?_
    refine Tr.nil (Tr.thenN (Tr.seq (Tr.region ?_)))
    refine Tr.q (QS.move rfl) rfl ?_
    refine Tr.q (QS.lW rfl Try.isAgg67 Try.sizeOf67) rfl ?_
    refine Tr.callO (fun _ : Unit => .tuple #[]) [cellE bc (cpuC ({ s.setR i.a (inp.getD s.read default) with read := s.read + 1 }) bM vi vo eff) 47] (fun _ => [cellE bc (cpuC (({ s.setR i.a (inp.getD s.read default) with read := s.read + 1 }).to (nextP i)) bM vi vo eff) 47]) (ok := fun _ => True) (dd := fun _ => 0) rfl Try.call87 (by repeat' (first | exact Split.nil _ | exact Del.here _ | apply Split.cons | apply Del.there)) (fun w hw => Nat.le_refl _) (fun w hw => next_cpu ({ s.setR i.a (inp.getD s.read default) with read := s.read + 1 }) bc bM vi vo eff i w (hw.own (by repeat' (first | exact Split.nil _ | exact Del.here _ | apply Split.cons | apply Del.there))) hI) rfl (fun _ _ => ?_)
    refine Tr.nil (Tr.thenN (Tr.seq (Tr.region ?_)))
    refine Tr.q (QS.assign rfl) rfl ?_
    refine Tr.nil (Tr.thenN (Tr.ret ?_))
    refine Tr.ret1 Try.results78 rfl (fun w' hw => ?_)
    have hq : transS inp s i (nextP i) = ({ s with m := (s.m.set i.a (inp.getD s.read default)).to (nextP i), read := s.read + 1 }, 0) := by unfold transS; repeat (first | rw [if_pos (by first | assumption | omega)] | rw [if_neg (by first | assumption | omega)])
    exact ⟨vo, by rw [hq]; try rfl, by rw [hq]; exact hw.upd (Bg.le.refl _) (by repeat' constructor), trivial⟩
 ·try simp only [bs] at h2
  refine Tr.seq (Tr.seq (Tr.region ?_))
  refine Tr.q (QS.move rfl) rfl ?_
  refine Tr.q (QS.nilCheck rfl) rfl ?_
  refine Tr.q (QS.fieldAddr (off := 16) (ft := 34) rfl Try.underlying47 rfl rfl Try.sizeOf34 (by decide)) rfl ?_
  refine Tr.q (QS.loadV rfl (by repeat constructor) Try.isAgg34 (by rfl)) rfl ?_
  refine Tr.q (QS.lenRow rfl (by repeat constructor) Try.underlying34) rfl ?_
  refine Tr.q (QS.geq rfl rfl) rfl ?_
  refine Tr.nil (Tr.thenN ?_)
  refine Tr.cond rfl (fun h4 => ?_) (fun h4 => ?_)
  ·try simp only [bs] at h4
   refine Tr.seq (Tr.region ?_)
   refine Tr.q (QS.assign rfl) rfl ?_
   refine Tr.nil (Tr.thenN (Tr.ret (Tr.thenR (Tr.thenR ?_))))
   refine Tr.ret1 Try.results78 rfl (fun w' hw => ?_)
   have hq : transS inp s i (nextP i) = (s, 6) := by unfold transS; repeat (first | rw [if_pos (by first | assumption | omega)] | rw [if_neg (by first | assumption | omega)])
   exact ⟨vo, by rw [hq]; try rfl, by rw [hq]; exact hw.upd (Bg.le.refl _) (by repeat' constructor), trivial⟩
  ·try simp only [bs] at h4
   refine Tr.skip (Tr.thenN ?_)
   refine Tr.regionH ([cellE b1 (encIns.enc i) 67]) 18 rfl HLF.mixed ?_
   refine Tr.hT 0 rfl (by kernel_rfl) (panicThen panicBody) (QS.move rfl) ?_
   refine Tr.hT 1 rfl (by kernel_rfl) (panicThen panicBody) (QS.move rfl) ?_
   refine Tr.hT 2 rfl (by kernel_rfl) (panicThen panicBody) (QS.nilCheck rfl) ?_
   refine Tr.hT 3 rfl (by kernel_rfl) (panicThen panicBody) (QS.fieldAddr (off := 16) (ft := 34) rfl Try.underlying47 rfl rfl Try.sizeOf34 (by decide)) ?_
   refine Tr.hT 5 rfl (by kernel_rfl) (panicThen panicBody) (QS.move rfl) ?_
   refine Tr.hT 6 rfl (by kernel_rfl) (panicThen panicBody) (QS.fieldAddr (off := 6) (ft := 3) rfl Try.underlying67 rfl rfl Try.sizeOf3 (by decide)) ?_
   refine Tr.hT 7 rfl (by kernel_rfl) (panicThen panicBody) (QS.lV rfl Try.isAgg3) ?_
   refine Tr.hT 8 rfl (by kernel_rfl) (panicThen panicBody) (QS.nilCheck rfl) ?_
   refine Tr.hT 9 rfl (by kernel_rfl) (panicThen panicBody) (QS.fieldAddr (off := 0) (ft := 42) rfl Try.underlying47 rfl rfl Try.sizeOf42 (by decide)) ?_
   refine Tr.hT 10 rfl (by kernel_rfl) (panicThen panicBody) (QS.fieldAddr (off := 0) (ft := 38) rfl Try.underlying42 rfl rfl Try.sizeOf38 (by decide)) ?_
   refine Tr.hT 11 rfl (by kernel_rfl) (panicThen panicBody) (QS.idxArr rfl rfl Try.underlying38 Try.sizeOf22 (by omega)) ?_
   refine Tr.hAll [4, 12] (by kernel_rfl) (by simp) (fun iq hq => ?_)
   rcases List.mem_cons.1 hq with rfl | hq
   ·skip
    refine Tr.hOp rfl ?_
    refine Tr.q (QS.loadV rfl (by repeat constructor) Try.isAgg34 (by rfl)) rfl ?_
    refine Tr.hN ?_
    refine Tr.hAll [12] (by kernel_rfl) (by simp) (fun iq hq => ?_)
    obtain rfl := List.mem_singleton.1 hq
    refine Tr.hOp rfl ?_
    refine Tr.q (QS.loadV rfl (by repeat constructor) Try.isAgg22 (cpuC_reg hA (by simp))) rfl ?_
    refine Tr.hN ?_
    refine Tr.hAll [13] (by kernel_rfl) (by simp) (fun iq hq => ?_)
    obtain rfl := List.mem_singleton.1 hq
    refine Tr.hOp rfl ?_
    refine Tr.lit1 (E := encU32) (s.m.reg i.a) rfl rfl Try.underlying34 Try.sizeOf22 Try.zeroValue22 (by rfl) (by rfl) rfl (fun V5 => ?_)
    refine Tr.hN ?_
    refine Tr.hAll [14] (by kernel_rfl) (by simp) (fun iq hq => ?_)
    obtain rfl := List.mem_singleton.1 hq
    refine Tr.hOp rfl ?_
    refine Tr.append1 rfl rfl (by repeat constructor) (by repeat constructor) Try.underlying34 HLF.info22 (by rfl) (by rfl) (by (try simp only [List.length_cons, List.length_nil, List.length_append, List.length_take]); omega) (by unfold maxLen; (try simp only [List.length_cons, List.length_nil, List.length_append, List.length_take]); omega) rfl (fun V44 => ?_)
    refine Tr.rowShape (V := V44) (by repeat constructor) (fun pn cn hpv => ?_)
    subst hpv
    refine Tr.hN ?_
    refine Tr.hT 15 rfl (by kernel_rfl) (panicThen panicBody) (QS.nilCheck rfl) ?_
    refine Tr.hT 16 rfl (by kernel_rfl) (panicThen panicBody) (QS.fieldAddr (off := 16) (ft := 34) rfl Try.underlying47 rfl rfl Try.sizeOf34 (by decide)) ?_
    refine Tr.hAll [17] (by kernel_rfl) (by simp) (fun iq hq => ?_)
    obtain rfl := List.mem_singleton.1 hq
    refine Tr.hOp rfl ?_
    refine Tr.storeV rfl rfl Try.sizeOf34 (by repeat constructor) (cpuC_out _) (by rfl) (by exact Nat.le_of_ble_eq_true rfl) (by first | exact List.all_eq_true.1 rfl | exact Enc.one _ _ | (intro u hu; simp [Value.cells] at hu; simp_all [Value.oneCell'])) rfl ?_
    refine Tr.hN ?_
    refine Tr.hDone (by kernel_rfl) ?_
    refine Tr.thenN (Tr.seq (Tr.region ?_))
    refine Tr.q (QS.move rfl) rfl ?_
    refine Tr.q (QS.lW rfl Try.isAgg67 Try.sizeOf67) rfl ?_
    refine Tr.callO (fun _ : Unit => .tuple #[]) [cellE bc (cpuC (s) bM vi (.slice pn (s.out ++ [s.m.reg i.a]).length cn) eff) 47] (fun _ => [cellE bc (cpuC ((s).to (nextP i)) bM vi (.slice pn (s.out ++ [s.m.reg i.a]).length cn) eff) 47]) (ok := fun _ => True) (dd := fun _ => 0) rfl Try.call87 (by repeat' (first | exact Split.nil _ | exact Del.here _ | apply Split.cons | apply Del.there)) (fun w hw => Nat.le_refl _) (fun w hw => next_cpu (s) bc bM vi (.slice pn (s.out ++ [s.m.reg i.a]).length cn) eff i w (hw.own (by repeat' (first | exact Split.nil _ | exact Del.here _ | apply Split.cons | apply Del.there))) hI) rfl (fun _ _ => ?_)
    refine Tr.nil (Tr.thenN (Tr.seq (Tr.region ?_)))
    refine Tr.q (QS.assign rfl) rfl ?_
    refine Tr.nil (Tr.thenN (Tr.ret ?_))
    refine Tr.ret1 Try.results78 rfl (fun w' hw => ?_)
    have hq : transS inp s i (nextP i) = ({ s with m := s.m.to (nextP i), out := s.out ++ [s.m.reg i.a] }, 0) := by unfold transS; repeat (first | rw [if_pos (by first | assumption | omega)] | rw [if_neg (by first | assumption | omega)])
    exact ⟨(.slice pn (s.out ++ [s.m.reg i.a]).length cn), by rw [hq]; try rfl, by rw [hq]; exact hw.upd (Bg.le.refl _) (by repeat' constructor), trivial⟩
   obtain rfl := List.mem_singleton.1 hq
   refine Tr.hOp rfl ?_
   refine Tr.q (QS.loadV rfl (by repeat constructor) Try.isAgg22 (cpuC_reg hA (by simp))) rfl ?_
   refine Tr.hN ?_
   refine Tr.hAll [4, 13] (by kernel_rfl) (by simp) (fun iq hq => ?_)
   rcases List.mem_cons.1 hq with rfl | hq
   ·skip
    refine Tr.hOp rfl ?_
    refine Tr.q (QS.loadV rfl (by repeat constructor) Try.isAgg34 (by rfl)) rfl ?_
    refine Tr.hN ?_
    refine Tr.hAll [13] (by kernel_rfl) (by simp) (fun iq hq => ?_)
    obtain rfl := List.mem_singleton.1 hq
    refine Tr.hOp rfl ?_
    refine Tr.lit1 (E := encU32) (s.m.reg i.a) rfl rfl Try.underlying34 Try.sizeOf22 Try.zeroValue22 (by rfl) (by rfl) rfl (fun V6 => ?_)
    refine Tr.hN ?_
    refine Tr.hAll [14] (by kernel_rfl) (by simp) (fun iq hq => ?_)
    obtain rfl := List.mem_singleton.1 hq
    refine Tr.hOp rfl ?_
    refine Tr.append1 rfl rfl (by repeat constructor) (by repeat constructor) Try.underlying34 HLF.info22 (by rfl) (by rfl) (by (try simp only [List.length_cons, List.length_nil, List.length_append, List.length_take]); omega) (by unfold maxLen; (try simp only [List.length_cons, List.length_nil, List.length_append, List.length_take]); omega) rfl (fun V44 => ?_)
    refine Tr.rowShape (V := V44) (by repeat constructor) (fun pn cn hpv => ?_)
    subst hpv
    refine Tr.hN ?_
    refine Tr.hT 15 rfl (by kernel_rfl) (panicThen panicBody) (QS.nilCheck rfl) ?_
    refine Tr.hT 16 rfl (by kernel_rfl) (panicThen panicBody) (QS.fieldAddr (off := 16) (ft := 34) rfl Try.underlying47 rfl rfl Try.sizeOf34 (by decide)) ?_
    refine Tr.hAll [17] (by kernel_rfl) (by simp) (fun iq hq => ?_)
    obtain rfl := List.mem_singleton.1 hq
    refine Tr.hOp rfl ?_
    refine Tr.storeV rfl rfl Try.sizeOf34 (by repeat constructor) (cpuC_out _) (by rfl) (by exact Nat.le_of_ble_eq_true rfl) (by first | exact List.all_eq_true.1 rfl | exact Enc.one _ _ | (intro u hu; simp [Value.cells] at hu; simp_all [Value.oneCell'])) rfl ?_
    refine Tr.hN ?_
    refine Tr.hDone (by kernel_rfl) ?_
    refine Tr.thenN (Tr.seq (Tr.region ?_))
    refine Tr.q (QS.move rfl) rfl ?_
    refine Tr.q (QS.lW rfl Try.isAgg67 Try.sizeOf67) rfl ?_
    refine Tr.callO (fun _ : Unit => .tuple #[]) [cellE bc (cpuC (s) bM vi (.slice pn (s.out ++ [s.m.reg i.a]).length cn) eff) 47] (fun _ => [cellE bc (cpuC ((s).to (nextP i)) bM vi (.slice pn (s.out ++ [s.m.reg i.a]).length cn) eff) 47]) (ok := fun _ => True) (dd := fun _ => 0) rfl Try.call87 (by repeat' (first | exact Split.nil _ | exact Del.here _ | apply Split.cons | apply Del.there)) (fun w hw => Nat.le_refl _) (fun w hw => next_cpu (s) bc bM vi (.slice pn (s.out ++ [s.m.reg i.a]).length cn) eff i w (hw.own (by repeat' (first | exact Split.nil _ | exact Del.here _ | apply Split.cons | apply Del.there))) hI) rfl (fun _ _ => ?_)
    refine Tr.nil (Tr.thenN (Tr.seq (Tr.region ?_)))
    refine Tr.q (QS.assign rfl) rfl ?_
    refine Tr.nil (Tr.thenN (Tr.ret ?_))
    refine Tr.ret1 Try.results78 rfl (fun w' hw => ?_)
    have hq : transS inp s i (nextP i) = ({ s with m := s.m.to (nextP i), out := s.out ++ [s.m.reg i.a] }, 0) := by unfold transS; repeat (first | rw [if_pos (by first | assumption | omega)] | rw [if_neg (by first | assumption | omega)])
    exact ⟨(.slice pn (s.out ++ [s.m.reg i.a]).length cn), by rw [hq]; try rfl, by rw [hq]; exact hw.upd (Bg.le.refl _) (by repeat' constructor), trivial⟩
   obtain rfl := List.mem_singleton.1 hq
   refine Tr.hOp rfl ?_
   refine Tr.lit1 (E := encU32) (s.m.reg i.a) rfl rfl Try.underlying34 Try.sizeOf22 Try.zeroValue22 (by rfl) (by rfl) rfl (fun V7 => ?_)
   refine Tr.hN ?_
   refine Tr.hAll [4] (by kernel_rfl) (by simp) (fun iq hq => ?_)
   obtain rfl := List.mem_singleton.1 hq
   refine Tr.hOp rfl ?_
   refine Tr.q (QS.loadV rfl (by repeat constructor) Try.isAgg34 (by rfl)) rfl ?_
   refine Tr.hN ?_
   refine Tr.hAll [14] (by kernel_rfl) (by simp) (fun iq hq => ?_)
   obtain rfl := List.mem_singleton.1 hq
   refine Tr.hOp rfl ?_
   refine Tr.append1 rfl rfl (by repeat constructor) (by repeat constructor) Try.underlying34 HLF.info22 (by rfl) (by rfl) (by (try simp only [List.length_cons, List.length_nil, List.length_append, List.length_take]); omega) (by unfold maxLen; (try simp only [List.length_cons, List.length_nil, List.length_append, List.length_take]); omega) rfl (fun V44 => ?_)
   refine Tr.rowShape (V := V44) (by repeat constructor) (fun pn cn hpv => ?_)
   subst hpv
   refine Tr.hN ?_
   refine Tr.hT 15 rfl (by kernel_rfl) (panicThen panicBody) (QS.nilCheck rfl) ?_
   refine Tr.hT 16 rfl (by kernel_rfl) (panicThen panicBody) (QS.fieldAddr (off := 16) (ft := 34) rfl Try.underlying47 rfl rfl Try.sizeOf34 (by decide)) ?_
   refine Tr.hAll [17] (by kernel_rfl) (by simp) (fun iq hq => ?_)
   obtain rfl := List.mem_singleton.1 hq
   refine Tr.hOp rfl ?_
   refine Tr.storeV rfl rfl Try.sizeOf34 (by repeat constructor) (cpuC_out _) (by rfl) (by exact Nat.le_of_ble_eq_true rfl) (by first | exact List.all_eq_true.1 rfl | exact Enc.one _ _ | (intro u hu; simp [Value.cells] at hu; simp_all [Value.oneCell'])) rfl ?_
   refine Tr.hN ?_
   refine Tr.hDone (by kernel_rfl) ?_
   refine Tr.thenN (Tr.seq (Tr.region ?_))
   refine Tr.q (QS.move rfl) rfl ?_
   refine Tr.q (QS.lW rfl Try.isAgg67 Try.sizeOf67) rfl ?_
   refine Tr.callO (fun _ : Unit => .tuple #[]) [cellE bc (cpuC (s) bM vi (.slice pn (s.out ++ [s.m.reg i.a]).length cn) eff) 47] (fun _ => [cellE bc (cpuC ((s).to (nextP i)) bM vi (.slice pn (s.out ++ [s.m.reg i.a]).length cn) eff) 47]) (ok := fun _ => True) (dd := fun _ => 0) rfl Try.call87 (by repeat' (first | exact Split.nil _ | exact Del.here _ | apply Split.cons | apply Del.there)) (fun w hw => Nat.le_refl _) (fun w hw => next_cpu (s) bc bM vi (.slice pn (s.out ++ [s.m.reg i.a]).length cn) eff i w (hw.own (by repeat' (first | exact Split.nil _ | exact Del.here _ | apply Split.cons | apply Del.there))) hI) rfl (fun _ _ => ?_)
   refine Tr.nil (Tr.thenN (Tr.seq (Tr.region ?_)))
   refine Tr.q (QS.assign rfl) rfl ?_
   refine Tr.nil (Tr.thenN (Tr.ret ?_))
   refine Tr.ret1 Try.results78 rfl (fun w' hw => ?_)
   have hq : transS inp s i (nextP i) = ({ s with m := s.m.to (nextP i), out := s.out ++ [s.m.reg i.a] }, 0) := by unfold transS; repeat (first | rw [if_pos (by first | assumption | omega)] | rw [if_neg (by first | assumption | omega)])
   exact ⟨(.slice pn (s.out ++ [s.m.reg i.a]).length cn), by rw [hq]; try rfl, by rw [hq]; exact hw.upd (Bg.le.refl _) (by repeat' constructor), trivial⟩
set_option maxRecDepth 100000 in
set_option maxHeartbeats 4000000 in
theorem choose_cpu (s : St) (bc bM : Nat) (vi vo eff : Value) (i : Ins) (w : World) (ho : OwnAt w [cellE bc (cpuC s bM vi vo eff) 47]) :
  Calls Try.prog 62 #[.pointer (some ⟨bc, 0, none⟩), .agg (encIns.enc i).toArray] w (fun e w' => ∃ _ : Unit, e = .returned (.tuple #[]) ∧ Upd 0 w w' (blks [cellE bc (cpuC s bM vi vo eff) 47]) [cellE bc (cpuC s bM vi vo (effV i.op)) 47] ∧ True) := by
 refine enterB (L := [cellE bc (cpuC s bM vi vo eff) 47]) ho rfl (Nat.zero_le _) Try.func62 rfl Try.ntmps62 rfl ?_
 refine Tr.seq (Tr.region ?_)
 refine Tr.box rfl rfl rfl (fun b1 => ?_)
 refine Tr.nil (Tr.thenN (Tr.seq (Tr.region ?_)))
 refine Tr.q (QS.fieldAddr (off := 2) (ft := 3) rfl Try.underlying67 rfl rfl Try.sizeOf3 (by decide)) rfl ?_
 refine Tr.q (QS.lV rfl Try.isAgg3) rfl ?_
 refine Tr.nil (Tr.thenN (Tr.block (Tr.seq (Tr.seq (Tr.region ?_)))))
 refine Tr.q (QS.eql rfl rfl) rfl ?_
 refine Tr.q (QS.assign rfl) rfl ?_
 refine Tr.nil (Tr.thenN ?_)
 apply Tr.condOr
 ·exact rfl
 ·intro hO2
  try simp only [bs] at hO2
  refine Tr.region ?_
  refine Tr.q (QS.eql rfl rfl) rfl ?_
  refine Tr.q (QS.assign rfl) rfl ?_
  refine Tr.nil (Tr.thenN ?_)
  exact Tr.endOr rfl (SubX.dropN 2 (by kernel_rfl) rfl)
 refine Tr.thenN ?_
 refine Tr.cond rfl (fun h3 => ?_) (fun h3 => ?_)
 ·try simp only [bs] at h3
  refine Tr.region ?_
  refine Tr.q (QS.move rfl) rfl ?_
  refine Tr.q (QS.nilCheck rfl) rfl ?_
  refine Tr.q (QS.fieldAddr (off := 19) (ft := 45) rfl Try.underlying47 rfl rfl Try.sizeOf45 (by decide)) rfl ?_
  refine Tr.storeV rfl rfl Try.sizeOf45 (by repeat constructor) (cpuC_eff _) (by rfl) (by exact Nat.le_of_ble_eq_true rfl) (by first | exact List.all_eq_true.1 rfl | exact Enc.one _ _ | (intro u hu; simp [Value.cells] at hu; simp_all [Value.oneCell'])) rfl ?_
  refine Tr.nil (Tr.inN ?_)
  refine Tr.ret0n Try.results62 (fun w' hw => ?_)
  have he : effV i.op = .func (.func 74) #[] #[] := by unfold effV effF; repeat (first | rw [if_pos (by omega)] | rw [if_neg (by omega)])
  rw [← he] at hw
  exact ⟨(), rfl, hw.upd (Bg.le.refl _) (by repeat' constructor), trivial⟩
 ·try simp only [bs] at h3
  refine Tr.seq (Tr.seq (Tr.region ?_))
  refine Tr.q (QS.eql rfl rfl) rfl ?_
  refine Tr.q (QS.assign rfl) rfl ?_
  refine Tr.nil (Tr.thenN ?_)
  apply Tr.condOr
  ·exact rfl
  ·intro hO4
   try simp only [bs] at hO4
   refine Tr.seq (Tr.region ?_)
   refine Tr.q (QS.eql rfl rfl) rfl ?_
   refine Tr.q (QS.assign rfl) rfl ?_
   refine Tr.nil (Tr.thenN ?_)
   apply Tr.condOr
   ·exact rfl
   ·intro hO5
    try simp only [bs] at hO5
    refine Tr.region ?_
    refine Tr.q (QS.eql rfl rfl) rfl ?_
    refine Tr.q (QS.assign rfl) rfl ?_
    refine Tr.nil (Tr.thenN ?_)
    exact Tr.endOr rfl (SubX.dropN 2 (by kernel_rfl) rfl)
   refine Tr.thenN ?_
   exact Tr.endOr rfl (SubX.dropN 3 (by kernel_rfl) rfl)
  refine Tr.thenN ?_
  refine Tr.cond rfl (fun h6 => ?_) (fun h6 => ?_)
  ·try simp only [bs] at h6
   refine Tr.region ?_
   refine Tr.q (QS.move rfl) rfl ?_
   refine Tr.q (QS.nilCheck rfl) rfl ?_
   refine Tr.q (QS.fieldAddr (off := 19) (ft := 45) rfl Try.underlying47 rfl rfl Try.sizeOf45 (by decide)) rfl ?_
   refine Tr.storeV rfl rfl Try.sizeOf45 (by repeat constructor) (cpuC_eff _) (by rfl) (by exact Nat.le_of_ble_eq_true rfl) (by first | exact List.all_eq_true.1 rfl | exact Enc.one _ _ | (intro u hu; simp [Value.cells] at hu; simp_all [Value.oneCell'])) rfl ?_
   refine Tr.nil (Tr.inN ?_)
   refine Tr.ret0n Try.results62 (fun w' hw => ?_)
   have he : effV i.op = .func (.func 75) #[] #[] := by unfold effV effF; repeat (first | rw [if_pos (by omega)] | rw [if_neg (by omega)])
   rw [← he] at hw
   exact ⟨(), rfl, hw.upd (Bg.le.refl _) (by repeat' constructor), trivial⟩
  ·try simp only [bs] at h6
   refine Tr.seq (Tr.seq (Tr.region ?_))
   refine Tr.q (QS.eql rfl rfl) rfl ?_
   refine Tr.q (QS.assign rfl) rfl ?_
   refine Tr.nil (Tr.thenN ?_)
   apply Tr.condOr
   ·exact rfl
   ·intro hO7
    try simp only [bs] at hO7
    refine Tr.seq (Tr.region ?_)
    refine Tr.q (QS.eql rfl rfl) rfl ?_
    refine Tr.q (QS.assign rfl) rfl ?_
    refine Tr.nil (Tr.thenN ?_)
    apply Tr.condOr
    ·exact rfl
    ·intro hO8
     try simp only [bs] at hO8
     refine Tr.region ?_
     refine Tr.q (QS.eql rfl rfl) rfl ?_
     refine Tr.q (QS.assign rfl) rfl ?_
     refine Tr.nil (Tr.thenN ?_)
     exact Tr.endOr rfl (SubX.dropN 2 (by kernel_rfl) rfl)
    refine Tr.thenN ?_
    exact Tr.endOr rfl (SubX.dropN 3 (by kernel_rfl) rfl)
   refine Tr.thenN ?_
   refine Tr.cond rfl (fun h9 => ?_) (fun h9 => ?_)
   ·try simp only [bs] at h9
    refine Tr.region ?_
    refine Tr.q (QS.move rfl) rfl ?_
    refine Tr.q (QS.nilCheck rfl) rfl ?_
    refine Tr.q (QS.fieldAddr (off := 19) (ft := 45) rfl Try.underlying47 rfl rfl Try.sizeOf45 (by decide)) rfl ?_
    refine Tr.storeV rfl rfl Try.sizeOf45 (by repeat constructor) (cpuC_eff _) (by rfl) (by exact Nat.le_of_ble_eq_true rfl) (by first | exact List.all_eq_true.1 rfl | exact Enc.one _ _ | (intro u hu; simp [Value.cells] at hu; simp_all [Value.oneCell'])) rfl ?_
    refine Tr.nil (Tr.inN ?_)
    refine Tr.ret0n Try.results62 (fun w' hw => ?_)
    have he : effV i.op = .func (.func 76) #[] #[] := by unfold effV effF; repeat (first | rw [if_pos (by omega)] | rw [if_neg (by omega)])
    rw [← he] at hw
    exact ⟨(), rfl, hw.upd (Bg.le.refl _) (by repeat' constructor), trivial⟩
   ·try simp only [bs] at h9
    refine Tr.seq (Tr.seq (Tr.region ?_))
    refine Tr.q (QS.eql rfl rfl) rfl ?_
    refine Tr.q (QS.assign rfl) rfl ?_
    refine Tr.nil (Tr.thenN ?_)
    apply Tr.condOr
    ·exact rfl
    ·intro hO10
     try simp only [bs] at hO10
     refine Tr.seq (Tr.region ?_)
     refine Tr.q (QS.eql rfl rfl) rfl ?_
     refine Tr.q (QS.assign rfl) rfl ?_
     refine Tr.nil (Tr.thenN ?_)
     apply Tr.condOr
     ·exact rfl
     ·intro hO11
      try simp only [bs] at hO11
      refine Tr.region ?_
      refine Tr.q (QS.eql rfl rfl) rfl ?_
      refine Tr.q (QS.assign rfl) rfl ?_
      refine Tr.nil (Tr.thenN ?_)
      exact Tr.endOr rfl (SubX.dropN 2 (by kernel_rfl) rfl)
     refine Tr.thenN ?_
     exact Tr.endOr rfl (SubX.dropN 3 (by kernel_rfl) rfl)
    refine Tr.thenN ?_
    refine Tr.cond rfl (fun h12 => ?_) (fun h12 => ?_)
    ·try simp only [bs] at h12
     refine Tr.region ?_
     refine Tr.q (QS.move rfl) rfl ?_
     refine Tr.q (QS.nilCheck rfl) rfl ?_
     refine Tr.q (QS.fieldAddr (off := 19) (ft := 45) rfl Try.underlying47 rfl rfl Try.sizeOf45 (by decide)) rfl ?_
     refine Tr.storeV rfl rfl Try.sizeOf45 (by repeat constructor) (cpuC_eff _) (by rfl) (by exact Nat.le_of_ble_eq_true rfl) (by first | exact List.all_eq_true.1 rfl | exact Enc.one _ _ | (intro u hu; simp [Value.cells] at hu; simp_all [Value.oneCell'])) rfl ?_
     refine Tr.nil (Tr.inN ?_)
     refine Tr.ret0n Try.results62 (fun w' hw => ?_)
     have he : effV i.op = .func (.func 77) #[] #[] := by unfold effV effF; repeat (first | rw [if_pos (by omega)] | rw [if_neg (by omega)])
     rw [← he] at hw
     exact ⟨(), rfl, hw.upd (Bg.le.refl _) (by repeat' constructor), trivial⟩
    ·try simp only [bs] at h12
     refine Tr.seq (Tr.seq (Tr.region ?_))
     refine Tr.q (QS.eql rfl rfl) rfl ?_
     refine Tr.q (QS.assign rfl) rfl ?_
     refine Tr.nil (Tr.thenN ?_)
     apply Tr.condOr
     ·exact rfl
     ·intro hO13
      try simp only [bs] at hO13
      refine Tr.region ?_
      refine Tr.q (QS.eql rfl rfl) rfl ?_
      refine Tr.q (QS.assign rfl) rfl ?_
      refine Tr.nil (Tr.thenN ?_)
      exact Tr.endOr rfl (SubX.dropN 2 (by kernel_rfl) rfl)
     refine Tr.thenN ?_
     refine Tr.cond rfl (fun h14 => ?_) (fun h14 => ?_)
     ·try simp only [bs] at h14
      refine Tr.region ?_
      refine Tr.q (QS.move rfl) rfl ?_
      refine Tr.q (QS.nilCheck rfl) rfl ?_
      refine Tr.q (QS.fieldAddr (off := 19) (ft := 45) rfl Try.underlying47 rfl rfl Try.sizeOf45 (by decide)) rfl ?_
      refine Tr.storeV rfl rfl Try.sizeOf45 (by repeat constructor) (cpuC_eff _) (by rfl) (by exact Nat.le_of_ble_eq_true rfl) (by first | exact List.all_eq_true.1 rfl | exact Enc.one _ _ | (intro u hu; simp [Value.cells] at hu; simp_all [Value.oneCell'])) rfl ?_
      refine Tr.nil (Tr.inN ?_)
      refine Tr.ret0n Try.results62 (fun w' hw => ?_)
      have he : effV i.op = .func (.func 78) #[] #[] := by unfold effV effF; repeat (first | rw [if_pos (by omega)] | rw [if_neg (by omega)])
      rw [← he] at hw
      exact ⟨(), rfl, hw.upd (Bg.le.refl _) (by repeat' constructor), trivial⟩
     ·try simp only [bs] at h14
      refine Tr.region ?_
      refine Tr.q (QS.move rfl) rfl ?_
      refine Tr.q (QS.nilCheck rfl) rfl ?_
      refine Tr.q (QS.fieldAddr (off := 19) (ft := 45) rfl Try.underlying47 rfl rfl Try.sizeOf45 (by decide)) rfl ?_
      refine Tr.storeV rfl rfl Try.sizeOf45 (by repeat constructor) (cpuC_eff _) (by rfl) (by exact Nat.le_of_ble_eq_true rfl) (by first | exact List.all_eq_true.1 rfl | exact Enc.one _ _ | (intro u hu; simp [Value.cells] at hu; simp_all [Value.oneCell'])) rfl ?_
      refine Tr.nil (Tr.inN ?_)
      refine Tr.ret0n Try.results62 (fun w' hw => ?_)
      have he : effV i.op = .func (.func 79) #[] #[] := by unfold effV effF; repeat (first | rw [if_pos (by omega)] | rw [if_neg (by omega)])
      rw [← he] at hw
      exact ⟨(), rfl, hw.upd (Bg.le.refl _) (by repeat' constructor), trivial⟩
end Go.Proofs.Ytpeaodkfbjenpaa
namespace Go.Proofs.Ytpeaodkfbjenpaa
open Go Go.HL Go.RowKit
theorem eff_any (s : St) (bc bM bm : Nat) (VR vi vo eff : Value) (rs : List RegV) (l : List SecV) (wl : WL) (inp : List UInt32) (i : Ins) (w : World) (ho : OwnAt w [cellE bc (cpuC s bM vi vo eff) 47, mapE bm u8V wl, rowE vo 22 encU32 s.out]) (hC : CpuAt (Bg.lessB w (blks [cellE bc (cpuC s bM vi vo eff) 47, mapE bm u8V wl, rowE vo 22 encU32 s.out]) 0).blk bM bm VR vi rs inp) (hO : MemOK l rs) (hwl : mread wl = s.w) (hvo : ∃ a n c, vo = .slice a n c) (hI : InsOK i) (hA : 0 ≤ i.a ∧ i.a < 8) (hB : 0 ≤ i.b ∧ i.b < 8) :
  Calls Try.prog (effF i.op) #[.pointer (some ⟨bc, 0, none⟩), .agg (encIns.enc i).toArray] w (fun e w' => ∃ j : WL × Value, e = .returned (.int .i64 (effS l inp s i (nextP i)).2) ∧ Upd 0 w w' (blks [cellE bc (cpuC s bM vi vo eff) 47, mapE bm u8V wl, rowE vo 22 encU32 s.out]) [cellE bc (cpuC (effS l inp s i (nextP i)).1 bM vi j.2 eff) 47, mapE bm u8V j.1, rowE j.2 22 encU32 (effS l inp s i (nextP i)).1.out] ∧ (mread j.1 = (effS l inp s i (nextP i)).1.w ∧ j.1.length ≤ wl.length + 4 ∧ ∃ a n c, j.2 = .slice a n c)) := by
 have hM2 : MemAt (Bg.lessB w (blks [cellE bc (cpuC s bM vi vo eff) 47, mapE bm u8V wl]) 0).blk bM bm VR rs := hC.mem.mono (lessB_le (blks_sub (fun e he => by simp only [List.mem_cons, List.not_mem_nil, or_false] at he ⊢; rcases he with rfl | rfl <;> simp)))
 have hi3 : Sl (Bg.lessB w (blks [cellE bc (cpuC s bM vi vo eff) 47, rowE vo 22 encU32 s.out]) 0).blk encU32 inp vi := hC.inp.mono (lessB_le (blks_sub (fun e he => by simp only [List.mem_cons, List.not_mem_nil, or_false] at he ⊢; rcases he with rfl | rfl <;> simp)))
 have ho2 : OwnAt w ([cellE bc (cpuC s bM vi vo eff) 47, mapE bm u8V wl] ++ [rowE vo 22 encU32 s.out]) := ho
 have ho1 : OwnAt w ([cellE bc (cpuC s bM vi vo eff) 47] ++ [mapE bm u8V wl, rowE vo 22 encU32 s.out]) := ho
 have hp : ([cellE bc (cpuC s bM vi vo eff) 47, rowE vo 22 encU32 s.out] ++ [mapE bm u8V wl]).Perm [cellE bc (cpuC s bM vi vo eff) 47, mapE bm u8V wl, rowE vo 22 encU32 s.out] := .cons _ (.swap _ _ _)
 have ho3 : OwnAt w ([cellE bc (cpuC s bM vi vo eff) 47, rowE vo 22 encU32 s.out] ++ [mapE bm u8V wl]) := ho.perm hp
 unfold effF effS
 by_cases h1 : i.op = 3 ∨ i.op = 4
 ·rw [if_pos h1, if_pos h1]
  refine (stack_cpu s bc bM bm VR vi vo eff rs l wl i w ho2.left hM2 hO hwl hI hA hB).mono fun e w' ⟨wl', q1, q2, q3, q4⟩ => ⟨(wl', vo), q1, ?_, q3, q4, hvo⟩
  rw [stack_out]; exact q2.frame ho2
 rw [if_neg h1, if_neg h1]
 by_cases h2 : i.op = 16 ∨ i.op = 17 ∨ i.op = 18
 ·rw [if_pos h2, if_pos h2]
  refine (access_cpu s bc bM bm VR vi vo eff rs l wl i w ho2.left hM2 hO hwl hI hA hB).mono fun e w' ⟨wl', q1, q2, q3, q4⟩ => ⟨(wl', vo), q1, ?_, q3, q4, hvo⟩
  rw [access_out]; exact q2.frame ho2
 rw [if_neg h2, if_neg h2]
 by_cases h3 : i.op = 20 ∨ i.op = 21 ∨ i.op = 22
 ·rw [if_pos h3, if_pos h3]
  refine (jump_cpu s bc bM bm VR vi vo eff rs l wl i w ho2.left hM2 hO hwl hI hA hB).mono fun e w' ⟨wl', q1, q2, q3, q4⟩ => ⟨(wl', vo), q1, ?_, q3, q4, hvo⟩
  rw [jump_out]; exact q2.frame ho2
 rw [if_neg h3, if_neg h3]
 by_cases h4 : i.op = 23 ∨ i.op = 24 ∨ i.op = 2
 ·rw [if_pos h4, if_pos h4]
  refine (call_cpu s bc bM bm VR vi vo eff rs l wl i w ho2.left hM2 hO hwl hI hA hB).mono fun e w' ⟨wl', q1, q2, q3, q4⟩ => ⟨(wl', vo), q1, ?_, q3, q4, hvo⟩
  rw [call_out]; exact q2.frame ho2
 rw [if_neg h4, if_neg h4]
 by_cases h5 : i.op = 26 ∨ i.op = 27
 ·rw [if_pos h5, if_pos h5]
  refine (trans_cpu s bc bM vi vo eff inp i w ho3.left hi3 hvo hI hA hB).mono fun e w' ⟨vo', q1, q2, _⟩ => ⟨(wl, vo'), q1, ?_, by rw [trans_w]; exact hwl, Nat.le_add_right _ _, ?_⟩
  ·exact (q2.frame ho3).perm hp.symm (.cons _ (.swap _ _ _))
  ·have hr := q2.ent (rowE vo' 22 encU32 (transS inp s i (nextP i)).1.out) (by simp)
   have hr' : RowOK vo' 22 encU32 (transS inp s i (nextP i)).1.out (vo'.ownBlock.bind (w'.heap[·]?)) := hr
   rcases hr' with ⟨e1, _⟩ | ⟨g, cap, cur, e1, _⟩
   ·exact ⟨_, _, _, e1⟩
   ·exact ⟨_, _, _, e1⟩
 rw [if_neg h5, if_neg h5]
 refine (plain_cpu s bc bM vi vo eff i w ho1.left hI hA hB).mono fun e w' ⟨_, q1, q2, _⟩ => ⟨(wl, vo), q1, q2.frame ho1, hwl, Nat.le_add_right _ _, hvo⟩
theorem eff_enters (op : Int) (args : Array Value) (w : World) : (callFunc (effF op) args).run Try.prog w = .ok (.enter (effF op) args) w := by
 unfold effF
 split
 ·exact Try.call74 args w
 split
 ·exact Try.call75 args w
 split
 ·exact Try.call76 args w
 split
 ·exact Try.call77 args w
 split
 ·exact Try.call78 args w
 ·exact Try.call79 args w
set_option maxRecDepth 100000 in
set_option maxHeartbeats 8000000 in
theorem exec_cpu (s : St) (bc bM bm : Nat) (VR vi vo eff : Value) (rs : List RegV) (l : List SecV) (wl : WL) (inp : List UInt32) (w : World) (ho : OwnAt w [cellE bc (cpuC s bM vi vo eff) 47, mapE bm u8V wl, rowE vo 22 encU32 s.out]) (hC : CpuAt (Bg.lessB w (blks [cellE bc (cpuC s bM vi vo eff) 47, mapE bm u8V wl, rowE vo 22 encU32 s.out]) 0).blk bM bm VR vi rs inp) (hO : MemOK l rs) (hwl : mread wl = s.w) (hvo : ∃ a n c, vo = .slice a n c) :
  Calls Try.prog 42 #[.pointer (some ⟨bc, 0, none⟩)] w (fun e w' => ∃ j : WL × Value × Value, e = .returned (.int .i64 (execS l inp s).2) ∧ Upd 0 w w' (blks [cellE bc (cpuC s bM vi vo eff) 47, mapE bm u8V wl, rowE vo 22 encU32 s.out]) [cellE bc (cpuC (execS l inp s).1 bM vi j.2.1 j.2.2) 47, mapE bm u8V j.1, rowE j.2.1 22 encU32 (execS l inp s).1.out] ∧ (mread j.1 = (execS l inp s).1.w ∧ j.1.length ≤ wl.length + 4 ∧ ∃ a n c, j.2.1 = .slice a n c)) := by
 refine enterB (L := [cellE bc (cpuC s bM vi vo eff) 47, mapE bm u8V wl, rowE vo 22 encU32 s.out]) ho rfl (Nat.zero_le _) Try.func42 rfl Try.ntmps42 rfl ?_
 refine Tr.seq (Tr.region ?_)
 refine Tr.q (QS.assign rfl) rfl ?_
 refine Tr.nil (Tr.thenN (Tr.seq ?_))
 refine Tr.regionH ([cellE bc (cpuC s bM vi vo eff) 47]) 15 rfl HLF.mixed ?_
 refine Tr.hT 0 rfl (by kernel_rfl) (panicThen panicBody) (QS.move rfl) ?_
 refine Tr.hT 1 rfl (by kernel_rfl) (panicThen panicBody) (QS.nilCheck rfl) ?_
 refine Tr.hT 2 rfl (by kernel_rfl) (panicThen panicBody) (QS.fieldAddr (off := 13) (ft := 23) rfl Try.underlying47 rfl rfl Try.sizeOf23 (by decide)) ?_
 refine Tr.hT 3 rfl (by kernel_rfl) (panicThen panicBody) (QS.loadV rfl (by repeat constructor) Try.isAgg23 (by rfl)) ?_
 refine Tr.hT 4 rfl (by kernel_rfl) (panicThen panicBody) (QS.move rfl) ?_
 refine Tr.hT 5 rfl (by kernel_rfl) (panicThen panicBody) (QS.nilCheck rfl) ?_
 refine Tr.hT 6 rfl (by kernel_rfl) (panicThen panicBody) (QS.fieldAddr (off := 0) (ft := 42) rfl Try.underlying47 rfl rfl Try.sizeOf42 (by decide)) ?_
 refine Tr.hT 7 rfl (by kernel_rfl) (panicThen panicBody) (QS.fieldAddr (off := 8) (ft := 22) rfl Try.underlying42 rfl rfl Try.sizeOf22 (by decide)) ?_
 refine Tr.hT 8 rfl (by kernel_rfl) (panicThen panicBody) (QS.loadV rfl (by repeat constructor) Try.isAgg22 (by rfl)) ?_
 refine Tr.hAll [9] (by kernel_rfl) (by simp) (fun iq hq => ?_)
 obtain rfl := List.mem_singleton.1 hq
 refine Tr.hOp rfl ?_
 refine Tr.callRowF (fun V => .tuple #[V, .int .i64 (fetchA l s.w s.m.pc).2]) rfl Try.call60 (fun w hw => by have q := mfetch_any bM bm VR rs l s.m.pc wl w (hC.mem.mono hw.bg) hO (mapE.in_ (hw.ent _ (by repeat constructor))); rw [hwl] at q; exact q) rfl (fun V51 => ?_)
 refine Tr.hN ?_
 refine Tr.hT 10 rfl (by kernel_rfl) (panicThen panicBody) (QS.move rfl) ?_
 refine Tr.hT 11 rfl (by kernel_rfl) (panicThen panicBody) (QS.extract rfl rfl) ?_
 refine Tr.hT 12 rfl (by kernel_rfl) (panicThen panicBody) (QS.extract rfl rfl) ?_
 refine Tr.hT 13 rfl (by kernel_rfl) (panicThen panicBody) (QS.assign rfl) ?_
 refine Tr.hT 14 rfl (by kernel_rfl) (panicThen panicBody) (QS.assign rfl) ?_
 refine Tr.hDone (by kernel_rfl) ?_
 refine Tr.thenN (Tr.seq (Tr.seq (Tr.region ?_)))
 refine Tr.q (QS.move rfl) rfl ?_
 refine Tr.q (QS.neq rfl rfl) rfl ?_
 refine Tr.nil (Tr.thenN ?_)
 refine Tr.cond rfl (fun h1 => ?_) (fun h1 => ?_)
 ·try simp only [bs] at h1
  refine Tr.seq (Tr.region ?_)
  refine Tr.q (QS.move rfl) rfl ?_
  refine Tr.q (QS.assign rfl) rfl ?_
  refine Tr.nil (Tr.thenN (Tr.ret (Tr.thenR ?_)))
  refine Tr.ret1 Try.results42 rfl (fun w' hw => ?_)
  have hq : execS l inp s = (s, (fetchA l s.w s.m.pc).2) := by unfold execS; rw [if_pos (by assumption)]
  exact ⟨(wl, vo, eff), by rw [hq]; try rfl, by rw [hq]; exact hw.upd (Bg.le.refl _) (by repeat' constructor), by rw [hq]; exact ⟨hwl, Nat.le_add_right _ _, hvo⟩⟩
 ·try simp only [bs] at h1
  refine Tr.skip (Tr.thenN (Tr.seq (Tr.region ?_)))
  refine Tr.q (QS.move rfl) rfl ?_
  refine Tr.q (QS.move rfl) rfl ?_
  refine Tr.q (QS.nilCheck rfl) rfl ?_
  refine Tr.q (QS.fieldAddr (off := 0) (ft := 42) rfl Try.underlying47 rfl rfl Try.sizeOf42 (by decide)) rfl ?_
  refine Tr.q (QS.fieldAddr (off := 8) (ft := 22) rfl Try.underlying42 rfl rfl Try.sizeOf22 (by decide)) rfl ?_
  refine Tr.q (QS.loadV rfl (by repeat constructor) Try.isAgg22 (by rfl)) rfl ?_
  refine Tr.q (QS.call rfl Try.call61 (fun w hw => decode_isa (fetchA l s.w s.m.pc).1 _ s.m.pc w (hw.row (by repeat constructor)))) rfl ?_
  refine Tr.q (QS.move rfl) rfl ?_
  refine Tr.q (QS.extract rfl rfl) rfl ?_
  refine Tr.q (QS.extract rfl rfl) rfl ?_
  refine Tr.alloc Try.zeroValue67 rfl rfl (fun b2 => ?_)
  refine Tr.storeW rfl rfl Try.sizeOf67 (by repeat constructor) (by rfl) (by rfl) (by first | exact List.all_eq_true.1 rfl | exact Enc.one _ _ | exact Enc.one encIns _) rfl ?_
  obtain ⟨ii, hii⟩ : ∃ ii, ii = (decP (fetchA l s.w s.m.pc).1 s.m.pc).1 := ⟨_, rfl⟩
  change Tr _ _ (cellE b2 (encIns.enc (decP (fetchA l s.w s.m.pc).1 s.m.pc).1) 67 :: _) _ _
  rw [← hii]
  refine Tr.q (QS.assign rfl) rfl ?_
  refine Tr.nil (Tr.thenN (Tr.seq (Tr.seq (Tr.region ?_))))
  refine Tr.q (QS.move rfl) rfl ?_
  refine Tr.q (QS.neq rfl rfl) rfl ?_
  refine Tr.nil (Tr.thenN ?_)
  refine Tr.cond rfl (fun h3 => ?_) (fun h3 => ?_)
  ·try simp only [bs] at h3
   refine Tr.seq (Tr.region ?_)
   refine Tr.q (QS.move rfl) rfl ?_
   refine Tr.q (QS.assign rfl) rfl ?_
   refine Tr.nil (Tr.thenN (Tr.ret (Tr.thenR ?_)))
   refine Tr.ret1 Try.results42 rfl (fun w' hw => ?_)
   have hq : execS l inp s = (s, (decP (fetchA l s.w s.m.pc).1 s.m.pc).2) := by unfold execS; rw [if_neg (by simp_all), if_pos (by assumption)]
   exact ⟨(wl, vo, eff), by rw [hq]; try rfl, by rw [hq]; exact hw.upd (Bg.le.refl _) (by repeat' constructor), by rw [hq]; exact ⟨hwl, Nat.le_add_right _ _, hvo⟩⟩
  ·try simp only [bs] at h3
   refine Tr.skip (Tr.thenN (Tr.seq ?_))
   have hd0 : (decP (fetchA l s.w s.m.pc).1 s.m.pc).2 = 0 := by simp_all
   have hIi : InsOK ii := by rw [hii]; exact dec_ok
   obtain ⟨hAi, hBi⟩ := dec_regs hd0
   rw [← hii] at hAi hBi
   refine Tr.region ?_
   refine Tr.q (QS.move rfl) rfl ?_
   refine Tr.q (QS.lW rfl Try.isAgg67 Try.sizeOf67) rfl ?_
   refine Tr.callO (fun _ : Unit => .tuple #[]) [cellE bc (cpuC s bM vi vo eff) 47] (fun _ => [cellE bc (cpuC s bM vi vo (effV ii.op)) 47]) (ok := fun _ => True) (dd := fun _ => 0) rfl Try.call62 (by repeat' (first | exact Split.nil _ | exact Del.here _ | apply Split.cons | apply Del.there)) (fun w hw => Nat.le_refl _) (fun w hw => choose_cpu s bc bM vi vo eff ii w (hw.own (by repeat' (first | exact Split.nil _ | exact Del.here _ | apply Split.cons | apply Del.there)))) rfl (fun _ _ => ?_)
   refine Tr.nil (Tr.thenN (Tr.seq ?_))
   refine Tr.regionH ([cellE b2 (encIns.enc ii) 67]) 8 rfl HLF.mixed ?_
   refine Tr.hT 0 rfl (by kernel_rfl) (panicThen panicBody) (QS.move rfl) ?_
   refine Tr.hT 1 rfl (by kernel_rfl) (panicThen panicBody) (QS.nilCheck rfl) ?_
   refine Tr.hT 2 rfl (by kernel_rfl) (panicThen panicBody) (QS.fieldAddr (off := 19) (ft := 45) rfl Try.underlying47 rfl rfl Try.sizeOf45 (by decide)) ?_
   refine Tr.hT 4 rfl (by kernel_rfl) (panicThen panicBody) (QS.move rfl) ?_
   refine Tr.hT 5 rfl (by kernel_rfl) (panicThen panicBody) (QS.lW rfl Try.isAgg67 Try.sizeOf67) ?_
   refine Tr.hAll [3] (by kernel_rfl) (by simp) (fun iq hq => ?_)
   obtain rfl := List.mem_singleton.1 hq
   refine Tr.hOp rfl ?_
   refine Tr.q (QS.loadV rfl (by repeat constructor) Try.isAgg45 (by rfl)) rfl ?_
   refine Tr.hN ?_
   refine Tr.hAll [6] (by kernel_rfl) (by simp) (fun iq hq => ?_)
   obtain rfl := List.mem_singleton.1 hq
   refine Tr.hOp rfl ?_
   refine Tr.callOV (fun _ : WL × Value => .int .i64 (effS l inp s ii (nextP ii)).2) [cellE bc (cpuC s bM vi vo (effV ii.op)) 47, mapE bm u8V wl, rowE vo 22 encU32 s.out] (fun j => [cellE bc (cpuC (effS l inp s ii (nextP ii)).1 bM vi j.2 (effV ii.op)) 47, mapE bm u8V j.1, rowE j.2 22 encU32 (effS l inp s ii (nextP ii)).1.out]) (ok := fun j => mread j.1 = (effS l inp s ii (nextP ii)).1.w ∧ j.1.length ≤ wl.length + 4 ∧ ∃ a n c, j.2 = .slice a n c) (f := effF ii.op) (dd := fun _ => 0) rfl rfl (eff_enters ii.op) (by repeat' (first | exact Split.nil _ | exact Del.here _ | apply Split.cons | apply Del.there)) (fun w hw => Nat.le_refl _) (fun w hw => eff_any s bc bM bm VR vi vo (effV ii.op) rs l wl inp ii w (hw.own (by repeat' (first | exact Split.nil _ | exact Del.here _ | apply Split.cons | apply Del.there))) (hC.mono (hw.lessB (Lo := [cellE bc (cpuC s bM vi vo (effV ii.op)) 47, mapE bm u8V wl, rowE vo 22 encU32 s.out]) (by repeat' (first | exact Split.nil _ | exact Del.here _ | apply Split.cons | apply Del.there)))) hO hwl hvo hIi hAi hBi) rfl (fun j hj => ?_)
   refine Tr.hN ?_
   refine Tr.hT 7 rfl (by kernel_rfl) (panicThen panicBody) (QS.assign rfl) ?_
   refine Tr.hDone (by kernel_rfl) ?_
   refine Tr.thenN (Tr.ret ?_)
   refine Tr.ret1 Try.results42 rfl (fun w' hw => ?_)
   have hq : execS l inp s = effS l inp s ii (nextP ii) := by rw [hii]; unfold execS; rw [if_neg (by simp_all), if_neg (by simp_all)]
   exact ⟨(j.1, j.2, effV ii.op), by rw [hq], by rw [hq]; exact hw.upd (Bg.le.refl _) (by repeat' constructor), by rw [hq]; exact hj⟩
set_option maxRecDepth 100000 in
set_option maxHeartbeats 8000000 in
theorem step_cpu (s : St) (bc bM bm : Nat) (VR vi vo eff : Value) (rs : List RegV) (l : List SecV) (wl : WL) (inp : List UInt32) (w : World) (ho : OwnAt w [cellE bc (cpuC s bM vi vo eff) 47, mapE bm u8V wl, rowE vo 22 encU32 s.out]) (hC : CpuAt (Bg.lessB w (blks [cellE bc (cpuC s bM vi vo eff) 47, mapE bm u8V wl, rowE vo 22 encU32 s.out]) 0).blk bM bm VR vi rs inp) (hO : MemOK l rs) (hwl : mread wl = s.w) (hvo : ∃ a n c, vo = .slice a n c) :
  Calls Try.prog 18 #[.pointer (some ⟨bc, 0, none⟩)] w (fun e w' => ∃ j : WL × Value × Value, e = .returned (.int .i64 (stepS l inp s).2) ∧ Upd 0 w w' (blks [cellE bc (cpuC s bM vi vo eff) 47, mapE bm u8V wl, rowE vo 22 encU32 s.out]) [cellE bc (cpuC (stepS l inp s).1 bM vi j.2.1 j.2.2) 47, mapE bm u8V j.1, rowE j.2.1 22 encU32 (stepS l inp s).1.out] ∧ (mread j.1 = (stepS l inp s).1.w ∧ j.1.length ≤ wl.length + 4 ∧ ∃ a n c, j.2.1 = .slice a n c)) := by
 refine enterB (L := [cellE bc (cpuC s bM vi vo eff) 47, mapE bm u8V wl, rowE vo 22 encU32 s.out]) ho rfl (Nat.zero_le _) Try.func18 rfl Try.ntmps18 rfl ?_
 refine Tr.seq (Tr.region ?_)
 refine Tr.q (QS.assign rfl) rfl ?_
 refine Tr.nil (Tr.thenN (Tr.seq (Tr.block (Tr.seq (Tr.region ?_)))))
 refine Tr.q (QS.move rfl) rfl ?_
 refine Tr.q (QS.call rfl Try.call37 (fun w hw => cmade_any s bc bM vi vo eff w (cellE.cellsIn (hw.ent _ (by repeat constructor)) (Ext.refl _)))) rfl ?_
 refine Tr.q (QS.not rfl) rfl ?_
 refine Tr.q (QS.assign rfl) rfl ?_
 refine Tr.nil (Tr.thenN ?_)
 refine Tr.cond rfl (fun h1 => ?_) (fun h1 => ?_)
 ·try simp only [bs] at h1
  first | contradiction | (exfalso; omega) | simp_all
 ·try simp only [bs] at h1
  refine Tr.seq (Tr.region ?_)
  refine Tr.q (QS.move rfl) rfl ?_
  refine Tr.q (QS.nilCheck rfl) rfl ?_
  refine Tr.q (QS.fieldAddr (off := 17) (ft := 4) rfl Try.underlying47 rfl rfl Try.sizeOf4 (by decide)) rfl ?_
  refine Tr.q (QS.loadV rfl (by repeat constructor) Try.isAgg4 (by rfl)) rfl ?_
  refine Tr.q (QS.assign rfl) rfl ?_
  refine Tr.nil (Tr.thenN ?_)
  refine Tr.cond rfl (fun h2 => ?_) (fun h2 => ?_)
  ·try simp only [bs] at h2
   refine Tr.seq (Tr.region ?_)
   refine Tr.q (QS.assign rfl) rfl ?_
   refine Tr.nil (Tr.thenN (Tr.ret ?_))
   refine Tr.inR ?_
   refine Tr.thenR ?_
   refine Tr.ret1 Try.results18 rfl (fun w' hw => ?_)
   have hq : stepS l inp s = (s, 21) := by unfold stepS; rw [if_pos (by assumption)]
   exact ⟨(wl, vo, eff), by rw [hq], by rw [hq]; exact hw.upd (Bg.le.refl _) (by repeat' constructor), by rw [hq]; exact ⟨hwl, Nat.le_add_right _ _, hvo⟩⟩
  ·try simp only [bs] at h2
   refine Tr.seq (Tr.region ?_)
   refine Tr.q (QS.move rfl) rfl ?_
   refine Tr.q (QS.nilCheck rfl) rfl ?_
   refine Tr.q (QS.fieldAddr (off := 18) (ft := 24) rfl Try.underlying47 rfl rfl Try.sizeOf24 (by decide)) rfl ?_
   refine Tr.q (QS.loadV rfl (by repeat constructor) Try.isAgg24 (by rfl)) rfl ?_
   refine Tr.q (QS.eql rfl rfl) rfl ?_
   refine Tr.q (QS.assign rfl) rfl ?_
   refine Tr.nil (Tr.thenN ?_)
   refine Tr.cond rfl (fun h3 => ?_) (fun h3 => ?_)
   ·try simp only [bs] at h3
    refine Tr.region ?_
    refine Tr.q (QS.move rfl) rfl ?_
    refine Tr.q (QS.move rfl) rfl ?_
    refine Tr.callO (fun _ : WL × Value × Value => .int .i64 (execS l inp s).2) [cellE bc (cpuC s bM vi vo eff) 47, mapE bm u8V wl, rowE vo 22 encU32 s.out] (fun j => [cellE bc (cpuC (execS l inp s).1 bM vi j.2.1 j.2.2) 47, mapE bm u8V j.1, rowE j.2.1 22 encU32 (execS l inp s).1.out]) (ok := fun j => mread j.1 = (execS l inp s).1.w ∧ j.1.length ≤ wl.length + 4 ∧ ∃ a n c, j.2.1 = .slice a n c) (dd := fun _ => 0) rfl Try.call42 (by repeat' (first | exact Split.nil _ | exact Del.here _ | apply Split.cons | apply Del.there)) (fun w hw => Nat.le_refl _) (fun w hw => exec_cpu s bc bM bm VR vi vo eff rs l wl inp w (hw.own (by repeat' (first | exact Split.nil _ | exact Del.here _ | apply Split.cons | apply Del.there))) (hC.mono (hw.lessB (Lo := [cellE bc (cpuC s bM vi vo eff) 47, mapE bm u8V wl, rowE vo 22 encU32 s.out]) (by repeat' (first | exact Split.nil _ | exact Del.here _ | apply Split.cons | apply Del.there)))) hO hwl hvo) rfl (fun j hj => ?_)
    refine Tr.q (QS.nilCheck rfl) rfl ?_
    refine Tr.q (QS.fieldAddr (off := 18) (ft := 24) rfl Try.underlying47 rfl rfl Try.sizeOf24 (by decide)) rfl ?_
    refine Tr.storeV rfl rfl Try.sizeOf24 (by repeat constructor) (cpuC_err _) (by rfl) (by exact Nat.le_of_ble_eq_true rfl) (by first | exact List.all_eq_true.1 rfl | exact Enc.one _ _ | (intro u hu; simp [Value.cells] at hu; simp_all [Value.oneCell'])) rfl ?_
    refine Tr.nil (Tr.inN (Tr.thenN (Tr.seq (Tr.region ?_))))
    refine Tr.q (QS.move rfl) rfl ?_
    refine Tr.q (QS.nilCheck rfl) rfl ?_
    refine Tr.q (QS.fieldAddr (off := 18) (ft := 24) rfl Try.underlying47 rfl rfl Try.sizeOf24 (by decide)) rfl ?_
    refine Tr.q (QS.loadV rfl (by repeat constructor) Try.isAgg24 (by rfl)) rfl ?_
    refine Tr.q (QS.assign rfl) rfl ?_
    refine Tr.nil (Tr.thenN (Tr.ret ?_))
    refine Tr.ret1 Try.results18 rfl (fun w' hw => ?_)
    have hq : stepS l inp s = ({ (execS l inp s).1 with err := (execS l inp s).2 }, (execS l inp s).2) := by unfold stepS; rw [if_neg (by simp_all), if_neg (by simp_all)]
    exact ⟨j, by rw [hq]; try rfl, by rw [hq]; exact hw.upd (Bg.le.refl _) (by repeat' constructor), by rw [hq]; exact hj⟩
   ·try simp only [bs] at h3
    refine Tr.skip (Tr.inN (Tr.thenN (Tr.seq (Tr.region ?_))))
    refine Tr.q (QS.move rfl) rfl ?_
    refine Tr.q (QS.nilCheck rfl) rfl ?_
    refine Tr.q (QS.fieldAddr (off := 18) (ft := 24) rfl Try.underlying47 rfl rfl Try.sizeOf24 (by decide)) rfl ?_
    refine Tr.q (QS.loadV rfl (by repeat constructor) Try.isAgg24 (by rfl)) rfl ?_
    refine Tr.q (QS.assign rfl) rfl ?_
    refine Tr.nil (Tr.thenN (Tr.ret ?_))
    refine Tr.ret1 Try.results18 rfl (fun w' hw => ?_)
    have hq : stepS l inp s = (s, s.err) := by unfold stepS; rw [if_neg (by simp_all), if_pos (by assumption)]
    exact ⟨(wl, vo, eff), by rw [hq]; try rfl, by rw [hq]; exact hw.upd (Bg.le.refl _) (by repeat' constructor), by rw [hq]; exact ⟨hwl, Nat.le_add_right _ _, hvo⟩⟩
set_option maxRecDepth 100000 in
set_option maxHeartbeats 8000000 in
theorem trace_cpu (s : St) (bc bM bm : Nat) (VR vi vo eff : Value) (rs : List RegV) (l : List SecV) (wl : WL) (inp : List UInt32) (n : Int) (w : World) (ho : OwnAt w [cellE bc (cpuC s bM vi vo eff) 47, mapE bm u8V wl, rowE vo 22 encU32 s.out]) (hC : CpuAt (Bg.lessB w (blks [cellE bc (cpuC s bM vi vo eff) 47, mapE bm u8V wl, rowE vo 22 encU32 s.out]) 0).blk bM bm VR vi rs inp) (hO : MemOK l rs) (hwl : mread wl = s.w) (hvo : ∃ a n c, vo = .slice a n c) (hol : s.out.length ≤ 4096) :
  Calls Try.prog 16 #[.pointer (some ⟨bc, 0, none⟩), .int .i64 n] w (fun e w' => ∃ j : WL × Value × Value × Value × Value, e = .returned (.tuple #[j.2.2.2.1, .agg #[.int .i64 (errR (runS l inp (min n 65536).toNat s)), j.2.2.2.2, .int .i64 ((traceS l inp (min n 65536).toNat s).length : Nat)]]) ∧ Upd 0 w w' (blks [cellE bc (cpuC s bM vi vo eff) 47, mapE bm u8V wl, rowE vo 22 encU32 s.out]) [cellE bc (cpuC (runS l inp (min n 65536).toNat s) bM vi j.2.1 j.2.2.1) 47, mapE bm u8V j.1, rowE j.2.1 22 encU32 (runS l inp (min n 65536).toNat s).out, rowE j.2.2.2.1 22 encU32 (traceS l inp (min n 65536).toNat s), rowE j.2.2.2.2 22 encU32 (runS l inp (min n 65536).toNat s).out] ∧ (mread j.1 = (runS l inp (min n 65536).toNat s).w ∧ j.1.length ≤ wl.length + 4 * (traceS l inp (min n 65536).toNat s).length ∧ ∃ a n c, j.2.1 = .slice a n c)) := by
 refine enterB (L := [cellE bc (cpuC s bM vi vo eff) 47, mapE bm u8V wl, rowE vo 22 encU32 s.out]) ho rfl (Nat.zero_le _) Try.func16 rfl Try.ntmps16 rfl ?_
 refine Tr.seq (Tr.region ?_)
 refine Tr.q (QS.assign rfl) rfl ?_
 refine Tr.alloc Try.zeroValue50 rfl rfl (fun b1 => ?_)
 refine Tr.nil (Tr.thenN (Tr.seq (Tr.seq (Tr.region ?_))))
 refine Tr.q (QS.move rfl) rfl ?_
 refine Tr.q (QS.call rfl Try.call37 (fun w hw => cmade_any s bc bM vi vo eff w (cellE.cellsIn (hw.ent _ (by repeat constructor)) (Ext.refl _)))) rfl ?_
 refine Tr.q (QS.not rfl) rfl ?_
 refine Tr.nil (Tr.thenN ?_)
 refine Tr.cond rfl (fun h2 => ?_) (fun h2 => ?_)
 ·try simp only [bs] at h2
  first | contradiction | (exfalso; omega) | simp_all
 ·try simp only [bs] at h2
  refine Tr.skip (Tr.thenN (Tr.seq (Tr.region ?_)))
  refine Tr.q (QS.assign rfl) rfl ?_
  refine Tr.nil (Tr.thenN (Tr.seq (Tr.block ?_)))
  refine Tr.ownNil 22 encU32 ?_
  refine Tr.loop (ι := Nat × St × List UInt32 × WL × Value × Value × Value) (fun ⟨k, t, tr, wl1, vo1, eff1, vt⟩ => Ran l inp s k t tr ∧ k ≤ (min n 65536).toNat ∧ mread wl1 = t.w ∧ wl1.length ≤ wl.length + 4 * k ∧ ∃ a n c, vo1 = .slice a n c) (fun _ => (Bg.lessB w (blks [cellE bc (cpuC s bM vi vo eff) 47, mapE bm u8V wl, rowE vo 22 encU32 s.out]) 0)) (fun ⟨k, t, tr, wl1, vo1, eff1, vt⟩ => [rowE vt 22 encU32 tr, cellE bc (cpuC t bM vi vo1 eff1) 47, mapE bm u8V wl1, rowE vo1 22 encU32 t.out, cellE b1 [.int .i64 0, .slice none 0 0, .int .i64 0] 50]) (fun ⟨k, t, tr, wl1, vo1, eff1, vt⟩ => [(6, vt)]) (fun ⟨k, t, tr, wl1, vo1, eff1, vt⟩ => (min n 65536).toNat - k) (0, s, [], wl, vo, eff, _) ⟨.nil, Nat.zero_le _, hwl, Nat.le_refl _, hvo⟩ (.cons (by first | rfl | exact lookI rfl (by omega) | exact lookI rfl (by simp) | exact lookB rfl (by simp)) Front.nil) (by repeat' constructor) rfl (fun i hi m hm => ?_)
  obtain ⟨k, t, tr, wl1, vo1, eff1, vt⟩ := i
  replace hi : Ran l inp s k t tr ∧ k ≤ (min n 65536).toNat ∧ mread wl1 = t.w ∧ wl1.length ≤ wl.length + 4 * k ∧ ∃ a n c, vo1 = .slice a n c := hi
  replace hm : m = (min n 65536).toNat - k := hm
  change Tr _ _ [rowE vt 22 encU32 tr, cellE bc (cpuC t bM vi vo1 eff1) 47, mapE bm u8V wl1, rowE vo1 22 encU32 t.out, cellE b1 [.int .i64 0, .slice none 0 0, .int .i64 0] 50] ([(6, vt)] ++ _) _
  obtain ⟨hR, hk, hwl1, hwn1, hvo1⟩ := hi
  have hrl := hR.len
  refine Tr.seq (Tr.seq (Tr.region ?_))
  refine Tr.q (QS.move rfl) rfl ?_
  refine Tr.q (QS.lenRow rfl (by repeat constructor) Try.underlying34) rfl ?_
  refine Tr.q (QS.move rfl) rfl ?_
  refine Tr.q (QS.min2 rfl rfl) rfl ?_
  refine Tr.q (QS.lss rfl rfl) rfl ?_
  refine Tr.q (QS.move rfl) rfl ?_
  apply Tr.andP
  ·exact (rfl : _ = (6, 17, 23))
  ·exact rfl
  ·intro hT3; have hT3' := hT3
   try simp only [bs] at hT3'
   refine Tr.gq rfl rfl hT3 (QS.move rfl) rfl ?_
   refine Tr.gq rfl rfl hT3 (QS.nilCheck rfl) rfl ?_
   refine Tr.gq rfl rfl hT3 (QS.fieldAddr (off := 17) (ft := 4) rfl Try.underlying47 rfl rfl Try.sizeOf4 (by decide)) rfl ?_
   refine Tr.gq rfl rfl hT3 (QS.loadV rfl (by repeat constructor) Try.isAgg4 (by rfl)) rfl ?_
   refine Tr.gq rfl rfl hT3 (QS.not rfl) rfl ?_
   refine Tr.q (QS.pickT rfl hT3 rfl) rfl ?_
   refine Tr.nil (Tr.thenN ?_)
   exact Tr.endX (Sub.cons rfl (Sub.dropN 6 (by kernel_rfl) rfl))
  ·intro hF3
   refine Tr.gskip rfl rfl hF3 rfl ?_
   refine Tr.gskip rfl rfl hF3 rfl ?_
   refine Tr.gskip rfl rfl hF3 rfl ?_
   refine Tr.gskip rfl rfl hF3 rfl ?_
   refine Tr.gskip rfl rfl hF3 rfl ?_
   refine Tr.q (QS.pickF rfl hF3 rfl) rfl ?_
   refine Tr.nil (Tr.thenN ?_)
   exact Tr.endX (Sub.cons rfl (Sub.dropN 6 (by kernel_rfl) rfl))
  refine Tr.q (QS.move rfl) rfl ?_
  apply Tr.andP
  ·exact (rfl : _ = (6, 24, 30))
  ·exact rfl
  ·intro hT4; have hT4' := hT4
   try simp only [bs] at hT4'
   refine Tr.gq rfl rfl hT4 (QS.move rfl) rfl ?_
   refine Tr.gq rfl rfl hT4 (QS.nilCheck rfl) rfl ?_
   refine Tr.gq rfl rfl hT4 (QS.fieldAddr (off := 18) (ft := 24) rfl Try.underlying47 rfl rfl Try.sizeOf24 (by decide)) rfl ?_
   refine Tr.gq rfl rfl hT4 (QS.loadV rfl (by repeat constructor) Try.isAgg24 (by rfl)) rfl ?_
   refine Tr.gq rfl rfl hT4 (QS.eql rfl rfl) rfl ?_
   refine Tr.q (QS.pickT rfl hT4 rfl) rfl ?_
   refine Tr.nil (Tr.thenN ?_)
   exact Tr.endX (Sub.cons rfl (Sub.dropN 6 (by kernel_rfl) rfl))
  ·intro hF4
   refine Tr.gskip rfl rfl hF4 rfl ?_
   refine Tr.gskip rfl rfl hF4 rfl ?_
   refine Tr.gskip rfl rfl hF4 rfl ?_
   refine Tr.gskip rfl rfl hF4 rfl ?_
   refine Tr.gskip rfl rfl hF4 rfl ?_
   refine Tr.q (QS.pickF rfl hF4 rfl) rfl ?_
   refine Tr.nil (Tr.thenN ?_)
   exact Tr.endX (Sub.cons rfl (Sub.dropN 6 (by kernel_rfl) rfl))
  refine Tr.nil (Tr.thenN ?_)
  refine Tr.cond rfl (fun h5 => ?_) (fun h5 => ?_)
  ·try simp only [bs] at h5
   refine Tr.skip (Tr.thenN (Tr.block (Tr.seq (Tr.region ?_))))
   refine Tr.q (QS.move rfl) rfl ?_
   refine Tr.q (QS.move rfl) rfl ?_
   refine Tr.q (QS.nilCheck rfl) rfl ?_
   refine Tr.q (QS.fieldAddr (off := 0) (ft := 42) rfl Try.underlying47 rfl rfl Try.sizeOf42 (by decide)) rfl ?_
   refine Tr.q (QS.fieldAddr (off := 8) (ft := 22) rfl Try.underlying42 rfl rfl Try.sizeOf22 (by decide)) rfl ?_
   refine Tr.q (QS.loadV rfl (by repeat constructor) Try.isAgg22 (by rfl)) rfl ?_
   refine Tr.lit1 (E := encU32) t.m.pc rfl rfl Try.underlying34 Try.sizeOf22 Try.zeroValue22 (by rfl) (by rfl) rfl (fun V6 => ?_)
   refine Tr.append1 rfl rfl (by repeat constructor) (by repeat constructor) Try.underlying34 HLF.info22 (by rfl) (by rfl) (by (try simp only [List.length_cons, List.length_nil, List.length_append, List.length_take]); omega) (by unfold maxLen; (try simp only [List.length_cons, List.length_nil, List.length_append, List.length_take]); omega) rfl (fun V44 => ?_)
   refine Tr.q (QS.assign rfl) rfl ?_
   refine Tr.nil (Tr.thenN (Tr.region ?_))
   refine Tr.q (QS.move rfl) rfl ?_
   refine Tr.callO (fun _ : WL × Value × Value => .int .i64 (stepS l inp t).2) [cellE bc (cpuC t bM vi vo1 eff1) 47, mapE bm u8V wl1, rowE vo1 22 encU32 t.out] (fun j => [cellE bc (cpuC (stepS l inp t).1 bM vi j.2.1 j.2.2) 47, mapE bm u8V j.1, rowE j.2.1 22 encU32 (stepS l inp t).1.out]) (ok := fun j => mread j.1 = (stepS l inp t).1.w ∧ j.1.length ≤ wl1.length + 4 ∧ ∃ a n c, j.2.1 = .slice a n c) (dd := fun _ => 0) rfl Try.call18 (by repeat' (first | exact Split.nil _ | exact Del.here _ | apply Split.cons | apply Del.there)) (fun w hw => Nat.le_refl _) (fun w hw => step_cpu t bc bM bm VR vi vo1 eff1 rs l wl1 inp w (hw.own (by repeat' (first | exact Split.nil _ | exact Del.here _ | apply Split.cons | apply Del.there))) (hC.mono (hw.lessB (Lo := [cellE bc (cpuC t bM vi vo1 eff1) 47, mapE bm u8V wl1, rowE vo1 22 encU32 t.out]) (by repeat' (first | exact Split.nil _ | exact Del.here _ | apply Split.cons | apply Del.there)))) hO hwl1 hvo1) rfl (fun j hj => ?_)
   refine Tr.nil (Tr.inN (Tr.thenN ?_))
   apply Tr.again (k + 1, (stepS l inp t).1, tr ++ [t.m.pc], j.1, j.2.1, j.2.2, V44)
   ·exact rfl
   ·exact (.cons (by first | rfl | exact lookI rfl (by omega) | exact lookI rfl (by simp) | exact lookB rfl (by simp)) Front.nil)
   ·exact SubX.dropN 21 (by kernel_rfl) rfl
   ·exact (by repeat' constructor)
   ·exact ⟨.snoc hR (by simp_all) (by simp_all), by omega, hj.1, by have := hj.2.1; show j.1.length ≤ _; omega, hj.2.2⟩
   ·exact (by show (min n 65536).toNat - (k + 1) < m; omega)
  ·try simp only [bs] at h5
   refine Tr.exit ?_
   refine Tr.thenE (Tr.thenE (Tr.inHit (Tr.thenN ?_)))
   have hol1 := hR.out_len hol
   have hfu := hR.full (n := (min n 65536).toNat) hk (by by_cases hq : k = (min n 65536).toNat; exact .inl hq; right; rintro ⟨q1, q2⟩; simp_all; omega)
   refine Tr.seqJ (ι := Option Addr × Nat × Nat) (fun ⟨pq, cq, bq⟩ => True) (fun _ => (Bg.lessB w (blks [cellE bc (cpuC s bM vi vo eff) 47, mapE bm u8V wl, rowE vo 22 encU32 s.out]) 0)) (fun ⟨pq, cq, bq⟩ => [cellE bq [.int .i64 t.err, .slice pq t.out.length cq, .int .i64 (tr.length : Nat)] 50, rowE (.slice pq t.out.length cq) 22 encU32 t.out, cellE bc (cpuC t bM vi vo1 eff1) 47, mapE bm u8V wl1, rowE vo1 22 encU32 t.out, rowE vt 22 encU32 tr, cellE b1 [.int .i64 0, .slice none 0 0, .int .i64 0] 50]) (fun ⟨pq, cq, bq⟩ => [(7, .pointer (some ⟨bq, 0, none⟩))]) ?_ (fun i hi => ?_)
   ·skip
    refine Tr.regionH ([cellE bc (cpuC t bM vi vo1 eff1) 47, mapE bm u8V wl1, rowE vo1 22 encU32 t.out, rowE vt 22 encU32 tr]) 14 rfl HLF.mixed ?_
    refine Tr.hT 0 rfl (by kernel_rfl) (panicThen panicBody) (QS.move rfl) ?_
    refine Tr.hT 1 rfl (by kernel_rfl) (panicThen panicBody) (QS.nilCheck rfl) ?_
    refine Tr.hT 2 rfl (by kernel_rfl) (panicThen panicBody) (QS.fieldAddr (off := 18) (ft := 24) rfl Try.underlying47 rfl rfl Try.sizeOf24 (by decide)) ?_
    refine Tr.hT 3 rfl (by kernel_rfl) (panicThen panicBody) (QS.loadV rfl (by repeat constructor) Try.isAgg24 (by rfl)) ?_
    refine Tr.hT 4 rfl (by kernel_rfl) (panicThen panicBody) (QS.move rfl) ?_
    refine Tr.hT 5 rfl (by kernel_rfl) (panicThen panicBody) (QS.nilCheck rfl) ?_
    refine Tr.hT 6 rfl (by kernel_rfl) (panicThen panicBody) (QS.fieldAddr (off := 16) (ft := 34) rfl Try.underlying47 rfl rfl Try.sizeOf34 (by decide)) ?_
    refine Tr.hT 7 rfl (by kernel_rfl) (panicThen panicBody) (QS.loadV rfl (by repeat constructor) Try.isAgg34 (by rfl)) ?_
    refine Tr.hT 9 rfl (by kernel_rfl) (panicThen panicBody) (QS.move rfl) ?_
    refine Tr.hAll [8, 10, 12] (by kernel_rfl) (by simp) (fun iq hq => ?_)
    rcases List.mem_cons.1 hq with rfl | hq
    ·skip
     refine Tr.hOp rfl ?_
     refine Tr.callRow rfl Try.call36 (fun w hw => clone_u32 t.out _ w (hw.row (by repeat constructor)) (by omega)) rfl (fun V45 => ?_)
     refine Tr.rowShape (V := V45) (by repeat constructor) (fun pq cq hpv => ?_)
     subst hpv
     refine Tr.hN ?_
     refine Tr.hAll [10, 12] (by kernel_rfl) (by simp) (fun iq hq => ?_)
     rcases List.mem_cons.1 hq with rfl | hq
     ·skip
      refine Tr.hOp rfl ?_
      refine Tr.q (QS.lenRow rfl (by repeat constructor) Try.underlying34) rfl ?_
      refine Tr.hN ?_
      refine Tr.hT 11 rfl (by kernel_rfl) (panicThen panicBody) (QS.build (vs := [(0, _), (1, _), (2, _)]) (cs := #[.int .i64 t.err, .slice pq t.out.length cq, .int .i64 (tr.length : Nat)]) rfl rfl (by kernel_rfl)) ?_
      refine Tr.hAll [12] (by kernel_rfl) (by simp) (fun iq hq => ?_)
      obtain rfl := List.mem_singleton.1 hq
      refine Tr.hOp rfl ?_
      refine Tr.alloc Try.zeroValue50 rfl rfl (fun b7 => ?_)
      refine Tr.hN ?_
      refine Tr.hAll [13] (by kernel_rfl) (by simp) (fun iq hq => ?_)
      obtain rfl := List.mem_singleton.1 hq
      refine Tr.hOp rfl ?_
      refine Tr.storeW rfl rfl Try.sizeOf50 (by repeat constructor) (by rfl) (by rfl) (by first | exact List.all_eq_true.1 rfl | exact Enc.one _ _ | (intro u hu; simp [Value.cells] at hu; simp_all [Value.oneCell'])) rfl ?_
      refine Tr.hN ?_
      refine Tr.hDone (by kernel_rfl) ?_
      refine Tr.thenN ?_
      apply Tr.joined (_, _, _)
      ·exact rfl
      ·exact (.cons (by first | rfl | exact lookI rfl (by omega) | exact lookI rfl (by simp) | exact lookB rfl (by simp)) Front.nil)
      ·exact SubX.dropN 13 (by kernel_rfl) rfl
      ·exact (by repeat' constructor)
      ·exact trivial
     obtain rfl := List.mem_singleton.1 hq
     refine Tr.hOp rfl ?_
     refine Tr.alloc Try.zeroValue50 rfl rfl (fun b8 => ?_)
     refine Tr.hN ?_
     refine Tr.hAll [10] (by kernel_rfl) (by simp) (fun iq hq => ?_)
     obtain rfl := List.mem_singleton.1 hq
     refine Tr.hOp rfl ?_
     refine Tr.q (QS.lenRow rfl (by repeat constructor) Try.underlying34) rfl ?_
     refine Tr.hN ?_
     refine Tr.hT 11 rfl (by kernel_rfl) (panicThen panicBody) (QS.build (vs := [(0, _), (1, _), (2, _)]) (cs := #[.int .i64 t.err, .slice pq t.out.length cq, .int .i64 (tr.length : Nat)]) rfl rfl (by kernel_rfl)) ?_
     refine Tr.hAll [13] (by kernel_rfl) (by simp) (fun iq hq => ?_)
     obtain rfl := List.mem_singleton.1 hq
     refine Tr.hOp rfl ?_
     refine Tr.storeW rfl rfl Try.sizeOf50 (by repeat constructor) (by rfl) (by rfl) (by first | exact List.all_eq_true.1 rfl | exact Enc.one _ _ | (intro u hu; simp [Value.cells] at hu; simp_all [Value.oneCell'])) rfl ?_
     refine Tr.hN ?_
     refine Tr.hDone (by kernel_rfl) ?_
     refine Tr.thenN ?_
     apply Tr.joined (_, _, _)
     ·exact rfl
     ·exact (.cons (by first | rfl | exact lookI rfl (by omega) | exact lookI rfl (by simp) | exact lookB rfl (by simp)) Front.nil)
     ·exact SubX.dropN 13 (by kernel_rfl) rfl
     ·exact (by repeat' constructor)
     ·exact trivial
    rcases List.mem_cons.1 hq with rfl | hq
    ·skip
     refine Tr.hOp rfl ?_
     refine Tr.q (QS.lenRow rfl (by repeat constructor) Try.underlying34) rfl ?_
     refine Tr.hN ?_
     refine Tr.hAll [8, 12] (by kernel_rfl) (by simp) (fun iq hq => ?_)
     rcases List.mem_cons.1 hq with rfl | hq
     ·skip
      refine Tr.hOp rfl ?_
      refine Tr.callRow rfl Try.call36 (fun w hw => clone_u32 t.out _ w (hw.row (by repeat constructor)) (by omega)) rfl (fun V45 => ?_)
      refine Tr.rowShape (V := V45) (by repeat constructor) (fun pq cq hpv => ?_)
      subst hpv
      refine Tr.hN ?_
      refine Tr.hT 11 rfl (by kernel_rfl) (panicThen panicBody) (QS.build (vs := [(0, _), (1, _), (2, _)]) (cs := #[.int .i64 t.err, .slice pq t.out.length cq, .int .i64 (tr.length : Nat)]) rfl rfl (by kernel_rfl)) ?_
      refine Tr.hAll [12] (by kernel_rfl) (by simp) (fun iq hq => ?_)
      obtain rfl := List.mem_singleton.1 hq
      refine Tr.hOp rfl ?_
      refine Tr.alloc Try.zeroValue50 rfl rfl (fun b9 => ?_)
      refine Tr.hN ?_
      refine Tr.hAll [13] (by kernel_rfl) (by simp) (fun iq hq => ?_)
      obtain rfl := List.mem_singleton.1 hq
      refine Tr.hOp rfl ?_
      refine Tr.storeW rfl rfl Try.sizeOf50 (by repeat constructor) (by rfl) (by rfl) (by first | exact List.all_eq_true.1 rfl | exact Enc.one _ _ | (intro u hu; simp [Value.cells] at hu; simp_all [Value.oneCell'])) rfl ?_
      refine Tr.hN ?_
      refine Tr.hDone (by kernel_rfl) ?_
      refine Tr.thenN ?_
      apply Tr.joined (_, _, _)
      ·exact rfl
      ·exact (.cons (by first | rfl | exact lookI rfl (by omega) | exact lookI rfl (by simp) | exact lookB rfl (by simp)) Front.nil)
      ·exact SubX.dropN 13 (by kernel_rfl) rfl
      ·exact (by repeat' constructor)
      ·exact trivial
     obtain rfl := List.mem_singleton.1 hq
     refine Tr.hOp rfl ?_
     refine Tr.alloc Try.zeroValue50 rfl rfl (fun b10 => ?_)
     refine Tr.hN ?_
     refine Tr.hAll [8] (by kernel_rfl) (by simp) (fun iq hq => ?_)
     obtain rfl := List.mem_singleton.1 hq
     refine Tr.hOp rfl ?_
     refine Tr.callRow rfl Try.call36 (fun w hw => clone_u32 t.out _ w (hw.row (by repeat constructor)) (by omega)) rfl (fun V45 => ?_)
     refine Tr.rowShape (V := V45) (by repeat constructor) (fun pq cq hpv => ?_)
     subst hpv
     refine Tr.hN ?_
     refine Tr.hT 11 rfl (by kernel_rfl) (panicThen panicBody) (QS.build (vs := [(0, _), (1, _), (2, _)]) (cs := #[.int .i64 t.err, .slice pq t.out.length cq, .int .i64 (tr.length : Nat)]) rfl rfl (by kernel_rfl)) ?_
     refine Tr.hAll [13] (by kernel_rfl) (by simp) (fun iq hq => ?_)
     obtain rfl := List.mem_singleton.1 hq
     refine Tr.hOp rfl ?_
     refine Tr.storeW rfl rfl Try.sizeOf50 (by repeat constructor) (by rfl) (by rfl) (by first | exact List.all_eq_true.1 rfl | exact Enc.one _ _ | (intro u hu; simp [Value.cells] at hu; simp_all [Value.oneCell'])) rfl ?_
     refine Tr.hN ?_
     refine Tr.hDone (by kernel_rfl) ?_
     refine Tr.thenN ?_
     apply Tr.joined (_, _, _)
     ·exact rfl
     ·exact (.cons (by first | rfl | exact lookI rfl (by omega) | exact lookI rfl (by simp) | exact lookB rfl (by simp)) Front.nil)
     ·exact SubX.dropN 13 (by kernel_rfl) rfl
     ·exact (by repeat' constructor)
     ·exact trivial
    obtain rfl := List.mem_singleton.1 hq
    refine Tr.hOp rfl ?_
    refine Tr.alloc Try.zeroValue50 rfl rfl (fun b11 => ?_)
    refine Tr.hN ?_
    refine Tr.hAll [8, 10] (by kernel_rfl) (by simp) (fun iq hq => ?_)
    rcases List.mem_cons.1 hq with rfl | hq
    ·skip
     refine Tr.hOp rfl ?_
     refine Tr.callRow rfl Try.call36 (fun w hw => clone_u32 t.out _ w (hw.row (by repeat constructor)) (by omega)) rfl (fun V45 => ?_)
     refine Tr.rowShape (V := V45) (by repeat constructor) (fun pq cq hpv => ?_)
     subst hpv
     refine Tr.hN ?_
     refine Tr.hAll [10] (by kernel_rfl) (by simp) (fun iq hq => ?_)
     obtain rfl := List.mem_singleton.1 hq
     refine Tr.hOp rfl ?_
     refine Tr.q (QS.lenRow rfl (by repeat constructor) Try.underlying34) rfl ?_
     refine Tr.hN ?_
     refine Tr.hT 11 rfl (by kernel_rfl) (panicThen panicBody) (QS.build (vs := [(0, _), (1, _), (2, _)]) (cs := #[.int .i64 t.err, .slice pq t.out.length cq, .int .i64 (tr.length : Nat)]) rfl rfl (by kernel_rfl)) ?_
     refine Tr.hAll [13] (by kernel_rfl) (by simp) (fun iq hq => ?_)
     obtain rfl := List.mem_singleton.1 hq
     refine Tr.hOp rfl ?_
     refine Tr.storeW rfl rfl Try.sizeOf50 (by repeat constructor) (by rfl) (by rfl) (by first | exact List.all_eq_true.1 rfl | exact Enc.one _ _ | (intro u hu; simp [Value.cells] at hu; simp_all [Value.oneCell'])) rfl ?_
     refine Tr.hN ?_
     refine Tr.hDone (by kernel_rfl) ?_
     refine Tr.thenN ?_
     apply Tr.joined (_, _, _)
     ·exact rfl
     ·exact (.cons (by first | rfl | exact lookI rfl (by omega) | exact lookI rfl (by simp) | exact lookB rfl (by simp)) Front.nil)
     ·exact SubX.dropN 13 (by kernel_rfl) rfl
     ·exact (by repeat' constructor)
     ·exact trivial
    obtain rfl := List.mem_singleton.1 hq
    refine Tr.hOp rfl ?_
    refine Tr.q (QS.lenRow rfl (by repeat constructor) Try.underlying34) rfl ?_
    refine Tr.hN ?_
    refine Tr.hAll [8] (by kernel_rfl) (by simp) (fun iq hq => ?_)
    obtain rfl := List.mem_singleton.1 hq
    refine Tr.hOp rfl ?_
    refine Tr.callRow rfl Try.call36 (fun w hw => clone_u32 t.out _ w (hw.row (by repeat constructor)) (by omega)) rfl (fun V45 => ?_)
    refine Tr.rowShape (V := V45) (by repeat constructor) (fun pq cq hpv => ?_)
    subst hpv
    refine Tr.hN ?_
    refine Tr.hT 11 rfl (by kernel_rfl) (panicThen panicBody) (QS.build (vs := [(0, _), (1, _), (2, _)]) (cs := #[.int .i64 t.err, .slice pq t.out.length cq, .int .i64 (tr.length : Nat)]) rfl rfl (by kernel_rfl)) ?_
    refine Tr.hAll [13] (by kernel_rfl) (by simp) (fun iq hq => ?_)
    obtain rfl := List.mem_singleton.1 hq
    refine Tr.hOp rfl ?_
    refine Tr.storeW rfl rfl Try.sizeOf50 (by repeat constructor) (by rfl) (by rfl) (by first | exact List.all_eq_true.1 rfl | exact Enc.one _ _ | (intro u hu; simp [Value.cells] at hu; simp_all [Value.oneCell'])) rfl ?_
    refine Tr.hN ?_
    refine Tr.hDone (by kernel_rfl) ?_
    refine Tr.thenN ?_
    apply Tr.joined (_, _, _)
    ·exact rfl
    ·exact (.cons (by first | rfl | exact lookI rfl (by omega) | exact lookI rfl (by simp) | exact lookB rfl (by simp)) Front.nil)
    ·exact SubX.dropN 13 (by kernel_rfl) rfl
    ·exact (by repeat' constructor)
    ·exact trivial
   ·obtain ⟨pq, cq, bq⟩ := i
    replace hi : True := hi
    change Tr _ _ [cellE bq [.int .i64 t.err, .slice pq t.out.length cq, .int .i64 (tr.length : Nat)] 50, rowE (.slice pq t.out.length cq) 22 encU32 t.out, cellE bc (cpuC t bM vi vo1 eff1) 47, mapE bm u8V wl1, rowE vo1 22 encU32 t.out, rowE vt 22 encU32 tr, cellE b1 [.int .i64 0, .slice none 0 0, .int .i64 0] 50] ([(7, .pointer (some ⟨bq, 0, none⟩))] ++ _) _
    refine Tr.seqJ (ι := Int) (fun er => er = errR t) (fun _ => (Bg.lessB w (blks [cellE bc (cpuC s bM vi vo eff) 47, mapE bm u8V wl, rowE vo 22 encU32 s.out]) 0)) (fun er => [cellE bq [.int .i64 er, .slice pq t.out.length cq, .int .i64 (tr.length : Nat)] 50, rowE (.slice pq t.out.length cq) 22 encU32 t.out, cellE bc (cpuC t bM vi vo1 eff1) 47, mapE bm u8V wl1, rowE vo1 22 encU32 t.out, rowE vt 22 encU32 tr, cellE b1 [.int .i64 0, .slice none 0 0, .int .i64 0] 50]) (fun er => []) ?_ (fun er hi => ?_)
    ·skip
     refine Tr.seq (Tr.region ?_)
     refine Tr.q (QS.move rfl) rfl ?_
     refine Tr.q (QS.nilCheck rfl) rfl ?_
     refine Tr.q (QS.fieldAddr (off := 18) (ft := 24) rfl Try.underlying47 rfl rfl Try.sizeOf24 (by decide)) rfl ?_
     refine Tr.q (QS.loadV rfl (by repeat constructor) Try.isAgg24 (by rfl)) rfl ?_
     refine Tr.q (QS.eql rfl rfl) rfl ?_
     refine Tr.q (QS.move rfl) rfl ?_
     apply Tr.andP
     ·exact (rfl : _ = (6, 58, 64))
     ·exact rfl
     ·intro hT12; have hT12' := hT12
      try simp only [bs] at hT12'
      refine Tr.gq rfl rfl hT12 (QS.move rfl) rfl ?_
      refine Tr.gq rfl rfl hT12 (QS.nilCheck rfl) rfl ?_
      refine Tr.gq rfl rfl hT12 (QS.fieldAddr (off := 17) (ft := 4) rfl Try.underlying47 rfl rfl Try.sizeOf4 (by decide)) rfl ?_
      refine Tr.gq rfl rfl hT12 (QS.loadV rfl (by repeat constructor) Try.isAgg4 (by rfl)) rfl ?_
      refine Tr.gq rfl rfl hT12 (QS.not rfl) rfl ?_
      refine Tr.q (QS.pickT rfl hT12 rfl) rfl ?_
      refine Tr.nil (Tr.thenN ?_)
      exact Tr.endX (Sub.cons rfl (Sub.dropN 6 (by kernel_rfl) rfl))
     ·intro hF12
      refine Tr.gskip rfl rfl hF12 rfl ?_
      refine Tr.gskip rfl rfl hF12 rfl ?_
      refine Tr.gskip rfl rfl hF12 rfl ?_
      refine Tr.gskip rfl rfl hF12 rfl ?_
      refine Tr.gskip rfl rfl hF12 rfl ?_
      refine Tr.q (QS.pickF rfl hF12 rfl) rfl ?_
      refine Tr.nil (Tr.thenN ?_)
      exact Tr.endX (Sub.cons rfl (Sub.dropN 6 (by kernel_rfl) rfl))
     refine Tr.nil (Tr.thenN ?_)
     refine Tr.cond rfl (fun h13 => ?_) (fun h13 => ?_)
     ·try simp only [bs] at h13
      refine Tr.region ?_
      refine Tr.q (QS.fieldAddr (off := 0) (ft := 24) rfl Try.underlying50 rfl rfl Try.sizeOf24 (by decide)) rfl ?_
      refine Tr.storeV (cs' := [_, _, _]) rfl rfl Try.sizeOf24 (by repeat constructor) rfl (by rfl) (by first | exact Nat.le_of_ble_eq_true rfl | simp) (by first | exact List.all_eq_true.1 rfl | (intro u hu; simp [Value.cells] at hu; simp_all [Value.oneCell'])) rfl ?_
      refine Tr.nil (Tr.thenN ?_)
      apply Tr.joined 15
      ·exact rfl
      ·exact Front.nil
      ·exact SubX.dropN 8 (by kernel_rfl) rfl
      ·exact (by repeat' constructor)
      ·exact (by show _ = _; unfold errR; clear hfu; rw [if_pos (by simp_all)])
     ·try simp only [bs] at h13
      refine Tr.skip (Tr.thenN ?_)
      apply Tr.joined t.err
      ·exact rfl
      ·exact Front.nil
      ·exact SubX.dropN 7 (by kernel_rfl) rfl
      ·exact (by repeat' constructor)
      ·exact (by show _ = _; unfold errR; clear hfu; rw [if_neg (fun q => by obtain ⟨q1, q2⟩ := q; simp_all)])
    ·skip
     replace hi : er = errR t := hi
     change Tr _ _ [cellE bq [.int .i64 er, .slice pq t.out.length cq, .int .i64 (tr.length : Nat)] 50, rowE (.slice pq t.out.length cq) 22 encU32 t.out, cellE bc (cpuC t bM vi vo1 eff1) 47, mapE bm u8V wl1, rowE vo1 22 encU32 t.out, rowE vt 22 encU32 tr, cellE b1 [.int .i64 0, .slice none 0 0, .int .i64 0] 50] ([] ++ _) _
     refine Tr.seq ?_
     refine Tr.regionH ([cellE bq [.int .i64 er, .slice pq t.out.length cq, .int .i64 (tr.length : Nat)] 50]) 4 rfl HLF.mixed ?_
     refine Tr.hT 0 rfl (by kernel_rfl) (panicThen panicBody) (QS.move rfl) ?_
     refine Tr.hT 1 rfl (by kernel_rfl) (panicThen panicBody) (QS.lW rfl Try.isAgg50 Try.sizeOf50) ?_
     refine Tr.hT 2 rfl (by kernel_rfl) (panicThen panicBody) (QS.assign rfl) ?_
     refine Tr.hAll [3] (by kernel_rfl) (by simp) (fun iq hq => ?_)
     obtain rfl := List.mem_singleton.1 hq
     refine Tr.hOp rfl ?_
     refine Tr.storeW rfl rfl Try.sizeOf50 (by repeat constructor) (by rfl) (by rfl) (by first | exact List.all_eq_true.1 rfl | exact Enc.one _ _ | (intro u hu; simp [Value.cells] at hu; simp_all [Value.oneCell'])) rfl ?_
     refine Tr.hN ?_
     refine Tr.hDone (by kernel_rfl) ?_
     refine Tr.thenN (Tr.ret ?_)
     refine Tr.retTC Try.results16 rfl rfl (by repeat constructor) Try.isAgg50 Try.sizeOf50 (by rfl) (fun w' hw => ?_)
     obtain ⟨e1, e2⟩ := hfu
     have hrl2 := hR.len
     subst hi
     exact ⟨(wl1, vo1, eff1, vt, .slice pq t.out.length cq), by rw [← e1, ← e2]; try rfl, by rw [← e1, ← e2]; exact hw.upd (Bg.le.refl _) (by repeat' constructor), by rw [← e1, ← e2]; exact ⟨hwl1, by show wl1.length ≤ _; omega, hvo1⟩⟩
set_option maxRecDepth 100000 in
set_option maxHeartbeats 8000000 in
theorem run_cpu (s : St) (bc bM bm : Nat) (VR vi vo eff : Value) (rs : List RegV) (l : List SecV) (wl : WL) (inp : List UInt32) (n : Int) (w : World) (ho : OwnAt w [cellE bc (cpuC s bM vi vo eff) 47, mapE bm u8V wl, rowE vo 22 encU32 s.out]) (hC : CpuAt (Bg.lessB w (blks [cellE bc (cpuC s bM vi vo eff) 47, mapE bm u8V wl, rowE vo 22 encU32 s.out]) 0).blk bM bm VR vi rs inp) (hO : MemOK l rs) (hwl : mread wl = s.w) (hvo : ∃ a n c, vo = .slice a n c) (hol : s.out.length ≤ 4096) :
  Calls Try.prog 17 #[.pointer (some ⟨bc, 0, none⟩), .int .i64 n] w (fun e w' => ∃ j : WL × Value × Value × Value × Value, e = .returned (.agg #[.int .i64 (errR (runS l inp (min n 65536).toNat s)), j.2.2.2.2, .int .i64 ((traceS l inp (min n 65536).toNat s).length : Nat)]) ∧ Upd 0 w w' (blks [cellE bc (cpuC s bM vi vo eff) 47, mapE bm u8V wl, rowE vo 22 encU32 s.out]) [cellE bc (cpuC (runS l inp (min n 65536).toNat s) bM vi j.2.1 j.2.2.1) 47, mapE bm u8V j.1, rowE j.2.1 22 encU32 (runS l inp (min n 65536).toNat s).out, rowE j.2.2.2.2 22 encU32 (runS l inp (min n 65536).toNat s).out] ∧ (mread j.1 = (runS l inp (min n 65536).toNat s).w ∧ j.1.length ≤ wl.length + 4 * (traceS l inp (min n 65536).toNat s).length ∧ ∃ a n c, j.2.1 = .slice a n c)) := by
 refine enterB (L := [cellE bc (cpuC s bM vi vo eff) 47, mapE bm u8V wl, rowE vo 22 encU32 s.out]) ho rfl (Nat.zero_le _) Try.func17 rfl Try.ntmps17 rfl ?_
 refine Tr.seq (Tr.region ?_)
 refine Tr.alloc Try.zeroValue50 rfl rfl (fun b1 => ?_)
 refine Tr.nil (Tr.thenN (Tr.seq (Tr.region ?_)))
 refine Tr.q (QS.move rfl) rfl ?_
 refine Tr.q (QS.move rfl) rfl ?_
 refine Tr.callO (fun j : WL × Value × Value × Value × Value => .tuple #[j.2.2.2.1, .agg #[.int .i64 (errR (runS l inp (min n 65536).toNat s)), j.2.2.2.2, .int .i64 ((traceS l inp (min n 65536).toNat s).length : Nat)]]) [cellE bc (cpuC s bM vi vo eff) 47, mapE bm u8V wl, rowE vo 22 encU32 s.out] (fun j => [cellE bc (cpuC (runS l inp (min n 65536).toNat s) bM vi j.2.1 j.2.2.1) 47, mapE bm u8V j.1, rowE j.2.1 22 encU32 (runS l inp (min n 65536).toNat s).out, rowE j.2.2.2.1 22 encU32 (traceS l inp (min n 65536).toNat s), rowE j.2.2.2.2 22 encU32 (runS l inp (min n 65536).toNat s).out]) (ok := fun j => mread j.1 = (runS l inp (min n 65536).toNat s).w ∧ j.1.length ≤ wl.length + 4 * (traceS l inp (min n 65536).toNat s).length ∧ ∃ a n c, j.2.1 = .slice a n c) (dd := fun _ => 0) rfl Try.call16 (by repeat' (first | exact Split.nil _ | exact Del.here _ | apply Split.cons | apply Del.there)) (fun w hw => Nat.le_refl _) (fun w hw => trace_cpu s bc bM bm VR vi vo eff rs l wl inp n w (hw.own (by repeat' (first | exact Split.nil _ | exact Del.here _ | apply Split.cons | apply Del.there))) (hC.mono (hw.lessB (Lo := [cellE bc (cpuC s bM vi vo eff) 47, mapE bm u8V wl, rowE vo 22 encU32 s.out]) (by repeat' (first | exact Split.nil _ | exact Del.here _ | apply Split.cons | apply Del.there)))) hO hwl hvo hol) rfl (fun j hj => ?_)
 obtain ⟨wl1, vo1, eff1, vt, vq⟩ := j
 change Tr _ _ (cellE bc (cpuC (runS l inp (min n 65536).toNat s) bM vi vo1 eff1) 47 :: mapE bm u8V wl1 :: rowE vo1 22 encU32 (runS l inp (min n 65536).toNat s).out :: rowE vt 22 encU32 (traceS l inp (min n 65536).toNat s) :: rowE vq 22 encU32 (runS l inp (min n 65536).toNat s).out :: _) _ _
 refine Tr.rowShape (V := vq) (by repeat constructor) (fun pq cq hpv => ?_)
 subst hpv
 refine Tr.q (QS.move rfl) rfl ?_
 refine Tr.q (QS.extract rfl rfl) rfl ?_
 refine Tr.q (QS.extract rfl rfl) rfl ?_
 refine Tr.alloc Try.zeroValue50 rfl rfl (fun b2 => ?_)
 refine Tr.q (QS.assign rfl) rfl ?_
 refine Tr.storeW rfl rfl Try.sizeOf50 (by repeat constructor) (by rfl) (by rfl) (by first | exact List.all_eq_true.1 rfl | exact Enc.one _ _ | (intro u hu; simp [Value.cells] at hu; simp_all [Value.oneCell'])) rfl ?_
 refine Tr.nil (Tr.thenN (Tr.seq (Tr.region ?_)))
 refine Tr.q (QS.lW rfl Try.isAgg50 Try.sizeOf50) rfl ?_
 refine Tr.storeW rfl rfl Try.sizeOf50 (by repeat constructor) (by rfl) (by rfl) (by first | exact List.all_eq_true.1 rfl | exact Enc.one _ _ | (intro u hu; simp [Value.cells] at hu; simp_all [Value.oneCell'])) rfl ?_
 refine Tr.nil (Tr.thenN (Tr.ret ?_))
 refine Tr.retC1 Try.results17 rfl (by repeat constructor) Try.isAgg50 Try.sizeOf50 (by rfl) (fun w' hw => ?_)
 exact ⟨(wl1, vo1, eff1, vt, .slice pq (runS l inp (min n 65536).toNat s).out.length cq), rfl, hw.upd (Bg.le.refl _) (by repeat' constructor), hj⟩
set_option maxRecDepth 100000 in
set_option maxHeartbeats 2000000 in
theorem state_cpu (s : St) (bc bM : Nat) (vi vo eff : Value) (w : World) (hc : CellsIn (hp w) bc (cpuC s bM vi vo eff)) :
  Calls Try.prog 13 #[.pointer (some ⟨bc, 0, none⟩)] w (fun e w' => e = .returned (.agg (encMach.enc s.m).toArray) ∧ Ext w w') := by
 have hc' : CellsIn (Bg.of w).blk bc (cpuC s bM vi vo eff) := hc
 have hcp : CellsIn (Bg.of w).blk bc (encMach.enc s.m) := hc'.prefix_
 refine enter Try.func13 rfl Try.ntmps13 rfl ?_
 refine Tr.seq (Tr.region ?_)
 refine Tr.alloc Try.zeroValue42 rfl rfl (fun b1 => ?_)
 refine Tr.nil (Tr.thenN (Tr.seq (Tr.seq (Tr.region ?_))))
 refine Tr.q (QS.move rfl) rfl ?_
 refine Tr.q (QS.call rfl Try.call37 (fun w hw => cmade_any s bc bM vi vo eff w (hc'.mono hw.bg))) rfl ?_
 refine Tr.q (QS.not rfl) rfl ?_
 refine Tr.nil (Tr.thenN ?_)
 refine Tr.cond rfl (fun h2 => ?_) (fun h2 => ?_)
 ·try simp only [bs] at h2
  first | contradiction | (exfalso; omega) | simp_all
 ·try simp only [bs] at h2
  refine Tr.skip (Tr.thenN (Tr.seq (Tr.region ?_)))
  refine Tr.q (QS.move rfl) rfl ?_
  refine Tr.q (QS.nilCheck rfl) rfl ?_
  refine Tr.q (QS.fieldAddr (off := 0) (ft := 42) rfl Try.underlying47 rfl rfl Try.sizeOf42 (by decide)) rfl ?_
  refine Tr.q (QS.loadCA rfl hcp Try.isAgg42 Try.sizeOf42 rfl) rfl ?_
  refine Tr.storeW rfl rfl Try.sizeOf42 (by repeat constructor) (by rfl) (by rfl) (by first | exact List.all_eq_true.1 rfl | exact Enc.one _ _ | exact Enc.one encMach _) rfl ?_
  refine Tr.nil (Tr.thenN (Tr.ret ?_))
  refine Tr.retC1 Try.results13 rfl (by repeat constructor) Try.isAgg42 Try.sizeOf42 (by rfl) (fun w' hw => ?_)
  exact ⟨rfl, hw.below (Bg.le.refl _)⟩
set_option maxRecDepth 100000 in
set_option maxHeartbeats 2000000 in
theorem halted_cpu (s : St) (bc bM : Nat) (vi vo eff : Value) (w : World) (hc : CellsIn (hp w) bc (cpuC s bM vi vo eff)) :
  Calls Try.prog 20 #[.pointer (some ⟨bc, 0, none⟩)] w (fun e w' => e = .returned (.bool s.done) ∧ Ext w w') := by
 have hc' : CellsIn (Bg.of w).blk bc (cpuC s bM vi vo eff) := hc
 refine enter Try.func20 rfl Try.ntmps20 rfl ?_
 refine Tr.seq (Tr.region ?_)
 refine Tr.q (QS.assign rfl) rfl ?_
 refine Tr.nil (Tr.thenN (Tr.seq (Tr.region ?_)))
 refine Tr.q (QS.move rfl) rfl ?_
 refine Tr.q (QS.call rfl Try.call37 (fun w hw => cmade_any s bc bM vi vo eff w (hc'.mono hw.bg))) rfl ?_
 refine Tr.q (QS.move rfl) rfl ?_
 apply Tr.andP
 ·exact (rfl : _ = (5, 5, 10))
 ·exact rfl
 ·intro hT1; have hT1' := hT1
  try simp only [bs] at hT1'
  refine Tr.gq rfl rfl hT1 (QS.move rfl) rfl ?_
  refine Tr.gq rfl rfl hT1 (QS.nilCheck rfl) rfl ?_
  refine Tr.gq rfl rfl hT1 (QS.fieldAddr (off := 17) (ft := 4) rfl Try.underlying47 rfl rfl Try.sizeOf4 (by decide)) rfl ?_
  refine Tr.gq rfl rfl hT1 (QS.loadCF rfl (by assumption) Try.isAgg4 (by rfl)) rfl ?_
  refine Tr.q (QS.pickT rfl hT1 rfl) rfl ?_
  refine Tr.nil (Tr.thenN ?_)
  exact Tr.endX (Sub.cons rfl (Sub.dropN 5 (by kernel_rfl) rfl))
 ·intro hF1
  refine Tr.gskip rfl rfl hF1 rfl ?_
  refine Tr.gskip rfl rfl hF1 rfl ?_
  refine Tr.gskip rfl rfl hF1 rfl ?_
  refine Tr.gskip rfl rfl hF1 rfl ?_
  refine Tr.q (QS.pickF rfl hF1 rfl) rfl ?_
  refine Tr.nil (Tr.thenN ?_)
  exact Tr.endX (Sub.cons rfl (Sub.dropN 5 (by kernel_rfl) rfl))
 refine Tr.q (QS.assign rfl) rfl ?_
 refine Tr.nil (Tr.thenN (Tr.ret ?_))
 refine Tr.ret1 Try.results20 rfl (fun w' hw => ?_)
 exact ⟨by simp, hw.below (Bg.le.refl _)⟩
set_option maxRecDepth 100000 in
set_option maxHeartbeats 2000000 in
theorem start_cpu (p : UInt32) (w : World) :
  Calls Try.prog 15 #[.int .u32 p.toNat] w (fun e w' => e = .returned (.agg (encMach.enc (startM p)).toArray) ∧ Ext w w') := by
 refine enter Try.func15 rfl Try.ntmps15 rfl ?_
 refine Tr.seq (Tr.region ?_)
 refine Tr.alloc Try.zeroValue42 rfl rfl (fun b1 => ?_)
 refine Tr.nil (Tr.thenN (Tr.seq (Tr.region ?_)))
 refine Tr.alloc Try.zeroValue42 rfl rfl (fun b2 => ?_)
 refine Tr.nil (Tr.thenN (Tr.seq (Tr.region ?_)))
 refine Tr.q (QS.fieldAddr (off := 0) (ft := 38) rfl Try.underlying42 rfl rfl Try.sizeOf38 (by decide)) rfl ?_
 refine Tr.q (QS.idxArr rfl rfl Try.underlying38 Try.sizeOf22 (by omega)) rfl ?_
 refine Tr.storeV (cs' := [_, _, _, _, _, _, _, _, _, _, _, _, _]) rfl rfl Try.sizeOf22 (by repeat constructor) rfl (by rfl) (by first | exact Nat.le_of_ble_eq_true rfl | simp) (by first | exact List.all_eq_true.1 rfl | (intro u hu; simp [Value.cells] at hu; simp_all [Value.oneCell'])) rfl ?_
 refine Tr.nil (Tr.thenN (Tr.seq (Tr.region ?_)))
 refine Tr.q (QS.move rfl) rfl ?_
 refine Tr.q (QS.fieldAddr (off := 8) (ft := 22) rfl Try.underlying42 rfl rfl Try.sizeOf22 (by decide)) rfl ?_
 refine Tr.storeV (cs' := [_, _, _, _, _, _, _, _, _, _, _, _, _]) rfl rfl Try.sizeOf22 (by repeat constructor) rfl (by rfl) (by first | exact Nat.le_of_ble_eq_true rfl | simp) (by first | exact List.all_eq_true.1 rfl | (intro u hu; simp [Value.cells] at hu; simp_all [Value.oneCell'])) rfl ?_
 refine Tr.nil (Tr.thenN (Tr.seq (Tr.region ?_)))
 refine Tr.q (QS.lW rfl Try.isAgg42 Try.sizeOf42) rfl ?_
 refine Tr.storeW rfl rfl Try.sizeOf42 (by repeat constructor) (by rfl) (by rfl) (by first | exact List.all_eq_true.1 rfl | exact Enc.one _ _ | exact Enc.one encMach _) rfl ?_
 refine Tr.nil (Tr.thenN (Tr.ret ?_))
 refine Tr.retC1 Try.results15 rfl (by repeat constructor) Try.isAgg42 Try.sizeOf42 (by rfl) (fun w' hw => ?_)
 exact ⟨rfl, hw.below (Bg.le.refl _)⟩
end Go.Proofs.Ytpeaodkfbjenpaa
namespace Go.HL
open Go Go.RowKit
def codeF (b : List UInt8) (x : Ins) : List UInt8 := b ++ encodeP { x with addr := 4096 + u32 (b.length : Int) }
def codeP (is : List Ins) : List UInt8 := is.foldl codeF []
theorem code_step {is : List Ins} {k : Nat} (h : k < is.length) : codeP (is.take k) ++ encodeP { is.getD k default with addr := 4096 + u32 ((codeP (is.take k)).length : Int) } = codeP (is.take (k + 1)) := by
  rw [take_succ h]; unfold codeP; rw [List.foldl_append]; rfl
theorem enc_len (i : Ins) : (encodeP i).length ≤ 6 := by
  unfold encodeP
  split
  · unfold argsP
    repeat' split
    all_goals simp [putP, putF, widthOK]
  · exact Nat.zero_le _
theorem code_len (is : List Ins) : ∀ k, (codeP (is.take k)).length ≤ 6 * k
  | 0 => by simp [codeP]
  | k + 1 => by
    have ih := code_len is k
    by_cases h : k < is.length
    · rw [← code_step h, List.length_append]
      have := enc_len { is.getD k default with addr := 4096 + u32 ((codeP (is.take k)).length : Int) }
      omega
    · rw [List.take_of_length_le (by omega)]
      rw [List.take_of_length_le (by omega)] at ih
      omega
def codeS (b : List UInt8) (dp : Option Addr) (dc : Nat) : SecV := ⟨⟨#[99, 111, 100, 101]⟩, 4096, b, dp, dc, false, true⟩
def exC (b : List UInt8) (dp : Option Addr) (dc : Nat) : SecV := ⟨⟨#[99]⟩, 4096, b, dp, dc, false, true⟩
def exB1 : List UInt8 := [48, 0, 5, 161, 0, 1]
theorem ex_chk1 (dp : Option Addr) (dc : Nat) : checkS [exC exB1 dp dc] = 0 := by kernel_rfl
theorem ex_chk2 (dp : Option Addr) (dc : Nat) : checkS [exC [2] dp dc] = 0 := by kernel_rfl
theorem ex_run1 (dp : Option Addr) (dc : Nat) : (let t := runS [exC exB1 dp dc] [] 2 (newS 4096); decide (t.err = 0) && !t.done && decide (t.out = [5]) && decide ((traceS [exC exB1 dp dc] [] 2 (newS 4096)).length = 2)) = true := by kernel_rfl
theorem ex_run2 (dp : Option Addr) (dc : Nat) : (let t := runS [exC exB1 dp dc] [] 1 (runS [exC exB1 dp dc] [] 2 (newS 4096)); decide (t.err = 0) && t.done && decide ((traceS [exC exB1 dp dc] [] 1 (runS [exC exB1 dp dc] [] 2 (newS 4096))).length = 1)) = true := by kernel_rfl
theorem ex_run3 (dp : Option Addr) (dc : Nat) : (let t := runS [exC [2] dp dc] [] 9 (newS 4096); decide (t.err = 0) && t.done && decide (t.out = []) && decide (t.m.pc = 4294967295) && decide (t.m.r7 = 983040) && decide ((traceS [exC [2] dp dc] [] 9 (newS 4096)).length = 1)) = true := by kernel_rfl
theorem min2 : (min (2 : Int) 65536).toNat = 2 := by decide
theorem min1 : (min (1 : Int) 65536).toNat = 1 := by decide
theorem min9 : (min (9 : Int) 65536).toNat = 9 := by decide
theorem errR_done {t : St} (h : t.done = true) : errR t = t.err := by
  unfold errR
  rw [if_neg (fun q => by rw [h] at q; cases q.2)]
theorem errR_go {t : St} (h : t.err = 0) (h2 : t.done = false) : errR t = 15 := by
  unfold errR
  rw [if_pos ⟨h, h2⟩]
theorem ex_c1 {dp : Option Addr} {dc n : Nat} {t : St} (h : t = runS [exC exB1 dp dc] [] (min (2 : Int) 65536).toNat (newS 4096)) (hn : n = (traceS [exC exB1 dp dc] [] (min (2 : Int) 65536).toNat (newS 4096)).length) : errR t = 15 ∧ t.out = [5] ∧ n = 2 := by
  have q := ex_run1 dp dc
  rw [min2] at h hn
  simp only [Bool.and_eq_true, decide_eq_true_eq, Bool.not_eq_true'] at q
  rw [← h, ← hn] at q
  exact ⟨errR_go q.1.1.1 q.1.1.2, q.1.2, q.2⟩
theorem ex_c2 {dp : Option Addr} {dc n : Nat} {t t1 : St} (h1 : t1 = runS [exC exB1 dp dc] [] (min (2 : Int) 65536).toNat (newS 4096)) (h : t = runS [exC exB1 dp dc] [] (min (1 : Int) 65536).toNat t1) (hn : n = (traceS [exC exB1 dp dc] [] (min (1 : Int) 65536).toNat t1).length) : errR t = 0 ∧ t.done = true ∧ n = 1 := by
  have q := ex_run2 dp dc
  rw [min2] at h1
  rw [min1] at h hn
  simp only [Bool.and_eq_true, decide_eq_true_eq] at q
  rw [← h1, ← h, ← hn] at q
  exact ⟨(errR_done q.1.2).trans q.1.1, q.1.2, q.2⟩
theorem ex_d {dp : Option Addr} {dc n : Nat} {t : St} (h : t = runS [exC [2] dp dc] [] (min (9 : Int) 65536).toNat (newS 4096)) (hn : n = (traceS [exC [2] dp dc] [] (min (9 : Int) 65536).toNat (newS 4096)).length) : errR t = 0 ∧ n = 1 ∧ t.m.pc = 4294967295 ∧ t.m.r7 = 983040 := by
  have q := ex_run3 dp dc
  rw [min9] at h hn
  simp only [Bool.and_eq_true, decide_eq_true_eq] at q
  rw [← h, ← hn] at q
  exact ⟨(errR_done q.1.1.1.1.2).trans q.1.1.1.1.1, q.2, q.1.1.2, q.1.2⟩
theorem del_mid {e : Ent} (B L : List Ent) : ∀ A : List Ent, Del e (A ++ (e :: B) ++ L) (A ++ B ++ L)
  | [] => .here _
  | a :: A => .there _ (del_mid B L A)
theorem split_mid (L : List Ent) (A : List Ent) : ∀ B : List Ent, Split (A ++ B ++ L) B (A ++ L)
  | [] => by rw [List.append_nil]; exact .nil _
  | b :: B => .cons (del_mid B L A) (split_mid L A B)
section
variable {P : Program} {ops : Array Oper} {Q : Exit → Act → World → Prop} {N : Nat} {F : Bg} {L : List Ent} {M : Fr} {ty : TypeId} {pos : String} {after : Array Edge} {rest : List Oper} {d : Nat}
/-- A call that hands back new blocks; those of B are only read from then on. -/
theorem Tr.callMix0 {ι : Type} (φ : ι → Value) (A B : ι → List Ent) {ok : ι → Prop} {f : FuncId} {xs : List Operand} {vs : List Value} {ts : Array TypeId} (h0 : F.dr = 0) (hx : opvs M xs = some vs)
    (he : ∀ (args : Array Value) (w : World), (callFunc f args).run P w = .ok (.enter f args) w)
    (hc : ∀ w, HpOK F L w → Calls P f vs.toArray w fun e w' => ∃ i, e = .returned (φ i) ∧ Below w.heap.size w w' ∧ NewEnts w w' (A i ++ B i) ∧ ok i) (hd : Nat.ble (d + 1) N = true)
    (K : ∀ i F', ok i → F.le F' → (∀ e ∈ B i, e.ok (e.blk.bind F'.blk)) → Tr N F' (A i ++ L) ((d, φ i) :: M) (wpList P ops Q rest)) :
    Tr N F L M (wpList P ops Q (⟨some d, .call { callee := .value (.func f), args := xs.toArray, argTypes := ts }, ty, pos, after, none⟩ :: rest)) := by
  refine Tr.callEnts0 φ (fun i => A i ++ B i) (ok := ok) h0 hx he hc hd (fun i hi => ?_)
  exact Tr.frozenL (split_mid L (A i) (B i)) (fun F' hF' hk => K i F' hi hF' hk)
end
theorem memAt_own {F : Bg} {L : List Ent} {w : World} {bM bm : Nat} {VR : Value} {T T2 U : TypeId} {rs : List RegV} (h : HpOK F L w) (h1 : cellE bM [VR, .map (some bm)] T ∈ L) (h2 : rowE VR T2 encReg rs ∈ L) (h3 : ∀ e ∈ regEnts U rs, e ∈ L) : MemAt (hp w) bM bm VR rs :=
  ⟨cellE.cellsIn (h.ent _ h1) (Ext.refl _), h.row h2, fun r hr => rowE.sl (h.ent _ (h3 _ (regEnts_mem hr)))⟩
/-- What a processor has to be read, once its parts are only read. -/
theorem cpuAt_of {h : Hp} {bM bm : Nat} {VR vi : Value} {T T2 U U8 : TypeId} {rs : List RegV} {inp : List UInt32} (k : ∀ e ∈ (cellE bM [VR, .map (some bm)] T :: rowE VR T2 encReg rs :: rowE vi U encU32 inp :: regEnts U8 rs), e.ok (e.blk.bind h)) : CpuAt h bM bm VR vi rs inp :=
  ⟨memAt_of k (.head _) (.tail _ (.head _)) (fun e he => .tail _ (.tail _ (.tail _ he))), RowOK.sl (k _ (.tail _ (.tail _ (.head _))))⟩
end Go.HL
namespace Go.Proofs.Ytpeaodkfbjenpaa
open Go Go.HL Go.RowKit
theorem mnew_ok (l : List SecV) (V : Value) (w : World) (hV : Sl (hp w) encSec l V) (hB : SecB l) (hN : ∀ s ∈ l, s.name.size ≤ 140737488351232) (hD : DataIn (hp w) l) (h : checkS l = 0) : Calls Try.prog 9 #[V] w (fun e w' => ∃ j : Nat × Nat × Value × List RegV, e = .returned (.tuple #[.pointer (some ⟨j.1, 0, none⟩), .int .i64 0]) ∧ Ext w w' ∧ NewEnts w w' (cellE j.1 [j.2.2.1, .map (some j.2.1)] 33 :: mapE j.2.1 u8V [] :: rowE j.2.2.1 86 encReg j.2.2.2 :: regEnts 5 j.2.2.2) ∧ MemOK l j.2.2.2) := by
 refine (mnew_any l V w hV hB hN hD).mono fun e w' ⟨i, h1, h2, h3, h4⟩ => ?_
 rcases i with _ | j
 ·exact absurd h h4
 ·rw [h] at h1
  exact ⟨j, h1, h2, h3, h4⟩
set_option maxRecDepth 100000 in
set_option maxHeartbeats 8000000 in
theorem newc_any (bM0 bm0 : Nat) (VR0 vi0 : Value) (rs : List RegV) (l : List SecV) (wl : WL) (p : UInt32) (inp : List UInt32) (w : World) (hM : MemAt (hp w) bM0 bm0 VR0 rs) (hW : MapIn (hp w) bm0 u8V wl) (hO : MemOK l rs) (hwl : mread wl = fun _ => none) (hin : Sl (hp w) encU32 inp vi0) (hil : inp.length ≤ 4096) :
  Calls Try.prog 10 #[.pointer (some ⟨bM0, 0, none⟩), .int .u32 p.toNat, vi0] w (fun e w' => ∃ j : Nat × Nat × Nat × Value × Value × WL, e = .returned (.tuple #[.pointer (some ⟨j.1, 0, none⟩), .int .i64 0]) ∧ Below w.heap.size w w' ∧ NewEnts w w' [cellE j.1 (cpuC (newS p) j.2.1 j.2.2.2.2.1 (.slice none 0 0) .nilFunc) 47, mapE j.2.2.1 u8V j.2.2.2.2.2, rowE (.slice none 0 0) 22 encU32 [], cellE j.2.1 [j.2.2.2.1, .map (some j.2.2.1)] 33, rowE j.2.2.2.1 86 encReg rs, rowE j.2.2.2.2.1 22 encU32 inp] ∧ (mread j.2.2.2.2.2 = (newS p).w ∧ j.2.2.2.2.2.length ≤ wl.length + 4)) := by
 have hM' : MemAt (Bg.of0 w).blk bM0 bm0 VR0 rs := hM
 have hW' : MapIn (Bg.of0 w).blk bm0 u8V wl := hW
 have hin' : Sl (Bg.of0 w).blk encU32 inp vi0 := hin
 have hrl := hO.bounds.1
 refine enter0 Try.func10 rfl Try.ntmps10 rfl ?_
 refine Tr.seq (Tr.region ?_)
 refine Tr.q (QS.assign rfl) rfl ?_
 refine Tr.q (QS.assign rfl) rfl ?_
 refine Tr.nil (Tr.thenN (Tr.seq (Tr.region ?_)))
 refine Tr.q (QS.move rfl) rfl ?_
 refine Tr.callEnts (fun i : Nat × Nat × Value => .pointer (some ⟨i.1, 0, none⟩)) (fun i => [cellE i.1 [i.2.2, .map (some i.2.1)] 33, mapE i.2.1 u8V wl, rowE i.2.2 86 encReg rs]) (ok := fun _ => True) rfl Try.call34 (fun w hw => mclo_any bM0 bm0 VR0 rs wl w (hM'.mono hw.bg) (hW'.mono hw.bg) (by omega)) rfl (fun i _ => ?_)
 refine Tr.q (QS.assign rfl) rfl ?_
 refine Tr.nil (Tr.thenN (Tr.seq (Tr.seq (Tr.region ?_))))
 refine Tr.q (QS.move rfl) rfl ?_
 refine Tr.q (QS.eqlPN rfl rfl Try.underlying23 rfl) rfl ?_
 refine Tr.nil (Tr.thenN ?_)
 refine Tr.cond rfl (fun h1 => ?_) (fun h1 => ?_)
 ·try simp only [bs] at h1
  first | contradiction | (exfalso; omega) | simp_all
 ·try simp only [bs] at h1
  refine Tr.skip (Tr.thenN (Tr.seq (Tr.seq (Tr.region ?_))))
  refine Tr.q (QS.move rfl) rfl ?_
  refine Tr.q (QS.len rfl (by assumption) Try.underlying34) rfl ?_
  refine Tr.q (QS.gtr rfl rfl) rfl ?_
  refine Tr.nil (Tr.thenN ?_)
  refine Tr.cond rfl (fun h2 => ?_) (fun h2 => ?_)
  ·try simp only [bs] at h2
   first | contradiction | (exfalso; omega) | simp_all
  ·try simp only [bs] at h2
   refine Tr.skip (Tr.thenN (Tr.seq (Tr.seq (Tr.region ?_))))
   refine Tr.q (QS.move rfl) rfl ?_
   refine Tr.callO (fun _ : WL => .int .i64 0) [mapE i.2.1 u8V wl] (fun wl' => [mapE i.2.1 u8V wl']) (ok := fun wl' => mread wl' = (newS p).w ∧ wl'.length ≤ wl.length + 4) (dd := fun _ => 0) rfl Try.call35 (by repeat' (first | exact Split.nil _ | exact Del.here _ | apply Split.cons | apply Del.there)) (fun w hw => Nat.le_of_eq rfl) (fun w hw => by have q := mstore_any i.1 i.2.1 i.2.2 rs l 983036 4 4294967295 wl w (hw.own (by repeat' (first | exact Split.nil _ | exact Del.here _ | apply Split.cons | apply Del.there))) (memAt_less hw (by repeat' (first | exact Split.nil _ | exact Del.here _ | apply Split.cons | apply Del.there)) (by repeat constructor) (by repeat constructor) hM'.data) hO; rw [stk_store, hwl] at q; exact q) rfl (fun wl2 hw2 => ?_)
   refine Tr.q (QS.assign rfl) rfl ?_
   refine Tr.nil (Tr.thenN (Tr.seq (Tr.region ?_)))
   refine Tr.q (QS.move rfl) rfl ?_
   refine Tr.q (QS.neq rfl rfl) rfl ?_
   refine Tr.nil (Tr.thenN ?_)
   refine Tr.cond rfl (fun h3 => ?_) (fun h3 => ?_)
   ·try simp only [bs] at h3
    first | contradiction | (exfalso; omega) | simp_all
   ·try simp only [bs] at h3
    refine Tr.skip (Tr.thenN (Tr.seq ?_))
    refine Tr.ownNil 22 encU32 ?_
    refine Tr.region ?_
    refine Tr.q (QS.move rfl) rfl ?_
    refine Tr.q (QS.call rfl Try.call15 (fun w hw => start_cpu p w)) rfl ?_
    refine Tr.q (QS.move rfl) rfl ?_
    refine Tr.q (QS.move rfl) rfl ?_
    refine Tr.callRow rfl Try.call36 (fun w hw => clone_u32 inp vi0 w (hw.slF hin') (by omega)) rfl (fun V46 => ?_)
    refine Tr.rowShape (V := V46) (by repeat constructor) (fun pi ci hpv => ?_)
    subst hpv
    refine Tr.q (QS.build (vs := [(0, _), (1, _), (2, _)]) (cs := (cpuC (newS p) i.1 (.slice pi inp.length ci) (.slice none 0 0) .nilFunc).toArray) rfl rfl (by kernel_rfl)) rfl ?_
    refine Tr.box (cs := (cpuC (newS p) i.1 (.slice pi inp.length ci) (.slice none 0 0) .nilFunc)) rfl rfl rfl (fun b47 => ?_)
    refine Tr.q (QS.assign rfl) rfl ?_
    refine Tr.q (QS.assign rfl) rfl ?_
    refine Tr.nil (Tr.thenN (Tr.ret ?_))
    refine Tr.ret2 Try.results10 rfl rfl (fun w' hw => ?_)
    exact ⟨(b47, i.1, i.2.1, i.2.2, .slice pi inp.length ci, wl2), rfl, hw.below0 (Bg.le.refl _), hw.ents0 rfl (by repeat' constructor), hw2⟩
set_option maxRecDepth 100000 in
set_option maxHeartbeats 8000000 in
theorem boot_ok (l : List SecV) (V : Value) (p : UInt32) (inp : List UInt32) (vi0 : Value) (w : World) (hV : Sl (hp w) encSec l V) (hB : SecB l) (hN : ∀ s ∈ l, s.name.size ≤ 140737488351232) (hD : DataIn (hp w) l) (hin : Sl (hp w) encU32 inp vi0) (hil : inp.length ≤ 4096) (h : checkS l = 0) :
  Calls Try.prog 26 #[V, .int .u32 p.toNat, vi0] w (fun e w' => ∃ j : Nat × Nat × Nat × Value × Value × WL × List RegV, e = .returned (.pointer (some ⟨j.1, 0, none⟩)) ∧ Below w.heap.size w w' ∧ NewEnts w w' ([cellE j.1 (cpuC (newS p) j.2.1 j.2.2.2.2.1 (.slice none 0 0) .nilFunc) 47, mapE j.2.2.1 u8V j.2.2.2.2.2.1, rowE (.slice none 0 0) 22 encU32 []] ++ (cellE j.2.1 [j.2.2.2.1, .map (some j.2.2.1)] 33 :: rowE j.2.2.2.1 86 encReg j.2.2.2.2.2.2 :: rowE j.2.2.2.2.1 22 encU32 inp :: regEnts 5 j.2.2.2.2.2.2)) ∧ (mread j.2.2.2.2.2.1 = (newS p).w ∧ j.2.2.2.2.2.1.length ≤ 4) ∧ MemOK l j.2.2.2.2.2.2) := by
 have hV' : Sl (Bg.of0 w).blk encSec l V := hV
 have hD' : DataIn (Bg.of0 w).blk l := hD
 have hin' : Sl (Bg.of0 w).blk encU32 inp vi0 := hin
 refine enter0 Try.func26 rfl Try.ntmps26 rfl ?_
 refine Tr.seq (Tr.region ?_)
 refine Tr.q (QS.assign rfl) rfl ?_
 refine Tr.nil (Tr.thenN (Tr.seq (Tr.region ?_)))
 refine Tr.q (QS.move rfl) rfl ?_
 refine Tr.callEnts (fun j : Nat × Nat × Value × List RegV => .tuple #[.pointer (some ⟨j.1, 0, none⟩), .int .i64 0]) (fun j => (cellE j.1 [j.2.2.1, .map (some j.2.1)] 33 :: mapE j.2.1 u8V [] :: rowE j.2.2.1 86 encReg j.2.2.2 :: regEnts 5 j.2.2.2)) (ok := fun j => MemOK l j.2.2.2) rfl Try.call9 (fun w hw => mnew_ok l V w (hw.slF hV') hB hN (hD'.mono hw.bg) h) rfl (fun i hO => ?_)
 obtain ⟨bM0, bm0, VR0, rs⟩ := i
 rw [List.append_nil]
 refine Tr.q (QS.move rfl) rfl ?_
 refine Tr.q (QS.extract rfl rfl) rfl ?_
 refine Tr.q (QS.extract rfl rfl) rfl ?_
 refine Tr.q (QS.assign rfl) rfl ?_
 refine Tr.q (QS.assign rfl) rfl ?_
 refine Tr.nil (Tr.thenN (Tr.seq (Tr.seq (Tr.region ?_))))
 refine Tr.q (QS.move rfl) rfl ?_
 refine Tr.q (QS.neq rfl rfl) rfl ?_
 refine Tr.q (QS.move rfl) rfl ?_
 apply Tr.orP
 ·exact (rfl : _ = (3, 17, 20))
 ·exact rfl
 ·intro hF1; have hF1' := hF1
  try simp only [bs] at hF1'
  refine Tr.gq rfl rfl hF1 (QS.move rfl) rfl ?_
  refine Tr.gq rfl rfl hF1 (QS.eqlPN rfl rfl Try.underlying23 rfl) rfl ?_
  refine Tr.q (QS.pickF rfl hF1 rfl) rfl ?_
  refine Tr.nil (Tr.thenN ?_)
  exact Tr.endX (hL := Pick.refl _) (Sub.cons rfl (Sub.dropN 3 (by kernel_rfl) rfl))
 ·intro hT1
  refine Tr.gskip rfl rfl hT1 rfl ?_
  refine Tr.gskip rfl rfl hT1 rfl ?_
  refine Tr.q (QS.pickT rfl hT1 rfl) rfl ?_
  refine Tr.nil (Tr.thenN ?_)
  exact Tr.endX (hL := Pick.refl _) (Sub.cons rfl (Sub.dropN 3 (by kernel_rfl) rfl))
 refine Tr.nil (Tr.thenN ?_)
 refine Tr.cond rfl (fun h2 => ?_) (fun h2 => ?_)
 ·try simp only [bs] at h2
  first | contradiction | (exfalso; omega) | simp_all
 ·try simp only [bs] at h2
  refine Tr.skip (Tr.thenN (Tr.seq (Tr.region ?_)))
  refine Tr.q (QS.move rfl) rfl ?_
  refine Tr.q (QS.move rfl) rfl ?_
  refine Tr.q (QS.move rfl) rfl ?_
  refine Tr.callEnts0 (fun j : Nat × Nat × Nat × Value × Value × WL => .tuple #[.pointer (some ⟨j.1, 0, none⟩), .int .i64 0]) (fun j => [cellE j.1 (cpuC (newS p) j.2.1 j.2.2.2.2.1 (.slice none 0 0) .nilFunc) 47, mapE j.2.2.1 u8V j.2.2.2.2.2, rowE (.slice none 0 0) 22 encU32 [], cellE j.2.1 [j.2.2.2.1, .map (some j.2.2.1)] 33, rowE j.2.2.2.1 86 encReg rs, rowE j.2.2.2.2.1 22 encU32 inp]) (ok := fun j => mread j.2.2.2.2.2 = (newS p).w ∧ j.2.2.2.2.2.length ≤ ([] : WL).length + 4) rfl rfl Try.call10 (fun w hw => newc_any bM0 bm0 VR0 vi0 rs l [] p inp w (memAt_own (T := 33) (T2 := 86) (U := 5) hw (by repeat constructor) (by repeat constructor) (fun e he => .tail _ (.tail _ (.tail _ he)))) (mapE.in_ (hw.ent _ (by repeat constructor))) hO rfl (hw.slF hin') hil) rfl (fun j hj => ?_)
  refine Tr.q (QS.move rfl) rfl ?_
  refine Tr.q (QS.extract rfl rfl) rfl ?_
  refine Tr.q (QS.extract rfl rfl) rfl ?_
  refine Tr.q (QS.assign rfl) rfl ?_
  refine Tr.q (QS.assign rfl) rfl ?_
  refine Tr.nil (Tr.thenN (Tr.seq (Tr.seq (Tr.region ?_))))
  refine Tr.q (QS.move rfl) rfl ?_
  refine Tr.q (QS.neq rfl rfl) rfl ?_
  refine Tr.nil (Tr.thenN ?_)
  refine Tr.cond rfl (fun h3 => ?_) (fun h3 => ?_)
  ·try simp only [bs] at h3
   first | contradiction | (exfalso; omega) | simp_all
  ·try simp only [bs] at h3
   refine Tr.skip (Tr.thenN (Tr.seq (Tr.region ?_)))
   refine Tr.q (QS.move rfl) rfl ?_
   refine Tr.q (QS.assign rfl) rfl ?_
   refine Tr.nil (Tr.thenN (Tr.ret ?_))
   refine Tr.ret1 Try.results26 rfl (fun w' hw => ?_)
   exact ⟨(j.1, j.2.1, j.2.2.1, j.2.2.2.1, j.2.2.2.2.1, j.2.2.2.2.2, rs), rfl, hw.below0 (Bg.le.refl _), hw.ents0 rfl (by show Pick _ (cellE j.1 (cpuC (newS p) j.2.1 j.2.2.2.2.1 (.slice none 0 0) .nilFunc) 47 :: mapE j.2.2.1 u8V j.2.2.2.2.2 :: rowE (.slice none 0 0) 22 encU32 [] :: (cellE j.2.1 [j.2.2.2.1, .map (some j.2.2.1)] 33 :: rowE j.2.2.2.1 86 encReg rs :: rowE j.2.2.2.2.1 22 encU32 inp :: regEnts 5 rs)); exact .cons (by repeat constructor) (.cons (by repeat constructor) (.cons (by repeat constructor) (.cons (by repeat constructor) (.cons (by repeat constructor) (.cons (by repeat constructor) (by repeat (first | exact Pick.refl _ | apply Pick.skip)))))))), hj, hO⟩
set_option maxRecDepth 100000 in
set_option maxHeartbeats 8000000 in
theorem code_any (is : List Ins) (V : Value) (w : World) (hV : Sl (hp w) encIns is V) (hI : ∀ x ∈ is, InsOK x) (hn : is.length ≤ 100) :
  Calls Try.prog 27 #[V] w (fun e w' => ∃ j : Option Addr × Nat × Value, e = .returned j.2.2 ∧ Ext w w' ∧ NewEnts w w' [rowE j.2.2 80 encSec [codeS (codeP is) j.1 j.2.1], rowE (.slice j.1 (codeP is).length j.2.1) 5 encU8 (codeP is)] ∧ True) := by
 have hV' : Sl (Bg.of w).blk encIns is V := hV
 refine enter Try.func27 rfl Try.ntmps27 rfl ?_
 refine Tr.seq (Tr.region ?_)
 refine Tr.q (QS.assign rfl) rfl ?_
 refine Tr.nil (Tr.thenN (Tr.seq (Tr.region ?_)))
 refine Tr.q (QS.assign rfl) rfl ?_
 refine Tr.nil (Tr.thenN (Tr.seq (Tr.seq (Tr.region ?_))))
 refine Tr.q (QS.assign rfl) rfl ?_
 refine Tr.nil (Tr.thenN (Tr.block ?_))
 refine Tr.ownNil 5 encU8 ?_
 refine Tr.loop (ι := Nat × Value) (fun ⟨k, Vb⟩ => k ≤ is.length) (fun _ => _) (fun ⟨k, Vb⟩ => [rowE Vb 5 encU8 (codeP (is.take k))]) (fun ⟨k, Vb⟩ => [(4, .int .i64 (k : Nat)), (3, Vb)]) (fun ⟨k, Vb⟩ => is.length - k) (0, _) (Nat.zero_le _) (.cons (by first | rfl | exact lookI rfl (by omega) | exact lookI rfl (by simp) | exact lookB rfl (by simp)) (.cons (by first | rfl | exact lookI rfl (by omega) | exact lookI rfl (by simp) | exact lookB rfl (by simp)) Front.nil)) (by repeat' constructor) rfl (fun i hi m hm => ?_)
 obtain ⟨k, Vb⟩ := i
 replace hi : k ≤ is.length := hi
 replace hm : m = is.length - k := hm
 change Tr _ _ [rowE Vb 5 encU8 (codeP (is.take k))] ([(4, .int .i64 (k : Nat)), (3, Vb)] ++ _) _
 refine Tr.seq (Tr.seq (Tr.region ?_))
 refine Tr.q (QS.move rfl) rfl ?_
 refine Tr.q (QS.move rfl) rfl ?_
 refine Tr.q (QS.len rfl (by assumption) Try.underlying68) rfl ?_
 refine Tr.q (QS.lss rfl rfl) rfl ?_
 refine Tr.nil (Tr.thenN ?_)
 refine Tr.cond rfl (fun h1 => ?_) (fun h1 => ?_)
 ·try simp only [bs] at h1
  refine Tr.skip (Tr.thenN (Tr.seq (Tr.block (Tr.seq ?_))))
  have hik := hI _ (mem_getD (l := is) (k := k) (by omega))
  have hcl := code_len is k
  obtain ⟨yy, hyy⟩ : ∃ yy, yy = encodeP { (is.getD k default) with addr := 4096 + u32 ((codeP (is.take k)).length : Int) } := ⟨_, rfl⟩
  have hyl : yy.length ≤ 6 := by rw [hyy]; exact enc_len _
  refine Tr.region ?_
  refine Tr.q (QS.move rfl) rfl ?_
  refine Tr.q (QS.move rfl) rfl ?_
  refine Tr.q (QS.idxN rfl rfl (by assumption) Try.underlying68 Try.sizeOf67 (by rfl) (by omega)) rfl ?_
  refine Tr.q (QS.elA rfl (by assumption) Try.isAgg67 Try.sizeOf67 (by rfl) (by omega)) rfl ?_
  refine Tr.alloc Try.zeroValue67 rfl rfl (fun b2 => ?_)
  refine Tr.storeW rfl rfl Try.sizeOf67 (by repeat constructor) (by rfl) (by rfl) (by first | exact List.all_eq_true.1 rfl | exact Enc.one _ _ | exact Enc.one encIns _) rfl ?_
  change Tr _ _ (cellE b2 (encIns.enc (is.getD k default)) 67 :: _) _ _
  refine Tr.nil (Tr.thenN (Tr.seq (Tr.region ?_)))
  refine Tr.q (QS.move rfl) rfl ?_
  refine Tr.q (QS.lenRow rfl (by repeat constructor) Try.underlying78) rfl ?_
  refine Tr.q (QS.cvtTo32 rfl Try.underlying3 Try.underlying22) rfl ?_
  refine Tr.q (QS.add32 (m := 4096) rfl rfl) rfl ?_
  refine Tr.q (QS.fieldAddr (off := 0) (ft := 22) rfl Try.underlying67 rfl rfl Try.sizeOf22 (by decide)) rfl ?_
  refine Tr.storeV (cs' := encIns.enc { (is.getD k default) with addr := 4096 + u32 ((codeP (is.take k)).length : Int) }) rfl rfl Try.sizeOf22 (by repeat constructor) rfl (by rfl) (by exact Nat.le_of_ble_eq_true rfl) (by exact List.all_eq_true.1 rfl) rfl ?_
  refine Tr.nil (Tr.thenN (Tr.seq (Tr.region ?_)))
  refine Tr.q (QS.lW rfl Try.isAgg67 Try.sizeOf67) rfl ?_
  refine Tr.callRowF (fun V => .tuple #[V, .int .i64 (errP { (is.getD k default) with addr := 4096 + u32 ((codeP (is.take k)).length : Int) })]) rfl Try.call48 (fun w hw => encode_isa { (is.getD k default) with addr := 4096 + u32 ((codeP (is.take k)).length : Int) } w ⟨hik.op, hik.form, hik.width, hik.cc, hik.a, hik.b, hik.size⟩) rfl (fun V52 => ?_)
  refine Tr.rowEq (l' := yy) hyy.symm ?_
  refine Tr.q (QS.move rfl) rfl ?_
  refine Tr.q (QS.extract rfl rfl) rfl ?_
  refine Tr.q (QS.extract rfl rfl) rfl ?_
  refine Tr.q (QS.assign rfl) rfl ?_
  refine Tr.q (QS.assign rfl) rfl ?_
  refine Tr.nil (Tr.thenN (Tr.region ?_))
  refine Tr.q (QS.move rfl) rfl ?_
  refine Tr.q (QS.move rfl) rfl ?_
  refine Tr.appendOf rfl rfl (by repeat constructor) (fun w hw => hw.row (by repeat constructor)) Try.underlying78 HLF.info5 (by rfl) (by rfl) (by (try simp only [List.length_cons, List.length_nil, List.length_append, List.length_take]); omega) (by unfold maxLen; (try simp only [List.length_cons, List.length_nil, List.length_append, List.length_take]); omega) rfl (fun V3 => ?_)
  refine Tr.q (QS.assign rfl) rfl ?_
  refine Tr.nil (Tr.inN (Tr.thenN (Tr.region ?_)))
  refine Tr.q (QS.move rfl) rfl ?_
  refine Tr.q (QS.addI rfl rfl (by omega)) rfl ?_
  refine Tr.q (QS.assign rfl) rfl ?_
  refine Tr.nil (Tr.thenN ?_)
  rw [hyy, code_step (by omega)]
  apply Tr.again (k + 1, _)
  ·exact rfl
  ·exact (.cons (by first | rfl | exact lookI rfl (by omega) | exact lookI rfl (by simp) | exact lookB rfl (by simp)) (.cons (by first | rfl | exact lookI rfl (by omega) | exact lookI rfl (by simp) | exact lookB rfl (by simp)) Front.nil))
  ·exact SubX.dropN 30 (by kernel_rfl) rfl
  ·exact (by repeat' constructor)
  ·exact (by show k + 1 ≤ _; omega)
  ·exact (by (try dsimp only); omega)
 ·try simp only [bs] at h1
  refine Tr.exit ?_
  refine Tr.thenE (Tr.thenE (Tr.inHit (Tr.thenN (Tr.seq ?_))))
  obtain rfl : k = is.length := by omega
  rw [List.take_length]
  refine Tr.rowShape (V := Vb) (by repeat constructor) (fun pb cb hpv => ?_)
  subst hpv
  have hcl := code_len is is.length
  rw [List.take_length] at hcl
  refine Tr.region ?_
  refine Tr.q (QS.move rfl) rfl ?_
  refine Tr.q (QS.build (vs := [(0, _), (1, _), (2, _), (4, _)]) (cs := (encSec.enc (codeS (codeP is) pb cb)).toArray) rfl rfl (by kernel_rfl)) rfl ?_
  refine Tr.lit1 (E := encSec) (codeS (codeP is) pb cb) rfl rfl Try.underlying64 Try.sizeOf80 Try.zeroValue80 (by rfl) (by rfl) rfl (fun V4 => ?_)
  refine Tr.q (QS.assign rfl) rfl ?_
  refine Tr.nil (Tr.thenN (Tr.ret ?_))
  refine Tr.ret1 Try.results27 rfl (fun w' hw => ?_)
  exact ⟨(pb, cb, _), rfl, hw.below (Bg.le.refl _), hw.ents (Bg.le.refl _) (by repeat' constructor), trivial⟩
end Go.Proofs.Ytpeaodkfbjenpaa
namespace Go.Proofs.Ytpeaodkfbjenpaa
open Go Go.HL Go.RowKit
set_option maxRecDepth 100000 in
set_option maxHeartbeats 16000000 in
theorem example10_any (w : World) :
  Calls Try.prog 21 #[] w (fun e w' => e = .returned (.bool true) ∧ Below w.heap.size w w') := by
 refine enter0 Try.func21 rfl Try.ntmps21 rfl ?_
 refine Tr.seq (Tr.region ?_)
 refine Tr.q (QS.assign rfl) rfl ?_
 refine Tr.nil (Tr.thenN (Tr.seq (Tr.region ?_)))
 refine Tr.litN (E := encU8) exB1 (vs := [(0, _), (1, _), (2, _), (3, _), (4, _), (5, _)]) rfl rfl Try.underlying78 Try.sizeOf5 Try.zeroValue5 (by rfl) (by rfl) rfl (by first | kernel_rfl | rfl) rfl (fun V1 => ?_)
 refine Tr.rowShape (.head _) (fun pa1 ca1 hpv => ?_)
 subst hpv
 refine Tr.frozen (.here _) (fun F1 hF1 hD1 => ?_)
 refine Tr.q (QS.build (vs := [(0, _), (1, _), (2, _), (4, _)]) (cs := (encSec.enc (exC exB1 pa1 ca1)).toArray) rfl rfl (by kernel_rfl)) rfl ?_
 refine Tr.lit1 (E := encSec) (exC exB1 pa1 ca1) rfl rfl Try.underlying64 Try.sizeOf80 Try.zeroValue80 (by rfl) (by rfl) rfl (fun V2 => ?_)
 refine Tr.frozen (.here _) (fun F2 hF2 hS1 => ?_)
 replace hD1 := hD1.mono hF2.blk
 refine Tr.callMix0 (fun j : Nat × Nat × Nat × Value × Value × WL × List RegV => .pointer (some ⟨j.1, 0, none⟩)) (fun j => [cellE j.1 (cpuC (newS 4096) j.2.1 j.2.2.2.2.1 (.slice none 0 0) .nilFunc) 47, mapE j.2.2.1 u8V j.2.2.2.2.2.1, rowE (.slice none 0 0) 22 encU32 []]) (fun j => (cellE j.2.1 [j.2.2.2.1, .map (some j.2.2.1)] 33 :: rowE j.2.2.2.1 86 encReg j.2.2.2.2.2.2 :: rowE j.2.2.2.2.1 22 encU32 [] :: regEnts 5 j.2.2.2.2.2.2)) (ok := fun j => (mread j.2.2.2.2.2.1 = (newS 4096).w ∧ j.2.2.2.2.2.1.length ≤ 4) ∧ MemOK [exC exB1 pa1 ca1] j.2.2.2.2.2.2) ((hF1.trans hF2).dr) rfl Try.call26 (fun w hw => boot_ok [exC exB1 pa1 ca1] _ 4096 [] _ w (hw.slF hS1) ⟨by simp, by simp [exC, exB1]⟩ (by simp [exC]; decide) (fun s hs => by simp only [List.mem_singleton] at hs; subst hs; exact hw.slF hD1) (Sl.nil _ _) (by decide) (ex_chk1 _ _)) rfl (fun j F3 hj hF3 hk => ?_)
 obtain ⟨bc1, bM1, bm1, VR1, vi1, wl1, rs1⟩ := j
 have hC1 : CpuAt F3.blk bM1 bm1 VR1 vi1 rs1 [] := cpuAt_of hk
 obtain ⟨⟨hw1, hn1⟩, hO1⟩ := hj
 replace hO1 : MemOK [exC exB1 pa1 ca1] rs1 := hO1
 change Tr _ _ ([cellE bc1 (cpuC (newS 4096) bM1 vi1 (.slice none 0 0) .nilFunc) 47, mapE bm1 u8V wl1, rowE (.slice none 0 0) 22 encU32 (newS 4096).out] ++ _) _ _
 refine Tr.q (QS.assign rfl) rfl ?_
 refine Tr.nil (Tr.thenN (Tr.seq (Tr.region ?_)))
 refine Tr.lit1 (E := encU8) (2 : UInt8) rfl rfl Try.underlying78 Try.sizeOf5 Try.zeroValue5 (by rfl) (by rfl) rfl (fun V3 => ?_)
 refine Tr.rowShape (.head _) (fun pa2 ca2 hpv => ?_)
 subst hpv
 refine Tr.frozen (.here _) (fun F4 hF4 hD2 => ?_)
 refine Tr.q (QS.build (vs := [(0, _), (1, _), (2, _), (4, _)]) (cs := (encSec.enc (exC [2] pa2 ca2)).toArray) rfl rfl (by kernel_rfl)) rfl ?_
 refine Tr.lit1 (E := encSec) (exC [2] pa2 ca2) rfl rfl Try.underlying64 Try.sizeOf80 Try.zeroValue80 (by rfl) (by rfl) rfl (fun V4 => ?_)
 refine Tr.frozen (.here _) (fun F5 hF5 hS2 => ?_)
 replace hD2 := hD2.mono hF5.blk
 refine Tr.callMix0 (fun j : Nat × Nat × Nat × Value × Value × WL × List RegV => .pointer (some ⟨j.1, 0, none⟩)) (fun j => [cellE j.1 (cpuC (newS 4096) j.2.1 j.2.2.2.2.1 (.slice none 0 0) .nilFunc) 47, mapE j.2.2.1 u8V j.2.2.2.2.2.1, rowE (.slice none 0 0) 22 encU32 []]) (fun j => (cellE j.2.1 [j.2.2.2.1, .map (some j.2.2.1)] 33 :: rowE j.2.2.2.1 86 encReg j.2.2.2.2.2.2 :: rowE j.2.2.2.2.1 22 encU32 [] :: regEnts 5 j.2.2.2.2.2.2)) (ok := fun j => (mread j.2.2.2.2.2.1 = (newS 4096).w ∧ j.2.2.2.2.2.1.length ≤ 4) ∧ MemOK [exC [2] pa2 ca2] j.2.2.2.2.2.2) ((hF1.trans (hF2.trans (hF3.trans (hF4.trans hF5)))).dr) rfl Try.call26 (fun w hw => boot_ok [exC [2] pa2 ca2] _ 4096 [] _ w (hw.slF hS2) ⟨by simp, by simp [exC, exB1]⟩ (by simp [exC]; decide) (fun s hs => by simp only [List.mem_singleton] at hs; subst hs; exact hw.slF hD2) (Sl.nil _ _) (by decide) (ex_chk2 _ _)) rfl (fun j F6 hj hF6 hk => ?_)
 obtain ⟨bc2, bM2, bm2, VR2, vi2, wl2, rs2⟩ := j
 have hC2 : CpuAt F6.blk bM2 bm2 VR2 vi2 rs2 [] := cpuAt_of hk
 obtain ⟨⟨hw2, hn2⟩, hO2⟩ := hj
 replace hO2 : MemOK [exC [2] pa2 ca2] rs2 := hO2
 change Tr _ _ ([cellE bc2 (cpuC (newS 4096) bM2 vi2 (.slice none 0 0) .nilFunc) 47, mapE bm2 u8V wl2, rowE (.slice none 0 0) 22 encU32 (newS 4096).out] ++ _) _ _
 have hF16 := hF1.trans (hF2.trans (hF3.trans (hF4.trans (hF5.trans hF6))))
 have hdr6 : F6.dr = 0 := hF16.dr
 replace hC1 := hC1.mono (hF4.trans (hF5.trans hF6)).blk
 refine Tr.q (QS.assign rfl) rfl ?_
 refine Tr.nil (Tr.thenN (Tr.seq (Tr.seq (Tr.region ?_))))
 refine Tr.q (QS.move rfl) rfl ?_
 refine Tr.q (QS.eqlPN rfl rfl Try.underlying27 rfl) rfl ?_
 refine Tr.q (QS.move rfl) rfl ?_
 apply Tr.orP
 ·exact (rfl : _ = (3, 17, 20))
 ·exact rfl
 ·intro hF5; have hF5' := hF5
  try simp only [bs] at hF5'
  refine Tr.gq rfl rfl hF5 (QS.move rfl) rfl ?_
  refine Tr.gq rfl rfl hF5 (QS.eqlPN rfl rfl Try.underlying27 rfl) rfl ?_
  refine Tr.q (QS.pickF rfl hF5 rfl) rfl ?_
  refine Tr.nil (Tr.thenN ?_)
  exact Tr.endX (Sub.cons rfl (Sub.dropN 3 (by kernel_rfl) rfl))
 ·intro hT5
  refine Tr.gskip rfl rfl hT5 rfl ?_
  refine Tr.gskip rfl rfl hT5 rfl ?_
  refine Tr.q (QS.pickT rfl hT5 rfl) rfl ?_
  refine Tr.nil (Tr.thenN ?_)
  exact Tr.endX (Sub.cons rfl (Sub.dropN 3 (by kernel_rfl) rfl))
 refine Tr.nil (Tr.thenN ?_)
 refine Tr.cond rfl (fun h6 => ?_) (fun h6 => ?_)
 ·try simp only [bs] at h6
  first | contradiction | (exfalso; omega) | simp_all
 ·try simp only [bs] at h6
  refine Tr.skip (Tr.thenN (Tr.seq (Tr.region ?_)))
  refine Tr.q (QS.move rfl) rfl ?_
  refine Tr.callO (fun j : WL × Value × Value × Value × Value => .agg #[.int .i64 (errR (runS [exC exB1 pa1 ca1] [] (min (2 : Int) 65536).toNat (newS 4096))), j.2.2.2.2, .int .i64 ((traceS [exC exB1 pa1 ca1] [] (min (2 : Int) 65536).toNat (newS 4096)).length : Nat)]) [cellE bc1 (cpuC (newS 4096) bM1 vi1 (.slice none 0 0) .nilFunc) 47, mapE bm1 u8V wl1, rowE (.slice none 0 0) 22 encU32 (newS 4096).out] (fun j => [cellE bc1 (cpuC (runS [exC exB1 pa1 ca1] [] (min (2 : Int) 65536).toNat (newS 4096)) bM1 vi1 j.2.1 j.2.2.1) 47, mapE bm1 u8V j.1, rowE j.2.1 22 encU32 (runS [exC exB1 pa1 ca1] [] (min (2 : Int) 65536).toNat (newS 4096)).out, rowE j.2.2.2.2 22 encU32 (runS [exC exB1 pa1 ca1] [] (min (2 : Int) 65536).toNat (newS 4096)).out]) (ok := fun j => mread j.1 = (runS [exC exB1 pa1 ca1] [] (min (2 : Int) 65536).toNat (newS 4096)).w ∧ j.1.length ≤ wl1.length + 4 * (traceS [exC exB1 pa1 ca1] [] (min (2 : Int) 65536).toNat (newS 4096)).length ∧ ∃ a n c, j.2.1 = .slice a n c) (dd := fun _ => 0) rfl Try.call17 (by repeat' (first | exact Split.nil _ | exact Del.here _ | apply Split.cons | apply Del.there)) (fun w hw => Nat.le_of_eq (hdr6)) (fun w hw => run_cpu (newS 4096) bc1 bM1 bm1 VR1 vi1 (.slice none 0 0) .nilFunc rs1 [exC exB1 pa1 ca1] wl1 [] (2 : Int) w (hw.own (by repeat' (first | exact Split.nil _ | exact Del.here _ | apply Split.cons | apply Del.there))) (hC1.mono (hw.lessB (Lo := [cellE bc1 (cpuC (newS 4096) bM1 vi1 (.slice none 0 0) .nilFunc) 47, mapE bm1 u8V wl1, rowE (.slice none 0 0) 22 encU32 (newS 4096).out]) (by repeat' (first | exact Split.nil _ | exact Del.here _ | apply Split.cons | apply Del.there)))) hO1 hw1 ⟨_, _, _, rfl⟩ (by show (0 : Nat) ≤ 4096; omega)) rfl (fun j hj => ?_)
  obtain ⟨wl3, vo3, ef3, vt3, vq3⟩ := j
  obtain ⟨hw3, hn3, hv3⟩ := hj
  change Tr _ _ (cellE bc1 (cpuC (runS [exC exB1 pa1 ca1] [] (min (2 : Int) 65536).toNat (newS 4096)) bM1 vi1 vo3 ef3) 47 :: mapE bm1 u8V wl3 :: rowE vo3 22 encU32 (runS [exC exB1 pa1 ca1] [] (min (2 : Int) 65536).toNat (newS 4096)).out :: rowE vq3 22 encU32 (runS [exC exB1 pa1 ca1] [] (min (2 : Int) 65536).toNat (newS 4096)).out :: _) _ _
  obtain ⟨n3, hm3⟩ : ∃ n, n = (traceS [exC exB1 pa1 ca1] [] (min (2 : Int) 65536).toNat (newS 4096)).length := ⟨_, rfl⟩
  rw [← hm3] at hn3 ⊢
  obtain ⟨t3, ht3⟩ : ∃ t, t = (runS [exC exB1 pa1 ca1] [] (min (2 : Int) 65536).toNat (newS 4096)) := ⟨_, rfl⟩
  rw [← ht3] at hw3 ⊢
  refine Tr.rowShape (V := vq3) (by repeat constructor) (fun pq3 cq3 hpv => ?_)
  subst hpv
  obtain ⟨hx1, hx2, hx3⟩ := ex_c1 ht3 hm3
  rw [hx1, hx3]
  have hxl : t3.out.length = 1 := by rw [hx2]; rfl
  refine Tr.q (QS.move rfl) rfl ?_
  refine Tr.callO (fun j : WL × Value × Value × Value × Value => .agg #[.int .i64 (errR (runS [exC exB1 pa1 ca1] [] (min (1 : Int) 65536).toNat t3)), j.2.2.2.2, .int .i64 ((traceS [exC exB1 pa1 ca1] [] (min (1 : Int) 65536).toNat t3).length : Nat)]) [cellE bc1 (cpuC t3 bM1 vi1 vo3 ef3) 47, mapE bm1 u8V wl3, rowE vo3 22 encU32 t3.out] (fun j => [cellE bc1 (cpuC (runS [exC exB1 pa1 ca1] [] (min (1 : Int) 65536).toNat t3) bM1 vi1 j.2.1 j.2.2.1) 47, mapE bm1 u8V j.1, rowE j.2.1 22 encU32 (runS [exC exB1 pa1 ca1] [] (min (1 : Int) 65536).toNat t3).out, rowE j.2.2.2.2 22 encU32 (runS [exC exB1 pa1 ca1] [] (min (1 : Int) 65536).toNat t3).out]) (ok := fun j => mread j.1 = (runS [exC exB1 pa1 ca1] [] (min (1 : Int) 65536).toNat t3).w ∧ j.1.length ≤ wl3.length + 4 * (traceS [exC exB1 pa1 ca1] [] (min (1 : Int) 65536).toNat t3).length ∧ ∃ a n c, j.2.1 = .slice a n c) (dd := fun _ => 0) rfl Try.call17 (by repeat' (first | exact Split.nil _ | exact Del.here _ | apply Split.cons | apply Del.there)) (fun w hw => Nat.le_of_eq (hdr6)) (fun w hw => run_cpu t3 bc1 bM1 bm1 VR1 vi1 vo3 ef3 rs1 [exC exB1 pa1 ca1] wl3 [] (1 : Int) w (hw.own (by repeat' (first | exact Split.nil _ | exact Del.here _ | apply Split.cons | apply Del.there))) (hC1.mono (hw.lessB (Lo := [cellE bc1 (cpuC t3 bM1 vi1 vo3 ef3) 47, mapE bm1 u8V wl3, rowE vo3 22 encU32 t3.out]) (by repeat' (first | exact Split.nil _ | exact Del.here _ | apply Split.cons | apply Del.there)))) hO1 hw3 hv3 (by rw [hx2]; decide)) rfl (fun j hj => ?_)
  obtain ⟨wl4, vo4, ef4, vt4, vq4⟩ := j
  obtain ⟨hw4, hn4, hv4⟩ := hj
  change Tr _ _ (cellE bc1 (cpuC (runS [exC exB1 pa1 ca1] [] (min (1 : Int) 65536).toNat t3) bM1 vi1 vo4 ef4) 47 :: mapE bm1 u8V wl4 :: rowE vo4 22 encU32 (runS [exC exB1 pa1 ca1] [] (min (1 : Int) 65536).toNat t3).out :: rowE vq4 22 encU32 (runS [exC exB1 pa1 ca1] [] (min (1 : Int) 65536).toNat t3).out :: _) _ _
  obtain ⟨n4, hm4⟩ : ∃ n, n = (traceS [exC exB1 pa1 ca1] [] (min (1 : Int) 65536).toNat t3).length := ⟨_, rfl⟩
  rw [← hm4] at hn4 ⊢
  obtain ⟨t4, ht4⟩ : ∃ t, t = (runS [exC exB1 pa1 ca1] [] (min (1 : Int) 65536).toNat t3) := ⟨_, rfl⟩
  rw [← ht4] at hw4 ⊢
  refine Tr.rowShape (V := vq4) (by repeat constructor) (fun pq4 cq4 hpv => ?_)
  subst hpv
  obtain ⟨hy1, hy2, hy3⟩ := ex_c2 ht3 ht4 hm4
  rw [hy1, hy3]
  refine Tr.alloc Try.zeroValue50 rfl rfl (fun b7 => ?_)
  refine Tr.alloc Try.zeroValue50 rfl rfl (fun b8 => ?_)
  refine Tr.storeW rfl rfl Try.sizeOf50 (by repeat constructor) (by rfl) (by rfl) (by first | exact List.all_eq_true.1 rfl | exact Enc.one _ _ | (intro u hu; simp [Value.cells] at hu; simp_all [Value.oneCell'])) rfl ?_
  refine Tr.storeW rfl rfl Try.sizeOf50 (by repeat constructor) (by rfl) (by rfl) (by first | exact List.all_eq_true.1 rfl | exact Enc.one _ _ | (intro u hu; simp [Value.cells] at hu; simp_all [Value.oneCell'])) rfl ?_
  refine Tr.nil (Tr.thenN (Tr.seq (Tr.region ?_)))
  refine Tr.q (QS.move rfl) rfl ?_
  refine Tr.callO (fun j : WL × Value × Value × Value × Value => .agg #[.int .i64 (errR (runS [exC [2] pa2 ca2] [] (min (9 : Int) 65536).toNat (newS 4096))), j.2.2.2.2, .int .i64 ((traceS [exC [2] pa2 ca2] [] (min (9 : Int) 65536).toNat (newS 4096)).length : Nat)]) [cellE bc2 (cpuC (newS 4096) bM2 vi2 (.slice none 0 0) .nilFunc) 47, mapE bm2 u8V wl2, rowE (.slice none 0 0) 22 encU32 (newS 4096).out] (fun j => [cellE bc2 (cpuC (runS [exC [2] pa2 ca2] [] (min (9 : Int) 65536).toNat (newS 4096)) bM2 vi2 j.2.1 j.2.2.1) 47, mapE bm2 u8V j.1, rowE j.2.1 22 encU32 (runS [exC [2] pa2 ca2] [] (min (9 : Int) 65536).toNat (newS 4096)).out, rowE j.2.2.2.2 22 encU32 (runS [exC [2] pa2 ca2] [] (min (9 : Int) 65536).toNat (newS 4096)).out]) (ok := fun j => mread j.1 = (runS [exC [2] pa2 ca2] [] (min (9 : Int) 65536).toNat (newS 4096)).w ∧ j.1.length ≤ wl2.length + 4 * (traceS [exC [2] pa2 ca2] [] (min (9 : Int) 65536).toNat (newS 4096)).length ∧ ∃ a n c, j.2.1 = .slice a n c) (dd := fun _ => 0) rfl Try.call17 (by repeat' (first | exact Split.nil _ | exact Del.here _ | apply Split.cons | apply Del.there)) (fun w hw => Nat.le_of_eq (hdr6)) (fun w hw => run_cpu (newS 4096) bc2 bM2 bm2 VR2 vi2 (.slice none 0 0) .nilFunc rs2 [exC [2] pa2 ca2] wl2 [] (9 : Int) w (hw.own (by repeat' (first | exact Split.nil _ | exact Del.here _ | apply Split.cons | apply Del.there))) (hC2.mono (hw.lessB (Lo := [cellE bc2 (cpuC (newS 4096) bM2 vi2 (.slice none 0 0) .nilFunc) 47, mapE bm2 u8V wl2, rowE (.slice none 0 0) 22 encU32 (newS 4096).out]) (by repeat' (first | exact Split.nil _ | exact Del.here _ | apply Split.cons | apply Del.there)))) hO2 hw2 ⟨_, _, _, rfl⟩ (by show (0 : Nat) ≤ 4096; omega)) rfl (fun j hj => ?_)
  obtain ⟨wl5, vo5, ef5, vt5, vq5⟩ := j
  obtain ⟨hw5, hn5, hv5⟩ := hj
  change Tr _ _ (cellE bc2 (cpuC (runS [exC [2] pa2 ca2] [] (min (9 : Int) 65536).toNat (newS 4096)) bM2 vi2 vo5 ef5) 47 :: mapE bm2 u8V wl5 :: rowE vo5 22 encU32 (runS [exC [2] pa2 ca2] [] (min (9 : Int) 65536).toNat (newS 4096)).out :: rowE vq5 22 encU32 (runS [exC [2] pa2 ca2] [] (min (9 : Int) 65536).toNat (newS 4096)).out :: _) _ _
  obtain ⟨n5, hm5⟩ : ∃ n, n = (traceS [exC [2] pa2 ca2] [] (min (9 : Int) 65536).toNat (newS 4096)).length := ⟨_, rfl⟩
  rw [← hm5] at hn5 ⊢
  obtain ⟨t5, ht5⟩ : ∃ t, t = (runS [exC [2] pa2 ca2] [] (min (9 : Int) 65536).toNat (newS 4096)) := ⟨_, rfl⟩
  rw [← ht5] at hw5 ⊢
  refine Tr.rowShape (V := vq5) (by repeat constructor) (fun pq5 cq5 hpv => ?_)
  subst hpv
  obtain ⟨hz1, hz2, hz3, hz4⟩ := ex_d ht5 hm5
  rw [hz1, hz2]
  refine Tr.alloc Try.zeroValue50 rfl rfl (fun b9 => ?_)
  refine Tr.storeW rfl rfl Try.sizeOf50 (by repeat constructor) (by rfl) (by rfl) (by first | exact List.all_eq_true.1 rfl | exact Enc.one _ _ | (intro u hu; simp [Value.cells] at hu; simp_all [Value.oneCell'])) rfl ?_
  refine Tr.nil (Tr.thenN (Tr.seq (Tr.region ?_)))
  refine Tr.q (QS.move rfl) rfl ?_
  refine Tr.q (QS.call rfl Try.call13 (fun w hw => state_cpu t5 bc2 bM2 vi2 vo5 ef5 w (cellE.cellsIn (hw.ent _ (by repeat constructor)) (Ext.refl _)))) rfl ?_
  refine Tr.alloc Try.zeroValue42 rfl rfl (fun b10 => ?_)
  refine Tr.storeW rfl rfl Try.sizeOf42 (by repeat constructor) (by rfl) (by rfl) (by first | exact List.all_eq_true.1 rfl | exact Enc.one _ _ | exact Enc.one encMach _) rfl ?_
  refine Tr.nil (Tr.thenN (Tr.seq (Tr.region ?_)))
  refine Tr.q (QS.fieldAddr (off := 0) (ft := 24) rfl Try.underlying50 rfl rfl Try.sizeOf24 (by decide)) rfl ?_
  refine Tr.q (QS.lV rfl Try.isAgg24) rfl ?_
  refine Tr.q (QS.eql rfl rfl) rfl ?_
  refine Tr.q (QS.move rfl) rfl ?_
  apply Tr.andP
  ·exact (rfl : _ = (4, 32, 36))
  ·exact rfl
  ·intro hT11; have hT11' := hT11
   try simp only [bs] at hT11'
   refine Tr.gq rfl rfl hT11 (QS.fieldAddr (off := 2) (ft := 3) rfl Try.underlying50 rfl rfl Try.sizeOf3 (by decide)) rfl ?_
   refine Tr.gq rfl rfl hT11 (QS.lV rfl Try.isAgg3) rfl ?_
   refine Tr.gq rfl rfl hT11 (QS.eql rfl rfl) rfl ?_
   refine Tr.q (QS.pickT rfl hT11 rfl) rfl ?_
   refine Tr.nil (Tr.thenN ?_)
   exact Tr.endX (Sub.cons rfl (Sub.dropN 4 (by kernel_rfl) rfl))
  ·intro hF11
   refine Tr.gskip rfl rfl hF11 rfl ?_
   refine Tr.gskip rfl rfl hF11 rfl ?_
   refine Tr.gskip rfl rfl hF11 rfl ?_
   refine Tr.q (QS.pickF rfl hF11 rfl) rfl ?_
   refine Tr.nil (Tr.thenN ?_)
   exact Tr.endX (Sub.cons rfl (Sub.dropN 4 (by kernel_rfl) rfl))
  refine Tr.q (QS.move rfl) rfl ?_
  apply Tr.andP
  ·exact (rfl : _ = (5, 37, 42))
  ·exact rfl
  ·intro hT12; have hT12' := hT12
   try simp only [bs] at hT12'
   refine Tr.gq rfl rfl hT12 (QS.fieldAddr (off := 1) (ft := 34) rfl Try.underlying50 rfl rfl Try.sizeOf34 (by decide)) rfl ?_
   refine Tr.gq rfl rfl hT12 (QS.lV rfl Try.isAgg34) rfl ?_
   refine Tr.gq rfl rfl hT12 (QS.lenRow rfl (by repeat constructor) Try.underlying34) rfl ?_
   refine Tr.gq rfl rfl hT12 (QS.eql rfl rfl) rfl ?_
   refine Tr.q (QS.pickT rfl hT12 rfl) rfl ?_
   refine Tr.nil (Tr.thenN ?_)
   exact Tr.endX (Sub.cons rfl (Sub.dropN 5 (by kernel_rfl) rfl))
  ·intro hF12
   refine Tr.gskip rfl rfl hF12 rfl ?_
   refine Tr.gskip rfl rfl hF12 rfl ?_
   refine Tr.gskip rfl rfl hF12 rfl ?_
   refine Tr.gskip rfl rfl hF12 rfl ?_
   refine Tr.q (QS.pickF rfl hF12 rfl) rfl ?_
   refine Tr.nil (Tr.thenN ?_)
   exact Tr.endX (Sub.cons rfl (Sub.dropN 5 (by kernel_rfl) rfl))
  refine Tr.q (QS.move rfl) rfl ?_
  apply Tr.andP
  ·exact (rfl : _ = (6, 43, 49))
  ·exact rfl
  ·intro hT13; have hT13' := hT13
   try simp only [bs] at hT13'
   refine Tr.gq rfl rfl hT13 (QS.fieldAddr (off := 1) (ft := 34) rfl Try.underlying50 rfl rfl Try.sizeOf34 (by decide)) rfl ?_
   refine Tr.gq rfl rfl hT13 (QS.lV rfl Try.isAgg34) rfl ?_
   refine Tr.gq rfl rfl hT13 (QS.idxRow rfl rfl (by repeat constructor) Try.underlying34 Try.sizeOf22 (by rfl) (by omega)) rfl ?_
   refine Tr.gq rfl rfl hT13 (QS.elR1 rfl (by repeat constructor) Try.isAgg22 (by omega) (by rfl)) rfl ?_
   refine Tr.gq rfl rfl hT13 (QS.eql32 (n := 5) rfl rfl) rfl ?_
   refine Tr.q (QS.pickT rfl hT13 rfl) rfl ?_
   refine Tr.nil (Tr.thenN ?_)
   exact Tr.endX (Sub.cons rfl (Sub.dropN 6 (by kernel_rfl) rfl))
  ·intro hF13
   refine Tr.gskip rfl rfl hF13 rfl ?_
   refine Tr.gskip rfl rfl hF13 rfl ?_
   refine Tr.gskip rfl rfl hF13 rfl ?_
   refine Tr.gskip rfl rfl hF13 rfl ?_
   refine Tr.gskip rfl rfl hF13 rfl ?_
   refine Tr.q (QS.pickF rfl hF13 rfl) rfl ?_
   refine Tr.nil (Tr.thenN ?_)
   exact Tr.endX (Sub.cons rfl (Sub.dropN 6 (by kernel_rfl) rfl))
  refine Tr.q (QS.move rfl) rfl ?_
  apply Tr.andP
  ·exact (rfl : _ = (4, 50, 54))
  ·exact rfl
  ·intro hT14; have hT14' := hT14
   try simp only [bs] at hT14'
   refine Tr.gq rfl rfl hT14 (QS.fieldAddr (off := 0) (ft := 24) rfl Try.underlying50 rfl rfl Try.sizeOf24 (by decide)) rfl ?_
   refine Tr.gq rfl rfl hT14 (QS.lV rfl Try.isAgg24) rfl ?_
   refine Tr.gq rfl rfl hT14 (QS.eql rfl rfl) rfl ?_
   refine Tr.q (QS.pickT rfl hT14 rfl) rfl ?_
   refine Tr.nil (Tr.thenN ?_)
   exact Tr.endX (Sub.cons rfl (Sub.dropN 4 (by kernel_rfl) rfl))
  ·intro hF14
   refine Tr.gskip rfl rfl hF14 rfl ?_
   refine Tr.gskip rfl rfl hF14 rfl ?_
   refine Tr.gskip rfl rfl hF14 rfl ?_
   refine Tr.q (QS.pickF rfl hF14 rfl) rfl ?_
   refine Tr.nil (Tr.thenN ?_)
   exact Tr.endX (Sub.cons rfl (Sub.dropN 4 (by kernel_rfl) rfl))
  refine Tr.q (QS.move rfl) rfl ?_
  apply Tr.andP
  ·exact (rfl : _ = (4, 55, 59))
  ·exact rfl
  ·intro hT15; have hT15' := hT15
   try simp only [bs] at hT15'
   refine Tr.gq rfl rfl hT15 (QS.fieldAddr (off := 2) (ft := 3) rfl Try.underlying50 rfl rfl Try.sizeOf3 (by decide)) rfl ?_
   refine Tr.gq rfl rfl hT15 (QS.lV rfl Try.isAgg3) rfl ?_
   refine Tr.gq rfl rfl hT15 (QS.eql rfl rfl) rfl ?_
   refine Tr.q (QS.pickT rfl hT15 rfl) rfl ?_
   refine Tr.nil (Tr.thenN ?_)
   exact Tr.endX (Sub.cons rfl (Sub.dropN 4 (by kernel_rfl) rfl))
  ·intro hF15
   refine Tr.gskip rfl rfl hF15 rfl ?_
   refine Tr.gskip rfl rfl hF15 rfl ?_
   refine Tr.gskip rfl rfl hF15 rfl ?_
   refine Tr.q (QS.pickF rfl hF15 rfl) rfl ?_
   refine Tr.nil (Tr.thenN ?_)
   exact Tr.endX (Sub.cons rfl (Sub.dropN 4 (by kernel_rfl) rfl))
  refine Tr.q (QS.move rfl) rfl ?_
  apply Tr.andP
  ·exact (rfl : _ = (3, 60, 63))
  ·exact rfl
  ·intro hT16; have hT16' := hT16
   try simp only [bs] at hT16'
   refine Tr.gq rfl rfl hT16 (QS.move rfl) rfl ?_
   refine Tr.gq rfl rfl hT16 (QS.call rfl Try.call20 (fun w hw => halted_cpu t4 bc1 bM1 vi1 vo4 ef4 w (cellE.cellsIn (hw.ent _ (by repeat constructor)) (Ext.refl _)))) rfl ?_
   refine Tr.q (QS.pickT rfl hT16 rfl) rfl ?_
   refine Tr.nil (Tr.thenN ?_)
   exact Tr.endX (Sub.cons rfl (Sub.dropN 3 (by kernel_rfl) rfl))
  ·intro hF16
   refine Tr.gskip rfl rfl hF16 rfl ?_
   refine Tr.gskip rfl rfl hF16 rfl ?_
   refine Tr.q (QS.pickF rfl hF16 rfl) rfl ?_
   refine Tr.nil (Tr.thenN ?_)
   exact Tr.endX (Sub.cons rfl (Sub.dropN 3 (by kernel_rfl) rfl))
  refine Tr.q (QS.move rfl) rfl ?_
  apply Tr.andP
  ·exact (rfl : _ = (4, 64, 68))
  ·exact rfl
  ·intro hT17; have hT17' := hT17
   try simp only [bs] at hT17'
   refine Tr.gq rfl rfl hT17 (QS.fieldAddr (off := 0) (ft := 24) rfl Try.underlying50 rfl rfl Try.sizeOf24 (by decide)) rfl ?_
   refine Tr.gq rfl rfl hT17 (QS.lV rfl Try.isAgg24) rfl ?_
   refine Tr.gq rfl rfl hT17 (QS.eql rfl rfl) rfl ?_
   refine Tr.q (QS.pickT rfl hT17 rfl) rfl ?_
   refine Tr.nil (Tr.thenN ?_)
   exact Tr.endX (Sub.cons rfl (Sub.dropN 4 (by kernel_rfl) rfl))
  ·intro hF17
   refine Tr.gskip rfl rfl hF17 rfl ?_
   refine Tr.gskip rfl rfl hF17 rfl ?_
   refine Tr.gskip rfl rfl hF17 rfl ?_
   refine Tr.q (QS.pickF rfl hF17 rfl) rfl ?_
   refine Tr.nil (Tr.thenN ?_)
   exact Tr.endX (Sub.cons rfl (Sub.dropN 4 (by kernel_rfl) rfl))
  refine Tr.q (QS.move rfl) rfl ?_
  apply Tr.andP
  ·exact (rfl : _ = (4, 69, 73))
  ·exact rfl
  ·intro hT18; have hT18' := hT18
   try simp only [bs] at hT18'
   refine Tr.gq rfl rfl hT18 (QS.fieldAddr (off := 2) (ft := 3) rfl Try.underlying50 rfl rfl Try.sizeOf3 (by decide)) rfl ?_
   refine Tr.gq rfl rfl hT18 (QS.lV rfl Try.isAgg3) rfl ?_
   refine Tr.gq rfl rfl hT18 (QS.eql rfl rfl) rfl ?_
   refine Tr.q (QS.pickT rfl hT18 rfl) rfl ?_
   refine Tr.nil (Tr.thenN ?_)
   exact Tr.endX (Sub.cons rfl (Sub.dropN 4 (by kernel_rfl) rfl))
  ·intro hF18
   refine Tr.gskip rfl rfl hF18 rfl ?_
   refine Tr.gskip rfl rfl hF18 rfl ?_
   refine Tr.gskip rfl rfl hF18 rfl ?_
   refine Tr.q (QS.pickF rfl hF18 rfl) rfl ?_
   refine Tr.nil (Tr.thenN ?_)
   exact Tr.endX (Sub.cons rfl (Sub.dropN 4 (by kernel_rfl) rfl))
  refine Tr.q (QS.move rfl) rfl ?_
  apply Tr.andP
  ·exact (rfl : _ = (4, 74, 78))
  ·exact rfl
  ·intro hT19; have hT19' := hT19
   try simp only [bs] at hT19'
   refine Tr.gq rfl rfl hT19 (QS.fieldAddr (off := 8) (ft := 22) rfl Try.underlying42 rfl rfl Try.sizeOf22 (by decide)) rfl ?_
   refine Tr.gq rfl rfl hT19 (QS.lV rfl Try.isAgg22) rfl ?_
   refine Tr.gq rfl rfl hT19 (QS.eql32 (n := 4294967295) rfl rfl) rfl ?_
   refine Tr.q (QS.pickT rfl hT19 rfl) rfl ?_
   refine Tr.nil (Tr.thenN ?_)
   exact Tr.endX (Sub.cons rfl (Sub.dropN 4 (by kernel_rfl) rfl))
  ·intro hF19
   refine Tr.gskip rfl rfl hF19 rfl ?_
   refine Tr.gskip rfl rfl hF19 rfl ?_
   refine Tr.gskip rfl rfl hF19 rfl ?_
   refine Tr.q (QS.pickF rfl hF19 rfl) rfl ?_
   refine Tr.nil (Tr.thenN ?_)
   exact Tr.endX (Sub.cons rfl (Sub.dropN 4 (by kernel_rfl) rfl))
  refine Tr.q (QS.move rfl) rfl ?_
  apply Tr.andP
  ·exact (rfl : _ = (5, 79, 84))
  ·exact rfl
  ·intro hT20; have hT20' := hT20
   try simp only [bs] at hT20'
   refine Tr.gq rfl rfl hT20 (QS.fieldAddr (off := 0) (ft := 38) rfl Try.underlying42 rfl rfl Try.sizeOf38 (by decide)) rfl ?_
   refine Tr.gq rfl rfl hT20 (QS.idxArr rfl rfl Try.underlying38 Try.sizeOf22 (by omega)) rfl ?_
   refine Tr.gq rfl rfl hT20 (QS.lV rfl Try.isAgg22) rfl ?_
   refine Tr.gq rfl rfl hT20 (QS.eql32 (n := 983040) rfl rfl) rfl ?_
   refine Tr.q (QS.pickT rfl hT20 rfl) rfl ?_
   refine Tr.nil (Tr.thenN ?_)
   exact Tr.endX (Sub.cons rfl (Sub.dropN 5 (by kernel_rfl) rfl))
  ·intro hF20
   refine Tr.gskip rfl rfl hF20 rfl ?_
   refine Tr.gskip rfl rfl hF20 rfl ?_
   refine Tr.gskip rfl rfl hF20 rfl ?_
   refine Tr.gskip rfl rfl hF20 rfl ?_
   refine Tr.q (QS.pickF rfl hF20 rfl) rfl ?_
   refine Tr.nil (Tr.thenN ?_)
   exact Tr.endX (Sub.cons rfl (Sub.dropN 5 (by kernel_rfl) rfl))
  refine Tr.q (QS.move rfl) rfl ?_
  apply Tr.andP
  ·exact (rfl : _ = (4, 85, 89))
  ·exact rfl
  ·intro hT21; have hT21' := hT21
   try simp only [bs] at hT21'
   refine Tr.gq rfl rfl hT21 (QS.call rfl Try.call15 (fun w hw => start_cpu 7 w)) rfl ?_
   refine Tr.gq rfl rfl hT21 (QS.field (k := 0) (off := 8) (ft := 22) rfl Try.underlying42 rfl rfl Try.isAgg22 rfl) rfl ?_
   refine Tr.gq rfl rfl hT21 (QS.eql32 (n := 7) rfl rfl) rfl ?_
   refine Tr.q (QS.pickT rfl hT21 rfl) rfl ?_
   refine Tr.nil (Tr.thenN ?_)
   exact Tr.endX (Sub.cons rfl (Sub.dropN 4 (by kernel_rfl) rfl))
  ·intro hF21
   refine Tr.gskip rfl rfl hF21 rfl ?_
   refine Tr.gskip rfl rfl hF21 rfl ?_
   refine Tr.gskip rfl rfl hF21 rfl ?_
   refine Tr.q (QS.pickF rfl hF21 rfl) rfl ?_
   refine Tr.nil (Tr.thenN ?_)
   exact Tr.endX (Sub.cons rfl (Sub.dropN 4 (by kernel_rfl) rfl))
  refine Tr.q (QS.assign rfl) rfl ?_
  refine Tr.nil (Tr.thenN (Tr.ret ?_))
  refine Tr.ret1 Try.results21 rfl (fun w' hw => ?_)
  exact ⟨by simp [hx1, hx2, hx3, hy1, hy2, hy3, hz1, hz2, hz3, hz4, startM], hw.below0 hF16⟩
end Go.Proofs.Ytpeaodkfbjenpaa
namespace Go.HL
open Go
theorem fin_of {n : Nat} {a : Int} (h : 0 ≤ a ∧ a < n) : ∃ m : Fin n, a = (m.val : Int) := ⟨⟨a.toNat, by omega⟩, by simp; omega⟩
def stripP (i : Ins) (s : Int) : Ins := ⟨0, 0, i.op, i.form, i.width, i.cc, if s = 1 then i.a else 0, 0, 0⟩
theorem row_code {i : Ins} {c : UInt8} {s : Int} (h1 : opcodeP i = (c, s, true)) (hs : okOp i s) (hk : keptP i s = i) (ha : 0 ≤ i.a ∧ i.a < 8) : rowP c = (stripP i s, true) := by
  obtain ⟨kI, kf, kw, kc, ka, kB⟩ := (kept_iff i s).1 hk
  clear kI kB
  have strip : ∀ op form width cc a : Int, i.op = op → i.form = form → i.width = width → i.cc = cc → (if s = 1 then i.a else 0) = a → stripP i s = ⟨0, 0, op, form, width, cc, a, 0, 0⟩ := fun op form width cc a e1 e2 e3 e4 e5 => by
    unfold stripP; rw [e1, e2, e3, e4, e5]
  cases hs
  case c0 h =>
    have o : opcodeP i = (u8 i.op, 0, true) := by unfold opcodeP; rw [if_pos h]
    rw [opEq h1 o, strip i.op 0 0 0 0 rfl (by omega) (by omega) (by omega) (by rw [if_neg (by omega)])]
    rcases h with h | h | h <;> rw [h] <;> decide +kernel
  case c1 h =>
    have e8 : i.a % 8 = i.a := by omega
    obtain ⟨m, hm⟩ := fin_of (n := 8) ha
    rcases h with h | h
    · have o : opcodeP i = (8 + u8 (i.a % 8), 1, true) := by unfold opcodeP; rw [if_neg (by omega), if_pos h]
      rw [opEq h1 o, e8, strip 3 0 0 0 i.a h (by omega) (by omega) (by omega) (by rw [if_pos rfl]), hm]
      exact (by decide +kernel : ∀ m : Fin 8, rowP (8 + u8 (m.val : Int)) = (⟨0, 0, 3, 0, 0, 0, m.val, 0, 0⟩, true)) m
    · have o : opcodeP i = (16 + u8 (i.a % 8), 1, true) := by unfold opcodeP; rw [if_neg (by omega), if_neg (by omega), if_pos h]
      rw [opEq h1 o, e8, strip 4 0 0 0 i.a h (by omega) (by omega) (by omega) (by rw [if_pos rfl]), hm]
      exact (by decide +kernel : ∀ m : Fin 8, rowP (16 + u8 (m.val : Int)) = (⟨0, 0, 4, 0, 0, 0, m.val, 0, 0⟩, true)) m
  case c2 h =>
    have o : opcodeP i = (32 + u8 (i.op - 5), 3, true) := by unfold opcodeP; repeat (first | rw [if_pos (by omega)] | rw [if_neg (by omega)])
    obtain ⟨m, hm⟩ := fin_of (n := 11) (a := i.op - 5) (by omega)
    rw [opEq h1 o, strip (5 + (m.val : Int)) 0 0 0 0 (by omega) h.2 (by omega) (by omega) (by rw [if_neg (by omega)]), hm]
    clear hm; revert m; decide +kernel
  case c3 h =>
    have o : opcodeP i = (48 + u8 (i.op - 5), 4, true) := by unfold opcodeP; repeat (first | rw [if_pos (by omega)] | rw [if_neg (by omega)])
    obtain ⟨m, hm⟩ := fin_of (n := 11) (a := i.op - 5) (by omega)
    rw [opEq h1 o, strip (5 + (m.val : Int)) 1 0 0 0 (by omega) h.2 (by omega) (by omega) (by rw [if_neg (by omega)]), hm]
    clear hm; revert m; decide +kernel
  case c4 h =>
    have o : opcodeP i = (64 + u8 (i.op - 5), 6, true) := by unfold opcodeP; repeat (first | rw [if_pos (by omega)] | rw [if_neg (by omega)])
    obtain ⟨m, hm⟩ := fin_of (n := 11) (a := i.op - 5) (by omega)
    rw [opEq h1 o, strip (5 + (m.val : Int)) 2 0 0 0 (by omega) h.2 (by omega) (by omega) (by rw [if_neg (by omega)]), hm]
    clear hm; revert m; decide +kernel
  case c5 h =>
    have o : opcodeP i = (accessP i, 5, decide (accessP i ≠ 0)) := by unfold opcodeP; repeat (first | rw [if_pos (by omega)] | rw [if_neg (by omega)])
    rw [opEq h1 o, strip i.op 0 i.width 0 0 rfl (by omega) rfl (by omega) (by rw [if_neg (by omega)])]
    unfold accessP
    obtain ⟨k1 | k1, k2 | k2 | k2⟩ := h <;> rw [k1, k2] <;> decide +kernel
  case c6 h =>
    have o : opcodeP i = (accessP i, 5, decide (accessP i ≠ 0)) := by unfold opcodeP; repeat (first | rw [if_pos (by omega)] | rw [if_neg (by omega)])
    rw [opEq h1 o, strip i.op 0 i.width 0 0 rfl (by omega) rfl (by omega) (by rw [if_neg (by omega)])]
    unfold accessP
    obtain ⟨k1, k2 | k2⟩ := h <;> rw [k1, k2] <;> decide +kernel
  case c7 h =>
    have o : opcodeP i = (90, 5, true) := by unfold opcodeP; repeat (first | rw [if_pos (by omega)] | rw [if_neg (by omega)])
    rw [opEq h1 o, strip 19 0 0 0 0 h (by omega) (by omega) (by omega) (by rw [if_neg (by omega)])]; decide +kernel
  case c8 h =>
    have o : opcodeP i = (144 + u8 i.cc, 2, true) := by unfold opcodeP condP; repeat (first | rw [if_pos (by omega)] | rw [if_neg (by omega)])
    obtain ⟨m, hm⟩ := fin_of (n := 15) (a := i.cc) (by omega)
    rw [opEq h1 o, strip 25 0 0 i.cc 0 h.1 (by omega) (by omega) rfl (by rw [if_neg (by omega)]), hm]
    clear hm; revert m; decide +kernel
  case c9 h =>
    have o : opcodeP i = (96 + u8 i.cc, 7, true) := by unfold opcodeP condP; repeat (first | rw [if_pos (by omega)] | rw [if_neg (by omega)])
    obtain ⟨m, hm⟩ := fin_of (n := 15) (a := i.cc) (by omega)
    rw [opEq h1 o, strip 20 1 0 i.cc 0 h.1 h.2.2 (by omega) rfl (by rw [if_neg (by omega)]), hm]
    clear hm; revert m; decide +kernel
  case c10 h =>
    have o : opcodeP i = (112 + u8 i.cc, 8, true) := by unfold opcodeP condP; repeat (first | rw [if_pos (by omega)] | rw [if_neg (by omega)])
    obtain ⟨m, hm⟩ := fin_of (n := 15) (a := i.cc) (by omega)
    rw [opEq h1 o, strip 20 2 0 i.cc 0 h.1 h.2.2 (by omega) rfl (by rw [if_neg (by omega)]), hm]
    clear hm; revert m; decide +kernel
  case c11 h =>
    have o : opcodeP i = (128, 8, true) := by unfold opcodeP; repeat (first | rw [if_pos (by omega)] | rw [if_neg (by omega)])
    rw [opEq h1 o, strip 23 0 0 0 0 h (by omega) (by omega) (by omega) (by rw [if_neg (by omega)])]; decide +kernel
  case c12 h =>
    have o : opcodeP i = (129, 2, true) := by unfold opcodeP; repeat (first | rw [if_pos (by omega)] | rw [if_neg (by omega)])
    rw [opEq h1 o, strip 24 0 0 0 0 h (by omega) (by omega) (by omega) (by rw [if_neg (by omega)])]; decide +kernel
  case c13 h =>
    have o : opcodeP i = (130, 2, true) := by unfold opcodeP; repeat (first | rw [if_pos (by omega)] | rw [if_neg (by omega)])
    rw [opEq h1 o, strip 21 0 0 0 0 h (by omega) (by omega) (by omega) (by rw [if_neg (by omega)])]; decide +kernel
  case c14 h =>
    have o : opcodeP i = (131, 6, true) := by unfold opcodeP; repeat (first | rw [if_pos (by omega)] | rw [if_neg (by omega)])
    rw [opEq h1 o, strip 22 0 0 0 0 h (by omega) (by omega) (by omega) (by rw [if_neg (by omega)])]; decide +kernel
  case c15 h =>
    have o : opcodeP i = (160, 2, true) := by unfold opcodeP; repeat (first | rw [if_pos (by omega)] | rw [if_neg (by omega)])
    rw [opEq h1 o, strip 26 0 0 0 0 h (by omega) (by omega) (by omega) (by rw [if_neg (by omega)])]; decide +kernel
  case c16 h =>
    have o : opcodeP i = (161, 2, true) := by unfold opcodeP; repeat (first | rw [if_pos (by omega)] | rw [if_neg (by omega)])
    rw [opEq h1 o, strip 27 0 0 0 0 h (by omega) (by omega) (by omega) (by rw [if_neg (by omega)])]; decide +kernel
theorem strip_opcode {i : Ins} {c : UInt8} {s : Int} (h1 : opcodeP i = (c, s, true)) (hs : okOp i s) : opcodeP (stripP i s) = (c, s, true) := by
  rw [← h1]
  refine opcodeP_congr rfl rfl rfl rfl fun q => ?_
  have q' : i.op = 3 ∨ i.op = 4 := q
  have : s = 1 := by cases hs <;> omega
  subst this
  rfl
/-- What the first byte of an encoding says. -/
theorem enc_head {i : Ins} (h : errP i = 0) : ∃ c s, opcodeP i = (c, s, true) ∧ okOp i s ∧ encodeP i = c :: argsP s i (i.addr + u32 (sizeP s)) ∧ rowP c = (stripP i s, true) ∧ opcodeP (stripP i s) = (c, s, true) ∧ ((encodeP i).length : Int) = sizeP s ∧ (0 ≤ s ∧ s ≤ 8) := by
  obtain ⟨c, s, h1, h2⟩ := opcode_errP h
  obtain ⟨hk, ha, hb, _⟩ := errP_narrow h h1
  have hsh := opcodeP_shape i
  rw [h1] at hsh
  replace hsh : 0 ≤ s ∧ s ≤ 8 := hsh
  have e : encodeP i = c :: argsP s i (i.addr + u32 (sizeP s)) := by unfold encodeP; rw [if_pos h, h1]
  refine ⟨c, s, h1, h2, e, row_code h1 h2 hk ha, strip_opcode h1 h2, ?_, hsh⟩
  have q := args_len hsh i (i.addr + u32 (sizeP s))
  have q2 : (encodeP i).length = (argsP s i (i.addr + u32 (sizeP s))).length + 1 := by rw [e]; rfl
  omega
theorem getD_enc {l more : List UInt8} {j : Nat} (h : j < l.length) : (l ++ more).getD j default = l.getD j default := by
  simp only [List.getD_eq_getElem?_getD]
  rw [List.getElem?_append_left h]
/-- Decoding an encoding, whatever follows. -/
theorem dec_enc {i : Ins} (h : errP i = 0) (more : List UInt8) : decP (encodeP i ++ more) i.addr = ({ i with size := (encodeP i).length }, 0) := by
  obtain ⟨c, s, h1, h2, e, hr, ho, hl, hsh⟩ := enc_head h
  obtain ⟨hk, ha, hb, hn5, hn7⟩ := errP_narrow h h1
  obtain ⟨ki, kf, kw, kc, ka, kb⟩ := (kept_iff i s).1 hk
  have hpos : 1 ≤ sizeP s := by unfold sizeP; repeat' split
                                all_goals omega
  have hd : (encodeP i ++ more).getD 0 default = c := by rw [getD_enc (by omega), e]; rfl
  have e4 := decP_4 (b := encodeP i ++ more) (addr := i.addr) (by rw [List.length_append]; omega) (by rw [hd, hr]) (by rw [hd, hr, ho, List.length_append]; show ¬ _ < sizeP s; omega) (k := _) rfl
  rw [← applyP_two] at e4
  rw [hd, hr] at e4
  simp only [ho] at e4
  have body : applyP s { stripP i s with addr := i.addr, size := sizeP s } (encodeP i ++ more) (i.addr + u32 (sizeP s)) = { i with size := (encodeP i).length } := by
    rw [hl]
    have ext : ∀ (imm : UInt32) (a b : Int), imm = i.imm → a = i.a → b = i.b → (⟨i.addr, imm, i.op, i.form, i.width, i.cc, a, b, sizeP s⟩ : Ins) = { i with size := sizeP s } := fun imm a b q1 q2 q3 => by rw [q1, q2, q3]
    have g : ∀ j, j < (encodeP i).length → (encodeP i ++ more).getD j default = (c :: argsP s i (i.addr + u32 (sizeP s))).getD j default := fun j hj => by rw [getD_enc hj, e]
    have r16 : ∀ a b : Int, (0 ≤ a ∧ a < 8) → (0 ≤ b ∧ b < 8) → (((u8 (a * 16 + b) / 16).toNat : Nat) : Int) = a ∧ (((u8 (a * 16 + b) % 16).toNat : Nat) : Int) = b := fun a b qa qb => by
      have q := u8_small (x := a * 16 + b) (by omega)
      have c16 : (16 : UInt8).toNat = 16 := rfl
      rw [UInt8.toNat_div, UInt8.toNat_mod, c16]
      omega
    have hlt : ∀ j : Nat, (j : Int) < sizeP s → j < (encodeP i).length := fun j hj => by omega
    rcases shape_cases hsh with rfl | rfl | rfl | rfl | rfl | rfl | rfl | rfl | rfl
    · exact ext 0 0 0 (by have := ki; rcases ki with q | q; omega; exact q.symm) (by omega) (by omega)
    · exact ext 0 i.a 0 (by rcases ki with q | q; omega; exact q.symm) rfl (by omega)
    · refine ext 0 _ 0 (by rcases ki with q | q; omega; exact q.symm) ?_ (by omega)
      rw [g 1 (hlt 1 (by show (1 : Int) < 2; omega))]
      exact u8_small (by omega)
    · refine ext 0 _ _ (by rcases ki with q | q; omega; exact q.symm) ?_ ?_
      · rw [g 1 (hlt 1 (by show (1 : Int) < 2; omega))]; exact (r16 _ _ ha hb).1
      · rw [g 1 (hlt 1 (by show (1 : Int) < 2; omega))]; exact (r16 _ _ ha hb).2
    · refine ext _ _ 0 ?_ ?_ (by omega)
      · rw [g 2 (hlt 2 (by show (2 : Int) < 3; omega))]; exact narrow_sext _ (hn5 (by omega))
      · rw [g 1 (hlt 1 (by show (1 : Int) < 3; omega))]; exact u8_small (by omega)
    · refine ext _ _ _ ?_ ?_ ?_
      · rw [g 2 (hlt 2 (by show (2 : Int) < 3; omega))]; exact narrow_sext _ (hn5 (by omega))
      · rw [g 1 (hlt 1 (by show (1 : Int) < 3; omega))]; exact (r16 _ _ ha hb).1
      · rw [g 1 (hlt 1 (by show (1 : Int) < 3; omega))]; exact (r16 _ _ ha hb).2
    · refine ext _ _ 0 ?_ ?_ (by omega)
      · rw [e]; exact long_put [c, u8 i.a] more i.imm
      · rw [g 1 (hlt 1 (by show (1 : Int) < 6; omega))]; exact u8_small (by omega)
    · refine ext _ 0 0 ?_ (by omega) (by omega)
      rw [g 1 (hlt 1 (by show (1 : Int) < 2; omega))]
      have q := narrow_sext _ (hn7 rfl)
      have e2 : i.imm - (i.addr + u32 (sizeP 7)) = i.imm - i.addr - 2 := sub_add32 _ _ _
      show (i.addr + u32 (sizeP 7)) + sextP ((i.imm - (i.addr + u32 (sizeP 7))).toUInt8) = i.imm
      rw [e2, q, ← e2, add_sub32]
    · refine ext _ 0 0 ?_ (by omega) (by omega)
      have q := long_put [c] more (i.imm - (i.addr + u32 (sizeP 8)))
      have e5 : encodeP i ++ more = [c] ++ putP [] (i.imm - (i.addr + u32 (sizeP 8))) 4 ++ more := by rw [e]; rfl
      rw [e5]
      show (i.addr + u32 (sizeP 8)) + longP _ 1 = i.imm
      rw [show longP ([c] ++ putP [] (i.imm - (i.addr + u32 (sizeP 8))) 4 ++ more) 1 = i.imm - (i.addr + u32 (sizeP 8)) from q, add_sub32]
  rw [body] at e4
  rw [e4, if_neg]
  simp only [not_or, Bool.not_eq_false]
  exact ⟨regP_iff.2 ha, regP_iff.2 hb⟩
end Go.HL
namespace Go.HL
open Go Go.RowKit
section
variable {l : List SecV} {inp : List UInt32} {s : St} {n : Nat}
theorem run_go (h1 : s.done = false) (h2 : s.err = 0) : runS l inp (n + 1) s = runS l inp n (stepS l inp s).1 ∧ traceS l inp (n + 1) s = s.m.pc :: traceS l inp n (stepS l inp s).1 :=
  ⟨by rw [runS, if_pos ⟨h1, h2⟩], by rw [traceS, if_pos ⟨h1, h2⟩]⟩
end
theorem step_at {l : List SecV} {inp : List UInt32} {s : St} {b : List UInt8} {i : Ins} {nx : UInt32} (h1 : s.done = false) (h2 : s.err = 0) (hf : fetchA l s.w s.m.pc = (b, 0)) (hd : decP b s.m.pc = (i, 0)) (hn : nextP i = nx) :
    stepS l inp s = ({ (effS l inp s i nx).1 with err := (effS l inp s i nx).2 }, (effS l inp s i nx).2) := by
  have he : execS l inp s = effS l inp s i nx := by
    unfold execS
    rw [hf, if_neg (by simp)]
    show (if (decP b s.m.pc).2 ≠ 0 then _ else _) = _
    rw [hd, if_neg (by simp)]
    show effS l inp s i (nextP i) = _
    rw [hn]
  unfold stepS
  rw [if_neg (by rw [h1]; simp), if_neg (by rw [h2]; simp), he]
def wb (n : UInt32) (k : Nat) : UInt8 := (shr32 n (8 * (k : Int)).toNat).toUInt8
theorem codeF_eq {b e : List UInt8} {x : Ins} {a : UInt32} (ha : 4096 + u32 (b.length : Int) = a) (he : encodeP { x with addr := a } = e) : codeF b x = b ++ e := by
  unfold codeF
  rw [ha, he]
section
variable (n : UInt32) (dp : Option Addr) (dc : Nat)
def outS (p : UInt32) (k : Nat) (e : Int) : St := ⟨{ startM p with r1 := n }, (newS 4096).w, 0, List.replicate k n, false, e⟩
theorem out_len (p : UInt32) (k : Nat) (e : Int) : (outS n p k e).out.length = k := List.length_replicate
theorem trans_out {inp : List UInt32} {s : St} {i : Ins} {nx : UInt32} (h : i.op = 27) (hk : ¬ 4096 ≤ s.out.length) : transS inp s i nx = ({ s with m := s.m.to nx, out := s.out ++ [s.m.reg i.a] }, 0) := by
  unfold transS
  rw [if_neg (by omega), if_neg hk]
theorem eff_trans {l : List SecV} {inp : List UInt32} {s : St} {i : Ins} {nx : UInt32} (h : i.op = 26 ∨ i.op = 27) : effS l inp s i nx = transS inp s i nx := by
  unfold effS
  rw [if_neg (by omega), if_neg (by omega), if_neg (by omega), if_neg (by omega), if_pos h]
end
end Go.HL
namespace Go.HL
open Go Go.RowKit
theorem eff_plain {l : List SecV} {inp : List UInt32} {s : St} {i : Ins} {nx : UInt32} (h : i.op = 1 ∨ 5 ≤ i.op ∧ i.op ≤ 15) : effS l inp s i nx = (plainS s i nx, 0) := by
  unfold effS
  rw [if_neg (by omega), if_neg (by omega), if_neg (by omega), if_neg (by omega), if_neg (by omega)]
section
variable (e : UInt8) (x y : UInt32) (dp : Option Addr) (dc : Nat)
end
end Go.HL
namespace Go.HL
open Go Go.RowKit
theorem seven {X : Nat → Prop} (h : X 0 ∧ X 1 ∧ X 2 ∧ X 3 ∧ X 4 ∧ X 5 ∧ X 6) {k : Nat} (hk : k < 7) : X k := by
  obtain ⟨h0, h1, h2, h3, h4, h5, h6⟩ := h
  have : k = 0 ∨ k = 1 ∨ k = 2 ∨ k = 3 ∨ k = 4 ∨ k = 5 ∨ k = 6 := by omega
  rcases this with rfl | rfl | rfl | rfl | rfl | rfl | rfl <;> assumption
def r8 (k : Nat) : UInt8 := UInt8.ofNat k
theorem dec_of {i : Ins} {b : List UInt8} (he : errP i = 0) (hb : encodeP i = b) (more : List UInt8) : decP (b ++ more) i.addr = ({ i with size := (b.length : Int) }, 0) := hb ▸ dec_enc he more
theorem st_err0 {k : Nat} (hk : k < 7) (addr n : UInt32) : errP ⟨addr, n, 5, 2, 0, 0, (k : Int), 0, 0⟩ = 0 :=
  seven (X := fun k => errP ⟨addr, n, 5, 2, 0, 0, (k : Int), 0, 0⟩ = 0) (by refine ⟨?_, ?_, ?_, ?_, ?_, ?_, ?_⟩ <;> simp [errP, opcodeP, keptP, regP, narrowP]) hk
theorem st_enc0 {k : Nat} (hk : k < 7) (addr n : UInt32) : encodeP ⟨addr, n, 5, 2, 0, 0, (k : Int), 0, 0⟩ = [64, r8 k, wb n 0, wb n 1, wb n 2, wb n 3] :=
  seven (X := fun k => encodeP ⟨addr, n, 5, 2, 0, 0, (k : Int), 0, 0⟩ = [64, r8 k, wb n 0, wb n 1, wb n 2, wb n 3]) (by refine ⟨?_, ?_, ?_, ?_, ?_, ?_, ?_⟩ <;> (unfold encodeP; rw [if_pos (by simp [errP, opcodeP, keptP, regP, narrowP])]; rfl)) hk
theorem st_enc1 {k : Nat} (hk : k < 7) : encodeP ⟨4102, 0, 3, 0, 0, 0, (k : Int), 0, 0⟩ = [8 + r8 k] :=
  seven (X := fun k => encodeP ⟨4102, 0, 3, 0, 0, 0, (k : Int), 0, 0⟩ = [8 + r8 k]) ⟨by kernel_rfl, by kernel_rfl, by kernel_rfl, by kernel_rfl, by kernel_rfl, by kernel_rfl, by kernel_rfl⟩ hk
theorem st_enc2 {k : Nat} (hk : k < 7) : encodeP ⟨4103, 0, 4, 0, 0, 0, (k : Int), 0, 0⟩ = [16 + r8 k] :=
  seven (X := fun k => encodeP ⟨4103, 0, 4, 0, 0, 0, (k : Int), 0, 0⟩ = [16 + r8 k]) ⟨by kernel_rfl, by kernel_rfl, by kernel_rfl, by kernel_rfl, by kernel_rfl, by kernel_rfl, by kernel_rfl⟩ hk
theorem st_enc3 {k : Nat} (hk : k < 7) : encodeP ⟨4104, 0, 27, 0, 0, 0, (k : Int), 0, 0⟩ = [161, r8 k] :=
  seven (X := fun k => encodeP ⟨4104, 0, 27, 0, 0, 0, (k : Int), 0, 0⟩ = [161, r8 k]) ⟨by kernel_rfl, by kernel_rfl, by kernel_rfl, by kernel_rfl, by kernel_rfl, by kernel_rfl, by kernel_rfl⟩ hk
theorem st_err1 {k : Nat} (hk : k < 7) : errP ⟨4102, 0, 3, 0, 0, 0, (k : Int), 0, 0⟩ = 0 :=
  seven (X := fun k => errP ⟨4102, 0, 3, 0, 0, 0, (k : Int), 0, 0⟩ = 0) ⟨by kernel_rfl, by kernel_rfl, by kernel_rfl, by kernel_rfl, by kernel_rfl, by kernel_rfl, by kernel_rfl⟩ hk
theorem st_err2 {k : Nat} (hk : k < 7) : errP ⟨4103, 0, 4, 0, 0, 0, (k : Int), 0, 0⟩ = 0 :=
  seven (X := fun k => errP ⟨4103, 0, 4, 0, 0, 0, (k : Int), 0, 0⟩ = 0) ⟨by kernel_rfl, by kernel_rfl, by kernel_rfl, by kernel_rfl, by kernel_rfl, by kernel_rfl, by kernel_rfl⟩ hk
theorem st_err3 {k : Nat} (hk : k < 7) : errP ⟨4104, 0, 27, 0, 0, 0, (k : Int), 0, 0⟩ = 0 :=
  seven (X := fun k => errP ⟨4104, 0, 27, 0, 0, 0, (k : Int), 0, 0⟩ = 0) ⟨by kernel_rfl, by kernel_rfl, by kernel_rfl, by kernel_rfl, by kernel_rfl, by kernel_rfl, by kernel_rfl⟩ hk
theorem st_next0 {k : Nat} (hk : k < 7) (n : UInt32) : nextP ⟨4096, n, 5, 2, 0, 0, (k : Int), 0, 6⟩ = 4102 :=
  seven (X := fun k => nextP ⟨4096, n, 5, 2, 0, 0, (k : Int), 0, 6⟩ = 4102) (by refine ⟨?_, ?_, ?_, ?_, ?_, ?_, ?_⟩ <;> (unfold nextP lengthPI; rw [if_pos (by simp [errP, opcodeP, keptP, regP, narrowP])]; rfl)) hk
theorem st_next1 {k : Nat} (hk : k < 7) : nextP ⟨4102, 0, 3, 0, 0, 0, (k : Int), 0, 1⟩ = 4103 :=
  seven (X := fun k => nextP ⟨4102, 0, 3, 0, 0, 0, (k : Int), 0, 1⟩ = 4103) ⟨by kernel_rfl, by kernel_rfl, by kernel_rfl, by kernel_rfl, by kernel_rfl, by kernel_rfl, by kernel_rfl⟩ hk
theorem st_next2 {k : Nat} (hk : k < 7) : nextP ⟨4103, 0, 4, 0, 0, 0, (k : Int), 0, 1⟩ = 4104 :=
  seven (X := fun k => nextP ⟨4103, 0, 4, 0, 0, 0, (k : Int), 0, 1⟩ = 4104) ⟨by kernel_rfl, by kernel_rfl, by kernel_rfl, by kernel_rfl, by kernel_rfl, by kernel_rfl, by kernel_rfl⟩ hk
theorem st_next3 {k : Nat} (hk : k < 7) : nextP ⟨4104, 0, 27, 0, 0, 0, (k : Int), 0, 2⟩ = 4106 :=
  seven (X := fun k => nextP ⟨4104, 0, 27, 0, 0, 0, (k : Int), 0, 2⟩ = 4106) ⟨by kernel_rfl, by kernel_rfl, by kernel_rfl, by kernel_rfl, by kernel_rfl, by kernel_rfl, by kernel_rfl⟩ hk
def stI (a b : Nat) (n : UInt32) : List Ins := [⟨0, n, 5, 2, 0, 0, (a : Int), 0, 0⟩, ⟨0, 0, 3, 0, 0, 0, (a : Int), 0, 0⟩, ⟨0, 0, 4, 0, 0, 0, (b : Int), 0, 0⟩, ⟨0, 0, 27, 0, 0, 0, (b : Int), 0, 0⟩, ⟨0, 4112, 23, 0, 0, 0, 0, 0, 0⟩, ⟨0, 0, 1, 0, 0, 0, 0, 0, 0⟩, ⟨0, 0, 2, 0, 0, 0, 0, 0, 0⟩]
def stB (e1 e2 e3 e4 : UInt8) (n : UInt32) : List UInt8 := [64, e1, wb n 0, wb n 1, wb n 2, wb n 3, e2, e3, 161, e4, 128, 1, 0, 0, 0, 1, 2]
def stBB (a b : Nat) (n : UInt32) : List UInt8 := stB (r8 a) (8 + r8 a) (16 + r8 b) (r8 b) n
theorem st_code {a b : Nat} (ha : a < 7) (hb : b < 7) (n : UInt32) : codeP (stI a b n) = stBB a b n := by
  show codeF (codeF (codeF (codeF (codeF (codeF (codeF [] ⟨0, n, 5, 2, 0, 0, (a : Int), 0, 0⟩) ⟨0, 0, 3, 0, 0, 0, (a : Int), 0, 0⟩) ⟨0, 0, 4, 0, 0, 0, (b : Int), 0, 0⟩) ⟨0, 0, 27, 0, 0, 0, (b : Int), 0, 0⟩) ⟨0, 4112, 23, 0, 0, 0, 0, 0, 0⟩) ⟨0, 0, 1, 0, 0, 0, 0, 0, 0⟩) ⟨0, 0, 2, 0, 0, 0, 0, 0, 0⟩ = _
  have e0 : codeF [] ⟨0, n, 5, 2, 0, 0, (a : Int), 0, 0⟩ = [64, r8 a, wb n 0, wb n 1, wb n 2, wb n 3] := st_enc0 ha _ n
  have e1 : codeF [64, r8 a, wb n 0, wb n 1, wb n 2, wb n 3] ⟨0, 0, 3, 0, 0, 0, (a : Int), 0, 0⟩ = [64, r8 a, wb n 0, wb n 1, wb n 2, wb n 3] ++ [8 + r8 a] := codeF_eq (a := 4102) (by show 4096 + u32 (6 : Int) = 4102; decide) (st_enc1 ha)
  have e2 : codeF ([64, r8 a, wb n 0, wb n 1, wb n 2, wb n 3] ++ [8 + r8 a]) ⟨0, 0, 4, 0, 0, 0, (b : Int), 0, 0⟩ = [64, r8 a, wb n 0, wb n 1, wb n 2, wb n 3] ++ [8 + r8 a] ++ [16 + r8 b] := codeF_eq (a := 4103) (by show 4096 + u32 (7 : Int) = 4103; decide) (st_enc2 hb)
  have e3 : codeF ([64, r8 a, wb n 0, wb n 1, wb n 2, wb n 3] ++ [8 + r8 a] ++ [16 + r8 b]) ⟨0, 0, 27, 0, 0, 0, (b : Int), 0, 0⟩ = [64, r8 a, wb n 0, wb n 1, wb n 2, wb n 3] ++ [8 + r8 a] ++ [16 + r8 b] ++ [161, r8 b] := codeF_eq (a := 4104) (by show 4096 + u32 (8 : Int) = 4104; decide) (st_enc3 hb)
  have e4 : codeF ([64, r8 a, wb n 0, wb n 1, wb n 2, wb n 3] ++ [8 + r8 a] ++ [16 + r8 b] ++ [161, r8 b]) ⟨0, 4112, 23, 0, 0, 0, 0, 0, 0⟩ = [64, r8 a, wb n 0, wb n 1, wb n 2, wb n 3] ++ [8 + r8 a] ++ [16 + r8 b] ++ [161, r8 b] ++ [128, 1, 0, 0, 0] := codeF_eq (a := 4106) (by show 4096 + u32 (10 : Int) = 4106; decide) (by kernel_rfl)
  have e5 : codeF ([64, r8 a, wb n 0, wb n 1, wb n 2, wb n 3] ++ [8 + r8 a] ++ [16 + r8 b] ++ [161, r8 b] ++ [128, 1, 0, 0, 0]) ⟨0, 0, 1, 0, 0, 0, 0, 0, 0⟩ = [64, r8 a, wb n 0, wb n 1, wb n 2, wb n 3] ++ [8 + r8 a] ++ [16 + r8 b] ++ [161, r8 b] ++ [128, 1, 0, 0, 0] ++ [1] := codeF_eq (a := 4111) (by show 4096 + u32 (15 : Int) = 4111; decide) (by kernel_rfl)
  rw [e0, e1, e2, e3, e4, e5]
  exact codeF_eq (a := 4112) (e := [2]) (by show 4096 + u32 (16 : Int) = 4112; decide) (by kernel_rfl)
def stk (m : Mach) (w : WrF) (out : List UInt32) : St := ⟨m, w, 0, out, false, 0⟩
def stW0 : WrF := (newS 4096).w
def stW1 (n : UInt32) : WrF := putN stW0 983032 n 4
def stW2 (n : UInt32) : WrF := putN (stW1 n) 983032 4111 4
section
variable (e1 e2 e3 e4 : UInt8) (n : UInt32) (dp : Option Addr) (dc : Nat)
def stL : List SecV := [codeS (stB e1 e2 e3 e4 n) dp dc]
theorem st_chk : checkS (stL e1 e2 e3 e4 n dp dc) = 0 := by kernel_rfl
theorem st_f0 : fetchA (stL e1 e2 e3 e4 n dp dc) stW0 4096 = ([64, e1, wb n 0, wb n 1, wb n 2, wb n 3], 0) := by kernel_rfl
theorem st_f1 : fetchA (stL e1 e2 e3 e4 n dp dc) stW0 4102 = ([e2] ++ [e3, 161, e4, 128, 1], 0) := by kernel_rfl
theorem st_f2 : fetchA (stL e1 e2 e3 e4 n dp dc) (stW1 n) 4103 = ([e3] ++ [161, e4, 128, 1, 0], 0) := by kernel_rfl
theorem st_f3 : fetchA (stL e1 e2 e3 e4 n dp dc) (stW1 n) 4104 = ([161, e4] ++ [128, 1, 0, 0], 0) := by kernel_rfl
theorem st_f4 : fetchA (stL e1 e2 e3 e4 n dp dc) (stW1 n) 4106 = ([128, 1, 0, 0, 0, 1], 0) := by kernel_rfl
theorem st_f5 : fetchA (stL e1 e2 e3 e4 n dp dc) (stW2 n) 4112 = ([2], 0) := by kernel_rfl
theorem st_f6 : fetchA (stL e1 e2 e3 e4 n dp dc) (stW2 n) 4111 = ([1, 2], 0) := by kernel_rfl
theorem st_d4 : decP [128, 1, 0, 0, 0, 1] 4106 = (⟨4106, 4112, 23, 0, 0, 0, 0, 0, 5⟩, 0) := by kernel_rfl
theorem st_d5 : decP [2] 4112 = (⟨4112, 0, 2, 0, 0, 0, 0, 0, 1⟩, 0) := by kernel_rfl
theorem st_d6 : decP [1, 2] 4111 = (⟨4111, 0, 1, 0, 0, 0, 0, 0, 1⟩, 0) := by kernel_rfl
theorem st_st1 : storeA (stL e1 e2 e3 e4 n dp dc) stW0 983032 4 n = (stW1 n, 0) := by kernel_rfl
theorem st_st2 : storeA (stL e1 e2 e3 e4 n dp dc) (stW1 n) 983032 4 4111 = (stW2 n, 0) := by kernel_rfl
theorem st_ld1 : loadA (stL e1 e2 e3 e4 n dp dc) (stW1 n) 983032 4 = (leP [(shr32 n 0).toUInt8, (shr32 n 8).toUInt8, (shr32 n 16).toUInt8, (shr32 n 24).toUInt8], 0) := by kernel_rfl
theorem st_ld2 : loadA (stL e1 e2 e3 e4 n dp dc) (stW2 n) 983032 4 = (4111, 0) := by kernel_rfl
end
theorem leP_word (n : UInt32) : leP [(shr32 n 0).toUInt8, (shr32 n 8).toUInt8, (shr32 n 16).toUInt8, (shr32 n 24).toUInt8] = n := by
  rw [← UInt32.toNat_inj, leP_nat _ (by simp)]
  have h := n.toNat_lt
  simp only [leN, UInt32.toNat_toUInt8, shr32_toNat]
  omega
theorem Mach.r7_set {m : Mach} {k : Nat} (hk : k < 7) (x : UInt32) : (m.set (k : Int) x).r7 = m.r7 :=
  seven (X := fun k => (m.set (k : Int) x).r7 = m.r7) ⟨rfl, rfl, rfl, rfl, rfl, rfl, rfl⟩ hk
theorem Mach.reg_self {m : Mach} {k : Nat} (hk : k < 7) (x : UInt32) : (m.set (k : Int) x).reg (k : Int) = x :=
  seven (X := fun k => (m.set (k : Int) x).reg (k : Int) = x) ⟨rfl, rfl, rfl, rfl, rfl, rfl, rfl⟩ hk
def stLL (a b : Nat) (n : UInt32) (dp : Option Addr) (dc : Nat) : List SecV := stL (r8 a) (8 + r8 a) (16 + r8 b) (r8 b) n dp dc
theorem step_stk {l : List SecV} {m : Mach} {w : WrF} {o : List UInt32} {b : List UInt8} {i : Ins} {p nx : UInt32} {r : St} (hp : m.pc = p) (hf : fetchA l w p = (b, 0)) (hd : decP b p = (i, 0)) (hn : nextP i = nx) (he : effS l [] (stk m w o) i nx = (r, 0)) (h0 : r.err = 0) :
    stepS l [] (stk m w o) = (r, 0) := by
  rw [step_at (l := l) (s := stk m w o) (b := b) (i := i) (nx := nx) rfl rfl (by show fetchA l w m.pc = _; rw [hp]; exact hf) (by show decP b m.pc = _; rw [hp]; exact hd) hn, he]
  rw [← h0]
theorem st_s0 {a : Nat} (ha : a < 7) (b : Nat) (n : UInt32) (dp : Option Addr) (dc : Nat) : ∃ m : Mach, stepS (stLL a b n dp dc) [] (newS 4096) = (stk m stW0 [], 0) ∧ m.pc = 4102 ∧ m.r7 = 983036 ∧ m.reg (a : Int) = n := by
  refine ⟨{ (startM 4096).set (a : Int) n with pc := 4102 }, ?_, rfl, Mach.r7_set ha n, ?_⟩
  · have e : effS (stLL a b n dp dc) [] (stk (startM 4096) stW0 []) ⟨4096, n, 5, 2, 0, 0, (a : Int), 0, 6⟩ 4102 = (stk { (startM 4096).set (a : Int) n with pc := 4102 } stW0 [], 0) := by
      rw [eff_plain (.inr ⟨by show (5 : Int) ≤ 5; omega, by show (5 : Int) ≤ 15; omega⟩)]
      exact seven (X := fun a => (plainS (stk (startM 4096) stW0 []) ⟨4096, n, 5, 2, 0, 0, (a : Int), 0, 6⟩ 4102, (0 : Int)) = (stk { (startM 4096).set (a : Int) n with pc := 4102 } stW0 [], 0)) ⟨rfl, rfl, rfl, rfl, rfl, rfl, rfl⟩ ha
    exact step_stk (m := startM 4096) (p := 4096) rfl (st_f0 _ _ _ _ n dp dc) (by have h := dec_of (st_err0 ha 4096 n) (st_enc0 ha 4096 n) []; exact h) (st_next0 ha n) e rfl
  · exact (Mach.reg_self ha n : ((startM 4096).set (a : Int) n).reg (a : Int) = n)
theorem st_s1 {a : Nat} (ha : a < 7) (b : Nat) (n : UInt32) (dp : Option Addr) (dc : Nat) {m : Mach} (hp : m.pc = 4102) (h7 : m.r7 = 983036) (hr : m.reg (a : Int) = n) : stepS (stLL a b n dp dc) [] (stk m stW0 []) = (stk ((m.set 7 983032).to 4103) (stW1 n) [], 0) := by
  have e : storeA (stLL a b n dp dc) stW0 (m.r7 - 4) 4 (m.reg (a : Int)) = (stW1 n, 0) := by rw [h7, hr]; exact st_st1 _ _ _ _ n dp dc
  refine step_stk hp (st_f1 _ _ _ _ n dp dc) (dec_of (st_err1 ha) (st_enc1 ha) _) (st_next1 ha) ?_ rfl
  unfold effS
  rw [if_pos (.inl rfl)]
  unfold stackS
  rw [if_pos rfl]
  show (if (storeA (stLL a b n dp dc) stW0 (m.r7 - 4) 4 (m.reg (a : Int))).2 ≠ 0 then (_ : St × Int) else ({ stk m stW0 [] with w := (storeA (stLL a b n dp dc) stW0 (m.r7 - 4) 4 (m.reg (a : Int))).1, m := (m.set 7 (m.r7 - 4)).to 4103 }, 0)) = _
  rw [e, if_neg (by simp), h7]
  rfl
theorem st_s2 (a : Nat) {b : Nat} (hb : b < 7) (n : UInt32) (dp : Option Addr) (dc : Nat) {m : Mach} (hp : m.pc = 4103) (h7 : m.r7 = 983032) : stepS (stLL a b n dp dc) [] (stk m (stW1 n) []) = (stk (((m.set 7 983036).set (b : Int) n).to 4104) (stW1 n) [], 0) := by
  have e : loadA (stLL a b n dp dc) (stW1 n) m.r7 4 = (n, 0) := by rw [h7]; exact (st_ld1 _ _ _ _ n dp dc).trans (by rw [leP_word])
  refine step_stk hp (st_f2 _ _ _ _ n dp dc) (dec_of (st_err2 hb) (st_enc2 hb) _) (st_next2 hb) ?_ rfl
  unfold effS
  rw [if_pos (.inr rfl)]
  unfold stackS
  rw [if_neg (by show ¬ (4 : Int) = 3; omega)]
  show (if (loadA (stLL a b n dp dc) (stW1 n) m.r7 4).2 ≠ 0 then (_ : St × Int) else ({ stk m (stW1 n) [] with m := ((m.set 7 (m.r7 + 4)).set (b : Int) (loadA (stLL a b n dp dc) (stW1 n) m.r7 4).1).to 4104 }, 0)) = _
  rw [e, if_neg (by simp), h7]
  rfl
theorem st_s3 (a : Nat) {b : Nat} (hb : b < 7) (n : UInt32) (dp : Option Addr) (dc : Nat) {m : Mach} (hp : m.pc = 4104) (hr : m.reg (b : Int) = n) : stepS (stLL a b n dp dc) [] (stk m (stW1 n) []) = (stk (m.to 4106) (stW1 n) [n], 0) := by
  refine step_stk hp (st_f3 _ _ _ _ n dp dc) (dec_of (st_err3 hb) (st_enc3 hb) _) (st_next3 hb) ?_ rfl
  rw [eff_trans (.inr rfl), trans_out rfl (by show ¬ (4096 : Nat) ≤ 0; omega)]
  show (({ stk m (stW1 n) [] with m := m.to 4106, out := [] ++ [m.reg (b : Int)] } : St), (0 : Int)) = _
  rw [hr]
  rfl
theorem st_s4 (a b : Nat) (n : UInt32) (dp : Option Addr) (dc : Nat) {m : Mach} (hp : m.pc = 4106) (h7 : m.r7 = 983036) : stepS (stLL a b n dp dc) [] (stk m (stW1 n) [n]) = (stk ((m.set 7 983032).to 4112) (stW2 n) [n], 0) := by
  have e : storeA (stLL a b n dp dc) (stW1 n) (m.r7 - 4) 4 4111 = (stW2 n, 0) := by rw [h7]; exact st_st2 _ _ _ _ n dp dc
  refine step_stk hp (st_f4 _ _ _ _ n dp dc) st_d4 (nx := 4111) (by kernel_rfl) ?_ rfl
  unfold effS
  rw [if_neg (by show ¬ ((23 : Int) = 3 ∨ (23 : Int) = 4); omega), if_neg (by show ¬ ((23 : Int) = 16 ∨ (23 : Int) = 17 ∨ (23 : Int) = 18); omega), if_neg (by show ¬ ((23 : Int) = 20 ∨ (23 : Int) = 21 ∨ (23 : Int) = 22); omega), if_pos (.inl rfl)]
  unfold callS
  rw [if_neg (by show ¬ (23 : Int) = 2; omega)]
  show (if (storeA (stLL a b n dp dc) (stW1 n) (m.r7 - 4) 4 4111).2 ≠ 0 then (_ : St × Int) else ({ stk m (stW1 n) [n] with w := (storeA (stLL a b n dp dc) (stW1 n) (m.r7 - 4) 4 4111).1, m := (m.set 7 (m.r7 - 4)).to 4112 }, 0)) = _
  rw [e, if_neg (by simp), h7]
  rfl
theorem st_s5 (a b : Nat) (n : UInt32) (dp : Option Addr) (dc : Nat) {m : Mach} (hp : m.pc = 4112) (h7 : m.r7 = 983032) : stepS (stLL a b n dp dc) [] (stk m (stW2 n) [n]) = (stk ((m.set 7 983036).to 4111) (stW2 n) [n], 0) := by
  have e : loadA (stLL a b n dp dc) (stW2 n) m.r7 4 = (4111, 0) := by rw [h7]; exact st_ld2 _ _ _ _ n dp dc
  refine step_stk hp (st_f5 _ _ _ _ n dp dc) st_d5 (nx := 4113) (by kernel_rfl) ?_ rfl
  unfold effS
  rw [if_neg (by show ¬ ((2 : Int) = 3 ∨ (2 : Int) = 4); omega), if_neg (by show ¬ ((2 : Int) = 16 ∨ (2 : Int) = 17 ∨ (2 : Int) = 18); omega), if_neg (by show ¬ ((2 : Int) = 20 ∨ (2 : Int) = 21 ∨ (2 : Int) = 22); omega), if_pos (.inr (.inr rfl))]
  unfold callS
  rw [if_pos rfl]
  show (if (loadA (stLL a b n dp dc) (stW2 n) m.r7 4).2 ≠ 0 then (_ : St × Int) else ({ stk m (stW2 n) [n] with m := (m.set 7 (m.r7 + 4)).to (loadA (stLL a b n dp dc) (stW2 n) m.r7 4).1, done := decide ((loadA (stLL a b n dp dc) (stW2 n) m.r7 4).1 = 4294967295) }, 0)) = _
  rw [e, if_neg (by simp), h7]
  rfl
theorem st_s6 (a b : Nat) (n : UInt32) (dp : Option Addr) (dc : Nat) {m : Mach} (hp : m.pc = 4111) : ∃ t, stepS (stLL a b n dp dc) [] (stk m (stW2 n) [n]) = (t, 0) ∧ t.err = 0 ∧ t.done = true ∧ t.out = [n] ∧ t.m.r7 = m.r7 := by
  refine ⟨plainS (stk m (stW2 n) [n]) ⟨4111, 0, 1, 0, 0, 0, 0, 0, 1⟩ 4112, ?_, rfl, rfl, rfl, rfl⟩
  exact step_stk hp (st_f6 _ _ _ _ n dp dc) st_d6 (nx := 4112) (by kernel_rfl) (eff_plain (.inl rfl)) rfl
theorem st_facts {a b : Nat} (ha : a < 7) (hb : b < 7) {n : UInt32} {dp : Option Addr} {dc : Nat} {t : St} {tr : List UInt32} (h : t = runS [codeS (stBB a b n) dp dc] [] (min (20 : Int) 65536).toNat (newS 4096)) (hn : tr = traceS [codeS (stBB a b n) dp dc] [] (min (20 : Int) 65536).toNat (newS 4096)) :
    errR t = 0 ∧ t.out = [n] ∧ tr = [4096, 4102, 4103, 4104, 4106, 4112, 4111] ∧ t.m.r7 = 983036 := by
  rw [show (min (20 : Int) 65536).toNat = 19 + 1 by decide] at h hn
  obtain ⟨m1, z0, p1, r1, g1⟩ := st_s0 ha b n dp dc
  have z1 := st_s1 ha b n dp dc p1 r1 g1
  have z2 := st_s2 a hb n dp dc (m := (m1.set 7 983032).to 4103) rfl rfl
  have z3 := st_s3 a hb n dp dc (m := ((((m1.set 7 983032).to 4103).set 7 983036).set (b : Int) n).to 4104) rfl (Mach.reg_self hb n)
  have z4 := st_s4 a b n dp dc (m := (((((m1.set 7 983032).to 4103).set 7 983036).set (b : Int) n).to 4104).to 4106) rfl (Mach.r7_set hb n)
  have z5 := st_s5 a b n dp dc (m := (((((((m1.set 7 983032).to 4103).set 7 983036).set (b : Int) n).to 4104).to 4106).set 7 983032).to 4112) rfl rfl
  obtain ⟨q, z6, qe, qd, qo, q7⟩ := st_s6 a b n dp dc (m := (((((((((m1.set 7 983032).to 4103).set 7 983036).set (b : Int) n).to 4104).to 4106).set 7 983032).to 4112).set 7 983036).to 4111) rfl
  obtain ⟨a0, b0⟩ := run_go (l := stLL a b n dp dc) (inp := []) (s := newS 4096) (n := 18 + 1) rfl rfl
  rw [z0] at a0 b0
  obtain ⟨a1, b1⟩ := run_go (l := stLL a b n dp dc) (inp := []) (s := stk m1 stW0 []) (n := 17 + 1) rfl rfl
  rw [z1] at a1 b1
  obtain ⟨a2, b2⟩ := run_go (l := stLL a b n dp dc) (inp := []) (s := stk ((m1.set 7 983032).to 4103) (stW1 n) []) (n := 16 + 1) rfl rfl
  rw [z2] at a2 b2
  obtain ⟨a3, b3⟩ := run_go (l := stLL a b n dp dc) (inp := []) (s := stk (((((m1.set 7 983032).to 4103).set 7 983036).set (b : Int) n).to 4104) (stW1 n) []) (n := 15 + 1) rfl rfl
  rw [z3] at a3 b3
  obtain ⟨a4, b4⟩ := run_go (l := stLL a b n dp dc) (inp := []) (s := stk ((((((m1.set 7 983032).to 4103).set 7 983036).set (b : Int) n).to 4104).to 4106) (stW1 n) [n]) (n := 14 + 1) rfl rfl
  rw [z4] at a4 b4
  obtain ⟨a5, b5⟩ := run_go (l := stLL a b n dp dc) (inp := []) (s := stk ((((((((m1.set 7 983032).to 4103).set 7 983036).set (b : Int) n).to 4104).to 4106).set 7 983032).to 4112) (stW2 n) [n]) (n := 13 + 1) rfl rfl
  rw [z5] at a5 b5
  obtain ⟨a6, b6⟩ := run_go (l := stLL a b n dp dc) (inp := []) (s := stk ((((((((((m1.set 7 983032).to 4103).set 7 983036).set (b : Int) n).to 4104).to 4106).set 7 983032).to 4112).set 7 983036).to 4111) (stW2 n) [n]) (n := 13) rfl rfl
  rw [z6] at a6 b6
  obtain ⟨a7, b7⟩ := run_stop (l := stLL a b n dp dc) (inp := []) (s := q) (by rintro ⟨z, _⟩; rw [qd] at z; cases z) 13
  have h' : t = q := h.trans (a0.trans (a1.trans (a2.trans (a3.trans (a4.trans (a5.trans (a6.trans a7)))))))
  have hn' : tr = [4096, 4102, 4103, 4104, 4106, 4112, 4111] := by
    rw [hn]
    show traceS (stLL a b n dp dc) [] (19 + 1) (newS 4096) = _
    rw [b0, b1, b2, b3, b4, b5, b6, b7]
    show [4096, m1.pc, 4103, 4104, 4106, 4112, 4111] = _
    rw [p1]
  subst h'
  exact ⟨by unfold errR; rw [if_neg (by rintro ⟨_, z⟩; rw [qd] at z; cases z), qe], qo, hn', q7.trans rfl⟩
section
variable {P : Program} {N : Nat} {F : Bg} {L : List Ent} {M : Fr} {dst : Option Tmp} {ty : TypeId} {pos : String} {after : Array Edge} {g : Option (Nat × Bool)}
theorem QS.fieldAgg {x : Operand} {s ft : TypeId} {f off k : Nat} {fs : Array Field} {cs vs : List Value} (hx : opv M x = some (.agg cs.toArray)) (hs : P.underlying s = some (.struct fs))
    (hf : (fs[f]?).map (·.offset) = some off) (ht : (fs[f]?).map (·.type) = some ft) (hagg : ∀ w, (isAgg ft).run P w = .ok true w) (hz : ∀ w, (sizeOf ft).run P w = .ok k w) (hv : (cs.drop off).take k = vs) :
    QS P N F L M ⟨dst, .field s x f, ty, pos, after, g⟩ (.agg vs.toArray) :=
  QS.of_run fun A w ha hw => by
    have h1 : cs.toArray.extract off (off + k) = vs.toArray := by
      apply Array.toList_inj.1
      simp only [Array.toList_extract, List.extract]
      rw [show off + k - off = k by omega, hv]
    cases hfe : fs[f]? with
    | none => simp [hfe] at hf
    | some fd =>
      simp only [hfe, Option.map_some, Option.some.injEq] at hf ht
      have hrun : (Instr.field s (.agg cs.toArray) f).run P w = .ok (.agg (cs.toArray.extract off (off + k))) w := by
        simp [Instr.field, run_underlying hs, hfe, asAgg, part, ht, hagg, hf, hz]
      simp only [execOp, ha.eval hx, Sem.run_bind, hrun, h1, Result.andThen_ok, Sem.run_pure]
theorem QS.indexW {x y : Operand} {t e : TypeId} {n : Nat} {kk : IntKind} {i : Nat} {cs : List Value} {v : Value} (hx : opv M x = some (.agg cs.toArray)) (hy : opv M y = some (.int kk i))
    (ht : P.underlying t = some (.array n e)) (hz : ∀ w, (sizeOf e).run P w = .ok 1 w) (hag : ∀ w, (isAgg e).run P w = .ok false w) (hi : i < n) (hv : cs[i]? = some v) :
    QS P N F L M ⟨dst, .index t x y, ty, pos, after, g⟩ v :=
  QS.of_run fun A w ha _ => by
    have hp : (part e cs.toArray (i * 1)).run P w = .ok v w := part_word hag (by rw [Nat.mul_one]; simpa using hv)
    have hrun : (Instr.index t (.agg cs.toArray) (.int kk i)).run P w = .ok v w := by
      simp only [Instr.index, asIntOf, Sem.run_bind, run_underlying ht, Result.andThen_ok, hz]
      simp [hi, asAgg]
      rw [hz, Result.andThen_ok]
      exact hp
    simp only [execOp, ha.eval hx, ha.eval hy, Sem.run_bind, hrun, Result.andThen_ok, Sem.run_pure]
end
end Go.HL
