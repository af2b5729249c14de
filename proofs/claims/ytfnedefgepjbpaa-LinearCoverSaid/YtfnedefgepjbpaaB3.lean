/- Own rules and walks, part 3. -/
import Derived.Test.YtfnedefgepjbpaaB2
set_option linter.unusedSimpArgs false
set_option linter.unusedVariables false
set_option linter.unusedSectionVars false
namespace Go.HL
open Go Go.RowKit
section
variable {P : Program} {ops : Array Oper} {Q : Exit → Act → World → Prop} {N : Nat} {F : Bg} {L : List Ent} {M : Fr} {ty : TypeId} {pos : String} {after : Array Edge} {rest : List Oper} {d : Nat} {dst : Option Tmp} {g : Option (Nat × Bool)}
def redrew (w w' : World) : World := { w' with drawn := max w.drawn w'.drawn }
theorem ext_redrew {w w' : World} (h : Below w.heap.size w w') : Ext w (redrew w w') := ⟨⟨h.os, h.tape, h.output, h.size, h.block⟩, Nat.le_max_left _ _⟩
theorem HpOK.redrew {w w' : World} (h : HpOK F L (HL.redrew w w')) (h0 : F.dr = 0) : HpOK F L w' := ⟨h.os, h.tape, h.out, h.n, by rw [h0]; exact Nat.zero_le _, h.bg, h.ent, h.nodup, h.lt, h.sep⟩
theorem HpOK.grow0 {w w' : World} (h : HpOK F L w) (hb : Below w.heap.size w w') (h0 : F.dr = 0) : HpOK F L w' := (h.grow (ext_redrew hb)).redrew h0
theorem QS.call0 {f : FuncId} {xs : List Operand} {vs : List Value} {ts : Array TypeId} {v : Value} (h0 : F.dr = 0) (hx : opvs M xs = some vs)
    (he : ∀ (args : Array Value) (w : World), (callFunc f args).run P w = .ok (.enter f args) w)
    (hc : ∀ w, HpOK F L w → Calls P f vs.toArray w fun e w' => e = .returned v ∧ Below w.heap.size w w') :
    QS P N F L M ⟨dst, .call { callee := .value (.func f), args := xs.toArray, argTypes := ts }, ty, pos, after, g⟩ v := by
  intro a w ha hw
  have hr : (execOp a.eval ⟨dst, .call { callee := .value (.func f), args := xs.toArray, argTypes := ts }, ty, pos, after, g⟩).run P w = .ok (.enter f vs.toArray) w := by
    have := ha.evals hx
    simp [execOp, resolve, Deferred.ofValue, Act.eval, invoke, he, this]
  unfold Oper.quietAt
  rw [hr]
  exact ⟨rfl, (hc w hw).mono fun e w' ⟨h1, h2⟩ => ⟨h1, hw.grow0 h2 h0⟩⟩
theorem Tr.callEnts0 {ι : Type} (φ : ι → Value) (Ls : ι → List Ent) {ok : ι → Prop} {f : FuncId} {xs : List Operand} {vs : List Value} {ts : Array TypeId} (h0 : F.dr = 0) (hx : opvs M xs = some vs)
    (he : ∀ (args : Array Value) (w : World), (callFunc f args).run P w = .ok (.enter f args) w)
    (hc : ∀ w, HpOK F L w → Calls P f vs.toArray w fun e w' => ∃ i, e = .returned (φ i) ∧ Below w.heap.size w w' ∧ NewEnts w w' (Ls i) ∧ ok i) (hd : Nat.ble (d + 1) N = true)
    (K : ∀ i, ok i → Tr N F (Ls i ++ L) ((d, φ i) :: M) (wpList P ops Q rest)) :
    Tr N F L M (wpList P ops Q (⟨some d, .call { callee := .value (.func f), args := xs.toArray, argTypes := ts }, ty, pos, after, none⟩ :: rest)) := by
  intro a w ha hw
  refine wpList_plain rfl fun K' hK => ?_
  have hr : (execOp a.eval ⟨some d, .call { callee := .value (.func f), args := xs.toArray, argTypes := ts }, ty, pos, after, none⟩).run P w = .ok (.enter f vs.toArray) w := by
    have := ha.evals hx
    simp [execOp, resolve, Deferred.ofValue, Act.eval, invoke, he, this]
  unfold Oper.wp
  rw [hr]
  refine (hc w hw).mono fun e w' ⟨i, h1, h2, h3, h4⟩ => ?_
  subst h1
  have hn : NewEnts w (redrew w w') (Ls i) := ⟨h3.ent, h3.nodup, h3.lt, h3.ge⟩
  exact hK _ _ (K i h4 _ _ (ha.put (Nat.le_of_ble_eq_true hd)) ((hw.newEnts (ext_redrew h2) hn).redrew h0))
end
end Go.HL
namespace Go.Proofs.Ytfnedefgepjbpaa
open Go Go.HL Go.RowKit
set_option maxRecDepth 100000 in
set_option maxHeartbeats 2000000 in
theorem cover_any (l : List Ins) (V : Value) (w : World) (hV : Sl (hp w) encIns l V) (hI : ∀ x ∈ l, InsOK x) (hn : l.length ≤ 100000) :
    Calls Try.prog 16 #[V] w (fun e w' => ∃ V', e = .returned V' ∧ Ext w w' ∧ NewRow w w' 61 encRng (normalP (coverL l)) V') := by
  have hV' : Sl (Bg.of w).blk encIns l V := hV
  refine enter Try.func16 rfl Try.ntmps16 rfl ?_
  refine Tr.seq ?_
  refine Tr.region ?_
  refine Tr.q (QS.assign rfl) rfl ?_
  refine Tr.nil ?_
  refine Tr.thenN ?_
  refine Tr.seq ?_
  refine Tr.region ?_
  refine Tr.q (QS.assign rfl) rfl ?_
  refine Tr.nil ?_
  refine Tr.thenN ?_
  refine Tr.seq ?_
  refine Tr.seq ?_
  refine Tr.region ?_
  refine Tr.q (QS.move rfl) rfl ?_
  refine Tr.q (QS.len rfl (by assumption) Try.underlying26) rfl ?_
  refine Tr.q (QS.move rfl) rfl ?_
  refine Tr.nil ?_
  refine Tr.thenN ?_
  refine Tr.block ?_
  refine Tr.ownNil 61 encRng ?_
  refine Tr.loop (ι := Nat × Value) (fun ⟨k, V'⟩ => k ≤ l.length) (fun _ => _) (fun ⟨k, V'⟩ => [rowE V' 61 encRng (coverL (l.take k))]) (fun ⟨k, V'⟩ => [(9, .int .i64 (k : Nat)), (3, V')]) (fun ⟨k, V'⟩ => l.length - k) (0, _) (Nat.zero_le _) (.cons (by first | rfl | exact lookI rfl (by omega) | exact lookI rfl (by simp) | exact lookB rfl (by simp)) (.cons (by first | rfl | exact lookI rfl (by omega) | exact lookI rfl (by simp) | exact lookB rfl (by simp)) Front.nil)) (by repeat' (first | exact Pick.nil _ | exact Del.here _ | apply Pick.cons | apply Del.there)) rfl (fun i hi m hm => ?_)
  obtain ⟨k, V'⟩ := i
  replace hi : k ≤ l.length := hi
  replace hm : m = l.length - k := hm
  change Tr _ _ [rowE V' 61 encRng (coverL (l.take k))] ([(9, .int .i64 (k : Nat)), (3, V')] ++ _) _
  have hcl := cover_len (l.take k)
  rw [List.length_take] at hcl
  have hIk : k < l.length → I64 (l.getD k default).size := fun q => (hI _ (mem_getD q)).size
  have hadr := (l.getD k default).addr.toNat_lt
  unfold I64 at hIk
  refine Tr.seq ?_
  refine Tr.region ?_
  refine Tr.q (QS.lss rfl rfl) rfl ?_
  refine Tr.nil ?_
  refine Tr.thenN ?_
  refine Tr.seq ?_
  refine Tr.cond rfl (fun h1 => ?_) (fun h1 => ?_)
  · try simp only [bs] at h1
    refine Tr.skip ?_
    refine Tr.thenN ?_
    refine Tr.seq ?_
    refine Tr.block ?_
    refine Tr.seq ?_
    refine Tr.region ?_
    refine Tr.q (QS.idxN rfl rfl (by assumption) Try.underlying26 Try.sizeOf36 (by rfl) (by omega)) rfl ?_
    refine Tr.q (QS.elA rfl (by assumption) Try.isAgg36 Try.sizeOf36 (by rfl) (by omega)) rfl ?_
    refine Tr.alloc Try.zeroValue36 rfl rfl (fun b2 => ?_)
    refine Tr.storeW rfl rfl Try.sizeOf36 (by repeat (first | exact Put.here _ | apply Put.there)) (by rfl) (by rfl) (by first | exact List.all_eq_true.1 rfl | exact Enc.one _ _ | exact Enc.one encIns _) rfl ?_
    refine Tr.nil ?_
    refine Tr.thenN ?_
    refine Tr.seq ?_
    refine Tr.region ?_
    refine Tr.q (QS.fieldAddr (off := 8) (ft := 3) rfl Try.underlying36 rfl rfl Try.sizeOf3 (by decide)) rfl ?_
    refine Tr.q (QS.lV rfl Try.isAgg3) rfl ?_
    refine Tr.q (QS.geq rfl rfl) rfl ?_
    refine Tr.nil ?_
    refine Tr.thenN ?_
    refine Tr.cond rfl (fun h3 => ?_) (fun h3 => ?_)
    · try simp only [bs] at h3
      refine Tr.seq ?_
      refine Tr.region ?_
      refine Tr.q (QS.fieldAddr (off := 8) (ft := 3) rfl Try.underlying36 rfl rfl Try.sizeOf3 (by decide)) rfl ?_
      refine Tr.q (QS.lV rfl Try.isAgg3) rfl ?_
      refine Tr.q (QS.cvtIn rfl Try.underlying3 Try.underlying76 (IntWalk.u64_in _ (by omega))) rfl ?_
      refine Tr.q (QS.min2 rfl rfl) rfl ?_
      refine Tr.q (QS.fieldAddr (off := 0) (ft := 23) rfl Try.underlying36 rfl rfl Try.sizeOf23 (by decide)) rfl ?_
      refine Tr.q (QS.lV rfl Try.isAgg23) rfl ?_
      refine Tr.q (QS.cvt32toU rfl Try.underlying23 Try.underlying76) rfl ?_
      refine Tr.q (QS.addU rfl rfl (by omega)) rfl ?_
      refine Tr.q (QS.assign rfl) rfl ?_
      refine Tr.nil ?_
      refine Tr.thenN ?_
      refine Tr.region ?_
      refine Tr.q (QS.move rfl) rfl ?_
      refine Tr.q (QS.fieldAddr (off := 0) (ft := 23) rfl Try.underlying36 rfl rfl Try.sizeOf23 (by decide)) rfl ?_
      refine Tr.q (QS.lV rfl Try.isAgg23) rfl ?_
      refine Tr.q (QS.move rfl) rfl ?_
      refine Tr.q (QS.min2 rfl rfl) rfl ?_
      refine Tr.q (QS.cvtTo32 rfl Try.underlying76 Try.underlying23) rfl ?_
      refine Tr.q (QS.build (vs := [(0, _), (1, _)]) rfl rfl (HLF.built61_0_1 _ _)) rfl ?_
      refine Tr.lit1 (E := encRng) (coverR (l.getD k default)) rfl rfl Try.underlying27 Try.sizeOf61 Try.zeroValue61 (by rfl) (by rfl) rfl (fun V4 => ?_)
      refine Tr.append1 rfl rfl (by repeat (first | exact Del.here _ | apply Del.there)) (by repeat (first | exact Del.here _ | apply Del.there)) Try.underlying27 HLF.info61 (by rfl) (by rfl) (by (try simp only [List.length_cons, List.length_nil, List.length_append, List.length_take]); omega) (by unfold maxLen; (try simp only [List.length_cons, List.length_nil, List.length_append, List.length_take]); omega) rfl (fun V5 => ?_)
      refine Tr.q (QS.assign rfl) rfl ?_
      refine Tr.nil ?_
      refine Tr.inN ?_
      refine Tr.thenN ?_
      refine Tr.region ?_
      refine Tr.q (QS.addI rfl rfl (by omega)) rfl ?_
      refine Tr.q (QS.move rfl) rfl ?_
      refine Tr.nil ?_
      refine Tr.thenN ?_
      rw [← cover_yes (by omega) (by assumption)]
      apply Tr.again (k + 1, _)
      · exact rfl
      · exact (.cons (by first | rfl | exact lookI rfl (by omega) | exact lookI rfl (by simp) | exact lookB rfl (by simp)) (.cons (by first | rfl | exact lookI rfl (by omega) | exact lookI rfl (by simp) | exact lookB rfl (by simp)) Front.nil))
      · exact SubX.dropN 30 (by kernel_rfl) rfl
      · exact (by repeat' (first | exact Pick.nil _ | exact Del.here _ | apply Pick.cons | apply Del.there))
      · exact (by show k + 1 ≤ _; omega)
      · exact (by (try dsimp only); omega)
    · try simp only [bs] at h3
      refine Tr.skip ?_
      refine Tr.inN ?_
      refine Tr.thenN ?_
      refine Tr.region ?_
      refine Tr.q (QS.addI rfl rfl (by omega)) rfl ?_
      refine Tr.q (QS.move rfl) rfl ?_
      refine Tr.nil ?_
      refine Tr.thenN ?_
      rw [← cover_no (by omega) (by assumption)]
      apply Tr.again (k + 1, _)
      · exact rfl
      · exact (.cons (by first | rfl | exact lookI rfl (by omega) | exact lookI rfl (by simp) | exact lookB rfl (by simp)) (.cons (by first | rfl | exact lookI rfl (by omega) | exact lookI rfl (by simp) | exact lookB rfl (by simp)) Front.nil))
      · exact SubX.dropN 11 (by kernel_rfl) rfl
      · exact (by repeat' (first | exact Pick.nil _ | exact Del.here _ | apply Pick.cons | apply Del.there))
      · exact (by show k + 1 ≤ _; omega)
      · exact (by (try dsimp only); omega)
  · try simp only [bs] at h1
    refine Tr.exit ?_
    refine Tr.thenE ?_
    refine Tr.thenE ?_
    refine Tr.inHit ?_
    refine Tr.thenN ?_
    refine Tr.seq ?_
    rw [show l.take k = l from List.take_of_length_le (by omega)]
    refine Tr.region ?_
    refine Tr.q (QS.move rfl) rfl ?_
    refine Tr.callRow rfl Try.call32 (fun w hw => normal_any (coverL l) _ w (hw.row (.head _)) (by have := cover_len l; omega)) rfl (fun V6 => ?_)
    refine Tr.q (QS.assign rfl) rfl ?_
    refine Tr.nil ?_
    refine Tr.thenN ?_
    refine Tr.ret ?_
    refine Tr.ret1 Try.results16 rfl (fun w' hw => ?_)
    exact ⟨_, rfl, hw.below (Bg.le.refl _), hw.new (.head _)⟩
def ex11 (pa : Option Addr) (pc : Nat) : SecV := ⟨⟨#[116]⟩, 4096, [0, 255, 1], pa, pc, false, true⟩
def ex11a : Ins := (decP [0, 255, 1] 4096).1
def ex11b : Ins := (decP [1] 4098).1
theorem ex11B (pa : Option Addr) (pc : Nat) : SecB [ex11 pa pc] := ⟨by simp, fun s hs => by simp only [List.mem_singleton] at hs; subst hs; show (3 : Nat) ≤ 200000; decide⟩
theorem ex11_pos (pa : Option Addr) (pc : Nat) : posP [ex11 pa pc] 4096 4099 = [4096, 4097, 4098] := by kernel_rfl
theorem ex11_found (pa : Option Addr) (pc : Nat) : foundP [ex11 pa pc] 4099 [4096, 4097, 4098] = [ex11a, ex11b] := by kernel_rfl
theorem ex11_bad (pa : Option Addr) (pc : Nat) : normalP (badP [ex11 pa pc] 4099 [4096, 4097, 4098]) = [⟨4097, 4098⟩] := by kernel_rfl
set_option maxRecDepth 100000 in
set_option maxHeartbeats 8000000 in
theorem example11_any (w : World) :
    Calls Try.prog 10 #[] w (fun e w' => e = .returned (.bool true) ∧ Below w.heap.size w w') := by
  refine enter0 Try.func10 rfl Try.ntmps10 rfl ?_
  refine Tr.seq ?_
  refine Tr.region ?_
  refine Tr.q (QS.assign rfl) rfl ?_
  refine Tr.nil ?_
  refine Tr.thenN ?_
  refine Tr.seq ?_
  refine Tr.region ?_
  refine Tr.litN (E := encU8) ([0, 255, 1] : List UInt8) (vs := [(0, _), (1, _), (2, _)]) rfl rfl Try.underlying54 Try.sizeOf5 Try.zeroValue5 (by rfl) (by rfl) rfl (by first | kernel_rfl | rfl) rfl (fun V1 => ?_)
  refine Tr.rowShape (.head _) (fun pa pc hpv => ?_)
  subst hpv
  refine Tr.frozen (.here _) (fun F1 hF1 hD1 => ?_)
  refine Tr.q (QS.build (vs := [(0, _), (1, _), (2, _), (4, _)]) rfl rfl rfl) rfl ?_
  refine Tr.lit1 (E := encSec) (ex11 pa pc) rfl rfl Try.underlying22 Try.sizeOf59 Try.zeroValue59 (by rfl) (by rfl) rfl (fun V2 => ?_)
  refine Tr.frozen (.here _) (fun F2 hF2 hS => ?_)
  replace hD1 := hD1.mono hF2.blk
  refine Tr.q (QS.assign rfl) rfl ?_
  refine Tr.nil ?_
  refine Tr.thenN ?_
  refine Tr.seq ?_
  refine Tr.region ?_
  refine Tr.q (QS.move rfl) rfl ?_
  refine Tr.callEnts0 (fun i : (Value × List Ins) × (Value × List Rng) => .tuple #[i.1.1, i.2.1]) (fun i => [rowE i.1.1 36 encIns i.1.2, rowE i.2.1 61 encRng i.2.2]) (ok := fun i => i.1.2 = [ex11a, ex11b] ∧ i.2.2 = [⟨4097, 4098⟩]) (hF1.trans hF2).dr rfl Try.call11 (fun w hw => (sweep_any [ex11 pa pc] _ 4096 4099 w (hw.slF hS) (ex11B pa pc) (fun s hs => by simp only [List.mem_singleton] at hs; subst hs; exact hw.slF hD1) (by rw [ex11_pos]; decide)).mono fun e w' ⟨i, q1, q2, q3, q4, q5⟩ => ⟨i, q1, q2, q3, by rw [q4, ex11_pos, ex11_found], by rw [q5, ex11_pos, ex11_bad]⟩) rfl (fun i hi => ?_)
  refine Tr.q (QS.move rfl) rfl ?_
  refine Tr.q (QS.extract rfl rfl) rfl ?_
  refine Tr.q (QS.extract rfl rfl) rfl ?_
  refine Tr.q (QS.assign rfl) rfl ?_
  refine Tr.q (QS.assign rfl) rfl ?_
  refine Tr.nil ?_
  refine Tr.thenN ?_
  refine Tr.seq ?_
  obtain ⟨⟨Va, fs⟩, ⟨Vb, rs⟩⟩ := i
  obtain ⟨h1, h2⟩ := hi
  replace h1 : fs = [ex11a, ex11b] := h1
  replace h2 : rs = [⟨4097, 4098⟩] := h2
  subst h1 h2
  change Tr _ _ [rowE Va 36 encIns [ex11a, ex11b], rowE Vb 61 encRng [⟨4097, 4098⟩]] _ _
  refine Tr.region ?_
  refine Tr.q (QS.move rfl) rfl ?_
  refine Tr.q (QS.lenRow rfl (by repeat (first | exact List.Mem.head _ | apply List.Mem.tail)) Try.underlying26) rfl ?_
  refine Tr.q (QS.eql rfl rfl) rfl ?_
  refine Tr.q (QS.move rfl) rfl ?_
  apply Tr.andP
  · exact (rfl : _ = (6, 15, 21))
  · exact rfl
  · intro hT3; have hT3' := hT3
    try simp only [bs] at hT3'
    refine Tr.gq rfl rfl hT3 (QS.move rfl) rfl ?_
    refine Tr.gq rfl rfl hT3 (QS.idxRow rfl rfl (by repeat (first | exact List.Mem.head _ | apply List.Mem.tail)) Try.underlying26 Try.sizeOf36 (by rfl) (by omega)) rfl ?_
    refine Tr.gq rfl rfl hT3 (QS.fieldAddr (off := 2) (ft := 3) rfl Try.underlying36 rfl rfl Try.sizeOf3 (by decide)) rfl ?_
    refine Tr.gq rfl rfl hT3 (QS.elRF rfl (by repeat (first | exact List.Mem.head _ | apply List.Mem.tail)) Try.isAgg3 (by omega) (by rfl)) rfl ?_
    refine Tr.gq rfl rfl hT3 (QS.eql rfl rfl) rfl ?_
    refine Tr.q (QS.pickT rfl hT3 rfl) rfl ?_
    refine Tr.nil (Tr.thenN ?_)
    exact Tr.endX (Sub.cons rfl (Sub.dropN 6 (by kernel_rfl) rfl))
  · intro hF3
    refine Tr.gskip rfl rfl hF3 rfl ?_
    refine Tr.gskip rfl rfl hF3 rfl ?_
    refine Tr.gskip rfl rfl hF3 rfl ?_
    refine Tr.gskip rfl rfl hF3 rfl ?_
    refine Tr.gskip rfl rfl hF3 rfl ?_
    refine Tr.q (QS.pickF rfl hF3 rfl) rfl ?_
    refine Tr.nil (Tr.thenN ?_)
    exact Tr.endX (Sub.cons rfl (Sub.dropN 6 (by kernel_rfl) rfl))
  refine Tr.q (QS.move rfl) rfl ?_
  apply Tr.andP
  · exact (rfl : _ = (6, 22, 28))
  · exact rfl
  · intro hT4; have hT4' := hT4
    try simp only [bs] at hT4'
    refine Tr.gq rfl rfl hT4 (QS.move rfl) rfl ?_
    refine Tr.gq rfl rfl hT4 (QS.idxRow rfl rfl (by repeat (first | exact List.Mem.head _ | apply List.Mem.tail)) Try.underlying26 Try.sizeOf36 (by rfl) (by omega)) rfl ?_
    refine Tr.gq rfl rfl hT4 (QS.fieldAddr (off := 0) (ft := 23) rfl Try.underlying36 rfl rfl Try.sizeOf23 (by decide)) rfl ?_
    refine Tr.gq rfl rfl hT4 (QS.elRF rfl (by repeat (first | exact List.Mem.head _ | apply List.Mem.tail)) Try.isAgg23 (by omega) (by rfl)) rfl ?_
    refine Tr.gq rfl rfl hT4 (QS.eql32 (n := 4098) rfl rfl) rfl ?_
    refine Tr.q (QS.pickT rfl hT4 rfl) rfl ?_
    refine Tr.nil (Tr.thenN ?_)
    exact Tr.endX (Sub.cons rfl (Sub.dropN 6 (by kernel_rfl) rfl))
  · intro hF4
    refine Tr.gskip rfl rfl hF4 rfl ?_
    refine Tr.gskip rfl rfl hF4 rfl ?_
    refine Tr.gskip rfl rfl hF4 rfl ?_
    refine Tr.gskip rfl rfl hF4 rfl ?_
    refine Tr.gskip rfl rfl hF4 rfl ?_
    refine Tr.q (QS.pickF rfl hF4 rfl) rfl ?_
    refine Tr.nil (Tr.thenN ?_)
    exact Tr.endX (Sub.cons rfl (Sub.dropN 6 (by kernel_rfl) rfl))
  refine Tr.q (QS.move rfl) rfl ?_
  apply Tr.andP
  · exact (rfl : _ = (6, 29, 35))
  · exact rfl
  · intro hT5; have hT5' := hT5
    try simp only [bs] at hT5'
    refine Tr.gq rfl rfl hT5 (QS.move rfl) rfl ?_
    refine Tr.gq rfl rfl hT5 (QS.idxRow rfl rfl (by repeat (first | exact List.Mem.head _ | apply List.Mem.tail)) Try.underlying26 Try.sizeOf36 (by rfl) (by omega)) rfl ?_
    refine Tr.gq rfl rfl hT5 (QS.fieldAddr (off := 2) (ft := 3) rfl Try.underlying36 rfl rfl Try.sizeOf3 (by decide)) rfl ?_
    refine Tr.gq rfl rfl hT5 (QS.elRF rfl (by repeat (first | exact List.Mem.head _ | apply List.Mem.tail)) Try.isAgg3 (by omega) (by rfl)) rfl ?_
    refine Tr.gq rfl rfl hT5 (QS.eql rfl rfl) rfl ?_
    refine Tr.q (QS.pickT rfl hT5 rfl) rfl ?_
    refine Tr.nil (Tr.thenN ?_)
    exact Tr.endX (Sub.cons rfl (Sub.dropN 6 (by kernel_rfl) rfl))
  · intro hF5
    refine Tr.gskip rfl rfl hF5 rfl ?_
    refine Tr.gskip rfl rfl hF5 rfl ?_
    refine Tr.gskip rfl rfl hF5 rfl ?_
    refine Tr.gskip rfl rfl hF5 rfl ?_
    refine Tr.gskip rfl rfl hF5 rfl ?_
    refine Tr.q (QS.pickF rfl hF5 rfl) rfl ?_
    refine Tr.nil (Tr.thenN ?_)
    exact Tr.endX (Sub.cons rfl (Sub.dropN 6 (by kernel_rfl) rfl))
  refine Tr.q (QS.move rfl) rfl ?_
  apply Tr.andP
  · exact (rfl : _ = (4, 36, 40))
  · exact rfl
  · intro hT6; have hT6' := hT6
    try simp only [bs] at hT6'
    refine Tr.gq rfl rfl hT6 (QS.move rfl) rfl ?_
    refine Tr.gq rfl rfl hT6 (QS.lenRow rfl (by repeat (first | exact List.Mem.head _ | apply List.Mem.tail)) Try.underlying27) rfl ?_
    refine Tr.gq rfl rfl hT6 (QS.eql rfl rfl) rfl ?_
    refine Tr.q (QS.pickT rfl hT6 rfl) rfl ?_
    refine Tr.nil (Tr.thenN ?_)
    exact Tr.endX (Sub.cons rfl (Sub.dropN 4 (by kernel_rfl) rfl))
  · intro hF6
    refine Tr.gskip rfl rfl hF6 rfl ?_
    refine Tr.gskip rfl rfl hF6 rfl ?_
    refine Tr.gskip rfl rfl hF6 rfl ?_
    refine Tr.q (QS.pickF rfl hF6 rfl) rfl ?_
    refine Tr.nil (Tr.thenN ?_)
    exact Tr.endX (Sub.cons rfl (Sub.dropN 4 (by kernel_rfl) rfl))
  refine Tr.q (QS.move rfl) rfl ?_
  apply Tr.andP
  · exact (rfl : _ = (6, 41, 47))
  · exact rfl
  · intro hT7; have hT7' := hT7
    try simp only [bs] at hT7'
    refine Tr.gq rfl rfl hT7 (QS.move rfl) rfl ?_
    refine Tr.gq rfl rfl hT7 (QS.idxRow rfl rfl (by repeat (first | exact List.Mem.head _ | apply List.Mem.tail)) Try.underlying27 Try.sizeOf61 (by rfl) (by omega)) rfl ?_
    refine Tr.gq rfl rfl hT7 (QS.fieldAddr (off := 0) (ft := 23) rfl Try.underlying61 rfl rfl Try.sizeOf23 (by decide)) rfl ?_
    refine Tr.gq rfl rfl hT7 (QS.elRF rfl (by repeat (first | exact List.Mem.head _ | apply List.Mem.tail)) Try.isAgg23 (by omega) (by rfl)) rfl ?_
    refine Tr.gq rfl rfl hT7 (QS.eql32 (n := 4097) rfl rfl) rfl ?_
    refine Tr.q (QS.pickT rfl hT7 rfl) rfl ?_
    refine Tr.nil (Tr.thenN ?_)
    exact Tr.endX (Sub.cons rfl (Sub.dropN 6 (by kernel_rfl) rfl))
  · intro hF7
    refine Tr.gskip rfl rfl hF7 rfl ?_
    refine Tr.gskip rfl rfl hF7 rfl ?_
    refine Tr.gskip rfl rfl hF7 rfl ?_
    refine Tr.gskip rfl rfl hF7 rfl ?_
    refine Tr.gskip rfl rfl hF7 rfl ?_
    refine Tr.q (QS.pickF rfl hF7 rfl) rfl ?_
    refine Tr.nil (Tr.thenN ?_)
    exact Tr.endX (Sub.cons rfl (Sub.dropN 6 (by kernel_rfl) rfl))
  refine Tr.q (QS.move rfl) rfl ?_
  apply Tr.andP
  · exact (rfl : _ = (6, 48, 54))
  · exact rfl
  · intro hT8; have hT8' := hT8
    try simp only [bs] at hT8'
    refine Tr.gq rfl rfl hT8 (QS.move rfl) rfl ?_
    refine Tr.gq rfl rfl hT8 (QS.idxRow rfl rfl (by repeat (first | exact List.Mem.head _ | apply List.Mem.tail)) Try.underlying27 Try.sizeOf61 (by rfl) (by omega)) rfl ?_
    refine Tr.gq rfl rfl hT8 (QS.fieldAddr (off := 1) (ft := 23) rfl Try.underlying61 rfl rfl Try.sizeOf23 (by decide)) rfl ?_
    refine Tr.gq rfl rfl hT8 (QS.elRF rfl (by repeat (first | exact List.Mem.head _ | apply List.Mem.tail)) Try.isAgg23 (by omega) (by rfl)) rfl ?_
    refine Tr.gq rfl rfl hT8 (QS.eql32 (n := 4098) rfl rfl) rfl ?_
    refine Tr.q (QS.pickT rfl hT8 rfl) rfl ?_
    refine Tr.nil (Tr.thenN ?_)
    exact Tr.endX (Sub.cons rfl (Sub.dropN 6 (by kernel_rfl) rfl))
  · intro hF8
    refine Tr.gskip rfl rfl hF8 rfl ?_
    refine Tr.gskip rfl rfl hF8 rfl ?_
    refine Tr.gskip rfl rfl hF8 rfl ?_
    refine Tr.gskip rfl rfl hF8 rfl ?_
    refine Tr.gskip rfl rfl hF8 rfl ?_
    refine Tr.q (QS.pickF rfl hF8 rfl) rfl ?_
    refine Tr.nil (Tr.thenN ?_)
    exact Tr.endX (Sub.cons rfl (Sub.dropN 6 (by kernel_rfl) rfl))
  refine Tr.q (QS.assign rfl) rfl ?_
  refine Tr.nil ?_
  refine Tr.thenN ?_
  refine Tr.ret ?_
  refine Tr.ret1 Try.results10 rfl (fun w' hw => ?_)
  exact ⟨by rfl, hw.below0 (hF1.trans hF2)⟩
end Go.Proofs.Ytfnedefgepjbpaa
namespace Go.HL
open Go
theorem nxt_spec : ∀ {rs : List Rng} {a : UInt32}, Norm rs →
    (∀ b, nxtP rs a = some b → Has rs b.toNat ∧ a.toNat ≤ b.toNat ∧ ∀ n, a.toNat ≤ n → Has rs n → b.toNat ≤ n) ∧ (nxtP rs a = none → ∀ n, a.toNat ≤ n → ¬ Has rs n)
  | [], a, _ => ⟨fun b h => by simp [nxtP] at h, fun _ n _ ⟨r, hr, _⟩ => by cases hr⟩
  | r :: t, a, hn => by
    have h1 := List.pairwise_cons.1 hn.1
    have hr := hn.2 r (.head _)
    have ht : Norm t := ⟨h1.2, fun x hx => hn.2 x (.tail _ hx)⟩
    obtain ⟨k1, k2⟩ := nxt_spec (a := a) ht
    unfold nxtP
    by_cases c : a < r.hi
    · rw [if_pos c]
      rw [UInt32.lt_iff_toNat_lt] at c
      refine ⟨fun b h => ?_, fun h => by cases h⟩
      cases h
      have hb : (if a < r.lo then r.lo else a).toNat = max a.toNat r.lo.toNat := by
        split
        · rename_i q; rw [UInt32.lt_iff_toNat_lt] at q; omega
        · rename_i q; rw [UInt32.lt_iff_toNat_lt] at q; omega
      rw [hb]
      refine ⟨⟨r, .head _, by omega, by omega⟩, by omega, fun n h2 ⟨x, hx, q1, q2⟩ => ?_⟩
      rcases List.mem_cons.1 hx with rfl | hx
      · omega
      · have := h1.1 x hx; omega
    · rw [if_neg c]
      rw [UInt32.lt_iff_toNat_lt] at c
      refine ⟨fun b h => ?_, fun h n h2 ⟨x, hx, q1, q2⟩ => ?_⟩
      · obtain ⟨⟨x, hx, q1, q2⟩, q3, q4⟩ := k1 b h
        refine ⟨⟨x, .tail _ hx, q1, q2⟩, q3, fun n h2 ⟨y, hy, p1, p2⟩ => ?_⟩
        rcases List.mem_cons.1 hy with rfl | hy
        · omega
        · exact q4 n h2 ⟨y, hy, p1, p2⟩
      · rcases List.mem_cons.1 hx with rfl | hx
        · omega
        · exact k2 h n h2 ⟨x, hx, q1, q2⟩
end Go.HL
namespace Go.HL
open Go
theorem inc_len : ∀ (ps : List Nat) (lo hi : Nat), ps.Pairwise (· < ·) → (∀ p ∈ ps, lo ≤ p ∧ p < hi) → ps.length ≤ hi - lo
  | [], _, _, _, _ => Nat.zero_le _
  | x :: t, lo, hi, h, hb => by
    have h1 := List.pairwise_cons.1 h
    have := inc_len t (x + 1) hi h1.2 (fun p hp => ⟨h1.1 p hp, (hb p (.tail _ hp)).2⟩)
    have := hb x (.head _)
    simp only [List.length_cons]; omega
theorem filter_two (p : Nat → Bool) : ∀ l : List Nat, (l.filter p).length + (l.filter fun x => !p x).length = l.length
  | [] => rfl
  | x :: t => by
    have := filter_two p t
    cases h : p x <;> simp [List.filter_cons, h] <;> omega
def totB (l : List SecV) : Nat := (l.map fun s => s.data.length).sum
theorem cov_len : ∀ (l : List SecV) (ps : List Nat), ps.Pairwise (· < ·) → (∀ p ∈ ps, ∃ s ∈ l, s.addr.toNat ≤ p ∧ (p : Int) < endP s) → ps.length ≤ totB l
  | [], ps, _, h => by
    cases ps with
    | nil => exact Nat.zero_le _
    | cons p t => obtain ⟨s, hs, _⟩ := h p (.head _); cases hs
  | s :: l, ps, hi, h => by
    have h1 := filter_two (fun p => decide (s.addr.toNat ≤ p ∧ (p : Int) < endP s)) ps
    have h2 := inc_len (ps.filter fun p => decide (s.addr.toNat ≤ p ∧ (p : Int) < endP s)) s.addr.toNat (endP s).toNat (hi.filter _) (fun p hp => by
      have := of_decide_eq_true (List.mem_filter.1 hp).2
      omega)
    have h3 := cov_len l (ps.filter fun p => !decide (s.addr.toNat ≤ p ∧ (p : Int) < endP s)) (hi.filter _) (fun p hp => by
      obtain ⟨q1, q2⟩ := List.mem_filter.1 hp
      obtain ⟨x, hx, q3⟩ := h p q1
      rcases List.mem_cons.1 hx with rfl | hx
      · simp [q3] at q2
      · exact ⟨x, hx, q3⟩)
    have he : endP s ≤ (s.addr.toNat : Int) + s.data.length := by unfold endP; omega
    have ht : totB (s :: l) = s.data.length + totB l := by simp [totB]
    rw [ht]; omega
theorem posF_spec {l : List SecV} {rs : List Rng} {to_ : UInt32} (hn : Norm rs) : ∀ (f : Nat) (a : UInt32), ((posF l rs to_ f a).map UInt32.toNat).Pairwise (· < ·) ∧ ∀ p ∈ posF l rs to_ f a, a.toNat ≤ p.toNat ∧ Has rs p.toNat ∧ p < to_
  | 0, a => ⟨by simp [posF], fun p hp => by cases hp⟩
  | f + 1, a => by
    cases hq : nxtP rs a with
    | none => rw [posF_stop hq]; exact ⟨by simp, fun p hp => by cases hp⟩
    | some b =>
      by_cases hb : b < to_
      · rw [posF_go hq hb]
        obtain ⟨k1, k2⟩ := posF_spec hn f (b + szW l to_ b)
        obtain ⟨s1, s2⟩ := step_pos l to_ b hb
        obtain ⟨b1, b2, _⟩ := (nxt_spec (a := a) hn).1 b hq
        refine ⟨?_, fun p hp => ?_⟩
        · rw [List.map_cons, List.pairwise_cons]
          refine ⟨fun n hnm => ?_, k1⟩
          obtain ⟨p, hp, rfl⟩ := List.mem_map.1 hnm
          have := (k2 p hp).1
          omega
        · rcases List.mem_cons.1 hp with rfl | hp
          · exact ⟨b2, b1, hb⟩
          · obtain ⟨q1, q2, q3⟩ := k2 p hp
            exact ⟨by omega, q2, q3⟩
      · rw [posF_stop2 hq hb]; exact ⟨by simp, fun p hp => by cases hp⟩
theorem posP_len (l : List SecV) (from_ to_ : UInt32) : (posP l from_ to_).length ≤ totB l := by
  obtain ⟨hn, hh⟩ := normal_ok (l.map spaceP)
  obtain ⟨k1, k2⟩ := posF_spec (l := l) (to_ := to_) hn 4294967296 from_
  have := cov_len l ((posP l from_ to_).map UInt32.toNat) k1 (fun p hp => by
    obtain ⟨q, hq, rfl⟩ := List.mem_map.1 hp
    exact has_space.1 ((hh _).1 (k2 q hq).2.1))
  simpa using this
end Go.HL
namespace Go.HL
open Go
theorem has_find {l : List SecV} {b : UInt32} (h : Has (normalP (l.map spaceP)) b.toNat) : 0 ≤ findP l b := by
  have h1 := finds_ok l b
  obtain ⟨r, hr, q1, q2⟩ := h
  have h2 : (normalP (l.map spaceP)).any (inR b) = true := List.any_eq_true.2 ⟨r, hr, by
    simp only [inR, Bool.and_eq_true, decide_eq_true_eq, UInt32.le_iff_toNat_le, UInt32.lt_iff_toNat_lt]; exact ⟨q1, q2⟩⟩
  rw [h2] at h1
  exact of_decide_eq_true h1.symm
theorem sz_ok {l : List SecV} {to_ b : UInt32} (h : (decP (winP l b to_) b).2 = 0) : ((szW l to_ b).toNat : Int) = (decP (winP l b to_) b).1.size := by
  have hd := dec_size h
  have hw := win_len l b to_
  unfold szW
  rw [if_pos (show okW l to_ b = true from decide_eq_true h)]
  exact u32_val (by unfold decW; omega)
theorem sz_bad {l : List SecV} {to_ b : UInt32} (h : ¬ (decP (winP l b to_) b).2 = 0) : (szW l to_ b).toNat = 1 := by
  unfold szW
  rw [if_neg (show ¬ okW l to_ b = true from fun q => h (of_decide_eq_true q))]; rfl
end Go.HL
namespace Go.HL
open Go
end Go.HL
namespace Go.HL
open Go
def larg11 (l : List SecV) : Bool := decide (20 < l.length) || decide (20000 < totB l)
theorem totB_succ {l : List SecV} {k : Nat} (h : k < l.length) : totB (l.take (k + 1)) = totB (l.take k) + (l.getD k default).data.length := by
  unfold totB
  rw [take_succ h, List.map_append, List.sum_append]; simp
theorem totB_take (l : List SecV) (k : Nat) : totB (l.take k) ≤ totB l := by
  have : totB l = totB (l.take k) + totB (l.drop k) := by
    unfold totB
    rw [← List.sum_append, ← List.map_append, List.take_append_drop]
  omega
theorem totB_mem {l : List SecV} {s : SecV} (h : s ∈ l) : s.data.length ≤ totB l := by
  induction l with
  | nil => cases h
  | cons x t ih =>
    have e : totB (x :: t) = x.data.length + totB t := by simp [totB]
    rcases List.mem_cons.1 h with rfl | h
    · omega
    · have := ih h; omega
theorem larg11_no {l : List SecV} (h : larg11 l = false) : SecB l ∧ totB l ≤ 20000 := by
  simp only [larg11, Bool.or_eq_false_iff, decide_eq_false_iff_not] at h
  exact ⟨⟨by omega, fun s hs => by have := totB_mem hs; omega⟩, by omega⟩
end Go.HL
namespace Go.Proofs.Ytfnedefgepjbpaa
open Go Go.HL Go.RowKit
set_option maxRecDepth 100000 in
set_option maxHeartbeats 2000000 in
theorem large11_any (l : List SecV) (V : Value) (w : World) (hV : Sl (hp w) encSec l V) (hz : ∀ s ∈ l, s.data.length ≤ 140737488351232) :
    Calls Try.prog 9 #[V] w (fun e w' => e = .returned (.bool (larg11 l)) ∧ Ext w w') := by
  have hV' : Sl (Bg.of w).blk encSec l V := hV
  have hlen := hV.len_le
  refine enter Try.func9 rfl Try.ntmps9 rfl ?_
  refine Tr.seq ?_
  refine Tr.region ?_
  refine Tr.q (QS.assign rfl) rfl ?_
  refine Tr.nil ?_
  refine Tr.thenN ?_
  refine Tr.seq ?_
  refine Tr.seq ?_
  refine Tr.region ?_
  refine Tr.q (QS.move rfl) rfl ?_
  refine Tr.q (QS.len rfl (by assumption) Try.underlying22) rfl ?_
  refine Tr.q (QS.gtr rfl rfl) rfl ?_
  refine Tr.nil ?_
  refine Tr.thenN ?_
  refine Tr.cond rfl (fun h1 => ?_) (fun h1 => ?_)
  · try simp only [bs] at h1
    refine Tr.seq ?_
    refine Tr.region ?_
    refine Tr.q (QS.assign rfl) rfl ?_
    refine Tr.nil ?_
    refine Tr.thenN ?_
    refine Tr.ret ?_
    refine Tr.thenR ?_
    refine Tr.ret1 Try.results9 rfl (fun w' hw => ?_)
    exact ⟨by rw [larg11, decide_eq_true (show 20 < l.length by omega)]; rfl, hw.below (Bg.le.refl _)⟩
  · try simp only [bs] at h1
    refine Tr.skip ?_
    refine Tr.thenN ?_
    refine Tr.seq ?_
    refine Tr.region ?_
    refine Tr.q (QS.assign rfl) rfl ?_
    refine Tr.nil ?_
    refine Tr.thenN ?_
    refine Tr.seq ?_
    refine Tr.seq ?_
    refine Tr.region ?_
    refine Tr.q (QS.assign rfl) rfl ?_
    refine Tr.nil ?_
    refine Tr.thenN ?_
    refine Tr.block ?_
    refine Tr.loop (ι := Nat) (fun k => k ≤ l.length ∧ totB (l.take k) ≤ 20000) (fun _ => _) (fun k => []) (fun k => [(4, .int .i64 (k : Nat)), (3, .int .i64 ((totB (l.take k) : Nat) : Int))]) (fun k => l.length - k) 0 ⟨Nat.zero_le _, by simp [totB]⟩ (.cons (by first | rfl | exact lookI rfl (by omega) | exact lookI rfl (by simp) | exact lookB rfl (by simp)) (.cons (by first | rfl | exact lookI rfl (by omega) | exact lookI rfl (by simp) | exact lookB rfl (by simp)) Front.nil)) (by repeat' (first | exact Pick.nil _ | exact Del.here _ | apply Pick.cons | apply Del.there)) rfl (fun k hi m hm => ?_)
    replace hi : k ≤ l.length ∧ totB (l.take k) ≤ 20000 := hi
    replace hm : m = l.length - k := hm
    change Tr _ _ [] ([(4, .int .i64 (k : Nat)), (3, .int .i64 ((totB (l.take k) : Nat) : Int))] ++ _) _
    obtain ⟨hk1, hk2⟩ := hi
    have hbk : k < l.length → (l.getD k default).data.length ≤ 140737488351232 := fun q => hz _ (mem_getD q)
    have hts : k < l.length → totB (l.take (k + 1)) = totB (l.take k) + (l.getD k default).data.length := fun q => totB_succ q
    have htk := totB_take l (k + 1)
    refine Tr.seq ?_
    refine Tr.seq ?_
    refine Tr.region ?_
    refine Tr.q (QS.move rfl) rfl ?_
    refine Tr.q (QS.move rfl) rfl ?_
    refine Tr.q (QS.len rfl (by assumption) Try.underlying22) rfl ?_
    refine Tr.q (QS.lss rfl rfl) rfl ?_
    refine Tr.nil ?_
    refine Tr.thenN ?_
    refine Tr.cond rfl (fun h2 => ?_) (fun h2 => ?_)
    · try simp only [bs] at h2
      refine Tr.skip ?_
      refine Tr.thenN ?_
      refine Tr.seq ?_
      refine Tr.block ?_
      refine Tr.seq ?_
      refine Tr.region ?_
      refine Tr.q (QS.move rfl) rfl ?_
      refine Tr.q (QS.move rfl) rfl ?_
      refine Tr.q (QS.move rfl) rfl ?_
      refine Tr.q (QS.idxN rfl rfl (by assumption) Try.underlying22 Try.sizeOf59 (by rfl) (by omega)) rfl ?_
      refine Tr.q (QS.fieldAddr (off := 2) (ft := 54) rfl Try.underlying59 rfl rfl Try.sizeOf54 (by decide)) rfl ?_
      refine Tr.q (QS.elF rfl (by assumption) Try.isAgg54 (by omega) (by rfl)) rfl ?_
      refine Tr.q (QS.lenNil rfl Try.underlying54) rfl ?_
      refine Tr.q (QS.addI rfl rfl (by omega)) rfl ?_
      refine Tr.q (QS.assign rfl) rfl ?_
      refine Tr.nil ?_
      refine Tr.thenN ?_
      refine Tr.seq ?_
      refine Tr.region ?_
      refine Tr.q (QS.move rfl) rfl ?_
      refine Tr.q (QS.gtr rfl rfl) rfl ?_
      refine Tr.nil ?_
      refine Tr.thenN ?_
      refine Tr.cond rfl (fun h3 => ?_) (fun h3 => ?_)
      · try simp only [bs] at h3
        refine Tr.seq ?_
        refine Tr.region ?_
        refine Tr.q (QS.assign rfl) rfl ?_
        refine Tr.nil ?_
        refine Tr.thenN ?_
        refine Tr.ret ?_
        refine Tr.inR ?_
        refine Tr.thenR ?_
        refine Tr.thenR ?_
        refine Tr.inR ?_
        refine Tr.thenR ?_
        refine Tr.ret1 Try.results9 rfl (fun w' hw => ?_)
        exact ⟨by rw [larg11, decide_eq_true (show 20000 < totB l by omega), Bool.or_true], hw.below (Bg.le.refl _)⟩
      · try simp only [bs] at h3
        refine Tr.skip ?_
        refine Tr.inN ?_
        refine Tr.thenN ?_
        refine Tr.region ?_
        refine Tr.q (QS.move rfl) rfl ?_
        refine Tr.q (QS.addI rfl rfl (by omega)) rfl ?_
        refine Tr.q (QS.assign rfl) rfl ?_
        refine Tr.nil ?_
        refine Tr.thenN ?_
        apply Tr.again (k + 1)
        · exact rfl
        · exact (.cons (by first | rfl | exact lookI rfl (by omega) | exact lookI rfl (by simp) | exact lookB rfl (by simp)) (.cons (by first | rfl | exact lookI rfl (by omega) | exact lookI rfl (by simp) | exact lookB rfl (by simp)) Front.nil))
        · exact SubX.dropN 20 (by kernel_rfl) rfl
        · exact (by repeat' (first | exact Pick.nil _ | exact Del.here _ | apply Pick.cons | apply Del.there))
        · exact ⟨by omega, by omega⟩
        · exact (by (try dsimp only); omega)
    · try simp only [bs] at h2
      refine Tr.exit ?_
      refine Tr.thenE ?_
      refine Tr.thenE ?_
      refine Tr.inHit ?_
      refine Tr.thenN ?_
      refine Tr.seq ?_
      refine Tr.region ?_
      refine Tr.q (QS.assign rfl) rfl ?_
      refine Tr.nil ?_
      refine Tr.thenN ?_
      refine Tr.ret ?_
      refine Tr.ret1 Try.results9 rfl (fun w' hw => ?_)
      have hkl : k = l.length := by omega
      rw [hkl, List.take_length] at hk2
      exact ⟨by rw [larg11, decide_eq_false (show ¬ 20 < l.length by omega), decide_eq_false (show ¬ 20000 < totB l by omega)]; rfl, hw.below (Bg.le.refl _)⟩
end Go.Proofs.Ytfnedefgepjbpaa
namespace Go.HL
open Go
theorem dec_addr {l : List SecV} {to_ b : UInt32} (h : okW l to_ b = true) : (decW l to_ b).1.addr = b := (dec_size (of_decide_eq_true h : (decP (winP l b to_) b).2 = 0)).2.2
theorem found_getD {l : List SecV} {to_ : UInt32} {ps : List UInt32} {k : Nat} (h : k < (ps.filter (okW l to_)).length) : (foundP l to_ ps).getD k default = (decW l to_ ((ps.filter (okW l to_)).getD k default)).1 := by
  have h' : k < ((ps.filter (okW l to_)).map fun a => (decW l to_ a).1).length := by rw [List.length_map]; exact h
  unfold foundP
  simp only [List.getD_eq_getElem?_getD, List.getElem?_map, List.getElem?_eq_getElem h]; rfl
/-- In order, none overlapping another, none empty. -/
def Disj (l : List Rng) : Prop := l.Pairwise (fun x y => x.hi.toNat ≤ y.lo.toNat) ∧ ∀ x ∈ l, x.lo.toNat < x.hi.toNat
theorem disj_count : ∀ l : List Rng, Disj l → sumN l = (List.range 4294967296).countP (hasB l)
  | [], _ => by
    show 0 = (List.range 4294967296).countP (hasB [])
    symm
    rw [List.countP_eq_zero]
    intro x _ h
    cases h
  | r :: l, h => by
    have hp := List.pairwise_cons.1 h.1
    have ih := disj_count l ⟨hp.2, fun x hx => h.2 x (.tail _ hx)⟩
    have e : hasB (r :: l) = fun n => (decide (r.lo.toNat ≤ n) && decide (n < r.hi.toNat)) || hasB l n := by funext n; simp [hasB]
    rw [e, countP_or (p := fun n => decide (r.lo.toNat ≤ n) && decide (n < r.hi.toNat)) (q := hasB l) (fun n ⟨h1, h2⟩ => by
      obtain ⟨x, hx, q1, q2⟩ := hasB_iff.1 h2
      have := hp.1 x hx
      simp only [Bool.and_eq_true, decide_eq_true_eq] at h1
      omega), ← ih, countP_range]
    have := r.hi.toNat_lt
    have h0 := h.2 r (.head _)
    have e2 : (r.hi - r.lo).toNat = r.hi.toNat - r.lo.toNat := UInt32.toNat_sub_of_le _ _ (UInt32.le_iff_toNat_le.2 (by omega))
    show (r.hi - r.lo).toNat + sumN l = _
    rw [e2]
    omega
theorem disj_normal {l m : List Rng} (h : Disj l) (hm : ∀ n, Has m n ↔ Has l n) : lengthP m = (sumN l : Int) := by
  obtain ⟨h1, h2⟩ := normal_ok m
  have e : hasB (normalP m) = hasB l := by
    funext n
    have a1 : hasB (normalP m) n = true ↔ hasB l n = true := by rw [hasB_iff, hasB_iff, h2, hm]
    cases c : hasB l n <;> simp_all
  unfold lengthP
  rw [lenFold_sum, sumN_count _ h1, e, ← disj_count l h]
  omega
def spanP (l : List SecV) (to_ p : UInt32) : Rng := ⟨p, p + szW l to_ p⟩
/-- The addresses of a sweep lie one behind the other. -/
theorem spans_disj {l : List SecV} {rs : List Rng} {to_ : UInt32} (hn : Norm rs) : ∀ (f : Nat) (a : UInt32), Disj ((posF l rs to_ f a).map (spanP l to_)) ∧ ∀ p ∈ posF l rs to_ f a, a.toNat ≤ p.toNat
  | 0, a => ⟨⟨by simp [posF], fun x hx => by simp [posF] at hx⟩, fun p hp => by cases hp⟩
  | f + 1, a => by
    cases hq : nxtP rs a with
    | none => rw [posF_stop hq]; exact ⟨⟨by simp, fun x hx => by simp at hx⟩, fun p hp => by cases hp⟩
    | some b =>
      by_cases hb : b < to_
      · rw [posF_go hq hb]
        obtain ⟨⟨k1, k2⟩, k3⟩ := spans_disj hn f (b + szW l to_ b)
        obtain ⟨s1, s2⟩ := step_pos l to_ b hb
        have hge := nxtP_ge hq
        refine ⟨⟨?_, fun x hx => ?_⟩, fun p hp => ?_⟩
        · rw [List.map_cons, List.pairwise_cons]
          refine ⟨fun y hy => ?_, k1⟩
          obtain ⟨p, hp, rfl⟩ := List.mem_map.1 hy
          exact k3 p hp
        · rw [List.map_cons] at hx
          rcases List.mem_cons.1 hx with rfl | hx
          · show b.toNat < (b + szW l to_ b).toNat; omega
          · exact k2 x hx
        · rcases List.mem_cons.1 hp with rfl | hp
          · exact hge
          · have := k3 p hp; omega
      · rw [posF_stop2 hq hb]; exact ⟨⟨by simp, fun x hx => by simp at hx⟩, fun p hp => by cases hp⟩
/-- What one step covers lies in a section and in the range. -/
theorem span_in {l : List SecV} {to_ b : UInt32} (hb : b < to_) (hs : Has (normalP (l.map spaceP)) b.toNat) {n : Nat} (h1 : b.toNat ≤ n) (h2 : n < (b + szW l to_ b).toNat) : n < to_.toNat ∧ Has (normalP (l.map spaceP)) n := by
  obtain ⟨s1, s2⟩ := step_pos l to_ b hb
  have hblt := UInt32.lt_iff_toNat_lt.1 hb
  by_cases hk : okW l to_ b = true
  · have hk' : (decP (winP l b to_) b).2 = 0 := of_decide_eq_true hk
    have hz := sz_ok hk'
    obtain ⟨d1, d2, _⟩ := dec_size hk'
    have hf := has_find hs
    have hin := inS_iff.1 (findP_in hf)
    have hlt := findP_lt (l := l) (a := b)
    obtain ⟨s, hse⟩ : ∃ s, s = l.getD (findP l b).toNat default := ⟨_, rfl⟩
    have hmem : s ∈ l := by rw [hse]; exact mem_getD (by omega)
    have hw : winP l b to_ = (s.data.drop (b - s.addr).toNat).take (winN s b to_).toNat := by unfold winP; rw [if_neg (by omega), ← hse]
    rw [← hse] at hin
    have hsub : (b - s.addr).toNat = b.toNat - s.addr.toNat := UInt32.toNat_sub_of_le _ _ (UInt32.le_iff_toNat_le.2 hin.1)
    have htsub : (to_ - b).toNat = to_.toNat - b.toNat := UInt32.toNat_sub_of_le _ _ (UInt32.le_iff_toNat_le.2 (by omega))
    have hwl : ((winP l b to_).length : Int) ≤ winN s b to_ := by rw [hw, List.length_take]; have : 0 ≤ winN s b to_ := by { have := b.toNat_lt; unfold winN; omega }
                                                                  omega
    have hdl : (s.data.drop (b - s.addr).toNat).length = s.data.length - (b - s.addr).toNat := List.length_drop
    have hwn : winN s b to_ ≤ ((s.data.drop (b - s.addr).toNat).length : Int) ∧ winN s b to_ ≤ ((to_ - b).toNat : Int) ∧ winN s b to_ ≤ 4294967295 - (b.toNat : Int) := by unfold winN; omega
    have hen : endP s = min ((s.addr.toNat : Int) + s.data.length) 4294967295 := rfl
    refine ⟨by omega, ((normal_ok (l.map spaceP)).2 n).2 (has_space.2 ⟨s, hmem, by omega, by omega⟩)⟩
  · have hz := sz_bad (l := l) (to_ := to_) (b := b) (fun q => hk (decide_eq_true q))
    have : n = b.toNat := by omega
    exact ⟨by omega, this ▸ hs⟩
theorem spans_has {l : List SecV} {to_ : UInt32} : ∀ (f : Nat) (a : UInt32), 4294967296 ≤ f + a.toNat → ∀ n, Has ((posF l (normalP (l.map spaceP)) to_ f a).map (spanP l to_)) n ↔ (a.toNat ≤ n ∧ n < to_.toNat) ∧ Has (normalP (l.map spaceP)) n
  | 0, a, h, n => by have := a.toNat_lt; omega
  | f + 1, a, h, n => by
    have hn := (normal_ok (l.map spaceP)).1
    obtain ⟨k1, k2⟩ := nxt_spec (a := a) hn
    cases hq : nxtP (normalP (l.map spaceP)) a with
    | none =>
      rw [posF_stop hq]
      exact ⟨fun ⟨x, hx, _⟩ => by simp at hx, fun ⟨⟨q1, _⟩, q3⟩ => absurd q3 (k2 hq n q1)⟩
    | some b =>
      obtain ⟨b1, b2, b3⟩ := k1 b hq
      by_cases hb : b < to_
      · rw [posF_go hq hb, List.map_cons, has_cons]
        obtain ⟨s1, s2⟩ := step_pos l to_ b hb
        rw [spans_has f (b + szW l to_ b) (by omega) n]
        show (b.toNat ≤ n ∧ n < (b + szW l to_ b).toNat) ∨ _ ↔ _
        constructor
        · rintro (⟨q1, q2⟩ | ⟨⟨q1, q2⟩, q3⟩)
          · obtain ⟨r1, r2⟩ := span_in hb b1 q1 q2
            exact ⟨⟨by omega, r1⟩, r2⟩
          · exact ⟨⟨by omega, q2⟩, q3⟩
        · rintro ⟨⟨q1, q2⟩, q3⟩
          have := b3 n q1 q3
          by_cases c : n < (b + szW l to_ b).toNat
          · exact .inl ⟨this, c⟩
          · exact .inr ⟨⟨by omega, q2⟩, q3⟩
      · rw [posF_stop2 hq hb]
        have hb' : to_.toNat ≤ b.toNat := by rw [UInt32.lt_iff_toNat_lt] at hb; omega
        exact ⟨fun ⟨x, hx, _⟩ => by simp at hx, fun ⟨⟨q1, q2⟩, q3⟩ => by have := b3 n q1 q3; omega⟩
theorem cover_span {l : List SecV} {to_ b : UInt32} (hk : okW l to_ b = true) (hb : b < to_) : 1 ≤ (decW l to_ b).1.size ∧ coverR (decW l to_ b).1 = spanP l to_ b ∧ (decW l to_ b).1.size = ((szW l to_ b).toNat : Int) := by
  have hk' : (decP (winP l b to_) b).2 = 0 := of_decide_eq_true hk
  have hz := sz_ok hk'
  obtain ⟨d1, d2, _⟩ := dec_size hk'
  have hw := win_len l b to_
  obtain ⟨s1, s2⟩ := step_pos l to_ b hb
  have hz' : (decW l to_ b).1.size = ((szW l to_ b).toNat : Int) := hz.symm
  have ha := dec_addr hk
  refine ⟨d1, ?_, hz'⟩
  refine rng_ext ha ?_
  show u32 (min (min (decW l to_ b).1.size 4294967296 + (decW l to_ b).1.addr.toNat) 4294967295) = b + szW l to_ b
  rw [ha, hz']
  have hlt := (b + szW l to_ b).toNat_lt
  have e := u32_val (n := min (min ((szW l to_ b).toNat : Int) 4294967296 + b.toNat) 4294967295) (by omega)
  apply UInt32.toNat_inj.1
  omega
theorem cover_found {l : List SecV} {to_ : UInt32} : ∀ ps : List UInt32, (∀ p ∈ ps, p < to_) → coverL (foundP l to_ ps) = (ps.filter (okW l to_)).map (spanP l to_)
  | [], _ => rfl
  | b :: t, h => by
    have ih := cover_found (l := l) t (fun p hp => h p (.tail _ hp))
    cases hk : okW l to_ b with
    | false =>
      have e : foundP l to_ (b :: t) = foundP l to_ t := by unfold foundP; rw [List.filter_cons_of_neg (by simp [hk])]
      rw [e, ih, List.filter_cons_of_neg (by simp [hk])]
    | true =>
      obtain ⟨c1, c2, _⟩ := cover_span hk (h b (.head _))
      have e : foundP l to_ (b :: t) = (decW l to_ b).1 :: foundP l to_ t := by unfold foundP; rw [List.filter_cons_of_pos hk]; rfl
      rw [e, List.filter_cons_of_pos hk, List.map_cons, ← ih, ← c2]
      unfold coverL
      rw [List.filter_cons_of_pos (by exact decide_eq_true c1)]; rfl
theorem bad_span {l : List SecV} {to_ : UInt32} (ps : List UInt32) : badP l to_ ps = (ps.filter fun a => !okW l to_ a).map (spanP l to_) := by
  unfold badP
  refine List.map_congr_left fun a ha => ?_
  have hk : okW l to_ a = false := by simpa using (List.mem_filter.1 ha).2
  unfold spanP szW
  rw [if_neg (by simp [hk])]
theorem sum_two (l : List SecV) (to_ : UInt32) : ∀ ps : List UInt32, sumN (ps.map (spanP l to_)) = sumN ((ps.filter (okW l to_)).map (spanP l to_)) + sumN ((ps.filter fun a => !okW l to_ a).map (spanP l to_))
  | [] => rfl
  | b :: t => by
    have ih := sum_two l to_ t
    cases hk : okW l to_ b with
    | false =>
      rw [List.filter_cons_of_neg (by simp [hk]), List.filter_cons_of_pos (by simp [hk]), List.map_cons, List.map_cons]
      show _ + sumN (t.map _) = _ + (_ + sumN _)
      rw [ih]; omega
    | true =>
      rw [List.filter_cons_of_pos hk, List.filter_cons_of_neg (by simp [hk]), List.map_cons, List.map_cons]
      show _ + sumN (t.map _) = (_ + sumN _) + _
      rw [ih]; omega
theorem has_two (l : List SecV) (to_ : UInt32) (n : Nat) : ∀ ps : List UInt32, Has (ps.map (spanP l to_)) n ↔ Has ((ps.filter (okW l to_)).map (spanP l to_)) n ∨ Has ((ps.filter fun a => !okW l to_ a).map (spanP l to_)) n
  | [] => by simp [Has]
  | b :: t => by
    have ih := has_two l to_ n t
    cases hk : okW l to_ b with
    | false =>
      rw [List.filter_cons_of_neg (by simp [hk]), List.filter_cons_of_pos (by simp [hk]), List.map_cons, List.map_cons, has_cons, has_cons, ih]
      constructor
      · rintro (q | q | q)
        · exact .inr (.inl q)
        · exact .inl q
        · exact .inr (.inr q)
      · rintro (q | q | q)
        · exact .inr (.inl q)
        · exact .inl q
        · exact .inr (.inr q)
    | true =>
      rw [List.filter_cons_of_pos hk, List.filter_cons_of_neg (by simp [hk]), List.map_cons, List.map_cons, has_cons, has_cons, ih]
      constructor
      · rintro (q | q | q)
        · exact .inl (.inl q)
        · exact .inl (.inr q)
        · exact .inr q
      · rintro ((q | q) | q)
        · exact .inl q
        · exact .inr (.inl q)
        · exact .inr (.inr q)
theorem Disj.filter {l : List SecV} {to_ : UInt32} {ps : List UInt32} (h : Disj (ps.map (spanP l to_))) (p : UInt32 → Bool) : Disj ((ps.filter p).map (spanP l to_)) :=
  ⟨List.pairwise_map.2 ((List.pairwise_map.1 h.1).filter p), fun x hx => by
    obtain ⟨q, hq, rfl⟩ := List.mem_map.1 hx
    exact h.2 _ (List.mem_map.2 ⟨q, (List.mem_filter.1 hq).1, rfl⟩)⟩
def sizesP (fs : List Ins) : Int := fs.foldl (fun n i => n + i.size) 0
theorem sizes_succ {fs : List Ins} {k : Nat} (h : k < fs.length) : sizesP (fs.take (k + 1)) = sizesP (fs.take k) + (fs.getD k default).size := by
  unfold sizesP
  rw [take_succ h, List.foldl_append]; rfl
theorem sizes_fold : ∀ (fs : List Ins) (n : Int), fs.foldl (fun n i => n + i.size) n = n + sizesP fs
  | [], n => by simp [sizesP]
  | i :: t, n => by
    show t.foldl _ (n + i.size) = n + t.foldl _ (0 + i.size)
    rw [sizes_fold t (n + i.size), sizes_fold t (0 + i.size)]; omega
theorem sizes_found {l : List SecV} {to_ : UInt32} : ∀ ps : List UInt32, (∀ p ∈ ps, p < to_) → sizesP (foundP l to_ ps) = (sumN ((ps.filter (okW l to_)).map (spanP l to_)) : Int)
  | [], _ => rfl
  | b :: t, h => by
    have ih := sizes_found (l := l) t (fun p hp => h p (.tail _ hp))
    cases hk : okW l to_ b with
    | false =>
      have e : foundP l to_ (b :: t) = foundP l to_ t := by unfold foundP; rw [List.filter_cons_of_neg (by simp [hk])]
      rw [e, ih, List.filter_cons_of_neg (by simp [hk])]
    | true =>
      obtain ⟨c1, c2, c3⟩ := cover_span hk (h b (.head _))
      obtain ⟨s1, s2⟩ := step_pos l to_ b (h b (.head _))
      have e : foundP l to_ (b :: t) = (decW l to_ b).1 :: foundP l to_ t := by unfold foundP; rw [List.filter_cons_of_pos hk]; rfl
      rw [e, List.filter_cons_of_pos hk, List.map_cons]
      show (foundP l to_ t).foldl _ (0 + (decW l to_ b).1.size) = (((b + szW l to_ b) - b).toNat + sumN _ : Nat)
      rw [sizes_fold, ih, c3]
      have e2 : ((b + szW l to_ b) - b).toNat = (szW l to_ b).toNat := by
        rw [UInt32.toNat_sub_of_le _ _ (UInt32.le_iff_toNat_le.2 (by omega))]; omega
      rw [e2]; omega
/-- What LinearCover says of a sweep. -/
theorem cover_law (l : List SecV) (from_ to_ x : UInt32) :
    lengthP (normalP (coverL (foundP l to_ (posP l from_ to_)))) = sizesP (foundP l to_ (posP l from_ to_)) ∧
    lengthP (normalP (normalP (coverL (foundP l to_ (posP l from_ to_))) ++ normalP (badP l to_ (posP l from_ to_)))) = sizesP (foundP l to_ (posP l from_ to_)) + lengthP (normalP (badP l to_ (posP l from_ to_))) ∧
    (normalP (normalP (coverL (foundP l to_ (posP l from_ to_))) ++ normalP (badP l to_ (posP l from_ to_)))).any (inR x) = ((decide (from_ ≤ x) && decide (x < to_)) && decide (0 ≤ findP l x)) := by
  have hn := (normal_ok (l.map spaceP)).1
  have hd : Disj ((posP l from_ to_).map (spanP l to_)) := (spans_disj hn 4294967296 from_).1
  have hlt : ∀ p ∈ posP l from_ to_, p < to_ := fun p hp => ((posF_spec (l := l) (to_ := to_) hn 4294967296 from_).2 p hp).2.2
  have hh := spans_has (l := l) (to_ := to_) 4294967296 from_ (by omega)
  have hc := cover_found (l := l) (posP l from_ to_) hlt
  have hb := bad_span (l := l) (to_ := to_) (posP l from_ to_)
  have hz := sizes_found (l := l) (posP l from_ to_) hlt
  have hall : ∀ n, Has (normalP (normalP (coverL (foundP l to_ (posP l from_ to_))) ++ normalP (badP l to_ (posP l from_ to_)))) n ↔ Has ((posP l from_ to_).map (spanP l to_)) n := fun n => by
    rw [(normal_ok _).2, has_append, (normal_ok _).2, (normal_ok _).2, hc, hb]
    exact (has_two l to_ n _).symm
  refine ⟨?_, ?_, ?_⟩
  · rw [hz]
    exact disj_normal (hd.filter _) fun n => by rw [(normal_ok _).2, hc]
  · rw [hz, disj_normal (m := normalP (badP l to_ (posP l from_ to_))) (hd.filter _) (fun n => by rw [(normal_ok _).2, hb]), disj_normal hd hall, sum_two]
    omega
  · have e1 := finds_ok l x
    rw [← e1]
    rw [Bool.eq_iff_iff, any_inR, hall, Bool.and_eq_true, Bool.and_eq_true, decide_eq_true_eq, decide_eq_true_eq, any_inR, UInt32.le_iff_toNat_le, UInt32.lt_iff_toNat_lt]
    exact hh x.toNat
theorem found_step {l : List SecV} {from_ to_ : UInt32} {k : Nat} (hk : k < (foundP l to_ (posP l from_ to_)).length) :
    (1 ≤ ((foundP l to_ (posP l from_ to_)).getD k default).size ∧ ((foundP l to_ (posP l from_ to_)).getD k default).size ≤ 6) ∧
    (0 < k → (((foundP l to_ (posP l from_ to_)).getD (k - 1) default).addr.toNat : Int) + ((foundP l to_ (posP l from_ to_)).getD (k - 1) default).size ≤ ((foundP l to_ (posP l from_ to_)).getD k default).addr.toNat) := by
  have hn := (normal_ok (l.map spaceP)).1
  have hd : Disj (((posP l from_ to_).filter (okW l to_)).map (spanP l to_)) := ((spans_disj hn 4294967296 from_).1).filter _
  have hlt : ∀ p ∈ posP l from_ to_, p < to_ := fun p hp => ((posF_spec (l := l) (to_ := to_) hn 4294967296 from_).2 p hp).2.2
  have hk' : k < ((posP l from_ to_).filter (okW l to_)).length := by unfold foundP at hk; rwa [List.length_map] at hk
  have hok : ∀ j, j < ((posP l from_ to_).filter (okW l to_)).length → okW l to_ (((posP l from_ to_).filter (okW l to_)).getD j default) = true ∧ ((posP l from_ to_).filter (okW l to_)).getD j default < to_ := fun j hj => by
    have := List.mem_filter.1 (mem_getD hj)
    exact ⟨this.2, hlt _ this.1⟩
  obtain ⟨o1, o2⟩ := hok k hk'
  obtain ⟨c1, c2, c3⟩ := cover_span o1 o2
  have hd6 : (decW l to_ (((posP l from_ to_).filter (okW l to_)).getD k default)).1.size ≤ 6 := by
    have h1 := dec_size (of_decide_eq_true o1 : (decP _ _).2 = 0)
    have h2 := win_len l (((posP l from_ to_).filter (okW l to_)).getD k default) to_
    unfold decW; omega
  rw [found_getD hk']
  refine ⟨⟨c1, hd6⟩, fun h0 => ?_⟩
  have hj : k - 1 < ((posP l from_ to_).filter (okW l to_)).length := by omega
  obtain ⟨p1, p2⟩ := hok (k - 1) hj
  obtain ⟨d1, d2, d3⟩ := cover_span p1 p2
  obtain ⟨t1, t2⟩ := step_pos l to_ _ p2
  rw [found_getD hj, dec_addr o1, dec_addr p1, d3]
  have hpw := List.pairwise_iff_getElem.1 (List.pairwise_map.1 hd.1) (k - 1) k hj hk' (by omega)
  have g1 : ((posP l from_ to_).filter (okW l to_)).getD k default = ((posP l from_ to_).filter (okW l to_))[k] := by rw [List.getD_eq_getElem?_getD, List.getElem?_eq_getElem hk']; rfl
  have g2 : ((posP l from_ to_).filter (okW l to_)).getD (k - 1) default = ((posP l from_ to_).filter (okW l to_))[k - 1] := by rw [List.getD_eq_getElem?_getD, List.getElem?_eq_getElem hj]; rfl
  rw [← g1, ← g2] at hpw
  have hpw' : (((posP l from_ to_).filter (okW l to_)).getD (k - 1) default + szW l to_ (((posP l from_ to_).filter (okW l to_)).getD (k - 1) default)).toNat ≤ (((posP l from_ to_).filter (okW l to_)).getD k default).toNat := hpw
  omega
end Go.HL
namespace Go.HL
open Go
theorem dec_ok {b : List UInt8} {addr : UInt32} : InsOK (decP b addr).1 := by
  unfold decP
  split
  · exact ⟨by simp [zeroIns, I64], by simp [zeroIns, I64], by simp [zeroIns, I64], by simp [zeroIns, I64], by simp [zeroIns, I64], by simp [zeroIns, I64], by simp [zeroIns, I64]⟩
  split
  · exact ⟨by simp [zeroIns, I64], by simp [zeroIns, I64], by simp [zeroIns, I64], by simp [zeroIns, I64], by simp [zeroIns, I64], by simp [zeroIns, I64], by simp [zeroIns, I64]⟩
  split
  · exact ⟨by simp [zeroIns, I64], by simp [zeroIns, I64], by simp [zeroIns, I64], by simp [zeroIns, I64], by simp [zeroIns, I64], by simp [zeroIns, I64], by simp [zeroIns, I64]⟩
  simp only
  split
  · exact ⟨by simp [zeroIns, I64], by simp [zeroIns, I64], by simp [zeroIns, I64], by simp [zeroIns, I64], by simp [zeroIns, I64], by simp [zeroIns, I64], by simp [zeroIns, I64]⟩
  rename_i hr
  simp only [not_or, Bool.not_eq_false] at hr
  have ha := regP_iff.1 hr.1
  have hb := regP_iff.1 hr.2
  have hk := row_ok (b.getD 0 default)
  generalize (rowP (b.getD 0 default)).1 = k at *
  generalize (opcodeP k).2.1 = s at *
  have hs : ∀ s k b nx, (applyP s k b nx).op = k.op ∧ (applyP s k b nx).form = k.form ∧ (applyP s k b nx).width = k.width ∧ (applyP s k b nx).cc = k.cc ∧ (applyP s k b nx).size = k.size := fun s k b nx => by
    unfold applyP; repeat' split
    all_goals exact ⟨rfl, rfl, rfl, rfl, rfl⟩
  have hsz : 0 ≤ sizeP s ∧ sizeP s ≤ 6 := by unfold sizeP; repeat' split
                                             all_goals omega
  have h1 := hs s { k with addr := addr, size := sizeP s } b (addr + u32 (sizeP s))
  unfold bodyP at *
  show InsOK (applyP s { k with addr := addr, size := sizeP s } b (addr + u32 (sizeP s)))
  exact ⟨by rw [h1.1]; exact hk.op, by rw [h1.2.1]; exact hk.form, by rw [h1.2.2.1]; exact hk.width, by rw [h1.2.2.2.1]; exact hk.cc, by unfold I64; omega, by unfold I64; omega, by rw [h1.2.2.2.2]; unfold I64; show _ ≤ sizeP s ∧ sizeP s ≤ _; omega⟩
end Go.HL
namespace Go.Proofs.Ytfnedefgepjbpaa
open Go Go.HL Go.RowKit
set_option maxRecDepth 100000 in
set_option maxHeartbeats 4000000 in
theorem cover11_true (l : List SecV) (V : Value) (from_ to_ : UInt32) (x : UInt32) (w : World) (hV : Sl (hp w) encSec l V) (hD : DataIn (hp w) l) (hz : ∀ s ∈ l, s.data.length ≤ 140737488351232) (hN : ∀ s ∈ l, s.name.size ≤ 140737488351232) :
    Calls Try.prog 6 #[V, .int .u32 from_.toNat, .int .u32 to_.toNat, .int .u32 x.toNat] w (fun e w' => e = .returned (.bool true) ∧ Below w.heap.size w w') := by
  have hV' : Sl (Bg.of0 w).blk encSec l V := hV
  have hD' : DataIn (Bg.of0 w).blk l := hD
  have hlar := @larg11_no l
  have hpl := posP_len l from_ to_
  obtain ⟨fs, hfs⟩ : ∃ fs, fs = foundP l to_ (posP l from_ to_) := ⟨_, rfl⟩
  obtain ⟨bl, hbl⟩ : ∃ bl, bl = normalP (badP l to_ (posP l from_ to_)) := ⟨_, rfl⟩
  have hfl := found_len l to_ (posP l from_ to_)
  have hbb := bad_len l to_ (posP l from_ to_)
  have hnl := normalP_len (badP l to_ (posP l from_ to_))
  rw [← hfs] at hfl
  rw [← hbl] at hnl
  obtain ⟨c1, c2, c3⟩ := cover_law l from_ to_ x
  rw [← hfs, ← hbl] at c2 c3
  rw [← hfs] at c1
  have hst := fun k (q : k < fs.length) => found_step (l := l) (from_ := from_) (to_ := to_) (k := k) (by rw [← hfs]; exact q)
  rw [← hfs] at hst
  have hfI : ∀ i ∈ fs, InsOK i := fun i hi => by rw [hfs] at hi; obtain ⟨a, _, rfl⟩ := List.mem_map.1 hi; exact dec_ok
  have hcn := normalP_len (coverL fs)
  have hcl := cover_len fs
  have hlb := lenFold_le (normalP bl) 0
  change 0 ≤ lengthP bl ∧ lengthP bl ≤ _ at hlb
  have hnb := normalP_len bl
  refine enter0 Try.func6 rfl Try.ntmps6 rfl ?_
  refine Tr.seq ?_
  refine Tr.region ?_
  refine Tr.q (QS.assign rfl) rfl ?_
  refine Tr.nil ?_
  refine Tr.thenN ?_
  refine Tr.seq ?_
  refine Tr.seq ?_
  refine Tr.region ?_
  refine Tr.q (QS.move rfl) rfl ?_
  refine Tr.q (QS.call rfl Try.call9 (fun w hw => large11_any l V w (hw.slF hV') hz)) rfl ?_
  refine Tr.q (QS.move rfl) rfl ?_
  apply Tr.orP
  · exact (rfl : _ = (4, 18, 22))
  · exact rfl
  · intro hF1; have hF1' := hF1
    try simp only [bs] at hF1'
    refine Tr.gq rfl rfl hF1 (QS.move rfl) rfl ?_
    refine Tr.gq rfl rfl hF1 (QS.call rfl Try.call18 (fun w hw => check_sec l V w (hw.slF hV') (hlar (by assumption)).1 (fun s hs => by have := hN s hs; omega))) rfl ?_
    refine Tr.gq rfl rfl hF1 (QS.neq rfl rfl) rfl ?_
    refine Tr.q (QS.pickF rfl hF1 rfl) rfl ?_
    refine Tr.nil (Tr.thenN ?_)
    exact Tr.endX (Sub.cons rfl (Sub.dropN 4 (by kernel_rfl) rfl))
  · intro hT1
    refine Tr.gskip rfl rfl hT1 rfl ?_
    refine Tr.gskip rfl rfl hT1 rfl ?_
    refine Tr.gskip rfl rfl hT1 rfl ?_
    refine Tr.q (QS.pickT rfl hT1 rfl) rfl ?_
    refine Tr.nil (Tr.thenN ?_)
    exact Tr.endX (Sub.cons rfl (Sub.dropN 4 (by kernel_rfl) rfl))
  refine Tr.nil ?_
  refine Tr.thenN ?_
  refine Tr.cond rfl (fun h2 => ?_) (fun h2 => ?_)
  · try simp only [bs] at h2
    refine Tr.seq ?_
    refine Tr.region ?_
    refine Tr.q (QS.call0 rfl rfl Try.call10 (fun w hw => example11_any w)) rfl ?_
    refine Tr.q (QS.assign rfl) rfl ?_
    refine Tr.nil ?_
    refine Tr.thenN ?_
    refine Tr.ret ?_
    refine Tr.thenR ?_
    refine Tr.ret1 Try.results6 rfl (fun w' hw => ?_)
    exact ⟨rfl, hw.below0 (Bg.le.refl _)⟩
  · try simp only [bs] at h2
    refine Tr.skip ?_
    refine Tr.thenN ?_
    refine Tr.seq ?_
    obtain ⟨hB, ht20⟩ := hlar (by simp_all)
    refine Tr.region ?_
    refine Tr.q (QS.move rfl) rfl ?_
    refine Tr.q (QS.move rfl) rfl ?_
    refine Tr.q (QS.move rfl) rfl ?_
    refine Tr.callEnts0 (fun i : (Value × List Ins) × (Value × List Rng) => .tuple #[i.1.1, i.2.1]) (fun i => [rowE i.1.1 36 encIns i.1.2, rowE i.2.1 61 encRng i.2.2]) (ok := fun i => i.1.2 = fs ∧ i.2.2 = bl) rfl rfl Try.call11 (fun w hw => (sweep_any l V from_ to_ w (hw.slF hV') hB (hD'.mono hw.bg) (by omega)).mono fun e w' ⟨i, q1, q2, q3, q4, q5⟩ => ⟨i, q1, q2, q3, by rw [q4, hfs], by rw [q5, hbl]⟩) rfl (fun i hi => ?_)
    refine Tr.q (QS.move rfl) rfl ?_
    refine Tr.q (QS.extract rfl rfl) rfl ?_
    refine Tr.q (QS.extract rfl rfl) rfl ?_
    refine Tr.q (QS.assign rfl) rfl ?_
    refine Tr.q (QS.assign rfl) rfl ?_
    refine Tr.nil ?_
    refine Tr.thenN ?_
    refine Tr.seq ?_
    obtain ⟨⟨Va, fs'⟩, ⟨Vb, bl'⟩⟩ := i
    obtain ⟨g1, g2⟩ := hi
    replace g1 : fs = fs' := g1.symm
    replace g2 : bl = bl' := g2.symm
    subst g1 g2
    change Tr _ _ [rowE Va 36 encIns fs, rowE Vb 61 encRng bl] _ _
    refine Tr.region ?_
    refine Tr.q (QS.assign rfl) rfl ?_
    refine Tr.nil ?_
    refine Tr.thenN ?_
    refine Tr.seq ?_
    refine Tr.seq ?_
    refine Tr.region ?_
    refine Tr.q (QS.assign rfl) rfl ?_
    refine Tr.nil ?_
    refine Tr.thenN ?_
    refine Tr.block ?_
    refine Tr.loop (ι := Nat) (fun k => k ≤ fs.length ∧ 0 ≤ sizesP (fs.take k) ∧ sizesP (fs.take k) ≤ 6 * (k : Int)) (fun _ => _) (fun k => [rowE Va 36 encIns fs, rowE Vb 61 encRng bl]) (fun k => [(12, .int .i64 (k : Nat)), (11, .int .i64 (sizesP (fs.take k)))]) (fun k => fs.length - k) 0 ⟨Nat.zero_le _, by simp [sizesP], by simp [sizesP]⟩ (.cons (by first | rfl | exact lookI rfl (by omega) | exact lookI rfl (by simp) | exact lookB rfl (by simp)) (.cons (by first | rfl | exact lookI rfl (by omega) | exact lookI rfl (by simp) | exact lookB rfl (by simp)) Front.nil)) (by repeat' (first | exact Pick.nil _ | exact Del.here _ | apply Pick.cons | apply Del.there)) rfl (fun k hi m hm => ?_)
    replace hi : k ≤ fs.length ∧ 0 ≤ sizesP (fs.take k) ∧ sizesP (fs.take k) ≤ 6 * (k : Int) := hi
    replace hm : m = fs.length - k := hm
    change Tr _ _ [rowE Va 36 encIns fs, rowE Vb 61 encRng bl] ([(12, .int .i64 (k : Nat)), (11, .int .i64 (sizesP (fs.take k)))] ++ _) _
    obtain ⟨hk1, hk2, hk3⟩ := hi
    have hsk := hst k
    have hss := fun (q : k < fs.length) => sizes_succ q
    have hadr1 := (fs.getD k default).addr.toNat_lt
    have hadr2 := (fs.getD (k - 1) default).addr.toNat_lt
    have hsk1 := fun (q : k - 1 < fs.length) => (hst (k - 1) q).1
    have hj : ((k : Int) - 1).toNat = k - 1 := by omega
    rw [← hj] at hsk hsk1 hadr2
    refine Tr.seq ?_
    refine Tr.seq ?_
    refine Tr.region ?_
    refine Tr.q (QS.move rfl) rfl ?_
    refine Tr.q (QS.move rfl) rfl ?_
    refine Tr.q (QS.lenRow rfl (by repeat (first | exact List.Mem.head _ | apply List.Mem.tail)) Try.underlying26) rfl ?_
    refine Tr.q (QS.lss rfl rfl) rfl ?_
    refine Tr.nil ?_
    refine Tr.thenN ?_
    refine Tr.cond rfl (fun h3 => ?_) (fun h3 => ?_)
    · try simp only [bs] at h3
      refine Tr.skip ?_
      refine Tr.thenN ?_
      refine Tr.seq ?_
      refine Tr.block ?_
      refine Tr.seq ?_
      refine Tr.seq ?_
      refine Tr.regionQ HLF.mixed (by kernel_rfl) ?_
      refine TrQ.q (QS.move rfl) rfl ?_
      refine TrQ.q (QS.move rfl) rfl ?_
      refine TrQ.q (QS.idxRowN rfl rfl (by repeat (first | exact List.Mem.head _ | apply List.Mem.tail)) Try.underlying26 Try.sizeOf36 (by rfl) (by omega)) rfl ?_
      refine TrQ.q (QS.fieldAddr (off := 8) (ft := 3) rfl Try.underlying36 rfl rfl Try.sizeOf3 (by decide)) rfl ?_
      refine TrQ.q (QS.elRF rfl (by repeat (first | exact List.Mem.head _ | apply List.Mem.tail)) Try.isAgg3 (by omega) (by rfl)) rfl ?_
      refine TrQ.q (QS.lss rfl rfl) rfl ?_
      refine TrQ.q (QS.move rfl) rfl ?_
      apply TrQ.orP
      · exact (rfl : _ = (26, 43, 69))
      · exact rfl
      · intro hF4; have hF4' := hF4
        try simp only [bs] at hF4'
        refine TrQ.gq rfl rfl hF4 (QS.move rfl) rfl ?_
        refine TrQ.gq rfl rfl hF4 (QS.gtr rfl rfl) rfl ?_
        refine TrQ.gq rfl rfl hF4 (QS.move rfl) rfl ?_
        apply TrQ.andP
        · exact (rfl : _ = (22, 46, 68))
        · exact rfl
        · intro hT5; have hT5' := hT5
          try simp only [bs] at hT5'
          refine TrQ.gq rfl rfl hT5 (QS.move rfl) rfl ?_
          refine TrQ.gq rfl rfl hT5 (QS.move rfl) rfl ?_
          refine TrQ.gq rfl rfl hT5 (QS.idxRowN rfl rfl (by repeat (first | exact List.Mem.head _ | apply List.Mem.tail)) Try.underlying26 Try.sizeOf36 (by rfl) (by omega)) rfl ?_
          refine TrQ.gq rfl rfl hT5 (QS.fieldAddr (off := 0) (ft := 23) rfl Try.underlying36 rfl rfl Try.sizeOf23 (by decide)) rfl ?_
          refine TrQ.gq rfl rfl hT5 (QS.elRF rfl (by repeat (first | exact List.Mem.head _ | apply List.Mem.tail)) Try.isAgg23 (by omega) (by rfl)) rfl ?_
          refine TrQ.gq rfl rfl hT5 (QS.cvt32toI rfl Try.underlying23 Try.underlying3) rfl ?_
          refine TrQ.gq rfl rfl hT5 (QS.move rfl) rfl ?_
          refine TrQ.gq rfl rfl hT5 (QS.move rfl) rfl ?_
          refine TrQ.gq rfl rfl hT5 (QS.subI rfl rfl (by omega)) rfl ?_
          refine TrQ.gq rfl rfl hT5 (QS.idxRow rfl rfl (by repeat (first | exact List.Mem.head _ | apply List.Mem.tail)) Try.underlying26 Try.sizeOf36 (by rfl) (by omega)) rfl ?_
          refine TrQ.gq rfl rfl hT5 (QS.fieldAddr (off := 0) (ft := 23) rfl Try.underlying36 rfl rfl Try.sizeOf23 (by decide)) rfl ?_
          refine TrQ.gq rfl rfl hT5 (QS.elRF rfl (by repeat (first | exact List.Mem.head _ | apply List.Mem.tail)) Try.isAgg23 (by omega) (by rfl)) rfl ?_
          refine TrQ.gq rfl rfl hT5 (QS.cvt32toI rfl Try.underlying23 Try.underlying3) rfl ?_
          refine TrQ.gq rfl rfl hT5 (QS.move rfl) rfl ?_
          refine TrQ.gq rfl rfl hT5 (QS.move rfl) rfl ?_
          refine TrQ.gq rfl rfl hT5 (QS.subI rfl rfl (by omega)) rfl ?_
          refine TrQ.gq rfl rfl hT5 (QS.idxRow rfl rfl (by repeat (first | exact List.Mem.head _ | apply List.Mem.tail)) Try.underlying26 Try.sizeOf36 (by rfl) (by omega)) rfl ?_
          refine TrQ.gq rfl rfl hT5 (QS.fieldAddr (off := 8) (ft := 3) rfl Try.underlying36 rfl rfl Try.sizeOf3 (by decide)) rfl ?_
          refine TrQ.gq rfl rfl hT5 (QS.elRF rfl (by repeat (first | exact List.Mem.head _ | apply List.Mem.tail)) Try.isAgg3 (by omega) (by rfl)) rfl ?_
          refine TrQ.gq rfl rfl hT5 (QS.addI rfl rfl (by omega)) rfl ?_
          refine TrQ.gq rfl rfl hT5 (QS.lss rfl rfl) rfl ?_
          refine TrQ.gq rfl rfl hF4 (QS.pickT rfl hT5 rfl) rfl ?_
          exact TrQ.end (Sub.cons rfl (Sub.dropN 22 (by kernel_rfl) rfl))
        · intro hF5
          refine TrQ.gskip rfl rfl hF5 rfl ?_
          refine TrQ.gskip rfl rfl hF5 rfl ?_
          refine TrQ.gskip rfl rfl hF5 rfl ?_
          refine TrQ.gskip rfl rfl hF5 rfl ?_
          refine TrQ.gskip rfl rfl hF5 rfl ?_
          refine TrQ.gskip rfl rfl hF5 rfl ?_
          refine TrQ.gskip rfl rfl hF5 rfl ?_
          refine TrQ.gskip rfl rfl hF5 rfl ?_
          refine TrQ.gskip rfl rfl hF5 rfl ?_
          refine TrQ.gskip rfl rfl hF5 rfl ?_
          refine TrQ.gskip rfl rfl hF5 rfl ?_
          refine TrQ.gskip rfl rfl hF5 rfl ?_
          refine TrQ.gskip rfl rfl hF5 rfl ?_
          refine TrQ.gskip rfl rfl hF5 rfl ?_
          refine TrQ.gskip rfl rfl hF5 rfl ?_
          refine TrQ.gskip rfl rfl hF5 rfl ?_
          refine TrQ.gskip rfl rfl hF5 rfl ?_
          refine TrQ.gskip rfl rfl hF5 rfl ?_
          refine TrQ.gskip rfl rfl hF5 rfl ?_
          refine TrQ.gskip rfl rfl hF5 rfl ?_
          refine TrQ.gskip rfl rfl hF5 rfl ?_
          refine TrQ.gq rfl rfl hF4 (QS.pickF rfl hF5 rfl) rfl ?_
          exact TrQ.end (Sub.cons rfl (Sub.dropN 22 (by kernel_rfl) rfl))
        refine TrQ.q (QS.pickF rfl hF4 rfl) rfl ?_
        exact TrQ.end (Sub.cons rfl (Sub.dropN 5 (by kernel_rfl) rfl))
      · intro hT4
        refine TrQ.gskip rfl rfl hT4 rfl ?_
        refine TrQ.gskip rfl rfl hT4 rfl ?_
        refine TrQ.gskip rfl rfl hT4 rfl ?_
        refine TrQ.gskipU rfl rfl rfl ?_
        refine TrQ.gskipU rfl rfl rfl ?_
        refine TrQ.gskipU rfl rfl rfl ?_
        refine TrQ.gskipU rfl rfl rfl ?_
        refine TrQ.gskipU rfl rfl rfl ?_
        refine TrQ.gskipU rfl rfl rfl ?_
        refine TrQ.gskipU rfl rfl rfl ?_
        refine TrQ.gskipU rfl rfl rfl ?_
        refine TrQ.gskipU rfl rfl rfl ?_
        refine TrQ.gskipU rfl rfl rfl ?_
        refine TrQ.gskipU rfl rfl rfl ?_
        refine TrQ.gskipU rfl rfl rfl ?_
        refine TrQ.gskipU rfl rfl rfl ?_
        refine TrQ.gskipU rfl rfl rfl ?_
        refine TrQ.gskipU rfl rfl rfl ?_
        refine TrQ.gskipU rfl rfl rfl ?_
        refine TrQ.gskipU rfl rfl rfl ?_
        refine TrQ.gskipU rfl rfl rfl ?_
        refine TrQ.gskipU rfl rfl rfl ?_
        refine TrQ.gskipU rfl rfl rfl ?_
        refine TrQ.gskipU rfl rfl rfl ?_
        refine TrQ.gskip rfl rfl hT4 rfl ?_
        refine TrQ.q (QS.pickT rfl hT4 rfl) rfl ?_
        exact TrQ.end (Sub.cons rfl (Sub.dropN 26 (by kernel_rfl) rfl))
      refine TrQ.nil ?_
      refine Tr.thenN ?_
      refine Tr.cond rfl (fun h6 => ?_) (fun h6 => ?_)
      · try simp only [bs] at h6
        refine Tr.seq ?_
        refine Tr.region ?_
        refine Tr.q (QS.assign rfl) rfl ?_
        refine Tr.nil ?_
        refine Tr.thenN ?_
        refine Tr.ret ?_
        refine Tr.thenR ?_
        refine Tr.inR ?_
        refine Tr.thenR ?_
        refine Tr.thenR ?_
        refine Tr.inR ?_
        refine Tr.thenR ?_
        refine Tr.ret1 Try.results6 rfl (fun w' hw => ?_)
        exfalso; omega
      · try simp only [bs] at h6
        refine Tr.skip ?_
        refine Tr.thenN ?_
        refine Tr.region ?_
        refine Tr.q (QS.move rfl) rfl ?_
        refine Tr.q (QS.move rfl) rfl ?_
        refine Tr.q (QS.move rfl) rfl ?_
        refine Tr.q (QS.idxRowN rfl rfl (by repeat (first | exact List.Mem.head _ | apply List.Mem.tail)) Try.underlying26 Try.sizeOf36 (by rfl) (by omega)) rfl ?_
        refine Tr.q (QS.fieldAddr (off := 8) (ft := 3) rfl Try.underlying36 rfl rfl Try.sizeOf3 (by decide)) rfl ?_
        refine Tr.q (QS.elRF rfl (by repeat (first | exact List.Mem.head _ | apply List.Mem.tail)) Try.isAgg3 (by omega) (by rfl)) rfl ?_
        refine Tr.q (QS.addI rfl rfl (by omega)) rfl ?_
        refine Tr.q (QS.assign rfl) rfl ?_
        refine Tr.nil ?_
        refine Tr.inN ?_
        refine Tr.thenN ?_
        refine Tr.region ?_
        refine Tr.q (QS.move rfl) rfl ?_
        refine Tr.q (QS.addI rfl rfl (by omega)) rfl ?_
        refine Tr.q (QS.assign rfl) rfl ?_
        refine Tr.nil ?_
        refine Tr.thenN ?_
        have hsk' := hsk (by omega)
        rw [← hss (by omega)]
        apply Tr.again (k + 1)
        · exact rfl
        · exact (.cons (by first | rfl | exact lookI rfl (by omega) | exact lookI rfl (by simp) | exact lookB rfl (by simp)) (.cons (by first | rfl | exact lookI rfl (by omega) | exact lookI rfl (by simp) | exact lookB rfl (by simp)) Front.nil))
        · exact SubX.dropN 25 (by kernel_rfl) rfl
        · exact (by repeat' (first | exact Pick.nil _ | exact Del.here _ | apply Pick.cons | apply Del.there))
        · exact ⟨by omega, by rw [hss (by omega)]; omega, by rw [hss (by omega)]; omega⟩
        · exact (by (try dsimp only); omega)
    · try simp only [bs] at h3
      refine Tr.exit ?_
      refine Tr.thenE ?_
      refine Tr.thenE ?_
      refine Tr.inHit ?_
      refine Tr.thenN ?_
      refine Tr.seq ?_
      have hkl : k = fs.length := by omega
      subst hkl
      rw [List.take_length] at hk2 hk3 ⊢
      refine Tr.region ?_
      refine Tr.q (QS.move rfl) rfl ?_
      refine Tr.callRow rfl Try.call16 (fun w hw => cover_any fs _ w (hw.row (by repeat (first | exact List.Mem.head _ | apply List.Mem.tail))) hfI (by omega)) rfl (fun V7 => ?_)
      refine Tr.q (QS.assign rfl) rfl ?_
      refine Tr.nil ?_
      refine Tr.thenN ?_
      refine Tr.seq ?_
      refine Tr.region ?_
      refine Tr.q (QS.move rfl) rfl ?_
      refine Tr.q (QS.move rfl) rfl ?_
      refine Tr.callRow rfl Try.call19 (fun w hw => union_any (normalP (coverL fs)) bl _ _ w (hw.row (by repeat (first | exact List.Mem.head _ | apply List.Mem.tail))) (hw.row (by repeat (first | exact List.Mem.head _ | apply List.Mem.tail))) (by omega) (by omega)) rfl (fun V8 => ?_)
      refine Tr.q (QS.assign rfl) rfl ?_
      refine Tr.nil ?_
      refine Tr.thenN ?_
      refine Tr.seq ?_
      refine Tr.region ?_
      refine Tr.q (QS.move rfl) rfl ?_
      refine Tr.q (QS.move rfl) rfl ?_
      refine Tr.q (QS.geq32 rfl rfl) rfl ?_
      refine Tr.q (QS.move rfl) rfl ?_
      apply Tr.andP
      · exact (rfl : _ = (4, 85, 89))
      · exact rfl
      · intro hT9; have hT9' := hT9
        try simp only [bs] at hT9'
        refine Tr.gq rfl rfl hT9 (QS.move rfl) rfl ?_
        refine Tr.gq rfl rfl hT9 (QS.move rfl) rfl ?_
        refine Tr.gq rfl rfl hT9 (QS.lss32 rfl rfl) rfl ?_
        refine Tr.q (QS.pickT rfl hT9 rfl) rfl ?_
        refine Tr.nil (Tr.thenN ?_)
        exact Tr.endX (Sub.cons rfl (Sub.dropN 4 (by kernel_rfl) rfl))
      · intro hF9
        refine Tr.gskip rfl rfl hF9 rfl ?_
        refine Tr.gskip rfl rfl hF9 rfl ?_
        refine Tr.gskip rfl rfl hF9 rfl ?_
        refine Tr.q (QS.pickF rfl hF9 rfl) rfl ?_
        refine Tr.nil (Tr.thenN ?_)
        exact Tr.endX (Sub.cons rfl (Sub.dropN 4 (by kernel_rfl) rfl))
      refine Tr.q (QS.move rfl) rfl ?_
      apply Tr.andP
      · exact (rfl : _ = (5, 90, 95))
      · exact rfl
      · intro hT10; have hT10' := hT10
        try simp only [bs] at hT10'
        refine Tr.gq rfl rfl hT10 (QS.move rfl) rfl ?_
        refine Tr.gq rfl rfl hT10 (QS.move rfl) rfl ?_
        refine Tr.gq rfl rfl hT10 (QS.call rfl Try.call20 (fun w hw => find_any l V x w (hw.slF hV') hB)) rfl ?_
        refine Tr.gq rfl rfl hT10 (QS.geq rfl rfl) rfl ?_
        refine Tr.q (QS.pickT rfl hT10 rfl) rfl ?_
        refine Tr.nil (Tr.thenN ?_)
        exact Tr.endX (Sub.cons rfl (Sub.dropN 5 (by kernel_rfl) rfl))
      · intro hF10
        refine Tr.gskip rfl rfl hF10 rfl ?_
        refine Tr.gskip rfl rfl hF10 rfl ?_
        refine Tr.gskip rfl rfl hF10 rfl ?_
        refine Tr.gskip rfl rfl hF10 rfl ?_
        refine Tr.q (QS.pickF rfl hF10 rfl) rfl ?_
        refine Tr.nil (Tr.thenN ?_)
        exact Tr.endX (Sub.cons rfl (Sub.dropN 5 (by kernel_rfl) rfl))
      refine Tr.q (QS.assign rfl) rfl ?_
      refine Tr.nil ?_
      refine Tr.thenN ?_
      refine Tr.seq ?_
      refine Tr.region ?_
      refine Tr.q (QS.move rfl) rfl ?_
      refine Tr.q (QS.call rfl Try.call21 (fun w hw => length_any (normalP (coverL fs)) _ w (hw.row (by repeat (first | exact List.Mem.head _ | apply List.Mem.tail))) (by omega))) rfl ?_
      refine Tr.q (QS.move rfl) rfl ?_
      refine Tr.q (QS.eql rfl rfl) rfl ?_
      refine Tr.q (QS.move rfl) rfl ?_
      apply Tr.andP
      · exact (rfl : _ = (8, 100, 108))
      · exact rfl
      · intro hT11; have hT11' := hT11
        try simp only [bs] at hT11'
        refine Tr.gq rfl rfl hT11 (QS.move rfl) rfl ?_
        refine Tr.gq rfl rfl hT11 (QS.call rfl Try.call21 (fun w hw => length_any (normalP (normalP (coverL fs) ++ bl)) _ w (hw.row (by repeat (first | exact List.Mem.head _ | apply List.Mem.tail))) (by have := normalP_len (normalP (coverL fs) ++ bl); rw [List.length_append] at this; omega))) rfl ?_
        refine Tr.gq rfl rfl hT11 (QS.move rfl) rfl ?_
        refine Tr.gq rfl rfl hT11 (QS.move rfl) rfl ?_
        refine Tr.gq rfl rfl hT11 (QS.call rfl Try.call21 (fun w hw => length_any bl _ w (hw.row (by repeat (first | exact List.Mem.head _ | apply List.Mem.tail))) (by omega))) rfl ?_
        refine Tr.gq rfl rfl hT11 (QS.addI rfl rfl (by omega)) rfl ?_
        refine Tr.gq rfl rfl hT11 (QS.eql rfl rfl) rfl ?_
        refine Tr.q (QS.pickT rfl hT11 rfl) rfl ?_
        refine Tr.nil (Tr.thenN ?_)
        exact Tr.endX (Sub.cons rfl (Sub.dropN 8 (by kernel_rfl) rfl))
      · intro hF11
        refine Tr.gskip rfl rfl hF11 rfl ?_
        refine Tr.gskip rfl rfl hF11 rfl ?_
        refine Tr.gskip rfl rfl hF11 rfl ?_
        refine Tr.gskip rfl rfl hF11 rfl ?_
        refine Tr.gskip rfl rfl hF11 rfl ?_
        refine Tr.gskip rfl rfl hF11 rfl ?_
        refine Tr.gskip rfl rfl hF11 rfl ?_
        refine Tr.q (QS.pickF rfl hF11 rfl) rfl ?_
        refine Tr.nil (Tr.thenN ?_)
        exact Tr.endX (Sub.cons rfl (Sub.dropN 8 (by kernel_rfl) rfl))
      refine Tr.q (QS.move rfl) rfl ?_
      apply Tr.andP
      · exact (rfl : _ = (6, 109, 115))
      · exact rfl
      · intro hT12; have hT12' := hT12
        try simp only [bs] at hT12'
        refine Tr.gq rfl rfl hT12 (QS.move rfl) rfl ?_
        refine Tr.gq rfl rfl hT12 (QS.move rfl) rfl ?_
        refine Tr.gq rfl rfl hT12 (QS.call rfl Try.call22 (fun w hw => contains_any (normalP (normalP (coverL fs) ++ bl)) _ x w (hw.row (by repeat (first | exact List.Mem.head _ | apply List.Mem.tail))))) rfl ?_
        refine Tr.gq rfl rfl hT12 (QS.move rfl) rfl ?_
        refine Tr.gq rfl rfl hT12 (QS.bool_eql rfl rfl Try.underlying4) rfl ?_
        refine Tr.q (QS.pickT rfl hT12 rfl) rfl ?_
        refine Tr.nil (Tr.thenN ?_)
        exact Tr.endX (Sub.cons rfl (Sub.dropN 6 (by kernel_rfl) rfl))
      · intro hF12
        refine Tr.gskip rfl rfl hF12 rfl ?_
        refine Tr.gskip rfl rfl hF12 rfl ?_
        refine Tr.gskip rfl rfl hF12 rfl ?_
        refine Tr.gskip rfl rfl hF12 rfl ?_
        refine Tr.gskip rfl rfl hF12 rfl ?_
        refine Tr.q (QS.pickF rfl hF12 rfl) rfl ?_
        refine Tr.nil (Tr.thenN ?_)
        exact Tr.endX (Sub.cons rfl (Sub.dropN 6 (by kernel_rfl) rfl))
      refine Tr.q (QS.move rfl) rfl ?_
      apply Tr.andP
      · exact (rfl : _ = (2, 116, 118))
      · exact rfl
      · intro hT13; have hT13' := hT13
        try simp only [bs] at hT13'
        refine Tr.gq rfl rfl hT13 (QS.call0 rfl rfl Try.call10 (fun w hw => example11_any w)) rfl ?_
        refine Tr.q (QS.pickT rfl hT13 rfl) rfl ?_
        refine Tr.nil (Tr.thenN ?_)
        exact Tr.endX (Sub.cons rfl (Sub.dropN 2 (by kernel_rfl) rfl))
      · intro hF13
        refine Tr.gskip rfl rfl hF13 rfl ?_
        refine Tr.q (QS.pickF rfl hF13 rfl) rfl ?_
        refine Tr.nil (Tr.thenN ?_)
        exact Tr.endX (Sub.cons rfl (Sub.dropN 2 (by kernel_rfl) rfl))
      refine Tr.q (QS.assign rfl) rfl ?_
      refine Tr.nil ?_
      refine Tr.thenN ?_
      refine Tr.ret ?_
      refine Tr.ret1 Try.results6 rfl (fun w' hw => ?_)
      exact ⟨by rw [c1, c2, c3]; simp, hw.below0 (Bg.le.refl _)⟩
end Go.Proofs.Ytfnedefgepjbpaa
namespace Go.HL
open Go Go.Deep Go.ChangeShapes Go.WideShapes
section
variable {H : Type} {enc : TypeId × Value → H} {P : Program} {w : World} {base : Nat} {spare : Nat → Bool} {held : Bool}
theorem u8_of_wf {n : Int} (h : (Lit.int .u8 n).wf = true) : ∃ x : UInt8, n = (x.toNat : Int) := by
  have := bounds_u8 h
  refine ⟨UInt8.ofNat n.toNat, ?_⟩
  rw [UInt8.toNat_ofNat']; omega
theorem u32_of_wf {n : Int} (h : (Lit.int .u32 n).wf = true) : ∃ x : UInt32, n = (x.toNat : Int) := by
  have := bounds_u32 h
  refine ⟨UInt32.ofNat n.toNat, ?_⟩
  rw [UInt32.toNat_ofNat']; omega
theorem flat_u8 {e : TypeId} (he : P.underlying e = some (.int .u8)) {n : Nat} {cs : List Value} {y : DataW H × List MemPlace} (h : DataW.trod enc P w base spare held n e cs = some y) : ∃ a, cs = encU8.enc a ∧ True := by
  obtain ⟨z, rfl, _, hw⟩ := DataW.trod_int he h
  obtain ⟨x, rfl⟩ := u8_of_wf hw
  exact ⟨x, rfl, trivial⟩
end
end Go.HL
namespace Go.HL
open Go Go.Deep Go.ChangeShapes Go.WideShapes
section
variable {H : Type} {enc : TypeId × Value → H} {P : Program} {w : World} {base : Nat} {spare : Nat → Bool} {held : Bool}
/-- No slice and no text in it is beyond what the form reaches. -/
def Light (P : Program) (t : TypeId) (d : DataW H) : Prop := ∀ n ∈ d.weights P t, n ≤ reachBytes
theorem weightsAll_mem {P : Program} {e : TypeId} : ∀ {l : List (DataW H)} {d : DataW H}, d ∈ l → ∀ n ∈ d.weights P e, n ∈ DataW.weightsAll P e l
  | x :: l, d, h, n, hn => by
    simp only [DataW.weightsAll, List.mem_append]
    rcases List.mem_cons.1 h with rfl | h
    · exact .inl hn
    · exact .inr (weightsAll_mem h n hn)
theorem sl_of_trodW {α : Type} [Inhabited α] {E : Enc α} {R : α → Prop} {t e : TypeId} {fuel : Nat} {V : Value} {x : DataW H × List MemPlace} (ht : P.underlying t = some (.slice e)) (hc : P.cellsOf e = E.k) (hk : 0 < E.k) (hL : Light P t x.1)
    (hf : ∀ n cs y, cs.length = E.k → DataW.trod enc P w base spare held n e cs = some y → Light P e y.1 → ∃ a : α, cs = E.enc a ∧ R a)
    (h : DataW.trod enc P w base spare held fuel t [V] = some x) : ∃ l : List α, Sl (hp w) E l V ∧ (∀ a ∈ l, R a) ∧ l.length * P.bytesOf e ≤ reachBytes := by
  rcases open_slice ht h with ⟨h0, _⟩ | ⟨a, len, cap, m, n, D, Pl, hv, hb, hl, hm, hmm, hxx, hx⟩
  · simp only [List.cons.injEq, and_true] at h0
    subst h0
    exact ⟨[], Sl.nil _ _, by simp, by simp⟩
  · simp only [List.cons.injEq, and_true] at hv
    subst hv
    subst hxx
    have hlm : len ≤ m := by rw [hmm]; split <;> omega
    have hw : DataW.weights P t (.slice ((List.range len).map D) ((List.range (m - len)).map fun j => D (len + j))) = (((List.range len).map D).length + ((List.range (m - len)).map fun j => D (len + j)).length) * P.bytesOf e :: (DataW.weightsAll P e ((List.range len).map D) ++ DataW.weightsAll P e ((List.range (m - len)).map fun j => D (len + j))) := by
      simp only [DataW.weights, ht]
    have each : ∀ i, i < len → ∃ q : α, w.cells? base (a.add (i * E.k)) E.k = some (E.enc q) ∧ R q := fun i hi => by
      obtain ⟨cs', h1, h2⟩ := hx i (by omega)
      rw [hc] at h1
      obtain ⟨q, rfl, hq⟩ := hf n cs' _ (World.cells?_some h1).2.1 h2 (fun z hz => hL z (by
        rw [hw]
        exact .tail _ (List.mem_append.2 (.inl (weightsAll_mem (List.mem_map.2 ⟨i, List.mem_range.2 hi, rfl⟩) z hz)))))
      exact ⟨q, h1, hq⟩
    obtain ⟨f, hfn⟩ := choose_lt each
    have hsp : 0 < len → a = ⟨a.block, a.off, none⟩ := fun hl0 => by
      have h1 := (World.cells?_some (hfn 0 hl0).1).2.2 0 hk
      have hlen : 0 < (E.enc (f 0)).length := by rw [E.len]; exact hk
      rw [List.getElem?_eq_getElem hlen] at h1
      have hsp := World.cell?_spot h1
      obtain ⟨b, o, sp⟩ := a
      have : sp = none := by simpa [Addr.add] using hsp
      subst this
      rfl
    refine ⟨(List.range len).map f, ⟨⟨some a, cap, by simp, by simpa using hl, hm, fun hne => ?_⟩, fun i q hq => ?_⟩, fun q hq => ?_, ?_⟩
    · have hl0 : 0 < len := by
        rcases Nat.eq_zero_or_pos len with h | h
        · subst h; simp at hne
        · exact h
      rw [hsp hl0]; rfl
    · have hi : i < len := by
        have := (List.getElem?_eq_some_iff.1 hq).1
        simpa using this
      have hq' : f i = q := by simpa [hi] using hq
      subst hq'
      have ha := hsp (by omega)
      obtain ⟨b, o, sp⟩ := a
      obtain rfl : sp = none := by simpa using ha
      have hc' := (World.cells?_some (hfn i hi).1).2.2
      have hlen : (E.enc (f i)).length = E.k := E.len _
      have eA : ∀ j, (((⟨b, o, none⟩ : Addr).add (i * E.k)).add j) = ⟨b, o + i * E.k + j, none⟩ := fun j => by
        rw [Go.Deep.add_add]; simp only [Addr.add]
        by_cases h0 : i * E.k + j = 0
        · rw [if_pos h0]
          have : i * E.k = 0 := by omega
          have : j = 0 := by omega
          simp_all
        · rw [if_neg h0, Nat.add_assoc]
      have h1 := hc' 0 hk
      rw [List.getElem?_eq_getElem (by omega), eA] at h1
      have hb1 : ∃ cs T fz, w.heap[b]? = some (.cells cs T fz) := by
        unfold World.cell? at h1
        split at h1
        · rename_i cs T fz hh; exact ⟨cs, T, fz, hh⟩
        · simp at h1
      obtain ⟨cs, T, fz, hh⟩ := hb1
      refine ⟨cs, T, fz, hh, fun j v hj => ?_⟩
      have hjk : j < E.k := by have := (List.getElem?_eq_some_iff.1 hj).1; omega
      have h2 := hc' j hjk
      rw [hj, eA] at h2
      unfold World.cell? at h2
      simp only [hh] at h2
      simp only [ofs]
      simpa using h2
    · obtain ⟨i, hi, rfl⟩ := List.mem_map.1 hq
      exact (hfn i (List.mem_range.1 hi)).2
    · have := hL _ (by rw [hw]; exact .head _)
      simp only [List.length_map, List.length_range] at this ⊢
      exact Nat.le_trans (Nat.mul_le_mul_right _ (by omega)) this
theorem flat_sec {e ts tu tb tB eu : TypeId} {f0 f1 f2 f3 f4 : Field} (he : P.underlying e = some (.struct #[f0, f1, f2, f3, f4]))
    (ho : [f0.offset, f1.offset, f2.offset, f3.offset, f4.offset] = [0, 1, 2, 3, 4]) (ht : [f0.type, f1.type, f2.type, f3.type, f4.type] = [ts, tu, tb, tB, tB])
    (c0 : P.cellsOf ts = 1) (c1 : P.cellsOf tu = 1) (c2 : P.cellsOf tb = 1) (c3 : P.cellsOf tB = 1) (us : P.underlying ts = some .string) (uu : P.underlying tu = some (.int .u32))
    (ub : P.underlying tb = some (.slice eu)) (ue : P.underlying eu = some (.int .u8)) (ce : P.cellsOf eu = 1) (be : P.bytesOf eu = 1) (uB : P.underlying tB = some .bool)
    {n : Nat} {cs : List Value} {y : DataW H × List MemPlace} (hl : cs.length = 5) (h : DataW.trod enc P w base spare held n e cs = some y) (hL : Light P e y.1) :
    ∃ s : SecV, cs = encSec.enc s ∧ Sl (hp w) encU8 s.data (.slice s.dp s.data.length s.dc) ∧ s.data.length ≤ reachBytes ∧ s.name.size ≤ reachBytes := by
  simp only [List.cons.injEq, and_true] at ho ht
  obtain ⟨o0, o1, o2, o3, o4⟩ := ho
  obtain ⟨t0, t1, t2, t3, t4⟩ := ht
  obtain ⟨xs, k, hk, hxy, _, hxl, hf⟩ := DataW.trod_struct he h
  match xs, hxl, cs, hl with
  | [y0, y1, y2, y3, y4], _, [v0, v1, v2, v3, v4], _ =>
    have g0 := hf 0 f0 rfl
    have g1 := hf 1 f1 rfl
    have g2 := hf 2 f2 rfl
    have g3 := hf 3 f3 rfl
    have g4 := hf 4 f4 rfl
    simp [o0, o1, o2, o3, o4, t0, t1, t2, t3, t4, c0, c1, c2, c3] at g0 g1 g2 g3 g4
    subst hxy
    have hw : ∀ j t d, [ts, tu, tb, tB, tB][j]? = some t → [y0.1, y1.1, y2.1, y3.1, y4.1][j]? = some d → Light P t d := fun j t d q1 q2 z hz => hL z (by
      simp only [DataW.weights, he, List.map_cons, List.map_nil, t0, t1, t2, t3, t4]
      exact DataW.weights_mem_each (j := j) q1 q2 z hz)
    have w0' := hw 0 ts y0.1 rfl rfl
    have w2' := hw 2 tb y2.1 rfl rfl
    obtain ⟨z0, e0, q0, w0⟩ := DataW.trod_string us g0
    obtain ⟨z1, e1, _, w1⟩ := DataW.trod_int uu g1
    obtain ⟨l, s2, _, hbl⟩ := sl_of_trodW (E := encU8) (R := fun _ => True) ub ce (by decide) w2' (fun n cs y _ hh _ => flat_u8 ue hh) g2
    obtain ⟨z3, e3, _⟩ := DataW.trod_bool uB g3
    obtain ⟨z4, e4, _⟩ := DataW.trod_bool uB g4
    obtain ⟨x1, rfl⟩ := u32_of_wf w1
    simp only [List.cons.injEq, and_true] at e0 e1 e3 e4
    subst e0; subst e1; subst e3; subst e4
    obtain ⟨a, c, hv, _⟩ := s2.shape
    subst hv
    refine ⟨⟨z0, x1, l, a, c, z3, z4⟩, rfl, s2, by rw [be, Nat.mul_one] at hbl; exact hbl, ?_⟩
    have := w0' z0.data.toList.length (by rw [q0]; simp [DataW.weights])
    rw [Array.length_toList] at this
    exact this
end
end Go.HL
