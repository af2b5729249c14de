/- The reference's sweep. -/
import Derived.Test.YtfnedefgepjbpaaWu
import Derived.Test.YtfnedefgepjbpaaHz
import Derived.Test.YtfnedefgepjbpaaTc
set_option linter.unusedSimpArgs false
set_option linter.unusedVariables false
namespace Go.Proofs.Ytfnedefgepjbpaa
open Go Go.HL Go.RowKit

set_option maxRecDepth 100000 in
set_option maxHeartbeats 8000000 in
theorem refSweep_any (l : List SecV) (V : Value) (from_ to_ : UInt32) (w : World) (hV : Sl (hp w) encSec l V) (hB : SecB l) (hD : DataIn (hp w) l) :
    Calls Try.prog 12 #[V, .int .u32 from_.toNat, .int .u32 to_.toNat] w (fun e w' => ∃ i : (Value × List Ins) × (Value × List Rng), e = .returned (.tuple #[i.1.1, i.2.1]) ∧ Ext w w' ∧ NewEnts w w' [rowE i.1.1 36 encIns i.1.2, rowE i.2.1 73 encRng i.2.2] ∧ i.1.2 = foundP l to_ (posP l from_ to_) ∧ i.2.2 = mergeB (badP l to_ (posP l from_ to_))) := by
  have hV' : Sl (Bg.of w).blk encSec l V := hV
  have hlen := hB.1
  obtain ⟨rs, hrs⟩ : ∃ rs, rs = normalP (l.map spaceP) := ⟨_, rfl⟩
  have hno := (normal_ok (l.map spaceP)).1
  rw [← hrs] at hno
  have hfr := from_.toNat_lt
  have hto := to_.toNat_lt
  refine enter Try.func12 rfl Try.ntmps12 rfl ?_
  refine Tr.seq ?_
  refine Tr.region ?_
  refine Tr.q (QS.assign rfl) rfl ?_
  refine Tr.q (QS.assign rfl) rfl ?_
  refine Tr.nil ?_
  refine Tr.thenN ?_
  refine Tr.seq ?_
  refine Tr.region ?_
  refine Tr.q (QS.assign rfl) rfl ?_
  refine Tr.nil ?_
  refine Tr.thenN ?_
  refine Tr.seq ?_
  refine Tr.region ?_
  refine Tr.q (QS.assign rfl) rfl ?_
  refine Tr.nil ?_
  refine Tr.thenN ?_
  refine Tr.seq ?_
  refine Tr.region ?_
  refine Tr.q (QS.move rfl) rfl ?_
  refine Tr.q (QS.move rfl) rfl ?_
  refine Tr.q (QS.cvt32toI rfl Try.underlying23 Try.underlying3) rfl ?_
  refine Tr.q (QS.call rfl Try.call33 (fun w hw => nextR_any l V (from_.toNat : Int) w (hw.slF hV) hB (by omega))) rfl ?_
  refine Tr.q (QS.assign rfl) rfl ?_
  refine Tr.nil ?_
  refine Tr.thenN ?_
  refine Tr.seq ?_
  refine Tr.block ?_
  refine Tr.ownNil 73 encRng ?_
  refine Tr.ownNil 36 encIns ?_
  refine Tr.loop (ι := UInt32 × List UInt32 × Nat × Value × Value) (fun ⟨x, pre, f, Vf, Vb⟩ => pre ++ posF l rs to_ f x = posP l from_ to_ ∧ pre.length ≤ x.toNat ∧ 4294967296 ≤ f + x.toNat) (fun _ => _) (fun ⟨x, pre, f, Vf, Vb⟩ => [rowE Vf 36 encIns (foundP l to_ pre), rowE Vb 73 encRng (mergeB (badP l to_ pre))]) (fun ⟨x, pre, f, Vf, Vb⟩ => [(10, .int .i64 (nextR l x.toNat)), (8, Vf), (9, Vb)]) (fun ⟨x, pre, f, Vf, Vb⟩ => 4294967296 - x.toNat) (from_, [], 4294967296, _, _) ⟨by rw [posP, ← hrs]; rfl, Nat.zero_le _, by omega⟩ (.cons (by first | rfl | exact lookI rfl (by omega) | exact lookI rfl (by simp) | exact lookB rfl (by simp)) (.cons (by first | rfl | exact lookI rfl (by omega) | exact lookI rfl (by simp) | exact lookB rfl (by simp)) (.cons (by first | rfl | exact lookI rfl (by omega) | exact lookI rfl (by simp) | exact lookB rfl (by simp)) Front.nil))) (by repeat' (first | exact Pick.nil _ | exact Del.here _ | apply Pick.cons | apply Del.there)) rfl (fun i hi m hm => ?_)
  obtain ⟨x, pre, f, Vf, Vb⟩ := i
  replace hi : pre ++ posF l rs to_ f x = posP l from_ to_ ∧ pre.length ≤ x.toNat ∧ 4294967296 ≤ f + x.toNat := hi
  replace hm : m = 4294967296 - x.toNat := hm
  change Tr _ _ [rowE Vf 36 encIns (foundP l to_ pre), rowE Vb 73 encRng (mergeB (badP l to_ pre))] ([(10, .int .i64 (nextR l x.toNat)), (8, Vf), (9, Vb)] ++ _) _
  obtain ⟨q6, q7, q8⟩ := hi
  have hxlt := x.toNat_lt
  have hlink := next_link l x
  rw [← hrs] at hlink
  have hfl := found_len l to_ pre
  have hbl := bad_len l to_ pre
  have hml := mergeB_len (badP l to_ pre)
  refine Tr.seq ?_
  refine Tr.seq ?_
  refine Tr.region ?_
  refine Tr.q (QS.move rfl) rfl ?_
  refine Tr.q (QS.geq rfl rfl) rfl ?_
  refine Tr.q (QS.move rfl) rfl ?_
  apply Tr.andP
  · exact (rfl : _ = (5, 20, 25))
  · exact rfl
  · intro hT1; have hT1' := hT1
    try simp only [bs] at hT1'
    refine Tr.gq rfl rfl hT1 (QS.move rfl) rfl ?_
    refine Tr.gq rfl rfl hT1 (QS.move rfl) rfl ?_
    refine Tr.gq rfl rfl hT1 (QS.cvt32toI rfl Try.underlying23 Try.underlying3) rfl ?_
    refine Tr.gq rfl rfl hT1 (QS.lss rfl rfl) rfl ?_
    refine Tr.q (QS.pickT rfl hT1 rfl) rfl ?_
    refine Tr.nil (Tr.thenN ?_)
    exact Tr.endX (Sub.cons rfl (Sub.dropN 5 (by kernel_rfl) rfl))
  · intro hF1
    refine Tr.gskip rfl rfl hF1 rfl ?_
    refine Tr.gskip rfl rfl hF1 rfl ?_
    refine Tr.gskip rfl rfl hF1 rfl ?_
    refine Tr.gskip rfl rfl hF1 rfl ?_
    refine Tr.q (QS.pickF rfl hF1 rfl) rfl ?_
    refine Tr.nil (Tr.thenN ?_)
    exact Tr.endX (Sub.cons rfl (Sub.dropN 5 (by kernel_rfl) rfl))
  refine Tr.nil ?_
  refine Tr.thenN ?_
  refine Tr.cond rfl (fun h2 => ?_) (fun h2 => ?_)
  · try simp only [bs] at h2
    refine Tr.skip ?_
    refine Tr.thenN ?_
    refine Tr.block ?_
    refine Tr.seq ?_
    obtain ⟨b, hb⟩ : ∃ b, nxtP rs x = some b := by
      cases hq : nxtP rs x with
      | none => rw [hq] at hlink; replace hlink : nextR l x.toNat = -1 := hlink; exfalso; have := h2.1; rw [hlink] at this; omega
      | some b => exact ⟨b, rfl⟩
    rw [hb] at hlink
    replace hlink : nextR l x.toNat = (b.toNat : Int) := hlink
    rw [hlink] at h2 ⊢
    have hlt : b < to_ := UInt32.lt_iff_toNat_lt.2 (by omega)
    have hfb : 0 ≤ findP l b := has_find (by rw [← hrs]; exact ((nxt_spec (a := x) hno).1 b hb).1)
    have hblt := b.toNat_lt
    have hge := nxtP_ge hb
    have hst := step_pos l to_ b hlt
    refine Tr.region ?_
    refine Tr.q (QS.move rfl) rfl ?_
    refine Tr.q (QS.move rfl) rfl ?_
    refine Tr.q (QS.move rfl) rfl ?_
    refine Tr.q (QS.cvt32toI rfl Try.underlying23 Try.underlying3) rfl ?_
    refine Tr.callRow rfl Try.call35 (fun w hw => bytesR_any l V b to_ w (hw.slF hV) hB (hD.mono hw.bg) hfb hlt) rfl (fun V3 => ?_)
    refine Tr.q (QS.move rfl) rfl ?_
    refine Tr.q (QS.cvtTo32 rfl Try.underlying3 Try.underlying23) rfl ?_
    refine Tr.q (QS.call rfl Try.call34 (fun w hw => (by have q := refDecode_any (winP l b to_) V3 b w (hw.row (by repeat (first | exact List.Mem.head _ | apply List.Mem.tail))); rw [dec_ref] at q; rw [u32_self]; exact q))) rfl ?_
    refine Tr.q (QS.move rfl) rfl ?_
    refine Tr.q (QS.extract rfl rfl) rfl ?_
    refine Tr.q (QS.extract rfl rfl) rfl ?_
    refine Tr.alloc Try.zeroValue36 rfl rfl (fun b4 => ?_)
    refine Tr.storeW rfl rfl Try.sizeOf36 (by repeat (first | exact Put.here _ | apply Put.there)) (by rfl) (by rfl) (by first | exact List.all_eq_true.1 rfl | exact Enc.one _ _ | exact Enc.one encIns _) rfl ?_
    refine Tr.q (QS.assign rfl) rfl ?_
    refine Tr.nil ?_
    refine Tr.thenN ?_
    refine Tr.seq ?_
    refine Tr.seq ?_
    refine Tr.region ?_
    refine Tr.q (QS.move rfl) rfl ?_
    refine Tr.q (QS.eql rfl rfl) rfl ?_
    refine Tr.nil ?_
    refine Tr.thenN ?_
    refine Tr.cond rfl (fun h5 => ?_) (fun h5 => ?_)
    · try simp only [bs] at h5
      refine Tr.seq ?_
      refine Tr.region ?_
      refine Tr.q (QS.move rfl) rfl ?_
      refine Tr.q (QS.lW rfl Try.isAgg36 Try.sizeOf36) rfl ?_
      refine Tr.lit1 (E := encIns) (decP (winP l b to_) b).1 rfl rfl Try.underlying26 Try.sizeOf36 Try.zeroValue36 (by rfl) (by rfl) rfl (fun V6 => ?_)
      refine Tr.append1 rfl rfl (by repeat (first | exact Del.here _ | apply Del.there)) (by repeat (first | exact Del.here _ | apply Del.there)) Try.underlying26 HLF.info36 (by rfl) (by rfl) (by (try simp only [List.length_cons, List.length_nil, List.length_append, List.length_take]); omega) (by unfold maxLen; (try simp only [List.length_cons, List.length_nil, List.length_append, List.length_take]); omega) rfl (fun V7 => ?_)
      refine Tr.q (QS.assign rfl) rfl ?_
      refine Tr.nil ?_
      refine Tr.thenN ?_
      refine Tr.seq ?_
      obtain ⟨d1, d2, d3⟩ := dec_size (b := winP l b to_) (addr := b) (by assumption)
      have dw := win_len l b to_
      obtain ⟨sz, hsz⟩ : ∃ sz, sz = (decP (winP l b to_) b).1.size := ⟨_, rfl⟩
      have hszb : 0 ≤ (b.toNat : Int) + (decP (winP l b to_) b).1.size ∧ (b.toNat : Int) + (decP (winP l b to_) b).1.size ≤ 4294967300 := by rw [← hsz] at d1 d2 ⊢; omega
      refine Tr.region ?_
      refine Tr.q (QS.move rfl) rfl ?_
      refine Tr.q (QS.move rfl) rfl ?_
      refine Tr.q (QS.fieldAddr (off := 8) (ft := 3) rfl Try.underlying36 rfl rfl Try.sizeOf3 (by decide)) rfl ?_
      refine Tr.q (QS.lV rfl Try.isAgg3) rfl ?_
      first | refine Tr.q (QS.addI rfl rfl (by omega)) rfl ?_ | refine Tr.q (QS.add rfl rfl) rfl ?_
      refine Tr.q (QS.call rfl Try.call33 (fun w hw => nextR_any l V ((b.toNat : Int) + (decP (winP l b to_) b).1.size) w (hw.slF hV) hB hszb)) rfl ?_
      refine Tr.q (QS.assign rfl) rfl ?_
      refine Tr.nil ?_
      refine Tr.thenN ?_
      refine Tr.exit ?_
      refine Tr.thenE ?_
      refine Tr.inHit ?_
      refine Tr.thenN ?_
      have hok : okW l to_ b = true := decide_eq_true h5
      have hs1 := sz_ok h5
      have hx2 : ((b + szW l to_ b).toNat : Int) = (b.toNat : Int) + (decP (winP l b to_) b).1.size := by omega
      rw [← hx2]
      obtain ⟨f2, rfl⟩ : ∃ f2, f = f2 + 1 := ⟨f - 1, by omega⟩
      have hpf : (pre ++ [b]) ++ posF l rs to_ f2 (b + szW l to_ b) = posP l from_ to_ := by rw [← q6, posF_go hb hlt, List.append_assoc, List.singleton_append]
      have hpl : (pre ++ [b]).length = pre.length + 1 := by simp
      rw [show foundP l to_ pre ++ [(decP (winP l b to_) b).1] = foundP l to_ (pre ++ [b]) from (found_yes hok).symm, ← bad_yes (ps := pre) hok]
      apply Tr.again (b + szW l to_ b, pre ++ [b], f2, _, _)
      · exact rfl
      · exact (.cons (by first | rfl | exact lookI rfl (by omega) | exact lookI rfl (by simp) | exact lookB rfl (by simp)) (.cons (by first | rfl | exact lookI rfl (by omega) | exact lookI rfl (by simp) | exact lookB rfl (by simp)) (.cons (by first | rfl | exact lookI rfl (by omega) | exact lookI rfl (by simp) | exact lookB rfl (by simp)) Front.nil)))
      · exact SubX.dropN 34 (by kernel_rfl) rfl
      · exact (by repeat' (first | exact Pick.nil _ | exact Del.here _ | apply Pick.cons | apply Del.there))
      · exact ⟨hpf, by omega, by omega⟩
      · exact (by show 4294967296 - (b + szW l to_ b).toNat < m; omega)
    · try simp only [bs] at h5
      refine Tr.skip ?_
      refine Tr.thenN ?_
      refine Tr.seq ?_
      refine Tr.region ?_
      refine Tr.q (QS.move rfl) rfl ?_
      first | refine Tr.q (QS.len rfl (by assumption) Try.underlying30) rfl ?_ | refine Tr.q (QS.lenRow rfl (by repeat (first | exact List.Mem.head _ | apply List.Mem.tail)) Try.underlying30) rfl ?_ | refine Tr.q (QS.lenNil rfl Try.underlying30) rfl ?_
      refine Tr.q (QS.assign rfl) rfl ?_
      refine Tr.nil ?_
      refine Tr.thenN ?_
      refine Tr.seq ?_
      refine Tr.seq ?_
      refine Tr.region ?_
      refine Tr.q (QS.move rfl) rfl ?_
      refine Tr.q (QS.gtr rfl rfl) rfl ?_
      refine Tr.q (QS.move rfl) rfl ?_
      apply Tr.andP
      · exact (rfl : _ = (10, 53, 63))
      · exact rfl
      · intro hT8; have hT8' := hT8
        try simp only [bs] at hT8'
        refine Tr.gq rfl rfl hT8 (QS.move rfl) rfl ?_
        refine Tr.gq rfl rfl hT8 (QS.move rfl) rfl ?_
        first | refine Tr.gq rfl rfl hT8 (QS.subI rfl rfl (by omega)) rfl ?_ | refine Tr.gq rfl rfl hT8 (QS.sub rfl rfl) rfl ?_
        first | refine Tr.gq rfl rfl hT8 (QS.idxN rfl rfl (by assumption) Try.underlying30 Try.sizeOf73 (by rfl) (by omega)) rfl ?_ | refine Tr.gq rfl rfl hT8 (QS.idxRowN rfl rfl (by repeat (first | exact List.Mem.head _ | apply List.Mem.tail)) Try.underlying30 Try.sizeOf73 (by rfl) (by omega)) rfl ?_ | refine Tr.gq rfl rfl hT8 (QS.idx rfl rfl (by assumption) Try.underlying30 Try.sizeOf73 (by rfl) (by omega)) rfl ?_ | refine Tr.gq rfl rfl hT8 (QS.idxRow rfl rfl (by repeat (first | exact List.Mem.head _ | apply List.Mem.tail)) Try.underlying30 Try.sizeOf73 (by rfl) (by omega)) rfl ?_
        refine Tr.gq rfl rfl hT8 (QS.fieldAddr (off := 1) (ft := 23) rfl Try.underlying73 rfl rfl Try.sizeOf23 (by decide)) rfl ?_
        first | refine Tr.gq rfl rfl hT8 (QS.elF rfl (by assumption) Try.isAgg23 (by omega) (by rfl)) rfl ?_ | refine Tr.gq rfl rfl hT8 (QS.elRF rfl (by repeat (first | exact List.Mem.head _ | apply List.Mem.tail)) Try.isAgg23 (by omega) (by rfl)) rfl ?_
        refine Tr.gq rfl rfl hT8 (QS.cvt32toI rfl Try.underlying23 Try.underlying3) rfl ?_
        refine Tr.gq rfl rfl hT8 (QS.move rfl) rfl ?_
        refine Tr.gq rfl rfl hT8 (QS.eql rfl rfl) rfl ?_
        refine Tr.q (QS.pickT rfl hT8 rfl) rfl ?_
        refine Tr.nil (Tr.thenN ?_)
        exact Tr.endX (Sub.cons rfl (Sub.dropN 10 (by kernel_rfl) rfl))
      · intro hF8
        refine Tr.gskip rfl rfl hF8 rfl ?_
        refine Tr.gskip rfl rfl hF8 rfl ?_
        refine Tr.gskip rfl rfl hF8 rfl ?_
        refine Tr.gskip rfl rfl hF8 rfl ?_
        refine Tr.gskip rfl rfl hF8 rfl ?_
        refine Tr.gskip rfl rfl hF8 rfl ?_
        refine Tr.gskip rfl rfl hF8 rfl ?_
        refine Tr.gskip rfl rfl hF8 rfl ?_
        refine Tr.gskip rfl rfl hF8 rfl ?_
        refine Tr.q (QS.pickF rfl hF8 rfl) rfl ?_
        refine Tr.nil (Tr.thenN ?_)
        exact Tr.endX (Sub.cons rfl (Sub.dropN 10 (by kernel_rfl) rfl))
      refine Tr.nil ?_
      refine Tr.thenN ?_
      refine Tr.cond rfl (fun h9 => ?_) (fun h9 => ?_)
      · try simp only [bs] at h9
        refine Tr.region ?_
        refine Tr.q (QS.move rfl) rfl ?_
        refine Tr.q (QS.move rfl) rfl ?_
        first | refine Tr.q (QS.subI rfl rfl (by omega)) rfl ?_ | refine Tr.q (QS.sub rfl rfl) rfl ?_
        refine Tr.q (QS.move rfl) rfl ?_
        first | refine Tr.q (QS.addI rfl rfl (by omega)) rfl ?_ | refine Tr.q (QS.add rfl rfl) rfl ?_
        refine Tr.q (QS.cvtTo32 rfl Try.underlying3 Try.underlying23) rfl ?_
        first | refine Tr.q (QS.idxN rfl rfl (by assumption) Try.underlying30 Try.sizeOf73 (by rfl) (by omega)) rfl ?_ | refine Tr.q (QS.idxRowN rfl rfl (by repeat (first | exact List.Mem.head _ | apply List.Mem.tail)) Try.underlying30 Try.sizeOf73 (by rfl) (by omega)) rfl ?_ | refine Tr.q (QS.idx rfl rfl (by assumption) Try.underlying30 Try.sizeOf73 (by rfl) (by omega)) rfl ?_ | refine Tr.q (QS.idxRow rfl rfl (by repeat (first | exact List.Mem.head _ | apply List.Mem.tail)) Try.underlying30 Try.sizeOf73 (by rfl) (by omega)) rfl ?_
        refine Tr.q (QS.fieldAddr (off := 1) (ft := 23) rfl Try.underlying73 rfl rfl Try.sizeOf23 (by decide)) rfl ?_
        refine Tr.storeRow (⟨((mergeB (badP l to_ pre)).getD (((mergeB (badP l to_ pre)).length : Int) - 1).toNat default).lo, u32 ((b.toNat : Int) + 1)⟩) rfl rfl Try.sizeOf23 (by repeat (first | exact Put.here _ | apply Put.there)) (by omega) (by decide) (by rfl) rfl rfl rfl ?_
        refine Tr.nil ?_
        refine Tr.thenN ?_
        refine Tr.region ?_
        refine Tr.q (QS.move rfl) rfl ?_
        refine Tr.q (QS.move rfl) rfl ?_
        first | refine Tr.q (QS.addI rfl rfl (by omega)) rfl ?_ | refine Tr.q (QS.add rfl rfl) rfl ?_
        refine Tr.q (QS.call rfl Try.call33 (fun w hw => nextR_any l V ((b.toNat : Int) + 1) w (hw.slF hV) hB (by omega))) rfl ?_
        refine Tr.q (QS.assign rfl) rfl ?_
        refine Tr.nil ?_
        refine Tr.inN ?_
        refine Tr.thenN ?_
        have hok : okW l to_ b = false := decide_eq_false h5
        have hs1 := sz_bad h5
        have hx2 : ((b + szW l to_ b).toNat : Int) = (b.toNat : Int) + 1 := by omega
        have hbb : badP l to_ (pre ++ [b]) = badP l to_ pre ++ [⟨b, b + 1⟩] := bad_no hok
        obtain ⟨f2, rfl⟩ : ∃ f2, f = f2 + 1 := ⟨f - 1, by omega⟩
        have hpf : (pre ++ [b]) ++ posF l rs to_ f2 (b + szW l to_ b) = posP l from_ to_ := by rw [← q6, posF_go hb hlt, List.append_assoc, List.singleton_append]
        have hpl : (pre ++ [b]).length = pre.length + 1 := by simp
        have hmm : (mergeB (badP l to_ pre)).set (((mergeB (badP l to_ pre)).length : Int) - 1).toNat ⟨((mergeB (badP l to_ pre)).getD (((mergeB (badP l to_ pre)).length : Int) - 1).toNat default).lo, u32 ((b.toNat : Int) + 1)⟩ = mergeB (badP l to_ (pre ++ [b])) := by
          rw [hbb, mergeB_snoc]
          unfold stepB
          have e1 : (((mergeB (badP l to_ pre)).length : Int) - 1).toNat = (mergeB (badP l to_ pre)).length - 1 := by omega
          rw [e1] at h9 ⊢
          rw [if_pos ⟨by omega, UInt32.toNat_inj.1 (show _ = b.toNat by omega)⟩, u32_succ hlt]
        rw [hmm, ← found_no (ps := pre) hok, ← hx2]
        apply Tr.again (b + szW l to_ b, pre ++ [b], f2, _, _)
        · exact rfl
        · exact (.cons (by first | rfl | exact lookI rfl (by omega) | exact lookI rfl (by simp) | exact lookB rfl (by simp)) (.cons (by first | rfl | exact lookI rfl (by omega) | exact lookI rfl (by simp) | exact lookB rfl (by simp)) (.cons (by first | rfl | exact lookI rfl (by omega) | exact lookI rfl (by simp) | exact lookB rfl (by simp)) Front.nil)))
        · exact SubX.dropN 42 (by kernel_rfl) rfl
        · exact (by repeat' (first | exact Pick.nil _ | exact Del.here _ | apply Pick.cons | apply Del.there))
        · exact ⟨hpf, by omega, by omega⟩
        · exact (by show 4294967296 - (b + szW l to_ b).toNat < m; omega)
      · try simp only [bs] at h9
        refine Tr.region ?_
        refine Tr.q (QS.move rfl) rfl ?_
        refine Tr.q (QS.move rfl) rfl ?_
        refine Tr.q (QS.cvtTo32 rfl Try.underlying3 Try.underlying23) rfl ?_
        refine Tr.q (QS.move rfl) rfl ?_
        first | refine Tr.q (QS.addI rfl rfl (by omega)) rfl ?_ | refine Tr.q (QS.add rfl rfl) rfl ?_
        refine Tr.q (QS.cvtTo32 rfl Try.underlying3 Try.underlying23) rfl ?_
        refine Tr.q (QS.build (vs := [(0, _), (1, _)]) rfl rfl (HLF.built73_0_1 _ _)) rfl ?_
        refine Tr.lit1 (E := encRng) (⟨u32 (b.toNat : Int), u32 ((b.toNat : Int) + 1)⟩ : Rng) rfl rfl Try.underlying30 Try.sizeOf73 Try.zeroValue73 (by rfl) (by rfl) rfl (fun V10 => ?_)
        refine Tr.append1 rfl rfl (by repeat (first | exact Del.here _ | apply Del.there)) (by repeat (first | exact Del.here _ | apply Del.there)) Try.underlying30 HLF.info73 (by rfl) (by rfl) (by (try simp only [List.length_cons, List.length_nil, List.length_append, List.length_take]); omega) (by unfold maxLen; (try simp only [List.length_cons, List.length_nil, List.length_append, List.length_take]); omega) rfl (fun V11 => ?_)
        refine Tr.q (QS.assign rfl) rfl ?_
        refine Tr.nil ?_
        refine Tr.thenN ?_
        refine Tr.region ?_
        refine Tr.q (QS.move rfl) rfl ?_
        refine Tr.q (QS.move rfl) rfl ?_
        first | refine Tr.q (QS.addI rfl rfl (by omega)) rfl ?_ | refine Tr.q (QS.add rfl rfl) rfl ?_
        refine Tr.q (QS.call rfl Try.call33 (fun w hw => nextR_any l V ((b.toNat : Int) + 1) w (hw.slF hV) hB (by omega))) rfl ?_
        refine Tr.q (QS.assign rfl) rfl ?_
        refine Tr.nil ?_
        refine Tr.inN ?_
        refine Tr.thenN ?_
        have hok : okW l to_ b = false := decide_eq_false h5
        have hs1 := sz_bad h5
        have hx2 : ((b + szW l to_ b).toNat : Int) = (b.toNat : Int) + 1 := by omega
        have hbb : badP l to_ (pre ++ [b]) = badP l to_ pre ++ [⟨b, b + 1⟩] := bad_no hok
        obtain ⟨f2, rfl⟩ : ∃ f2, f = f2 + 1 := ⟨f - 1, by omega⟩
        have hpf : (pre ++ [b]) ++ posF l rs to_ f2 (b + szW l to_ b) = posP l from_ to_ := by rw [← q6, posF_go hb hlt, List.append_assoc, List.singleton_append]
        have hpl : (pre ++ [b]).length = pre.length + 1 := by simp
        have hmm : mergeB (badP l to_ pre) ++ [(⟨u32 (b.toNat : Int), u32 ((b.toNat : Int) + 1)⟩ : Rng)] = mergeB (badP l to_ (pre ++ [b])) := by
          rw [hbb, mergeB_snoc]
          unfold stepB
          rw [if_neg (fun q => ?_), u32_succ hlt, u32_self]
          have e1 : (((mergeB (badP l to_ pre)).length : Int) - 1).toNat = (mergeB (badP l to_ pre)).length - 1 := by omega
          rw [e1] at h9
          have q3 : _ = b.toNat := congrArg UInt32.toNat q.2
          rcases h9 with h9 | h9
          · omega
          · exact h9 (by omega)
        rw [hmm, ← found_no (ps := pre) hok, ← hx2]
        apply Tr.again (b + szW l to_ b, pre ++ [b], f2, _, _)
        · exact rfl
        · exact (.cons (by first | rfl | exact lookI rfl (by omega) | exact lookI rfl (by simp) | exact lookB rfl (by simp)) (.cons (by first | rfl | exact lookI rfl (by omega) | exact lookI rfl (by simp) | exact lookB rfl (by simp)) (.cons (by first | rfl | exact lookI rfl (by omega) | exact lookI rfl (by simp) | exact lookB rfl (by simp)) Front.nil)))
        · exact SubX.dropN 44 (by kernel_rfl) rfl
        · exact (by repeat' (first | exact Pick.nil _ | exact Del.here _ | apply Pick.cons | apply Del.there))
        · exact ⟨hpf, by omega, by omega⟩
        · exact (by show 4294967296 - (b + szW l to_ b).toNat < m; omega)
  · try simp only [bs] at h2
    refine Tr.exit ?_
    refine Tr.thenE ?_
    refine Tr.thenE ?_
    refine Tr.inHit ?_
    refine Tr.thenN ?_
    refine Tr.seq ?_
    refine Tr.region ?_
    refine Tr.q (QS.move rfl) rfl ?_
    refine Tr.q (QS.move rfl) rfl ?_
    refine Tr.q (QS.assign rfl) rfl ?_
    refine Tr.q (QS.assign rfl) rfl ?_
    refine Tr.nil ?_
    refine Tr.thenN ?_
    refine Tr.ret ?_
    refine Tr.ret2 Try.results12 rfl rfl (fun w' hw => ?_)
    have hend : posF l rs to_ f x = [] := by
      cases hq : nxtP rs x with
      | none => exact posF_stop hq
      | some b =>
        refine posF_stop2 hq (fun hb => ?_)
        rw [hq] at hlink
        replace hlink : nextR l x.toNat = (b.toNat : Int) := hlink
        have := UInt32.lt_iff_toNat_lt.1 hb
        rw [hlink] at h2
        omega
    rw [hend, List.append_nil] at q6
    exact ⟨((Vf, foundP l to_ pre), (Vb, mergeB (badP l to_ pre))), rfl, hw.below (Bg.le.refl _), hw.ents (Bg.le.refl _) (by repeat' (first | exact Pick.nil _ | exact Del.here _ | apply Pick.cons | apply Del.there)), by rw [q6], by rw [q6]⟩

end Go.Proofs.Ytfnedefgepjbpaa
