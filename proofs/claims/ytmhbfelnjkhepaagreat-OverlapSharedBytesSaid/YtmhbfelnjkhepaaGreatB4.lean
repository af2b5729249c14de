/- Own rules and walks, part 4. -/
import Derived.Test.YtmhbfelnjkhepaaGreatB3
set_option linter.unusedSimpArgs false
set_option linter.unusedVariables false
set_option linter.unusedSectionVars false
namespace Go.Proofs.YtmhbfelnjkhepaaGreat
open Go Go.HL Go.RowKit
theorem ltCI_G (ents : List UInt32) (tm : List (UInt32 × Bool)) : ltCI (cmpG ents tm) = ltG (grpP ents tm) := by
  funext x y
  unfold ltCI cmpG ltG
  congr 1
  exact propext (cmpI_lt _ _)
set_option maxRecDepth 100000 in
set_option maxHeartbeats 8000000 in
theorem resolve_any (ins : List Ins) (ents unk bad : List UInt32) (Vi Ve Vu Vb : Value) (w : World) (hV : Sl (hp w) encIns ins Vi) (hE : Sl (hp w) encU32 ents Ve) (hU : Sl (hp w) encU32 unk Vu) (hB : Sl (hp w) encU32 bad Vb) (hI : ∀ x ∈ ins, InsOK x) (hn1 : ins.length ≤ 200) (hn2 : ents.length ≤ 200) (hn3 : unk.length ≤ 200) (hn4 : bad.length ≤ 200) :
    Calls Tryz.prog 12 #[.agg #[Vi, Ve, Vu, Vb]] w (fun e w' => ∃ i : Value × Value × Value × Value × Value, e = .returned (.tuple #[.agg #[i.1, i.2.1, i.2.2.1, i.2.2.2.1], i.2.2.2.2]) ∧ Ext w w' ∧ NewEnts w w' [rowE i.1 35 encIns (resP ins ents unk bad).kept, rowE i.2.1 33 encU32 (resP ins ents unk bad).ents, rowE i.2.2.1 33 encU32 (resP ins ents unk bad).unk, rowE i.2.2.2.1 33 encU32 (resP ins ents unk bad).bad, rowE i.2.2.2.2 33 encU32 (resP ins ents unk bad).rem]) := by
  have hV' : Sl (Bg.of w).blk encIns ins Vi := hV
  have hE' : Sl (Bg.of w).blk encU32 ents Ve := hE
  have hU' : Sl (Bg.of w).blk encU32 unk Vu := hU
  have hB' : Sl (Bg.of w).blk encU32 bad Vb := hB
  obtain ⟨lc, hlc⟩ : ∃ lc, lc = countP ins := ⟨_, rfl⟩
  obtain ⟨tm, htm⟩ : ∃ tm, tm = tgtM lc := ⟨_, rfl⟩
  have hcl := countP_len ins
  rw [← hlc] at hcl
  have hcI : ∀ x ∈ lc, InsOK x := fun x hx => hI _ (countP_sub (hlc ▸ hx))
  obtain ⟨w0, hw0⟩ : ∃ w0, w0 = w := ⟨_, rfl⟩
  subst hw0
  refine enter Tryz.func12 rfl Tryz.ntmps12 rfl ?_
  refine Tr.seq ?_
  refine Tr.region ?_
  refine Tr.box rfl rfl rfl (fun b1 => ?_)
  refine Tr.alloc Tryz.zeroValue28 rfl rfl (fun b2 => ?_)
  refine Tr.q (QS.assign rfl) rfl ?_
  refine Tr.nil ?_
  refine Tr.thenN ?_
  refine Tr.scope ?_
  refine Tr.seq ?_
  refine Tr.region ?_
  refine Tr.q (QS.fieldAddr (off := 0) (ft := 22) rfl Tryz.underlying28 rfl rfl Tryz.sizeOf22 (by decide)) rfl ?_
  refine Tr.q (QS.lV rfl Tryz.isAgg22) rfl ?_
  refine Tr.callRow rfl Tryz.call34 (fun w hw => (by rw [hlc]; exact counting_any ins Vi w (hw.slF hV') hI hn1 : Calls Tryz.prog 34 #[Vi] w (fun e w' => ∃ V', e = .returned V' ∧ Ext w w' ∧ NewRow w w' 35 encIns (lc) V'))) rfl (fun V3 => ?_)
  refine Tr.q (QS.assign rfl) rfl ?_
  refine Tr.nil ?_
  refine Tr.thenN ?_
  refine Tr.seq ?_
  skip
  refine Tr.region ?_
  refine Tr.q (QS.move rfl) rfl ?_
  refine Tr.callEnts (fun b : Nat => .map (some b)) (fun b => [mapE b boolV tm]) (ok := fun _ => True) rfl Tryz.call35 (fun w hw => (targets_any lc _ w (hw.row (by repeat (first | exact List.Mem.head _ | apply List.Mem.tail))) hcI (by omega)).mono fun e w' ⟨b, q1, q2, q3⟩ => ⟨b, q1, q2, by rw [htm]; exact q3, trivial⟩) rfl (fun bmap _ => ?_)
  refine Tr.alloc Tryz.zeroValue62 rfl rfl (fun b4 => ?_)
  refine Tr.storeW rfl rfl Tryz.sizeOf62 (by repeat (first | exact Put.here _ | apply Put.there)) (by rfl) (by rfl) (by first | exact List.all_eq_true.1 rfl | exact Enc.one _ _) rfl ?_
  refine Tr.nil ?_
  refine Tr.thenN ?_
  refine Tr.seq ?_
  refine Tr.region ?_
  refine Tr.q (QS.makeFunc rfl rfl) rfl ?_
  refine Tr.alloc Tryz.zeroValue64 rfl rfl (fun b5 => ?_)
  refine Tr.storeW rfl rfl Tryz.sizeOf64 (by repeat (first | exact Put.here _ | apply Put.there)) (by rfl) (by rfl) (by first | exact List.all_eq_true.1 rfl | exact Enc.one _ _) rfl ?_
  refine Tr.nil ?_
  refine Tr.thenN ?_
  refine Tr.seq ?_
  refine Tr.region ?_
  refine Tr.q (QS.move rfl) rfl ?_
  refine Tr.callRow rfl Tryz.call38 (fun w hw => clone_ins lc _ w (hw.row (by repeat (first | exact List.Mem.head _ | apply List.Mem.tail))) (by omega)) rfl (fun V6 => ?_)
  refine Tr.q (QS.assign rfl) rfl ?_
  refine Tr.nil ?_
  refine Tr.thenN ?_
  refine Tr.seq ?_
  refine Tr.region ?_
  refine Tr.q (QS.move rfl) rfl ?_
  refine Tr.q (QS.makeFunc rfl rfl) rfl ?_
  refine Tr.callMutR (fun c => c = ordOf (grpP ents tm) lc) rfl Tryz.call39 (fun w hw => (sortStable_ins lc _ 40 [.pointer (some ⟨b5, 0, none⟩)] (cmpG ents tm) (fun w' => ∃ l', HpOK (Bg.of w0) (rowE V6 35 encIns l' :: [cellE b5 [.func (.func 36) #[] #[.pointer (some ⟨b1, 0, none⟩), .pointer (some ⟨b4, 0, none⟩)]] 64, cellE b4 [.map (some bmap)] 62, mapE bmap boolV tm, rowE V3 35 encIns lc, cellE b2 [.slice none 0 0, .slice none 0 0, .slice none 0 0, .slice none 0 0] 28, cellE b1 [Vi, Ve, Vu, Vb] 28]) w') (fun w w' l' ⟨l0, h⟩ m r => ⟨l', HpOK.mut h (.here _) m r⟩) Tryz.call40 (fun x y w' ⟨l0, h⟩ => resolve2_any x y ents tm Vi Ve Vu Vb b1 b4 bmap b5 w' (cellE.cellsIn (h.ent _ (by repeat (first | exact List.Mem.head _ | apply List.Mem.tail))) (Ext.refl _)) (cellE.cellsIn (h.ent _ (by repeat (first | exact List.Mem.head _ | apply List.Mem.tail))) (Ext.refl _)) (mapE.in_ (h.ent _ (by repeat (first | exact List.Mem.head _ | apply List.Mem.tail)))) (h.slF hE') (cellE.cellsIn (h.ent _ (by repeat (first | exact List.Mem.head _ | apply List.Mem.tail))) (Ext.refl _))) (by rw [ltCI_G]; exact wo_ltG _) w ⟨lc, hw⟩ (hw.ent _ (.head _)) (by omega)).mono fun e w' ⟨q1, c, ⟨q2, q3, q4⟩, q5, q6⟩ => ⟨q1, c, by rw [ltCI_G] at q2 q4; exact ord_of (grp_range ents tm) q2 (Srt.all (by rw [q2.len]; exact q4)), q5, q6⟩) rfl (fun c2 hc2 => ?_)
  refine Tr.nil ?_
  refine Tr.thenN ?_
  refine Tr.seq ?_
  subst hc2
  refine Tr.region ?_
  refine Tr.alloc Tryz.zeroValue22 rfl rfl (fun b7 => ?_)
  refine Tr.nil ?_
  refine Tr.thenN ?_
  refine Tr.seq ?_
  refine Tr.label ?_
  refine Tr.thenN ?_
  refine Tr.seq ?_
  refine Tr.seq ?_
  refine Tr.region ?_
  refine Tr.q (QS.move rfl) rfl ?_
  refine Tr.q (QS.lenRow rfl (by repeat (first | exact List.Mem.head _ | apply List.Mem.tail)) Tryz.underlying22) rfl ?_
  refine Tr.q (QS.move rfl) rfl ?_
  refine Tr.nil ?_
  refine Tr.thenN ?_
  refine Tr.block ?_
  refine Tr.ownNil 35 encIns ?_
  refine Tr.loop (ι := Nat × Value) (fun ⟨k, Vk⟩ => k ≤ (ordOf (grpP ents tm) lc).length) (fun _ => _) (fun ⟨k, Vk⟩ => [cellE b7 [Vk] 22, rowE Vk 35 encIns (keepF ((ordOf (grpP ents tm) lc).take k)), rowE V6 35 encIns (ordOf (grpP ents tm) lc), cellE b5 [.func (.func 36) #[] #[.pointer (some ⟨b1, 0, none⟩), .pointer (some ⟨b4, 0, none⟩)]] 64, cellE b4 [.map (some bmap)] 62, mapE bmap boolV tm, rowE V3 35 encIns lc, cellE b2 [.slice none 0 0, .slice none 0 0, .slice none 0 0, .slice none 0 0] 28, cellE b1 [Vi, Ve, Vu, Vb] 28]) (fun ⟨k, Vk⟩ => [(35, .int .i64 (k : Nat))]) (fun ⟨k, Vk⟩ => (ordOf (grpP ents tm) lc).length - k) (0, _) (Nat.zero_le _) (.cons (by first | rfl | exact lookI rfl (by omega) | exact lookI rfl (by simp) | exact lookB rfl (by simp)) Front.nil) (by repeat' (first | exact Pick.nil _ | exact Del.here _ | apply Pick.cons | apply Del.there)) rfl (fun i hi m hm => ?_)
  obtain ⟨k, Vk⟩ := i
  replace hi : k ≤ (ordOf (grpP ents tm) lc).length := hi
  replace hm : m = (ordOf (grpP ents tm) lc).length - k := hm
  change Tr _ _ [cellE b7 [Vk] 22, rowE Vk 35 encIns (keepF ((ordOf (grpP ents tm) lc).take k)), rowE V6 35 encIns (ordOf (grpP ents tm) lc), cellE b5 [.func (.func 36) #[] #[.pointer (some ⟨b1, 0, none⟩), .pointer (some ⟨b4, 0, none⟩)]] 64, cellE b4 [.map (some bmap)] 62, mapE bmap boolV tm, rowE V3 35 encIns lc, cellE b2 [.slice none 0 0, .slice none 0 0, .slice none 0 0, .slice none 0 0] 28, cellE b1 [Vi, Ve, Vu, Vb] 28] ([(35, .int .i64 (k : Nat))] ++ _) _
  have hol := ord_len (grp_range ents tm) lc
  have hkl := keepF_len ((ordOf (grpP ents tm) lc).take k)
  rw [List.length_take] at hkl
  have hoI : ∀ x ∈ ordOf (grpP ents tm) lc, InsOK x := fun x hx => hcI x (ord_sub hx)
  obtain ⟨kq, hkq⟩ : ∃ kq, kq = keepF ((ordOf (grpP ents tm) lc).take k) := ⟨_, rfl⟩
  have hqI : ∀ x ∈ kq, InsOK x := fun x hx => by
    rw [hkq] at hx
    exact hoI x (List.mem_of_mem_take (keep_sub hx))
  rw [← hkq] at hkl ⊢
  refine Tr.seq ?_
  refine Tr.region ?_
  refine Tr.q (QS.lss rfl rfl) rfl ?_
  refine Tr.nil ?_
  refine Tr.thenN ?_
  refine Tr.seq ?_
  refine Tr.cond rfl (fun h8 => ?_) (fun h8 => ?_)
  · try simp only [bs] at h8
    refine Tr.skip ?_
    refine Tr.thenN ?_
    refine Tr.seq ?_
    refine Tr.block ?_
    refine Tr.seq ?_
    refine Tr.region ?_
    refine Tr.q (QS.idxRowN rfl rfl (by repeat (first | exact List.Mem.head _ | apply List.Mem.tail)) Tryz.underlying22 Tryz.sizeOf35 (by rfl) (by omega)) rfl ?_
    refine Tr.q (QS.elRA rfl (by repeat (first | exact List.Mem.head _ | apply List.Mem.tail)) Tryz.isAgg35 Tryz.sizeOf35 (by rfl) (by omega)) rfl ?_
    refine Tr.alloc Tryz.zeroValue35 rfl rfl (fun b9 => ?_)
    refine Tr.storeW rfl rfl Tryz.sizeOf35 (by repeat (first | exact Put.here _ | apply Put.there)) (by rfl) (by rfl) (by first | exact List.all_eq_true.1 rfl | exact Enc.one _ _ | exact Enc.one encIns _) rfl ?_
    refine Tr.nil ?_
    refine Tr.thenN ?_
    refine Tr.seq ?_
    refine Tr.seq ?_
    refine Tr.region ?_
    refine Tr.q (QS.lV rfl Tryz.isAgg22) rfl ?_
    refine Tr.q (QS.lenRow rfl (by repeat (first | exact List.Mem.head _ | apply List.Mem.tail)) Tryz.underlying22) rfl ?_
    refine Tr.q (QS.move rfl) rfl ?_
    refine Tr.nil ?_
    refine Tr.thenN ?_
    refine Tr.block ?_
    refine Tr.loop (ι := Nat) (fun j => j ≤ kq.length ∧ (kq.take j).any (conflP ((ordOf (grpP ents tm) lc).getD k default)) = false) (fun _ => _) (fun j => [cellE b9 (encIns.enc ((ordOf (grpP ents tm) lc).getD k default)) 35, cellE b7 [Vk] 22, rowE Vk 35 encIns kq, rowE V6 35 encIns (ordOf (grpP ents tm) lc), cellE b5 [.func (.func 36) #[] #[.pointer (some ⟨b1, 0, none⟩), .pointer (some ⟨b4, 0, none⟩)]] 64, cellE b4 [.map (some bmap)] 62, mapE bmap boolV tm, rowE V3 35 encIns lc, cellE b2 [.slice none 0 0, .slice none 0 0, .slice none 0 0, .slice none 0 0] 28, cellE b1 [Vi, Ve, Vu, Vb] 28]) (fun j => [(41, .int .i64 (j : Nat))]) (fun j => kq.length - j) 0 ⟨Nat.zero_le _, rfl⟩ (.cons (by first | rfl | exact lookI rfl (by omega) | exact lookI rfl (by simp) | exact lookB rfl (by simp)) Front.nil) (by repeat' (first | exact Pick.nil _ | exact Del.here _ | apply Pick.cons | apply Del.there)) rfl (fun j hi m hm => ?_)
    replace hi : j ≤ kq.length ∧ (kq.take j).any (conflP ((ordOf (grpP ents tm) lc).getD k default)) = false := hi
    replace hm : m = kq.length - j := hm
    change Tr _ _ [cellE b9 (encIns.enc ((ordOf (grpP ents tm) lc).getD k default)) 35, cellE b7 [Vk] 22, rowE Vk 35 encIns kq, rowE V6 35 encIns (ordOf (grpP ents tm) lc), cellE b5 [.func (.func 36) #[] #[.pointer (some ⟨b1, 0, none⟩), .pointer (some ⟨b4, 0, none⟩)]] 64, cellE b4 [.map (some bmap)] 62, mapE bmap boolV tm, rowE V3 35 encIns lc, cellE b2 [.slice none 0 0, .slice none 0 0, .slice none 0 0, .slice none 0 0] 28, cellE b1 [Vi, Ve, Vu, Vb] 28] ([(41, .int .i64 (j : Nat))] ++ _) _
    obtain ⟨hj1, hj2⟩ := hi
    refine Tr.seq ?_
    refine Tr.region ?_
    refine Tr.q (QS.lss rfl rfl) rfl ?_
    refine Tr.nil ?_
    refine Tr.thenN ?_
    refine Tr.seq ?_
    refine Tr.cond rfl (fun h10 => ?_) (fun h10 => ?_)
    · try simp only [bs] at h10
      refine Tr.skip ?_
      refine Tr.thenN ?_
      refine Tr.seq ?_
      refine Tr.block ?_
      refine Tr.seq ?_
      refine Tr.region ?_
      refine Tr.q (QS.idxRowN rfl rfl (by repeat (first | exact List.Mem.head _ | apply List.Mem.tail)) Tryz.underlying22 Tryz.sizeOf35 (by rfl) (by omega)) rfl ?_
      refine Tr.q (QS.elRA rfl (by repeat (first | exact List.Mem.head _ | apply List.Mem.tail)) Tryz.isAgg35 Tryz.sizeOf35 (by rfl) (by omega)) rfl ?_
      refine Tr.alloc Tryz.zeroValue35 rfl rfl (fun b11 => ?_)
      refine Tr.storeW rfl rfl Tryz.sizeOf35 (by repeat (first | exact Put.here _ | apply Put.there)) (by rfl) (by rfl) (by first | exact List.all_eq_true.1 rfl | exact Enc.one _ _ | exact Enc.one encIns _) rfl ?_
      refine Tr.nil ?_
      refine Tr.thenN ?_
      refine Tr.seq ?_
      refine Tr.region ?_
      refine Tr.q (QS.lW rfl Tryz.isAgg35 Tryz.sizeOf35) rfl ?_
      refine Tr.q (QS.lW rfl Tryz.isAgg35 Tryz.sizeOf35) rfl ?_
      refine Tr.q (QS.call rfl Tryz.call42 (fun w hw => conflict_any ((ordOf (grpP ents tm) lc).getD k default) (kq.getD j default) w (hoI _ (mem_getD (by omega))) (hqI _ (mem_getD (by omega))))) rfl ?_
      refine Tr.nil ?_
      refine Tr.thenN ?_
      refine Tr.cond rfl (fun h12 => ?_) (fun h12 => ?_)
      · try simp only [bs] at h12
        refine Tr.exit ?_
        refine Tr.inMiss rfl ?_
        refine Tr.thenE ?_
        refine Tr.thenE ?_
        refine Tr.inMiss rfl ?_
        refine Tr.thenE ?_
        refine Tr.inHit ?_
        refine Tr.thenN ?_
        skip
        refine Tr.region ?_
        refine Tr.q (QS.addI rfl rfl (by omega)) rfl ?_
        refine Tr.q (QS.move rfl) rfl ?_
        refine Tr.nil ?_
        refine Tr.thenN ?_
        have hst := keep_succ (l := ordOf (grpP ents tm) lc) (k := k) (by omega)
        rw [← hkq, keepStep, if_pos (List.any_eq_true.2 ⟨_, mem_getD (k := j) (by omega), by assumption⟩)] at hst
        rw [← hst]
        apply Tr.again (k + 1, _)
        · exact rfl
        · exact (.cons (by first | rfl | exact lookI rfl (by omega) | exact lookI rfl (by simp) | exact lookB rfl (by simp)) Front.nil)
        · exact SubX.dropN 18 (by kernel_rfl) rfl
        · exact (by repeat' (first | exact Pick.nil _ | exact Del.here _ | apply Pick.cons | apply Del.there))
        · exact (by show k + 1 ≤ _; omega)
        · exact (by (try dsimp only); omega)
      · try simp only [bs] at h12
        refine Tr.skip ?_
        refine Tr.inN ?_
        refine Tr.thenN ?_
        refine Tr.region ?_
        refine Tr.q (QS.addI rfl rfl (by omega)) rfl ?_
        refine Tr.q (QS.move rfl) rfl ?_
        refine Tr.nil ?_
        refine Tr.thenN ?_
        apply Tr.again (j + 1)
        · exact rfl
        · exact (.cons (by first | rfl | exact lookI rfl (by omega) | exact lookI rfl (by simp) | exact lookB rfl (by simp)) Front.nil)
        · exact SubX.dropN 10 (by kernel_rfl) rfl
        · exact (by repeat' (first | exact Pick.nil _ | exact Del.here _ | apply Pick.cons | apply Del.there))
        · exact ⟨by omega, by rw [any_take_succ (by omega), hj2, Bool.false_or]; assumption⟩
        · exact (by (try dsimp only); omega)
    · try simp only [bs] at h10
      refine Tr.exit ?_
      refine Tr.thenE ?_
      refine Tr.thenE ?_
      refine Tr.inHit ?_
      refine Tr.thenN ?_
      refine Tr.region ?_
      refine Tr.q (QS.lV rfl Tryz.isAgg22) rfl ?_
      refine Tr.q (QS.lW rfl Tryz.isAgg35 Tryz.sizeOf35) rfl ?_
      refine Tr.lit1 (E := encIns) _ rfl rfl Tryz.underlying22 Tryz.sizeOf35 Tryz.zeroValue35 (by rfl) (by rfl) rfl (fun V13 => ?_)
      refine Tr.append1 rfl rfl (by repeat (first | exact Del.here _ | apply Del.there)) (by repeat (first | exact Del.here _ | apply Del.there)) Tryz.underlying22 HLF.info35 (by rfl) (by rfl) (by (try simp only [List.length_cons, List.length_nil, List.length_append, List.length_take]); omega) (by unfold maxLen; (try simp only [List.length_cons, List.length_nil, List.length_append, List.length_take]); omega) rfl (fun V14 => ?_)
      refine Tr.rowShape (.head _) (fun pz qz hpv => ?_)
      subst hpv
      refine Tr.storeW rfl rfl Tryz.sizeOf22 (by repeat (first | exact Put.here _ | apply Put.there)) (by rfl) (by rfl) (by first | exact List.all_eq_true.1 rfl | exact Enc.one _ _) rfl ?_
      refine Tr.nil ?_
      refine Tr.inN ?_
      refine Tr.thenN ?_
      skip
      refine Tr.region ?_
      refine Tr.q (QS.addI rfl rfl (by omega)) rfl ?_
      refine Tr.q (QS.move rfl) rfl ?_
      refine Tr.nil ?_
      refine Tr.thenN ?_
      obtain rfl : j = kq.length := by omega
      rw [List.take_length] at hj2
      have hst := keep_succ (l := ordOf (grpP ents tm) lc) (k := k) (by omega)
      rw [← hkq, keepStep, if_neg (by rw [hj2]; simp)] at hst
      rw [← hst]
      apply Tr.again (k + 1, _)
      · exact rfl
      · exact (.cons (by first | rfl | exact lookI rfl (by omega) | exact lookI rfl (by simp) | exact lookB rfl (by simp)) Front.nil)
      · exact SubX.dropN 16 (by kernel_rfl) rfl
      · exact (by repeat' (first | exact Pick.nil _ | exact Del.here _ | apply Pick.cons | apply Del.there))
      · exact (by show k + 1 ≤ _; omega)
      · exact (by (try dsimp only); omega)
  · try simp only [bs] at h8
    refine Tr.exit ?_
    refine Tr.thenE ?_
    refine Tr.thenE ?_
    refine Tr.inHit ?_
    refine Tr.thenN ?_
    refine Tr.seq ?_
    obtain rfl : k = (ordOf (grpP ents tm) lc).length := by omega
    rw [List.take_length] at *
    subst hkq
    have hkl := keepF_len (ordOf (grpP ents tm) lc)
    have hol := ord_len (grp_range ents tm) lc
    refine Tr.region ?_
    refine Tr.q (QS.lV rfl Tryz.isAgg22) rfl ?_
    refine Tr.callMut rfl Tryz.call43 (by repeat (first | exact Put.here _ | apply Put.there)) (fun w hw => sortFunc_any Tryz.sortIns encIns 35 Tryz.isAgg35 Tryz.sizeOf35 cmpA swo_cmpA 44 [] (keepF (ordOf (grpP ents tm) lc)) _ w Tryz.call44 (hw.ent _ (by repeat (first | exact List.Mem.head _ | apply List.Mem.tail))) (by omega) (fun x y w' _ => resolve3_any x y w') (sortFunc_nil_ins w 44 #[])) rfl ?_
    refine Tr.nil ?_
    refine Tr.thenN ?_
    refine Tr.seq ?_
    obtain ⟨kp, hkp⟩ : ∃ kp, kp = sortP (Go.Proofs.ltOf cmpA) (keepF (ordOf (grpP ents tm) lc)) := ⟨_, rfl⟩
    rw [← hkp]
    refine Tr.region ?_
    refine Tr.q (QS.makeFunc rfl rfl) rfl ?_
    refine Tr.q (QS.assign rfl) rfl ?_
    refine Tr.nil ?_
    refine Tr.thenN ?_
    refine Tr.seq ?_
    refine Tr.region ?_
    refine Tr.q (QS.assign rfl) rfl ?_
    refine Tr.nil ?_
    refine Tr.thenN ?_
    refine Tr.seq ?_
    refine Tr.seq ?_
    refine Tr.region ?_
    refine Tr.q (QS.move rfl) rfl ?_
    refine Tr.q (QS.lenRow rfl (by repeat (first | exact List.Mem.head _ | apply List.Mem.tail)) Tryz.underlying22) rfl ?_
    refine Tr.q (QS.move rfl) rfl ?_
    refine Tr.nil ?_
    refine Tr.thenN ?_
    refine Tr.block ?_
    refine Tr.ownNil 33 encU32 ?_
    refine Tr.loop (ι := Nat × Value) (fun ⟨k, Vr⟩ => k ≤ lc.length) (fun _ => _) (fun ⟨k, Vr⟩ => [rowE Vr 33 encU32 (remP (lc.take k) kp), cellE b7 [Vk] 22, rowE Vk 35 encIns kp, rowE V6 35 encIns (ordOf (grpP ents tm) lc), cellE b5 [.func (.func 36) #[] #[.pointer (some ⟨b1, 0, none⟩), .pointer (some ⟨b4, 0, none⟩)]] 64, cellE b4 [.map (some bmap)] 62, mapE bmap boolV tm, rowE V3 35 encIns lc, cellE b2 [.slice none 0 0, .slice none 0 0, .slice none 0 0, .slice none 0 0] 28, cellE b1 [Vi, Ve, Vu, Vb] 28]) (fun ⟨k, Vr⟩ => [(59, .int .i64 (k : Nat)), (14, Vr)]) (fun ⟨k, Vr⟩ => lc.length - k) (0, _) (Nat.zero_le _) (.cons (by first | rfl | exact lookI rfl (by omega) | exact lookI rfl (by simp) | exact lookB rfl (by simp)) (.cons (by first | rfl | exact lookI rfl (by omega) | exact lookI rfl (by simp) | exact lookB rfl (by simp)) Front.nil)) (by repeat' (first | exact Pick.nil _ | exact Del.here _ | apply Pick.cons | apply Del.there)) rfl (fun i hi m hm => ?_)
    obtain ⟨k, Vr⟩ := i
    replace hi : k ≤ lc.length := hi
    replace hm : m = lc.length - k := hm
    change Tr _ _ [rowE Vr 33 encU32 (remP (lc.take k) kp), cellE b7 [Vk] 22, rowE Vk 35 encIns kp, rowE V6 35 encIns (ordOf (grpP ents tm) lc), cellE b5 [.func (.func 36) #[] #[.pointer (some ⟨b1, 0, none⟩), .pointer (some ⟨b4, 0, none⟩)]] 64, cellE b4 [.map (some bmap)] 62, mapE bmap boolV tm, rowE V3 35 encIns lc, cellE b2 [.slice none 0 0, .slice none 0 0, .slice none 0 0, .slice none 0 0] 28, cellE b1 [Vi, Ve, Vu, Vb] 28] ([(59, .int .i64 (k : Nat)), (14, Vr)] ++ _) _
    have hrl := rem_len (lc.take k) kp
    rw [List.length_take] at hrl
    refine Tr.seq ?_
    refine Tr.region ?_
    refine Tr.q (QS.lss rfl rfl) rfl ?_
    refine Tr.nil ?_
    refine Tr.thenN ?_
    refine Tr.seq ?_
    refine Tr.cond rfl (fun h15 => ?_) (fun h15 => ?_)
    · try simp only [bs] at h15
      refine Tr.skip ?_
      refine Tr.thenN ?_
      refine Tr.seq ?_
      refine Tr.block ?_
      refine Tr.seq ?_
      refine Tr.region ?_
      refine Tr.q (QS.idxRowN rfl rfl (by repeat (first | exact List.Mem.head _ | apply List.Mem.tail)) Tryz.underlying22 Tryz.sizeOf35 (by rfl) (by omega)) rfl ?_
      refine Tr.q (QS.elRA rfl (by repeat (first | exact List.Mem.head _ | apply List.Mem.tail)) Tryz.isAgg35 Tryz.sizeOf35 (by rfl) (by omega)) rfl ?_
      refine Tr.alloc Tryz.zeroValue35 rfl rfl (fun b16 => ?_)
      refine Tr.storeW rfl rfl Tryz.sizeOf35 (by repeat (first | exact Put.here _ | apply Put.there)) (by rfl) (by rfl) (by first | exact List.all_eq_true.1 rfl | exact Enc.one _ _ | exact Enc.one encIns _) rfl ?_
      refine Tr.nil ?_
      refine Tr.thenN ?_
      refine Tr.seq ?_
      refine Tr.region ?_
      refine Tr.q (QS.move rfl) rfl ?_
      refine Tr.q (QS.fieldAddr (off := 0) (ft := 33) rfl Tryz.underlying35 rfl rfl Tryz.sizeOf33 (by decide)) rfl ?_
      refine Tr.q (QS.lV rfl Tryz.isAgg33) rfl ?_
      refine Tr.q (QS.callV rfl rfl Tryz.call46 (fun w hw => resolve4_any (lc.getD k default).addr kp Vk b7 w (cellE.cellsIn (hw.ent _ (by repeat (first | exact List.Mem.head _ | apply List.Mem.tail))) (Ext.refl _)) (hw.row (by repeat (first | exact List.Mem.head _ | apply List.Mem.tail))))) rfl ?_
      refine Tr.q (QS.not rfl) rfl ?_
      refine Tr.nil ?_
      refine Tr.thenN ?_
      refine Tr.cond rfl (fun h17 => ?_) (fun h17 => ?_)
      · try simp only [bs] at h17
        refine Tr.region ?_
        refine Tr.q (QS.move rfl) rfl ?_
        refine Tr.q (QS.fieldAddr (off := 0) (ft := 33) rfl Tryz.underlying35 rfl rfl Tryz.sizeOf33 (by decide)) rfl ?_
        refine Tr.q (QS.lV rfl Tryz.isAgg33) rfl ?_
        refine Tr.lit1 (E := encU32) _ rfl rfl Tryz.underlying23 Tryz.sizeOf33 Tryz.zeroValue33 (by rfl) (by rfl) rfl (fun V18 => ?_)
        refine Tr.append1 rfl rfl (by repeat (first | exact Del.here _ | apply Del.there)) (by repeat (first | exact Del.here _ | apply Del.there)) Tryz.underlying23 HLF.info33 (by rfl) (by rfl) (by (try simp only [List.length_cons, List.length_nil, List.length_append, List.length_take]); omega) (by unfold maxLen; (try simp only [List.length_cons, List.length_nil, List.length_append, List.length_take]); omega) rfl (fun V19 => ?_)
        refine Tr.q (QS.assign rfl) rfl ?_
        refine Tr.nil ?_
        refine Tr.inN ?_
        refine Tr.thenN ?_
        refine Tr.region ?_
        refine Tr.q (QS.addI rfl rfl (by omega)) rfl ?_
        refine Tr.q (QS.move rfl) rfl ?_
        refine Tr.nil ?_
        refine Tr.thenN ?_
        rw [← rem_yes (by omega) (by simp_all)]
        apply Tr.again (k + 1, _)
        · exact rfl
        · exact (.cons (by first | rfl | exact lookI rfl (by omega) | exact lookI rfl (by simp) | exact lookB rfl (by simp)) (.cons (by first | rfl | exact lookI rfl (by omega) | exact lookI rfl (by simp) | exact lookB rfl (by simp)) Front.nil))
        · exact SubX.dropN 19 (by kernel_rfl) rfl
        · exact (by repeat' (first | exact Pick.nil _ | exact Del.here _ | apply Pick.cons | apply Del.there))
        · exact (by show k + 1 ≤ _; omega)
        · exact (by (try dsimp only); omega)
      · try simp only [bs] at h17
        refine Tr.skip ?_
        refine Tr.inN ?_
        refine Tr.thenN ?_
        refine Tr.region ?_
        refine Tr.q (QS.addI rfl rfl (by omega)) rfl ?_
        refine Tr.q (QS.move rfl) rfl ?_
        refine Tr.nil ?_
        refine Tr.thenN ?_
        rw [← rem_no (by omega) (by simp_all)]
        apply Tr.again (k + 1, _)
        · exact rfl
        · exact (.cons (by first | rfl | exact lookI rfl (by omega) | exact lookI rfl (by simp) | exact lookB rfl (by simp)) (.cons (by first | rfl | exact lookI rfl (by omega) | exact lookI rfl (by simp) | exact lookB rfl (by simp)) Front.nil))
        · exact SubX.dropN 13 (by kernel_rfl) rfl
        · exact (by repeat' (first | exact Pick.nil _ | exact Del.here _ | apply Pick.cons | apply Del.there))
        · exact (by show k + 1 ≤ _; omega)
        · exact (by (try dsimp only); omega)
    · try simp only [bs] at h15
      refine Tr.exit ?_
      refine Tr.thenE ?_
      refine Tr.thenE ?_
      refine Tr.inHit ?_
      refine Tr.thenN ?_
      obtain rfl : k = lc.length := by omega
      rw [List.take_length] at *
      refine Tr.rowShape (V := Vk) (by repeat (first | exact List.Mem.head _ | apply List.Mem.tail)) (fun pa1 pc1 hpv => ?_)
      subst hpv
      refine Tr.seqJ (ι := Nat × Option Addr × Nat) (fun ⟨b17, pb, cb⟩ => True) (fun _ => Bg.of w0) (fun ⟨b17, pb, cb⟩ => [cellE b17 [(.slice pa1 kp.length pc1), .slice none 0 0, .slice none 0 0, (.slice pb bad.length cb)] 28, rowE (.slice pb bad.length cb) 33 encU32 bad, rowE Vr 33 encU32 (remP lc kp), cellE b7 [(.slice pa1 kp.length pc1)] 22, rowE (.slice pa1 kp.length pc1) 35 encIns kp, rowE V6 35 encIns (ordOf (grpP ents tm) lc), cellE b5 [.func (.func 36) #[] #[.pointer (some ⟨b1, 0, none⟩), .pointer (some ⟨b4, 0, none⟩)]] 64, cellE b4 [.map (some bmap)] 62, mapE bmap boolV tm, rowE V3 35 encIns lc, cellE b2 [.slice none 0 0, .slice none 0 0, .slice none 0 0, .slice none 0 0] 28, cellE b1 [Vi, Ve, Vu, Vb] 28]) (fun ⟨b17, pb, cb⟩ => [(17, .pointer (some ⟨b17, 0, none⟩))]) ?_ (fun i hi => ?_)
      · skip
        skip
        refine Tr.regionH ([rowE Vr 33 encU32 (remP lc kp), cellE b7 [(.slice pa1 kp.length pc1)] 22, rowE (.slice pa1 kp.length pc1) 35 encIns kp, rowE V6 35 encIns (ordOf (grpP ents tm) lc), cellE b5 [.func (.func 36) #[] #[.pointer (some ⟨b1, 0, none⟩), .pointer (some ⟨b4, 0, none⟩)]] 64, cellE b4 [.map (some bmap)] 62, mapE bmap boolV tm, rowE V3 35 encIns lc, cellE b2 [.slice none 0 0, .slice none 0 0, .slice none 0 0, .slice none 0 0] 28, cellE b1 [Vi, Ve, Vu, Vb] 28]) 7 rfl HLF.mixed ?_
        refine Tr.hT 0 rfl (by kernel_rfl) (panicThen (panicScope panicBody)) (QS.lV rfl Tryz.isAgg22) ?_
        refine Tr.hT 1 rfl (by kernel_rfl) (panicThen (panicScope panicBody)) (QS.fieldAddr (off := 3) (ft := 23) rfl Tryz.underlying28 rfl rfl Tryz.sizeOf23 (by decide)) ?_
        refine Tr.hT 2 rfl (by kernel_rfl) (panicThen (panicScope panicBody)) (QS.lV rfl Tryz.isAgg23) ?_
        refine Tr.hAll [3, 5] (by kernel_rfl) (by simp) (fun iq hq => ?_)
        rcases List.mem_cons.1 hq with rfl | hq
        · skip
          refine Tr.hOp rfl ?_
          refine Tr.callRow rfl Tryz.call49 (fun w hw => clone_u32 bad Vb w (hw.slF hB') (by omega)) rfl (fun V20 => ?_)
          refine Tr.rowShape (.head _) (fun pb cb hpv => ?_)
          subst hpv
          refine Tr.hN ?_
          refine Tr.hT 4 rfl (by kernel_rfl) (panicThen (panicScope panicBody)) (QS.build (vs := [(0, _), (3, _)]) rfl rfl rfl) ?_
          refine Tr.hAll [5] (by kernel_rfl) (by simp) (fun iq hq => ?_)
          obtain rfl := List.mem_singleton.1 hq
          refine Tr.hOp rfl ?_
          refine Tr.alloc Tryz.zeroValue28 rfl rfl (fun b21 => ?_)
          refine Tr.hN ?_
          refine Tr.hAll [6] (by kernel_rfl) (by simp) (fun iq hq => ?_)
          obtain rfl := List.mem_singleton.1 hq
          refine Tr.hOp rfl ?_
          refine Tr.storeW rfl rfl Tryz.sizeOf28 (by repeat (first | exact Put.here _ | apply Put.there)) (by rfl) (by rfl) (by first | exact List.all_eq_true.1 rfl | exact Enc.one _ _ | (intro u hu; simp [Value.cells] at hu; simp_all [Value.oneCell'])) rfl ?_
          refine Tr.hN ?_
          refine Tr.hDone (by kernel_rfl) ?_
          refine Tr.thenN ?_
          apply Tr.joined (_, _, _)
          · exact rfl
          · exact (.cons (by first | rfl | exact lookI rfl (by omega) | exact lookI rfl (by simp) | exact lookB rfl (by simp)) Front.nil)
          · exact SubX.dropN 6 (by kernel_rfl) rfl
          · exact (by repeat' (first | exact Pick.nil _ | exact Del.here _ | apply Pick.cons | apply Del.there))
          · exact trivial
        obtain rfl := List.mem_singleton.1 hq
        refine Tr.hOp rfl ?_
        refine Tr.alloc Tryz.zeroValue28 rfl rfl (fun b22 => ?_)
        refine Tr.hN ?_
        refine Tr.hAll [3] (by kernel_rfl) (by simp) (fun iq hq => ?_)
        obtain rfl := List.mem_singleton.1 hq
        refine Tr.hOp rfl ?_
        refine Tr.callRow rfl Tryz.call49 (fun w hw => clone_u32 bad Vb w (hw.slF hB') (by omega)) rfl (fun V23 => ?_)
        refine Tr.rowShape (.head _) (fun pb cb hpv => ?_)
        subst hpv
        refine Tr.hN ?_
        refine Tr.hT 4 rfl (by kernel_rfl) (panicThen (panicScope panicBody)) (QS.build (vs := [(0, _), (3, _)]) rfl rfl rfl) ?_
        refine Tr.hAll [6] (by kernel_rfl) (by simp) (fun iq hq => ?_)
        obtain rfl := List.mem_singleton.1 hq
        refine Tr.hOp rfl ?_
        refine Tr.storeW rfl rfl Tryz.sizeOf28 (by repeat (first | exact Put.here _ | apply Put.there)) (by rfl) (by rfl) (by first | exact List.all_eq_true.1 rfl | exact Enc.one _ _ | (intro u hu; simp [Value.cells] at hu; simp_all [Value.oneCell'])) rfl ?_
        refine Tr.hN ?_
        refine Tr.hDone (by kernel_rfl) ?_
        refine Tr.thenN ?_
        apply Tr.joined (_, _, _)
        · exact rfl
        · exact (.cons (by first | rfl | exact lookI rfl (by omega) | exact lookI rfl (by simp) | exact lookB rfl (by simp)) Front.nil)
        · exact SubX.dropN 6 (by kernel_rfl) rfl
        · exact (by repeat' (first | exact Pick.nil _ | exact Del.here _ | apply Pick.cons | apply Del.there))
        · exact trivial
      · obtain ⟨b17, pb, cb⟩ := i
        replace hi : True := hi
        change Tr _ _ [cellE b17 [(.slice pa1 kp.length pc1), .slice none 0 0, .slice none 0 0, (.slice pb bad.length cb)] 28, rowE (.slice pb bad.length cb) 33 encU32 bad, rowE Vr 33 encU32 (remP lc kp), cellE b7 [(.slice pa1 kp.length pc1)] 22, rowE (.slice pa1 kp.length pc1) 35 encIns kp, rowE V6 35 encIns (ordOf (grpP ents tm) lc), cellE b5 [.func (.func 36) #[] #[.pointer (some ⟨b1, 0, none⟩), .pointer (some ⟨b4, 0, none⟩)]] 64, cellE b4 [.map (some bmap)] 62, mapE bmap boolV tm, rowE V3 35 encIns lc, cellE b2 [.slice none 0 0, .slice none 0 0, .slice none 0 0, .slice none 0 0] 28, cellE b1 [Vi, Ve, Vu, Vb] 28] ([(17, .pointer (some ⟨b17, 0, none⟩))] ++ _) _
        refine Tr.seq ?_
        refine Tr.seq ?_
        skip
        refine Tr.region ?_
        refine Tr.q (QS.fieldAddr (off := 1) (ft := 23) rfl Tryz.underlying28 rfl rfl Tryz.sizeOf23 (by decide)) rfl ?_
        refine Tr.q (QS.lV rfl Tryz.isAgg23) rfl ?_
        refine Tr.q (QS.len rfl (by assumption) Tryz.underlying23) rfl ?_
        refine Tr.q (QS.move rfl) rfl ?_
        refine Tr.nil ?_
        refine Tr.thenN ?_
        refine Tr.block ?_
        refine Tr.ownNil 33 encU32 ?_
        refine Tr.loop (ι := Nat × Value) (fun ⟨k, Ve2⟩ => k ≤ ents.length) (fun _ => _) (fun ⟨k, Ve2⟩ => [cellE b17 [(.slice pa1 kp.length pc1), Ve2, .slice none 0 0, (.slice pb bad.length cb)] 28, rowE Ve2 33 encU32 ((ents.take k).filter (inK kp)), rowE (.slice pb bad.length cb) 33 encU32 bad, rowE Vr 33 encU32 (remP lc kp), cellE b7 [(.slice pa1 kp.length pc1)] 22, rowE (.slice pa1 kp.length pc1) 35 encIns kp, rowE V6 35 encIns (ordOf (grpP ents tm) lc), cellE b5 [.func (.func 36) #[] #[.pointer (some ⟨b1, 0, none⟩), .pointer (some ⟨b4, 0, none⟩)]] 64, cellE b4 [.map (some bmap)] 62, mapE bmap boolV tm, rowE V3 35 encIns lc, cellE b2 [.slice none 0 0, .slice none 0 0, .slice none 0 0, .slice none 0 0] 28, cellE b1 [Vi, Ve, Vu, Vb] 28]) (fun ⟨k, Ve2⟩ => [(82, .int .i64 (k : Nat))]) (fun ⟨k, Ve2⟩ => ents.length - k) (0, _) (Nat.zero_le _) (.cons (by first | rfl | exact lookI rfl (by omega) | exact lookI rfl (by simp) | exact lookB rfl (by simp)) Front.nil) (by repeat' (first | exact Pick.nil _ | exact Del.here _ | apply Pick.cons | apply Del.there)) rfl (fun i hi m hm => ?_)
        obtain ⟨k, Ve2⟩ := i
        replace hi : k ≤ ents.length := hi
        replace hm : m = ents.length - k := hm
        change Tr _ _ [cellE b17 [(.slice pa1 kp.length pc1), Ve2, .slice none 0 0, (.slice pb bad.length cb)] 28, rowE Ve2 33 encU32 ((ents.take k).filter (inK kp)), rowE (.slice pb bad.length cb) 33 encU32 bad, rowE Vr 33 encU32 (remP lc kp), cellE b7 [(.slice pa1 kp.length pc1)] 22, rowE (.slice pa1 kp.length pc1) 35 encIns kp, rowE V6 35 encIns (ordOf (grpP ents tm) lc), cellE b5 [.func (.func 36) #[] #[.pointer (some ⟨b1, 0, none⟩), .pointer (some ⟨b4, 0, none⟩)]] 64, cellE b4 [.map (some bmap)] 62, mapE bmap boolV tm, rowE V3 35 encIns lc, cellE b2 [.slice none 0 0, .slice none 0 0, .slice none 0 0, .slice none 0 0] 28, cellE b1 [Vi, Ve, Vu, Vb] 28] ([(82, .int .i64 (k : Nat))] ++ _) _
        have hfl := List.length_filter_le (inK kp) (ents.take k)
        rw [List.length_take] at hfl
        refine Tr.seq ?_
        refine Tr.region ?_
        refine Tr.q (QS.lss rfl rfl) rfl ?_
        refine Tr.nil ?_
        refine Tr.thenN ?_
        refine Tr.seq ?_
        refine Tr.cond rfl (fun h24 => ?_) (fun h24 => ?_)
        · try simp only [bs] at h24
          refine Tr.skip ?_
          refine Tr.thenN ?_
          refine Tr.seq ?_
          refine Tr.block ?_
          refine Tr.seq ?_
          refine Tr.region ?_
          refine Tr.q (QS.idxN rfl rfl (by assumption) Tryz.underlying23 Tryz.sizeOf33 (by rfl) (by omega)) rfl ?_
          refine Tr.q (QS.el1 rfl (by assumption) Tryz.isAgg33 (by omega) (by rfl)) rfl ?_
          refine Tr.q (QS.assign rfl) rfl ?_
          refine Tr.nil ?_
          refine Tr.thenN ?_
          refine Tr.seq ?_
          refine Tr.region ?_
          refine Tr.q (QS.move rfl) rfl ?_
          refine Tr.q (QS.move rfl) rfl ?_
          refine Tr.q (QS.callV rfl rfl Tryz.call46 (fun w hw => resolve4_any (ents.getD k default) kp _ b7 w (cellE.cellsIn (hw.ent _ (by repeat (first | exact List.Mem.head _ | apply List.Mem.tail))) (Ext.refl _)) (hw.row (by repeat (first | exact List.Mem.head _ | apply List.Mem.tail))))) rfl ?_
          refine Tr.nil ?_
          refine Tr.thenN ?_
          refine Tr.cond rfl (fun h25 => ?_) (fun h25 => ?_)
          · try simp only [bs] at h25
            refine Tr.region ?_
            refine Tr.q (QS.fieldAddr (off := 1) (ft := 23) rfl Tryz.underlying28 rfl rfl Tryz.sizeOf23 (by decide)) rfl ?_
            refine Tr.q (QS.lV rfl Tryz.isAgg23) rfl ?_
            refine Tr.q (QS.move rfl) rfl ?_
            refine Tr.lit1 (E := encU32) _ rfl rfl Tryz.underlying23 Tryz.sizeOf33 Tryz.zeroValue33 (by rfl) (by rfl) rfl (fun V26 => ?_)
            refine Tr.append1 rfl rfl (by repeat (first | exact Del.here _ | apply Del.there)) (by repeat (first | exact Del.here _ | apply Del.there)) Tryz.underlying23 HLF.info33 (by rfl) (by rfl) (by (try simp only [List.length_cons, List.length_nil, List.length_append, List.length_take]); omega) (by unfold maxLen; (try simp only [List.length_cons, List.length_nil, List.length_append, List.length_take]); omega) rfl (fun V27 => ?_)
            refine Tr.rowShape (.head _) (fun pz qz hpv => ?_)
            subst hpv
            refine Tr.q (QS.fieldAddr (off := 1) (ft := 23) rfl Tryz.underlying28 rfl rfl Tryz.sizeOf23 (by decide)) rfl ?_
            refine Tr.storeV (cs' := [_, _, _, _]) rfl rfl Tryz.sizeOf23 (by repeat (first | exact Put.here _ | apply Put.there)) rfl (by rfl) (by first | exact Nat.le_of_ble_eq_true rfl | simp) (by first | exact List.all_eq_true.1 rfl | (intro u hu; simp [Value.cells] at hu; simp_all [Value.oneCell'])) rfl ?_
            refine Tr.nil ?_
            refine Tr.inN ?_
            refine Tr.thenN ?_
            refine Tr.region ?_
            refine Tr.q (QS.addI rfl rfl (by omega)) rfl ?_
            refine Tr.q (QS.move rfl) rfl ?_
            refine Tr.nil ?_
            refine Tr.thenN ?_
            rw [← filter_take_pos (by omega) (by assumption)]
            apply Tr.again (k + 1, _)
            · exact rfl
            · exact (.cons (by first | rfl | exact lookI rfl (by omega) | exact lookI rfl (by simp) | exact lookB rfl (by simp)) Front.nil)
            · exact SubX.dropN 16 (by kernel_rfl) rfl
            · exact (by repeat' (first | exact Pick.nil _ | exact Del.here _ | apply Pick.cons | apply Del.there))
            · exact (by show k + 1 ≤ _; omega)
            · exact (by (try dsimp only); omega)
          · try simp only [bs] at h25
            refine Tr.skip ?_
            refine Tr.inN ?_
            refine Tr.thenN ?_
            refine Tr.region ?_
            refine Tr.q (QS.addI rfl rfl (by omega)) rfl ?_
            refine Tr.q (QS.move rfl) rfl ?_
            refine Tr.nil ?_
            refine Tr.thenN ?_
            rw [← filter_take_neg (p := inK kp) (by omega) (by assumption)]
            apply Tr.again (k + 1, _)
            · exact rfl
            · exact (.cons (by first | rfl | exact lookI rfl (by omega) | exact lookI rfl (by simp) | exact lookB rfl (by simp)) Front.nil)
            · exact SubX.dropN 10 (by kernel_rfl) rfl
            · exact (by repeat' (first | exact Pick.nil _ | exact Del.here _ | apply Pick.cons | apply Del.there))
            · exact (by show k + 1 ≤ _; omega)
            · exact (by (try dsimp only); omega)
        · try simp only [bs] at h24
          refine Tr.exit ?_
          refine Tr.thenE ?_
          refine Tr.thenE ?_
          refine Tr.inHit ?_
          refine Tr.thenN ?_
          refine Tr.seq ?_
          refine Tr.seq ?_
          obtain rfl : k = ents.length := by omega
          rw [List.take_length] at *
          refine Tr.rowShape (V := Ve2) (by repeat (first | exact List.Mem.head _ | apply List.Mem.tail)) (fun pa3 pc3 hpv => ?_)
          subst hpv
          refine Tr.region ?_
          refine Tr.q (QS.fieldAddr (off := 2) (ft := 23) rfl Tryz.underlying28 rfl rfl Tryz.sizeOf23 (by decide)) rfl ?_
          refine Tr.q (QS.lV rfl Tryz.isAgg23) rfl ?_
          refine Tr.q (QS.len rfl (by assumption) Tryz.underlying23) rfl ?_
          refine Tr.q (QS.move rfl) rfl ?_
          refine Tr.nil ?_
          refine Tr.thenN ?_
          refine Tr.block ?_
          refine Tr.ownNil 33 encU32 ?_
          refine Tr.loop (ι := Nat × Value) (fun ⟨k, Vu2⟩ => k ≤ unk.length) (fun _ => _) (fun ⟨k, Vu2⟩ => [cellE b17 [(.slice pa1 kp.length pc1), (.slice pa3 (ents.filter (inK kp)).length pc3), Vu2, (.slice pb bad.length cb)] 28, rowE Vu2 33 encU32 ((unk.take k).filter (inK kp)), rowE (.slice pa3 (ents.filter (inK kp)).length pc3) 33 encU32 (ents.filter (inK kp)), rowE (.slice pb bad.length cb) 33 encU32 bad, rowE Vr 33 encU32 (remP lc kp), cellE b7 [(.slice pa1 kp.length pc1)] 22, rowE (.slice pa1 kp.length pc1) 35 encIns kp, rowE V6 35 encIns (ordOf (grpP ents tm) lc), cellE b5 [.func (.func 36) #[] #[.pointer (some ⟨b1, 0, none⟩), .pointer (some ⟨b4, 0, none⟩)]] 64, cellE b4 [.map (some bmap)] 62, mapE bmap boolV tm, rowE V3 35 encIns lc, cellE b2 [.slice none 0 0, .slice none 0 0, .slice none 0 0, .slice none 0 0] 28, cellE b1 [Vi, Ve, Vu, Vb] 28]) (fun ⟨k, Vu2⟩ => [(99, .int .i64 (k : Nat))]) (fun ⟨k, Vu2⟩ => unk.length - k) (0, _) (Nat.zero_le _) (.cons (by first | rfl | exact lookI rfl (by omega) | exact lookI rfl (by simp) | exact lookB rfl (by simp)) Front.nil) (by repeat' (first | exact Pick.nil _ | exact Del.here _ | apply Pick.cons | apply Del.there)) rfl (fun i hi m hm => ?_)
          obtain ⟨k, Vu2⟩ := i
          replace hi : k ≤ unk.length := hi
          replace hm : m = unk.length - k := hm
          change Tr _ _ [cellE b17 [(.slice pa1 kp.length pc1), (.slice pa3 (ents.filter (inK kp)).length pc3), Vu2, (.slice pb bad.length cb)] 28, rowE Vu2 33 encU32 ((unk.take k).filter (inK kp)), rowE (.slice pa3 (ents.filter (inK kp)).length pc3) 33 encU32 (ents.filter (inK kp)), rowE (.slice pb bad.length cb) 33 encU32 bad, rowE Vr 33 encU32 (remP lc kp), cellE b7 [(.slice pa1 kp.length pc1)] 22, rowE (.slice pa1 kp.length pc1) 35 encIns kp, rowE V6 35 encIns (ordOf (grpP ents tm) lc), cellE b5 [.func (.func 36) #[] #[.pointer (some ⟨b1, 0, none⟩), .pointer (some ⟨b4, 0, none⟩)]] 64, cellE b4 [.map (some bmap)] 62, mapE bmap boolV tm, rowE V3 35 encIns lc, cellE b2 [.slice none 0 0, .slice none 0 0, .slice none 0 0, .slice none 0 0] 28, cellE b1 [Vi, Ve, Vu, Vb] 28] ([(99, .int .i64 (k : Nat))] ++ _) _
          have hfl := List.length_filter_le (inK kp) (unk.take k)
          rw [List.length_take] at hfl
          refine Tr.seq ?_
          refine Tr.region ?_
          refine Tr.q (QS.lss rfl rfl) rfl ?_
          refine Tr.nil ?_
          refine Tr.thenN ?_
          refine Tr.seq ?_
          refine Tr.cond rfl (fun h28 => ?_) (fun h28 => ?_)
          · try simp only [bs] at h28
            refine Tr.skip ?_
            refine Tr.thenN ?_
            refine Tr.seq ?_
            refine Tr.block ?_
            refine Tr.seq ?_
            refine Tr.region ?_
            refine Tr.q (QS.idxN rfl rfl (by assumption) Tryz.underlying23 Tryz.sizeOf33 (by rfl) (by omega)) rfl ?_
            refine Tr.q (QS.el1 rfl (by assumption) Tryz.isAgg33 (by omega) (by rfl)) rfl ?_
            refine Tr.q (QS.assign rfl) rfl ?_
            refine Tr.nil ?_
            refine Tr.thenN ?_
            refine Tr.seq ?_
            refine Tr.region ?_
            refine Tr.q (QS.move rfl) rfl ?_
            refine Tr.q (QS.move rfl) rfl ?_
            refine Tr.q (QS.callV rfl rfl Tryz.call46 (fun w hw => resolve4_any (unk.getD k default) kp _ b7 w (cellE.cellsIn (hw.ent _ (by repeat (first | exact List.Mem.head _ | apply List.Mem.tail))) (Ext.refl _)) (hw.row (by repeat (first | exact List.Mem.head _ | apply List.Mem.tail))))) rfl ?_
            refine Tr.nil ?_
            refine Tr.thenN ?_
            refine Tr.cond rfl (fun h29 => ?_) (fun h29 => ?_)
            · try simp only [bs] at h29
              refine Tr.region ?_
              refine Tr.q (QS.fieldAddr (off := 2) (ft := 23) rfl Tryz.underlying28 rfl rfl Tryz.sizeOf23 (by decide)) rfl ?_
              refine Tr.q (QS.lV rfl Tryz.isAgg23) rfl ?_
              refine Tr.q (QS.move rfl) rfl ?_
              refine Tr.lit1 (E := encU32) _ rfl rfl Tryz.underlying23 Tryz.sizeOf33 Tryz.zeroValue33 (by rfl) (by rfl) rfl (fun V30 => ?_)
              refine Tr.append1 rfl rfl (by repeat (first | exact Del.here _ | apply Del.there)) (by repeat (first | exact Del.here _ | apply Del.there)) Tryz.underlying23 HLF.info33 (by rfl) (by rfl) (by (try simp only [List.length_cons, List.length_nil, List.length_append, List.length_take]); omega) (by unfold maxLen; (try simp only [List.length_cons, List.length_nil, List.length_append, List.length_take]); omega) rfl (fun V31 => ?_)
              refine Tr.rowShape (.head _) (fun pz qz hpv => ?_)
              subst hpv
              refine Tr.q (QS.fieldAddr (off := 2) (ft := 23) rfl Tryz.underlying28 rfl rfl Tryz.sizeOf23 (by decide)) rfl ?_
              refine Tr.storeV (cs' := [_, _, _, _]) rfl rfl Tryz.sizeOf23 (by repeat (first | exact Put.here _ | apply Put.there)) rfl (by rfl) (by first | exact Nat.le_of_ble_eq_true rfl | simp) (by first | exact List.all_eq_true.1 rfl | (intro u hu; simp [Value.cells] at hu; simp_all [Value.oneCell'])) rfl ?_
              refine Tr.nil ?_
              refine Tr.inN ?_
              refine Tr.thenN ?_
              refine Tr.region ?_
              refine Tr.q (QS.addI rfl rfl (by omega)) rfl ?_
              refine Tr.q (QS.move rfl) rfl ?_
              refine Tr.nil ?_
              refine Tr.thenN ?_
              rw [← filter_take_pos (by omega) (by assumption)]
              apply Tr.again (k + 1, _)
              · exact rfl
              · exact (.cons (by first | rfl | exact lookI rfl (by omega) | exact lookI rfl (by simp) | exact lookB rfl (by simp)) Front.nil)
              · exact SubX.dropN 16 (by kernel_rfl) rfl
              · exact (by repeat' (first | exact Pick.nil _ | exact Del.here _ | apply Pick.cons | apply Del.there))
              · exact (by show k + 1 ≤ _; omega)
              · exact (by (try dsimp only); omega)
            · try simp only [bs] at h29
              refine Tr.skip ?_
              refine Tr.inN ?_
              refine Tr.thenN ?_
              refine Tr.region ?_
              refine Tr.q (QS.addI rfl rfl (by omega)) rfl ?_
              refine Tr.q (QS.move rfl) rfl ?_
              refine Tr.nil ?_
              refine Tr.thenN ?_
              rw [← filter_take_neg (p := inK kp) (by omega) (by assumption)]
              apply Tr.again (k + 1, _)
              · exact rfl
              · exact (.cons (by first | rfl | exact lookI rfl (by omega) | exact lookI rfl (by simp) | exact lookB rfl (by simp)) Front.nil)
              · exact SubX.dropN 10 (by kernel_rfl) rfl
              · exact (by repeat' (first | exact Pick.nil _ | exact Del.here _ | apply Pick.cons | apply Del.there))
              · exact (by show k + 1 ≤ _; omega)
              · exact (by (try dsimp only); omega)
          · try simp only [bs] at h28
            refine Tr.exit ?_
            refine Tr.thenE ?_
            refine Tr.thenE ?_
            refine Tr.inHit ?_
            refine Tr.thenN ?_
            refine Tr.seq ?_
            obtain rfl : k = unk.length := by omega
            rw [List.take_length] at *
            refine Tr.rowShape (V := Vu2) (by repeat (first | exact List.Mem.head _ | apply List.Mem.tail)) (fun pa4 pc4 hpv => ?_)
            subst hpv
            refine Tr.region ?_
            refine Tr.q (QS.lW rfl Tryz.isAgg28 Tryz.sizeOf28) rfl ?_
            refine Tr.q (QS.move rfl) rfl ?_
            refine Tr.storeW rfl rfl Tryz.sizeOf28 (by repeat (first | exact Put.here _ | apply Put.there)) (by rfl) (by rfl) (by first | exact List.all_eq_true.1 rfl | exact Enc.one _ _ | (intro u hu; simp [Value.cells] at hu; simp_all [Value.oneCell'])) rfl ?_
            refine Tr.q (QS.assign rfl) rfl ?_
            refine Tr.nil ?_
            refine Tr.thenN ?_
            refine Tr.ret ?_
            refine Tr.scopeR ?_
            refine Tr.retC2 Tryz.results12 rfl rfl (by repeat (first | exact List.Mem.head _ | apply List.Mem.tail)) Tryz.isAgg28 Tryz.sizeOf28 (by rfl) (fun w' hw => ?_)
            subst hkp htm hlc
            exact ⟨(_, _, _, _, _), rfl, hw.below (Bg.le.refl _), hw.ents (w := w0) (Bg.le.refl _) (by repeat' (first | exact Pick.nil _ | exact Del.here _ | apply Pick.cons | apply Del.there))⟩
end Go.Proofs.YtmhbfelnjkhepaaGreat
namespace Go.HL
open Go Go.Sort
open Go.Proofs (ltOf)
section
variable {α : Type} [DecidableEq α] [Inhabited α]
/-- How many at the front satisfy p. -/
def idxW (p : α → Bool) (l : List α) : Nat := (l.takeWhile p).length
theorem idxW_le (p : α → Bool) (l : List α) : idxW p l ≤ l.length := by
  unfold idxW
  exact List.Sublist.length_le (List.takeWhile_sublist _)
theorem idxW_lt {p : α → Bool} : ∀ {l : List α} {j : Nat}, j < idxW p l → p (l.getD j default) = true
  | [], j, h => by simp [idxW] at h
  | x :: t, j, h => by
    unfold idxW at h
    rw [List.takeWhile_cons] at h
    split at h
    · rename_i hx
      cases j with
      | zero => exact hx
      | succ j => simpa [List.getD_eq_getElem?_getD] using idxW_lt (p := p) (l := t) (j := j) (by unfold idxW; simpa using h)
    · simp at h
theorem idxW_stop {p : α → Bool} : ∀ {l : List α}, idxW p l < l.length → p (l.getD (idxW p l) default) = false
  | [], h => by simp at h
  | x :: t, h => by
    unfold idxW at h ⊢
    rw [List.takeWhile_cons] at h ⊢
    split at h
    · rename_i hx
      rw [if_pos hx]
      have ih := idxW_stop (p := p) (l := t) (by unfold idxW; simpa using h)
      unfold idxW at ih
      simpa [List.getD_eq_getElem?_getD] using ih
    · rename_i hx; rw [if_neg hx]; simpa using hx
def insR (lt : α → α → Bool) (l : List α) (x : α) : List α :=
  if idxW (fun y => lt y x) l < l.length ∧ l.getD (idxW (fun y => lt y x) l) default = x then l else l.take (idxW (fun y => lt y x) l) ++ [x] ++ l.drop (idxW (fun y => lt y x) l)
/-- A strict order in which any two differ or are the same. -/
structure LO (lt : α → α → Bool) : Prop where
  irr : ∀ x, lt x x = false
  tr : ∀ x y z, lt x y = true → lt y z = true → lt x z = true
  tri : ∀ x y, lt x y = false → lt y x = false → x = y
theorem insR_mem {lt : α → α → Bool} {l : List α} {x y : α} : y ∈ insR lt l x ↔ y ∈ l ∨ y = x := by
  unfold insR
  split
  · rename_i h
    refine ⟨.inl, fun h2 => ?_⟩
    rcases h2 with h2 | rfl
    · exact h2
    · rw [← h.2]; exact mem_getD h.1
  · rw [List.mem_append, List.mem_append, List.mem_singleton]
    constructor
    · rintro ((h | h) | h)
      · exact .inl (List.mem_of_mem_take h)
      · exact .inr h
      · exact .inl (List.mem_of_mem_drop h)
    · rintro (h | h)
      · rw [← List.take_append_drop (idxW (fun y => lt y x) l) l] at h
        rcases List.mem_append.1 h with h | h
        · exact .inl (.inl h)
        · exact .inr h
      · exact .inl (.inr h)
theorem pair_get {R : α → α → Prop} {l : List α} (h : l.Pairwise R) {i j : Nat} (hi : i < j) (hj : j < l.length) : R (l.getD i default) (l.getD j default) := by
  have := List.pairwise_iff_getElem.1 h i j (by omega) hj hi
  rw [List.getD_eq_getElem?_getD, List.getD_eq_getElem?_getD, List.getElem?_eq_getElem (by omega), List.getElem?_eq_getElem hj]
  exact this
theorem insR_sorted {lt : α → α → Bool} (hO : LO lt) {l : List α} {x : α} (h : l.Pairwise fun a b => lt a b = true) : (insR lt l x).Pairwise fun a b => lt a b = true := by
  unfold insR
  split
  · exact h
  · rename_i hne
    have hp := h
    have h1 : ∀ a ∈ l.take (idxW (fun y => lt y x) l), lt a x = true := fun a ha => by
      obtain ⟨j, hj, rfl⟩ := List.mem_take_iff_getElem.1 ha
      have := idxW_lt (p := fun y => lt y x) (l := l) (j := j) (by omega)
      rw [List.getD_eq_getElem?_getD, List.getElem?_eq_getElem (by omega)] at this
      exact this
    have h2 : ∀ b ∈ l.drop (idxW (fun y => lt y x) l), lt x b = true := fun b hb => by
      obtain ⟨j, hj, rfl⟩ := List.mem_drop_iff_getElem.1 hb
      have hlt : idxW (fun y => lt y x) l < l.length := by omega
      have hs := idxW_stop (p := fun y => lt y x) hlt
      have hx : lt x (l.getD (idxW (fun y => lt y x) l) default) = true := by
        cases c : lt x (l.getD (idxW (fun y => lt y x) l) default)
        · exact absurd ⟨hlt, hO.tri _ _ hs c⟩ hne
        · rfl
      have e : l[idxW (fun y => lt y x) l + j] = l.getD (idxW (fun y => lt y x) l + j) default := by rw [List.getD_eq_getElem?_getD, List.getElem?_eq_getElem (by omega)]; rfl
      rw [e]
      by_cases c : j = 0
      · subst c; exact hx
      · exact hO.tr _ _ _ hx (pair_get hp (by omega) (by omega))
    rw [List.append_assoc]
    refine List.pairwise_append.2 ⟨h.sublist (List.take_sublist _ _), List.pairwise_append.2 ⟨by simp, h.sublist (List.drop_sublist _ _), fun a ha b hb => ?_⟩, fun a ha b hb => ?_⟩
    · simp at ha; subst ha; exact h2 b hb
    · rcases List.mem_append.1 hb with hb | hb
      · simp at hb; subst hb; exact h1 a ha
      · exact hO.tr _ _ _ (h1 a ha) (h2 b hb)
/-- Strictly ascending lists with the same elements are the same. -/
theorem so_uniq {lt : α → α → Bool} (irr : ∀ x, lt x x = false) (tr : ∀ x y z, lt x y = true → lt y z = true → lt x z = true) : ∀ (l m : List α), l.Pairwise (fun a b => lt a b = true) → m.Pairwise (fun a b => lt a b = true) → (∀ x, x ∈ l ↔ x ∈ m) → l = m
  | [], [], _, _, _ => rfl
  | [], y :: m, _, _, h => absurd ((h y).2 (.head _)) (by simp)
  | x :: l, [], _, _, h => absurd ((h x).1 (.head _)) (by simp)
  | x :: l, y :: m, h1, h2, h => by
    have p1 := List.pairwise_cons.1 h1
    have p2 := List.pairwise_cons.1 h2
    have e : x = y := by
      rcases List.mem_cons.1 ((h x).1 (.head _)) with e | hx
      · exact e
      · rcases List.mem_cons.1 ((h y).2 (.head _)) with e | hy
        · exact e.symm
        · have := tr _ _ _ (p2.1 x hx) (p1.1 y hy)
          rw [irr] at this; cases this
    subst e
    have : l = m := so_uniq irr tr l m p1.2 p2.2 fun z => by
      constructor
      · intro hz
        rcases List.mem_cons.1 ((h z).1 (.tail _ hz)) with e | hm
        · subst e; have := p1.1 z hz; rw [irr] at this; cases this
        · exact hm
      · intro hz
        rcases List.mem_cons.1 ((h z).2 (.tail _ hz)) with e | hm
        · subst e; have := p2.1 z hz; rw [irr] at this; cases this
        · exact hm
    rw [this]
theorem lo_uniq {lt : α → α → Bool} (hO : LO lt) (l m : List α) (h1 : l.Pairwise fun a b => lt a b = true) (h2 : m.Pairwise fun a b => lt a b = true) (h : ∀ x, x ∈ l ↔ x ∈ m) : l = m := so_uniq hO.irr hO.tr l m h1 h2 h
theorem compact_mem {lt : α → α → Bool} : ∀ (x : α) (l : List α) (y : α), y ∈ x :: compF x l ↔ y ∈ x :: l
  | x, [], y => by simp [compF]
  | x, z :: t, y => by
    unfold compF
    split
    · rename_i e
      subst e
      rw [compact_mem (lt := lt) z t y]; simp
    · rw [List.mem_cons, compact_mem (lt := lt) z t y]; simp
/-- A sorted list without repeats. -/
theorem compact_lo {lt : α → α → Bool} (hO : LO lt) {l : List α} (h : l.Pairwise fun a b => lt b a = false) : (compactP l).Pairwise (fun a b => lt a b = true) ∧ ∀ y, y ∈ compactP l ↔ y ∈ l := by
  have key : ∀ (t : List α) (x : α), (x :: t).Pairwise (fun a b => lt b a = false) → (x :: compF x t).Pairwise (fun a b => lt a b = true) := by
    intro t
    induction t with
    | nil => intro x _; simp [compF]
    | cons z t ih =>
      intro x hx
      have hp := List.pairwise_cons.1 hx
      have hp2 := List.pairwise_cons.1 hp.2
      unfold compF
      split
      · rename_i e; subst e; exact ih z hp.2
      · rename_i hne
        refine List.pairwise_cons.2 ⟨fun y hy => ?_, ih z hp.2⟩
        have hxz : lt x z = true := by
          cases c : lt x z
          · exact absurd (hO.tri _ _ (hp.1 z (.head _)) c) hne
          · rfl
        have hy' := (compact_mem (lt := lt) z t y).1 hy
        rcases List.mem_cons.1 hy' with e | hy'
        · subst e; exact hxz
        · cases c : lt z y
          · have := hO.tri _ _ c (hp2.1 y hy')
            rw [← this]; exact hxz
          · exact hO.tr _ _ _ hxz c
  cases l with
  | nil => exact ⟨by simp [compactP], fun y => by simp [compactP]⟩
  | cons x t => exact ⟨key t x h, fun y => compact_mem (lt := lt) x t y⟩
end
def ltB (x y : Rng) : Bool := decide (x.lo < y.lo) || (decide (x.lo = y.lo) && decide (x.hi < y.hi))
theorem ltB_iff {x y : Rng} : ltB x y = true ↔ ltPr x y := by
  unfold ltB ltPr
  simp only [Bool.or_eq_true, Bool.and_eq_true, decide_eq_true_eq, UInt32.lt_iff_toNat_lt, ← UInt32.toNat_inj]
theorem ltB_eq (x y : Rng) : ltOf cmpPr x y = ltB x y := by
  rw [Bool.eq_iff_iff, ltOf_cmpPr, ltB_iff]
theorem lo_ltB : LO ltB where
  irr x := by
    cases h : ltB x x
    · rfl
    · have := ltB_iff.1 h; unfold ltPr at this; omega
  tr x y z h1 h2 := by rw [ltB_iff] at *; unfold ltPr at *; omega
  tri x y h1 h2 := by
    have n1 : ¬ ltPr x y := fun q => by rw [ltB_iff.2 q] at h1; cases h1
    have n2 : ¬ ltPr y x := fun q => by rw [ltB_iff.2 q] at h2; cases h2
    unfold ltPr at *
    exact rng_ext (UInt32.toNat_inj.1 (by omega)) (UInt32.toNat_inj.1 (by omega))
def ltU (x y : UInt32) : Bool := decide (x < y)
theorem lo_ltU : LO ltU where
  irr x := by simp [ltU]
  tr x y z h1 h2 := by simp only [ltU, decide_eq_true_eq, UInt32.lt_iff_toNat_lt] at *; omega
  tri x y h1 h2 := by
    simp only [ltU, decide_eq_false_iff_not, UInt32.lt_iff_toNat_lt] at *
    exact UInt32.toNat_inj.1 (by omega)
def insU (l : List UInt32) (x : UInt32) : List UInt32 := insR ltU l x
def rconfP (a b : Ins) : Bool := (((decide (a.addr ≠ b.addr) && decide (errP a = 0)) && decide (errP b = 0)) && decide ((a.addr.toNat : Int) < endI b)) && decide ((b.addr.toNat : Int) < endI a)
def ovP (a b : Ins) : Bool := decide (a.addr < b.addr) && rconfP a b
theorem len_pos {i : Ins} : 0 < lengthPI i ↔ errP i = 0 := by
  unfold lengthPI
  split
  · rename_i h
    have := (enc_facts0 i)
    constructor
    · intro _; exact h
    · intro _
      unfold sizeP
      repeat' split
      all_goals omega
  · rename_i h; constructor
    · intro q; omega
    · intro q; exact absurd q h
where enc_facts0 (i : Ins) : True := trivial
theorem conf_iff {a b : Ins} : conflP a b = true ↔ a.addr.toNat ≠ b.addr.toNat ∧ errP a = 0 ∧ errP b = 0 ∧ (a.addr.toNat : Int) < endI b ∧ (b.addr.toNat : Int) < endI a := by
  have e : a.addr ≠ b.addr ↔ a.addr.toNat ≠ b.addr.toNat := by rw [Ne, Ne, UInt32.toNat_inj]
  unfold conflP
  simp only [Bool.and_eq_true, decide_eq_true_eq, len_pos, mxU_val, e]
  have h1 := len_rng a
  have h2 := len_rng b
  unfold endI
  constructor
  · rintro ⟨⟨⟨q1, q2⟩, q3⟩, q4⟩; refine ⟨q1, q2, q3, ?_, ?_⟩ <;> omega
  · rintro ⟨q1, q2, q3, q4, q5⟩
    have p1 := len_pos.2 q2
    have p2 := len_pos.2 q3
    exact ⟨⟨⟨q1, q2⟩, q3⟩, by omega⟩
theorem rconf_eq (a b : Ins) : rconfP a b = conflP a b := by
  rw [Bool.eq_iff_iff, conf_iff]
  have e : a.addr ≠ b.addr ↔ a.addr.toNat ≠ b.addr.toNat := by rw [Ne, Ne, UInt32.toNat_inj]
  unfold rconfP
  simp only [Bool.and_eq_true, decide_eq_true_eq, e]
  exact ⟨fun ⟨⟨⟨⟨q1, q2⟩, q3⟩, q4⟩, q5⟩ => ⟨q1, q2, q3, q4, q5⟩, fun ⟨q1, q2, q3, q4, q5⟩ => ⟨⟨⟨⟨q1, q2⟩, q3⟩, q4⟩, q5⟩⟩
theorem conf_sym (a b : Ins) : conflP a b = conflP b a := by
  rw [Bool.eq_iff_iff, conf_iff, conf_iff]
  exact ⟨fun ⟨q1, q2, q3, q4, q5⟩ => ⟨Ne.symm q1, q3, q2, q5, q4⟩, fun ⟨q1, q2, q3, q4, q5⟩ => ⟨Ne.symm q1, q3, q2, q5, q4⟩⟩
def rin (a : Ins) (out : List Rng) (b : Ins) : List Rng := if ovP a b = true then insR ltB out ⟨a.addr, b.addr⟩ else out
def rout (l : List Ins) (out : List Rng) (a : Ins) : List Rng := l.foldl (rin a) out
def rconfL (l : List Ins) : List Rng := l.foldl (rout l) []
theorem rin_ok {a : Ins} : ∀ (xs : List Ins) (out : List Rng), out.Pairwise (fun x y => ltB x y = true) → (xs.foldl (rin a) out).Pairwise (fun x y => ltB x y = true) ∧ ∀ p, p ∈ xs.foldl (rin a) out ↔ p ∈ out ∨ ∃ b ∈ xs, ovP a b = true ∧ p = ⟨a.addr, b.addr⟩
  | [], out, h => ⟨h, fun p => by simp⟩
  | b :: t, out, h => by
    by_cases c : ovP a b = true
    · have e : rin a out b = insR ltB out ⟨a.addr, b.addr⟩ := by rw [rin, if_pos c]
      obtain ⟨h1, h2⟩ := rin_ok t (rin a out b) (by rw [e]; exact insR_sorted lo_ltB h)
      refine ⟨h1, fun p => ?_⟩
      rw [List.foldl_cons, h2, e, insR_mem]
      constructor
      · rintro ((q | q) | ⟨x, hx, q⟩)
        · exact .inl q
        · exact .inr ⟨b, .head _, c, q⟩
        · exact .inr ⟨x, .tail _ hx, q⟩
      · rintro (q | ⟨x, hx, q1, q2⟩)
        · exact .inl (.inl q)
        · rcases List.mem_cons.1 hx with rfl | hx
          · exact .inl (.inr q2)
          · exact .inr ⟨x, hx, q1, q2⟩
    · have e : rin a out b = out := by rw [rin, if_neg c]
      obtain ⟨h1, h2⟩ := rin_ok t (rin a out b) (by rw [e]; exact h)
      refine ⟨h1, fun p => ?_⟩
      rw [List.foldl_cons, h2, e]
      constructor
      · rintro (q | ⟨x, hx, q⟩)
        · exact .inl q
        · exact .inr ⟨x, .tail _ hx, q⟩
      · rintro (q | ⟨x, hx, q1, q2⟩)
        · exact .inl q
        · rcases List.mem_cons.1 hx with rfl | hx
          · exact absurd q1 c
          · exact .inr ⟨x, hx, q1, q2⟩
theorem rout_ok {l : List Ins} : ∀ (xs : List Ins) (out : List Rng), out.Pairwise (fun x y => ltB x y = true) → (xs.foldl (rout l) out).Pairwise (fun x y => ltB x y = true) ∧ ∀ p, p ∈ xs.foldl (rout l) out ↔ p ∈ out ∨ ∃ a ∈ xs, ∃ b ∈ l, ovP a b = true ∧ p = ⟨a.addr, b.addr⟩
  | [], out, h => ⟨h, fun p => by simp⟩
  | a :: t, out, h => by
    obtain ⟨k1, k2⟩ := rin_ok (a := a) l out h
    obtain ⟨h1, h2⟩ := rout_ok t (rout l out a) k1
    refine ⟨h1, fun p => ?_⟩
    rw [List.foldl_cons, h2]
    show (p ∈ l.foldl (rin a) out ∨ _) ↔ _
    rw [k2]
    constructor
    · rintro ((q | ⟨b, hb, q⟩) | ⟨x, hx, q⟩)
      · exact .inl q
      · exact .inr ⟨a, .head _, b, hb, q⟩
      · exact .inr ⟨x, .tail _ hx, q⟩
    · rintro (q | ⟨x, hx, q⟩)
      · exact .inl (.inl q)
      · rcases List.mem_cons.1 hx with rfl | hx
        · exact .inl (.inr q)
        · exact .inr ⟨x, hx, q⟩
theorem rconf_ok (l : List Ins) : (rconfL l).Pairwise (fun x y => ltB x y = true) ∧ ∀ p, p ∈ rconfL l ↔ ∃ a ∈ l, ∃ b ∈ l, ovP a b = true ∧ p = ⟨a.addr, b.addr⟩ := by
  obtain ⟨h1, h2⟩ := rout_ok (l := l) l [] (by simp)
  exact ⟨h1, fun p => by unfold rconfL; rw [h2]; simp⟩
/-- What stands in the program's list of pairs, before it is sorted. -/
theorem outer_mem {f : Ins → Ins → Rng} {l : List Ins} {p : Rng} : p ∈ outer f l l.length ↔ ∃ i j, j < i ∧ i < l.length ∧ conflP (l.getD i default) (l.getD j default) = true ∧ p = f (l.getD i default) (l.getD j default) := by
  unfold outer inner
  simp only [List.mem_flatMap, List.mem_range, List.mem_map, List.mem_filter]
  constructor
  · rintro ⟨i, hi, b, ⟨hb, hc⟩, rfl⟩
    obtain ⟨j, hj, rfl⟩ := List.mem_take_iff_getElem.1 hb
    have e : l[j] = l.getD j default := by rw [List.getD_eq_getElem?_getD, List.getElem?_eq_getElem (by omega)]; rfl
    rw [e] at hc ⊢
    exact ⟨i, j, by omega, hi, hc, rfl⟩
  · rintro ⟨i, j, hj, hi, hc, rfl⟩
    refine ⟨i, hi, _, ⟨?_, hc⟩, rfl⟩
    rw [List.mem_take_iff_getElem]
    exact ⟨j, by omega, by rw [List.getD_eq_getElem?_getD, List.getElem?_eq_getElem (by omega)]; rfl⟩
theorem cond_pair {a b : Ins} (h : conflP a b = true) : (a.addr < b.addr ∧ pairR a b = ⟨a.addr, b.addr⟩ ∧ shareR a b = ⟨b.addr, u32 (min (min (endI a) (endI b)) 4294967295)⟩) ∨ (b.addr < a.addr ∧ pairR a b = ⟨b.addr, a.addr⟩ ∧ shareR a b = ⟨a.addr, u32 (min (min (endI a) (endI b)) 4294967295)⟩) := by
  have hne := (conf_iff.1 h).1
  by_cases c : a.addr < b.addr
  · have c' := UInt32.lt_iff_toNat_lt.1 c
    refine .inl ⟨c, rng_ext (UInt32.toNat_inj.1 ?_) (UInt32.toNat_inj.1 ?_), rng_ext (UInt32.toNat_inj.1 ?_) rfl⟩
    · show (mnU _ _).toNat = _; rw [mnU_val]; show _ = a.addr.toNat; omega
    · show (mxU _ _).toNat = _; rw [mxU_val]; show _ = b.addr.toNat; omega
    · show (mxU _ _).toNat = _; rw [mxU_val]; show _ = b.addr.toNat; omega
  · have c' : b.addr < a.addr := by rw [UInt32.lt_iff_toNat_lt] at c ⊢; omega
    have c2 := UInt32.lt_iff_toNat_lt.1 c'
    refine .inr ⟨c', rng_ext (UInt32.toNat_inj.1 ?_) (UInt32.toNat_inj.1 ?_), rng_ext (UInt32.toNat_inj.1 ?_) rfl⟩
    · show (mnU _ _).toNat = _; rw [mnU_val]; show _ = b.addr.toNat; omega
    · show (mxU _ _).toNat = _; rw [mxU_val]; show _ = a.addr.toNat; omega
    · show (mxU _ _).toNat = _; rw [mxU_val]; show _ = a.addr.toNat; omega
theorem mem_idx {l : List Ins} {x : Ins} (h : x ∈ l) : ∃ i, i < l.length ∧ l.getD i default = x := by
  obtain ⟨i, hi, e⟩ := List.mem_iff_getElem.1 h
  exact ⟨i, hi, by rw [List.getD_eq_getElem?_getD, List.getElem?_eq_getElem hi]; exact e⟩
theorem conf_pairs {l : List Ins} {p : Rng} : p ∈ outer pairR l l.length ↔ ∃ a ∈ l, ∃ b ∈ l, ovP a b = true ∧ p = ⟨a.addr, b.addr⟩ := by
  rw [outer_mem]
  constructor
  · rintro ⟨i, j, hj, hi, hc, rfl⟩
    rcases cond_pair hc with ⟨h1, h2, _⟩ | ⟨h1, h2, _⟩
    · exact ⟨_, mem_getD hi, _, mem_getD (k := j) (by omega), by rw [ovP, decide_eq_true h1, rconf_eq, hc]; rfl, h2⟩
    · exact ⟨_, mem_getD (k := j) (by omega), _, mem_getD hi, by rw [ovP, decide_eq_true h1, rconf_eq, conf_sym, hc]; rfl, h2⟩
  · rintro ⟨a, ha, b, hb, hc, rfl⟩
    rw [ovP, Bool.and_eq_true, decide_eq_true_eq, rconf_eq] at hc
    obtain ⟨i, hi, rfl⟩ := mem_idx ha
    obtain ⟨j, hj, rfl⟩ := mem_idx hb
    have hlt := UInt32.lt_iff_toNat_lt.1 hc.1
    rcases Nat.lt_trichotomy i j with q | q | q
    · refine ⟨j, i, q, hj, by rw [conf_sym]; exact hc.2, ?_⟩
      rcases cond_pair (by rw [conf_sym]; exact hc.2 : conflP (l.getD j default) (l.getD i default) = true) with ⟨h1, _⟩ | ⟨_, h2, _⟩
      · rw [UInt32.lt_iff_toNat_lt] at h1; omega
      · exact h2.symm
    · subst q; omega
    · refine ⟨i, j, q, hi, hc.2, ?_⟩
      rcases cond_pair hc.2 with ⟨_, h2, _⟩ | ⟨h1, _⟩
      · exact h2.symm
      · rw [UInt32.lt_iff_toNat_lt] at h1; omega
theorem conf_mem (l : List Ins) : (confP l).Pairwise (fun x y => ltB x y = true) ∧ ∀ p, p ∈ confP l ↔ ∃ a ∈ l, ∃ b ∈ l, ovP a b = true ∧ p = ⟨a.addr, b.addr⟩ := by
  have hs := sortP_sorted swo_cmpPr (outer pairR l l.length)
  have hp := sortP_perm swo_cmpPr (outer pairR l l.length)
  obtain ⟨h1, h2⟩ := compact_lo lo_ltB (l := sortP (ltOf cmpPr) (outer pairR l l.length)) (hs.imp fun {a b} h => by rw [← ltB_eq]; exact h)
  exact ⟨h1, fun p => by unfold confP; rw [h2, hp.mem_iff, conf_pairs]⟩
theorem conf_ref (l : List Ins) : confP l = rconfL l := by
  obtain ⟨h1, h2⟩ := conf_mem l
  obtain ⟨k1, k2⟩ := rconf_ok l
  exact lo_uniq lo_ltB _ _ h1 k1 fun p => by rw [h2, k2]
def rsin (a : Ins) (xs : List Ins) : List Rng := (xs.filter (ovP a)).map fun b => ⟨b.addr, u32 (min (min (endI a) (endI b)) 4294967295)⟩
def rshL (l : List Ins) (k : Nat) : List Rng := (List.range k).flatMap fun i => rsin (l.getD i default) l
theorem rsh_mem {l : List Ins} {p : Rng} : p ∈ rshL l l.length ↔ ∃ a ∈ l, ∃ b ∈ l, ovP a b = true ∧ p = ⟨b.addr, u32 (min (min (endI a) (endI b)) 4294967295)⟩ := by
  unfold rshL rsin
  simp only [List.mem_flatMap, List.mem_range, List.mem_map, List.mem_filter]
  constructor
  · rintro ⟨i, hi, b, ⟨hb, hc⟩, rfl⟩
    exact ⟨_, mem_getD hi, b, hb, hc, rfl⟩
  · rintro ⟨a, ha, b, hb, hc, rfl⟩
    obtain ⟨i, hi, rfl⟩ := mem_idx ha
    exact ⟨i, hi, b, ⟨hb, hc⟩, rfl⟩
theorem share_mem {l : List Ins} {p : Rng} : p ∈ outer shareR l l.length ↔ ∃ a ∈ l, ∃ b ∈ l, ovP a b = true ∧ p = ⟨b.addr, u32 (min (min (endI a) (endI b)) 4294967295)⟩ := by
  rw [outer_mem]
  constructor
  · rintro ⟨i, j, hj, hi, hc, rfl⟩
    rcases cond_pair hc with ⟨h1, _, h2⟩ | ⟨h1, _, h2⟩
    · exact ⟨_, mem_getD hi, _, mem_getD (k := j) (by omega), by rw [ovP, decide_eq_true h1, rconf_eq, hc]; rfl, h2⟩
    · exact ⟨_, mem_getD (k := j) (by omega), _, mem_getD hi, by rw [ovP, decide_eq_true h1, rconf_eq, conf_sym, hc]; rfl, by rw [h2, show min (endI (l.getD i default)) (endI (l.getD j default)) = min (endI (l.getD j default)) (endI (l.getD i default)) by omega]⟩
  · rintro ⟨a, ha, b, hb, hc, rfl⟩
    rw [ovP, Bool.and_eq_true, decide_eq_true_eq, rconf_eq] at hc
    obtain ⟨i, hi, rfl⟩ := mem_idx ha
    obtain ⟨j, hj, rfl⟩ := mem_idx hb
    have hlt := UInt32.lt_iff_toNat_lt.1 hc.1
    rcases Nat.lt_trichotomy i j with q | q | q
    · refine ⟨j, i, q, hj, by rw [conf_sym]; exact hc.2, ?_⟩
      rcases cond_pair (by rw [conf_sym]; exact hc.2 : conflP (l.getD j default) (l.getD i default) = true) with ⟨h1, _⟩ | ⟨_, _, h2⟩
      · rw [UInt32.lt_iff_toNat_lt] at h1; omega
      · rw [h2, show min (endI (l.getD j default)) (endI (l.getD i default)) = min (endI (l.getD i default)) (endI (l.getD j default)) by omega]
    · subst q; omega
    · refine ⟨i, j, q, hi, hc.2, ?_⟩
      rcases cond_pair hc.2 with ⟨_, _, h2⟩ | ⟨h1, _⟩
      · exact h2.symm
      · rw [UInt32.lt_iff_toNat_lt] at h1; omega
theorem share_ref (l : List Ins) : sharP l = normalP (rshL l l.length) := by
  obtain ⟨h1, h2⟩ := normal_ok (outer shareR l l.length)
  obtain ⟨k1, k2⟩ := normal_ok (rshL l l.length)
  refine Norm.unique _ _ h1 k1 fun n => ?_
  rw [show sharP l = normalP (outer shareR l l.length) from rfl, h2, k2]
  unfold Has
  constructor
  · rintro ⟨r, hr, q⟩; exact ⟨r, rsh_mem.2 (share_mem.1 hr), q⟩
  · rintro ⟨r, hr, q⟩; exact ⟨r, share_mem.2 (rsh_mem.1 hr), q⟩
end Go.HL
namespace Go.HL
open Go Go.Sort
open Go.Proofs (ltOf)
def ltA (x y : Ins) : Bool := decide (x.addr < y.addr)
theorem ltA_irr (x : Ins) : ltA x x = false := by simp [ltA]
theorem ltA_tr (x y z : Ins) (h1 : ltA x y = true) (h2 : ltA y z = true) : ltA x z = true := by
  simp only [ltA, decide_eq_true_eq, UInt32.lt_iff_toNat_lt] at *; omega
def kA (x : Ins) (out : List Ins) : Nat := idxW (fun y => ltA y x) out
def putA (out : List Ins) (x : Ins) : List Ins := out.take (kA x out) ++ ([x] ++ out.drop (kA x out))
def fstP (l : List Ins) (i : Nat) : Bool := !(l.take i).any fun y => decide (y.addr = (l.getD i default).addr) && decide (errP y = 0)
def cokP (out : List Ins) (x : Ins) : Bool := decide (kA x out = out.length) || decide ((out.getD (kA x out) default).addr ≠ x.addr)
def rcntS (l : List Ins) (out : List Ins) (i : Nat) : List Ins := if ((decide (errP (l.getD i default) = 0) && cokP out (l.getD i default)) && fstP l i) = true then putA out (l.getD i default) else out
def rcntK (l : List Ins) (k : Nat) : List Ins := (List.range k).foldl (rcntS l) []
def rcntL (l : List Ins) : List Ins := rcntK l l.length
theorem rcnt_succ (l : List Ins) (k : Nat) : rcntK l (k + 1) = rcntS l (rcntK l k) k := by
  unfold rcntK; rw [List.range_succ, List.foldl_append]; rfl
theorem putA_mem {out : List Ins} {x y : Ins} : y ∈ putA out x ↔ y ∈ out ∨ y = x := by
  unfold putA
  have e : y ∈ out ↔ y ∈ out.take (kA x out) ∨ y ∈ out.drop (kA x out) := by rw [← List.mem_append, List.take_append_drop]
  rw [e]; simp only [List.mem_append, List.mem_singleton]
  constructor
  · rintro (h | h | h)
    · exact .inl (.inl h)
    · exact .inr h
    · exact .inl (.inr h)
  · rintro ((h | h) | h)
    · exact .inl h
    · exact .inr (.inr h)
    · exact .inr (.inl h)
theorem putA_sorted {out : List Ins} {x : Ins} (h : out.Pairwise fun a b => ltA a b = true) (hn : ∀ y ∈ out, y.addr ≠ x.addr) : (putA out x).Pairwise fun a b => ltA a b = true := by
  have hp := h
  have h1 : ∀ a ∈ out.take (kA x out), ltA a x = true := fun a ha => by
    obtain ⟨j, hj, rfl⟩ := List.mem_take_iff_getElem.1 ha
    have := idxW_lt (p := fun y => ltA y x) (l := out) (j := j) (by unfold kA at hj; omega)
    rw [List.getD_eq_getElem?_getD, List.getElem?_eq_getElem (by omega)] at this
    exact this
  have h2 : ∀ b ∈ out.drop (kA x out), ltA x b = true := fun b hb => by
    obtain ⟨j, hj, rfl⟩ := List.mem_drop_iff_getElem.1 hb
    have hlt : idxW (fun y => ltA y x) out < out.length := by unfold kA at hj; omega
    have hs := idxW_stop (p := fun y => ltA y x) hlt
    have hx : ltA x (out.getD (kA x out) default) = true := by
      have hne := hn _ (mem_getD hlt)
      have h3 : (out.getD (kA x out) default).addr.toNat ≠ x.addr.toNat := fun q => hne (UInt32.toNat_inj.1 q)
      have h4 : ¬ (out.getD (kA x out) default).addr.toNat < x.addr.toNat := by
        have q := of_decide_eq_false hs
        rw [UInt32.lt_iff_toNat_lt] at q; exact q
      unfold ltA
      rw [decide_eq_true_eq, UInt32.lt_iff_toNat_lt]; omega
    have e : out[kA x out + j] = out.getD (kA x out + j) default := by rw [List.getD_eq_getElem?_getD, List.getElem?_eq_getElem (by omega)]; rfl
    rw [e]
    by_cases c : j = 0
    · subst c; exact hx
    · exact ltA_tr _ _ _ hx (pair_get hp (by omega) (by omega))
  unfold putA
  refine List.pairwise_append.2 ⟨h.sublist (List.take_sublist _ _), List.pairwise_append.2 ⟨by simp, h.sublist (List.drop_sublist _ _), fun a ha b hb => ?_⟩, fun a ha b hb => ?_⟩
  · simp at ha; subst ha; exact h2 b hb
  · rcases List.mem_append.1 hb with hb | hb
    · simp at hb; subst hb; exact h1 a ha
    · exact ltA_tr _ _ _ (h1 a ha) (h2 b hb)
theorem inK_iff {l : List Ins} {a : UInt32} : inK l a = true ↔ ∃ x ∈ l, x.addr = a := by
  unfold inK; rw [List.any_eq_true]; simp
theorem inK_snoc (l : List Ins) (x : Ins) (a : UInt32) : inK (l ++ [x]) a = (inK l a || decide (x.addr = a)) := by
  unfold inK; rw [List.any_append]; simp
/-- What counts: each valid instruction that is the first at its address. -/
theorem cnt_addr : ∀ (xs out : List Ins) (a : UInt32), inK (xs.foldl cntStep out) a = (inK out a || xs.any fun y => decide (y.addr = a) && decide (errP y = 0))
  | [], out, a => by simp
  | x :: t, out, a => by
    rw [List.foldl_cons, cnt_addr t, List.any_cons]
    unfold cntStep
    split
    · rename_i h
      simp only [Bool.and_eq_true, Bool.not_eq_true', decide_eq_true_eq] at h
      rw [inK_snoc, h.2]; simp [Bool.or_assoc]
    · rename_i h
      simp only [Bool.and_eq_true, Bool.not_eq_true', decide_eq_true_eq] at h
      by_cases e : x.addr = a
      · subst e
        by_cases c : errP x = 0
        · have : inK out x.addr = true := by
            cases q : inK out x.addr
            · exact absurd ⟨q, c⟩ h
            · rfl
          rw [this]; simp
        · simp [c]
      · simp [e]
theorem first_iff {l : List Ins} {k : Nat} : fstP l k = !inK (cntL (l.take k)) (l.getD k default).addr := by
  unfold cntL; rw [cnt_addr]; simp [fstP, inK]
theorem rcnt_ok (l : List Ins) : ∀ k, k ≤ l.length → (rcntK l k).Pairwise (fun a b => ltA a b = true) ∧ ∀ x, x ∈ rcntK l k ↔ x ∈ cntL (l.take k)
  | 0, _ => by simp [rcntK, cntL]
  | k + 1, hk => by
    obtain ⟨h1, h2⟩ := rcnt_ok l k (by omega)
    rw [rcnt_succ, cnt_succ (by omega)]
    unfold rcntS cntStep
    rw [first_iff]
    by_cases c1 : errP (l.getD k default) = 0
    · by_cases c2 : inK (cntL (l.take k)) (l.getD k default).addr = true
      · rw [c2]
        simp only [Bool.not_true, Bool.and_false, Bool.false_and, Bool.false_eq_true, if_false]
        exact ⟨h1, h2⟩
      · have c2' : inK (cntL (l.take k)) (l.getD k default).addr = false := by simpa using c2
        have hn : ∀ y ∈ rcntK l k, y.addr ≠ (l.getD k default).addr := fun y hy q => c2 (inK_iff.2 ⟨y, (h2 y).1 hy, q⟩)
        have c3 : cokP (rcntK l k) (l.getD k default) = true := by
          unfold cokP
          by_cases e : kA (l.getD k default) (rcntK l k) = (rcntK l k).length
          · rw [decide_eq_true e, Bool.true_or]
          · have hle := idxW_le (fun y => ltA y (l.getD k default)) (rcntK l k)
            have := hn _ (mem_getD (k := kA (l.getD k default) (rcntK l k)) (by unfold kA at e ⊢; omega))
            rw [decide_eq_true this, Bool.or_true]
        rw [c2', c1, c3]
        simp only [decide_true, Bool.and_self, Bool.not_false, if_true]
        refine ⟨putA_sorted h1 hn, fun x => ?_⟩
        rw [putA_mem, h2, List.mem_append, List.mem_singleton]
    · rw [decide_eq_false c1]
      simp only [Bool.false_and, Bool.and_false, Bool.false_eq_true, if_false]
      exact ⟨h1, h2⟩
/-- No two at one address. -/
def dist (l : List Ins) : Prop := l.Pairwise fun a b => a.addr ≠ b.addr
theorem cnt_dist : ∀ (xs out : List Ins), dist out → dist (xs.foldl cntStep out)
  | [], out, h => h
  | x :: t, out, h => by
    rw [List.foldl_cons]
    apply cnt_dist
    unfold cntStep
    split
    · rename_i c
      simp only [Bool.and_eq_true, Bool.not_eq_true', decide_eq_true_eq] at c
      refine List.pairwise_append.2 ⟨h, by simp, fun a ha b hb => ?_⟩
      simp at hb; subst hb
      intro q
      have := inK_iff.2 ⟨a, ha, q⟩
      rw [c.1] at this; cases this
    · exact h
theorem dist_perm {l m : List Ins} (h : l.Perm m) (hd : dist l) : dist m := (h.pairwise_iff fun {a b} q => Ne.symm q).1 hd
/-- Sorted by addresses. -/
theorem sortA_ok {l : List Ins} (hd : dist l) : (sortP (ltOf cmpA) l).Pairwise (fun a b => ltA a b = true) ∧ ∀ x, x ∈ sortP (ltOf cmpA) l ↔ x ∈ l := by
  have hp := sortP_perm swo_cmpA l
  have hs := sortP_sorted swo_cmpA l
  have hd' := dist_perm hp.symm hd
  refine ⟨?_, fun x => hp.mem_iff⟩
  refine (hs.and hd').imp fun {a b} ⟨h1, h2⟩ => ?_
  rw [ltOf_cmpA] at h1
  simp only [ltA, decide_eq_true_eq, decide_eq_false_iff_not, UInt32.lt_iff_toNat_lt] at *
  have : a.addr.toNat ≠ b.addr.toNat := fun q => h2 (UInt32.toNat_inj.1 q)
  omega
theorem count_ok (l : List Ins) : (countP l).Pairwise (fun a b => ltA a b = true) ∧ ∀ x, x ∈ countP l ↔ x ∈ cntL l := sortA_ok (cnt_dist l [] .nil)
theorem cnt_ref (l : List Ins) : countP l = rcntL l := by
  obtain ⟨h1, h2⟩ := count_ok l
  obtain ⟨k1, k2⟩ := rcnt_ok l l.length (Nat.le_refl _)
  rw [List.take_length] at k2
  exact so_uniq ltA_irr ltA_tr _ _ h1 k1 fun x => by rw [h2]; exact (k2 x).symm
theorem sorted_dist {l : List Ins} (h : l.Pairwise fun a b => ltA a b = true) : dist l := h.imp fun {a b} q e => by
  simp only [ltA, decide_eq_true_eq, UInt32.lt_iff_toNat_lt] at q; rw [e] at q; omega
theorem count_dist (l : List Ins) : dist (countP l) := sorted_dist (count_ok l).1
theorem count_valid {l : List Ins} {x : Ins} (h : x ∈ countP l) : errP x = 0 := by
  have h1 := ((count_ok l).2 x).1 h
  have : ∀ (xs out : List Ins), (∀ y ∈ out, errP y = 0) → ∀ y ∈ xs.foldl cntStep out, errP y = 0 := by
    intro xs
    induction xs with
    | nil => intro out h; exact h
    | cons z t ih =>
      intro out h
      refine ih _ ?_
      unfold cntStep
      split
      · rename_i c
        simp only [Bool.and_eq_true, Bool.not_eq_true', decide_eq_true_eq] at c
        intro y hy
        rcases List.mem_append.1 hy with hy | hy
        · exact h y hy
        · simp at hy; subst hy; exact c.2
      · exact h
  exact this l [] (by simp) x h1
/-- All of a list without repeated addresses and without invalid ones count. -/
theorem cnt_self : ∀ (xs out : List Ins), dist (out ++ xs) → (∀ y ∈ xs, errP y = 0) → xs.foldl cntStep out = out ++ xs
  | [], out, _, _ => by simp
  | x :: t, out, hd, hv => by
    have hn : inK out x.addr = false := by
      cases c : inK out x.addr
      · rfl
      · obtain ⟨y, hy, e⟩ := inK_iff.1 c
        exact absurd e ((List.pairwise_append.1 hd).2.2 y hy x (.head _))
    have e : cntStep out x = out ++ [x] := by unfold cntStep; rw [hn, hv x (.head _)]; simp
    rw [List.foldl_cons, e, cnt_self t (out ++ [x]) (by rw [List.append_assoc]; exact hd) (fun y hy => hv y (.tail _ hy)), List.append_assoc]; rfl
theorem count_self {l : List Ins} (hd : dist l) (hv : ∀ y ∈ l, errP y = 0) : countP l = sortP (ltOf cmpA) l := by
  unfold countP cntL; rw [cnt_self l [] hd hv]; rfl
def gR (ents : List UInt32) (l : List Ins) (a : UInt32) : Int := if hasU ents a = true then 0 else if (l.any fun x => (targetP x).2 && decide ((targetP x).1 = a)) = true then 1 else 2
theorem tgt_get : ∀ (xs : List Ins) (m : List (UInt32 × Bool)) (a : UInt32), (mget (xs.foldl tgtStep m) a).getD false = ((mget m a).getD false || xs.any fun x => (targetP x).2 && decide ((targetP x).1 = a))
  | [], m, a => by simp
  | x :: t, m, a => by
    rw [List.foldl_cons, tgt_get t, List.any_cons]
    unfold tgtStep
    split
    · rename_i h
      rw [mget_put, h]
      by_cases e : a = (targetP x).1
      · rw [if_pos e]; simp [e]
      · rw [if_neg e]
        have : ¬ (targetP x).1 = a := fun q => e q.symm
        simp [this]
    · rename_i h
      have h' : (targetP x).2 = false := by simpa using h
      simp [h']
theorem grp_ref (ents : List UInt32) (l : List Ins) (i : Ins) : grpP ents (tgtM l) i = gR ents l i.addr := by
  unfold grpP gR tgtM
  rw [tgt_get]; simp [mget]
def freeR (kept : List Ins) (i : Ins) : Bool := !kept.any fun x => conflP x i
abbrev RS := List Ins × List UInt32
def rres1 (s : RS) (x : Ins) : RS := if freeR s.1 x = true then (s.1 ++ [x], s.2) else (s.1, insU s.2 x.addr)
def rresS (ents : List UInt32) (l : List Ins) (g : Int) (s : RS) (x : Ins) : RS := if gR ents l x.addr ≠ g then s else rres1 s x
def rresG (ents : List UInt32) (l : List Ins) (g : Int) (s : RS) (k : Nat) : RS := (l.take k).foldl (rresS ents l g) s
def rres3 (ents : List UInt32) (l : List Ins) : Nat → RS
  | 0 => ([], [])
  | g + 1 => rresG ents l (g : Int) (rres3 ents l g) l.length
theorem rresG_filter (ents : List UInt32) (l : List Ins) (g : Int) : ∀ (xs : List Ins) (s : RS), xs.foldl (rresS ents l g) s = (xs.filter fun x => decide (gR ents l x.addr = g)).foldl rres1 s
  | [], s => rfl
  | x :: t, s => by
    rw [List.foldl_cons, rresG_filter ents l g t, List.filter_cons]
    unfold rresS
    by_cases h : gR ents l x.addr = g
    · rw [if_neg (by simpa using h), if_pos (by simpa using h)]; rfl
    · rw [if_pos h, if_neg (by simpa using h)]
theorem rres_ord (ents : List UInt32) (l : List Ins) : rres3 ents l 3 = (ordOf (grpP ents (tgtM l)) l).foldl rres1 ([], []) := by
  have e : (fun i => grpP ents (tgtM l) i) = fun i => gR ents l i.addr := by funext i; exact grp_ref ents l i
  unfold rres3 rres3 rres3 rres3 rresG ordOf
  rw [List.take_length, rresG_filter, rresG_filter, rresG_filter, List.foldl_append, List.foldl_append]
  simp only [grp_ref]
  rfl
theorem free_keep (kept : List Ins) (x : Ins) : freeR kept x = !kept.any (conflP x) := by
  unfold freeR
  congr 1
  congr 1
  funext y; exact conf_sym _ _
theorem rres_keep : ∀ (xs : List Ins) (s : RS), (xs.foldl rres1 s).1 = xs.foldl keepStep s.1
  | [], s => rfl
  | x :: t, s => by
    rw [List.foldl_cons, List.foldl_cons, rres_keep t]
    congr 1
    unfold rres1 keepStep
    rw [free_keep]
    by_cases h : s.1.any (conflP x) = true
    · rw [if_pos h]; simp [h]
    · rw [if_neg h]; simp only [Bool.not_eq_true] at h; simp [h]
theorem insU_mem {l : List UInt32} {x y : UInt32} : y ∈ insU l x ↔ y ∈ l ∨ y = x := insR_mem
theorem rres_rem : ∀ (xs pre : List Ins) (s : RS), dist (pre ++ xs) → (∀ x ∈ s.1, x ∈ pre) → s.2.Pairwise (fun a b => ltU a b = true) → (∀ a, a ∈ s.2 ↔ inK pre a = true ∧ inK s.1 a = false) →
    (xs.foldl rres1 s).2.Pairwise (fun a b => ltU a b = true) ∧ ∀ a, a ∈ (xs.foldl rres1 s).2 ↔ inK (pre ++ xs) a = true ∧ inK (xs.foldl rres1 s).1 a = false
  | [], pre, s, _, _, h1, h2 => by simpa using ⟨h1, h2⟩
  | x :: t, pre, s, hd, hs, h1, h2 => by
    have hx : ∀ y ∈ pre, y.addr ≠ x.addr := fun y hy => (List.pairwise_append.1 hd).2.2 y hy x (.head _)
    have hpx : inK pre x.addr = false := by
      cases c : inK pre x.addr
      · rfl
      · obtain ⟨y, hy, e⟩ := inK_iff.1 c; exact absurd e (hx y hy)
    have hsx : inK s.1 x.addr = false := by
      cases c : inK s.1 x.addr
      · rfl
      · obtain ⟨y, hy, e⟩ := inK_iff.1 c; exact absurd e (hx y (hs y hy))
    rw [List.foldl_cons, show pre ++ x :: t = (pre ++ [x]) ++ t by simp]
    refine rres_rem t (pre ++ [x]) (rres1 s x) (by rw [List.append_assoc]; exact hd) ?_ ?_ ?_
    · intro y hy
      unfold rres1 at hy
      split at hy
      · rcases List.mem_append.1 hy with hy | hy
        · exact List.mem_append_left _ (hs y hy)
        · exact List.mem_append_right _ hy
      · exact List.mem_append_left _ (hs y hy)
    · unfold rres1
      split
      · exact h1
      · exact insR_sorted lo_ltU h1
    · intro a
      unfold rres1
      split
      · show a ∈ s.2 ↔ _
        rw [inK_snoc, show (s.1 ++ [x], s.2).1 = s.1 ++ [x] from rfl, inK_snoc, h2]
        by_cases e : x.addr = a
        · subst e; rw [hpx]; simp
        · simp [e]
      · show a ∈ insU s.2 x.addr ↔ _
        rw [insU_mem, inK_snoc, h2]
        by_cases e : x.addr = a
        · subst e; rw [hpx, hsx]; simp
        · have : ¬ a = x.addr := fun q => e q.symm
          simp [e, this]
theorem map_addr_sorted {l : List Ins} (h : l.Pairwise fun a b => ltA a b = true) : (l.map (·.addr)).Pairwise fun a b => ltU a b = true := by
  rw [List.pairwise_map]; exact h
theorem rem_ref {l kept : List Ins} (hs : l.Pairwise fun a b => ltA a b = true) {r : List UInt32} (h1 : r.Pairwise fun a b => ltU a b = true) (h2 : ∀ a, a ∈ r ↔ inK l a = true ∧ inK kept a = false) : remP l kept = r := by
  refine lo_uniq lo_ltU _ _ ?_ h1 fun a => ?_
  · unfold remP
    exact map_addr_sorted (hs.sublist List.filter_sublist)
  · rw [h2]
    unfold remP
    simp only [List.mem_map, List.mem_filter]
    constructor
    · rintro ⟨x, ⟨hx, hk⟩, rfl⟩; exact ⟨inK_iff.2 ⟨x, hx, rfl⟩, by simpa using hk⟩
    · rintro ⟨h, hk⟩
      obtain ⟨x, hx, rfl⟩ := inK_iff.1 h
      exact ⟨x, ⟨hx, by rw [hk]; rfl⟩, rfl⟩
def atS (kept : List Ins) (a : UInt32) : List UInt32 := (kept.filter fun x => decide (x.addr = a)).map fun _ => a
def atR (l : List UInt32) (kept : List Ins) (k : Nat) : List UInt32 := (l.take k).flatMap (atS kept)
theorem atS_dist {a : UInt32} : ∀ {kept : List Ins}, dist kept → atS kept a = if inK kept a = true then [a] else []
  | [], _ => rfl
  | x :: t, hd => by
    have hp := List.pairwise_cons.1 hd
    have ih := atS_dist (a := a) hp.2
    unfold atS at ih ⊢
    rw [List.filter_cons]
    by_cases e : x.addr = a
    · subst e
      have h0 : inK t x.addr = false := by
        cases c : inK t x.addr
        · rfl
        · obtain ⟨y, hy, q⟩ := inK_iff.1 c; exact absurd q.symm (hp.1 y hy)
      rw [h0, if_neg (by simp)] at ih
      rw [if_pos (by simp), List.map_cons, ih, if_pos (by simp [inK])]
    · rw [if_neg (by simpa using e), ih]
      have : inK (x :: t) a = inK t a := by simp [inK, e]
      rw [this]
theorem at_ref {kept : List Ins} (hd : dist kept) : ∀ (l : List UInt32), l.flatMap (atS kept) = l.filter (inK kept)
  | [] => rfl
  | a :: t => by
    rw [List.flatMap_cons, at_ref hd t, atS_dist hd, List.filter_cons]
    split <;> rfl
def rresP (ins : List Ins) (ents unk bad : List UInt32) : ResV :=
  let l := rcntL ins
  let kept := rcntL (rres3 ents l 3).1
  ⟨kept, atR ents kept ents.length, atR unk kept unk.length, bad, (rres3 ents l 3).2⟩
theorem ord_dist {g : Ins → Int} (hg : ∀ i, g i = 0 ∨ g i = 1 ∨ g i = 2) {l : List Ins} (h : dist l) : dist (ordOf g l) := dist_perm (ord_stab hg l).1.1 h
theorem keep_dist : ∀ (xs out : List Ins), dist (out ++ xs) → dist (xs.foldl keepStep out)
  | [], out, h => by simpa using h
  | x :: t, out, h => by
    rw [List.foldl_cons]
    unfold keepStep
    split
    · refine keep_dist t out (h.sublist ?_)
      exact (List.Sublist.refl out).append (List.sublist_cons_self x t)
    · exact keep_dist t (out ++ [x]) (by rw [List.append_assoc]; exact h)
theorem res_ref (ins : List Ins) (ents unk bad : List UInt32) : resP ins ents unk bad = rresP ins ents unk bad := by
  have hc := cnt_ref ins
  obtain ⟨l, hl⟩ : ∃ l, l = countP ins := ⟨_, rfl⟩
  have hls := (count_ok ins).1
  have hdl := count_dist ins
  have hvl : ∀ x ∈ countP ins, errP x = 0 := fun x hx => count_valid hx
  rw [← hl] at hls hdl hvl hc
  have hod := ord_dist (grp_range ents (tgtM l)) hdl
  have hkd : dist (keepF (ordOf (grpP ents (tgtM l)) l)) := keep_dist _ [] hod
  have hkv : ∀ x ∈ keepF (ordOf (grpP ents (tgtM l)) l), errP x = 0 := fun x hx => hvl x (ord_sub (keep_sub hx))
  have e1 : (rres3 ents l 3).1 = keepF (ordOf (grpP ents (tgtM l)) l) := by rw [rres_ord, rres_keep]; rfl
  have e2 : rcntL (rres3 ents l 3).1 = sortP (ltOf cmpA) (keepF (ordOf (grpP ents (tgtM l)) l)) := by
    rw [e1, ← cnt_ref, count_self hkd hkv]
  obtain ⟨hks, hkm⟩ := sortA_ok hkd
  have hks' := sorted_dist hks
  obtain ⟨r1, r2⟩ := rres_rem (ordOf (grpP ents (tgtM l)) l) [] ([], []) (by simpa using hod) (by simp) .nil (by simp [inK])
  rw [← rres_ord] at r1 r2
  have hin : ∀ a, inK (sortP (ltOf cmpA) (keepF (ordOf (grpP ents (tgtM l)) l))) a = inK (rres3 ents l 3).1 a := fun a => by
    rw [Bool.eq_iff_iff, inK_iff, inK_iff, e1]
    exact ⟨fun ⟨x, hx, q⟩ => ⟨x, (hkm x).1 hx, q⟩, fun ⟨x, hx, q⟩ => ⟨x, (hkm x).2 hx, q⟩⟩
  have hio : ∀ a, inK (ordOf (grpP ents (tgtM l)) l) a = inK l a := fun a => by
    have hp := (ord_stab (grp_range ents (tgtM l)) l).1.1
    rw [Bool.eq_iff_iff, inK_iff, inK_iff]
    exact ⟨fun ⟨x, hx, q⟩ => ⟨x, hp.mem_iff.2 hx, q⟩, fun ⟨x, hx, q⟩ => ⟨x, hp.mem_iff.1 hx, q⟩⟩
  have hrem : remP l (sortP (ltOf cmpA) (keepF (ordOf (grpP ents (tgtM l)) l))) = (rres3 ents l 3).2 := rem_ref hls r1 fun a => by
    rw [r2, hin, List.nil_append, hio]
  unfold resP rresP
  simp only
  rw [← hl, ← hc, e2, hrem]
  unfold atR
  rw [List.take_length, List.take_length, at_ref hks', at_ref hks']
def coversP (i : Ins) (a : UInt32) : Bool := decide (i.addr ≤ a) && decide ((a.toNat : Int) < endI i)
def clashP (a b : Ins) : Bool := decide (a.addr ≠ b.addr) && ((coversP a b.addr && decide (0 < lengthPI b)) || (coversP b a.addr && decide (0 < lengthPI a)))
theorem covers_iff {i : Ins} {a : UInt32} : coversP i a = true ↔ i.addr.toNat ≤ a.toNat ∧ (a.toNat : Int) < endI i := by
  unfold coversP
  simp only [Bool.and_eq_true, decide_eq_true_eq, UInt32.le_iff_toNat_le]
theorem clash_eq (a b : Ins) : clashP a b = conflP a b := by
  rw [Bool.eq_iff_iff, conf_iff]
  have e : a.addr ≠ b.addr ↔ a.addr.toNat ≠ b.addr.toNat := by rw [Ne, Ne, UInt32.toNat_inj]
  have h1 := len_rng a
  have h2 := len_rng b
  have p1 := @len_pos a
  have p2 := @len_pos b
  unfold clashP
  simp only [Bool.and_eq_true, Bool.or_eq_true, decide_eq_true_eq, covers_iff, e, ← p1, ← p2]
  unfold endI
  omega
def threeL : List Ins := [⟨4096, 5, 5, 1, 0, 0, 0, 0, 0⟩, ⟨4097, 0, 1, 0, 0, 0, 0, 0, 0⟩, ⟨4099, 0, 1, 0, 0, 0, 0, 0, 0⟩]
def threeJ : List Ins := [⟨4096, 5, 5, 1, 0, 0, 0, 0, 0⟩, ⟨4097, 0, 1, 0, 0, 0, 0, 0, 0⟩, ⟨4099, 4097, 20, 1, 0, 0, 0, 0, 0⟩]
theorem ex_conf : confP threeL = [⟨4096, 4097⟩] := by rw [conf_ref]; decide
theorem ex_conf0 : confP [] = [] := by rw [conf_ref]; decide
theorem ex_shar : sharP threeL = [⟨4097, 4098⟩] := by
  rw [share_ref, show rshL threeL threeL.length = [⟨4097, 4098⟩] by decide]
  exact normal_id (norm_single.2 (by decide))
def k1L : List Ins := [⟨4096, 5, 5, 1, 0, 0, 0, 0, 0⟩, ⟨4099, 0, 1, 0, 0, 0, 0, 0, 0⟩]
def k2L : List Ins := [⟨4097, 0, 1, 0, 0, 0, 0, 0, 0⟩, ⟨4099, 0, 1, 0, 0, 0, 0, 0, 0⟩]
def k3L : List Ins := [⟨4097, 0, 1, 0, 0, 0, 0, 0, 0⟩, ⟨4099, 4097, 20, 1, 0, 0, 0, 0, 0⟩]
theorem ex_res1 : (resP threeL [] [] []).kept = k1L ∧ (resP threeL [] [] []).rem = [4097] := by rw [res_ref]; decide
theorem ex_res2 : (resP threeL [4097] [] []).kept = k2L ∧ (resP threeL [4097] [] []).ents = [4097] ∧ (resP threeL [4097] [] []).rem = [4096] := by rw [res_ref]; decide
theorem ex_res3 : (resP threeJ [] [] []).kept = k3L := by rw [res_ref]; decide
end Go.HL
namespace Go.Proofs.YtmhbfelnjkhepaaGreat
open Go Go.HL Go.RowKit
theorem rngEqEnc : EqEnc encRng [.int .u32, .int .u32] [0, 1] := by
  intro x y
  refine ⟨fun j o e ho he => ?_, ?_⟩
  · rcases j with _ | _ | j <;> simp at ho he <;> subst ho <;> subst he <;> rfl
  · obtain ⟨a0, a1⟩ := x
    obtain ⟨c0, c1⟩ := y
    rw [Bool.eq_iff_iff]
    simp [eqAt, encRng]
    simp only [← UInt32.toNat_inj]
    omega
theorem threeL_ok : ∀ x ∈ threeL, InsOK x := by
  intro x hx
  simp only [threeL, List.mem_cons, List.not_mem_nil, or_false] at hx
  rcases hx with rfl | rfl | rfl <;> constructor <;> exact ⟨by decide, by decide⟩
theorem threeJ_ok : ∀ x ∈ threeJ, InsOK x := by
  intro x hx
  simp only [threeJ, List.mem_cons, List.not_mem_nil, or_false] at hx
  rcases hx with rfl | rfl | rfl <;> constructor <;> exact ⟨by decide, by decide⟩
set_option maxRecDepth 100000 in
set_option maxHeartbeats 2000000 in
theorem samePairs_any (a b : List Rng) (V W : Value) (w : World) (hV : Sl (hp w) encRng a V) (hW : Sl (hp w) encRng b W) :
    Calls Tryz.prog 21 #[V, W] w (fun e w' => e = .returned (.bool (decide (a = b))) ∧ Ext w w') := by
  have hV' : Sl (Bg.of w).blk encRng a V := hV
  have hW' : Sl (Bg.of w).blk encRng b W := hW
  have hl1 := hV.len_le
  have hl2 := hW.len_le
  refine enter Tryz.func21 rfl Tryz.ntmps21 rfl ?_
  refine Tr.seq ?_
  refine Tr.region ?_
  refine Tr.q (QS.assign rfl) rfl ?_
  refine Tr.nil ?_
  refine Tr.thenN ?_
  refine Tr.seq ?_
  refine Tr.seq ?_
  refine Tr.region ?_
  refine Tr.q (QS.move rfl) rfl ?_
  refine Tr.q (QS.len rfl (by assumption) Tryz.underlying41) rfl ?_
  refine Tr.q (QS.move rfl) rfl ?_
  refine Tr.q (QS.len rfl (by assumption) Tryz.underlying41) rfl ?_
  refine Tr.q (QS.neq rfl rfl) rfl ?_
  refine Tr.nil ?_
  refine Tr.thenN ?_
  refine Tr.cond rfl (fun h1 => ?_) (fun h1 => ?_)
  · try simp only [bs] at h1
    refine Tr.seq ?_
    refine Tr.region ?_
    refine Tr.q (QS.assign rfl) rfl ?_
    refine Tr.nil ?_
    refine Tr.thenN ?_
    refine Tr.ret ?_
    refine Tr.thenR ?_
    refine Tr.ret1 Tryz.results21 rfl (fun w' hw => ?_)
    exact ⟨by rw [decide_eq_false (fun e => by subst e; omega)], hw.below (Bg.le.refl _)⟩
  · try simp only [bs] at h1
    refine Tr.skip ?_
    refine Tr.thenN ?_
    refine Tr.seq ?_
    refine Tr.seq ?_
    refine Tr.region ?_
    refine Tr.q (QS.assign rfl) rfl ?_
    refine Tr.nil ?_
    refine Tr.thenN ?_
    refine Tr.block ?_
    refine Tr.loop (ι := Nat) (fun k => k ≤ a.length ∧ a.take k = b.take k) (fun _ => _) (fun k => []) (fun k => [(5, .int .i64 (k : Nat))]) (fun k => a.length - k) 0 ⟨by omega, rfl⟩ (.cons (by first | rfl | exact lookI rfl (by omega) | exact lookI rfl (by simp) | exact lookB rfl (by simp)) Front.nil) (by repeat' (first | exact Pick.nil _ | exact Del.here _ | apply Pick.cons | apply Del.there)) rfl (fun k hi m hm => ?_)
    replace hi : k ≤ a.length ∧ a.take k = b.take k := hi
    replace hm : m = a.length - k := hm
    change Tr _ _ [] ([(5, .int .i64 (k : Nat))] ++ _) _
    obtain ⟨hk1, hk3⟩ := hi
    refine Tr.seq ?_
    refine Tr.seq ?_
    refine Tr.region ?_
    refine Tr.q (QS.move rfl) rfl ?_
    refine Tr.q (QS.move rfl) rfl ?_
    refine Tr.q (QS.len rfl (by assumption) Tryz.underlying41) rfl ?_
    refine Tr.q (QS.lss rfl rfl) rfl ?_
    refine Tr.nil ?_
    refine Tr.thenN ?_
    refine Tr.cond rfl (fun h2 => ?_) (fun h2 => ?_)
    · try simp only [bs] at h2
      refine Tr.skip ?_
      refine Tr.thenN ?_
      refine Tr.seq ?_
      refine Tr.block ?_
      refine Tr.seq ?_
      refine Tr.regionQ HLF.mixed (by kernel_rfl) ?_
      refine TrQ.q (QS.move rfl) rfl ?_
      refine TrQ.q (QS.move rfl) rfl ?_
      refine TrQ.q (QS.idxN rfl rfl (by assumption) Tryz.underlying41 Tryz.sizeOf58 (by rfl) (by omega)) rfl ?_
      refine TrQ.q (QS.elA rfl (by assumption) Tryz.isAgg58 Tryz.sizeOf58 (by rfl) (by omega)) rfl ?_
      refine TrQ.q (QS.move rfl) rfl ?_
      refine TrQ.q (QS.move rfl) rfl ?_
      refine TrQ.q (QS.idxN rfl rfl (by assumption) Tryz.underlying41 Tryz.sizeOf58 (by rfl) (by omega)) rfl ?_
      refine TrQ.q (QS.elA rfl (by assumption) Tryz.isAgg58 Tryz.sizeOf58 (by rfl) (by omega)) rfl ?_
      refine TrQ.q (QS.neqP rfl rfl Tryz.underlying58 Tryz.underlying33 Tryz.sizeOf33 Tryz.isAgg33 HLF.eqg58) rfl ?_
      refine TrQ.nil ?_
      refine Tr.thenN ?_
      refine Tr.cond rfl (fun h3 => ?_) (fun h3 => ?_)
      · try simp only [bs] at h3
        refine Tr.seq ?_
        refine Tr.region ?_
        refine Tr.q (QS.assign rfl) rfl ?_
        refine Tr.nil ?_
        refine Tr.thenN ?_
        refine Tr.ret ?_
        refine Tr.inR ?_
        refine Tr.thenR ?_
        refine Tr.thenR ?_
        refine Tr.inR ?_
        refine Tr.thenR ?_
        refine Tr.ret1 Tryz.results21 rfl (fun w' hw => ?_)
        exact ⟨by rw [decide_eq_false (fun e => by subst e; simp_all)], hw.below (Bg.le.refl _)⟩
      · try simp only [bs] at h3
        refine Tr.skip ?_
        refine Tr.inN ?_
        refine Tr.thenN ?_
        refine Tr.region ?_
        refine Tr.q (QS.move rfl) rfl ?_
        refine Tr.q (QS.addI rfl rfl (by omega)) rfl ?_
        refine Tr.q (QS.assign rfl) rfl ?_
        refine Tr.nil ?_
        refine Tr.thenN ?_
        apply Tr.again (k + 1)
        · exact rfl
        · exact (.cons (by first | rfl | exact lookI rfl (by omega) | exact lookI rfl (by simp) | exact lookB rfl (by simp)) Front.nil)
        · exact SubX.dropN 17 (by kernel_rfl) rfl
        · exact (by repeat' (first | exact Pick.nil _ | exact Del.here _ | apply Pick.cons | apply Del.there))
        · exact ⟨by omega, by rw [take_succ (by omega), take_succ (by omega), hk3]; congr 2⟩
        · exact (by (try dsimp only); omega)
    · try simp only [bs] at h2
      refine Tr.exit ?_
      refine Tr.thenE ?_
      refine Tr.thenE ?_
      refine Tr.inHit ?_
      refine Tr.thenN ?_
      refine Tr.seq ?_
      refine Tr.region ?_
      refine Tr.q (QS.assign rfl) rfl ?_
      refine Tr.nil ?_
      refine Tr.thenN ?_
      refine Tr.ret ?_
      refine Tr.ret1 Tryz.results21 rfl (fun w' hw => ?_)
      exact ⟨by rw [decide_eq_true (show a = b by rw [← List.take_of_length_le (show a.length ≤ k by omega), hk3, List.take_of_length_le (by omega)])], hw.below (Bg.le.refl _)⟩
set_option maxRecDepth 100000 in
set_option maxHeartbeats 2000000 in
theorem words_any (a b : List UInt32) (V W : Value) (w : World) (hV : Sl (hp w) encU32 a V) (hW : Sl (hp w) encU32 b W) :
    Calls Tryz.prog 30 #[V, W] w (fun e w' => e = .returned (.bool (decide (a = b))) ∧ Ext w w') := by
  have hV' : Sl (Bg.of w).blk encU32 a V := hV
  have hW' : Sl (Bg.of w).blk encU32 b W := hW
  have hl1 := hV.len_le
  have hl2 := hW.len_le
  refine enter Tryz.func30 rfl Tryz.ntmps30 rfl ?_
  refine Tr.seq ?_
  refine Tr.region ?_
  refine Tr.q (QS.assign rfl) rfl ?_
  refine Tr.nil ?_
  refine Tr.thenN ?_
  refine Tr.seq ?_
  refine Tr.seq ?_
  refine Tr.region ?_
  refine Tr.q (QS.move rfl) rfl ?_
  refine Tr.q (QS.len rfl (by assumption) Tryz.underlying23) rfl ?_
  refine Tr.q (QS.move rfl) rfl ?_
  refine Tr.q (QS.len rfl (by assumption) Tryz.underlying23) rfl ?_
  refine Tr.q (QS.neq rfl rfl) rfl ?_
  refine Tr.nil ?_
  refine Tr.thenN ?_
  refine Tr.cond rfl (fun h1 => ?_) (fun h1 => ?_)
  · try simp only [bs] at h1
    refine Tr.seq ?_
    refine Tr.region ?_
    refine Tr.q (QS.assign rfl) rfl ?_
    refine Tr.nil ?_
    refine Tr.thenN ?_
    refine Tr.ret ?_
    refine Tr.thenR ?_
    refine Tr.ret1 Tryz.results30 rfl (fun w' hw => ?_)
    exact ⟨by rw [decide_eq_false (fun e => by subst e; omega)], hw.below (Bg.le.refl _)⟩
  · try simp only [bs] at h1
    refine Tr.skip ?_
    refine Tr.thenN ?_
    refine Tr.seq ?_
    refine Tr.seq ?_
    refine Tr.region ?_
    refine Tr.q (QS.assign rfl) rfl ?_
    refine Tr.nil ?_
    refine Tr.thenN ?_
    refine Tr.block ?_
    refine Tr.loop (ι := Nat) (fun k => k ≤ a.length ∧ a.take k = b.take k) (fun _ => _) (fun k => []) (fun k => [(5, .int .i64 (k : Nat))]) (fun k => a.length - k) 0 ⟨by omega, rfl⟩ (.cons (by first | rfl | exact lookI rfl (by omega) | exact lookI rfl (by simp) | exact lookB rfl (by simp)) Front.nil) (by repeat' (first | exact Pick.nil _ | exact Del.here _ | apply Pick.cons | apply Del.there)) rfl (fun k hi m hm => ?_)
    replace hi : k ≤ a.length ∧ a.take k = b.take k := hi
    replace hm : m = a.length - k := hm
    change Tr _ _ [] ([(5, .int .i64 (k : Nat))] ++ _) _
    obtain ⟨hk1, hk3⟩ := hi
    refine Tr.seq ?_
    refine Tr.seq ?_
    refine Tr.region ?_
    refine Tr.q (QS.move rfl) rfl ?_
    refine Tr.q (QS.move rfl) rfl ?_
    refine Tr.q (QS.len rfl (by assumption) Tryz.underlying23) rfl ?_
    refine Tr.q (QS.lss rfl rfl) rfl ?_
    refine Tr.nil ?_
    refine Tr.thenN ?_
    refine Tr.cond rfl (fun h2 => ?_) (fun h2 => ?_)
    · try simp only [bs] at h2
      refine Tr.skip ?_
      refine Tr.thenN ?_
      refine Tr.seq ?_
      refine Tr.block ?_
      refine Tr.seq ?_
      refine Tr.regionQ HLF.mixed (by kernel_rfl) ?_
      refine TrQ.q (QS.move rfl) rfl ?_
      refine TrQ.q (QS.move rfl) rfl ?_
      refine TrQ.q (QS.idxN rfl rfl (by assumption) Tryz.underlying23 Tryz.sizeOf33 (by rfl) (by omega)) rfl ?_
      refine TrQ.q (QS.el1 rfl (by assumption) Tryz.isAgg33 (by omega) (by rfl)) rfl ?_
      refine TrQ.q (QS.move rfl) rfl ?_
      refine TrQ.q (QS.move rfl) rfl ?_
      refine TrQ.q (QS.idxN rfl rfl (by assumption) Tryz.underlying23 Tryz.sizeOf33 (by rfl) (by omega)) rfl ?_
      refine TrQ.q (QS.el1 rfl (by assumption) Tryz.isAgg33 (by omega) (by rfl)) rfl ?_
      refine TrQ.q (QS.neq32 rfl rfl) rfl ?_
      refine TrQ.nil ?_
      refine Tr.thenN ?_
      refine Tr.cond rfl (fun h3 => ?_) (fun h3 => ?_)
      · try simp only [bs] at h3
        refine Tr.seq ?_
        refine Tr.region ?_
        refine Tr.q (QS.assign rfl) rfl ?_
        refine Tr.nil ?_
        refine Tr.thenN ?_
        refine Tr.ret ?_
        refine Tr.inR ?_
        refine Tr.thenR ?_
        refine Tr.thenR ?_
        refine Tr.inR ?_
        refine Tr.thenR ?_
        refine Tr.ret1 Tryz.results30 rfl (fun w' hw => ?_)
        exact ⟨by rw [decide_eq_false (fun e => by subst e; simp_all)], hw.below (Bg.le.refl _)⟩
      · try simp only [bs] at h3
        refine Tr.skip ?_
        refine Tr.inN ?_
        refine Tr.thenN ?_
        refine Tr.region ?_
        refine Tr.q (QS.move rfl) rfl ?_
        refine Tr.q (QS.addI rfl rfl (by omega)) rfl ?_
        refine Tr.q (QS.assign rfl) rfl ?_
        refine Tr.nil ?_
        refine Tr.thenN ?_
        apply Tr.again (k + 1)
        · exact rfl
        · exact (.cons (by first | rfl | exact lookI rfl (by omega) | exact lookI rfl (by simp) | exact lookB rfl (by simp)) Front.nil)
        · exact SubX.dropN 17 (by kernel_rfl) rfl
        · exact (by repeat' (first | exact Pick.nil _ | exact Del.here _ | apply Pick.cons | apply Del.there))
        · exact ⟨by omega, by rw [take_succ (by omega), take_succ (by omega), hk3]; congr 2⟩
        · exact (by (try dsimp only); omega)
    · try simp only [bs] at h2
      refine Tr.exit ?_
      refine Tr.thenE ?_
      refine Tr.thenE ?_
      refine Tr.inHit ?_
      refine Tr.thenN ?_
      refine Tr.seq ?_
      refine Tr.region ?_
      refine Tr.q (QS.assign rfl) rfl ?_
      refine Tr.nil ?_
      refine Tr.thenN ?_
      refine Tr.ret ?_
      refine Tr.ret1 Tryz.results30 rfl (fun w' hw => ?_)
      exact ⟨by rw [decide_eq_true (show a = b by rw [← List.take_of_length_le (show a.length ≤ k by omega), hk3, List.take_of_length_le (by omega)])], hw.below (Bg.le.refl _)⟩
set_option maxRecDepth 100000 in
set_option maxHeartbeats 2000000 in
theorem sameRanges_any (a b : List Rng) (V W : Value) (w : World) (hV : Sl (hp w) encRng a V) (hW : Sl (hp w) encRng b W) :
    Calls Tryz.prog 23 #[V, W] w (fun e w' => e = .returned (.bool (decide (a = b))) ∧ Ext w w') := by
  have hV' : Sl (Bg.of w).blk encRng a V := hV
  have hW' : Sl (Bg.of w).blk encRng b W := hW
  have hl1 := hV.len_le
  have hl2 := hW.len_le
  refine enter Tryz.func23 rfl Tryz.ntmps23 rfl ?_
  refine Tr.seq ?_
  refine Tr.region ?_
  refine Tr.q (QS.assign rfl) rfl ?_
  refine Tr.nil ?_
  refine Tr.thenN ?_
  refine Tr.seq ?_
  refine Tr.seq ?_
  refine Tr.region ?_
  refine Tr.q (QS.move rfl) rfl ?_
  refine Tr.q (QS.len rfl (by assumption) Tryz.underlying45) rfl ?_
  refine Tr.q (QS.move rfl) rfl ?_
  refine Tr.q (QS.len rfl (by assumption) Tryz.underlying45) rfl ?_
  refine Tr.q (QS.neq rfl rfl) rfl ?_
  refine Tr.nil ?_
  refine Tr.thenN ?_
  refine Tr.cond rfl (fun h1 => ?_) (fun h1 => ?_)
  · try simp only [bs] at h1
    refine Tr.seq ?_
    refine Tr.region ?_
    refine Tr.q (QS.assign rfl) rfl ?_
    refine Tr.nil ?_
    refine Tr.thenN ?_
    refine Tr.ret ?_
    refine Tr.thenR ?_
    refine Tr.ret1 Tryz.results23 rfl (fun w' hw => ?_)
    exact ⟨by rw [decide_eq_false (fun e => by subst e; omega)], hw.below (Bg.le.refl _)⟩
  · try simp only [bs] at h1
    refine Tr.skip ?_
    refine Tr.thenN ?_
    refine Tr.seq ?_
    refine Tr.seq ?_
    refine Tr.region ?_
    refine Tr.q (QS.assign rfl) rfl ?_
    refine Tr.nil ?_
    refine Tr.thenN ?_
    refine Tr.block ?_
    refine Tr.loop (ι := Nat) (fun k => k ≤ a.length ∧ a.take k = b.take k) (fun _ => _) (fun k => []) (fun k => [(5, .int .i64 (k : Nat))]) (fun k => a.length - k) 0 ⟨by omega, rfl⟩ (.cons (by first | rfl | exact lookI rfl (by omega) | exact lookI rfl (by simp) | exact lookB rfl (by simp)) Front.nil) (by repeat' (first | exact Pick.nil _ | exact Del.here _ | apply Pick.cons | apply Del.there)) rfl (fun k hi m hm => ?_)
    replace hi : k ≤ a.length ∧ a.take k = b.take k := hi
    replace hm : m = a.length - k := hm
    change Tr _ _ [] ([(5, .int .i64 (k : Nat))] ++ _) _
    obtain ⟨hk1, hk3⟩ := hi
    refine Tr.seq ?_
    refine Tr.seq ?_
    refine Tr.region ?_
    refine Tr.q (QS.move rfl) rfl ?_
    refine Tr.q (QS.move rfl) rfl ?_
    refine Tr.q (QS.len rfl (by assumption) Tryz.underlying45) rfl ?_
    refine Tr.q (QS.lss rfl rfl) rfl ?_
    refine Tr.nil ?_
    refine Tr.thenN ?_
    refine Tr.cond rfl (fun h2 => ?_) (fun h2 => ?_)
    · try simp only [bs] at h2
      refine Tr.skip ?_
      refine Tr.thenN ?_
      refine Tr.seq ?_
      refine Tr.block ?_
      refine Tr.seq ?_
      refine Tr.regionQ HLF.mixed (by kernel_rfl) ?_
      refine TrQ.q (QS.move rfl) rfl ?_
      refine TrQ.q (QS.move rfl) rfl ?_
      refine TrQ.q (QS.idxN rfl rfl (by assumption) Tryz.underlying45 Tryz.sizeOf60 (by rfl) (by omega)) rfl ?_
      refine TrQ.q (QS.elA rfl (by assumption) Tryz.isAgg60 Tryz.sizeOf60 (by rfl) (by omega)) rfl ?_
      refine TrQ.q (QS.move rfl) rfl ?_
      refine TrQ.q (QS.move rfl) rfl ?_
      refine TrQ.q (QS.idxN rfl rfl (by assumption) Tryz.underlying45 Tryz.sizeOf60 (by rfl) (by omega)) rfl ?_
      refine TrQ.q (QS.elA rfl (by assumption) Tryz.isAgg60 Tryz.sizeOf60 (by rfl) (by omega)) rfl ?_
      refine TrQ.q (QS.neqE rfl rfl rngEqEnc Tryz.underlying60 (HLF.words60 _ Tryz.underlying60) rfl HLF.held60 HLF.eqg60) rfl ?_
      refine TrQ.nil ?_
      refine Tr.thenN ?_
      refine Tr.cond rfl (fun h3 => ?_) (fun h3 => ?_)
      · try simp only [bs] at h3
        refine Tr.seq ?_
        refine Tr.region ?_
        refine Tr.q (QS.assign rfl) rfl ?_
        refine Tr.nil ?_
        refine Tr.thenN ?_
        refine Tr.ret ?_
        refine Tr.inR ?_
        refine Tr.thenR ?_
        refine Tr.thenR ?_
        refine Tr.inR ?_
        refine Tr.thenR ?_
        refine Tr.ret1 Tryz.results23 rfl (fun w' hw => ?_)
        exact ⟨by rw [decide_eq_false (fun e => by subst e; simp_all)], hw.below (Bg.le.refl _)⟩
      · try simp only [bs] at h3
        refine Tr.skip ?_
        refine Tr.inN ?_
        refine Tr.thenN ?_
        refine Tr.region ?_
        refine Tr.q (QS.move rfl) rfl ?_
        refine Tr.q (QS.addI rfl rfl (by omega)) rfl ?_
        refine Tr.q (QS.assign rfl) rfl ?_
        refine Tr.nil ?_
        refine Tr.thenN ?_
        apply Tr.again (k + 1)
        · exact rfl
        · exact (.cons (by first | rfl | exact lookI rfl (by omega) | exact lookI rfl (by simp) | exact lookB rfl (by simp)) Front.nil)
        · exact SubX.dropN 17 (by kernel_rfl) rfl
        · exact (by repeat' (first | exact Pick.nil _ | exact Del.here _ | apply Pick.cons | apply Del.there))
        · exact ⟨by omega, by rw [take_succ (by omega), take_succ (by omega), hk3]; congr 2⟩
        · exact (by (try dsimp only); omega)
    · try simp only [bs] at h2
      refine Tr.exit ?_
      refine Tr.thenE ?_
      refine Tr.thenE ?_
      refine Tr.inHit ?_
      refine Tr.thenN ?_
      refine Tr.seq ?_
      refine Tr.region ?_
      refine Tr.q (QS.assign rfl) rfl ?_
      refine Tr.nil ?_
      refine Tr.thenN ?_
      refine Tr.ret ?_
      refine Tr.ret1 Tryz.results23 rfl (fun w' hw => ?_)
      exact ⟨by rw [decide_eq_true (show a = b by rw [← List.take_of_length_le (show a.length ≤ k by omega), hk3, List.take_of_length_le (by omega)])], hw.below (Bg.le.refl _)⟩
set_option maxRecDepth 100000 in
set_option maxHeartbeats 2000000 in
theorem ranges_any (l : List Rng) (V : Value) (w : World) (hV : Sl (hp w) encRng l V) (hn : l.length ≤ 1000000) :
    Calls Tryz.prog 24 #[V] w (fun e w' => ∃ V', e = .returned V' ∧ Ext w w' ∧ NewRow w w' 60 encRng (l) V') := by
  have hV' : Sl (Bg.of w).blk encRng l V := hV
  refine enter Tryz.func24 rfl Tryz.ntmps24 rfl ?_
  refine Tr.seq ?_
  refine Tr.region ?_
  refine Tr.q (QS.assign rfl) rfl ?_
  refine Tr.nil ?_
  refine Tr.thenN ?_
  refine Tr.seq ?_
  refine Tr.region ?_
  refine Tr.q (QS.assign rfl) rfl ?_
  refine Tr.nil ?_
  refine Tr.thenN ?_
  refine Tr.seq ?_
  refine Tr.seq ?_
  refine Tr.region ?_
  refine Tr.q (QS.assign rfl) rfl ?_
  refine Tr.nil ?_
  refine Tr.thenN ?_
  refine Tr.block ?_
  refine Tr.ownNil 60 encRng ?_
  refine Tr.loop (ι := Nat × Value) (fun ⟨k, V'⟩ => k ≤ l.length) (fun _ => _) (fun ⟨k, V'⟩ => [rowE V' 60 encRng (l.take k)]) (fun ⟨k, V'⟩ => [(4, .int .i64 (k : Nat)), (3, V')]) (fun ⟨k, V'⟩ => l.length - k) (0, _) (Nat.zero_le _) (.cons (by first | rfl | exact lookI rfl (by omega) | exact lookI rfl (by simp) | exact lookB rfl (by simp)) (.cons (by first | rfl | exact lookI rfl (by omega) | exact lookI rfl (by simp) | exact lookB rfl (by simp)) Front.nil)) (by repeat' (first | exact Pick.nil _ | exact Del.here _ | apply Pick.cons | apply Del.there)) rfl (fun i hi m hm => ?_)
  obtain ⟨k, V'⟩ := i
  replace hi : k ≤ l.length := hi
  replace hm : m = l.length - k := hm
  change Tr _ _ [rowE V' 60 encRng (l.take k)] ([(4, .int .i64 (k : Nat)), (3, V')] ++ _) _
  refine Tr.seq ?_
  refine Tr.seq ?_
  refine Tr.region ?_
  refine Tr.q (QS.move rfl) rfl ?_
  refine Tr.q (QS.move rfl) rfl ?_
  refine Tr.q (QS.len rfl (by assumption) Tryz.underlying47) rfl ?_
  refine Tr.q (QS.lss rfl rfl) rfl ?_
  refine Tr.nil ?_
  refine Tr.thenN ?_
  refine Tr.cond rfl (fun h1 => ?_) (fun h1 => ?_)
  · try simp only [bs] at h1
    refine Tr.skip ?_
    refine Tr.thenN ?_
    refine Tr.seq ?_
    refine Tr.block ?_
    refine Tr.regionT 1 12 HLF.mixed (by kernel_rfl) (panicIn (panicThen (panicThen (panicIn (panicThen panicBody))))) ?_
    refine TrQ.pureMove rfl rfl ?_
    refine TrQ.pureNil ?_
    refine TrQ.q (QS.move rfl) rfl ?_
    refine TrQ.q (QS.move rfl) rfl ?_
    refine TrQ.q (QS.idxN rfl rfl (by assumption) Tryz.underlying47 Tryz.sizeOf80 (by rfl) (by omega)) rfl ?_
    refine TrQ.q (QS.fieldAddr (off := 0) (ft := 33) rfl Tryz.underlying80 rfl rfl Tryz.sizeOf33 (by decide)) rfl ?_
    refine TrQ.q (QS.elF rfl (by assumption) Tryz.isAgg33 (by omega) (by rfl)) rfl ?_
    refine TrQ.q (QS.move rfl) rfl ?_
    refine TrQ.q (QS.move rfl) rfl ?_
    refine TrQ.q (QS.idxN rfl rfl (by assumption) Tryz.underlying47 Tryz.sizeOf80 (by rfl) (by omega)) rfl ?_
    refine TrQ.q (QS.fieldAddr (off := 1) (ft := 33) rfl Tryz.underlying80 rfl rfl Tryz.sizeOf33 (by decide)) rfl ?_
    refine TrQ.q (QS.elF rfl (by assumption) Tryz.isAgg33 (by omega) (by rfl)) rfl ?_
    refine TrQ.q (QS.build (vs := [(0, _), (1, _)]) rfl rfl (HLF.built60_0_1 _ _)) rfl ?_
    refine TrQ.nil ?_
    refine Tr.lit1 (E := encRng) (⟨(l.getD k default).lo, (l.getD k default).hi⟩ : Rng) rfl rfl Tryz.underlying45 Tryz.sizeOf60 Tryz.zeroValue60 (by rfl) (by rfl) rfl (fun V2 => ?_)
    refine Tr.append1 rfl rfl (by repeat (first | exact Del.here _ | apply Del.there)) (by repeat (first | exact Del.here _ | apply Del.there)) Tryz.underlying45 HLF.info60 (by rfl) (by rfl) (by (try simp only [List.length_cons, List.length_nil, List.length_append, List.length_take]); omega) (by unfold maxLen; (try simp only [List.length_cons, List.length_nil, List.length_append, List.length_take]); omega) rfl (fun V3 => ?_)
    refine Tr.q (QS.assign rfl) rfl ?_
    refine Tr.nil ?_
    refine Tr.inN ?_
    refine Tr.thenN ?_
    refine Tr.region ?_
    refine Tr.q (QS.move rfl) rfl ?_
    refine Tr.q (QS.addI rfl rfl (by omega)) rfl ?_
    refine Tr.q (QS.assign rfl) rfl ?_
    refine Tr.nil ?_
    refine Tr.thenN ?_
    rw [show ([⟨(l.getD k default).lo, (l.getD k default).hi⟩] : List Rng) = [l.getD k default] from rfl, ← take_succ (by omega)]
    apply Tr.again (k + 1, _)
    · exact rfl
    · exact (.cons (by first | rfl | exact lookI rfl (by omega) | exact lookI rfl (by simp) | exact lookB rfl (by simp)) (.cons (by first | rfl | exact lookI rfl (by omega) | exact lookI rfl (by simp) | exact lookB rfl (by simp)) Front.nil))
    · exact SubX.dropN 24 (by kernel_rfl) rfl
    · exact (by repeat' (first | exact Pick.nil _ | exact Del.here _ | apply Pick.cons | apply Del.there))
    · exact (by show k + 1 ≤ _; omega)
    · exact (by (try dsimp only); omega)
  · try simp only [bs] at h1
    refine Tr.exit ?_
    refine Tr.thenE ?_
    refine Tr.thenE ?_
    refine Tr.inHit ?_
    refine Tr.thenN ?_
    refine Tr.seq ?_
    refine Tr.region ?_
    refine Tr.q (QS.move rfl) rfl ?_
    refine Tr.q (QS.assign rfl) rfl ?_
    refine Tr.nil ?_
    refine Tr.thenN ?_
    refine Tr.ret ?_
    refine Tr.ret1 Tryz.results24 rfl (fun w' hw => ?_)
    obtain rfl : k = l.length := by omega
    rw [List.take_length] at *
    exact ⟨_, rfl, hw.below (Bg.le.refl _), hw.new (.head _)⟩
set_option maxRecDepth 100000 in
set_option maxHeartbeats 2000000 in
theorem three_any (w : World) :
    Calls Tryz.prog 33 #[] w (fun e w' => ∃ V', e = .returned V' ∧ Ext w w' ∧ NewRow w w' 35 encIns (threeL) V') := by
  refine enter Tryz.func33 rfl Tryz.ntmps33 rfl ?_
  refine Tr.seq ?_
  refine Tr.region ?_
  refine Tr.q (QS.assign rfl) rfl ?_
  refine Tr.nil ?_
  refine Tr.thenN ?_
  refine Tr.seq ?_
  refine Tr.region ?_
  refine Tr.q (QS.build (vs := [(0, _), (2, _), (3, _), (1, _)]) rfl rfl (HLF.built35_0_2_3_1 _ _ _ _)) rfl ?_
  refine Tr.q (QS.build (vs := [(0, _), (2, _)]) rfl rfl (HLF.built35_0_2 _ _)) rfl ?_
  refine Tr.q (QS.build (vs := [(0, _), (2, _)]) rfl rfl (HLF.built35_0_2 _ _)) rfl ?_
  refine Tr.litN (E := encIns) threeL (vs := [(0, _), (1, _), (2, _)]) rfl rfl Tryz.underlying22 Tryz.sizeOf35 Tryz.zeroValue35 (by rfl) (by rfl) rfl (by first | kernel_rfl | rfl) rfl (fun V1 => ?_)
  refine Tr.q (QS.assign rfl) rfl ?_
  refine Tr.nil ?_
  refine Tr.thenN ?_
  refine Tr.ret ?_
  refine Tr.ret1 Tryz.results33 rfl (fun w' hw => ?_)
  exact ⟨_, rfl, hw.below (Bg.le.refl _), hw.new (.head _)⟩
set_option maxRecDepth 100000 in
set_option maxHeartbeats 2000000 in
theorem covers_any (i : Ins) (a : UInt32) (w : World) (hI : InsOK i) :
    Calls Tryz.prog 31 #[.agg (encIns.enc i).toArray, .int .u32 a.toNat] w (fun e w' => e = .returned (.bool (coversP i a)) ∧ Ext w w') := by
  have hl := len_rng i
  have ha := i.addr.toNat_lt
  have hb := a.toNat_lt
  refine enter Tryz.func31 rfl Tryz.ntmps31 rfl ?_
  refine Tr.seq ?_
  refine Tr.region ?_
  refine Tr.box rfl rfl rfl (fun b1 => ?_)
  refine Tr.q (QS.assign rfl) rfl ?_
  refine Tr.nil ?_
  refine Tr.thenN ?_
  refine Tr.seq ?_
  refine Tr.regionQ HLF.mixed (by kernel_rfl) ?_
  refine TrQ.q (QS.move rfl) rfl ?_
  refine TrQ.q (QS.fieldAddr (off := 0) (ft := 33) rfl Tryz.underlying35 rfl rfl Tryz.sizeOf33 (by decide)) rfl ?_
  refine TrQ.q (QS.lV rfl Tryz.isAgg33) rfl ?_
  refine TrQ.q (QS.geq32 rfl rfl) rfl ?_
  refine TrQ.q (QS.move rfl) rfl ?_
  apply TrQ.andP
  · exact (rfl : _ = (11, 9, 20))
  · exact rfl
  · intro hT2; have hT2' := hT2
    try simp only [bs] at hT2'
    refine TrQ.gq rfl rfl hT2 (QS.move rfl) rfl ?_
    refine TrQ.gq rfl rfl hT2 (QS.cvt32toU rfl Tryz.underlying33 Tryz.underlying81) rfl ?_
    refine TrQ.gq rfl rfl hT2 (QS.fieldAddr (off := 0) (ft := 33) rfl Tryz.underlying35 rfl rfl Tryz.sizeOf33 (by decide)) rfl ?_
    refine TrQ.gq rfl rfl hT2 (QS.lV rfl Tryz.isAgg33) rfl ?_
    refine TrQ.gq rfl rfl hT2 (QS.cvt32toU rfl Tryz.underlying33 Tryz.underlying81) rfl ?_
    refine TrQ.gq rfl rfl hT2 (QS.lW rfl Tryz.isAgg35 Tryz.sizeOf35) rfl ?_
    refine TrQ.gq rfl rfl hT2 (QS.call rfl Tryz.call51 (fun w hw => length_isa i w hI)) rfl ?_
    refine TrQ.gq rfl rfl hT2 (QS.cvtIn rfl Tryz.underlying3 Tryz.underlying81 (IntWalk.u64_in _ (by omega))) rfl ?_
    refine TrQ.gq rfl rfl hT2 (QS.addU rfl rfl (by omega)) rfl ?_
    refine TrQ.gq rfl rfl hT2 (QS.lss rfl rfl) rfl ?_
    refine TrQ.q (QS.pickT rfl hT2 rfl) rfl ?_
    exact TrQ.end (Sub.cons rfl (Sub.dropN 11 (by kernel_rfl) rfl))
  · intro hF2
    refine TrQ.gskip rfl rfl hF2 rfl ?_
    refine TrQ.gskip rfl rfl hF2 rfl ?_
    refine TrQ.gskip rfl rfl hF2 rfl ?_
    refine TrQ.gskip rfl rfl hF2 rfl ?_
    refine TrQ.gskip rfl rfl hF2 rfl ?_
    refine TrQ.gskip rfl rfl hF2 rfl ?_
    refine TrQ.gskip rfl rfl hF2 rfl ?_
    refine TrQ.gskip rfl rfl hF2 rfl ?_
    refine TrQ.gskip rfl rfl hF2 rfl ?_
    refine TrQ.gskip rfl rfl hF2 rfl ?_
    refine TrQ.q (QS.pickF rfl hF2 rfl) rfl ?_
    exact TrQ.end (Sub.cons rfl (Sub.dropN 11 (by kernel_rfl) rfl))
  refine TrQ.q (QS.assign rfl) rfl ?_
  refine TrQ.nil ?_
  refine Tr.thenN ?_
  refine Tr.ret ?_
  refine Tr.ret1 Tryz.results31 rfl (fun w' hw => ?_)
  exact ⟨rfl, hw.below (Bg.le.refl _)⟩
set_option maxRecDepth 100000 in
set_option maxHeartbeats 2000000 in
theorem clash_any (a b : Ins) (w : World) (hI : InsOK a) (hJ : InsOK b) :
    Calls Tryz.prog 19 #[.agg (encIns.enc a).toArray, .agg (encIns.enc b).toArray] w (fun e w' => e = .returned (.bool (clashP a b)) ∧ Ext w w') := by
  refine enter Tryz.func19 rfl Tryz.ntmps19 rfl ?_
  refine Tr.seq ?_
  refine Tr.region ?_
  refine Tr.box rfl rfl rfl (fun b1 => ?_)
  refine Tr.box rfl rfl rfl (fun b2 => ?_)
  refine Tr.q (QS.assign rfl) rfl ?_
  refine Tr.nil ?_
  refine Tr.thenN ?_
  refine Tr.seq ?_
  refine Tr.region ?_
  refine Tr.q (QS.fieldAddr (off := 0) (ft := 33) rfl Tryz.underlying35 rfl rfl Tryz.sizeOf33 (by decide)) rfl ?_
  refine Tr.q (QS.lV rfl Tryz.isAgg33) rfl ?_
  refine Tr.q (QS.fieldAddr (off := 0) (ft := 33) rfl Tryz.underlying35 rfl rfl Tryz.sizeOf33 (by decide)) rfl ?_
  refine Tr.q (QS.lV rfl Tryz.isAgg33) rfl ?_
  refine Tr.q (QS.neq32 rfl rfl) rfl ?_
  refine Tr.q (QS.move rfl) rfl ?_
  apply Tr.andP
  · exact (rfl : _ = (21, 10, 31))
  · exact rfl
  · intro hT3; have hT3' := hT3
    try simp only [bs] at hT3'
    refine Tr.gq rfl rfl hT3 (QS.lW rfl Tryz.isAgg35 Tryz.sizeOf35) rfl ?_
    refine Tr.gq rfl rfl hT3 (QS.fieldAddr (off := 0) (ft := 33) rfl Tryz.underlying35 rfl rfl Tryz.sizeOf33 (by decide)) rfl ?_
    refine Tr.gq rfl rfl hT3 (QS.lV rfl Tryz.isAgg33) rfl ?_
    refine Tr.gq rfl rfl hT3 (QS.call rfl Tryz.call31 (fun w hw => covers_any a b.addr w hI)) rfl ?_
    refine Tr.gq rfl rfl hT3 (QS.move rfl) rfl ?_
    apply Tr.andP
    · exact (rfl : _ = (4, 15, 19))
    · exact rfl
    · intro hT4; have hT4' := hT4
      try simp only [bs] at hT4'
      refine Tr.gq rfl rfl hT4 (QS.lW rfl Tryz.isAgg35 Tryz.sizeOf35) rfl ?_
      refine Tr.gq rfl rfl hT4 (QS.call rfl Tryz.call51 (fun w hw => length_isa b w hJ)) rfl ?_
      refine Tr.gq rfl rfl hT4 (QS.gtr rfl rfl) rfl ?_
      refine Tr.gq rfl rfl hT3 (QS.pickT rfl hT4 rfl) rfl ?_
      refine Tr.nil (Tr.thenN ?_)
      exact Tr.endX (Sub.cons rfl (Sub.dropN 4 (by kernel_rfl) rfl))
    · intro hF4
      refine Tr.gskip rfl rfl hF4 rfl ?_
      refine Tr.gskip rfl rfl hF4 rfl ?_
      refine Tr.gskip rfl rfl hF4 rfl ?_
      refine Tr.gq rfl rfl hT3 (QS.pickF rfl hF4 rfl) rfl ?_
      refine Tr.nil (Tr.thenN ?_)
      exact Tr.endX (Sub.cons rfl (Sub.dropN 4 (by kernel_rfl) rfl))
    refine Tr.gq rfl rfl hT3 (QS.move rfl) rfl ?_
    apply Tr.orP
    · exact (rfl : _ = (10, 20, 30))
    · exact rfl
    · intro hF5; have hF5' := hF5
      try simp only [bs] at hF5'
      refine Tr.gq rfl rfl hF5 (QS.lW rfl Tryz.isAgg35 Tryz.sizeOf35) rfl ?_
      refine Tr.gq rfl rfl hF5 (QS.fieldAddr (off := 0) (ft := 33) rfl Tryz.underlying35 rfl rfl Tryz.sizeOf33 (by decide)) rfl ?_
      refine Tr.gq rfl rfl hF5 (QS.lV rfl Tryz.isAgg33) rfl ?_
      refine Tr.gq rfl rfl hF5 (QS.call rfl Tryz.call31 (fun w hw => covers_any b a.addr w hJ)) rfl ?_
      refine Tr.gq rfl rfl hF5 (QS.move rfl) rfl ?_
      apply Tr.andP
      · exact (rfl : _ = (4, 25, 29))
      · exact rfl
      · intro hT6; have hT6' := hT6
        try simp only [bs] at hT6'
        refine Tr.gq rfl rfl hT6 (QS.lW rfl Tryz.isAgg35 Tryz.sizeOf35) rfl ?_
        refine Tr.gq rfl rfl hT6 (QS.call rfl Tryz.call51 (fun w hw => length_isa a w hI)) rfl ?_
        refine Tr.gq rfl rfl hT6 (QS.gtr rfl rfl) rfl ?_
        refine Tr.gq rfl rfl hF5 (QS.pickT rfl hT6 rfl) rfl ?_
        refine Tr.nil (Tr.thenN ?_)
        exact Tr.endX (Sub.cons rfl (Sub.dropN 4 (by kernel_rfl) rfl))
      · intro hF6
        refine Tr.gskip rfl rfl hF6 rfl ?_
        refine Tr.gskip rfl rfl hF6 rfl ?_
        refine Tr.gskip rfl rfl hF6 rfl ?_
        refine Tr.gq rfl rfl hF5 (QS.pickF rfl hF6 rfl) rfl ?_
        refine Tr.nil (Tr.thenN ?_)
        exact Tr.endX (Sub.cons rfl (Sub.dropN 4 (by kernel_rfl) rfl))
      refine Tr.gq rfl rfl hT3 (QS.pickF rfl hF5 rfl) rfl ?_
      refine Tr.nil (Tr.thenN ?_)
      exact Tr.endX (Sub.cons rfl (Sub.dropN 7 (by kernel_rfl) rfl))
    · intro hT5
      refine Tr.gskip rfl rfl hT5 rfl ?_
      refine Tr.gskip rfl rfl hT5 rfl ?_
      refine Tr.gskip rfl rfl hT5 rfl ?_
      refine Tr.gskip rfl rfl hT5 rfl ?_
      refine Tr.gskip rfl rfl hT5 rfl ?_
      refine Tr.gskipU rfl rfl rfl ?_
      refine Tr.gskipU rfl rfl rfl ?_
      refine Tr.gskipU rfl rfl rfl ?_
      refine Tr.gskip rfl rfl hT5 rfl ?_
      refine Tr.gq rfl rfl hT3 (QS.pickT rfl hT5 rfl) rfl ?_
      refine Tr.nil (Tr.thenN ?_)
      exact Tr.endX (Sub.cons rfl (Sub.dropN 10 (by kernel_rfl) rfl))
    refine Tr.q (QS.pickT rfl hT3 rfl) rfl ?_
    refine Tr.nil (Tr.thenN ?_)
    exact Tr.endX (Sub.cons rfl (Sub.dropN 9 (by kernel_rfl) rfl))
  · intro hF3
    refine Tr.gskip rfl rfl hF3 rfl ?_
    refine Tr.gskip rfl rfl hF3 rfl ?_
    refine Tr.gskip rfl rfl hF3 rfl ?_
    refine Tr.gskip rfl rfl hF3 rfl ?_
    refine Tr.gskip rfl rfl hF3 rfl ?_
    refine Tr.gskipU rfl rfl rfl ?_
    refine Tr.gskipU rfl rfl rfl ?_
    refine Tr.gskipU rfl rfl rfl ?_
    refine Tr.gskip rfl rfl hF3 rfl ?_
    refine Tr.gskip rfl rfl hF3 rfl ?_
    refine Tr.gskipU rfl rfl rfl ?_
    refine Tr.gskipU rfl rfl rfl ?_
    refine Tr.gskipU rfl rfl rfl ?_
    refine Tr.gskipU rfl rfl rfl ?_
    refine Tr.gskipU rfl rfl rfl ?_
    refine Tr.gskipU rfl rfl rfl ?_
    refine Tr.gskipU rfl rfl rfl ?_
    refine Tr.gskipU rfl rfl rfl ?_
    refine Tr.gskipU rfl rfl rfl ?_
    refine Tr.gskip rfl rfl hF3 rfl ?_
    refine Tr.q (QS.pickF rfl hF3 rfl) rfl ?_
    refine Tr.nil (Tr.thenN ?_)
    exact Tr.endX (Sub.cons rfl (Sub.dropN 21 (by kernel_rfl) rfl))
  refine Tr.q (QS.assign rfl) rfl ?_
  refine Tr.nil ?_
  refine Tr.thenN ?_
  refine Tr.ret ?_
  refine Tr.ret1 Tryz.results19 rfl (fun w' hw => ?_)
  exact ⟨rfl, hw.below (Bg.le.refl _)⟩
set_option maxRecDepth 100000 in
set_option maxHeartbeats 8000000 in
theorem example13_any (w : World) :
    Calls Tryz.prog 11 #[] w (fun e w' => e = .returned (.bool true) ∧ Ext w w') := by
  have h3l : threeL.length = 3 := rfl
  have hk1l : k1L.length = 2 := rfl
  have hk2l : k2L.length = 2 := rfl
  have hk3l : k3L.length = 2 := rfl
  refine enter Tryz.func11 rfl Tryz.ntmps11 rfl ?_
  refine Tr.seq ?_
  refine Tr.region ?_
  refine Tr.q (QS.assign rfl) rfl ?_
  refine Tr.nil ?_
  refine Tr.thenN ?_
  refine Tr.seq ?_
  refine Tr.region ?_
  refine Tr.callRow rfl Tryz.call33 (fun w hw => three_any w) rfl (fun V1 => ?_)
  refine Tr.rowShape (.head _) (fun pa pc hpv => ?_)
  subst hpv
  refine Tr.q (QS.assign rfl) rfl ?_
  refine Tr.nil ?_
  refine Tr.thenN ?_
  refine Tr.seq ?_
  refine Tr.region ?_
  refine Tr.q (QS.move rfl) rfl ?_
  refine Tr.callRow rfl Tryz.call20 (fun w hw => (by rw [← ex_conf]; exact conflicts_any threeL _ w (hw.row (by repeat (first | exact List.Mem.head _ | apply List.Mem.tail))) threeL_ok (by decide) : Calls Tryz.prog 20 #[_] w (fun e w' => ∃ V', e = .returned V' ∧ Ext w w' ∧ NewRow w w' 58 encRng ([⟨4096, 4097⟩]) V'))) rfl (fun V2 => ?_)
  refine Tr.q (QS.assign rfl) rfl ?_
  refine Tr.nil ?_
  refine Tr.thenN ?_
  refine Tr.seq ?_
  refine Tr.region ?_
  refine Tr.q (QS.move rfl) rfl ?_
  refine Tr.q (QS.build (vs := [(0, _)]) rfl rfl rfl) rfl ?_
  refine Tr.callEnts (fun i : Value × Value × Value × Value × Value => .tuple #[.agg #[i.1, i.2.1, i.2.2.1, i.2.2.2.1], i.2.2.2.2]) (fun i => [rowE i.1 35 encIns (resP threeL [] [] []).kept, rowE i.2.1 33 encU32 (resP threeL [] [] []).ents, rowE i.2.2.1 33 encU32 (resP threeL [] [] []).unk, rowE i.2.2.2.1 33 encU32 (resP threeL [] [] []).bad, rowE i.2.2.2.2 33 encU32 (resP threeL [] [] []).rem]) (ok := fun _ => True) rfl Tryz.call12 (fun w hw => (resolve_any threeL [] [] [] _ _ _ _ w (hw.row (by repeat (first | exact List.Mem.head _ | apply List.Mem.tail))) (Sl.nil _ _) (Sl.nil _ _) (Sl.nil _ _) threeL_ok (by decide) (by decide) (by decide) (by decide)).mono fun e w' ⟨i, q1, q2, q3⟩ => ⟨i, q1, q2, q3, trivial⟩) rfl (fun i1 _ => ?_)
  obtain ⟨Vk1, Ve1, Vu1, Vb1, Vr1⟩ := i1
  refine Tr.rowShape (V := Vk1) (by repeat (first | exact List.Mem.head _ | apply List.Mem.tail)) (fun pk1 ck1 hpv => ?_)
  subst hpv
  refine Tr.rowShape (V := Ve1) (by repeat (first | exact List.Mem.head _ | apply List.Mem.tail)) (fun pe1 ce1 hpv => ?_)
  subst hpv
  refine Tr.rowShape (V := Vu1) (by repeat (first | exact List.Mem.head _ | apply List.Mem.tail)) (fun pu1 cu1 hpv => ?_)
  subst hpv
  refine Tr.rowShape (V := Vb1) (by repeat (first | exact List.Mem.head _ | apply List.Mem.tail)) (fun pb1 cb1 hpv => ?_)
  subst hpv
  refine Tr.rowShape (V := Vr1) (by repeat (first | exact List.Mem.head _ | apply List.Mem.tail)) (fun pr1 cr1 hpv => ?_)
  subst hpv
  simp only [ex_res1.1, ex_res1.2]
  refine Tr.q (QS.move rfl) rfl ?_
  refine Tr.q (QS.extract rfl rfl) rfl ?_
  refine Tr.q (QS.extract rfl rfl) rfl ?_
  refine Tr.alloc Tryz.zeroValue28 rfl rfl (fun b3 => ?_)
  refine Tr.storeW rfl rfl Tryz.sizeOf28 (by repeat (first | exact Put.here _ | apply Put.there)) (by rfl) (by rfl) (by first | exact List.all_eq_true.1 rfl | exact Enc.one _ _ | (intro u hu; simp [Value.cells] at hu; simp_all [Value.oneCell'])) rfl ?_
  refine Tr.q (QS.assign rfl) rfl ?_
  refine Tr.nil ?_
  refine Tr.thenN ?_
  refine Tr.seq ?_
  refine Tr.region ?_
  refine Tr.q (QS.move rfl) rfl ?_
  refine Tr.lit1 (E := encU32) (4097 : UInt32) rfl rfl Tryz.underlying23 Tryz.sizeOf33 Tryz.zeroValue33 (by rfl) (by rfl) rfl (fun V4 => ?_)
  refine Tr.rowShape (.head _) (fun pd pf hpv => ?_)
  subst hpv
  refine Tr.q (QS.build (vs := [(0, _), (1, _)]) rfl rfl rfl) rfl ?_
  refine Tr.callEnts (fun i : Value × Value × Value × Value × Value => .tuple #[.agg #[i.1, i.2.1, i.2.2.1, i.2.2.2.1], i.2.2.2.2]) (fun i => [rowE i.1 35 encIns (resP threeL [4097] [] []).kept, rowE i.2.1 33 encU32 (resP threeL [4097] [] []).ents, rowE i.2.2.1 33 encU32 (resP threeL [4097] [] []).unk, rowE i.2.2.2.1 33 encU32 (resP threeL [4097] [] []).bad, rowE i.2.2.2.2 33 encU32 (resP threeL [4097] [] []).rem]) (ok := fun _ => True) rfl Tryz.call12 (fun w hw => (resolve_any threeL [4097] [] [] _ _ _ _ w (hw.row (by repeat (first | exact List.Mem.head _ | apply List.Mem.tail))) (hw.row (by repeat (first | exact List.Mem.head _ | apply List.Mem.tail))) (Sl.nil _ _) (Sl.nil _ _) threeL_ok (by decide) (by decide) (by decide) (by decide)).mono fun e w' ⟨i, q1, q2, q3⟩ => ⟨i, q1, q2, q3, trivial⟩) rfl (fun i2 _ => ?_)
  obtain ⟨Vk2, Ve2, Vu2, Vb2, Vr2⟩ := i2
  refine Tr.rowShape (V := Vk2) (by repeat (first | exact List.Mem.head _ | apply List.Mem.tail)) (fun pk2 ck2 hpv => ?_)
  subst hpv
  refine Tr.rowShape (V := Ve2) (by repeat (first | exact List.Mem.head _ | apply List.Mem.tail)) (fun pe2 ce2 hpv => ?_)
  subst hpv
  refine Tr.rowShape (V := Vu2) (by repeat (first | exact List.Mem.head _ | apply List.Mem.tail)) (fun pu2 cu2 hpv => ?_)
  subst hpv
  refine Tr.rowShape (V := Vb2) (by repeat (first | exact List.Mem.head _ | apply List.Mem.tail)) (fun pb2 cb2 hpv => ?_)
  subst hpv
  refine Tr.rowShape (V := Vr2) (by repeat (first | exact List.Mem.head _ | apply List.Mem.tail)) (fun pr2 cr2 hpv => ?_)
  subst hpv
  simp only [ex_res2.1, ex_res2.2.1, ex_res2.2.2]
  refine Tr.q (QS.move rfl) rfl ?_
  refine Tr.q (QS.extract rfl rfl) rfl ?_
  refine Tr.q (QS.extract rfl rfl) rfl ?_
  refine Tr.alloc Tryz.zeroValue28 rfl rfl (fun b5 => ?_)
  refine Tr.storeW rfl rfl Tryz.sizeOf28 (by repeat (first | exact Put.here _ | apply Put.there)) (by rfl) (by rfl) (by first | exact List.all_eq_true.1 rfl | exact Enc.one _ _ | (intro u hu; simp [Value.cells] at hu; simp_all [Value.oneCell'])) rfl ?_
  refine Tr.q (QS.assign rfl) rfl ?_
  refine Tr.nil ?_
  refine Tr.thenN ?_
  refine Tr.seq ?_
  refine Tr.region ?_
  refine Tr.q (QS.move rfl) rfl ?_
  refine Tr.q (QS.build (vs := [(0, _), (2, _), (3, _), (1, _)]) rfl rfl (HLF.built35_0_2_3_1 _ _ _ _)) rfl ?_
  refine Tr.q (QS.idxRow rfl rfl (by repeat (first | exact List.Mem.head _ | apply List.Mem.tail)) Tryz.underlying22 Tryz.sizeOf35 (by rfl) (by omega)) rfl ?_
  refine Tr.storeEl (l := threeL) (i := 2) ((⟨4099, 4097, 20, 1, 0, 0, 0, 0, 0⟩ : Ins)) rfl rfl Tryz.sizeOf35 (by repeat (first | exact Put.here _ | apply Put.there)) (by (try simp only [List.length_set]); omega) (by rfl) rfl ?_
  have hls6 : (List.set threeL (2) ((⟨4099, 4097, 20, 1, 0, 0, 0, 0, 0⟩ : Ins))).length = (threeL).length := List.length_set
  rw [show threeL.set 2 (⟨4099, 4097, 20, 1, 0, 0, 0, 0, 0⟩ : Ins) = threeJ from rfl]
  refine Tr.nil ?_
  refine Tr.thenN ?_
  refine Tr.seq ?_
  refine Tr.region ?_
  refine Tr.q (QS.move rfl) rfl ?_
  refine Tr.q (QS.build (vs := [(0, _)]) rfl rfl rfl) rfl ?_
  refine Tr.callEnts (fun i : Value × Value × Value × Value × Value => .tuple #[.agg #[i.1, i.2.1, i.2.2.1, i.2.2.2.1], i.2.2.2.2]) (fun i => [rowE i.1 35 encIns (resP threeJ [] [] []).kept, rowE i.2.1 33 encU32 (resP threeJ [] [] []).ents, rowE i.2.2.1 33 encU32 (resP threeJ [] [] []).unk, rowE i.2.2.2.1 33 encU32 (resP threeJ [] [] []).bad, rowE i.2.2.2.2 33 encU32 (resP threeJ [] [] []).rem]) (ok := fun _ => True) rfl Tryz.call12 (fun w hw => (resolve_any threeJ [] [] [] _ _ _ _ w (hw.row (by repeat (first | exact List.Mem.head _ | apply List.Mem.tail))) (Sl.nil _ _) (Sl.nil _ _) (Sl.nil _ _) threeJ_ok (by decide) (by decide) (by decide) (by decide)).mono fun e w' ⟨i, q1, q2, q3⟩ => ⟨i, q1, q2, q3, trivial⟩) rfl (fun i3 _ => ?_)
  obtain ⟨Vk3, Ve3, Vu3, Vb3, Vr3⟩ := i3
  refine Tr.rowShape (V := Vk3) (by repeat (first | exact List.Mem.head _ | apply List.Mem.tail)) (fun pk3 ck3 hpv => ?_)
  subst hpv
  refine Tr.rowShape (V := Ve3) (by repeat (first | exact List.Mem.head _ | apply List.Mem.tail)) (fun pe3 ce3 hpv => ?_)
  subst hpv
  refine Tr.rowShape (V := Vu3) (by repeat (first | exact List.Mem.head _ | apply List.Mem.tail)) (fun pu3 cu3 hpv => ?_)
  subst hpv
  refine Tr.rowShape (V := Vb3) (by repeat (first | exact List.Mem.head _ | apply List.Mem.tail)) (fun pb3 cb3 hpv => ?_)
  subst hpv
  refine Tr.rowShape (V := Vr3) (by repeat (first | exact List.Mem.head _ | apply List.Mem.tail)) (fun pr3 cr3 hpv => ?_)
  subst hpv
  simp only [ex_res3]
  refine Tr.q (QS.move rfl) rfl ?_
  refine Tr.q (QS.extract rfl rfl) rfl ?_
  refine Tr.q (QS.extract rfl rfl) rfl ?_
  refine Tr.alloc Tryz.zeroValue28 rfl rfl (fun b7 => ?_)
  refine Tr.storeW rfl rfl Tryz.sizeOf28 (by repeat (first | exact Put.here _ | apply Put.there)) (by rfl) (by rfl) (by first | exact List.all_eq_true.1 rfl | exact Enc.one _ _ | (intro u hu; simp [Value.cells] at hu; simp_all [Value.oneCell'])) rfl ?_
  refine Tr.q (QS.assign rfl) rfl ?_
  refine Tr.nil ?_
  refine Tr.thenN ?_
  refine Tr.seq ?_
  refine Tr.region ?_
  refine Tr.q (QS.move rfl) rfl ?_
  refine Tr.q (QS.build (vs := [(0, _), (1, _)]) rfl rfl (HLF.built58_0_1 _ _)) rfl ?_
  refine Tr.lit1 (E := encRng) (⟨4096, 4097⟩ : Rng) rfl rfl Tryz.underlying41 Tryz.sizeOf58 Tryz.zeroValue58 (by rfl) (by rfl) rfl (fun V8 => ?_)
  refine Tr.q (QS.call rfl Tryz.call21 (fun w hw => samePairs_any ([⟨4096, 4097⟩] : List Rng) [⟨4096, 4097⟩] _ _ w (hw.row (by repeat (first | exact List.Mem.head _ | apply List.Mem.tail))) (hw.row (by repeat (first | exact List.Mem.head _ | apply List.Mem.tail))))) rfl ?_
  refine Tr.q (QS.move rfl) rfl ?_
  refine Tr.gdo rfl rfl rfl ?_
  refine Tr.callRow rfl Tryz.call33 (fun w hw => three_any w) rfl (fun V9 => ?_)
  refine Tr.gq rfl rfl rfl (QS.call rfl Tryz.call14 (fun w hw => (by have q := clean_any threeL _ w (hw.row (by repeat (first | exact List.Mem.head _ | apply List.Mem.tail))) threeL_ok (by decide); rw [ex_conf] at q; exact q : Calls Tryz.prog 14 #[_] w (fun e w' => e = .returned (.bool false) ∧ Ext w w')))) rfl ?_
  refine Tr.gq rfl rfl rfl (QS.not rfl) rfl ?_
  refine Tr.q (QS.pick rfl rfl rfl) rfl ?_
  refine Tr.q (QS.move rfl) rfl ?_
  refine Tr.gq rfl rfl rfl (QS.call rfl Tryz.call14 (fun w hw => (by have q := clean_any [] (.slice none 0 0) w (Sl.nil _ _) (by simp) (by decide); rw [ex_conf0] at q; exact q : Calls Tryz.prog 14 #[.slice none 0 0] w (fun e w' => e = .returned (.bool true) ∧ Ext w w')))) rfl ?_
  refine Tr.q (QS.pick rfl rfl rfl) rfl ?_
  refine Tr.q (QS.move rfl) rfl ?_
  refine Tr.gdo rfl rfl rfl ?_
  refine Tr.callRow rfl Tryz.call33 (fun w hw => three_any w) rfl (fun V10 => ?_)
  refine Tr.gdo rfl rfl rfl ?_
  refine Tr.callRow rfl Tryz.call25 (fun w hw => (by rw [← ex_shar]; exact shared_any threeL _ w (hw.row (by repeat (first | exact List.Mem.head _ | apply List.Mem.tail))) threeL_ok (by decide) : Calls Tryz.prog 25 #[_] w (fun e w' => ∃ V', e = .returned V' ∧ Ext w w' ∧ NewRow w w' 80 encRng ([⟨4097, 4098⟩]) V'))) rfl (fun V11 => ?_)
  refine Tr.gdo rfl rfl rfl ?_
  refine Tr.callRow rfl Tryz.call24 (fun w hw => ranges_any ([⟨4097, 4098⟩] : List Rng) _ w (hw.row (by repeat (first | exact List.Mem.head _ | apply List.Mem.tail))) (by decide)) rfl (fun V12 => ?_)
  refine Tr.gq rfl rfl rfl (QS.build (vs := [(0, _), (1, _)]) rfl rfl (HLF.built60_0_1 _ _)) rfl ?_
  refine Tr.gdo rfl rfl rfl ?_
  refine Tr.lit1 (E := encRng) (⟨4097, 4098⟩ : Rng) rfl rfl Tryz.underlying45 Tryz.sizeOf60 Tryz.zeroValue60 (by rfl) (by rfl) rfl (fun V13 => ?_)
  refine Tr.gq rfl rfl rfl (QS.call rfl Tryz.call23 (fun w hw => sameRanges_any ([⟨4097, 4098⟩] : List Rng) [⟨4097, 4098⟩] _ _ w (hw.row (by repeat (first | exact List.Mem.head _ | apply List.Mem.tail))) (hw.row (by repeat (first | exact List.Mem.head _ | apply List.Mem.tail))))) rfl ?_
  refine Tr.q (QS.pick rfl rfl rfl) rfl ?_
  refine Tr.q (QS.move rfl) rfl ?_
  refine Tr.gq rfl rfl rfl (QS.fieldAddr (off := 0) (ft := 22) rfl Tryz.underlying28 rfl rfl Tryz.sizeOf22 (by decide)) rfl ?_
  refine Tr.gq rfl rfl rfl (QS.lV rfl Tryz.isAgg22) rfl ?_
  refine Tr.gq rfl rfl rfl (QS.lenRow rfl (by repeat (first | exact List.Mem.head _ | apply List.Mem.tail)) Tryz.underlying22) rfl ?_
  refine Tr.gq rfl rfl rfl (QS.eql rfl rfl) rfl ?_
  refine Tr.q (QS.pick rfl rfl rfl) rfl ?_
  refine Tr.q (QS.move rfl) rfl ?_
  refine Tr.gq rfl rfl rfl (QS.fieldAddr (off := 0) (ft := 22) rfl Tryz.underlying28 rfl rfl Tryz.sizeOf22 (by decide)) rfl ?_
  refine Tr.gq rfl rfl rfl (QS.lV rfl Tryz.isAgg22) rfl ?_
  refine Tr.gq rfl rfl rfl (QS.idxRow rfl rfl (by repeat (first | exact List.Mem.head _ | apply List.Mem.tail)) Tryz.underlying22 Tryz.sizeOf35 (by rfl) (by omega)) rfl ?_
  refine Tr.gq rfl rfl rfl (QS.fieldAddr (off := 0) (ft := 33) rfl Tryz.underlying35 rfl rfl Tryz.sizeOf33 (by decide)) rfl ?_
  refine Tr.gq rfl rfl rfl (QS.elRF rfl (by repeat (first | exact List.Mem.head _ | apply List.Mem.tail)) Tryz.isAgg33 (by omega) (by rfl)) rfl ?_
  refine Tr.gq rfl rfl rfl (QS.eql32 (n := 4096) rfl rfl) rfl ?_
  refine Tr.q (QS.pick rfl rfl rfl) rfl ?_
  refine Tr.q (QS.move rfl) rfl ?_
  refine Tr.gq rfl rfl rfl (QS.move rfl) rfl ?_
  refine Tr.gdo rfl rfl rfl ?_
  refine Tr.lit1 (E := encU32) (4097 : UInt32) rfl rfl Tryz.underlying23 Tryz.sizeOf33 Tryz.zeroValue33 (by rfl) (by rfl) rfl (fun V14 => ?_)
  refine Tr.gq rfl rfl rfl (QS.call rfl Tryz.call30 (fun w hw => words_any [4097] [4097] _ _ w (hw.row (by repeat (first | exact List.Mem.head _ | apply List.Mem.tail))) (hw.row (by repeat (first | exact List.Mem.head _ | apply List.Mem.tail))))) rfl ?_
  refine Tr.q (QS.pick rfl rfl rfl) rfl ?_
  refine Tr.q (QS.move rfl) rfl ?_
  refine Tr.gq rfl rfl rfl (QS.fieldAddr (off := 0) (ft := 22) rfl Tryz.underlying28 rfl rfl Tryz.sizeOf22 (by decide)) rfl ?_
  refine Tr.gq rfl rfl rfl (QS.lV rfl Tryz.isAgg22) rfl ?_
  refine Tr.gq rfl rfl rfl (QS.lenRow rfl (by repeat (first | exact List.Mem.head _ | apply List.Mem.tail)) Tryz.underlying22) rfl ?_
  refine Tr.gq rfl rfl rfl (QS.eql rfl rfl) rfl ?_
  refine Tr.q (QS.pick rfl rfl rfl) rfl ?_
  refine Tr.q (QS.move rfl) rfl ?_
  refine Tr.gq rfl rfl rfl (QS.fieldAddr (off := 0) (ft := 22) rfl Tryz.underlying28 rfl rfl Tryz.sizeOf22 (by decide)) rfl ?_
  refine Tr.gq rfl rfl rfl (QS.lV rfl Tryz.isAgg22) rfl ?_
  refine Tr.gq rfl rfl rfl (QS.idxRow rfl rfl (by repeat (first | exact List.Mem.head _ | apply List.Mem.tail)) Tryz.underlying22 Tryz.sizeOf35 (by rfl) (by omega)) rfl ?_
  refine Tr.gq rfl rfl rfl (QS.fieldAddr (off := 0) (ft := 33) rfl Tryz.underlying35 rfl rfl Tryz.sizeOf33 (by decide)) rfl ?_
  refine Tr.gq rfl rfl rfl (QS.elRF rfl (by repeat (first | exact List.Mem.head _ | apply List.Mem.tail)) Tryz.isAgg33 (by omega) (by rfl)) rfl ?_
  refine Tr.gq rfl rfl rfl (QS.eql32 (n := 4097) rfl rfl) rfl ?_
  refine Tr.q (QS.pick rfl rfl rfl) rfl ?_
  refine Tr.q (QS.move rfl) rfl ?_
  refine Tr.gq rfl rfl rfl (QS.fieldAddr (off := 1) (ft := 23) rfl Tryz.underlying28 rfl rfl Tryz.sizeOf23 (by decide)) rfl ?_
  refine Tr.gq rfl rfl rfl (QS.lV rfl Tryz.isAgg23) rfl ?_
  refine Tr.gdo rfl rfl rfl ?_
  refine Tr.lit1 (E := encU32) (4097 : UInt32) rfl rfl Tryz.underlying23 Tryz.sizeOf33 Tryz.zeroValue33 (by rfl) (by rfl) rfl (fun V15 => ?_)
  refine Tr.gq rfl rfl rfl (QS.call rfl Tryz.call30 (fun w hw => words_any [4097] [4097] _ _ w (hw.row (by repeat (first | exact List.Mem.head _ | apply List.Mem.tail))) (hw.row (by repeat (first | exact List.Mem.head _ | apply List.Mem.tail))))) rfl ?_
  refine Tr.q (QS.pick rfl rfl rfl) rfl ?_
  refine Tr.q (QS.move rfl) rfl ?_
  refine Tr.gq rfl rfl rfl (QS.move rfl) rfl ?_
  refine Tr.gdo rfl rfl rfl ?_
  refine Tr.lit1 (E := encU32) (4096 : UInt32) rfl rfl Tryz.underlying23 Tryz.sizeOf33 Tryz.zeroValue33 (by rfl) (by rfl) rfl (fun V16 => ?_)
  refine Tr.gq rfl rfl rfl (QS.call rfl Tryz.call30 (fun w hw => words_any [4096] [4096] _ _ w (hw.row (by repeat (first | exact List.Mem.head _ | apply List.Mem.tail))) (hw.row (by repeat (first | exact List.Mem.head _ | apply List.Mem.tail))))) rfl ?_
  refine Tr.q (QS.pick rfl rfl rfl) rfl ?_
  refine Tr.q (QS.move rfl) rfl ?_
  refine Tr.gq rfl rfl rfl (QS.fieldAddr (off := 0) (ft := 22) rfl Tryz.underlying28 rfl rfl Tryz.sizeOf22 (by decide)) rfl ?_
  refine Tr.gq rfl rfl rfl (QS.lV rfl Tryz.isAgg22) rfl ?_
  refine Tr.gq rfl rfl rfl (QS.lenRow rfl (by repeat (first | exact List.Mem.head _ | apply List.Mem.tail)) Tryz.underlying22) rfl ?_
  refine Tr.gq rfl rfl rfl (QS.eql rfl rfl) rfl ?_
  refine Tr.q (QS.pick rfl rfl rfl) rfl ?_
  refine Tr.q (QS.move rfl) rfl ?_
  refine Tr.gq rfl rfl rfl (QS.fieldAddr (off := 0) (ft := 22) rfl Tryz.underlying28 rfl rfl Tryz.sizeOf22 (by decide)) rfl ?_
  refine Tr.gq rfl rfl rfl (QS.lV rfl Tryz.isAgg22) rfl ?_
  refine Tr.gq rfl rfl rfl (QS.idxRow rfl rfl (by repeat (first | exact List.Mem.head _ | apply List.Mem.tail)) Tryz.underlying22 Tryz.sizeOf35 (by rfl) (by omega)) rfl ?_
  refine Tr.gq rfl rfl rfl (QS.fieldAddr (off := 0) (ft := 33) rfl Tryz.underlying35 rfl rfl Tryz.sizeOf33 (by decide)) rfl ?_
  refine Tr.gq rfl rfl rfl (QS.elRF rfl (by repeat (first | exact List.Mem.head _ | apply List.Mem.tail)) Tryz.isAgg33 (by omega) (by rfl)) rfl ?_
  refine Tr.gq rfl rfl rfl (QS.eql32 (n := 4097) rfl rfl) rfl ?_
  refine Tr.q (QS.pick rfl rfl rfl) rfl ?_
  refine Tr.q (QS.assign rfl) rfl ?_
  refine Tr.nil ?_
  refine Tr.thenN ?_
  refine Tr.ret ?_
  refine Tr.ret1 Tryz.results11 rfl (fun w' hw => ?_)
  exact ⟨by rfl, hw.below (Bg.le.refl _)⟩
end Go.Proofs.YtmhbfelnjkhepaaGreat
namespace Go.HL
open Go Go.Sort
def SA (l : List UInt32) : Prop := l.Pairwise fun x y => x.toNat < y.toNat
theorem SA.nodup {l : List UInt32} (h : SA l) : l.Nodup := h.imp fun {a b} q e => by rw [e] at q; omega
theorem SA.lt {l : List UInt32} (h : SA l) {i j : Nat} (hij : i < j) (hj : j < l.length) : (l.getD i default).toNat < (l.getD j default).toNat := by
  have := List.pairwise_iff_getElem.1 h i j (by omega) hj hij
  simpa [List.getD_eq_getElem?_getD, hj, show i < l.length by omega] using this
/-- No cut lies inside a gap. -/
theorem SA.out {l : List UInt32} (h : SA l) {i : Nat} (hi : i + 1 < l.length) {x : UInt32} (hx : x ∈ l) : x.toNat ≤ (l.getD i default).toNat ∨ (l.getD (i + 1) default).toNat ≤ x.toNat := by
  obtain ⟨j, hj, rfl⟩ := List.mem_iff_getElem.1 hx
  have e : l[j] = l.getD j default := by simp [List.getD_eq_getElem?_getD, hj]
  rw [e]
  rcases Nat.lt_trichotomy j i with h1 | rfl | h1
  · exact .inl (Nat.le_of_lt (h.lt h1 (by omega)))
  · exact .inl (Nat.le_refl _)
  · rcases Nat.lt_or_ge (i + 1) j with h2 | h2
    · exact .inr (Nat.le_of_lt (h.lt h2 hj))
    · rw [show j = i + 1 by omega]; exact .inr (Nat.le_refl _)
theorem any_inR {l : List Rng} {c : UInt32} : l.any (inR c) = true ↔ Has l c.toNat := by
  simp only [List.any_eq_true, inR, Bool.and_eq_true, decide_eq_true_eq, UInt32.le_iff_toNat_le, UInt32.lt_iff_toNat_lt, Has]
end Go.HL
namespace Go.HL
open Go Go.Sort
open Go.Proofs (ltOf)
def wP (a : UInt32) (x y : Ins) : Bool := (clashP x y && coversP x a) && coversP y a
def wK (l : List Ins) (a : UInt32) (k : Nat) : Bool := (List.range k).any fun i => (l.take i).any (wP a (l.getD i default))
theorem wK_succ (l : List Ins) (a : UInt32) (k : Nat) : wK l a (k + 1) = (wK l a k || (l.take k).any (wP a (l.getD k default))) := by
  unfold wK
  rw [List.range_succ, List.any_append]; simp
theorem wK_iff {l : List Ins} {a : UInt32} : wK l a l.length = true ↔ ∃ i j, j < i ∧ i < l.length ∧ wP a (l.getD i default) (l.getD j default) = true := by
  unfold wK
  rw [List.any_eq_true]
  constructor
  · rintro ⟨i, hi, h⟩
    rw [List.mem_range] at hi
    obtain ⟨b, hb, h⟩ := List.any_eq_true.1 h
    obtain ⟨j, hj, rfl⟩ := List.mem_take_iff_getElem.1 hb
    have e : l[j] = l.getD j default := by rw [List.getD_eq_getElem?_getD, List.getElem?_eq_getElem (by omega)]; rfl
    rw [e] at h
    exact ⟨i, j, by omega, hi, h⟩
  · rintro ⟨i, j, hj, hi, h⟩
    refine ⟨i, List.mem_range.2 hi, List.any_eq_true.2 ⟨l.getD j default, ?_, h⟩⟩
    rw [List.mem_take_iff_getElem]
    exact ⟨j, by omega, by rw [List.getD_eq_getElem?_getD, List.getElem?_eq_getElem (by omega)]; rfl⟩
theorem u32_min {x : Int} (h0 : 0 ≤ x) (h1 : x ≤ 4294967295) : ((u32 x).toNat : Int) = x := by
  rw [u32_toNat, Int.emod_eq_of_lt h0 (by omega)]
theorem shb_law (l : List Ins) {a : UInt32} (ha : a ≠ 4294967295) : (sharP l).any (inR a) = wK l a l.length := by
  have ha' : a.toNat ≠ 4294967295 := fun e => ha (UInt32.toNat_inj.1 (by rw [e]; rfl))
  have hlt := a.toNat_lt
  rw [Bool.eq_iff_iff, wK_iff]
  have h1 : (sharP l).any (inR a) = true ↔ Has (sharP l) a.toNat := any_inR
  rw [h1, show sharP l = normalP (outer shareR l l.length) from rfl, (normal_ok _).2]
  have key : ∀ x y : Ins, wP a x y = true ↔ conflP x y = true ∧ ((shareR x y).lo.toNat ≤ a.toNat ∧ a.toNat < (shareR x y).hi.toNat) := fun x y => by
    have e1 := endI_rng x
    have e2 := endI_rng y
    have hh : (((shareR x y).hi.toNat : Nat) : Int) = min (min (endI x) (endI y)) 4294967295 := u32_min (by omega) (by omega)
    have hl : (shareR x y).lo.toNat = max x.addr.toNat y.addr.toNat := mxU_val _ _
    unfold wP
    rw [Bool.and_eq_true, Bool.and_eq_true, clash_eq, covers_iff, covers_iff, hl]
    generalize endI x = ex at *
    generalize endI y = ey at *
    constructor
    · rintro ⟨⟨hc, q1, q2⟩, q3, q4⟩; exact ⟨hc, by omega, by omega⟩
    · rintro ⟨hc, q1, q2⟩; exact ⟨⟨hc, by omega, by omega⟩, by omega, by omega⟩
  unfold Has
  constructor
  · rintro ⟨r, hr, q⟩
    obtain ⟨i, j, hj, hi, hc, rfl⟩ := outer_mem.1 hr
    exact ⟨i, j, hj, hi, (key _ _).2 ⟨hc, q⟩⟩
  · rintro ⟨i, j, hj, hi, h⟩
    obtain ⟨hc, q⟩ := (key _ _).1 h
    exact ⟨_, outer_mem.2 ⟨i, j, hj, hi, hc, rfl⟩, q⟩
end Go.HL
namespace Go.Proofs.YtmhbfelnjkhepaaGreat
open Go Go.HL Go.RowKit
set_option maxRecDepth 100000 in
set_option maxHeartbeats 4000000 in
theorem sharedb_true (l : List Ins) (V : Value) (a : UInt32) (w : World) (hV : Sl (hp w) encIns l V) (hI : ∀ x ∈ l, InsOK x) :
    Calls Tryz.prog 9 #[V, .int .u32 a.toNat] w (fun e w' => e = .returned (.bool true) ∧ Ext w w') := by
  have hV' : Sl (Bg.of w).blk encIns l V := hV
  obtain ⟨pl, hpl⟩ : ∃ pl, pl = sharP l := ⟨_, rfl⟩
  have hIx : ∀ x, x < l.length → InsOK (l.getD x default) := fun x hx => hI _ (mem_getD hx)
  refine enter Tryz.func9 rfl Tryz.ntmps9 rfl ?_
  refine Tr.seq ?_
  refine Tr.region ?_
  refine Tr.q (QS.assign rfl) rfl ?_
  refine Tr.nil ?_
  refine Tr.thenN ?_
  refine Tr.seq ?_
  refine Tr.seq ?_
  refine Tr.region ?_
  refine Tr.q (QS.move rfl) rfl ?_
  refine Tr.q (QS.len rfl (by assumption) Tryz.underlying22) rfl ?_
  refine Tr.q (QS.gtr rfl rfl) rfl ?_
  refine Tr.q (QS.move rfl) rfl ?_
  apply Tr.orP
  · exact (rfl : _ = (3, 11, 14))
  · exact rfl
  · intro hF1; have hF1' := hF1
    try simp only [bs] at hF1'
    refine Tr.gq rfl rfl hF1 (QS.move rfl) rfl ?_
    refine Tr.gq rfl rfl hF1 (QS.eql32 (n := 4294967295) rfl rfl) rfl ?_
    refine Tr.q (QS.pickF rfl hF1 rfl) rfl ?_
    refine Tr.nil (Tr.thenN ?_)
    exact Tr.endX (Sub.cons rfl (Sub.dropN 3 (by kernel_rfl) rfl))
  · intro hT1
    refine Tr.gskip rfl rfl hT1 rfl ?_
    refine Tr.gskip rfl rfl hT1 rfl ?_
    refine Tr.q (QS.pickT rfl hT1 rfl) rfl ?_
    refine Tr.nil (Tr.thenN ?_)
    exact Tr.endX (Sub.cons rfl (Sub.dropN 3 (by kernel_rfl) rfl))
  refine Tr.nil ?_
  refine Tr.thenN ?_
  refine Tr.cond rfl (fun h2 => ?_) (fun h2 => ?_)
  · try simp only [bs] at h2
    refine Tr.seq ?_
    refine Tr.region ?_
    refine Tr.q (QS.call rfl Tryz.call11 (fun w hw => example13_any w)) rfl ?_
    refine Tr.q (QS.assign rfl) rfl ?_
    refine Tr.nil ?_
    refine Tr.thenN ?_
    refine Tr.ret ?_
    refine Tr.thenR ?_
    refine Tr.ret1 Tryz.results9 rfl (fun w' hw => ?_)
    exact ⟨rfl, hw.below (Bg.le.refl _)⟩
  · try simp only [bs] at h2
    refine Tr.skip ?_
    refine Tr.thenN ?_
    refine Tr.seq ?_
    refine Tr.region ?_
    refine Tr.q (QS.assign rfl) rfl ?_
    refine Tr.nil ?_
    refine Tr.thenN ?_
    refine Tr.seq ?_
    refine Tr.seq ?_
    refine Tr.region ?_
    refine Tr.q (QS.assign rfl) rfl ?_
    refine Tr.nil ?_
    refine Tr.thenN ?_
    refine Tr.block ?_
    refine Tr.loop (ι := Nat × Bool) (fun ⟨i, fi⟩ => i ≤ l.length ∧ fi = wK l a i) (fun _ => _) (fun ⟨i, fi⟩ => []) (fun ⟨i, fi⟩ => [(6, .int .i64 (i : Nat)), (5, .bool fi)]) (fun ⟨i, fi⟩ => l.length - i) (0, false) ⟨Nat.zero_le _, rfl⟩ (.cons (by first | rfl | exact lookI rfl (by omega) | exact lookI rfl (by simp) | exact lookB rfl (by simp)) (.cons (by first | rfl | exact lookI rfl (by omega) | exact lookI rfl (by simp) | exact lookB rfl (by simp)) Front.nil)) (by repeat' (first | exact Pick.nil _ | exact Del.here _ | apply Pick.cons | apply Del.there)) rfl (fun i hi m hm => ?_)
    obtain ⟨i, fi⟩ := i
    replace hi : i ≤ l.length ∧ fi = wK l a i := hi
    replace hm : m = l.length - i := hm
    change Tr _ _ [] ([(6, .int .i64 (i : Nat)), (5, .bool fi)] ++ _) _
    obtain ⟨hi1, hi2⟩ := hi
    refine Tr.seq ?_
    refine Tr.seq ?_
    refine Tr.region ?_
    refine Tr.q (QS.move rfl) rfl ?_
    refine Tr.q (QS.move rfl) rfl ?_
    refine Tr.q (QS.len rfl (by assumption) Tryz.underlying22) rfl ?_
    refine Tr.q (QS.lss rfl rfl) rfl ?_
    refine Tr.nil ?_
    refine Tr.thenN ?_
    refine Tr.cond rfl (fun h3 => ?_) (fun h3 => ?_)
    · try simp only [bs] at h3
      refine Tr.skip ?_
      refine Tr.thenN ?_
      refine Tr.seq ?_
      refine Tr.block ?_
      refine Tr.seq ?_
      refine Tr.region ?_
      refine Tr.q (QS.assign rfl) rfl ?_
      refine Tr.nil ?_
      refine Tr.thenN ?_
      refine Tr.block ?_
      refine Tr.loop (ι := Nat × Bool) (fun ⟨k, fk⟩ => k ≤ i ∧ fk = (fi || (l.take k).any (wP a (l.getD i default)))) (fun _ => _) (fun ⟨k, fk⟩ => []) (fun ⟨k, fk⟩ => [(7, .int .i64 (k : Nat)), (5, .bool fk)]) (fun ⟨k, fk⟩ => i - k) (0, fi) ⟨Nat.zero_le _, by simp⟩ (.cons (by first | rfl | exact lookI rfl (by omega) | exact lookI rfl (by simp) | exact lookB rfl (by simp)) (.cons (by first | rfl | exact lookI rfl (by omega) | exact lookI rfl (by simp) | exact lookB rfl (by simp)) Front.nil)) (by repeat' (first | exact Pick.nil _ | exact Del.here _ | apply Pick.cons | apply Del.there)) rfl (fun i hi m hm => ?_)
      obtain ⟨k, fk⟩ := i
      replace hi : k ≤ i ∧ fk = (fi || (l.take k).any (wP a (l.getD i default))) := hi
      replace hm : m = i - k := hm
      change Tr _ _ [] ([(7, .int .i64 (k : Nat)), (5, .bool fk)] ++ _) _
      obtain ⟨hk1, hk2⟩ := hi
      refine Tr.seq ?_
      refine Tr.seq ?_
      refine Tr.region ?_
      refine Tr.q (QS.move rfl) rfl ?_
      refine Tr.q (QS.move rfl) rfl ?_
      refine Tr.q (QS.lss rfl rfl) rfl ?_
      refine Tr.nil ?_
      refine Tr.thenN ?_
      refine Tr.cond rfl (fun h4 => ?_) (fun h4 => ?_)
      · try simp only [bs] at h4
        refine Tr.skip ?_
        refine Tr.thenN ?_
        refine Tr.seq ?_
        refine Tr.block ?_
        refine Tr.regionQ HLF.mixed (by kernel_rfl) ?_
        refine TrQ.q (QS.move rfl) rfl ?_
        refine TrQ.q (QS.move rfl) rfl ?_
        apply TrQ.orP
        · exact (rfl : _ = (26, 28, 54))
        · exact rfl
        · intro hF5; have hF5' := hF5
          try simp only [bs] at hF5'
          refine TrQ.gq rfl rfl hF5 (QS.move rfl) rfl ?_
          refine TrQ.gq rfl rfl hF5 (QS.move rfl) rfl ?_
          refine TrQ.gq rfl rfl hF5 (QS.idxN rfl rfl (by assumption) Tryz.underlying22 Tryz.sizeOf35 (by rfl) (by omega)) rfl ?_
          refine TrQ.gq rfl rfl hF5 (QS.elA rfl (by assumption) Tryz.isAgg35 Tryz.sizeOf35 (by rfl) (by omega)) rfl ?_
          refine TrQ.gq rfl rfl hF5 (QS.move rfl) rfl ?_
          refine TrQ.gq rfl rfl hF5 (QS.move rfl) rfl ?_
          refine TrQ.gq rfl rfl hF5 (QS.idxN rfl rfl (by assumption) Tryz.underlying22 Tryz.sizeOf35 (by rfl) (by omega)) rfl ?_
          refine TrQ.gq rfl rfl hF5 (QS.elA rfl (by assumption) Tryz.isAgg35 Tryz.sizeOf35 (by rfl) (by omega)) rfl ?_
          refine TrQ.gq rfl rfl hF5 (QS.call rfl Tryz.call19 (fun w hw => clash_any (l.getD i default) (l.getD k default) w (hIx _ (by omega)) (hIx _ (by omega)))) rfl ?_
          refine TrQ.gq rfl rfl hF5 (QS.move rfl) rfl ?_
          apply TrQ.andP
          · exact (rfl : _ = (7, 38, 45))
          · exact rfl
          · intro hT6; have hT6' := hT6
            try simp only [bs] at hT6'
            refine TrQ.gq rfl rfl hT6 (QS.move rfl) rfl ?_
            refine TrQ.gq rfl rfl hT6 (QS.move rfl) rfl ?_
            refine TrQ.gq rfl rfl hT6 (QS.idxN rfl rfl (by assumption) Tryz.underlying22 Tryz.sizeOf35 (by rfl) (by omega)) rfl ?_
            refine TrQ.gq rfl rfl hT6 (QS.elA rfl (by assumption) Tryz.isAgg35 Tryz.sizeOf35 (by rfl) (by omega)) rfl ?_
            refine TrQ.gq rfl rfl hT6 (QS.move rfl) rfl ?_
            refine TrQ.gq rfl rfl hT6 (QS.call rfl Tryz.call31 (fun w hw => covers_any (l.getD i default) a w (hIx _ (by omega)))) rfl ?_
            refine TrQ.gq rfl rfl hF5 (QS.pickT rfl hT6 rfl) rfl ?_
            exact TrQ.end (Sub.cons rfl (Sub.dropN 7 (by kernel_rfl) rfl))
          · intro hF6
            refine TrQ.gskip rfl rfl hF6 rfl ?_
            refine TrQ.gskip rfl rfl hF6 rfl ?_
            refine TrQ.gskip rfl rfl hF6 rfl ?_
            refine TrQ.gskip rfl rfl hF6 rfl ?_
            refine TrQ.gskip rfl rfl hF6 rfl ?_
            refine TrQ.gskip rfl rfl hF6 rfl ?_
            refine TrQ.gq rfl rfl hF5 (QS.pickF rfl hF6 rfl) rfl ?_
            exact TrQ.end (Sub.cons rfl (Sub.dropN 7 (by kernel_rfl) rfl))
          refine TrQ.gq rfl rfl hF5 (QS.move rfl) rfl ?_
          apply TrQ.andP
          · exact (rfl : _ = (7, 46, 53))
          · exact rfl
          · intro hT7; have hT7' := hT7
            try simp only [bs] at hT7'
            refine TrQ.gq rfl rfl hT7 (QS.move rfl) rfl ?_
            refine TrQ.gq rfl rfl hT7 (QS.move rfl) rfl ?_
            refine TrQ.gq rfl rfl hT7 (QS.idxN rfl rfl (by assumption) Tryz.underlying22 Tryz.sizeOf35 (by rfl) (by omega)) rfl ?_
            refine TrQ.gq rfl rfl hT7 (QS.elA rfl (by assumption) Tryz.isAgg35 Tryz.sizeOf35 (by rfl) (by omega)) rfl ?_
            refine TrQ.gq rfl rfl hT7 (QS.move rfl) rfl ?_
            refine TrQ.gq rfl rfl hT7 (QS.call rfl Tryz.call31 (fun w hw => covers_any (l.getD k default) a w (hIx _ (by omega)))) rfl ?_
            refine TrQ.gq rfl rfl hF5 (QS.pickT rfl hT7 rfl) rfl ?_
            exact TrQ.end (Sub.cons rfl (Sub.dropN 7 (by kernel_rfl) rfl))
          · intro hF7
            refine TrQ.gskip rfl rfl hF7 rfl ?_
            refine TrQ.gskip rfl rfl hF7 rfl ?_
            refine TrQ.gskip rfl rfl hF7 rfl ?_
            refine TrQ.gskip rfl rfl hF7 rfl ?_
            refine TrQ.gskip rfl rfl hF7 rfl ?_
            refine TrQ.gskip rfl rfl hF7 rfl ?_
            refine TrQ.gq rfl rfl hF5 (QS.pickF rfl hF7 rfl) rfl ?_
            exact TrQ.end (Sub.cons rfl (Sub.dropN 7 (by kernel_rfl) rfl))
          refine TrQ.q (QS.pickF rfl hF5 rfl) rfl ?_
          exact TrQ.end (Sub.cons rfl (Sub.dropN 14 (by kernel_rfl) rfl))
        · intro hT5
          refine TrQ.gskip rfl rfl hT5 rfl ?_
          refine TrQ.gskip rfl rfl hT5 rfl ?_
          refine TrQ.gskip rfl rfl hT5 rfl ?_
          refine TrQ.gskip rfl rfl hT5 rfl ?_
          refine TrQ.gskip rfl rfl hT5 rfl ?_
          refine TrQ.gskip rfl rfl hT5 rfl ?_
          refine TrQ.gskip rfl rfl hT5 rfl ?_
          refine TrQ.gskip rfl rfl hT5 rfl ?_
          refine TrQ.gskip rfl rfl hT5 rfl ?_
          refine TrQ.gskip rfl rfl hT5 rfl ?_
          refine TrQ.gskipU rfl rfl rfl ?_
          refine TrQ.gskipU rfl rfl rfl ?_
          refine TrQ.gskipU rfl rfl rfl ?_
          refine TrQ.gskipU rfl rfl rfl ?_
          refine TrQ.gskipU rfl rfl rfl ?_
          refine TrQ.gskipU rfl rfl rfl ?_
          refine TrQ.gskip rfl rfl hT5 rfl ?_
          refine TrQ.gskip rfl rfl hT5 rfl ?_
          refine TrQ.gskipU rfl rfl rfl ?_
          refine TrQ.gskipU rfl rfl rfl ?_
          refine TrQ.gskipU rfl rfl rfl ?_
          refine TrQ.gskipU rfl rfl rfl ?_
          refine TrQ.gskipU rfl rfl rfl ?_
          refine TrQ.gskipU rfl rfl rfl ?_
          refine TrQ.gskip rfl rfl hT5 rfl ?_
          refine TrQ.q (QS.pickT rfl hT5 rfl) rfl ?_
          exact TrQ.end (Sub.cons rfl (Sub.dropN 26 (by kernel_rfl) rfl))
        refine TrQ.q (QS.assign rfl) rfl ?_
        refine TrQ.nil ?_
        refine Tr.inN ?_
        refine Tr.thenN ?_
        refine Tr.region ?_
        refine Tr.q (QS.move rfl) rfl ?_
        refine Tr.q (QS.addI rfl rfl (by omega)) rfl ?_
        refine Tr.q (QS.assign rfl) rfl ?_
        refine Tr.nil ?_
        refine Tr.thenN ?_
        have hst := any_take_succ (p := wP a (l.getD i default)) (l := l) (k := k) (by omega)
        apply Tr.again (k + 1, _)
        · exact rfl
        · exact (.cons (by first | rfl | exact lookI rfl (by omega) | exact lookI rfl (by simp) | exact lookB rfl (by simp)) (.cons (by first | rfl | exact lookI rfl (by omega) | exact lookI rfl (by simp) | exact lookB rfl (by simp)) Front.nil))
        · exact SubX.dropN 12 (by kernel_rfl) rfl
        · exact (by repeat' (first | exact Pick.nil _ | exact Del.here _ | apply Pick.cons | apply Del.there))
        · exact ⟨by omega, by rw [hst, ← Bool.or_assoc, ← hk2]; rfl⟩
        · exact (by (try dsimp only); omega)
      · try simp only [bs] at h4
        refine Tr.exit ?_
        refine Tr.thenE ?_
        refine Tr.thenE ?_
        refine Tr.inHit ?_
        refine Tr.inN ?_
        refine Tr.thenN ?_
        refine Tr.region ?_
        refine Tr.q (QS.move rfl) rfl ?_
        refine Tr.q (QS.addI rfl rfl (by omega)) rfl ?_
        refine Tr.q (QS.assign rfl) rfl ?_
        refine Tr.nil ?_
        refine Tr.thenN ?_
        obtain rfl : k = i := by omega
        apply Tr.again (k + 1, _)
        · exact rfl
        · exact (.cons (by first | rfl | exact lookI rfl (by omega) | exact lookI rfl (by simp) | exact lookB rfl (by simp)) (.cons (by first | rfl | exact lookI rfl (by omega) | exact lookI rfl (by simp) | exact lookB rfl (by simp)) Front.nil))
        · exact SubX.dropN 15 (by kernel_rfl) rfl
        · exact (by repeat' (first | exact Pick.nil _ | exact Del.here _ | apply Pick.cons | apply Del.there))
        · exact ⟨by omega, by rw [wK_succ, ← hi2]; exact hk2⟩
        · exact (by (try dsimp only); omega)
    · try simp only [bs] at h3
      refine Tr.exit ?_
      refine Tr.thenE ?_
      refine Tr.thenE ?_
      refine Tr.inHit ?_
      refine Tr.thenN ?_
      refine Tr.seq ?_
      refine Tr.region ?_
      refine Tr.q (QS.move rfl) rfl ?_
      refine Tr.callRow rfl Tryz.call25 (fun w hw => (by rw [hpl]; exact shared_any l V w (hw.slF hV') hI (by omega) : Calls Tryz.prog 25 #[V] w (fun e w' => ∃ V', e = .returned V' ∧ Ext w w' ∧ NewRow w w' 80 encRng (pl) V'))) rfl (fun V8 => ?_)
      refine Tr.q (QS.move rfl) rfl ?_
      refine Tr.q (QS.call rfl Tryz.call32 (fun w hw => contains_any pl _ a w (hw.row (.head _)))) rfl ?_
      refine Tr.q (QS.move rfl) rfl ?_
      refine Tr.q (QS.bool_eql rfl rfl Tryz.underlying4) rfl ?_
      refine Tr.q (QS.move rfl) rfl ?_
      apply Tr.andP
      · exact (rfl : _ = (2, 61, 63))
      · exact rfl
      · intro hT9; have hT9' := hT9
        try simp only [bs] at hT9'
        refine Tr.gq rfl rfl hT9 (QS.call rfl Tryz.call11 (fun w hw => example13_any w)) rfl ?_
        refine Tr.q (QS.pickT rfl hT9 rfl) rfl ?_
        refine Tr.nil (Tr.thenN ?_)
        exact Tr.endX (Sub.cons rfl (Sub.dropN 2 (by kernel_rfl) rfl))
      · intro hF9
        refine Tr.gskip rfl rfl hF9 rfl ?_
        refine Tr.q (QS.pickF rfl hF9 rfl) rfl ?_
        refine Tr.nil (Tr.thenN ?_)
        exact Tr.endX (Sub.cons rfl (Sub.dropN 2 (by kernel_rfl) rfl))
      refine Tr.q (QS.assign rfl) rfl ?_
      refine Tr.nil ?_
      refine Tr.thenN ?_
      refine Tr.ret ?_
      refine Tr.ret1 Tryz.results9 rfl (fun w' hw => ?_)
      obtain rfl : i = l.length := by omega
      exact ⟨by rw [hi2, hpl, shb_law l (by simp_all)]; simp, hw.below (Bg.le.refl _)⟩
end Go.Proofs.YtmhbfelnjkhepaaGreat
namespace Go.HL
open Go Go.Deep Go.ChangeShapes Go.WideShapes
section
variable {H : Type} {enc : TypeId × Value → H} {P : Program} {w : World} {base : Nat} {spare : Nat → Bool} {held : Bool}
theorem sl_of_trod {α : Type} [Inhabited α] {E : Enc α} {R : α → Prop} {t e : TypeId} {fuel : Nat} {V : Value} {x : DataW H × List MemPlace} (ht : P.underlying t = some (.slice e)) (hc : P.cellsOf e = E.k) (hk : 0 < E.k)
    (hf : ∀ n cs y, cs.length = E.k → DataW.trod enc P w base spare held n e cs = some y → ∃ a : α, cs = E.enc a ∧ R a)
    (h : DataW.trod enc P w base spare held fuel t [V] = some x) : ∃ l : List α, Sl (hp w) E l V ∧ ∀ a ∈ l, R a := by
  rcases open_slice ht h with ⟨h0, _⟩ | ⟨a, len, cap, m, n, D, Pl, hv, hb, hl, hm, hmm, _, hx⟩
  · simp only [List.cons.injEq, and_true] at h0
    subst h0
    exact ⟨[], Sl.nil _ _, by simp⟩
  · simp only [List.cons.injEq, and_true] at hv
    subst hv
    have hlm : len ≤ m := by rw [hmm]; split <;> omega
    have each : ∀ i, i < len → ∃ q : α, w.cells? base (a.add (i * E.k)) E.k = some (E.enc q) ∧ R q := fun i hi => by
      obtain ⟨cs', h1, h2⟩ := hx i (by omega)
      rw [hc] at h1
      obtain ⟨q, rfl, hq⟩ := hf n cs' _ (World.cells?_some h1).2.1 h2
      exact ⟨q, h1, hq⟩
    obtain ⟨f, hfn⟩ := choose_lt each
    have hsp : 0 < len → a = ⟨a.block, a.off, none⟩ := fun hl0 => by
      have h1 := (World.cells?_some (hfn 0 hl0).1).2.2 0 hk
      have hlen : 0 < (E.enc (f 0)).length := by rw [E.len]; exact hk
      rw [List.getElem?_eq_getElem hlen] at h1
      have hsp := World.cell?_spot h1
      obtain ⟨b, o, sp⟩ := a
      have : sp = none := by simpa [Addr.add] using hsp
      subst this
      rfl
    refine ⟨(List.range len).map f, ⟨⟨some a, cap, by simp, by simpa using hl, hm, fun hne => ?_⟩, fun i q hq => ?_⟩, fun q hq => ?_⟩
    · have hl0 : 0 < len := by
        rcases Nat.eq_zero_or_pos len with h | h
        · subst h; simp at hne
        · exact h
      rw [hsp hl0]; rfl
    · have hi : i < len := by
        have := (List.getElem?_eq_some_iff.1 hq).1
        simpa using this
      have hq' : f i = q := by simpa [hi] using hq
      subst hq'
      have ha := hsp (by omega)
      obtain ⟨b, o, sp⟩ := a
      obtain rfl : sp = none := by simpa using ha
      have hc' := (World.cells?_some (hfn i hi).1).2.2
      have hlen : (E.enc (f i)).length = E.k := E.len _
      have eA : ∀ j, (((⟨b, o, none⟩ : Addr).add (i * E.k)).add j) = ⟨b, o + i * E.k + j, none⟩ := fun j => by
        rw [Go.Deep.add_add]; simp only [Addr.add]
        by_cases h0 : i * E.k + j = 0
        · rw [if_pos h0]
          have : i * E.k = 0 := by omega
          have : j = 0 := by omega
          simp_all
        · rw [if_neg h0, Nat.add_assoc]
      have h1 := hc' 0 hk
      rw [List.getElem?_eq_getElem (by omega), eA] at h1
      have hb1 : ∃ cs T fz, w.heap[b]? = some (.cells cs T fz) := by
        unfold World.cell? at h1
        split at h1
        · rename_i cs T fz hh; exact ⟨cs, T, fz, hh⟩
        · simp at h1
      obtain ⟨cs, T, fz, hh⟩ := hb1
      refine ⟨cs, T, fz, hh, fun j v hj => ?_⟩
      have hjk : j < E.k := by have := (List.getElem?_eq_some_iff.1 hj).1; omega
      have h2 := hc' j hjk
      rw [hj, eA] at h2
      unfold World.cell? at h2
      simp only [hh] at h2
      simp only [ofs]
      simpa using h2
    · obtain ⟨i, hi, rfl⟩ := List.mem_map.1 hq
      exact (hfn i (List.mem_range.1 hi)).2
theorem u32_of_wf {n : Int} (h : (Lit.int .u32 n).wf = true) : ∃ x : UInt32, n = (x.toNat : Int) := by
  have := bounds_u32 h
  refine ⟨UInt32.ofNat n.toNat, ?_⟩
  rw [UInt32.toNat_ofNat']; omega
end
end Go.HL
namespace Go.HL
open Go Go.Deep Go.ChangeShapes Go.WideShapes
section
variable {H : Type} {enc : TypeId × Value → H} {P : Program} {w : World} {base : Nat} {spare : Nat → Bool} {held : Bool}
theorem flat_ins {e t0 t1 : TypeId} {f0 f1 f2 f3 f4 f5 f6 f7 f8 : Field} (he : P.underlying e = some (.struct #[f0, f1, f2, f3, f4, f5, f6, f7, f8]))
    (ho : [f0.offset, f1.offset, f2.offset, f3.offset, f4.offset, f5.offset, f6.offset, f7.offset, f8.offset] = [0, 1, 2, 3, 4, 5, 6, 7, 8])
    (ht : [f0.type, f1.type, f2.type, f3.type, f4.type, f5.type, f6.type, f7.type, f8.type] = [t0, t0, t1, t1, t1, t1, t1, t1, t1])
    (c0 : P.cellsOf t0 = 1) (c1 : P.cellsOf t1 = 1) (u0 : P.underlying t0 = some (.int .u32)) (u1 : P.underlying t1 = some (.int .i64))
    {n : Nat} {cs : List Value} {y : DataW H × List MemPlace} (hl : cs.length = 9) (h : DataW.trod enc P w base spare held n e cs = some y) : ∃ i, cs = encIns.enc i ∧ InsOK i := by
  simp only [List.cons.injEq, and_true] at ho ht
  obtain ⟨o0, o1, o2, o3, o4, o5, o6, o7, o8⟩ := ho
  obtain ⟨t0', t1', t2', t3', t4', t5', t6', t7', t8'⟩ := ht
  obtain ⟨xs, k, hk, hxy, _, hxl, hf⟩ := DataW.trod_struct he h
  match xs, hxl, cs, hl with
  | [y0, y1, y2, y3, y4, y5, y6, y7, y8], _, [v0, v1, v2, v3, v4, v5, v6, v7, v8], _ =>
    have g0 := hf 0 f0 rfl
    have g1 := hf 1 f1 rfl
    have g2 := hf 2 f2 rfl
    have g3 := hf 3 f3 rfl
    have g4 := hf 4 f4 rfl
    have g5 := hf 5 f5 rfl
    have g6 := hf 6 f6 rfl
    have g7 := hf 7 f7 rfl
    have g8 := hf 8 f8 rfl
    simp [o0, o1, o2, o3, o4, o5, o6, o7, o8, t0', t1', t2', t3', t4', t5', t6', t7', t8', c0, c1] at g0 g1 g2 g3 g4 g5 g6 g7 g8
    obtain ⟨z0, e0, _, w0⟩ := DataW.trod_int u0 g0
    obtain ⟨z1, e1, _, w1⟩ := DataW.trod_int u0 g1
    obtain ⟨z2, e2, _, w2⟩ := DataW.trod_int u1 g2
    obtain ⟨z3, e3, _, w3⟩ := DataW.trod_int u1 g3
    obtain ⟨z4, e4, _, w4⟩ := DataW.trod_int u1 g4
    obtain ⟨z5, e5, _, w5⟩ := DataW.trod_int u1 g5
    obtain ⟨z6, e6, _, w6⟩ := DataW.trod_int u1 g6
    obtain ⟨z7, e7, _, w7⟩ := DataW.trod_int u1 g7
    obtain ⟨z8, e8, _, w8⟩ := DataW.trod_int u1 g8
    obtain ⟨x0, rfl⟩ := u32_of_wf w0
    obtain ⟨x1, rfl⟩ := u32_of_wf w1
    simp only [List.cons.injEq, and_true] at e0 e1 e2 e3 e4 e5 e6 e7 e8
    subst e0; subst e1; subst e2; subst e3; subst e4; subst e5; subst e6; subst e7; subst e8
    have b2 := bounds_i64 w2
    have b3 := bounds_i64 w3
    have b4 := bounds_i64 w4
    have b5 := bounds_i64 w5
    have b6 := bounds_i64 w6
    have b7 := bounds_i64 w7
    have b8 := bounds_i64 w8
    exact ⟨⟨x0, x1, z2, z3, z4, z5, z6, z7, z8⟩, rfl, ⟨b2, b3, b4, b5, b6, b7, b8⟩⟩
end
end Go.HL
