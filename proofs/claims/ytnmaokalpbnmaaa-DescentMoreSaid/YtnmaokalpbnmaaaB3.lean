/- Own rules and walks, part 3. -/
import Derived.Test.YtnmaokalpbnmaaaB2
set_option linter.unusedSimpArgs false
set_option linter.unusedVariables false
set_option linter.unusedSectionVars false
namespace Go.Proofs.Ytnmaokalpbnmaaa
open Go Go.HL Go.RowKit Go.Sort
set_option maxRecDepth 100000 in
set_option maxHeartbeats 2000000 in
theorem nanU_any (a : UInt32) (w : World) :
  Calls Try.prog 131 #[.int .u32 a.toNat] w (fun e w' => e = .returned (.bool false) ∧ Ext w w') := by
 refine enter Try.func131 rfl Try.ntmps131 rfl ?_
 refine Tr.seq (Tr.region ?_)
 refine Tr.q (QS.assign rfl) rfl ?_
 refine Tr.nil (Tr.thenN (Tr.seq (Tr.region ?_)))
 refine Tr.q (QS.move rfl) rfl ?_
 refine Tr.q (QS.move rfl) rfl ?_
 refine Tr.q (QS.neq32 rfl rfl) rfl ?_
 refine Tr.q (QS.assign rfl) rfl ?_
 refine Tr.nil (Tr.thenN (Tr.ret ?_))
 refine Tr.ret1 Try.results131 rfl (fun w' hw => ?_)
 exact ⟨by simp, hw.below (Bg.le.refl _)⟩
set_option maxRecDepth 100000 in
set_option maxHeartbeats 2000000 in
theorem less_any (a b : UInt32) (w : World) :
  Calls Try.prog 118 #[.int .u32 a.toNat, .int .u32 b.toNat] w (fun e w' => e = .returned (.bool (ltW a b)) ∧ Ext w w') := by
 refine enter Try.func118 rfl Try.ntmps118 rfl ?_
 refine Tr.seq (Tr.region ?_)
 refine Tr.q (QS.assign rfl) rfl ?_
 refine Tr.nil (Tr.thenN (Tr.seq (Tr.region ?_)))
 refine Tr.q (QS.move rfl) rfl ?_
 refine Tr.q (QS.call rfl Try.call131 (fun w hw => nanU_any a w)) rfl ?_
 refine Tr.q (QS.move rfl) rfl ?_
 apply Tr.andP
 ·exact (rfl : _ = (4, 7, 11))
 ·exact rfl
 ·intro hT1; have hT1' := hT1
  try simp only [bs] at hT1'
  refine Tr.gq rfl rfl hT1 (QS.move rfl) rfl ?_
  refine Tr.gq rfl rfl hT1 (QS.call rfl Try.call131 (fun w hw => nanU_any b w)) rfl ?_
  refine Tr.gq rfl rfl hT1 (QS.not rfl) rfl ?_
  refine Tr.q (QS.pickT rfl hT1 rfl) rfl ?_
  refine Tr.nil (Tr.thenN ?_)
  exact Tr.endX (Sub.cons rfl (Sub.dropN 4 (by kernel_rfl) rfl))
 ·intro hF1
  refine Tr.gskip rfl rfl hF1 rfl ?_
  refine Tr.gskip rfl rfl hF1 rfl ?_
  refine Tr.gskip rfl rfl hF1 rfl ?_
  refine Tr.q (QS.pickF rfl hF1 rfl) rfl ?_
  refine Tr.nil (Tr.thenN ?_)
  exact Tr.endX (Sub.cons rfl (Sub.dropN 4 (by kernel_rfl) rfl))
 refine Tr.q (QS.move rfl) rfl ?_
 apply Tr.orP
 ·exact (rfl : _ = (4, 12, 16))
 ·exact rfl
 ·intro hF2; have hF2' := hF2
  try simp only [bs] at hF2'
  refine Tr.gq rfl rfl hF2 (QS.move rfl) rfl ?_
  refine Tr.gq rfl rfl hF2 (QS.move rfl) rfl ?_
  refine Tr.gq rfl rfl hF2 (QS.lss32 rfl rfl) rfl ?_
  refine Tr.q (QS.pickF rfl hF2 rfl) rfl ?_
  refine Tr.nil (Tr.thenN ?_)
  exact Tr.endX (Sub.cons rfl (Sub.dropN 4 (by kernel_rfl) rfl))
 ·intro hT2
  refine Tr.gskip rfl rfl hT2 rfl ?_
  refine Tr.gskip rfl rfl hT2 rfl ?_
  refine Tr.gskip rfl rfl hT2 rfl ?_
  refine Tr.q (QS.pickT rfl hT2 rfl) rfl ?_
  refine Tr.nil (Tr.thenN ?_)
  exact Tr.endX (Sub.cons rfl (Sub.dropN 4 (by kernel_rfl) rfl))
 refine Tr.q (QS.assign rfl) rfl ?_
 refine Tr.nil (Tr.thenN (Tr.ret ?_))
 refine Tr.ret1 Try.results118 rfl (fun w' hw => ?_)
 exact ⟨by simp [ltW], hw.below (Bg.le.refl _)⟩
set_option maxRecDepth 100000 in
set_option maxHeartbeats 4000000 in
theorem insertion_u32 (d : Array UInt32) (V : Value) (a : Nat) (b : Nat) (ai : Int) (bi : Int) (ea : ai = ((a : Nat) : Int)) (eb : bi = ((b : Nat) : Int)) (w : World) (hr : (rowE V 39 encU32 d.toList).holds w) (hd : d.size ≤ 1000000) (hab : a ≤ b) (hb : b ≤ d.size) :
  Calls Try.prog 112 #[V, .int .i64 ai, .int .i64 bi] w (fun e w' => e = .returned (.tuple #[]) ∧ Mut w w' V ∧ (rowE V 39 encU32 (insertionSort ltW d a b).toList).holds w') := by
 subst ea eb
 refine enterOwn (l := d.toList) (E := encU32) (T := 39) hr Try.func112 rfl Try.ntmps112 rfl ?_
 refine Tr.seq (Tr.region ?_)
 refine Tr.q (QS.move rfl) rfl ?_
 refine Tr.q (QS.addI rfl rfl (by omega)) rfl ?_
 refine Tr.q (QS.assign rfl) rfl ?_
 refine Tr.nil (Tr.thenN (Tr.block ?_))
 refine Tr.loop (ι := Nat × Array UInt32) (fun ⟨i, cur⟩ => a + 1 ≤ i ∧ cur.size = d.size ∧ insOuter ltW a b i cur = insertionSort ltW d a b) (fun _ => _) (fun ⟨i, cur⟩ => [rowE V 39 encU32 cur.toList]) (fun ⟨i, cur⟩ => [(6, .int .i64 (i : Nat))]) (fun ⟨i, cur⟩ => b - i) (a + 1, d) ⟨Nat.le_refl _, rfl, rfl⟩ (.cons (by first | rfl | exact lookI rfl (by omega) | exact lookI rfl (by simp) | exact lookB rfl (by simp)) Front.nil) (by repeat' constructor) rfl (fun i hi m hm => ?_)
 obtain ⟨i, cur⟩ := i
 replace hi : a + 1 ≤ i ∧ cur.size = d.size ∧ insOuter ltW a b i cur = insertionSort ltW d a b := hi
 replace hm : m = b - i := hm
 change Tr _ _ [rowE V 39 encU32 cur.toList] ([(6, .int .i64 (i : Nat))] ++ _) _
 obtain ⟨hi1, hi2, hi3⟩ := hi
 have hcl : cur.toList.length = d.size := by rw [Array.length_toList]; exact hi2
 refine Tr.seq (Tr.seq (Tr.region ?_))
 refine Tr.q (QS.move rfl) rfl ?_
 refine Tr.q (QS.move rfl) rfl ?_
 refine Tr.q (QS.lss rfl rfl) rfl ?_
 refine Tr.nil (Tr.thenN ?_)
 refine Tr.cond rfl (fun h1 => ?_) (fun h1 => ?_)
 ·try simp only [bs] at h1
  refine Tr.skip (Tr.thenN (Tr.seq (Tr.block (Tr.seq (Tr.region ?_)))))
  refine Tr.q (QS.move rfl) rfl ?_
  refine Tr.q (QS.assign rfl) rfl ?_
  refine Tr.nil (Tr.thenN (Tr.block ?_))
  refine Tr.loop (ι := Nat × Array UInt32) (fun ⟨j, c2⟩ => j ≤ i ∧ c2.size = d.size ∧ insInner ltW a j c2 = insInner ltW a i cur) (fun _ => _) (fun ⟨j, c2⟩ => [rowE V 39 encU32 c2.toList]) (fun ⟨j, c2⟩ => [(7, .int .i64 (j : Nat))]) (fun ⟨j, c2⟩ => j) (i, cur) ⟨Nat.le_refl _, hi2, rfl⟩ (.cons (by first | rfl | exact lookI rfl (by omega) | exact lookI rfl (by simp) | exact lookB rfl (by simp)) Front.nil) (by repeat' constructor) rfl (fun i hi m hm => ?_)
  obtain ⟨j, c2⟩ := i
  replace hi : j ≤ i ∧ c2.size = d.size ∧ insInner ltW a j c2 = insInner ltW a i cur := hi
  replace hm : m = j := hm
  change Tr _ _ [rowE V 39 encU32 c2.toList] ([(7, .int .i64 (j : Nat))] ++ _) _
  obtain ⟨hj1, hj2, hj3⟩ := hi
  have ej : ((j : Int) - 1).toNat = j - 1 := by omega
  have hc2 : c2.toList.length = d.size := by rw [Array.length_toList]; exact hj2
  refine Tr.seq (Tr.seq ?_)
  refine Tr.regionQ HLF.mixed (by kernel_rfl) ?_
  refine TrQ.q (QS.move rfl) rfl ?_
  refine TrQ.q (QS.move rfl) rfl ?_
  refine TrQ.q (QS.gtr rfl rfl) rfl ?_
  refine TrQ.q (QS.move rfl) rfl ?_
  apply TrQ.andP
  ·exact (rfl : _ = (11, 19, 30))
  ·exact rfl
  ·intro hT2; have hT2' := hT2
   try simp only [bs] at hT2'
   refine TrQ.gq rfl rfl hT2 (QS.move rfl) rfl ?_
   refine TrQ.gq rfl rfl hT2 (QS.move rfl) rfl ?_
   refine TrQ.gq rfl rfl hT2 (QS.idxRowN rfl rfl (by repeat constructor) Try.underlying23 Try.sizeOf39 (by rfl) (by omega)) rfl ?_
   refine TrQ.gq rfl rfl hT2 (QS.elR1 rfl (by repeat constructor) Try.isAgg39 (by omega) (by rfl)) rfl ?_
   refine TrQ.gq rfl rfl hT2 (QS.move rfl) rfl ?_
   refine TrQ.gq rfl rfl hT2 (QS.move rfl) rfl ?_
   refine TrQ.gq rfl rfl hT2 (QS.subI rfl rfl (by omega)) rfl ?_
   refine TrQ.gq rfl rfl hT2 (QS.idxRow rfl rfl (by repeat constructor) Try.underlying23 Try.sizeOf39 (by rfl) (by omega)) rfl ?_
   refine TrQ.gq rfl rfl hT2 (QS.elR1 rfl (by repeat constructor) Try.isAgg39 (by omega) (by rfl)) rfl ?_
   refine TrQ.gq rfl rfl hT2 (QS.call rfl Try.call118 (fun w hw => less_any (c2.toList.getD (j) default) (c2.toList.getD (((j : Int) - 1).toNat) default) w)) rfl ?_
   refine TrQ.q (QS.pickT rfl hT2 rfl) rfl ?_
   exact TrQ.end (Sub.cons rfl (Sub.dropN 11 (by kernel_rfl) rfl))
  ·intro hF2
   refine TrQ.gskip rfl rfl hF2 rfl ?_
   refine TrQ.gskip rfl rfl hF2 rfl ?_
   refine TrQ.gskip rfl rfl hF2 rfl ?_
   refine TrQ.gskip rfl rfl hF2 rfl ?_
   refine TrQ.gskip rfl rfl hF2 rfl ?_
   refine TrQ.gskip rfl rfl hF2 rfl ?_
   refine TrQ.gskip rfl rfl hF2 rfl ?_
   refine TrQ.gskip rfl rfl hF2 rfl ?_
   refine TrQ.gskip rfl rfl hF2 rfl ?_
   refine TrQ.gskip rfl rfl hF2 rfl ?_
   refine TrQ.q (QS.pickF rfl hF2 rfl) rfl ?_
   exact TrQ.end (Sub.cons rfl (Sub.dropN 11 (by kernel_rfl) rfl))
  refine TrQ.nil ?_
  refine Tr.thenN ?_
  refine Tr.cond rfl (fun h3 => ?_) (fun h3 => ?_)
  ·try simp only [bs] at h3
   refine Tr.skip (Tr.thenN (Tr.seq (Tr.block ?_)))
   refine Tr.regionT 5 15 HLF.mixed (by kernel_rfl) (panicIn (panicThen (panicThen (panicIn (panicIn (panicThen (panicThen (panicIn panicBody)))))))) ?_
   refine TrQ.pureMove rfl rfl ?_
   refine TrQ.pureMove rfl rfl ?_
   refine TrQ.pureMove rfl rfl ?_
   refine TrQ.pureMove rfl rfl ?_
   refine TrQ.pureQ (fun _ => QS.subI rfl rfl (by omega)) (by rfl) rfl ?_
   refine TrQ.pureNil ?_
   refine TrQ.q (QS.move rfl) rfl ?_
   refine TrQ.q (QS.move rfl) rfl ?_
   refine TrQ.q (QS.subI rfl rfl (by omega)) rfl ?_
   refine TrQ.q (QS.idxRow rfl rfl (by repeat constructor) Try.underlying23 Try.sizeOf39 (by rfl) (by omega)) rfl ?_
   refine TrQ.q (QS.elR1 rfl (by repeat constructor) Try.isAgg39 (by omega) (by rfl)) rfl ?_
   refine TrQ.q (QS.move rfl) rfl ?_
   refine TrQ.q (QS.move rfl) rfl ?_
   refine TrQ.q (QS.idxRowN rfl rfl (by repeat constructor) Try.underlying23 Try.sizeOf39 (by rfl) (by omega)) rfl ?_
   refine TrQ.q (QS.elR1 rfl (by repeat constructor) Try.isAgg39 (by omega) (by rfl)) rfl ?_
   refine TrQ.q (QS.idxRowN rfl rfl (by repeat constructor) Try.underlying23 Try.sizeOf39 (by rfl) (by omega)) rfl ?_
   refine TrQ.nil ?_
   refine Tr.storeEl (l := c2.toList) (i := j) (c2.toList.getD (((j : Int) - 1).toNat) default) rfl rfl Try.sizeOf39 (by repeat constructor) (by (try simp only [List.length_set]); omega) (by rfl) rfl ?_
   have hls4 : (List.set c2.toList (j) (c2.toList.getD (((j : Int) - 1).toNat) default)).length = (c2.toList).length := List.length_set
   refine Tr.q (QS.idxRow rfl rfl (by repeat constructor) Try.underlying23 Try.sizeOf39 (by rfl) (by omega)) rfl ?_
   refine Tr.storeEl (l := (c2.toList.set (j) (c2.toList.getD (((j : Int) - 1).toNat) default))) (i := ((j : Int) - 1).toNat) (c2.toList.getD (j) default) rfl rfl Try.sizeOf39 (by repeat constructor) (by (try simp only [List.length_set]); omega) (by rfl) rfl ?_
   have hls5 : (List.set (c2.toList.set (j) (c2.toList.getD (((j : Int) - 1).toNat) default)) (((j : Int) - 1).toNat) (c2.toList.getD (j) default)).length = ((c2.toList.set (j) (c2.toList.getD (((j : Int) - 1).toNat) default))).length := List.length_set
   refine Tr.nil (Tr.inN (Tr.thenN (Tr.region ?_)))
   refine Tr.q (QS.move rfl) rfl ?_
   refine Tr.q (QS.subI rfl rfl (by omega)) rfl ?_
   refine Tr.q (QS.assign rfl) rfl ?_
   refine Tr.nil (Tr.thenN ?_)
   rw [ej, bang, bang, set_swp]
   apply Tr.again (j - 1, _)
   ·exact rfl
   ·exact (.cons (by first | rfl | exact lookI rfl (by omega) | exact lookI rfl (by simp) | exact lookB rfl (by simp)) Front.nil)
   ·exact SubX.dropN 25 (by kernel_rfl) rfl
   ·exact (by repeat' constructor)
   ·exact ⟨by omega, by rw [swpW]; exact hj2, by rw [← hj3]; exact (own_insInner_go (d := c2) (a := a) (j := j) (by omega) (by have q := h3.2; rw [bang, bang, ej] at q; exact q)).symm⟩
   ·exact (by (try dsimp only); omega)
  ·try simp only [bs] at h3
   refine Tr.exit ?_
   refine Tr.thenE (Tr.thenE (Tr.inHit (Tr.inN (Tr.thenN (Tr.region ?_)))))
   refine Tr.q (QS.move rfl) rfl ?_
   refine Tr.q (QS.addI rfl rfl (by omega)) rfl ?_
   refine Tr.q (QS.assign rfl) rfl ?_
   refine Tr.nil (Tr.thenN ?_)
   have hst : insInner ltW a j c2 = c2 := own_insInner_stop (by
    rcases h3 with q | q
    ·exact .inl (by omega)
    ·rw [bang, bang, ej] at q; exact .inr q)
   rw [hst] at hj3
   apply Tr.again (i + 1, c2)
   ·exact rfl
   ·exact (.cons (by first | rfl | exact lookI rfl (by omega) | exact lookI rfl (by simp) | exact lookB rfl (by simp)) Front.nil)
   ·exact SubX.dropN 15 (by kernel_rfl) rfl
   ·exact (by repeat' constructor)
   ·exact ⟨by omega, hj2, by rw [hj3, ← insOuter_lt (by omega)]; exact hi3⟩
   ·exact (by (try dsimp only); omega)
 ·try simp only [bs] at h1
  refine Tr.exit ?_
  refine Tr.thenE (Tr.thenE (Tr.inHit ?_))
  refine Tr.ret0n Try.results112 (fun w' hw => ?_)
  rw [insOuter_ge (by omega)] at hi3
  exact ⟨rfl, by rw [← hi3]; exact HpOK.mutOwn hw (.head _) rfl⟩
set_option maxRecDepth 100000 in
set_option maxHeartbeats 4000000 in
theorem sift_u32 (d : Array UInt32) (V : Value) (lo : Nat) (top : Nat) (f : Nat) (loi : Int) (topi : Int) (fi : Int) (elo : loi = ((lo : Nat) : Int)) (etop : topi = ((top : Nat) : Int)) (ef : fi = ((f : Nat) : Int)) (w : World) (hr : (rowE V 39 encU32 d.toList).holds w) (hd : d.size ≤ 1000000) (hlo : lo ≤ 1000000) (hb : f + top ≤ d.size) :
  Calls Try.prog 126 #[V, .int .i64 loi, .int .i64 topi, .int .i64 fi] w (fun e w' => e = .returned (.tuple #[]) ∧ Mut w w' V ∧ (rowE V 39 encU32 (siftDown ltW top f lo d).toList).holds w') := by
 subst elo etop ef
 refine enterOwn (l := d.toList) (E := encU32) (T := 39) hr Try.func126 rfl Try.ntmps126 rfl ?_
 refine Tr.seq (Tr.region ?_)
 refine Tr.q (QS.move rfl) rfl ?_
 refine Tr.q (QS.assign rfl) rfl ?_
 refine Tr.nil (Tr.thenN (Tr.block ?_))
 refine Tr.loop (ι := Nat × Array UInt32) (fun ⟨r, cur⟩ => r ≤ 1000000 ∧ cur.size = d.size ∧ siftDown ltW top f r cur = siftDown ltW top f lo d) (fun _ => _) (fun ⟨r, cur⟩ => [rowE V 39 encU32 cur.toList]) (fun ⟨r, cur⟩ => [(8, .int .i64 (r : Nat))]) (fun ⟨r, cur⟩ => top - r) (lo, d) ⟨hlo, rfl, rfl⟩ (.cons (by first | rfl | exact lookI rfl (by omega) | exact lookI rfl (by simp) | exact lookB rfl (by simp)) Front.nil) (by repeat' constructor) rfl (fun i hi m hm => ?_)
 obtain ⟨r, cur⟩ := i
 replace hi : r ≤ 1000000 ∧ cur.size = d.size ∧ siftDown ltW top f r cur = siftDown ltW top f lo d := hi
 replace hm : m = top - r := hm
 change Tr _ _ [rowE V 39 encU32 cur.toList] ([(8, .int .i64 (r : Nat))] ++ _) _
 obtain ⟨hr1, hr2, hr3⟩ := hi
 have hcl : cur.toList.length = d.size := by rw [Array.length_toList]; exact hr2
 refine Tr.block (Tr.seq (Tr.region ?_))
 refine Tr.q (QS.move rfl) rfl ?_
 refine Tr.q (QS.mulI rfl rfl (by omega)) rfl ?_
 refine Tr.q (QS.addI rfl rfl (by omega)) rfl ?_
 refine Tr.q (QS.assign rfl) rfl ?_
 refine Tr.nil (Tr.thenN (Tr.seq (Tr.seq (Tr.region ?_))))
 refine Tr.q (QS.move rfl) rfl ?_
 refine Tr.q (QS.move rfl) rfl ?_
 refine Tr.q (QS.geq rfl rfl) rfl ?_
 refine Tr.nil (Tr.thenN ?_)
 refine Tr.cond rfl (fun h1 => ?_) (fun h1 => ?_)
 ·try simp only [bs] at h1
  refine Tr.exit ?_
  refine Tr.thenE ?_
  refine Tr.inMiss rfl ?_
  refine Tr.thenE (Tr.inHit ?_)
  refine Tr.ret0n Try.results126 (fun w' hw => ?_)
  rw [sift_end (by omega)] at hr3
  exact ⟨rfl, by rw [← hr3]; exact HpOK.mutOwn hw (.head _) rfl⟩
 ·try simp only [bs] at h1
  refine Tr.skip (Tr.thenN ?_)
  refine Tr.seqJ (ι := Nat) (fun c => (2 * r + 1 ≤ c ∧ c < top) ∧ siftDown ltW top f r cur = if ltW cur[f + r]! cur[f + c]! = true then siftDown ltW top f c (swp cur (f + r) (f + c)) else cur) (fun _ => Bg.less w V) (fun c => [rowE V 39 encU32 cur.toList]) (fun c => [(9, .int .i64 (c : Nat))]) ?_ (fun c hi => ?_)
  ·skip
   refine Tr.seq ?_
   refine Tr.regionQ HLF.mixed (by kernel_rfl) ?_
   refine TrQ.q (QS.move rfl) rfl ?_
   refine TrQ.q (QS.addI rfl rfl (by omega)) rfl ?_
   refine TrQ.q (QS.move rfl) rfl ?_
   refine TrQ.q (QS.lss rfl rfl) rfl ?_
   refine TrQ.q (QS.move rfl) rfl ?_
   apply TrQ.andP
   ·exact (rfl : _ = (15, 21, 36))
   ·exact rfl
   ·intro hT2; have hT2' := hT2
    try simp only [bs] at hT2'
    refine TrQ.gq rfl rfl hT2 (QS.move rfl) rfl ?_
    refine TrQ.gq rfl rfl hT2 (QS.move rfl) rfl ?_
    refine TrQ.gq rfl rfl hT2 (QS.move rfl) rfl ?_
    refine TrQ.gq rfl rfl hT2 (QS.addI rfl rfl (by omega)) rfl ?_
    refine TrQ.gq rfl rfl hT2 (QS.idxRow rfl rfl (by repeat constructor) Try.underlying23 Try.sizeOf39 (by rfl) (by omega)) rfl ?_
    refine TrQ.gq rfl rfl hT2 (QS.elR1 rfl (by repeat constructor) Try.isAgg39 (by omega) (by rfl)) rfl ?_
    refine TrQ.gq rfl rfl hT2 (QS.move rfl) rfl ?_
    refine TrQ.gq rfl rfl hT2 (QS.move rfl) rfl ?_
    refine TrQ.gq rfl rfl hT2 (QS.move rfl) rfl ?_
    refine TrQ.gq rfl rfl hT2 (QS.addI rfl rfl (by omega)) rfl ?_
    refine TrQ.gq rfl rfl hT2 (QS.addI rfl rfl (by omega)) rfl ?_
    refine TrQ.gq rfl rfl hT2 (QS.idxRow rfl rfl (by repeat constructor) Try.underlying23 Try.sizeOf39 (by rfl) (by omega)) rfl ?_
    refine TrQ.gq rfl rfl hT2 (QS.elR1 rfl (by repeat constructor) Try.isAgg39 (by omega) (by rfl)) rfl ?_
    refine TrQ.gq rfl rfl hT2 (QS.call rfl Try.call118 (fun w hw => less_any (cur.toList.getD (f + (2 * r + 1)) default) (cur.toList.getD (f + (2 * r + 1) + 1) default) w)) rfl ?_
    refine TrQ.q (QS.pickT rfl hT2 rfl) rfl ?_
    exact TrQ.end (Sub.cons rfl (Sub.dropN 15 (by kernel_rfl) rfl))
   ·intro hF2
    refine TrQ.gskip rfl rfl hF2 rfl ?_
    refine TrQ.gskip rfl rfl hF2 rfl ?_
    refine TrQ.gskip rfl rfl hF2 rfl ?_
    refine TrQ.gskip rfl rfl hF2 rfl ?_
    refine TrQ.gskip rfl rfl hF2 rfl ?_
    refine TrQ.gskip rfl rfl hF2 rfl ?_
    refine TrQ.gskip rfl rfl hF2 rfl ?_
    refine TrQ.gskip rfl rfl hF2 rfl ?_
    refine TrQ.gskip rfl rfl hF2 rfl ?_
    refine TrQ.gskip rfl rfl hF2 rfl ?_
    refine TrQ.gskip rfl rfl hF2 rfl ?_
    refine TrQ.gskip rfl rfl hF2 rfl ?_
    refine TrQ.gskip rfl rfl hF2 rfl ?_
    refine TrQ.gskip rfl rfl hF2 rfl ?_
    refine TrQ.q (QS.pickF rfl hF2 rfl) rfl ?_
    exact TrQ.end (Sub.cons rfl (Sub.dropN 15 (by kernel_rfl) rfl))
   refine TrQ.nil ?_
   refine Tr.thenN ?_
   refine Tr.cond rfl (fun h3 => ?_) (fun h3 => ?_)
   ·try simp only [bs] at h3
    refine Tr.region ?_
    refine Tr.q (QS.move rfl) rfl ?_
    refine Tr.q (QS.addI rfl rfl (by omega)) rfl ?_
    refine Tr.q (QS.assign rfl) rfl ?_
    refine Tr.nil (Tr.thenN ?_)
    apply Tr.joined (2 * r + 2)
    ·exact rfl
    ·exact (.cons (by first | rfl | exact lookI rfl (by omega) | exact lookI rfl (by simp) | exact lookB rfl (by simp)) Front.nil)
    ·exact SubX.dropN 9 (by kernel_rfl) rfl
    ·exact (by repeat' constructor)
    ·exact ⟨by omega, sift_r (by omega) (by rw [← bang, ← bang]; exact h3.2)⟩
   ·try simp only [bs] at h3
    refine Tr.skip (Tr.thenN ?_)
    apply Tr.joined (2 * r + 1)
    ·exact rfl
    ·exact (.cons (by first | rfl | exact lookI rfl (by omega) | exact lookI rfl (by simp) | exact lookB rfl (by simp)) Front.nil)
    ·exact SubX.dropN 6 (by kernel_rfl) rfl
    ·exact (by repeat' constructor)
    ·exact ⟨by omega, sift_l (by omega) (by
      rcases h3 with q | q
      ·exact .inl (by omega)
      ·exact .inr (by rw [← bang, ← bang]; exact q))⟩
  ·skip
   replace hi : (2 * r + 1 ≤ c ∧ c < top) ∧ siftDown ltW top f r cur = if ltW cur[f + r]! cur[f + c]! = true then siftDown ltW top f c (swp cur (f + r) (f + c)) else cur := hi
   change Tr _ _ [rowE V 39 encU32 cur.toList] ([(9, .int .i64 (c : Nat))] ++ _) _
   obtain ⟨hc1, hc2⟩ := hi
   refine Tr.seq (Tr.seq ?_)
   refine Tr.regionQ HLF.mixed (by kernel_rfl) ?_
   refine TrQ.q (QS.move rfl) rfl ?_
   refine TrQ.q (QS.move rfl) rfl ?_
   refine TrQ.q (QS.move rfl) rfl ?_
   refine TrQ.q (QS.addI rfl rfl (by omega)) rfl ?_
   refine TrQ.q (QS.idxRowN rfl rfl (by repeat constructor) Try.underlying23 Try.sizeOf39 (by rfl) (by omega)) rfl ?_
   refine TrQ.q (QS.elR1 rfl (by repeat constructor) Try.isAgg39 (by omega) (by rfl)) rfl ?_
   refine TrQ.q (QS.move rfl) rfl ?_
   refine TrQ.q (QS.move rfl) rfl ?_
   refine TrQ.q (QS.move rfl) rfl ?_
   refine TrQ.q (QS.addI rfl rfl (by omega)) rfl ?_
   refine TrQ.q (QS.idxRowN rfl rfl (by repeat constructor) Try.underlying23 Try.sizeOf39 (by rfl) (by omega)) rfl ?_
   refine TrQ.q (QS.elR1 rfl (by repeat constructor) Try.isAgg39 (by omega) (by rfl)) rfl ?_
   refine TrQ.q (QS.call rfl Try.call118 (fun w hw => less_any (cur.toList.getD (f + r) default) (cur.toList.getD (f + c) default) w)) rfl ?_
   refine TrQ.q (QS.not rfl) rfl ?_
   refine TrQ.nil ?_
   refine Tr.thenN ?_
   refine Tr.cond rfl (fun h4 => ?_) (fun h4 => ?_)
   ·try simp only [bs] at h4
    refine Tr.ret (Tr.thenR ?_)
    refine Tr.inR ?_
    refine Tr.thenR ?_
    refine Tr.inR ?_
    refine Tr.ret0 Try.results126 (fun w' hw => ?_)
    rw [if_neg (by rw [← bang, ← bang]; simp_all)] at hc2
    exact ⟨rfl, by rw [← hr3, hc2]; exact HpOK.mutOwn hw (.head _) rfl⟩
   ·try simp only [bs] at h4
    refine Tr.skip (Tr.thenN (Tr.seq ?_))
    refine Tr.regionT 8 21 HLF.mixed (by kernel_rfl) (panicThen (panicIn (panicThen (panicIn panicBody)))) ?_
    refine TrQ.pureMove rfl rfl ?_
    refine TrQ.pureMove rfl rfl ?_
    refine TrQ.pureMove rfl rfl ?_
    refine TrQ.pureQ (fun _ => QS.addI rfl rfl (by omega)) (by rfl) rfl ?_
    refine TrQ.pureMove rfl rfl ?_
    refine TrQ.pureMove rfl rfl ?_
    refine TrQ.pureMove rfl rfl ?_
    refine TrQ.pureQ (fun _ => QS.addI rfl rfl (by omega)) (by rfl) rfl ?_
    refine TrQ.pureNil ?_
    refine TrQ.q (QS.move rfl) rfl ?_
    refine TrQ.q (QS.move rfl) rfl ?_
    refine TrQ.q (QS.move rfl) rfl ?_
    refine TrQ.q (QS.addI rfl rfl (by omega)) rfl ?_
    refine TrQ.q (QS.idxRowN rfl rfl (by repeat constructor) Try.underlying23 Try.sizeOf39 (by rfl) (by omega)) rfl ?_
    refine TrQ.q (QS.elR1 rfl (by repeat constructor) Try.isAgg39 (by omega) (by rfl)) rfl ?_
    refine TrQ.q (QS.move rfl) rfl ?_
    refine TrQ.q (QS.move rfl) rfl ?_
    refine TrQ.q (QS.move rfl) rfl ?_
    refine TrQ.q (QS.addI rfl rfl (by omega)) rfl ?_
    refine TrQ.q (QS.idxRowN rfl rfl (by repeat constructor) Try.underlying23 Try.sizeOf39 (by rfl) (by omega)) rfl ?_
    refine TrQ.q (QS.elR1 rfl (by repeat constructor) Try.isAgg39 (by omega) (by rfl)) rfl ?_
    refine TrQ.q (QS.idxRowN rfl rfl (by repeat constructor) Try.underlying23 Try.sizeOf39 (by rfl) (by omega)) rfl ?_
    refine TrQ.nil ?_
    refine Tr.storeEl (l := cur.toList) (i := f + r) (cur.toList.getD (f + c) default) rfl rfl Try.sizeOf39 (by repeat constructor) (by (try simp only [List.length_set]); omega) (by rfl) rfl ?_
    have hls5 : (List.set cur.toList (f + r) (cur.toList.getD (f + c) default)).length = (cur.toList).length := List.length_set
    refine Tr.q (QS.idxRowN rfl rfl (by repeat constructor) Try.underlying23 Try.sizeOf39 (by rfl) (by omega)) rfl ?_
    refine Tr.storeEl (l := (cur.toList.set (f + r) (cur.toList.getD (f + c) default))) (i := f + c) (cur.toList.getD (f + r) default) rfl rfl Try.sizeOf39 (by repeat constructor) (by (try simp only [List.length_set]); omega) (by rfl) rfl ?_
    have hls6 : (List.set (cur.toList.set (f + r) (cur.toList.getD (f + c) default)) (f + c) (cur.toList.getD (f + r) default)).length = ((cur.toList.set (f + r) (cur.toList.getD (f + c) default))).length := List.length_set
    refine Tr.nil (Tr.thenN (Tr.region ?_))
    refine Tr.q (QS.move rfl) rfl ?_
    refine Tr.q (QS.assign rfl) rfl ?_
    refine Tr.nil (Tr.inN (Tr.thenN ?_))
    rw [bang, bang, set_swp]
    have hst := hc2
    rw [if_pos (by rw [← bang, ← bang]; simp_all)] at hst
    apply Tr.again (c, _)
    ·exact rfl
    ·exact (.cons (by first | rfl | exact lookI rfl (by omega) | exact lookI rfl (by simp) | exact lookB rfl (by simp)) Front.nil)
    ·exact SubX.dropN 47 (by kernel_rfl) rfl
    ·exact (by repeat' constructor)
    ·exact ⟨by omega, by rw [swpW]; exact hr2, by rw [← hr3]; exact hst.symm⟩
    ·exact (by (try dsimp only); omega)
set_option maxRecDepth 100000 in
set_option maxHeartbeats 4000000 in
theorem heap_u32 (d : Array UInt32) (V : Value) (a : Nat) (b : Nat) (ai : Int) (bi : Int) (ea : ai = ((a : Nat) : Int)) (eb : bi = ((b : Nat) : Int)) (w : World) (hr : (rowE V 39 encU32 d.toList).holds w) (hd : d.size ≤ 1000000) (hab : a < b) (hb : b ≤ d.size) :
  Calls Try.prog 113 #[V, .int .i64 ai, .int .i64 bi] w (fun e w' => e = .returned (.tuple #[]) ∧ Mut w w' V ∧ (rowE V 39 encU32 (heapSort ltW d a b).toList).holds w') := by
 subst ea eb
 obtain ⟨n, hn⟩ : ∃ n, n = b - a := ⟨_, rfl⟩
 obtain ⟨d0, hd0⟩ : ∃ x, x = heapBuild ltW n a ((n - 1) / 2 + 1) d := ⟨_, rfl⟩
 have hhs : heapSort ltW d a b = heapPop ltW a n d0 := by rw [hd0, hn]; rfl
 refine enterOwn (l := d.toList) (E := encU32) (T := 39) hr Try.func113 rfl Try.ntmps113 rfl ?_
 refine Tr.seq (Tr.region ?_)
 refine Tr.q (QS.move rfl) rfl ?_
 refine Tr.q (QS.assign rfl) rfl ?_
 refine Tr.nil (Tr.thenN (Tr.seq (Tr.region ?_)))
 refine Tr.q (QS.assign rfl) rfl ?_
 refine Tr.nil (Tr.thenN (Tr.seq (Tr.region ?_)))
 refine Tr.q (QS.move rfl) rfl ?_
 refine Tr.q (QS.move rfl) rfl ?_
 refine Tr.q (QS.subI rfl rfl (by omega)) rfl ?_
 refine Tr.q (QS.assign rfl) rfl ?_
 refine Tr.nil (Tr.thenN (Tr.seq (Tr.seq ?_)))
 rw [show ((b : Nat) : Int) - ((a : Nat) : Int) = ((n : Nat) : Int) by omega]
 refine Tr.region ?_
 refine Tr.q (QS.move rfl) rfl ?_
 refine Tr.q (QS.subI rfl rfl (by omega)) rfl ?_
 refine Tr.q (QS.quoI rfl rfl (by omega)) rfl ?_
 refine Tr.q (QS.assign rfl) rfl ?_
 refine Tr.nil (Tr.thenN (Tr.block ?_))
 refine Tr.loop (ι := Nat × Array UInt32) (fun ⟨k, cur⟩ => k ≤ (n - 1) / 2 + 1 ∧ cur.size = d.size ∧ heapBuild ltW n a k cur = d0) (fun _ => _) (fun ⟨k, cur⟩ => [rowE V 39 encU32 cur.toList]) (fun ⟨k, cur⟩ => [(9, .int .i64 ((k : Int) - 1))]) (fun ⟨k, cur⟩ => k) ((n - 1) / 2 + 1, d) ⟨Nat.le_refl _, rfl, hd0.symm⟩ (.cons (by first | rfl | exact lookI rfl (by omega) | exact lookI rfl (by simp) | exact lookB rfl (by simp)) Front.nil) (by repeat' constructor) rfl (fun i hi m hm => ?_)
 obtain ⟨k, cur⟩ := i
 replace hi : k ≤ (n - 1) / 2 + 1 ∧ cur.size = d.size ∧ heapBuild ltW n a k cur = d0 := hi
 replace hm : m = k := hm
 change Tr _ _ [rowE V 39 encU32 cur.toList] ([(9, .int .i64 ((k : Int) - 1))] ++ _) _
 obtain ⟨hk1, hk2, hk3⟩ := hi
 have hcl : cur.toList.length = d.size := by rw [Array.length_toList]; exact hk2
 refine Tr.seq (Tr.seq (Tr.region ?_))
 refine Tr.q (QS.move rfl) rfl ?_
 refine Tr.q (QS.geq rfl rfl) rfl ?_
 refine Tr.nil (Tr.thenN ?_)
 refine Tr.cond rfl (fun h1 => ?_) (fun h1 => ?_)
 ·try simp only [bs] at h1
  refine Tr.skip (Tr.thenN (Tr.seq (Tr.block (Tr.region ?_))))
  refine Tr.q (QS.move rfl) rfl ?_
  refine Tr.q (QS.move rfl) rfl ?_
  refine Tr.q (QS.move rfl) rfl ?_
  refine Tr.q (QS.move rfl) rfl ?_
  refine Tr.callMut rfl Try.call126 (by repeat constructor) (fun w hw => sift_u32 cur V (k - 1) n a _ _ _ (by omega) (by omega) (by omega) w (hw.ent _ (.head _)) (by omega) (by omega) (by omega)) rfl ?_
  refine Tr.nil (Tr.inN (Tr.thenN (Tr.region ?_)))
  refine Tr.q (QS.move rfl) rfl ?_
  refine Tr.q (QS.subI rfl rfl (by omega)) rfl ?_
  refine Tr.q (QS.assign rfl) rfl ?_
  refine Tr.nil (Tr.thenN ?_)
  have hst : heapBuild ltW n a (k - 1) (siftDown ltW n a (k - 1) cur) = d0 := by
   obtain ⟨q, rfl⟩ : ∃ q, k = q + 1 := ⟨k - 1, by omega⟩
   exact hk3
  apply Tr.again (k - 1, _)
  ·exact rfl
  ·exact (.cons (by first | rfl | exact lookI rfl (by omega) | exact lookI rfl (by simp) | exact lookB rfl (by simp)) Front.nil)
  ·exact SubX.dropN 11 (by kernel_rfl) rfl
  ·exact (by repeat' constructor)
  ·exact ⟨by omega, by rw [siftW]; exact hk2, hst⟩
  ·exact (by (try dsimp only); omega)
 ·try simp only [bs] at h1
  refine Tr.exit ?_
  refine Tr.thenE (Tr.thenE (Tr.inHit (Tr.thenN (Tr.seq ?_))))
  obtain rfl : k = 0 := by omega
  have hd1 : cur = d0 := hk3
  subst hd1
  refine Tr.region ?_
  refine Tr.q (QS.move rfl) rfl ?_
  refine Tr.q (QS.subI rfl rfl (by omega)) rfl ?_
  refine Tr.q (QS.assign rfl) rfl ?_
  refine Tr.nil (Tr.thenN (Tr.block ?_))
  refine Tr.loop (ι := Nat × Array UInt32) (fun ⟨k, cur⟩ => k ≤ n ∧ cur.size = d.size ∧ heapPop ltW a k cur = heapSort ltW d a b) (fun _ => _) (fun ⟨k, cur⟩ => [rowE V 39 encU32 cur.toList]) (fun ⟨k, cur⟩ => [(10, .int .i64 ((k : Int) - 1))]) (fun ⟨k, cur⟩ => k) (n, _) ⟨Nat.le_refl _, hk2, hhs.symm⟩ (.cons (by first | rfl | exact lookI rfl (by omega) | exact lookI rfl (by simp) | exact lookB rfl (by simp)) Front.nil) (by repeat' constructor) rfl (fun i hi m hm => ?_)
  obtain ⟨k, cur⟩ := i
  replace hi : k ≤ n ∧ cur.size = d.size ∧ heapPop ltW a k cur = heapSort ltW d a b := hi
  replace hm : m = k := hm
  change Tr _ _ [rowE V 39 encU32 cur.toList] ([(10, .int .i64 ((k : Int) - 1))] ++ _) _
  obtain ⟨hk1, hk2, hk3⟩ := hi
  have hcl : cur.toList.length = d.size := by rw [Array.length_toList]; exact hk2
  have ek : ((a : Int) + ((k : Int) - 1)).toNat = a + (k - 1) ∨ k = 0 := by omega
  refine Tr.seq (Tr.seq (Tr.region ?_))
  refine Tr.q (QS.move rfl) rfl ?_
  refine Tr.q (QS.geq rfl rfl) rfl ?_
  refine Tr.nil (Tr.thenN ?_)
  refine Tr.cond rfl (fun h2 => ?_) (fun h2 => ?_)
  ·try simp only [bs] at h2
   refine Tr.skip (Tr.thenN (Tr.seq (Tr.block (Tr.seq ?_))))
   refine Tr.regionT 6 17 HLF.mixed (by kernel_rfl) (panicThen (panicIn (panicThen (panicThen (panicIn panicBody))))) ?_
   refine TrQ.pureMove rfl rfl ?_
   refine TrQ.pureMove rfl rfl ?_
   refine TrQ.pureMove rfl rfl ?_
   refine TrQ.pureMove rfl rfl ?_
   refine TrQ.pureMove rfl rfl ?_
   refine TrQ.pureQ (fun _ => QS.addI rfl rfl (by omega)) (by rfl) rfl ?_
   refine TrQ.pureNil ?_
   refine TrQ.q (QS.move rfl) rfl ?_
   refine TrQ.q (QS.move rfl) rfl ?_
   refine TrQ.q (QS.move rfl) rfl ?_
   refine TrQ.q (QS.addI rfl rfl (by omega)) rfl ?_
   refine TrQ.q (QS.idxRow rfl rfl (by repeat constructor) Try.underlying23 Try.sizeOf39 (by rfl) (by omega)) rfl ?_
   refine TrQ.q (QS.elR1 rfl (by repeat constructor) Try.isAgg39 (by omega) (by rfl)) rfl ?_
   refine TrQ.q (QS.move rfl) rfl ?_
   refine TrQ.q (QS.move rfl) rfl ?_
   refine TrQ.q (QS.idxRowN rfl rfl (by repeat constructor) Try.underlying23 Try.sizeOf39 (by rfl) (by omega)) rfl ?_
   refine TrQ.q (QS.elR1 rfl (by repeat constructor) Try.isAgg39 (by omega) (by rfl)) rfl ?_
   refine TrQ.q (QS.idxRowN rfl rfl (by repeat constructor) Try.underlying23 Try.sizeOf39 (by rfl) (by omega)) rfl ?_
   refine TrQ.nil ?_
   refine Tr.storeEl (l := cur.toList) (i := a) (cur.toList.getD (((a : Int) + ((k : Int) - 1)).toNat) default) rfl rfl Try.sizeOf39 (by repeat constructor) (by (try simp only [List.length_set]); omega) (by rfl) rfl ?_
   have hls3 : (List.set cur.toList (a) (cur.toList.getD (((a : Int) + ((k : Int) - 1)).toNat) default)).length = (cur.toList).length := List.length_set
   refine Tr.q (QS.idxRow rfl rfl (by repeat constructor) Try.underlying23 Try.sizeOf39 (by rfl) (by omega)) rfl ?_
   refine Tr.storeEl (l := (cur.toList.set (a) (cur.toList.getD (((a : Int) + ((k : Int) - 1)).toNat) default))) (i := ((a : Int) + ((k : Int) - 1)).toNat) (cur.toList.getD (a) default) rfl rfl Try.sizeOf39 (by repeat constructor) (by (try simp only [List.length_set]); omega) (by rfl) rfl ?_
   have hls4 : (List.set (cur.toList.set (a) (cur.toList.getD (((a : Int) + ((k : Int) - 1)).toNat) default)) (((a : Int) + ((k : Int) - 1)).toNat) (cur.toList.getD (a) default)).length = ((cur.toList.set (a) (cur.toList.getD (((a : Int) + ((k : Int) - 1)).toNat) default))).length := List.length_set
   rw [ek.resolve_right (by omega), bang, bang, set_swp]
   refine Tr.nil (Tr.thenN (Tr.region ?_))
   refine Tr.q (QS.move rfl) rfl ?_
   refine Tr.q (QS.move rfl) rfl ?_
   refine Tr.q (QS.move rfl) rfl ?_
   refine Tr.q (QS.move rfl) rfl ?_
   refine Tr.callMut rfl Try.call126 (by repeat constructor) (fun w hw => sift_u32 (swp cur a (a + (k - 1))) V 0 (k - 1) a _ _ _ (by omega) (by omega) (by omega) w (hw.ent _ (.head _)) (by rw [swpW]; omega) (by omega) (by rw [swpW]; omega)) rfl ?_
   refine Tr.nil (Tr.inN (Tr.thenN (Tr.region ?_)))
   refine Tr.q (QS.move rfl) rfl ?_
   refine Tr.q (QS.subI rfl rfl (by omega)) rfl ?_
   refine Tr.q (QS.assign rfl) rfl ?_
   refine Tr.nil (Tr.thenN ?_)
   have hst : heapPop ltW a (k - 1) (siftDown ltW (k - 1) a 0 (swp cur a (a + (k - 1)))) = heapSort ltW d a b := by
    obtain ⟨q, rfl⟩ : ∃ q, k = q + 1 := ⟨k - 1, by omega⟩
    exact hk3
   apply Tr.again (k - 1, _)
   ·exact rfl
   ·exact (.cons (by first | rfl | exact lookI rfl (by omega) | exact lookI rfl (by simp) | exact lookB rfl (by simp)) Front.nil)
   ·exact SubX.dropN 29 (by kernel_rfl) rfl
   ·exact (by repeat' constructor)
   ·exact ⟨by omega, by rw [siftW, swpW]; exact hk2, hst⟩
   ·exact (by (try dsimp only); omega)
  ·try simp only [bs] at h2
   refine Tr.exit ?_
   refine Tr.thenE (Tr.thenE (Tr.inHit ?_))
   refine Tr.ret0n Try.results113 (fun w' hw => ?_)
   obtain rfl : k = 0 := by omega
   exact ⟨rfl, by rw [← hk3]; exact HpOK.mutOwn hw (.head _) rfl⟩
set_option maxRecDepth 100000 in
set_option maxHeartbeats 2000000 in
theorem reverse_u32 (d : Array UInt32) (V : Value) (a : Nat) (b : Nat) (ai : Int) (bi : Int) (ea : ai = ((a : Nat) : Int)) (eb : bi = ((b : Nat) : Int)) (w : World) (hr : (rowE V 39 encU32 d.toList).holds w) (hd : d.size ≤ 1000000) (hab : a < b) (hb : b ≤ d.size) :
  Calls Try.prog 116 #[V, .int .i64 ai, .int .i64 bi] w (fun e w' => e = .returned (.tuple #[]) ∧ Mut w w' V ∧ (rowE V 39 encU32 (reverseRange d a b).toList).holds w') := by
 subst ea eb
 refine enterOwn (l := d.toList) (E := encU32) (T := 39) hr Try.func116 rfl Try.ntmps116 rfl ?_
 refine Tr.seq (Tr.region ?_)
 refine Tr.q (QS.move rfl) rfl ?_
 refine Tr.q (QS.assign rfl) rfl ?_
 refine Tr.nil (Tr.thenN (Tr.seq (Tr.region ?_)))
 refine Tr.q (QS.move rfl) rfl ?_
 refine Tr.q (QS.subI rfl rfl (by omega)) rfl ?_
 refine Tr.q (QS.assign rfl) rfl ?_
 refine Tr.nil (Tr.thenN (Tr.block ?_))
 refine Tr.loop (ι := Nat × Nat × Array UInt32) (fun ⟨i, j, cur⟩ => (a ≤ i ∧ j < b) ∧ cur.size = d.size ∧ reverseLoop i j cur = reverseRange d a b) (fun _ => _) (fun ⟨i, j, cur⟩ => [rowE V 39 encU32 cur.toList]) (fun ⟨i, j, cur⟩ => [(6, .int .i64 (i : Nat)), (7, .int .i64 (j : Nat))]) (fun ⟨i, j, cur⟩ => j - i) (a, b - 1, d) ⟨⟨Nat.le_refl _, by omega⟩, rfl, rfl⟩ (.cons (by first | rfl | exact lookI rfl (by omega) | exact lookI rfl (by simp) | exact lookB rfl (by simp)) (.cons (by first | rfl | exact lookI rfl (by omega) | exact lookI rfl (by simp) | exact lookB rfl (by simp)) Front.nil)) (by repeat' constructor) rfl (fun i hi m hm => ?_)
 obtain ⟨i, j, cur⟩ := i
 replace hi : (a ≤ i ∧ j < b) ∧ cur.size = d.size ∧ reverseLoop i j cur = reverseRange d a b := hi
 replace hm : m = j - i := hm
 change Tr _ _ [rowE V 39 encU32 cur.toList] ([(6, .int .i64 (i : Nat)), (7, .int .i64 (j : Nat))] ++ _) _
 obtain ⟨hi1, hi2, hi3⟩ := hi
 have hcl : cur.toList.length = d.size := by rw [Array.length_toList]; exact hi2
 refine Tr.seq (Tr.seq (Tr.region ?_))
 refine Tr.q (QS.move rfl) rfl ?_
 refine Tr.q (QS.move rfl) rfl ?_
 refine Tr.q (QS.lss rfl rfl) rfl ?_
 refine Tr.nil (Tr.thenN ?_)
 refine Tr.cond rfl (fun h1 => ?_) (fun h1 => ?_)
 ·try simp only [bs] at h1
  refine Tr.skip (Tr.thenN (Tr.block (Tr.seq ?_)))
  refine Tr.regionT 4 13 HLF.mixed (by kernel_rfl) (panicThen (panicIn (panicThen (panicIn panicBody)))) ?_
  refine TrQ.pureMove rfl rfl ?_
  refine TrQ.pureMove rfl rfl ?_
  refine TrQ.pureMove rfl rfl ?_
  refine TrQ.pureMove rfl rfl ?_
  refine TrQ.pureNil ?_
  refine TrQ.q (QS.move rfl) rfl ?_
  refine TrQ.q (QS.move rfl) rfl ?_
  refine TrQ.q (QS.idxRowN rfl rfl (by repeat constructor) Try.underlying23 Try.sizeOf39 (by rfl) (by omega)) rfl ?_
  refine TrQ.q (QS.elR1 rfl (by repeat constructor) Try.isAgg39 (by omega) (by rfl)) rfl ?_
  refine TrQ.q (QS.move rfl) rfl ?_
  refine TrQ.q (QS.move rfl) rfl ?_
  refine TrQ.q (QS.idxRowN rfl rfl (by repeat constructor) Try.underlying23 Try.sizeOf39 (by rfl) (by omega)) rfl ?_
  refine TrQ.q (QS.elR1 rfl (by repeat constructor) Try.isAgg39 (by omega) (by rfl)) rfl ?_
  refine TrQ.q (QS.idxRowN rfl rfl (by repeat constructor) Try.underlying23 Try.sizeOf39 (by rfl) (by omega)) rfl ?_
  refine TrQ.nil ?_
  refine Tr.storeEl (l := cur.toList) (i := i) (cur.toList.getD (j) default) rfl rfl Try.sizeOf39 (by repeat constructor) (by (try simp only [List.length_set]); omega) (by rfl) rfl ?_
  have hls2 : (List.set cur.toList (i) (cur.toList.getD (j) default)).length = (cur.toList).length := List.length_set
  refine Tr.q (QS.idxRowN rfl rfl (by repeat constructor) Try.underlying23 Try.sizeOf39 (by rfl) (by omega)) rfl ?_
  refine Tr.storeEl (l := (cur.toList.set (i) (cur.toList.getD (j) default))) (i := j) (cur.toList.getD (i) default) rfl rfl Try.sizeOf39 (by repeat constructor) (by (try simp only [List.length_set]); omega) (by rfl) rfl ?_
  have hls3 : (List.set (cur.toList.set (i) (cur.toList.getD (j) default)) (j) (cur.toList.getD (i) default)).length = ((cur.toList.set (i) (cur.toList.getD (j) default))).length := List.length_set
  refine Tr.nil (Tr.thenN (Tr.seq (Tr.region ?_)))
  refine Tr.q (QS.move rfl) rfl ?_
  refine Tr.q (QS.addI rfl rfl (by omega)) rfl ?_
  refine Tr.q (QS.assign rfl) rfl ?_
  refine Tr.nil (Tr.thenN (Tr.region ?_))
  refine Tr.q (QS.move rfl) rfl ?_
  refine Tr.q (QS.subI rfl rfl (by omega)) rfl ?_
  refine Tr.q (QS.assign rfl) rfl ?_
  refine Tr.nil (Tr.inN (Tr.thenN ?_))
  rw [bang, bang, set_swp]
  apply Tr.again (i + 1, j - 1, _)
  ·exact rfl
  ·exact (.cons (by first | rfl | exact lookI rfl (by omega) | exact lookI rfl (by simp) | exact lookB rfl (by simp)) (.cons (by first | rfl | exact lookI rfl (by omega) | exact lookI rfl (by simp) | exact lookB rfl (by simp)) Front.nil))
  ·exact SubX.dropN 25 (by kernel_rfl) rfl
  ·exact (by repeat' constructor)
  ·exact ⟨⟨by omega, by omega⟩, by rw [swpW]; exact hi2, by rw [← rev_go (by omega)]; exact hi3⟩
  ·exact (by (try dsimp only); omega)
 ·try simp only [bs] at h1
  refine Tr.exit ?_
  refine Tr.thenE (Tr.thenE (Tr.inHit ?_))
  refine Tr.ret0n Try.results116 (fun w' hw => ?_)
  rw [rev_stop (by omega)] at hi3
  exact ⟨rfl, by rw [← hi3]; exact HpOK.mutOwn hw (.head _) rfl⟩
set_option maxRecDepth 100000 in
set_option maxHeartbeats 8000000 in
theorem partition_u32 (d : Array UInt32) (V : Value) (a : Nat) (b : Nat) (p : Nat) (ai : Int) (bi : Int) (pi : Int) (ea : ai = ((a : Nat) : Int)) (eb : bi = ((b : Nat) : Int)) (ep : pi = ((p : Nat) : Int)) (w : World) (hr : (rowE V 39 encU32 d.toList).holds w) (hd : d.size ≤ 1000000) (hab : a + 1 < b) (hb : b ≤ d.size) (hp : p < b) :
  Calls Try.prog 120 #[V, .int .i64 ai, .int .i64 bi, .int .i64 pi] w (fun e w' => e = .returned (.tuple #[.int .i64 ((partition ltW d a b p).1 : Nat), .bool (partition ltW d a b p).2.1]) ∧ Mut w w' V ∧ (rowE V 39 encU32 (partition ltW d a b p).2.2.toList).holds w') := by
 subst ea eb ep
 obtain ⟨d1, hd1⟩ : ∃ x, x = swp d a p := ⟨_, rfl⟩
 have hs1 : d1.size = d.size := by rw [hd1, swpW]
 have hl0 : d.toList.length = d.size := Array.length_toList
 have hl1 : d1.toList.length = d.size := by rw [Array.length_toList]; exact hs1
 obtain ⟨P, hP⟩ : ∃ P : UInt32 → Bool, P = fun x => ltW x d1[a]! := ⟨_, rfl⟩
 refine enterOwn (l := d.toList) (E := encU32) (T := 39) hr Try.func120 rfl Try.ntmps120 rfl ?_
 refine Tr.seq (Tr.region ?_)
 refine Tr.q (QS.assign rfl) rfl ?_
 refine Tr.q (QS.assign rfl) rfl ?_
 refine Tr.nil (Tr.thenN (Tr.seq ?_))
 refine Tr.regionT 4 13 HLF.mixed (by kernel_rfl) (panicThen panicBody) ?_
 refine TrQ.pureMove rfl rfl ?_
 refine TrQ.pureMove rfl rfl ?_
 refine TrQ.pureMove rfl rfl ?_
 refine TrQ.pureMove rfl rfl ?_
 refine TrQ.pureNil ?_
 refine TrQ.q (QS.move rfl) rfl ?_
 refine TrQ.q (QS.move rfl) rfl ?_
 refine TrQ.q (QS.idxRowN rfl rfl (by repeat constructor) Try.underlying23 Try.sizeOf39 (by rfl) (by omega)) rfl ?_
 refine TrQ.q (QS.elR1 rfl (by repeat constructor) Try.isAgg39 (by omega) (by rfl)) rfl ?_
 refine TrQ.q (QS.move rfl) rfl ?_
 refine TrQ.q (QS.move rfl) rfl ?_
 refine TrQ.q (QS.idxRowN rfl rfl (by repeat constructor) Try.underlying23 Try.sizeOf39 (by rfl) (by omega)) rfl ?_
 refine TrQ.q (QS.elR1 rfl (by repeat constructor) Try.isAgg39 (by omega) (by rfl)) rfl ?_
 refine TrQ.q (QS.idxRowN rfl rfl (by repeat constructor) Try.underlying23 Try.sizeOf39 (by rfl) (by omega)) rfl ?_
 refine TrQ.nil ?_
 refine Tr.storeEl (l := d.toList) (i := a) (d.toList.getD (p) default) rfl rfl Try.sizeOf39 (by repeat constructor) (by (try simp only [List.length_set]); omega) (by rfl) rfl ?_
 have hls1 : (List.set d.toList (a) (d.toList.getD (p) default)).length = (d.toList).length := List.length_set
 refine Tr.q (QS.idxRowN rfl rfl (by repeat constructor) Try.underlying23 Try.sizeOf39 (by rfl) (by omega)) rfl ?_
 refine Tr.storeEl (l := (d.toList.set (a) (d.toList.getD (p) default))) (i := p) (d.toList.getD (a) default) rfl rfl Try.sizeOf39 (by repeat constructor) (by (try simp only [List.length_set]); omega) (by rfl) rfl ?_
 have hls2 : (List.set (d.toList.set (a) (d.toList.getD (p) default)) (p) (d.toList.getD (a) default)).length = ((d.toList.set (a) (d.toList.getD (p) default))).length := List.length_set
 rw [bang, bang, set_swp, ← hd1]
 refine Tr.nil (Tr.thenN (Tr.seq (Tr.region ?_)))
 refine Tr.q (QS.move rfl) rfl ?_
 refine Tr.q (QS.addI rfl rfl (by omega)) rfl ?_
 refine Tr.q (QS.move rfl) rfl ?_
 refine Tr.q (QS.subI rfl rfl (by omega)) rfl ?_
 refine Tr.q (QS.assign rfl) rfl ?_
 refine Tr.q (QS.assign rfl) rfl ?_
 refine Tr.nil (Tr.thenN (Tr.seq (Tr.block ?_)))
 refine Tr.loop (ι := Nat) (fun i => a + 1 ≤ i ∧ i ≤ b ∧ scanUp (fun x => ltW x d1[a]!) d1 (b - 1) i = scanUp (fun x => ltW x d1[a]!) d1 (b - 1) (a + 1)) (fun _ => _) (fun i => [rowE V 39 encU32 d1.toList]) (fun i => [(10, .int .i64 (i : Nat)), (11, .int .i64 ((b : Int) - 1))]) (fun i => b - i) (a + 1) ⟨Nat.le_refl _, by omega, rfl⟩ (.cons (by first | rfl | exact lookI rfl (by omega) | exact lookI rfl (by simp) | exact lookB rfl (by simp)) (.cons (by first | rfl | exact lookI rfl (by omega) | exact lookI rfl (by simp) | exact lookB rfl (by simp)) Front.nil)) (by repeat' constructor) rfl (fun i hi m hm => ?_)
 replace hi : a + 1 ≤ i ∧ i ≤ b ∧ scanUp (fun x => ltW x d1[a]!) d1 (b - 1) i = scanUp (fun x => ltW x d1[a]!) d1 (b - 1) (a + 1) := hi
 replace hm : m = b - i := hm
 change Tr _ _ [rowE V 39 encU32 d1.toList] ([(10, .int .i64 (i : Nat)), (11, .int .i64 ((b : Int) - 1))] ++ _) _
 obtain ⟨hi1, hi2, hi3⟩ := hi
 refine Tr.seq (Tr.seq ?_)
 refine Tr.regionQ HLF.mixed (by kernel_rfl) ?_
 refine TrQ.q (QS.move rfl) rfl ?_
 refine TrQ.q (QS.move rfl) rfl ?_
 refine TrQ.q (QS.leq rfl rfl) rfl ?_
 refine TrQ.q (QS.move rfl) rfl ?_
 apply TrQ.andP
 ·exact (rfl : _ = (10, 33, 43))
 ·exact rfl
 ·intro hT3; have hT3' := hT3
  try simp only [bs] at hT3'
  refine TrQ.gq rfl rfl hT3 (QS.move rfl) rfl ?_
  refine TrQ.gq rfl rfl hT3 (QS.move rfl) rfl ?_
  refine TrQ.gq rfl rfl hT3 (QS.idxRowN rfl rfl (by repeat constructor) Try.underlying23 Try.sizeOf39 (by rfl) (by omega)) rfl ?_
  refine TrQ.gq rfl rfl hT3 (QS.elR1 rfl (by repeat constructor) Try.isAgg39 (by omega) (by rfl)) rfl ?_
  refine TrQ.gq rfl rfl hT3 (QS.move rfl) rfl ?_
  refine TrQ.gq rfl rfl hT3 (QS.move rfl) rfl ?_
  refine TrQ.gq rfl rfl hT3 (QS.idxRowN rfl rfl (by repeat constructor) Try.underlying23 Try.sizeOf39 (by rfl) (by omega)) rfl ?_
  refine TrQ.gq rfl rfl hT3 (QS.elR1 rfl (by repeat constructor) Try.isAgg39 (by omega) (by rfl)) rfl ?_
  refine TrQ.gq rfl rfl hT3 (QS.call rfl Try.call118 (fun w hw => less_any (d1.toList.getD (i) default) (d1.toList.getD (a) default) w)) rfl ?_
  refine TrQ.q (QS.pickT rfl hT3 rfl) rfl ?_
  exact TrQ.end (Sub.cons rfl (Sub.dropN 10 (by kernel_rfl) rfl))
 ·intro hF3
  refine TrQ.gskip rfl rfl hF3 rfl ?_
  refine TrQ.gskip rfl rfl hF3 rfl ?_
  refine TrQ.gskip rfl rfl hF3 rfl ?_
  refine TrQ.gskip rfl rfl hF3 rfl ?_
  refine TrQ.gskip rfl rfl hF3 rfl ?_
  refine TrQ.gskip rfl rfl hF3 rfl ?_
  refine TrQ.gskip rfl rfl hF3 rfl ?_
  refine TrQ.gskip rfl rfl hF3 rfl ?_
  refine TrQ.gskip rfl rfl hF3 rfl ?_
  refine TrQ.q (QS.pickF rfl hF3 rfl) rfl ?_
  exact TrQ.end (Sub.cons rfl (Sub.dropN 10 (by kernel_rfl) rfl))
 refine TrQ.nil ?_
 refine Tr.thenN ?_
 refine Tr.cond rfl (fun h4 => ?_) (fun h4 => ?_)
 ·try simp only [bs] at h4
  refine Tr.skip (Tr.thenN (Tr.block (Tr.region ?_)))
  refine Tr.q (QS.move rfl) rfl ?_
  refine Tr.q (QS.addI rfl rfl (by omega)) rfl ?_
  refine Tr.q (QS.assign rfl) rfl ?_
  refine Tr.nil (Tr.inN (Tr.thenN ?_))
  apply Tr.again (i + 1)
  ·exact rfl
  ·exact (.cons (by first | rfl | exact lookI rfl (by omega) | exact lookI rfl (by simp) | exact lookB rfl (by simp)) (.cons (by first | rfl | exact lookI rfl (by omega) | exact lookI rfl (by simp) | exact lookB rfl (by simp)) Front.nil))
  ·exact SubX.dropN 10 (by kernel_rfl) rfl
  ·exact (by repeat' constructor)
  ·exact ⟨by omega, by omega, by rw [← hi3]; exact (up_go (by omega) (by rw [← bang, ← bang]; exact h4.2)).symm⟩
  ·exact (by (try dsimp only); omega)
 ·try simp only [bs] at h4
  refine Tr.exit ?_
  refine Tr.thenE (Tr.thenE (Tr.inHit (Tr.thenN (Tr.seq (Tr.block ?_)))))
  refine Tr.loop (ι := Nat) (fun j => j < b ∧ i ≤ j + 1 ∧ scanDown (fun x => !ltW x d1[a]!) d1 i j = scanDown (fun x => !ltW x d1[a]!) d1 i (b - 1)) (fun _ => _) (fun j => [rowE V 39 encU32 d1.toList]) (fun j => [(10, .int .i64 (i : Nat)), (11, .int .i64 (j : Nat))]) (fun j => j) (b - 1) ⟨by omega, by omega, rfl⟩ (.cons (by first | rfl | exact lookI rfl (by omega) | exact lookI rfl (by simp) | exact lookB rfl (by simp)) (.cons (by first | rfl | exact lookI rfl (by omega) | exact lookI rfl (by simp) | exact lookB rfl (by simp)) Front.nil)) (by repeat' constructor) rfl (fun j hi m hm => ?_)
  replace hi : j < b ∧ i ≤ j + 1 ∧ scanDown (fun x => !ltW x d1[a]!) d1 i j = scanDown (fun x => !ltW x d1[a]!) d1 i (b - 1) := hi
  replace hm : m = j := hm
  change Tr _ _ [rowE V 39 encU32 d1.toList] ([(10, .int .i64 (i : Nat)), (11, .int .i64 (j : Nat))] ++ _) _
  obtain ⟨hj1, hj2, hj3⟩ := hi
  refine Tr.seq (Tr.seq ?_)
  refine Tr.regionQ HLF.mixed (by kernel_rfl) ?_
  refine TrQ.q (QS.move rfl) rfl ?_
  refine TrQ.q (QS.move rfl) rfl ?_
  refine TrQ.q (QS.leq rfl rfl) rfl ?_
  refine TrQ.q (QS.move rfl) rfl ?_
  apply TrQ.andP
  ·exact (rfl : _ = (11, 49, 60))
  ·exact rfl
  ·intro hT5; have hT5' := hT5
   try simp only [bs] at hT5'
   refine TrQ.gq rfl rfl hT5 (QS.move rfl) rfl ?_
   refine TrQ.gq rfl rfl hT5 (QS.move rfl) rfl ?_
   refine TrQ.gq rfl rfl hT5 (QS.idxRowN rfl rfl (by repeat constructor) Try.underlying23 Try.sizeOf39 (by rfl) (by omega)) rfl ?_
   refine TrQ.gq rfl rfl hT5 (QS.elR1 rfl (by repeat constructor) Try.isAgg39 (by omega) (by rfl)) rfl ?_
   refine TrQ.gq rfl rfl hT5 (QS.move rfl) rfl ?_
   refine TrQ.gq rfl rfl hT5 (QS.move rfl) rfl ?_
   refine TrQ.gq rfl rfl hT5 (QS.idxRowN rfl rfl (by repeat constructor) Try.underlying23 Try.sizeOf39 (by rfl) (by omega)) rfl ?_
   refine TrQ.gq rfl rfl hT5 (QS.elR1 rfl (by repeat constructor) Try.isAgg39 (by omega) (by rfl)) rfl ?_
   refine TrQ.gq rfl rfl hT5 (QS.call rfl Try.call118 (fun w hw => less_any (d1.toList.getD (j) default) (d1.toList.getD (a) default) w)) rfl ?_
   refine TrQ.gq rfl rfl hT5 (QS.not rfl) rfl ?_
   refine TrQ.q (QS.pickT rfl hT5 rfl) rfl ?_
   exact TrQ.end (Sub.cons rfl (Sub.dropN 11 (by kernel_rfl) rfl))
  ·intro hF5
   refine TrQ.gskip rfl rfl hF5 rfl ?_
   refine TrQ.gskip rfl rfl hF5 rfl ?_
   refine TrQ.gskip rfl rfl hF5 rfl ?_
   refine TrQ.gskip rfl rfl hF5 rfl ?_
   refine TrQ.gskip rfl rfl hF5 rfl ?_
   refine TrQ.gskip rfl rfl hF5 rfl ?_
   refine TrQ.gskip rfl rfl hF5 rfl ?_
   refine TrQ.gskip rfl rfl hF5 rfl ?_
   refine TrQ.gskip rfl rfl hF5 rfl ?_
   refine TrQ.gskip rfl rfl hF5 rfl ?_
   refine TrQ.q (QS.pickF rfl hF5 rfl) rfl ?_
   exact TrQ.end (Sub.cons rfl (Sub.dropN 11 (by kernel_rfl) rfl))
  refine TrQ.nil ?_
  refine Tr.thenN ?_
  refine Tr.cond rfl (fun h6 => ?_) (fun h6 => ?_)
  ·try simp only [bs] at h6
   refine Tr.skip (Tr.thenN (Tr.block (Tr.region ?_)))
   refine Tr.q (QS.move rfl) rfl ?_
   refine Tr.q (QS.subI rfl rfl (by omega)) rfl ?_
   refine Tr.q (QS.assign rfl) rfl ?_
   refine Tr.nil (Tr.inN (Tr.thenN ?_))
   apply Tr.again (j - 1)
   ·exact rfl
   ·exact (.cons (by first | rfl | exact lookI rfl (by omega) | exact lookI rfl (by simp) | exact lookB rfl (by simp)) (.cons (by first | rfl | exact lookI rfl (by omega) | exact lookI rfl (by simp) | exact lookB rfl (by simp)) Front.nil))
   ·exact SubX.dropN 10 (by kernel_rfl) rfl
   ·exact (by repeat' constructor)
   ·exact ⟨by omega, by omega, by rw [← hj3]; exact (down_go (by omega) (by omega) (by rw [← bang, ← bang]; simp_all)).symm⟩
   ·exact (by (try dsimp only); omega)
  ·try simp only [bs] at h6
   refine Tr.exit ?_
   refine Tr.thenE (Tr.thenE (Tr.inHit (Tr.thenN (Tr.seq (Tr.seq ?_)))))
   have hI : scanUp (fun x => ltW x d1[a]!) d1 (b - 1) (a + 1) = i := by
    rw [← hi3]; exact up_stop (by
     rcases h4 with q | q
     ·exact .inl (by omega)
     ·exact .inr (by rw [← bang, ← bang]; exact q))
   have hJ : scanDown (fun x => !ltW x d1[a]!) d1 i (b - 1) = j := by
    rw [← hj3]; exact down_stop (by
     rcases h6 with q | q
     ·exact .inl (by omega)
     ·exact .inr (by rw [← bang, ← bang, q]; rfl))
   refine Tr.region ?_
   refine Tr.q (QS.move rfl) rfl ?_
   refine Tr.q (QS.move rfl) rfl ?_
   refine Tr.q (QS.gtr rfl rfl) rfl ?_
   refine Tr.nil (Tr.thenN ?_)
   refine Tr.cond rfl (fun h7 => ?_) (fun h7 => ?_)
   ·try simp only [bs] at h7
    refine Tr.seq ?_
    refine Tr.regionT 4 13 HLF.mixed (by kernel_rfl) (panicThen (panicThen panicBody)) ?_
    refine TrQ.pureMove rfl rfl ?_
    refine TrQ.pureMove rfl rfl ?_
    refine TrQ.pureMove rfl rfl ?_
    refine TrQ.pureMove rfl rfl ?_
    refine TrQ.pureNil ?_
    refine TrQ.q (QS.move rfl) rfl ?_
    refine TrQ.q (QS.move rfl) rfl ?_
    refine TrQ.q (QS.idxRowN rfl rfl (by repeat constructor) Try.underlying23 Try.sizeOf39 (by rfl) (by omega)) rfl ?_
    refine TrQ.q (QS.elR1 rfl (by repeat constructor) Try.isAgg39 (by omega) (by rfl)) rfl ?_
    refine TrQ.q (QS.move rfl) rfl ?_
    refine TrQ.q (QS.move rfl) rfl ?_
    refine TrQ.q (QS.idxRowN rfl rfl (by repeat constructor) Try.underlying23 Try.sizeOf39 (by rfl) (by omega)) rfl ?_
    refine TrQ.q (QS.elR1 rfl (by repeat constructor) Try.isAgg39 (by omega) (by rfl)) rfl ?_
    refine TrQ.q (QS.idxRowN rfl rfl (by repeat constructor) Try.underlying23 Try.sizeOf39 (by rfl) (by omega)) rfl ?_
    refine TrQ.nil ?_
    refine Tr.storeEl (l := d1.toList) (i := j) (d1.toList.getD (a) default) rfl rfl Try.sizeOf39 (by repeat constructor) (by (try simp only [List.length_set]); omega) (by rfl) rfl ?_
    have hls8 : (List.set d1.toList (j) (d1.toList.getD (a) default)).length = (d1.toList).length := List.length_set
    refine Tr.q (QS.idxRowN rfl rfl (by repeat constructor) Try.underlying23 Try.sizeOf39 (by rfl) (by omega)) rfl ?_
    refine Tr.storeEl (l := (d1.toList.set (j) (d1.toList.getD (a) default))) (i := a) (d1.toList.getD (j) default) rfl rfl Try.sizeOf39 (by repeat constructor) (by (try simp only [List.length_set]); omega) (by rfl) rfl ?_
    have hls9 : (List.set (d1.toList.set (j) (d1.toList.getD (a) default)) (a) (d1.toList.getD (j) default)).length = ((d1.toList.set (j) (d1.toList.getD (a) default))).length := List.length_set
    rw [bang, bang, set_swp]
    refine Tr.nil (Tr.thenN (Tr.seq (Tr.region ?_)))
    refine Tr.q (QS.move rfl) rfl ?_
    refine Tr.q (QS.assign rfl) rfl ?_
    refine Tr.q (QS.assign rfl) rfl ?_
    refine Tr.nil (Tr.thenN (Tr.ret (Tr.thenR ?_)))
    refine Tr.ret2 Try.results120 rfl rfl (fun w' hw => ?_)
    have hpt : partition ltW d a b p = (j, true, swp d1 j a) := by
     unfold partition; simp only [← hd1, hI, hJ]; rw [if_pos (by omega)]
    exact ⟨by rw [hpt], by rw [hpt]; exact HpOK.mutOwn hw (.head _) rfl⟩
   ·try simp only [bs] at h7
    refine Tr.skip (Tr.thenN (Tr.seq ?_))
    have hij : i < j := by
     rcases Nat.lt_or_ge i j with q | q
     ·exact q
     ·exfalso
      have e : i = j := by omega
      rcases h4 with g1 | g1
      ·omega
      ·rcases h6 with g2 | g2
       ·omega
       ·rw [e, g2] at g1; cases g1
    refine Tr.regionT 4 13 HLF.mixed (by kernel_rfl) (panicThen panicBody) ?_
    refine TrQ.pureMove rfl rfl ?_
    refine TrQ.pureMove rfl rfl ?_
    refine TrQ.pureMove rfl rfl ?_
    refine TrQ.pureMove rfl rfl ?_
    refine TrQ.pureNil ?_
    refine TrQ.q (QS.move rfl) rfl ?_
    refine TrQ.q (QS.move rfl) rfl ?_
    refine TrQ.q (QS.idxRowN rfl rfl (by repeat constructor) Try.underlying23 Try.sizeOf39 (by rfl) (by omega)) rfl ?_
    refine TrQ.q (QS.elR1 rfl (by repeat constructor) Try.isAgg39 (by omega) (by rfl)) rfl ?_
    refine TrQ.q (QS.move rfl) rfl ?_
    refine TrQ.q (QS.move rfl) rfl ?_
    refine TrQ.q (QS.idxRowN rfl rfl (by repeat constructor) Try.underlying23 Try.sizeOf39 (by rfl) (by omega)) rfl ?_
    refine TrQ.q (QS.elR1 rfl (by repeat constructor) Try.isAgg39 (by omega) (by rfl)) rfl ?_
    refine TrQ.q (QS.idxRowN rfl rfl (by repeat constructor) Try.underlying23 Try.sizeOf39 (by rfl) (by omega)) rfl ?_
    refine TrQ.nil ?_
    refine Tr.storeEl (l := d1.toList) (i := i) (d1.toList.getD (j) default) rfl rfl Try.sizeOf39 (by repeat constructor) (by (try simp only [List.length_set]); omega) (by rfl) rfl ?_
    have hls10 : (List.set d1.toList (i) (d1.toList.getD (j) default)).length = (d1.toList).length := List.length_set
    refine Tr.q (QS.idxRowN rfl rfl (by repeat constructor) Try.underlying23 Try.sizeOf39 (by rfl) (by omega)) rfl ?_
    refine Tr.storeEl (l := (d1.toList.set (i) (d1.toList.getD (j) default))) (i := j) (d1.toList.getD (i) default) rfl rfl Try.sizeOf39 (by repeat constructor) (by (try simp only [List.length_set]); omega) (by rfl) rfl ?_
    have hls11 : (List.set (d1.toList.set (i) (d1.toList.getD (j) default)) (j) (d1.toList.getD (i) default)).length = ((d1.toList.set (i) (d1.toList.getD (j) default))).length := List.length_set
    rw [bang, bang, set_swp]
    refine Tr.nil (Tr.thenN (Tr.seq (Tr.region ?_)))
    refine Tr.q (QS.move rfl) rfl ?_
    refine Tr.q (QS.addI rfl rfl (by omega)) rfl ?_
    refine Tr.q (QS.assign rfl) rfl ?_
    refine Tr.nil (Tr.thenN (Tr.seq (Tr.region ?_)))
    refine Tr.q (QS.move rfl) rfl ?_
    refine Tr.q (QS.subI rfl rfl (by omega)) rfl ?_
    refine Tr.q (QS.assign rfl) rfl ?_
    refine Tr.nil (Tr.thenN (Tr.seq (Tr.block ?_)))
    refine Tr.loop (ι := Nat × Nat × Array UInt32) (fun ⟨i3, j3, cur⟩ => (a + 1 ≤ i3 ∧ i3 ≤ j3 + 1 ∧ j3 < b) ∧ cur.size = d.size ∧ partLoop ltW a i3 j3 cur = partLoop ltW a (i + 1) (j - 1) (swp d1 i j)) (fun _ => _) (fun ⟨i3, j3, cur⟩ => [rowE V 39 encU32 cur.toList]) (fun ⟨i3, j3, cur⟩ => [(10, .int .i64 (i3 : Nat)), (11, .int .i64 (j3 : Nat))]) (fun ⟨i3, j3, cur⟩ => j3 + 1 - i3) (i + 1, j - 1, swp d1 i j) ⟨by omega, by rw [swpW]; exact hs1, rfl⟩ (.cons (by first | rfl | exact lookI rfl (by omega) | exact lookI rfl (by simp) | exact lookB rfl (by simp)) (.cons (by first | rfl | exact lookI rfl (by omega) | exact lookI rfl (by simp) | exact lookB rfl (by simp)) Front.nil)) (by repeat' constructor) rfl (fun i hi m hm => ?_)
    obtain ⟨i3, j3, cur⟩ := i
    replace hi : (a + 1 ≤ i3 ∧ i3 ≤ j3 + 1 ∧ j3 < b) ∧ cur.size = d.size ∧ partLoop ltW a i3 j3 cur = partLoop ltW a (i + 1) (j - 1) (swp d1 i j) := hi
    replace hm : m = j3 + 1 - i3 := hm
    change Tr _ _ [rowE V 39 encU32 cur.toList] ([(10, .int .i64 (i3 : Nat)), (11, .int .i64 (j3 : Nat))] ++ _) _
    obtain ⟨hk1, hk2, hk3⟩ := hi
    have hcl : cur.toList.length = d.size := by rw [Array.length_toList]; exact hk2
    refine Tr.block (Tr.seq (Tr.block ?_))
    refine Tr.loop (ι := Nat) (fun x => i3 ≤ x ∧ x ≤ j3 + 1 ∧ scanUp (fun z => ltW z cur[a]!) cur j3 x = scanUp (fun z => ltW z cur[a]!) cur j3 i3) (fun _ => _) (fun x => [rowE V 39 encU32 cur.toList]) (fun x => [(10, .int .i64 (x : Nat)), (11, .int .i64 (j3 : Nat))]) (fun x => j3 + 1 - x) i3 ⟨Nat.le_refl _, by omega, rfl⟩ (.cons (by first | rfl | exact lookI rfl (by omega) | exact lookI rfl (by simp) | exact lookB rfl (by simp)) (.cons (by first | rfl | exact lookI rfl (by omega) | exact lookI rfl (by simp) | exact lookB rfl (by simp)) Front.nil)) (by repeat' constructor) rfl (fun x hi m hm => ?_)
    replace hi : i3 ≤ x ∧ x ≤ j3 + 1 ∧ scanUp (fun z => ltW z cur[a]!) cur j3 x = scanUp (fun z => ltW z cur[a]!) cur j3 i3 := hi
    replace hm : m = j3 + 1 - x := hm
    change Tr _ _ [rowE V 39 encU32 cur.toList] ([(10, .int .i64 (x : Nat)), (11, .int .i64 (j3 : Nat))] ++ _) _
    obtain ⟨hx1, hx2, hx3⟩ := hi
    refine Tr.seq (Tr.seq ?_)
    refine Tr.regionQ HLF.mixed (by kernel_rfl) ?_
    refine TrQ.q (QS.move rfl) rfl ?_
    refine TrQ.q (QS.move rfl) rfl ?_
    refine TrQ.q (QS.leq rfl rfl) rfl ?_
    refine TrQ.q (QS.move rfl) rfl ?_
    apply TrQ.andP
    ·exact (rfl : _ = (10, 102, 112))
    ·exact rfl
    ·intro hT12; have hT12' := hT12
     try simp only [bs] at hT12'
     refine TrQ.gq rfl rfl hT12 (QS.move rfl) rfl ?_
     refine TrQ.gq rfl rfl hT12 (QS.move rfl) rfl ?_
     refine TrQ.gq rfl rfl hT12 (QS.idxRowN rfl rfl (by repeat constructor) Try.underlying23 Try.sizeOf39 (by rfl) (by omega)) rfl ?_
     refine TrQ.gq rfl rfl hT12 (QS.elR1 rfl (by repeat constructor) Try.isAgg39 (by omega) (by rfl)) rfl ?_
     refine TrQ.gq rfl rfl hT12 (QS.move rfl) rfl ?_
     refine TrQ.gq rfl rfl hT12 (QS.move rfl) rfl ?_
     refine TrQ.gq rfl rfl hT12 (QS.idxRowN rfl rfl (by repeat constructor) Try.underlying23 Try.sizeOf39 (by rfl) (by omega)) rfl ?_
     refine TrQ.gq rfl rfl hT12 (QS.elR1 rfl (by repeat constructor) Try.isAgg39 (by omega) (by rfl)) rfl ?_
     refine TrQ.gq rfl rfl hT12 (QS.call rfl Try.call118 (fun w hw => less_any (cur.toList.getD (x) default) (cur.toList.getD (a) default) w)) rfl ?_
     refine TrQ.q (QS.pickT rfl hT12 rfl) rfl ?_
     exact TrQ.end (Sub.cons rfl (Sub.dropN 10 (by kernel_rfl) rfl))
    ·intro hF12
     refine TrQ.gskip rfl rfl hF12 rfl ?_
     refine TrQ.gskip rfl rfl hF12 rfl ?_
     refine TrQ.gskip rfl rfl hF12 rfl ?_
     refine TrQ.gskip rfl rfl hF12 rfl ?_
     refine TrQ.gskip rfl rfl hF12 rfl ?_
     refine TrQ.gskip rfl rfl hF12 rfl ?_
     refine TrQ.gskip rfl rfl hF12 rfl ?_
     refine TrQ.gskip rfl rfl hF12 rfl ?_
     refine TrQ.gskip rfl rfl hF12 rfl ?_
     refine TrQ.q (QS.pickF rfl hF12 rfl) rfl ?_
     exact TrQ.end (Sub.cons rfl (Sub.dropN 10 (by kernel_rfl) rfl))
    refine TrQ.nil ?_
    refine Tr.thenN ?_
    refine Tr.cond rfl (fun h13 => ?_) (fun h13 => ?_)
    ·try simp only [bs] at h13
     refine Tr.skip (Tr.thenN (Tr.block (Tr.region ?_)))
     refine Tr.q (QS.move rfl) rfl ?_
     refine Tr.q (QS.addI rfl rfl (by omega)) rfl ?_
     refine Tr.q (QS.assign rfl) rfl ?_
     refine Tr.nil (Tr.inN (Tr.thenN ?_))
     apply Tr.again (x + 1)
     ·exact rfl
     ·exact (.cons (by first | rfl | exact lookI rfl (by omega) | exact lookI rfl (by simp) | exact lookB rfl (by simp)) (.cons (by first | rfl | exact lookI rfl (by omega) | exact lookI rfl (by simp) | exact lookB rfl (by simp)) Front.nil))
     ·exact SubX.dropN 10 (by kernel_rfl) rfl
     ·exact (by repeat' constructor)
     ·exact ⟨by omega, by omega, by rw [← hx3]; exact (up_go (by omega) (by rw [← bang, ← bang]; simp_all)).symm⟩
     ·exact (by (try dsimp only); omega)
    ·try simp only [bs] at h13
     refine Tr.exit ?_
     refine Tr.thenE (Tr.thenE (Tr.inHit (Tr.thenN (Tr.seq (Tr.block ?_)))))
     refine Tr.loop (ι := Nat) (fun y => y ≤ j3 ∧ x ≤ y + 1 ∧ scanDown (fun z => !ltW z cur[a]!) cur x y = scanDown (fun z => !ltW z cur[a]!) cur x j3) (fun _ => _) (fun y => [rowE V 39 encU32 cur.toList]) (fun y => [(10, .int .i64 (x : Nat)), (11, .int .i64 (y : Nat))]) (fun y => y) j3 ⟨Nat.le_refl _, by omega, rfl⟩ (.cons (by first | rfl | exact lookI rfl (by omega) | exact lookI rfl (by simp) | exact lookB rfl (by simp)) (.cons (by first | rfl | exact lookI rfl (by omega) | exact lookI rfl (by simp) | exact lookB rfl (by simp)) Front.nil)) (by repeat' constructor) rfl (fun y hi m hm => ?_)
     replace hi : y ≤ j3 ∧ x ≤ y + 1 ∧ scanDown (fun z => !ltW z cur[a]!) cur x y = scanDown (fun z => !ltW z cur[a]!) cur x j3 := hi
     replace hm : m = y := hm
     change Tr _ _ [rowE V 39 encU32 cur.toList] ([(10, .int .i64 (x : Nat)), (11, .int .i64 (y : Nat))] ++ _) _
     obtain ⟨hy1, hy2, hy3⟩ := hi
     refine Tr.seq (Tr.seq ?_)
     refine Tr.regionQ HLF.mixed (by kernel_rfl) ?_
     refine TrQ.q (QS.move rfl) rfl ?_
     refine TrQ.q (QS.move rfl) rfl ?_
     refine TrQ.q (QS.leq rfl rfl) rfl ?_
     refine TrQ.q (QS.move rfl) rfl ?_
     apply TrQ.andP
     ·exact (rfl : _ = (11, 118, 129))
     ·exact rfl
     ·intro hT14; have hT14' := hT14
      try simp only [bs] at hT14'
      refine TrQ.gq rfl rfl hT14 (QS.move rfl) rfl ?_
      refine TrQ.gq rfl rfl hT14 (QS.move rfl) rfl ?_
      refine TrQ.gq rfl rfl hT14 (QS.idxRowN rfl rfl (by repeat constructor) Try.underlying23 Try.sizeOf39 (by rfl) (by omega)) rfl ?_
      refine TrQ.gq rfl rfl hT14 (QS.elR1 rfl (by repeat constructor) Try.isAgg39 (by omega) (by rfl)) rfl ?_
      refine TrQ.gq rfl rfl hT14 (QS.move rfl) rfl ?_
      refine TrQ.gq rfl rfl hT14 (QS.move rfl) rfl ?_
      refine TrQ.gq rfl rfl hT14 (QS.idxRowN rfl rfl (by repeat constructor) Try.underlying23 Try.sizeOf39 (by rfl) (by omega)) rfl ?_
      refine TrQ.gq rfl rfl hT14 (QS.elR1 rfl (by repeat constructor) Try.isAgg39 (by omega) (by rfl)) rfl ?_
      refine TrQ.gq rfl rfl hT14 (QS.call rfl Try.call118 (fun w hw => less_any (cur.toList.getD (y) default) (cur.toList.getD (a) default) w)) rfl ?_
      refine TrQ.gq rfl rfl hT14 (QS.not rfl) rfl ?_
      refine TrQ.q (QS.pickT rfl hT14 rfl) rfl ?_
      exact TrQ.end (Sub.cons rfl (Sub.dropN 11 (by kernel_rfl) rfl))
     ·intro hF14
      refine TrQ.gskip rfl rfl hF14 rfl ?_
      refine TrQ.gskip rfl rfl hF14 rfl ?_
      refine TrQ.gskip rfl rfl hF14 rfl ?_
      refine TrQ.gskip rfl rfl hF14 rfl ?_
      refine TrQ.gskip rfl rfl hF14 rfl ?_
      refine TrQ.gskip rfl rfl hF14 rfl ?_
      refine TrQ.gskip rfl rfl hF14 rfl ?_
      refine TrQ.gskip rfl rfl hF14 rfl ?_
      refine TrQ.gskip rfl rfl hF14 rfl ?_
      refine TrQ.gskip rfl rfl hF14 rfl ?_
      refine TrQ.q (QS.pickF rfl hF14 rfl) rfl ?_
      exact TrQ.end (Sub.cons rfl (Sub.dropN 11 (by kernel_rfl) rfl))
     refine TrQ.nil ?_
     refine Tr.thenN ?_
     refine Tr.cond rfl (fun h15 => ?_) (fun h15 => ?_)
     ·try simp only [bs] at h15
      refine Tr.skip (Tr.thenN (Tr.block (Tr.region ?_)))
      refine Tr.q (QS.move rfl) rfl ?_
      refine Tr.q (QS.subI rfl rfl (by omega)) rfl ?_
      refine Tr.q (QS.assign rfl) rfl ?_
      refine Tr.nil (Tr.inN (Tr.thenN ?_))
      apply Tr.again (y - 1)
      ·exact rfl
      ·exact (.cons (by first | rfl | exact lookI rfl (by omega) | exact lookI rfl (by simp) | exact lookB rfl (by simp)) (.cons (by first | rfl | exact lookI rfl (by omega) | exact lookI rfl (by simp) | exact lookB rfl (by simp)) Front.nil))
      ·exact SubX.dropN 10 (by kernel_rfl) rfl
      ·exact (by repeat' constructor)
      ·exact ⟨by omega, by omega, by rw [← hy3]; exact (down_go (by omega) (by omega) (by rw [← bang, ← bang]; simp_all)).symm⟩
      ·exact (by (try dsimp only); omega)
     ·try simp only [bs] at h15
      refine Tr.exit ?_
      refine Tr.thenE (Tr.thenE (Tr.inHit (Tr.thenN (Tr.seq (Tr.seq ?_)))))
      have hX : scanUp (fun z => ltW z cur[a]!) cur j3 i3 = x := by
       rw [← hx3]; exact up_stop (by
        rcases h13 with q | q
        ·exact .inl (by omega)
        ·exact .inr (by rw [← bang, ← bang]; exact q))
      have hY : scanDown (fun z => !ltW z cur[a]!) cur x j3 = y := by
       rw [← hy3]; exact down_stop (by
        rcases h15 with q | q
        ·exact .inl (by omega)
        ·exact .inr (by rw [← bang, ← bang, q]; rfl))
      refine Tr.region ?_
      refine Tr.q (QS.move rfl) rfl ?_
      refine Tr.q (QS.move rfl) rfl ?_
      refine Tr.q (QS.gtr rfl rfl) rfl ?_
      refine Tr.nil (Tr.thenN ?_)
      refine Tr.cond rfl (fun h16 => ?_) (fun h16 => ?_)
      ·try simp only [bs] at h16
       refine Tr.exit ?_
       refine Tr.thenE ?_
       refine Tr.inMiss rfl ?_
       refine Tr.thenE (Tr.inHit (Tr.thenN (Tr.seq ?_)))
       refine Tr.regionT 4 13 HLF.mixed (by kernel_rfl) (panicThen panicBody) ?_
       refine TrQ.pureMove rfl rfl ?_
       refine TrQ.pureMove rfl rfl ?_
       refine TrQ.pureMove rfl rfl ?_
       refine TrQ.pureMove rfl rfl ?_
       refine TrQ.pureNil ?_
       refine TrQ.q (QS.move rfl) rfl ?_
       refine TrQ.q (QS.move rfl) rfl ?_
       refine TrQ.q (QS.idxRowN rfl rfl (by repeat constructor) Try.underlying23 Try.sizeOf39 (by rfl) (by omega)) rfl ?_
       refine TrQ.q (QS.elR1 rfl (by repeat constructor) Try.isAgg39 (by omega) (by rfl)) rfl ?_
       refine TrQ.q (QS.move rfl) rfl ?_
       refine TrQ.q (QS.move rfl) rfl ?_
       refine TrQ.q (QS.idxRowN rfl rfl (by repeat constructor) Try.underlying23 Try.sizeOf39 (by rfl) (by omega)) rfl ?_
       refine TrQ.q (QS.elR1 rfl (by repeat constructor) Try.isAgg39 (by omega) (by rfl)) rfl ?_
       refine TrQ.q (QS.idxRowN rfl rfl (by repeat constructor) Try.underlying23 Try.sizeOf39 (by rfl) (by omega)) rfl ?_
       refine TrQ.nil ?_
       refine Tr.storeEl (l := cur.toList) (i := y) (cur.toList.getD (a) default) rfl rfl Try.sizeOf39 (by repeat constructor) (by (try simp only [List.length_set]); omega) (by rfl) rfl ?_
       have hls17 : (List.set cur.toList (y) (cur.toList.getD (a) default)).length = (cur.toList).length := List.length_set
       refine Tr.q (QS.idxRowN rfl rfl (by repeat constructor) Try.underlying23 Try.sizeOf39 (by rfl) (by omega)) rfl ?_
       refine Tr.storeEl (l := (cur.toList.set (y) (cur.toList.getD (a) default))) (i := a) (cur.toList.getD (y) default) rfl rfl Try.sizeOf39 (by repeat constructor) (by (try simp only [List.length_set]); omega) (by rfl) rfl ?_
       have hls18 : (List.set (cur.toList.set (y) (cur.toList.getD (a) default)) (a) (cur.toList.getD (y) default)).length = ((cur.toList.set (y) (cur.toList.getD (a) default))).length := List.length_set
       rw [bang, bang, set_swp]
       refine Tr.nil (Tr.thenN (Tr.seq (Tr.region ?_)))
       refine Tr.q (QS.move rfl) rfl ?_
       refine Tr.q (QS.assign rfl) rfl ?_
       refine Tr.q (QS.assign rfl) rfl ?_
       refine Tr.nil (Tr.thenN (Tr.ret ?_))
       refine Tr.ret2 Try.results120 rfl rfl (fun w' hw => ?_)
       have he := part_end hX hY (by omega)
       have hpt : partition ltW d a b p = (y, false, swp cur y a) := by
        unfold partition; simp only [← hd1, hI, hJ]; rw [if_neg (by omega), ← hk3, he]
       exact ⟨by rw [hpt], by rw [hpt]; exact HpOK.mutOwn hw (.head _) rfl⟩
      ·try simp only [bs] at h16
       refine Tr.skip (Tr.thenN (Tr.seq ?_))
       have hxy : x < y := by
        rcases Nat.lt_or_ge x y with q | q
        ·exact q
        ·exfalso
         have e : x = y := by omega
         rcases h13 with g1 | g1
         ·omega
         ·rcases h15 with g2 | g2
          ·omega
          ·rw [e, g2] at g1; cases g1
       refine Tr.regionT 4 13 HLF.mixed (by kernel_rfl) (panicThen (panicIn (panicThen (panicIn (panicThen panicBody))))) ?_
       refine TrQ.pureMove rfl rfl ?_
       refine TrQ.pureMove rfl rfl ?_
       refine TrQ.pureMove rfl rfl ?_
       refine TrQ.pureMove rfl rfl ?_
       refine TrQ.pureNil ?_
       refine TrQ.q (QS.move rfl) rfl ?_
       refine TrQ.q (QS.move rfl) rfl ?_
       refine TrQ.q (QS.idxRowN rfl rfl (by repeat constructor) Try.underlying23 Try.sizeOf39 (by rfl) (by omega)) rfl ?_
       refine TrQ.q (QS.elR1 rfl (by repeat constructor) Try.isAgg39 (by omega) (by rfl)) rfl ?_
       refine TrQ.q (QS.move rfl) rfl ?_
       refine TrQ.q (QS.move rfl) rfl ?_
       refine TrQ.q (QS.idxRowN rfl rfl (by repeat constructor) Try.underlying23 Try.sizeOf39 (by rfl) (by omega)) rfl ?_
       refine TrQ.q (QS.elR1 rfl (by repeat constructor) Try.isAgg39 (by omega) (by rfl)) rfl ?_
       refine TrQ.q (QS.idxRowN rfl rfl (by repeat constructor) Try.underlying23 Try.sizeOf39 (by rfl) (by omega)) rfl ?_
       refine TrQ.nil ?_
       refine Tr.storeEl (l := cur.toList) (i := x) (cur.toList.getD (y) default) rfl rfl Try.sizeOf39 (by repeat constructor) (by (try simp only [List.length_set]); omega) (by rfl) rfl ?_
       have hls19 : (List.set cur.toList (x) (cur.toList.getD (y) default)).length = (cur.toList).length := List.length_set
       refine Tr.q (QS.idxRowN rfl rfl (by repeat constructor) Try.underlying23 Try.sizeOf39 (by rfl) (by omega)) rfl ?_
       refine Tr.storeEl (l := (cur.toList.set (x) (cur.toList.getD (y) default))) (i := y) (cur.toList.getD (x) default) rfl rfl Try.sizeOf39 (by repeat constructor) (by (try simp only [List.length_set]); omega) (by rfl) rfl ?_
       have hls20 : (List.set (cur.toList.set (x) (cur.toList.getD (y) default)) (y) (cur.toList.getD (x) default)).length = ((cur.toList.set (x) (cur.toList.getD (y) default))).length := List.length_set
       refine Tr.nil (Tr.thenN (Tr.seq (Tr.region ?_)))
       refine Tr.q (QS.move rfl) rfl ?_
       refine Tr.q (QS.addI rfl rfl (by omega)) rfl ?_
       refine Tr.q (QS.assign rfl) rfl ?_
       refine Tr.nil (Tr.thenN (Tr.region ?_))
       refine Tr.q (QS.move rfl) rfl ?_
       refine Tr.q (QS.subI rfl rfl (by omega)) rfl ?_
       refine Tr.q (QS.assign rfl) rfl ?_
       refine Tr.nil (Tr.inN (Tr.thenN ?_))
       rw [bang, bang, set_swp]
       apply Tr.again (x + 1, y - 1, _)
       ·exact rfl
       ·exact (.cons (by first | rfl | exact lookI rfl (by omega) | exact lookI rfl (by simp) | exact lookB rfl (by simp)) (.cons (by first | rfl | exact lookI rfl (by omega) | exact lookI rfl (by simp) | exact lookB rfl (by simp)) Front.nil))
       ·exact SubX.dropN 39 (by kernel_rfl) rfl
       ·exact (by repeat' constructor)
       ·exact ⟨by omega, by rw [swpW]; exact hk2, by rw [← hk3]; exact (own_part_go hX hY hxy hx1 hy1).symm⟩
       ·exact (by (try dsimp only); omega)
set_option maxRecDepth 100000 in
set_option maxHeartbeats 8000000 in
theorem partitionEq_u32 (d : Array UInt32) (V : Value) (a : Nat) (b : Nat) (p : Nat) (ai : Int) (bi : Int) (pi : Int) (ea : ai = ((a : Nat) : Int)) (eb : bi = ((b : Nat) : Int)) (ep : pi = ((p : Nat) : Int)) (w : World) (hr : (rowE V 39 encU32 d.toList).holds w) (hd : d.size ≤ 1000000) (hab : a + 1 < b) (hb : b ≤ d.size) (hp : p < b) :
  Calls Try.prog 119 #[V, .int .i64 ai, .int .i64 bi, .int .i64 pi] w (fun e w' => e = .returned (.int .i64 ((partitionEqual ltW d a b p).1 : Nat)) ∧ Mut w w' V ∧ (rowE V 39 encU32 (partitionEqual ltW d a b p).2.toList).holds w') := by
 subst ea eb ep
 obtain ⟨d1, hd1⟩ : ∃ x, x = swp d a p := ⟨_, rfl⟩
 have hs1 : d1.size = d.size := by rw [hd1, swpW]
 have hl0 : d.toList.length = d.size := Array.length_toList
 have hl1 : d1.toList.length = d.size := by rw [Array.length_toList]; exact hs1
 refine enterOwn (l := d.toList) (E := encU32) (T := 39) hr Try.func119 rfl Try.ntmps119 rfl ?_
 refine Tr.seq (Tr.region ?_)
 refine Tr.q (QS.assign rfl) rfl ?_
 refine Tr.nil (Tr.thenN (Tr.seq ?_))
 refine Tr.regionT 4 13 HLF.mixed (by kernel_rfl) (panicThen panicBody) ?_
 refine TrQ.pureMove rfl rfl ?_
 refine TrQ.pureMove rfl rfl ?_
 refine TrQ.pureMove rfl rfl ?_
 refine TrQ.pureMove rfl rfl ?_
 refine TrQ.pureNil ?_
 refine TrQ.q (QS.move rfl) rfl ?_
 refine TrQ.q (QS.move rfl) rfl ?_
 refine TrQ.q (QS.idxRowN rfl rfl (by repeat constructor) Try.underlying23 Try.sizeOf39 (by rfl) (by omega)) rfl ?_
 refine TrQ.q (QS.elR1 rfl (by repeat constructor) Try.isAgg39 (by omega) (by rfl)) rfl ?_
 refine TrQ.q (QS.move rfl) rfl ?_
 refine TrQ.q (QS.move rfl) rfl ?_
 refine TrQ.q (QS.idxRowN rfl rfl (by repeat constructor) Try.underlying23 Try.sizeOf39 (by rfl) (by omega)) rfl ?_
 refine TrQ.q (QS.elR1 rfl (by repeat constructor) Try.isAgg39 (by omega) (by rfl)) rfl ?_
 refine TrQ.q (QS.idxRowN rfl rfl (by repeat constructor) Try.underlying23 Try.sizeOf39 (by rfl) (by omega)) rfl ?_
 refine TrQ.nil ?_
 refine Tr.storeEl (l := d.toList) (i := a) (d.toList.getD (p) default) rfl rfl Try.sizeOf39 (by repeat constructor) (by (try simp only [List.length_set]); omega) (by rfl) rfl ?_
 have hls1 : (List.set d.toList (a) (d.toList.getD (p) default)).length = (d.toList).length := List.length_set
 refine Tr.q (QS.idxRowN rfl rfl (by repeat constructor) Try.underlying23 Try.sizeOf39 (by rfl) (by omega)) rfl ?_
 refine Tr.storeEl (l := (d.toList.set (a) (d.toList.getD (p) default))) (i := p) (d.toList.getD (a) default) rfl rfl Try.sizeOf39 (by repeat constructor) (by (try simp only [List.length_set]); omega) (by rfl) rfl ?_
 have hls2 : (List.set (d.toList.set (a) (d.toList.getD (p) default)) (p) (d.toList.getD (a) default)).length = ((d.toList.set (a) (d.toList.getD (p) default))).length := List.length_set
 rw [bang, bang, set_swp, ← hd1]
 refine Tr.nil (Tr.thenN (Tr.seq (Tr.region ?_)))
 refine Tr.q (QS.move rfl) rfl ?_
 refine Tr.q (QS.addI rfl rfl (by omega)) rfl ?_
 refine Tr.q (QS.move rfl) rfl ?_
 refine Tr.q (QS.subI rfl rfl (by omega)) rfl ?_
 refine Tr.q (QS.assign rfl) rfl ?_
 refine Tr.q (QS.assign rfl) rfl ?_
 refine Tr.nil (Tr.thenN (Tr.seq (Tr.block ?_)))
 refine Tr.loop (ι := Nat × Nat × Array UInt32) (fun ⟨i3, j3, cur⟩ => (a + 1 ≤ i3 ∧ i3 ≤ j3 + 1 ∧ j3 < b) ∧ cur.size = d.size ∧ partEqLoop ltW a i3 j3 cur = partitionEqual ltW d a b p) (fun _ => _) (fun ⟨i3, j3, cur⟩ => [rowE V 39 encU32 cur.toList]) (fun ⟨i3, j3, cur⟩ => [(9, .int .i64 (i3 : Nat)), (10, .int .i64 (j3 : Nat))]) (fun ⟨i3, j3, cur⟩ => j3 + 1 - i3) (a + 1, b - 1, d1) ⟨by omega, hs1, by rw [hd1]; rfl⟩ (.cons (by first | rfl | exact lookI rfl (by omega) | exact lookI rfl (by simp) | exact lookB rfl (by simp)) (.cons (by first | rfl | exact lookI rfl (by omega) | exact lookI rfl (by simp) | exact lookB rfl (by simp)) Front.nil)) (by repeat' constructor) rfl (fun i hi m hm => ?_)
 obtain ⟨i3, j3, cur⟩ := i
 replace hi : (a + 1 ≤ i3 ∧ i3 ≤ j3 + 1 ∧ j3 < b) ∧ cur.size = d.size ∧ partEqLoop ltW a i3 j3 cur = partitionEqual ltW d a b p := hi
 replace hm : m = j3 + 1 - i3 := hm
 change Tr _ _ [rowE V 39 encU32 cur.toList] ([(9, .int .i64 (i3 : Nat)), (10, .int .i64 (j3 : Nat))] ++ _) _
 obtain ⟨hk1, hk2, hk3⟩ := hi
 have hcl : cur.toList.length = d.size := by rw [Array.length_toList]; exact hk2
 refine Tr.block (Tr.seq (Tr.block ?_))
 refine Tr.loop (ι := Nat) (fun x => i3 ≤ x ∧ x ≤ j3 + 1 ∧ scanUp (fun z => !ltW cur[a]! z) cur j3 x = scanUp (fun z => !ltW cur[a]! z) cur j3 i3) (fun _ => _) (fun x => [rowE V 39 encU32 cur.toList]) (fun x => [(9, .int .i64 (x : Nat)), (10, .int .i64 (j3 : Nat))]) (fun x => j3 + 1 - x) i3 ⟨Nat.le_refl _, by omega, rfl⟩ (.cons (by first | rfl | exact lookI rfl (by omega) | exact lookI rfl (by simp) | exact lookB rfl (by simp)) (.cons (by first | rfl | exact lookI rfl (by omega) | exact lookI rfl (by simp) | exact lookB rfl (by simp)) Front.nil)) (by repeat' constructor) rfl (fun x hi m hm => ?_)
 replace hi : i3 ≤ x ∧ x ≤ j3 + 1 ∧ scanUp (fun z => !ltW cur[a]! z) cur j3 x = scanUp (fun z => !ltW cur[a]! z) cur j3 i3 := hi
 replace hm : m = j3 + 1 - x := hm
 change Tr _ _ [rowE V 39 encU32 cur.toList] ([(9, .int .i64 (x : Nat)), (10, .int .i64 (j3 : Nat))] ++ _) _
 obtain ⟨hx1, hx2, hx3⟩ := hi
 refine Tr.seq (Tr.seq ?_)
 refine Tr.regionQ HLF.mixed (by kernel_rfl) ?_
 refine TrQ.q (QS.move rfl) rfl ?_
 refine TrQ.q (QS.move rfl) rfl ?_
 refine TrQ.q (QS.leq rfl rfl) rfl ?_
 refine TrQ.q (QS.move rfl) rfl ?_
 apply TrQ.andP
 ·exact (rfl : _ = (11, 32, 43))
 ·exact rfl
 ·intro hT3; have hT3' := hT3
  try simp only [bs] at hT3'
  refine TrQ.gq rfl rfl hT3 (QS.move rfl) rfl ?_
  refine TrQ.gq rfl rfl hT3 (QS.move rfl) rfl ?_
  refine TrQ.gq rfl rfl hT3 (QS.idxRowN rfl rfl (by repeat constructor) Try.underlying23 Try.sizeOf39 (by rfl) (by omega)) rfl ?_
  refine TrQ.gq rfl rfl hT3 (QS.elR1 rfl (by repeat constructor) Try.isAgg39 (by omega) (by rfl)) rfl ?_
  refine TrQ.gq rfl rfl hT3 (QS.move rfl) rfl ?_
  refine TrQ.gq rfl rfl hT3 (QS.move rfl) rfl ?_
  refine TrQ.gq rfl rfl hT3 (QS.idxRowN rfl rfl (by repeat constructor) Try.underlying23 Try.sizeOf39 (by rfl) (by omega)) rfl ?_
  refine TrQ.gq rfl rfl hT3 (QS.elR1 rfl (by repeat constructor) Try.isAgg39 (by omega) (by rfl)) rfl ?_
  refine TrQ.gq rfl rfl hT3 (QS.call rfl Try.call118 (fun w hw => less_any (cur.toList.getD (a) default) (cur.toList.getD (x) default) w)) rfl ?_
  refine TrQ.gq rfl rfl hT3 (QS.not rfl) rfl ?_
  refine TrQ.q (QS.pickT rfl hT3 rfl) rfl ?_
  exact TrQ.end (Sub.cons rfl (Sub.dropN 11 (by kernel_rfl) rfl))
 ·intro hF3
  refine TrQ.gskip rfl rfl hF3 rfl ?_
  refine TrQ.gskip rfl rfl hF3 rfl ?_
  refine TrQ.gskip rfl rfl hF3 rfl ?_
  refine TrQ.gskip rfl rfl hF3 rfl ?_
  refine TrQ.gskip rfl rfl hF3 rfl ?_
  refine TrQ.gskip rfl rfl hF3 rfl ?_
  refine TrQ.gskip rfl rfl hF3 rfl ?_
  refine TrQ.gskip rfl rfl hF3 rfl ?_
  refine TrQ.gskip rfl rfl hF3 rfl ?_
  refine TrQ.gskip rfl rfl hF3 rfl ?_
  refine TrQ.q (QS.pickF rfl hF3 rfl) rfl ?_
  exact TrQ.end (Sub.cons rfl (Sub.dropN 11 (by kernel_rfl) rfl))
 refine TrQ.nil ?_
 refine Tr.thenN ?_
 refine Tr.cond rfl (fun h4 => ?_) (fun h4 => ?_)
 ·try simp only [bs] at h4
  refine Tr.skip (Tr.thenN (Tr.block (Tr.region ?_)))
  refine Tr.q (QS.move rfl) rfl ?_
  refine Tr.q (QS.addI rfl rfl (by omega)) rfl ?_
  refine Tr.q (QS.assign rfl) rfl ?_
  refine Tr.nil (Tr.inN (Tr.thenN ?_))
  apply Tr.again (x + 1)
  ·exact rfl
  ·exact (.cons (by first | rfl | exact lookI rfl (by omega) | exact lookI rfl (by simp) | exact lookB rfl (by simp)) (.cons (by first | rfl | exact lookI rfl (by omega) | exact lookI rfl (by simp) | exact lookB rfl (by simp)) Front.nil))
  ·exact SubX.dropN 10 (by kernel_rfl) rfl
  ·exact (by repeat' constructor)
  ·exact ⟨by omega, by omega, by rw [← hx3]; exact (up_go (by omega) (by rw [← bang, ← bang]; simp_all)).symm⟩
  ·exact (by (try dsimp only); omega)
 ·try simp only [bs] at h4
  refine Tr.exit ?_
  refine Tr.thenE (Tr.thenE (Tr.inHit (Tr.thenN (Tr.seq (Tr.block ?_)))))
  refine Tr.loop (ι := Nat) (fun y => y ≤ j3 ∧ x ≤ y + 1 ∧ scanDown (fun z => ltW cur[a]! z) cur x y = scanDown (fun z => ltW cur[a]! z) cur x j3) (fun _ => _) (fun y => [rowE V 39 encU32 cur.toList]) (fun y => [(9, .int .i64 (x : Nat)), (10, .int .i64 (y : Nat))]) (fun y => y) j3 ⟨Nat.le_refl _, by omega, rfl⟩ (.cons (by first | rfl | exact lookI rfl (by omega) | exact lookI rfl (by simp) | exact lookB rfl (by simp)) (.cons (by first | rfl | exact lookI rfl (by omega) | exact lookI rfl (by simp) | exact lookB rfl (by simp)) Front.nil)) (by repeat' constructor) rfl (fun y hi m hm => ?_)
  replace hi : y ≤ j3 ∧ x ≤ y + 1 ∧ scanDown (fun z => ltW cur[a]! z) cur x y = scanDown (fun z => ltW cur[a]! z) cur x j3 := hi
  replace hm : m = y := hm
  change Tr _ _ [rowE V 39 encU32 cur.toList] ([(9, .int .i64 (x : Nat)), (10, .int .i64 (y : Nat))] ++ _) _
  obtain ⟨hy1, hy2, hy3⟩ := hi
  refine Tr.seq (Tr.seq ?_)
  refine Tr.regionQ HLF.mixed (by kernel_rfl) ?_
  refine TrQ.q (QS.move rfl) rfl ?_
  refine TrQ.q (QS.move rfl) rfl ?_
  refine TrQ.q (QS.leq rfl rfl) rfl ?_
  refine TrQ.q (QS.move rfl) rfl ?_
  apply TrQ.andP
  ·exact (rfl : _ = (10, 49, 59))
  ·exact rfl
  ·intro hT5; have hT5' := hT5
   try simp only [bs] at hT5'
   refine TrQ.gq rfl rfl hT5 (QS.move rfl) rfl ?_
   refine TrQ.gq rfl rfl hT5 (QS.move rfl) rfl ?_
   refine TrQ.gq rfl rfl hT5 (QS.idxRowN rfl rfl (by repeat constructor) Try.underlying23 Try.sizeOf39 (by rfl) (by omega)) rfl ?_
   refine TrQ.gq rfl rfl hT5 (QS.elR1 rfl (by repeat constructor) Try.isAgg39 (by omega) (by rfl)) rfl ?_
   refine TrQ.gq rfl rfl hT5 (QS.move rfl) rfl ?_
   refine TrQ.gq rfl rfl hT5 (QS.move rfl) rfl ?_
   refine TrQ.gq rfl rfl hT5 (QS.idxRowN rfl rfl (by repeat constructor) Try.underlying23 Try.sizeOf39 (by rfl) (by omega)) rfl ?_
   refine TrQ.gq rfl rfl hT5 (QS.elR1 rfl (by repeat constructor) Try.isAgg39 (by omega) (by rfl)) rfl ?_
   refine TrQ.gq rfl rfl hT5 (QS.call rfl Try.call118 (fun w hw => less_any (cur.toList.getD (a) default) (cur.toList.getD (y) default) w)) rfl ?_
   refine TrQ.q (QS.pickT rfl hT5 rfl) rfl ?_
   exact TrQ.end (Sub.cons rfl (Sub.dropN 10 (by kernel_rfl) rfl))
  ·intro hF5
   refine TrQ.gskip rfl rfl hF5 rfl ?_
   refine TrQ.gskip rfl rfl hF5 rfl ?_
   refine TrQ.gskip rfl rfl hF5 rfl ?_
   refine TrQ.gskip rfl rfl hF5 rfl ?_
   refine TrQ.gskip rfl rfl hF5 rfl ?_
   refine TrQ.gskip rfl rfl hF5 rfl ?_
   refine TrQ.gskip rfl rfl hF5 rfl ?_
   refine TrQ.gskip rfl rfl hF5 rfl ?_
   refine TrQ.gskip rfl rfl hF5 rfl ?_
   refine TrQ.q (QS.pickF rfl hF5 rfl) rfl ?_
   exact TrQ.end (Sub.cons rfl (Sub.dropN 10 (by kernel_rfl) rfl))
  refine TrQ.nil ?_
  refine Tr.thenN ?_
  refine Tr.cond rfl (fun h6 => ?_) (fun h6 => ?_)
  ·try simp only [bs] at h6
   refine Tr.skip (Tr.thenN (Tr.block (Tr.region ?_)))
   refine Tr.q (QS.move rfl) rfl ?_
   refine Tr.q (QS.subI rfl rfl (by omega)) rfl ?_
   refine Tr.q (QS.assign rfl) rfl ?_
   refine Tr.nil (Tr.inN (Tr.thenN ?_))
   apply Tr.again (y - 1)
   ·exact rfl
   ·exact (.cons (by first | rfl | exact lookI rfl (by omega) | exact lookI rfl (by simp) | exact lookB rfl (by simp)) (.cons (by first | rfl | exact lookI rfl (by omega) | exact lookI rfl (by simp) | exact lookB rfl (by simp)) Front.nil))
   ·exact SubX.dropN 10 (by kernel_rfl) rfl
   ·exact (by repeat' constructor)
   ·exact ⟨by omega, by omega, by rw [← hy3]; exact (down_go (by omega) (by omega) (by rw [← bang, ← bang]; simp_all)).symm⟩
   ·exact (by (try dsimp only); omega)
  ·try simp only [bs] at h6
   refine Tr.exit ?_
   refine Tr.thenE (Tr.thenE (Tr.inHit (Tr.thenN (Tr.seq (Tr.seq ?_)))))
   have hX : scanUp (fun z => !ltW cur[a]! z) cur j3 i3 = x := by
    rw [← hx3]; exact up_stop (by
     rcases h4 with q | q
     ·exact .inl (by omega)
     ·exact .inr (by rw [← bang, ← bang, q]; rfl))
   have hY : scanDown (fun z => ltW cur[a]! z) cur x j3 = y := by
    rw [← hy3]; exact down_stop (by
     rcases h6 with q | q
     ·exact .inl (by omega)
     ·exact .inr (by rw [← bang, ← bang]; exact q))
   refine Tr.region ?_
   refine Tr.q (QS.move rfl) rfl ?_
   refine Tr.q (QS.move rfl) rfl ?_
   refine Tr.q (QS.gtr rfl rfl) rfl ?_
   refine Tr.nil (Tr.thenN ?_)
   refine Tr.cond rfl (fun h7 => ?_) (fun h7 => ?_)
   ·try simp only [bs] at h7
    refine Tr.exit ?_
    refine Tr.thenE ?_
    refine Tr.inMiss rfl ?_
    refine Tr.thenE (Tr.inHit (Tr.thenN (Tr.seq (Tr.region ?_))))
    refine Tr.q (QS.move rfl) rfl ?_
    refine Tr.q (QS.assign rfl) rfl ?_
    refine Tr.nil (Tr.thenN (Tr.ret ?_))
    refine Tr.ret1 Try.results119 rfl (fun w' hw => ?_)
    have he := parteq_end hX hY (by omega)
    rw [he] at hk3
    exact ⟨by rw [← hk3], by rw [← hk3]; exact HpOK.mutOwn hw (.head _) rfl⟩
   ·try simp only [bs] at h7
    refine Tr.skip (Tr.thenN (Tr.seq ?_))
    have hxy : x < y := by
     rcases Nat.lt_or_ge x y with q | q
     ·exact q
     ·exfalso
      have e : x = y := by omega
      rcases h4 with g1 | g1
      ·omega
      ·rcases h6 with g2 | g2
       ·omega
       ·rw [e, g2] at g1; cases g1
    refine Tr.regionT 4 13 HLF.mixed (by kernel_rfl) (panicThen (panicIn (panicThen (panicIn (panicThen panicBody))))) ?_
    refine TrQ.pureMove rfl rfl ?_
    refine TrQ.pureMove rfl rfl ?_
    refine TrQ.pureMove rfl rfl ?_
    refine TrQ.pureMove rfl rfl ?_
    refine TrQ.pureNil ?_
    refine TrQ.q (QS.move rfl) rfl ?_
    refine TrQ.q (QS.move rfl) rfl ?_
    refine TrQ.q (QS.idxRowN rfl rfl (by repeat constructor) Try.underlying23 Try.sizeOf39 (by rfl) (by omega)) rfl ?_
    refine TrQ.q (QS.elR1 rfl (by repeat constructor) Try.isAgg39 (by omega) (by rfl)) rfl ?_
    refine TrQ.q (QS.move rfl) rfl ?_
    refine TrQ.q (QS.move rfl) rfl ?_
    refine TrQ.q (QS.idxRowN rfl rfl (by repeat constructor) Try.underlying23 Try.sizeOf39 (by rfl) (by omega)) rfl ?_
    refine TrQ.q (QS.elR1 rfl (by repeat constructor) Try.isAgg39 (by omega) (by rfl)) rfl ?_
    refine TrQ.q (QS.idxRowN rfl rfl (by repeat constructor) Try.underlying23 Try.sizeOf39 (by rfl) (by omega)) rfl ?_
    refine TrQ.nil ?_
    refine Tr.storeEl (l := cur.toList) (i := x) (cur.toList.getD (y) default) rfl rfl Try.sizeOf39 (by repeat constructor) (by (try simp only [List.length_set]); omega) (by rfl) rfl ?_
    have hls8 : (List.set cur.toList (x) (cur.toList.getD (y) default)).length = (cur.toList).length := List.length_set
    refine Tr.q (QS.idxRowN rfl rfl (by repeat constructor) Try.underlying23 Try.sizeOf39 (by rfl) (by omega)) rfl ?_
    refine Tr.storeEl (l := (cur.toList.set (x) (cur.toList.getD (y) default))) (i := y) (cur.toList.getD (x) default) rfl rfl Try.sizeOf39 (by repeat constructor) (by (try simp only [List.length_set]); omega) (by rfl) rfl ?_
    have hls9 : (List.set (cur.toList.set (x) (cur.toList.getD (y) default)) (y) (cur.toList.getD (x) default)).length = ((cur.toList.set (x) (cur.toList.getD (y) default))).length := List.length_set
    refine Tr.nil (Tr.thenN (Tr.seq (Tr.region ?_)))
    refine Tr.q (QS.move rfl) rfl ?_
    refine Tr.q (QS.addI rfl rfl (by omega)) rfl ?_
    refine Tr.q (QS.assign rfl) rfl ?_
    refine Tr.nil (Tr.thenN (Tr.region ?_))
    refine Tr.q (QS.move rfl) rfl ?_
    refine Tr.q (QS.subI rfl rfl (by omega)) rfl ?_
    refine Tr.q (QS.assign rfl) rfl ?_
    refine Tr.nil (Tr.inN (Tr.thenN ?_))
    rw [bang, bang, set_swp]
    apply Tr.again (x + 1, y - 1, _)
    ·exact rfl
    ·exact (.cons (by first | rfl | exact lookI rfl (by omega) | exact lookI rfl (by simp) | exact lookB rfl (by simp)) (.cons (by first | rfl | exact lookI rfl (by omega) | exact lookI rfl (by simp) | exact lookB rfl (by simp)) Front.nil))
    ·exact SubX.dropN 39 (by kernel_rfl) rfl
    ·exact (by repeat' constructor)
    ·exact ⟨by omega, by rw [swpW]; exact hk2, by rw [← hk3]; exact (parteq_go hX hY hxy hx1 hy1).symm⟩
    ·exact (by (try dsimp only); omega)
set_option maxRecDepth 100000 in
set_option maxHeartbeats 8000000 in
theorem partialIns_u32 (d : Array UInt32) (V : Value) (a : Nat) (b : Nat) (ai : Int) (bi : Int) (ea : ai = ((a : Nat) : Int)) (eb : bi = ((b : Nat) : Int)) (w : World) (hr : (rowE V 39 encU32 d.toList).holds w) (hd : d.size ≤ 1000000) (hab : a + 1 < b) (hb : b ≤ d.size) :
  Calls Try.prog 117 #[V, .int .i64 ai, .int .i64 bi] w (fun e w' => e = .returned (.bool (partialInsertionSort ltW d a b).2) ∧ Mut w w' V ∧ (rowE V 39 encU32 (partialInsertionSort ltW d a b).1.toList).holds w') := by
 subst ea eb
 refine enterOwn (l := d.toList) (E := encU32) (T := 39) hr Try.func117 rfl Try.ntmps117 rfl ?_
 refine Tr.seq (Tr.region ?_)
 refine Tr.q (QS.assign rfl) rfl ?_
 refine Tr.nil (Tr.thenN (Tr.seq (Tr.region ?_)))
 refine Tr.q (QS.move rfl) rfl ?_
 refine Tr.q (QS.addI rfl rfl (by omega)) rfl ?_
 refine Tr.q (QS.assign rfl) rfl ?_
 refine Tr.nil (Tr.thenN (Tr.seq (Tr.seq (Tr.region ?_))))
 refine Tr.q (QS.assign rfl) rfl ?_
 refine Tr.nil (Tr.thenN (Tr.block ?_))
 refine Tr.loop (ι := Nat × Nat × Array UInt32) (fun ⟨s, i, cur⟩ => (s ≤ 5 ∧ a + 1 ≤ i ∧ i ≤ b) ∧ cur.size = d.size ∧ partialIns ltW a b (5 - s) i cur = partialInsertionSort ltW d a b) (fun _ => _) (fun ⟨s, i, cur⟩ => [rowE V 39 encU32 cur.toList]) (fun ⟨s, i, cur⟩ => [(8, .int .i64 (s : Nat)), (7, .int .i64 (i : Nat))]) (fun ⟨s, i, cur⟩ => 5 - s) (0, a + 1, d) ⟨by omega, rfl, rfl⟩ (.cons (by first | rfl | exact lookI rfl (by omega) | exact lookI rfl (by simp) | exact lookB rfl (by simp)) (.cons (by first | rfl | exact lookI rfl (by omega) | exact lookI rfl (by simp) | exact lookB rfl (by simp)) Front.nil)) (by repeat' constructor) rfl (fun i hi m hm => ?_)
 obtain ⟨s, i, cur⟩ := i
 replace hi : (s ≤ 5 ∧ a + 1 ≤ i ∧ i ≤ b) ∧ cur.size = d.size ∧ partialIns ltW a b (5 - s) i cur = partialInsertionSort ltW d a b := hi
 replace hm : m = 5 - s := hm
 change Tr _ _ [rowE V 39 encU32 cur.toList] ([(8, .int .i64 (s : Nat)), (7, .int .i64 (i : Nat))] ++ _) _
 obtain ⟨hk1, hk2, hk3⟩ := hi
 have hcl : cur.toList.length = d.size := by rw [Array.length_toList]; exact hk2
 refine Tr.seq (Tr.seq (Tr.region ?_))
 refine Tr.q (QS.move rfl) rfl ?_
 refine Tr.q (QS.lss rfl rfl) rfl ?_
 refine Tr.nil (Tr.thenN ?_)
 refine Tr.cond rfl (fun h1 => ?_) (fun h1 => ?_)
 ·try simp only [bs] at h1
  refine Tr.skip (Tr.thenN (Tr.seq (Tr.block (Tr.seq (Tr.block ?_)))))
  refine Tr.loop (ι := Nat) (fun x => i ≤ x ∧ x ≤ b ∧ scanSorted ltW cur b x = scanSorted ltW cur b i) (fun _ => _) (fun x => [rowE V 39 encU32 cur.toList]) (fun x => [(7, .int .i64 (x : Nat)), (8, .int .i64 (s : Nat))]) (fun x => b - x) i ⟨Nat.le_refl _, by omega, rfl⟩ (.cons (by first | rfl | exact lookI rfl (by omega) | exact lookI rfl (by simp) | exact lookB rfl (by simp)) (.cons (by first | rfl | exact lookI rfl (by omega) | exact lookI rfl (by simp) | exact lookB rfl (by simp)) Front.nil)) (by repeat' constructor) rfl (fun x hi m hm => ?_)
  replace hi : i ≤ x ∧ x ≤ b ∧ scanSorted ltW cur b x = scanSorted ltW cur b i := hi
  replace hm : m = b - x := hm
  change Tr _ _ [rowE V 39 encU32 cur.toList] ([(7, .int .i64 (x : Nat)), (8, .int .i64 (s : Nat))] ++ _) _
  obtain ⟨hx1, hx2, hx3⟩ := hi
  have ex : ((x : Int) - 1).toNat = x - 1 := by omega
  refine Tr.seq (Tr.seq ?_)
  refine Tr.regionQ HLF.mixed (by kernel_rfl) ?_
  refine TrQ.q (QS.move rfl) rfl ?_
  refine TrQ.q (QS.move rfl) rfl ?_
  refine TrQ.q (QS.lss rfl rfl) rfl ?_
  refine TrQ.q (QS.move rfl) rfl ?_
  apply TrQ.andP
  ·exact (rfl : _ = (12, 20, 32))
  ·exact rfl
  ·intro hT2; have hT2' := hT2
   try simp only [bs] at hT2'
   refine TrQ.gq rfl rfl hT2 (QS.move rfl) rfl ?_
   refine TrQ.gq rfl rfl hT2 (QS.move rfl) rfl ?_
   refine TrQ.gq rfl rfl hT2 (QS.idxRowN rfl rfl (by repeat constructor) Try.underlying23 Try.sizeOf39 (by rfl) (by omega)) rfl ?_
   refine TrQ.gq rfl rfl hT2 (QS.elR1 rfl (by repeat constructor) Try.isAgg39 (by omega) (by rfl)) rfl ?_
   refine TrQ.gq rfl rfl hT2 (QS.move rfl) rfl ?_
   refine TrQ.gq rfl rfl hT2 (QS.move rfl) rfl ?_
   refine TrQ.gq rfl rfl hT2 (QS.subI rfl rfl (by omega)) rfl ?_
   refine TrQ.gq rfl rfl hT2 (QS.idxRow rfl rfl (by repeat constructor) Try.underlying23 Try.sizeOf39 (by rfl) (by omega)) rfl ?_
   refine TrQ.gq rfl rfl hT2 (QS.elR1 rfl (by repeat constructor) Try.isAgg39 (by omega) (by rfl)) rfl ?_
   refine TrQ.gq rfl rfl hT2 (QS.call rfl Try.call118 (fun w hw => less_any (cur.toList.getD (x) default) (cur.toList.getD (((x : Int) - 1).toNat) default) w)) rfl ?_
   refine TrQ.gq rfl rfl hT2 (QS.not rfl) rfl ?_
   refine TrQ.q (QS.pickT rfl hT2 rfl) rfl ?_
   exact TrQ.end (Sub.cons rfl (Sub.dropN 12 (by kernel_rfl) rfl))
  ·intro hF2
   refine TrQ.gskip rfl rfl hF2 rfl ?_
   refine TrQ.gskip rfl rfl hF2 rfl ?_
   refine TrQ.gskip rfl rfl hF2 rfl ?_
   refine TrQ.gskip rfl rfl hF2 rfl ?_
   refine TrQ.gskip rfl rfl hF2 rfl ?_
   refine TrQ.gskip rfl rfl hF2 rfl ?_
   refine TrQ.gskip rfl rfl hF2 rfl ?_
   refine TrQ.gskip rfl rfl hF2 rfl ?_
   refine TrQ.gskip rfl rfl hF2 rfl ?_
   refine TrQ.gskip rfl rfl hF2 rfl ?_
   refine TrQ.gskip rfl rfl hF2 rfl ?_
   refine TrQ.q (QS.pickF rfl hF2 rfl) rfl ?_
   exact TrQ.end (Sub.cons rfl (Sub.dropN 12 (by kernel_rfl) rfl))
  refine TrQ.nil ?_
  refine Tr.thenN ?_
  refine Tr.cond rfl (fun h3 => ?_) (fun h3 => ?_)
  ·try simp only [bs] at h3
   refine Tr.skip (Tr.thenN (Tr.block (Tr.region ?_)))
   refine Tr.q (QS.move rfl) rfl ?_
   refine Tr.q (QS.addI rfl rfl (by omega)) rfl ?_
   refine Tr.q (QS.assign rfl) rfl ?_
   refine Tr.nil (Tr.inN (Tr.thenN ?_))
   apply Tr.again (x + 1)
   ·exact rfl
   ·exact (.cons (by first | rfl | exact lookI rfl (by omega) | exact lookI rfl (by simp) | exact lookB rfl (by simp)) (.cons (by first | rfl | exact lookI rfl (by omega) | exact lookI rfl (by simp) | exact lookB rfl (by simp)) Front.nil))
   ·exact SubX.dropN 10 (by kernel_rfl) rfl
   ·exact (by repeat' constructor)
   ·exact ⟨by omega, by omega, by rw [← hx3]; exact (ss_go (by omega) (by rw [← bang, ← bang, ← ex]; simp_all)).symm⟩
   ·exact (by (try dsimp only); omega)
  ·try simp only [bs] at h3
   refine Tr.exit ?_
   refine Tr.thenE (Tr.thenE (Tr.inHit (Tr.thenN (Tr.seq (Tr.seq ?_)))))
   have hX : scanSorted ltW cur b i = x := by
    rw [← hx3]; exact ss_stop (by
     rcases h3 with q | q
     ·exact .inl (by omega)
     ·exact .inr (by rw [← bang, ← bang, ← ex]; exact q))
   refine Tr.region ?_
   refine Tr.q (QS.move rfl) rfl ?_
   refine Tr.q (QS.move rfl) rfl ?_
   refine Tr.q (QS.eql rfl rfl) rfl ?_
   refine Tr.nil (Tr.thenN ?_)
   refine Tr.cond rfl (fun h4 => ?_) (fun h4 => ?_)
   ·try simp only [bs] at h4
    refine Tr.seq (Tr.region ?_)
    refine Tr.q (QS.assign rfl) rfl ?_
    refine Tr.nil (Tr.thenN (Tr.ret (Tr.thenR ?_)))
    refine Tr.inR ?_
    refine Tr.thenR (Tr.thenR ?_)
    refine Tr.inR ?_
    refine Tr.thenR ?_
    refine Tr.ret1 Try.results117 rfl (fun w' hw => ?_)
    rw [show 5 - s = (4 - s) + 1 by omega, own_pi_end hX (by omega)] at hk3
    exact ⟨by rw [← hk3], by rw [← hk3]; exact HpOK.mutOwn hw (.head _) rfl⟩
   ·try simp only [bs] at h4
    refine Tr.skip (Tr.thenN (Tr.seq (Tr.seq (Tr.region ?_))))
    refine Tr.q (QS.move rfl) rfl ?_
    refine Tr.q (QS.move rfl) rfl ?_
    refine Tr.q (QS.subI rfl rfl (by omega)) rfl ?_
    refine Tr.q (QS.lss rfl rfl) rfl ?_
    refine Tr.nil (Tr.thenN ?_)
    refine Tr.cond rfl (fun h5 => ?_) (fun h5 => ?_)
    ·try simp only [bs] at h5
     refine Tr.seq (Tr.region ?_)
     refine Tr.q (QS.assign rfl) rfl ?_
     refine Tr.nil (Tr.thenN (Tr.ret (Tr.thenR ?_)))
     refine Tr.inR ?_
     refine Tr.thenR (Tr.thenR ?_)
     refine Tr.inR ?_
     refine Tr.thenR ?_
     refine Tr.ret1 Try.results117 rfl (fun w' hw => ?_)
     rw [show 5 - s = (4 - s) + 1 by omega, pi_few hX (by omega) (by omega)] at hk3
     exact ⟨by rw [← hk3], by rw [← hk3]; exact HpOK.mutOwn hw (.head _) rfl⟩
    ·try simp only [bs] at h5
     refine Tr.skip (Tr.thenN (Tr.seq ?_))
     refine Tr.regionT 5 15 HLF.mixed (by kernel_rfl) (panicThen (panicIn (panicThen (panicThen (panicIn (panicThen panicBody)))))) ?_
     refine TrQ.pureMove rfl rfl ?_
     refine TrQ.pureMove rfl rfl ?_
     refine TrQ.pureMove rfl rfl ?_
     refine TrQ.pureMove rfl rfl ?_
     refine TrQ.pureQ (fun _ => QS.subI rfl rfl (by omega)) (by rfl) rfl ?_
     refine TrQ.pureNil ?_
     refine TrQ.q (QS.move rfl) rfl ?_
     refine TrQ.q (QS.move rfl) rfl ?_
     refine TrQ.q (QS.subI rfl rfl (by omega)) rfl ?_
     refine TrQ.q (QS.idxRow rfl rfl (by repeat constructor) Try.underlying23 Try.sizeOf39 (by rfl) (by omega)) rfl ?_
     refine TrQ.q (QS.elR1 rfl (by repeat constructor) Try.isAgg39 (by omega) (by rfl)) rfl ?_
     refine TrQ.q (QS.move rfl) rfl ?_
     refine TrQ.q (QS.move rfl) rfl ?_
     refine TrQ.q (QS.idxRowN rfl rfl (by repeat constructor) Try.underlying23 Try.sizeOf39 (by rfl) (by omega)) rfl ?_
     refine TrQ.q (QS.elR1 rfl (by repeat constructor) Try.isAgg39 (by omega) (by rfl)) rfl ?_
     refine TrQ.q (QS.idxRowN rfl rfl (by repeat constructor) Try.underlying23 Try.sizeOf39 (by rfl) (by omega)) rfl ?_
     refine TrQ.nil ?_
     refine Tr.storeEl (l := cur.toList) (i := x) (cur.toList.getD (((x : Int) - 1).toNat) default) rfl rfl Try.sizeOf39 (by repeat constructor) (by (try simp only [List.length_set]); omega) (by rfl) rfl ?_
     have hls6 : (List.set cur.toList (x) (cur.toList.getD (((x : Int) - 1).toNat) default)).length = (cur.toList).length := List.length_set
     refine Tr.q (QS.idxRow rfl rfl (by repeat constructor) Try.underlying23 Try.sizeOf39 (by rfl) (by omega)) rfl ?_
     refine Tr.storeEl (l := (cur.toList.set (x) (cur.toList.getD (((x : Int) - 1).toNat) default))) (i := ((x : Int) - 1).toNat) (cur.toList.getD (x) default) rfl rfl Try.sizeOf39 (by repeat constructor) (by (try simp only [List.length_set]); omega) (by rfl) rfl ?_
     have hls7 : (List.set (cur.toList.set (x) (cur.toList.getD (((x : Int) - 1).toNat) default)) (((x : Int) - 1).toNat) (cur.toList.getD (x) default)).length = ((cur.toList.set (x) (cur.toList.getD (((x : Int) - 1).toNat) default))).length := List.length_set
     rw [ex, bang, bang, set_swp]
     refine Tr.nil (Tr.thenN ?_)
     refine Tr.seqJ (ι := Array UInt32) (fun d3 => d3.size = d.size ∧ d3 = if x - a ≥ 2 then shiftDown ltW (x - 1) (swp cur x (x - 1)) else swp cur x (x - 1)) (fun _ => Bg.less w V) (fun d3 => [rowE V 39 encU32 d3.toList]) (fun d3 => []) ?_ (fun d3 hi => ?_)
     ·skip
      refine Tr.seq (Tr.region ?_)
      refine Tr.q (QS.move rfl) rfl ?_
      refine Tr.q (QS.move rfl) rfl ?_
      refine Tr.q (QS.subI rfl rfl (by omega)) rfl ?_
      refine Tr.q (QS.geq rfl rfl) rfl ?_
      refine Tr.nil (Tr.thenN ?_)
      refine Tr.cond rfl (fun h8 => ?_) (fun h8 => ?_)
      ·try simp only [bs] at h8
       refine Tr.seq (Tr.region ?_)
       refine Tr.q (QS.move rfl) rfl ?_
       refine Tr.q (QS.subI rfl rfl (by omega)) rfl ?_
       refine Tr.q (QS.assign rfl) rfl ?_
       refine Tr.nil (Tr.thenN (Tr.block ?_))
       refine Tr.loop (ι := Nat × Array UInt32) (fun ⟨y, c3⟩ => y < x ∧ c3.size = d.size ∧ shiftDown ltW y c3 = shiftDown ltW (x - 1) (swp cur x (x - 1))) (fun _ => _) (fun ⟨y, c3⟩ => [rowE V 39 encU32 c3.toList]) (fun ⟨y, c3⟩ => [(9, .int .i64 (y : Nat))]) (fun ⟨y, c3⟩ => y) (x - 1, _) ⟨by omega, by rw [swpW]; exact hk2, rfl⟩ (.cons (by first | rfl | exact lookI rfl (by omega) | exact lookI rfl (by simp) | exact lookB rfl (by simp)) Front.nil) (by repeat' constructor) rfl (fun i hi m hm => ?_)
       obtain ⟨y, c3⟩ := i
       replace hi : y < x ∧ c3.size = d.size ∧ shiftDown ltW y c3 = shiftDown ltW (x - 1) (swp cur x (x - 1)) := hi
       replace hm : m = y := hm
       change Tr _ _ [rowE V 39 encU32 c3.toList] ([(9, .int .i64 (y : Nat))] ++ _) _
       obtain ⟨hy1, hy2, hy3⟩ := hi
       have ey : ((y : Int) - 1).toNat = y - 1 ∨ y = 0 := by omega
       have hc3 : c3.toList.length = d.size := by rw [Array.length_toList]; exact hy2
       refine Tr.seq (Tr.seq (Tr.region ?_))
       refine Tr.q (QS.move rfl) rfl ?_
       refine Tr.q (QS.geq rfl rfl) rfl ?_
       refine Tr.nil (Tr.thenN ?_)
       refine Tr.cond rfl (fun h9 => ?_) (fun h9 => ?_)
       ·try simp only [bs] at h9
        refine Tr.skip (Tr.thenN (Tr.seq (Tr.block (Tr.seq (Tr.seq ?_)))))
        refine Tr.regionQ HLF.mixed (by kernel_rfl) ?_
        refine TrQ.q (QS.move rfl) rfl ?_
        refine TrQ.q (QS.move rfl) rfl ?_
        refine TrQ.q (QS.idxRowN rfl rfl (by repeat constructor) Try.underlying23 Try.sizeOf39 (by rfl) (by omega)) rfl ?_
        refine TrQ.q (QS.elR1 rfl (by repeat constructor) Try.isAgg39 (by omega) (by rfl)) rfl ?_
        refine TrQ.q (QS.move rfl) rfl ?_
        refine TrQ.q (QS.move rfl) rfl ?_
        refine TrQ.q (QS.subI rfl rfl (by omega)) rfl ?_
        refine TrQ.q (QS.idxRow rfl rfl (by repeat constructor) Try.underlying23 Try.sizeOf39 (by rfl) (by omega)) rfl ?_
        refine TrQ.q (QS.elR1 rfl (by repeat constructor) Try.isAgg39 (by omega) (by rfl)) rfl ?_
        refine TrQ.q (QS.call rfl Try.call118 (fun w hw => less_any (c3.toList.getD (y) default) (c3.toList.getD (((y : Int) - 1).toNat) default) w)) rfl ?_
        refine TrQ.q (QS.not rfl) rfl ?_
        refine TrQ.nil ?_
        refine Tr.thenN ?_
        refine Tr.cond rfl (fun h10 => ?_) (fun h10 => ?_)
        ·try simp only [bs] at h10
         refine Tr.exit ?_
         refine Tr.thenE ?_
         refine Tr.inMiss rfl ?_
         refine Tr.thenE (Tr.thenE (Tr.inHit (Tr.thenN ?_)))
         apply Tr.joined c3
         ·exact rfl
         ·exact Front.nil
         ·exact SubX.dropN 21 (by kernel_rfl) rfl
         ·exact (by repeat' constructor)
         ·exact ⟨hy2, by rw [if_pos (by omega), ← hy3]; exact (sd_stop (by first | exact .inl (by omega) | exact .inr (by have e := ey.resolve_right (by omega); rw [← bang, ← bang, ← e]; assumption))).symm⟩
        ·try simp only [bs] at h10
         refine Tr.skip (Tr.thenN ?_)
         refine Tr.regionT 5 15 HLF.mixed (by kernel_rfl) (panicIn (panicThen (panicThen (panicIn (panicThen (panicIn (panicThen (panicThen (panicIn (panicThen panicBody)))))))))) ?_
         refine TrQ.pureMove rfl rfl ?_
         refine TrQ.pureMove rfl rfl ?_
         refine TrQ.pureMove rfl rfl ?_
         refine TrQ.pureMove rfl rfl ?_
         refine TrQ.pureQ (fun _ => QS.subI rfl rfl (by omega)) (by rfl) rfl ?_
         refine TrQ.pureNil ?_
         refine TrQ.q (QS.move rfl) rfl ?_
         refine TrQ.q (QS.move rfl) rfl ?_
         refine TrQ.q (QS.subI rfl rfl (by omega)) rfl ?_
         refine TrQ.q (QS.idxRow rfl rfl (by repeat constructor) Try.underlying23 Try.sizeOf39 (by rfl) (by omega)) rfl ?_
         refine TrQ.q (QS.elR1 rfl (by repeat constructor) Try.isAgg39 (by omega) (by rfl)) rfl ?_
         refine TrQ.q (QS.move rfl) rfl ?_
         refine TrQ.q (QS.move rfl) rfl ?_
         refine TrQ.q (QS.idxRowN rfl rfl (by repeat constructor) Try.underlying23 Try.sizeOf39 (by rfl) (by omega)) rfl ?_
         refine TrQ.q (QS.elR1 rfl (by repeat constructor) Try.isAgg39 (by omega) (by rfl)) rfl ?_
         refine TrQ.q (QS.idxRowN rfl rfl (by repeat constructor) Try.underlying23 Try.sizeOf39 (by rfl) (by omega)) rfl ?_
         refine TrQ.nil ?_
         refine Tr.storeEl (l := c3.toList) (i := y) (c3.toList.getD (((y : Int) - 1).toNat) default) rfl rfl Try.sizeOf39 (by repeat constructor) (by (try simp only [List.length_set]); omega) (by rfl) rfl ?_
         have hls11 : (List.set c3.toList (y) (c3.toList.getD (((y : Int) - 1).toNat) default)).length = (c3.toList).length := List.length_set
         refine Tr.q (QS.idxRow rfl rfl (by repeat constructor) Try.underlying23 Try.sizeOf39 (by rfl) (by omega)) rfl ?_
         refine Tr.storeEl (l := (c3.toList.set (y) (c3.toList.getD (((y : Int) - 1).toNat) default))) (i := ((y : Int) - 1).toNat) (c3.toList.getD (y) default) rfl rfl Try.sizeOf39 (by repeat constructor) (by (try simp only [List.length_set]); omega) (by rfl) rfl ?_
         have hls12 : (List.set (c3.toList.set (y) (c3.toList.getD (((y : Int) - 1).toNat) default)) (((y : Int) - 1).toNat) (c3.toList.getD (y) default)).length = ((c3.toList.set (y) (c3.toList.getD (((y : Int) - 1).toNat) default))).length := List.length_set
         refine Tr.nil (Tr.inN (Tr.thenN (Tr.region ?_)))
         refine Tr.q (QS.move rfl) rfl ?_
         refine Tr.q (QS.subI rfl rfl (by omega)) rfl ?_
         refine Tr.q (QS.assign rfl) rfl ?_
         refine Tr.nil (Tr.thenN ?_)
         rw [ey.resolve_right (by omega), bang, bang, set_swp]
         apply Tr.again (y - 1, _)
         ·exact rfl
         ·exact (.cons (by first | rfl | exact lookI rfl (by omega) | exact lookI rfl (by simp) | exact lookB rfl (by simp)) Front.nil)
         ·exact SubX.dropN 33 (by kernel_rfl) rfl
         ·exact (by repeat' constructor)
         ·exact ⟨by omega, by rw [swpW]; exact hy2, by rw [← hy3]; exact (sd_go (by omega) (by have e := ey.resolve_right (by omega); rw [← bang, ← bang, ← e]; assumption)).symm⟩
         ·exact (by (try dsimp only); omega)
       ·try simp only [bs] at h9
        refine Tr.exit ?_
        refine Tr.thenE (Tr.thenE (Tr.inHit (Tr.thenN ?_)))
        apply Tr.joined c3
        ·exact rfl
        ·exact Front.nil
        ·exact SubX.dropN 10 (by kernel_rfl) rfl
        ·exact (by repeat' constructor)
        ·exact ⟨hy2, by rw [if_pos (by omega), ← hy3]; exact (sd_stop (by first | exact .inl (by omega) | exact .inr (by have e := ey.resolve_right (by omega); rw [← bang, ← bang, ← e]; assumption))).symm⟩
      ·try simp only [bs] at h8
       refine Tr.skip (Tr.thenN ?_)
       apply Tr.joined _
       ·exact rfl
       ·exact Front.nil
       ·exact SubX.dropN 4 (by kernel_rfl) rfl
       ·exact (by repeat' constructor)
       ·exact ⟨by rw [swpW]; exact hk2, by rw [if_neg (by omega)]⟩
     ·skip
      replace hi : d3.size = d.size ∧ d3 = if x - a ≥ 2 then shiftDown ltW (x - 1) (swp cur x (x - 1)) else swp cur x (x - 1) := hi
      change Tr _ _ [rowE V 39 encU32 d3.toList] ([] ++ _) _
      have hd3 := hi
      have hl3 : d3.toList.length = d.size := by rw [Array.length_toList]; exact hi.1
      refine Tr.seq (Tr.region ?_)
      refine Tr.q (QS.move rfl) rfl ?_
      refine Tr.q (QS.move rfl) rfl ?_
      refine Tr.q (QS.subI rfl rfl (by omega)) rfl ?_
      refine Tr.q (QS.geq rfl rfl) rfl ?_
      refine Tr.nil (Tr.thenN ?_)
      refine Tr.cond rfl (fun h13 => ?_) (fun h13 => ?_)
      ·try simp only [bs] at h13
       refine Tr.seq (Tr.region ?_)
       refine Tr.q (QS.move rfl) rfl ?_
       refine Tr.q (QS.addI rfl rfl (by omega)) rfl ?_
       refine Tr.q (QS.assign rfl) rfl ?_
       refine Tr.nil (Tr.thenN (Tr.block ?_))
       refine Tr.loop (ι := Nat × Array UInt32) (fun ⟨z, c4⟩ => x < z ∧ c4.size = d.size ∧ shiftUp ltW b z c4 = shiftUp ltW b (x + 1) d3) (fun _ => _) (fun ⟨z, c4⟩ => [rowE V 39 encU32 c4.toList]) (fun ⟨z, c4⟩ => [(10, .int .i64 (z : Nat))]) (fun ⟨z, c4⟩ => b - z) (x + 1, d3) ⟨by omega, hd3.1, rfl⟩ (.cons (by first | rfl | exact lookI rfl (by omega) | exact lookI rfl (by simp) | exact lookB rfl (by simp)) Front.nil) (by repeat' constructor) rfl (fun i hi m hm => ?_)
       obtain ⟨z, c4⟩ := i
       replace hi : x < z ∧ c4.size = d.size ∧ shiftUp ltW b z c4 = shiftUp ltW b (x + 1) d3 := hi
       replace hm : m = b - z := hm
       change Tr _ _ [rowE V 39 encU32 c4.toList] ([(10, .int .i64 (z : Nat))] ++ _) _
       obtain ⟨hz1, hz2, hz3⟩ := hi
       have ez : ((z : Int) - 1).toNat = z - 1 := by omega
       have hc4 : c4.toList.length = d.size := by rw [Array.length_toList]; exact hz2
       refine Tr.seq (Tr.seq (Tr.region ?_))
       refine Tr.q (QS.move rfl) rfl ?_
       refine Tr.q (QS.move rfl) rfl ?_
       refine Tr.q (QS.lss rfl rfl) rfl ?_
       refine Tr.nil (Tr.thenN ?_)
       refine Tr.cond rfl (fun h14 => ?_) (fun h14 => ?_)
       ·try simp only [bs] at h14
        refine Tr.skip (Tr.thenN (Tr.seq (Tr.block (Tr.seq (Tr.seq ?_)))))
        refine Tr.regionQ HLF.mixed (by kernel_rfl) ?_
        refine TrQ.q (QS.move rfl) rfl ?_
        refine TrQ.q (QS.move rfl) rfl ?_
        refine TrQ.q (QS.idxRowN rfl rfl (by repeat constructor) Try.underlying23 Try.sizeOf39 (by rfl) (by omega)) rfl ?_
        refine TrQ.q (QS.elR1 rfl (by repeat constructor) Try.isAgg39 (by omega) (by rfl)) rfl ?_
        refine TrQ.q (QS.move rfl) rfl ?_
        refine TrQ.q (QS.move rfl) rfl ?_
        refine TrQ.q (QS.subI rfl rfl (by omega)) rfl ?_
        refine TrQ.q (QS.idxRow rfl rfl (by repeat constructor) Try.underlying23 Try.sizeOf39 (by rfl) (by omega)) rfl ?_
        refine TrQ.q (QS.elR1 rfl (by repeat constructor) Try.isAgg39 (by omega) (by rfl)) rfl ?_
        refine TrQ.q (QS.call rfl Try.call118 (fun w hw => less_any (c4.toList.getD (z) default) (c4.toList.getD (((z : Int) - 1).toNat) default) w)) rfl ?_
        refine TrQ.q (QS.not rfl) rfl ?_
        refine TrQ.nil ?_
        refine Tr.thenN ?_
        refine Tr.cond rfl (fun h15 => ?_) (fun h15 => ?_)
        ·try simp only [bs] at h15
         refine Tr.exit ?_
         refine Tr.thenE ?_
         refine Tr.inMiss rfl ?_
         refine Tr.thenE (Tr.thenE (Tr.inHit (Tr.inN (Tr.thenN (Tr.region ?_)))))
         refine Tr.q (QS.move rfl) rfl ?_
         refine Tr.q (QS.addI rfl rfl (by omega)) rfl ?_
         refine Tr.q (QS.assign rfl) rfl ?_
         refine Tr.nil (Tr.thenN ?_)
         apply Tr.again (s + 1, x, c4)
         ·exact rfl
         ·exact (.cons (by first | rfl | exact lookI rfl (by omega) | exact lookI rfl (by simp) | exact lookB rfl (by simp)) (.cons (by first | rfl | exact lookI rfl (by omega) | exact lookI rfl (by simp) | exact lookB rfl (by simp)) Front.nil))
         ·exact SubX.dropN 59 (by kernel_rfl) rfl
         ·exact (by repeat' constructor)
         ·exact ⟨by omega, hz2, by rw [← hk3, show 5 - s = (5 - (s + 1)) + 1 by omega]; exact (own_pi_go hX (by omega) (by omega) hd3.2 (by rw [if_pos (by omega), ← hz3]; exact (su_stop (by first | exact .inl (by omega) | exact .inr (by rw [← bang, ← bang, ← ez]; assumption))).symm)).symm⟩
         ·exact (by (try dsimp only); omega)
        ·try simp only [bs] at h15
         refine Tr.skip (Tr.thenN ?_)
         refine Tr.regionT 5 15 HLF.mixed (by kernel_rfl) (panicIn (panicThen (panicThen (panicIn (panicIn (panicThen (panicThen (panicIn (panicThen panicBody))))))))) ?_
         refine TrQ.pureMove rfl rfl ?_
         refine TrQ.pureMove rfl rfl ?_
         refine TrQ.pureMove rfl rfl ?_
         refine TrQ.pureMove rfl rfl ?_
         refine TrQ.pureQ (fun _ => QS.subI rfl rfl (by omega)) (by rfl) rfl ?_
         refine TrQ.pureNil ?_
         refine TrQ.q (QS.move rfl) rfl ?_
         refine TrQ.q (QS.move rfl) rfl ?_
         refine TrQ.q (QS.subI rfl rfl (by omega)) rfl ?_
         refine TrQ.q (QS.idxRow rfl rfl (by repeat constructor) Try.underlying23 Try.sizeOf39 (by rfl) (by omega)) rfl ?_
         refine TrQ.q (QS.elR1 rfl (by repeat constructor) Try.isAgg39 (by omega) (by rfl)) rfl ?_
         refine TrQ.q (QS.move rfl) rfl ?_
         refine TrQ.q (QS.move rfl) rfl ?_
         refine TrQ.q (QS.idxRowN rfl rfl (by repeat constructor) Try.underlying23 Try.sizeOf39 (by rfl) (by omega)) rfl ?_
         refine TrQ.q (QS.elR1 rfl (by repeat constructor) Try.isAgg39 (by omega) (by rfl)) rfl ?_
         refine TrQ.q (QS.idxRowN rfl rfl (by repeat constructor) Try.underlying23 Try.sizeOf39 (by rfl) (by omega)) rfl ?_
         refine TrQ.nil ?_
         refine Tr.storeEl (l := c4.toList) (i := z) (c4.toList.getD (((z : Int) - 1).toNat) default) rfl rfl Try.sizeOf39 (by repeat constructor) (by (try simp only [List.length_set]); omega) (by rfl) rfl ?_
         have hls16 : (List.set c4.toList (z) (c4.toList.getD (((z : Int) - 1).toNat) default)).length = (c4.toList).length := List.length_set
         refine Tr.q (QS.idxRow rfl rfl (by repeat constructor) Try.underlying23 Try.sizeOf39 (by rfl) (by omega)) rfl ?_
         refine Tr.storeEl (l := (c4.toList.set (z) (c4.toList.getD (((z : Int) - 1).toNat) default))) (i := ((z : Int) - 1).toNat) (c4.toList.getD (z) default) rfl rfl Try.sizeOf39 (by repeat constructor) (by (try simp only [List.length_set]); omega) (by rfl) rfl ?_
         have hls17 : (List.set (c4.toList.set (z) (c4.toList.getD (((z : Int) - 1).toNat) default)) (((z : Int) - 1).toNat) (c4.toList.getD (z) default)).length = ((c4.toList.set (z) (c4.toList.getD (((z : Int) - 1).toNat) default))).length := List.length_set
         refine Tr.nil (Tr.inN (Tr.thenN (Tr.region ?_)))
         refine Tr.q (QS.move rfl) rfl ?_
         refine Tr.q (QS.addI rfl rfl (by omega)) rfl ?_
         refine Tr.q (QS.assign rfl) rfl ?_
         refine Tr.nil (Tr.thenN ?_)
         rw [ez, bang, bang, set_swp]
         apply Tr.again (z + 1, _)
         ·exact rfl
         ·exact (.cons (by first | rfl | exact lookI rfl (by omega) | exact lookI rfl (by simp) | exact lookB rfl (by simp)) Front.nil)
         ·exact SubX.dropN 34 (by kernel_rfl) rfl
         ·exact (by repeat' constructor)
         ·exact ⟨by omega, by rw [swpW]; exact hz2, by rw [← hz3]; exact (su_go (by omega) (by rw [← bang, ← bang, ← ez]; assumption)).symm⟩
         ·exact (by (try dsimp only); omega)
       ·try simp only [bs] at h14
        refine Tr.exit ?_
        refine Tr.thenE (Tr.thenE (Tr.inHit (Tr.inN (Tr.thenN (Tr.region ?_)))))
        refine Tr.q (QS.move rfl) rfl ?_
        refine Tr.q (QS.addI rfl rfl (by omega)) rfl ?_
        refine Tr.q (QS.assign rfl) rfl ?_
        refine Tr.nil (Tr.thenN ?_)
        apply Tr.again (s + 1, x, c4)
        ·exact rfl
        ·exact (.cons (by first | rfl | exact lookI rfl (by omega) | exact lookI rfl (by simp) | exact lookB rfl (by simp)) (.cons (by first | rfl | exact lookI rfl (by omega) | exact lookI rfl (by simp) | exact lookB rfl (by simp)) Front.nil))
        ·exact SubX.dropN 48 (by kernel_rfl) rfl
        ·exact (by repeat' constructor)
        ·exact ⟨by omega, hz2, by rw [← hk3, show 5 - s = (5 - (s + 1)) + 1 by omega]; exact (own_pi_go hX (by omega) (by omega) hd3.2 (by rw [if_pos (by omega), ← hz3]; exact (su_stop (by first | exact .inl (by omega) | exact .inr (by rw [← bang, ← bang, ← ez]; assumption))).symm)).symm⟩
        ·exact (by (try dsimp only); omega)
      ·try simp only [bs] at h13
       refine Tr.skip (Tr.inN (Tr.thenN (Tr.region ?_)))
       refine Tr.q (QS.move rfl) rfl ?_
       refine Tr.q (QS.addI rfl rfl (by omega)) rfl ?_
       refine Tr.q (QS.assign rfl) rfl ?_
       refine Tr.nil (Tr.thenN ?_)
       apply Tr.again (s + 1, x, d3)
       ·exact rfl
       ·exact (.cons (by first | rfl | exact lookI rfl (by omega) | exact lookI rfl (by simp) | exact lookB rfl (by simp)) (.cons (by first | rfl | exact lookI rfl (by omega) | exact lookI rfl (by simp) | exact lookB rfl (by simp)) Front.nil))
       ·exact SubX.dropN 41 (by kernel_rfl) rfl
       ·exact (by repeat' constructor)
       ·exact ⟨by omega, hd3.1, by rw [← hk3, show 5 - s = (5 - (s + 1)) + 1 by omega]; exact (own_pi_go hX (by omega) (by omega) hd3.2 (by rw [if_neg (by omega)])).symm⟩
       ·exact (by (try dsimp only); omega)
 ·try simp only [bs] at h1
  refine Tr.exit ?_
  refine Tr.thenE (Tr.thenE (Tr.inHit (Tr.thenN (Tr.seq (Tr.region ?_)))))
  refine Tr.q (QS.assign rfl) rfl ?_
  refine Tr.nil (Tr.thenN (Tr.ret ?_))
  refine Tr.ret1 Try.results117 rfl (fun w' hw => ?_)
  obtain rfl : s = 5 := by omega
  have hk4 : (cur, false) = partialInsertionSort ltW d a b := hk3
  exact ⟨by rw [← hk4], by rw [← hk4]; exact HpOK.mutOwn hw (.head _) rfl⟩
end Go.Proofs.Ytnmaokalpbnmaaa
namespace Go.HL
open Go Go.RowKit Go.MapKept
section
variable {α : Type}
def mget : List (UInt32 × α) → UInt32 → Option α
  | [], _ => none
  | p :: t, k => if k = p.1 then some p.2 else mget t k
def mput : List (UInt32 × α) → UInt32 → α → List (UInt32 × α)
  | [], k, x => [(k, x)]
  | p :: t, k, x => if k = p.1 then (k, x) :: t else p :: mput t k x
theorem mget_put (l : List (UInt32 × α)) (k j : UInt32) (x : α) : mget (mput l k x) j = if j = k then some x else mget l j := by
  induction l with
  | nil => simp [mput, mget]
  | cons p t ih =>
    unfold mput
    by_cases h : k = p.1
    · rw [if_pos h]
      unfold mget
      subst h
      by_cases c : j = p.1 <;> simp [c]
    · rw [if_neg h]
      by_cases c : j = p.1
      · have : ¬ j = k := fun q => h (q.symm.trans c)
        simp [mget, c, this]
        intro q; exact absurd q.symm h
      · simp [mget, c, ih]
theorem mput_keys (l : List (UInt32 × α)) (k : UInt32) (x : α) : (mput l k x).map (·.1) = if (mget l k).isSome then l.map (·.1) else l.map (·.1) ++ [k] := by
  induction l with
  | nil => simp [mput, mget]
  | cons p t ih =>
    unfold mput mget
    by_cases h : k = p.1
    · simp [h]
    · rw [if_neg h, if_neg h, List.map_cons, ih]
      split <;> simp_all
theorem mget_mem {l : List (UInt32 × α)} {k : UInt32} : (mget l k).isSome = true ↔ k ∈ l.map (·.1) := by
  induction l with
  | nil => simp [mget]
  | cons p t ih =>
    unfold mget
    by_cases h : k = p.1
    · simp [h]
    · rw [if_neg h, ih]; simp [h]
theorem mput_len (l : List (UInt32 × α)) (k : UInt32) (x : α) : (mput l k x).length ≤ l.length + 1 := by
  have := congrArg List.length (mput_keys l k x)
  rw [List.length_map] at this
  split at this <;> simp at this <;> omega
theorem mput_nodup {l : List (UInt32 × α)} (k : UInt32) (x : α) (h : (l.map (·.1)).Nodup) : ((mput l k x).map (·.1)).Nodup := by
  rw [mput_keys]
  split
  · exact h
  · rename_i hk
    rw [List.nodup_append]
    refine ⟨h, by simp, fun a ha b hb => ?_⟩
    simp only [List.mem_singleton] at hb
    subst hb
    rintro rfl
    exact hk (mget_mem.2 ha)
theorem mget_of_mem {l : List (UInt32 × α)} (h : (l.map (·.1)).Nodup) {k : UInt32} {x : α} (hm : (k, x) ∈ l) : mget l k = some x := by
  induction l with
  | nil => cases hm
  | cons p t ih =>
    rw [List.map_cons, List.nodup_cons] at h
    unfold mget
    rcases List.mem_cons.1 hm with rfl | hm
    · simp
    · have : ¬ k = p.1 := fun q => h.1 (List.mem_map.2 ⟨_, hm, q⟩)
      rw [if_neg this]; exact ih h.2 hm
theorem mem_of_mget {l : List (UInt32 × α)} {k : UInt32} {x : α} (h : mget l k = some x) : (k, x) ∈ l := by
  induction l with
  | nil => simp [mget] at h
  | cons p t ih =>
    unfold mget at h
    split at h
    · rename_i e; cases h; subst e; exact .head _
    · exact .tail _ (ih h)
/-- What stands at a key's place. -/
theorem mget_at : ∀ (l : List (UInt32 × α)) {j : Nat} {p : UInt32 × α}, (l.map (·.1)).Nodup → l[j]? = some p → mget l p.1 = some p.2 ∧ ∀ x, mput l p.1 x = l.set j (p.1, x)
  | [], j, p, _, h => by simp at h
  | q :: t, 0, p, _, h => by
    simp only [List.getElem?_cons_zero, Option.some.injEq] at h
    subst h
    exact ⟨by simp [mget], fun x => by simp [mput]⟩
  | q :: t, j + 1, p, hn, h => by
    rw [List.map_cons, List.nodup_cons] at hn
    simp only [List.getElem?_cons_succ] at h
    have hne : ¬ p.1 = q.1 := fun e => hn.1 (List.mem_map.2 ⟨p, List.mem_of_getElem? h, e⟩)
    obtain ⟨h1, h2⟩ := mget_at t hn.2 h
    exact ⟨by rw [mget, if_neg hne]; exact h1, fun x => by rw [mput, if_neg hne, h2 x]; rfl⟩
theorem mput_new {l : List (UInt32 × α)} {k : UInt32} (h : mget l k = none) (x : α) : mput l k x = l ++ [(k, x)] := by
  induction l with
  | nil => rfl
  | cons p t ih =>
    unfold mget at h
    split at h
    · cases h
    · rename_i hk; rw [mput, if_neg hk, ih h]; rfl
end
def keyV (k : UInt32) : Value := .int .u32 (k.toNat : Int)
theorem keyV_inj {a b : UInt32} (h : keyV a = keyV b) : a = b := by
  unfold keyV at h
  injection h with _ h
  exact UInt32.toNat_inj.1 (by omega)
theorem keyV_key (k : UInt32) : IsKey (.int .u32) (keyV k) := by simp [IsKey, keyV]
structure MapIs {α : Type} (f : α → Value) (l : List (UInt32 × α)) (es : Array MapEntry) (ck : Nat) : Prop where
  st : Stamped es ck
  ents : es.toList.map (fun e => (e.key, e.val)) = l.map fun p => (keyV p.1, f p.2)
section
variable {α : Type} {f : α → Value} {l : List (UInt32 × α)} {es : Array MapEntry} {ck : Nat}
theorem MapIs.made : MapIs f [] #[] 0 := ⟨stamped_empty 0, rfl⟩
theorem MapIs.len (h : MapIs f l es ck) : es.size = l.length := by
  have := congrArg List.length h.ents
  simpa using this
theorem MapIs.keys (h : MapIs f l es ck) : es.toList.map (·.key) = l.map fun p => keyV p.1 := by
  have := congrArg (List.map Prod.fst) h.ents
  rw [List.map_map, List.map_map] at this
  exact this
theorem MapIs.nodup (h : MapIs f l es ck) : (l.map (·.1)).Nodup := by
  have h1 := h.st.2.2
  rw [h.keys] at h1
  have e : (l.map fun p => keyV p.1) = (l.map (·.1)).map keyV := by rw [List.map_map]; rfl
  rw [e] at h1
  exact List.Pairwise.imp (fun {a b} hne q => hne (by rw [q])) (List.pairwise_map.1 h1)
theorem MapIs.isKey (h : MapIs f l es ck) : ∀ x ∈ es.toList, IsKey (.int .u32) x.key := by
  intro x hx
  have : x.key ∈ es.toList.map (·.key) := List.mem_map.2 ⟨x, hx, rfl⟩
  rw [h.keys] at this
  obtain ⟨p, _, e⟩ := List.mem_map.1 this
  rw [← e]; exact keyV_key _
theorem MapIs.at_ (h : MapIs f l es ck) {j : Nat} {e : MapEntry} (he : es.toList[j]? = some e) : ∃ p, l[j]? = some p ∧ e.key = keyV p.1 ∧ e.val = f p.2 := by
  have h1 : (es.toList.map (fun e => (e.key, e.val)))[j]? = some (e.key, e.val) := by rw [List.getElem?_map, he]; rfl
  rw [h.ents, List.getElem?_map] at h1
  cases hl : l[j]? with
  | none => rw [hl] at h1; cases h1
  | some p =>
    rw [hl] at h1
    simp only [Option.map_some, Option.some.injEq, Prod.mk.injEq] at h1
    exact ⟨p, rfl, h1.1.symm, h1.2.symm⟩
/-- Looking for a key. -/
theorem MapIs.find (h : MapIs f l es ck) (k : UInt32) :
    (Instr.findNow (.int .u32) (keyV k) es.toList 0 = some none ∧ mget l k = none ∧ ∀ x ∈ es.toList, x.key ≠ keyV k) ∨
    ∃ (j : Nat) (e : MapEntry) (x : α), Instr.findNow (.int .u32) (keyV k) es.toList 0 = some (some (j, f x)) ∧ es.toList[j]? = some e ∧ e.key = keyV k ∧ l[j]? = some (k, x) ∧ mget l k = some x := by
  rcases findNow_spec (keyV_key k) es.toList 0 h.isKey with ⟨h1, h2⟩ | ⟨j, e, h1, h2, h3⟩
  · refine .inl ⟨h1, ?_, h2⟩
    cases hg : mget l k with
    | none => rfl
    | some x =>
      exfalso
      have hm := mem_of_mget hg
      have : keyV k ∈ es.toList.map (·.key) := by rw [h.keys]; exact List.mem_map.2 ⟨_, hm, rfl⟩
      obtain ⟨e, he, hk⟩ := List.mem_map.1 this
      exact h2 e he hk
  · obtain ⟨p, p1, p2, p3⟩ := h.at_ h2
    have hk : p.1 = k := keyV_inj (p2.symm.trans h3)
    obtain ⟨pk, px⟩ := p
    simp only at hk p3
    subst hk
    exact .inr ⟨j, e, px, by rw [h1, p3]; simp, h2, h3, p1, (mget_at l h.nodup p1).1⟩
theorem MapIs.push (h : MapIs f l es ck) {k : UInt32} (hk : mget l k = none) (x : α) : MapIs f (mput l k x) (es.push { key := keyV k, val := f x, born := ck }) (ck + 1) := by
  refine ⟨stamped_push h.st ?_, ?_⟩
  · intro e he q
    have : keyV k ∈ es.toList.map (·.key) := List.mem_map.2 ⟨e, he, q⟩
    rw [h.keys] at this
    obtain ⟨p, hp, e⟩ := List.mem_map.1 this
    have h1 := mget_mem.2 (List.mem_map.2 ⟨p, hp, keyV_inj e⟩ : k ∈ l.map (·.1))
    rw [hk] at h1; cases h1
  · rw [mput_new hk, Array.toList_push, List.map_append, List.map_append, h.ents]; rfl
theorem MapIs.modify (h : MapIs f l es ck) {k : UInt32} {j : Nat} {e : MapEntry} {x0 : α} (he : es.toList[j]? = some e) (hk : e.key = keyV k) (hl : l[j]? = some (k, x0)) (x : α) :
    MapIs f (mput l k x) (es.modify j fun e => { e with key := keyV k, val := f x }) ck := by
  have hj : es[j]? = some e := by simpa using he
  refine ⟨stamped_modify h.st _ _ (fun _ _ => rfl) (fun e' _ he' => by rw [hj] at he'; cases he'; exact hk.symm), ?_⟩
  rw [(mget_at l h.nodup hl).2 x]
  have hes := h.ents
  apply List.ext_getElem?
  intro i
  rw [List.getElem?_map, List.getElem?_map, Array.getElem?_toList, Array.getElem?_modify, List.getElem?_set]
  have hi : (es.toList.map (fun e => (e.key, e.val)))[i]? = (l.map fun p => (keyV p.1, f p.2))[i]? := by rw [hes]
  rw [List.getElem?_map, List.getElem?_map, Array.getElem?_toList] at hi
  by_cases c : j = i
  · subst c
    have hlt : j < l.length := (List.getElem?_eq_some_iff.1 hl).1
    simp [hj, hlt]
  · simp only [c, if_false]; exact hi
end
/-- A map of one's own. -/
def mapE {α : Type} (b : Nat) (f : α → Value) (l : List (UInt32 × α)) : Ent := ⟨some b, fun o => ∃ es ck, o = some (.map es ck) ∧ MapIs f l es ck⟩
/-- A map that is only read. -/
def MapIn {α : Type} (h : Hp) (b : Nat) (f : α → Value) (l : List (UInt32 × α)) : Prop := ∃ es ck, h b = some (.map es ck) ∧ MapIs f l es ck
theorem MapIn.mono {α : Type} {h k : Hp} {b : Nat} {f : α → Value} {l : List (UInt32 × α)} (m : MapIn h b f l) (hk : Hp.le h k) : MapIn k b f l := by
  obtain ⟨es, ck, h1, h2⟩ := m
  exact ⟨es, ck, hk _ _ h1, h2⟩
theorem mapE.in_ {α : Type} {b : Nat} {f : α → Value} {l : List (UInt32 × α)} {w : World} (h : (mapE b f l).holds w) : MapIn (hp w) b f l := by
  obtain ⟨es, ck, h1, h2⟩ := h
  exact ⟨es, ck, h1, h2⟩
/-- What a look-up gives. -/
def mval {α : Type} (f : α → Value) (z : Value) : Option α → Value
  | some x => f x
  | none => z
section
variable {P : Program} {ops : Array Oper} {Q : Exit → Act → World → Prop} {N : Nat} {F : Bg} {L : List Ent} {M : Fr} {dst : Option Tmp} {ty : TypeId} {pos : String} {after : Array Edge} {g : Option (Nat × Bool)} {rest : List Oper} {d : Nat}
theorem lookup_run {α : Type} {f : α → Value} {l : List (UInt32 × α)} {w : World} {t K e : TypeId} {z : Value} {b : Nat} (ht : P.underlying t = some (.map K e)) (hK : P.underlying K = some (.int .u32)) (hz : ∀ w, (zeroValue e).run P w = .ok z w)
    (hm : MapIn (HL.hp w) b f l) (k : UInt32) (c : Bool) : (Instr.lookup t (.map (some b)) (keyV k) c).run P w = .ok (if c then .tuple #[mval f z (mget l k), .bool (mget l k).isSome] else mval f z (mget l k)) w := by
  obtain ⟨es, ck, hb, hm⟩ := hm
  replace hb : w.heap[b]? = some (.map es ck) := hb
  rcases hm.find k with ⟨h1, h2, _⟩ | ⟨j, e0, x, h1, _, _, _, h2⟩
  · cases c <;> simp [Instr.lookup, run_underlying ht, Go.MapKept.run_getObj_map hb, run_checkKey hK (keyV_key k), run_findKey hK h1, hz, Result.andThen, h2, mval]
  · cases c <;> simp [Instr.lookup, run_underlying ht, Go.MapKept.run_getObj_map hb, run_checkKey hK (keyV_key k), run_findKey hK h1, hz, Result.andThen, h2, mval]
theorem QS.look {α : Type} {f : α → Value} {l : List (UInt32 × α)} {x y : Operand} {t K e : TypeId} {z : Value} {b : Nat} {k : UInt32} (hx : opv M x = some (.map (some b))) (hy : opv M y = some (.int .u32 k.toNat)) (hm : mapE b f l ∈ L)
    (ht : P.underlying t = some (.map K e)) (hK : P.underlying K = some (.int .u32)) (hz : ∀ w, (zeroValue e).run P w = .ok z w) : QS P N F L M ⟨dst, .lookup t x y false, ty, pos, after, g⟩ (mval f z (mget l k)) :=
  QS.of_run fun a w ha hw => by
    have hr := lookup_run (P := P) ht hK hz (mapE.in_ (hw.ent _ hm)) k false
    simp only [keyV] at hr
    simp [execOp, ha.eval hx, ha.eval hy, hr]
theorem QS.lookOk {α : Type} {f : α → Value} {l : List (UInt32 × α)} {x y : Operand} {t K e : TypeId} {z : Value} {b : Nat} {k : UInt32} (hx : opv M x = some (.map (some b))) (hy : opv M y = some (.int .u32 k.toNat)) (hm : mapE b f l ∈ L)
    (ht : P.underlying t = some (.map K e)) (hK : P.underlying K = some (.int .u32)) (hz : ∀ w, (zeroValue e).run P w = .ok z w) : QS P N F L M ⟨dst, .lookup t x y true, ty, pos, after, g⟩ (.tuple #[mval f z (mget l k), .bool (mget l k).isSome]) :=
  QS.of_run fun a w ha hw => by
    have hr := lookup_run (P := P) ht hK hz (mapE.in_ (hw.ent _ hm)) k true
    simp only [keyV] at hr
    simp [execOp, ha.eval hx, ha.eval hy, hr]
theorem QS.lookB {α : Type} {f : α → Value} {l : List (UInt32 × α)} {x y : Operand} {t K e : TypeId} {z : Value} {b : Nat} {k : UInt32} (hx : opv M x = some (.map (some b))) (hy : opv M y = some (.int .u32 k.toNat)) (hm : MapIn F.blk b f l)
    (ht : P.underlying t = some (.map K e)) (hK : P.underlying K = some (.int .u32)) (hz : ∀ w, (zeroValue e).run P w = .ok z w) : QS P N F L M ⟨dst, .lookup t x y false, ty, pos, after, g⟩ (mval f z (mget l k)) :=
  QS.of_run fun a w ha hw => by
    have hr := lookup_run (P := P) ht hK hz (hm.mono hw.bg) k false
    simp only [keyV] at hr
    simp [execOp, ha.eval hx, ha.eval hy, hr]
theorem QS.lookBOk {α : Type} {f : α → Value} {l : List (UInt32 × α)} {x y : Operand} {t K e : TypeId} {z : Value} {b : Nat} {k : UInt32} (hx : opv M x = some (.map (some b))) (hy : opv M y = some (.int .u32 k.toNat)) (hm : MapIn F.blk b f l)
    (ht : P.underlying t = some (.map K e)) (hK : P.underlying K = some (.int .u32)) (hz : ∀ w, (zeroValue e).run P w = .ok z w) : QS P N F L M ⟨dst, .lookup t x y true, ty, pos, after, g⟩ (.tuple #[mval f z (mget l k), .bool (mget l k).isSome]) :=
  QS.of_run fun a w ha hw => by
    have hr := lookup_run (P := P) ht hK hz (hm.mono hw.bg) k true
    simp only [keyV] at hr
    simp [execOp, ha.eval hx, ha.eval hy, hr]
def boolV (x : Bool) : Value := .bool x
theorem mval_bool (o : Option Bool) : mval boolV (.bool false) o = .bool (o.getD false) := by cases o <;> rfl
theorem QS.lookT {l : List (UInt32 × Bool)} {x y : Operand} {t K e : TypeId} {b : Nat} {k : UInt32} (hx : opv M x = some (.map (some b))) (hy : opv M y = some (.int .u32 k.toNat)) (hm : mapE b boolV l ∈ L)
    (ht : P.underlying t = some (.map K e)) (hK : P.underlying K = some (.int .u32)) (hz : ∀ w, (zeroValue e).run P w = .ok (.bool false) w) : QS P N F L M ⟨dst, .lookup t x y false, ty, pos, after, g⟩ (.bool ((mget l k).getD false)) := by
  have h := QS.look (P := P) (N := N) (F := F) (L := L) (M := M) (dst := dst) (ty := ty) (pos := pos) (after := after) (g := g) hx hy hm ht hK hz
  rw [mval_bool] at h; exact h
theorem Tr.makeMap {α : Type} (f : α → Value) {t : TypeId} (hd : Nat.ble (d + 1) N = true)
    (k : ∀ b, Tr N F (mapE b f [] :: L) ((d, .map (some b)) :: M) (wpList P ops Q rest)) : Tr N F L M (wpList P ops Q (⟨some d, .makeMap t none, ty, pos, after, none⟩ :: rest)) := by
  intro a w ha hw
  refine wpList_plain rfl fun K hK => ?_
  unfold Oper.wp
  have hr : (execOp a.eval ⟨some d, .makeMap t none, ty, pos, after, none⟩).run P w = .ok (.value (.map (some w.heap.size))) (w.alloc (.map #[] 0)) := by simp [execOp, Instr.makeMap]
  rw [hr]
  exact hK _ _ (k w.heap.size _ _ (ha.put (Nat.le_of_ble_eq_true hd)) (hw.alloc _ _ ⟨#[], 0, rfl, MapIs.made⟩))
theorem update_run {α : Type} {f : α → Value} {l : List (UInt32 × α)} {w : World} {t K e : TypeId} {b : Nat} (ht : P.underlying t = some (.map K e)) (hK : P.underlying K = some (.int .u32)) (hm : MapIn (HL.hp w) b f l) (k : UInt32) (x : α) :
    ∃ es ck, (Instr.mapUpdate t (.map (some b)) (keyV k) (f x)).run P w = .ok () { w with heap := w.heap.setIfInBounds b (.map es ck) } ∧ MapIs f (mput l k x) es ck := by
  obtain ⟨es, ck, hb, hm⟩ := hm
  replace hb : w.heap[b]? = some (.map es ck) := hb
  rcases hm.find k with ⟨h1, h2, h3⟩ | ⟨j, e0, x0, h1, h2, h3, h4, h5⟩
  · exact ⟨_, _, by simp [Instr.mapUpdate, run_underlying ht, Go.MapKept.run_getObj_map hb, run_checkKey hK (keyV_key k), run_findKey hK h1, run_setObj_map _ hb, Result.andThen], hm.push h2 x⟩
  · have hj : es[j]? = some e0 := by simpa using h2
    exact ⟨_, _, by simp [Instr.mapUpdate, run_underlying ht, Go.MapKept.run_getObj_map hb, run_checkKey hK (keyV_key k), run_findKey hK h1, hj, h3, run_keyThatStays (keyV_key k), run_setObj_map _ hb, Result.andThen], hm.modify h2 h3 h4 x⟩
theorem Tr.mapUpdate {α : Type} {f : α → Value} {l : List (UInt32 × α)} (x0 : α) {x y v : Operand} {t K e : TypeId} {b : Nat} {k : UInt32} {L' : List Ent} {dst : Option Tmp} (hx : opv M x = some (.map (some b))) (hy : opv M y = some (.int .u32 k.toNat)) (hv : opv M v = some (f x0))
    (hput : Put (mapE b f l) (mapE b f (mput l k x0)) L L') (ht : P.underlying t = some (.map K e)) (hK : P.underlying K = some (.int .u32)) (hdst : dst = none)
    (Kk : Tr N F L' M (wpList P ops Q rest)) : Tr N F L M (wpList P ops Q (⟨dst, .mapUpdate t x y v, ty, pos, after, none⟩ :: rest)) := by
  subst hdst
  intro a w ha hw
  refine wpList_plain rfl fun K' hK' => ?_
  have hent := hw.ent _ hput.mem
  have hin : MapIn (HL.hp w) b f l := mapE.in_ hent
  obtain ⟨es0, ck0, hb, _⟩ := hin
  have hb' : w.heap[b]? = some (.map es0 ck0) := hb
  obtain ⟨es, ck, hr, hM⟩ := update_run (P := P) ht hK (mapE.in_ hent) k x0
  simp only [keyV] at hr
  unfold Oper.wp
  simp only [execOp, ha.eval hx, ha.eval hy, ha.eval hv, Sem.run_bind, hr, Result.andThen_ok, Sem.run_pure, Oper.upon, Act.put]
  refine hK' _ _ (Kk _ _ ha ?_)
  have hset := heap_set (o' := .map es ck) hb'
  exact HpOK.set hw hput rfl rfl rfl (by simp) (Nat.le_refl _) (fun k _ hkb => hset.2 k hkb) ⟨es, ck, hset.1, hM⟩
/-- The number of entries. -/
theorem QS.lenMap {α : Type} {f : α → Value} {l : List (UInt32 × α)} {x : Operand} {t K e : TypeId} {b : Nat} (hx : opv M x = some (.map (some b))) (hm : mapE b f l ∈ L) (ht : P.underlying t = some (.map K e)) :
    QS P N F L M ⟨dst, .call { callee := .builtin .len, args := #[x], argTypes := #[t] }, ty, pos, after, g⟩ (.int .i64 (l.length : Nat)) :=
  QS.of_run fun a w ha hw => by
    obtain ⟨es, ck, hb, hm⟩ := mapE.in_ (hw.ent _ hm)
    replace hb : w.heap[b]? = some (.map es ck) := hb
    have hl := hm.len
    simp [execOp, resolve, invoke, builtin, Builtin.len_, ha.eval hx, run_underlying ht, Go.MapKept.run_getObj_map hb, goInt, hl]
/-- A map of one's own is only read from now on. -/
theorem Tr.frozenM {α : Type} {b : Nat} {f : α → Value} {l : List (UInt32 × α)} {L1 : List Ent} {X : Act → World → Prop} (hm : Del (mapE b f l) L L1) (K : ∀ F', F.le F' → MapIn F'.blk b f l → Tr N F' L1 M X) : Tr N F L M X := by
  refine Tr.perm hm.perm.symm ?_
  intro a w ha hw
  have hin := mapE.in_ (hw.ent _ (.head _))
  have hnd := hw.nodup
  have hw1 : HpOK F L1 w := hw.mem (List.sublist_cons_self _ _)
  obtain ⟨F', h1, h2, h3⟩ := hw1.freeze
  obtain ⟨es, ck, hb, hM⟩ := hin
  refine K F' h1 ⟨es, ck, h3 b _ ?_ hb, hM⟩ a w ha h2
  intro hbm
  have : blks (mapE b f l :: L1) = b :: blks L1 := rfl
  rw [this, List.nodup_cons] at hnd
  exact hnd.1 hbm
end
end Go.HL
namespace Go.HL
open Go Go.RowKit
/-- The entries of Lo stand in L; R is the rest. -/
inductive Split : List Ent → List Ent → List Ent → Prop
  | nil (L : List Ent) : Split L [] L
  | cons {e : Ent} {L L1 Lo R : List Ent} (h : Del e L L1) (k : Split L1 Lo R) : Split L (e :: Lo) R
theorem Split.perm {L Lo R : List Ent} (h : Split L Lo R) : L.Perm (Lo ++ R) := by
  induction h with
  | nil L => exact .refl _
  | cons h _ ih => exact h.perm.trans (ih.cons _)
/-- What a callee may rely on: these entries hold, each in a block of its own. -/
structure OwnAt (w : World) (L : List Ent) : Prop where
  ent : ∀ e ∈ L, e.holds w
  nodup : (blks L).Nodup
  lt : ∀ b ∈ blks L, b < w.heap.size
theorem HpOK.ownAt {F : Bg} {L : List Ent} {w : World} (h : HpOK F L w) : OwnAt w L := ⟨h.ent, h.nodup, h.lt⟩
theorem OwnAt.left {w : World} {A B : List Ent} (h : OwnAt w (A ++ B)) : OwnAt w A := by
  have hb : blks (A ++ B) = blks A ++ blks B := List.filterMap_append
  exact ⟨fun e he => h.ent e (List.mem_append_left _ he), (List.nodup_append.1 (hb ▸ h.nodup)).1, fun b m => h.lt b (by rw [hb]; exact List.mem_append_left _ m)⟩
/-- The world without the blocks bs. -/
def Bg.lessB (w : World) (bs : List Nat) (d : Nat) : Bg := ⟨fun b => if b ∈ bs then none else w.heap[b]?, w.heap.size, d, w.os, w.tape, w.output, 0, Nat.zero_le _⟩
theorem OwnAt.start {w : World} {L : List Ent} {d : Nat} (h : OwnAt w L) (hd : d ≤ w.drawn) : HpOK (Bg.lessB w (blks L) d) L w := by
  refine ⟨rfl, rfl, rfl, Nat.le_refl _, hd, fun b o e => ?_, h.ent, h.nodup, h.lt, fun b m => ⟨?_, Nat.zero_le _⟩⟩
  · have e' : (if b ∈ blks L then none else w.heap[b]?) = some o := e
    split at e'
    · cases e'
    · exact e'
  · show (if b ∈ blks L then none else w.heap[b]?) = none
    rw [if_pos m]
theorem HpOK.lessB {F : Bg} {L Lo R : List Ent} {w : World} {d : Nat} (h : HpOK F L w) (hs : Split L Lo R) : Hp.le F.blk (Bg.lessB w (blks Lo) d).blk := fun b o e => by
  show (if b ∈ blks Lo then none else w.heap[b]?) = some o
  rw [if_neg, h.bg b o e]
  intro m
  have hb : blks (Lo ++ R) = blks Lo ++ blks R := List.filterMap_append
  have := (h.perm hs.perm.symm).sep b (by rw [hb]; exact List.mem_append_left _ m)
  rw [this.1] at e; cases e
/-- What a callee leaves: only the blocks bs have changed, and the entries Ls hold, in these or in new blocks. -/
structure Upd (d : Nat) (w w' : World) (bs : List Nat) (Ls : List Ent) : Prop where
  os : w'.os = w.os
  tape : w'.tape = w.tape
  output : w'.output = w.output
  size : w.heap.size ≤ w'.heap.size
  dr : d ≤ w'.drawn
  block : ∀ k, k < w.heap.size → k ∉ bs → w'.heap[k]? = w.heap[k]?
  ent : ∀ e ∈ Ls, e.holds w'
  nodup : (blks Ls).Nodup
  lt : ∀ b ∈ blks Ls, b < w'.heap.size
  own : ∀ b ∈ blks Ls, b ∈ bs ∨ w.heap.size ≤ b
theorem HpOK.upd {F : Bg} {L Ls : List Ent} {w w' : World} {bs : List Nat} {d : Nat} (h : HpOK F L w') (hF : (Bg.lessB w bs d).le F) (hs : Pick L Ls) : Upd d w w' bs Ls := by
  have h' := hs.heap h
  refine ⟨h.os.trans hF.os, h.tape.trans hF.tape, h.out.trans hF.out, Nat.le_trans hF.n h.n, by have := h.dr; rw [hF.dr] at this; exact this, fun k hk hn => ?_, h'.ent, h'.nodup, h'.lt, fun b hb => ?_⟩
  · have e : (Bg.lessB w bs d).blk k = some w.heap[k] := by
      show (if k ∈ bs then none else w.heap[k]?) = _
      rw [if_neg hn]; simp [hk]
    rw [h.bg k _ (hF.blk k _ e)]; simp [hk]
  · by_cases hm : b ∈ bs
    · exact .inl hm
    · right
      rcases Nat.lt_or_ge b w.heap.size with hlt | hge
      · have e : (Bg.lessB w bs d).blk b = some w.heap[b] := by
          show (if b ∈ bs then none else w.heap[b]?) = _
          rw [if_neg hm]; simp [hlt]
        have := (h'.sep b hb).1
        rw [hF.blk b _ e] at this; cases this
      · exact hge
theorem HpOK.updated {F : Bg} {Lo R Ls : List Ent} {w w' : World} {d : Nat} (h : HpOK F (Lo ++ R) w) (hd : F.dr ≤ d) (u : Upd d w w' (blks Lo) Ls) : HpOK F (Ls ++ R) w' := by
  have hb : blks (Lo ++ R) = blks Lo ++ blks R := List.filterMap_append
  have hb' : blks (Ls ++ R) = blks Ls ++ blks R := List.filterMap_append
  have hnd := List.nodup_append.1 (hb ▸ h.nodup)
  have notR : ∀ b ∈ blks R, b ∉ blks Lo := fun b hr hl => hnd.2.2 b hl b hr rfl
  have ltR : ∀ b ∈ blks R, b < w.heap.size := fun b hr => h.lt b (by rw [hb]; exact List.mem_append_right _ hr)
  refine ⟨u.os.trans h.os, u.tape.trans h.tape, u.output.trans h.out, Nat.le_trans h.n u.size, Nat.le_trans hd u.dr, fun b o e => ?_, fun e he => ?_, ?_, fun b m => ?_, fun b m => ?_⟩
  · have h1 := h.bg b o e
    rw [u.block b (Array.getElem?_eq_some_iff.1 h1).1 (fun m => by
      have := (h.sep b (by rw [hb]; exact List.mem_append_left _ m)).1
      rw [this] at e; cases e)]
    exact h1
  · rcases List.mem_append.1 he with he | he
    · exact u.ent e he
    · have hh := h.ent e (List.mem_append_right _ he)
      unfold Ent.holds at *
      cases hk : e.blk with
      | none => rw [hk] at hh; exact hh
      | some b =>
        rw [hk] at hh
        simp only [Option.bind_some] at *
        have hm : b ∈ blks R := List.mem_filterMap.2 ⟨e, he, hk⟩
        rw [u.block b (ltR b hm) (notR b hm)]; exact hh
  · rw [hb', List.nodup_append]
    refine ⟨u.nodup, hnd.2.1, fun a ha b hr e => ?_⟩
    subst e
    rcases u.own a ha with m | m
    · exact notR a hr m
    · have := ltR a hr; omega
  · rw [hb'] at m
    rcases List.mem_append.1 m with m | m
    · exact u.lt b m
    · exact Nat.lt_of_lt_of_le (ltR b m) u.size
  · rw [hb'] at m
    rcases List.mem_append.1 m with m | m
    · rcases u.own b m with q | q
      · exact h.sep b (by rw [hb]; exact List.mem_append_left _ q)
      · refine ⟨?_, Nat.le_trans (Nat.le_trans F.lo_le h.n) q⟩
        cases hF : F.blk b with
        | none => rfl
        | some o =>
          have := h.bg _ _ hF
          have := (Array.getElem?_eq_some_iff.1 this).1
          omega
    · exact h.sep b (by rw [hb]; exact List.mem_append_right _ m)
section
variable {P : Program} {ops : Array Oper} {Q : Exit → Act → World → Prop} {N : Nat} {F : Bg} {L : List Ent} {M : Fr} {ty : TypeId} {pos : String} {after : Array Edge} {rest : List Oper} {d : Nat}
theorem enterB {L : List Ent} {bs : List Nat} {f : FuncId} {fn : Func} {c : Code} {args : List Value} {w : World} {R : Ending → World → Prop} {dd : Nat} (ho : OwnAt w L) (hbs : blks L = bs) (hdd : dd ≤ w.drawn) (hf : P.funcs[f]? = some fn) (hb : fn.body = some c) (hN : fn.ntmps = N) (hle : Nat.ble args.length N = true)
    (h : Tr N (Bg.lessB w bs dd) L (frameOf 0 args) (c.wp P (bodyPost P fn R))) (hN0 : Nat.ble N mk0 = true := by rfl) : Calls P f args.toArray w R := by
  subst hbs
  exact calls_of_wp hf hb (h _ w (frameOf_ok (by rw [hN]; simp) hle hN0) (ho.start hdd))
/-- A call that changes own blocks as told. -/
theorem Tr.callObj {ι : Type} (φ : ι → Value) (Lo : List Ent) (Ls : ι → List Ent) {ok : ι → Prop} {f : FuncId} {xs : List Operand} {vs : List Value} {ts : Array TypeId} {R : List Ent} {dd : World → Nat} {dst : Option Tmp} (hx : opvs M xs = some vs)
    (he : ∀ (args : Array Value) (w : World), (callFunc f args).run P w = .ok (.enter f args) w) (hs : Split L Lo R) (hdd : ∀ w, HpOK F L w → F.dr ≤ dd w)
    (hc : ∀ w, HpOK F L w → Calls P f vs.toArray w fun e w' => ∃ i, e = .returned (φ i) ∧ Upd (dd w) w w' (blks Lo) (Ls i) ∧ ok i)
    (K : ∀ i, ok i → ∀ a w, FrOK N M a → HpOK F (Ls i ++ R) w → wpList P ops Q rest (a.put dst (φ i)) w) :
    Tr N F L M (wpList P ops Q (⟨dst, .call { callee := .value (.func f), args := xs.toArray, argTypes := ts }, ty, pos, after, none⟩ :: rest)) := by
  intro a w ha hw
  refine wpList_plain rfl fun K' hK => ?_
  have hr : (execOp a.eval ⟨dst, .call { callee := .value (.func f), args := xs.toArray, argTypes := ts }, ty, pos, after, none⟩).run P w = .ok (.enter f vs.toArray) w := by
    have := ha.evals hx
    simp [execOp, resolve, Deferred.ofValue, Act.eval, invoke, he, this]
  unfold Oper.wp
  rw [hr]
  refine (hc w hw).mono fun e w' ⟨i, h1, h2, h3⟩ => ?_
  subst h1
  exact hK _ _ (K i h3 _ _ ha ((hw.perm hs.perm.symm).updated (hdd w hw) h2))
/-- The same, with a temporary for what it hands back. -/
theorem Tr.callO {ι : Type} (φ : ι → Value) (Lo : List Ent) (Ls : ι → List Ent) {ok : ι → Prop} {f : FuncId} {xs : List Operand} {vs : List Value} {ts : Array TypeId} {R : List Ent} {dd : World → Nat} (hx : opvs M xs = some vs)
    (he : ∀ (args : Array Value) (w : World), (callFunc f args).run P w = .ok (.enter f args) w) (hs : Split L Lo R) (hdd : ∀ w, HpOK F L w → F.dr ≤ dd w)
    (hc : ∀ w, HpOK F L w → Calls P f vs.toArray w fun e w' => ∃ i, e = .returned (φ i) ∧ Upd (dd w) w w' (blks Lo) (Ls i) ∧ ok i) (hd : Nat.ble (d + 1) N = true)
    (K : ∀ i, ok i → Tr N F (Ls i ++ R) ((d, φ i) :: M) (wpList P ops Q rest)) :
    Tr N F L M (wpList P ops Q (⟨some d, .call { callee := .value (.func f), args := xs.toArray, argTypes := ts }, ty, pos, after, none⟩ :: rest)) :=
  Tr.callObj φ Lo Ls hx he hs hdd hc fun i hi a w ha hw => K i hi _ _ (ha.put (Nat.le_of_ble_eq_true hd)) hw
end
end Go.HL
namespace Go.HL
open Go Go.RowKit Go.Sort
section
variable {P : Program} {N : Nat} {F : Bg} {L : List Ent} {M : Fr} {dst : Option Tmp} {ty : TypeId} {pos : String} {after : Array Edge} {g : Option (Nat × Bool)}
theorem QS.nilCheck {x : Operand} {a : Addr} (hx : opv M x = some (.pointer (some a))) : QS P N F L M ⟨dst, .nilCheck x, ty, pos, after, g⟩ (.pointer (some a)) :=
  QS.of_run fun A w ha _ => by simp [execOp, ha.eval hx]
theorem QS.xor64 {m n : UInt64} {x y : Operand} {t u : TypeId} (hx : opv M x = some (.int .u64 m.toNat)) (hy : opv M y = some (.int .u64 n.toNat)) : QS P N F L M ⟨dst, .binOp .xor t x y u, ty, pos, after, g⟩ (.int .u64 (m ^^^ n).toNat) := by
  have := QS.xor (P := P) (N := N) (F := F) (L := L) (dst := dst) (ty := ty) (pos := pos) (after := after) (g := g) (t := t) (u := u) hx hy
  have e : IntKind.u64.wrap ((BitVec.ofInt IntKind.u64.bits m.toNat ^^^ BitVec.ofInt IntKind.u64.bits n.toNat).toNat : Int) = ((m ^^^ n).toNat : Int) := by
    have h1 : BitVec.ofInt 64 (m.toNat : Int) = m.toBitVec := by simp
    have h2 : BitVec.ofInt 64 (n.toNat : Int) = n.toBitVec := by simp
    show IntKind.u64.wrap ((BitVec.ofInt 64 m.toNat ^^^ BitVec.ofInt 64 n.toNat).toNat : Int) = _
    rw [h1, h2, IntWalk.u64_in]
    · rfl
    · have := (m ^^^ n).toNat_lt
      show 0 ≤ ((m ^^^ n).toNat : Int) ∧ ((m ^^^ n).toNat : Int) ≤ _
      omega
  rwa [e] at this
theorem QS.shl64 {m : UInt64} {x y : Operand} {t u : TypeId} {k' : IntKind} (c : UInt64) (hx : opv M x = some (.int .u64 m.toNat)) (hy : opv M y = some (.int k' (c.toNat : Int))) (hc : c.toNat < 64) : QS P N F L M ⟨dst, .binOp .shl t x y u, ty, pos, after, g⟩ (.int .u64 (m <<< c).toNat) := by
  have := QS.shl (P := P) (N := N) (F := F) (L := L) (dst := dst) (ty := ty) (pos := pos) (after := after) (g := g) (t := t) (u := u) hx hy (by omega)
  have e : IntKind.u64.wrap ((m.toNat : Int) * 2 ^ (min (c.toNat : Int).toNat IntKind.u64.bits)) = ((m <<< c).toNat : Int) := by
    rw [IntKind.wrap_u64, UInt64.toNat_shiftLeft, Int.toNat_natCast, Nat.min_eq_left (by show c.toNat ≤ 64; omega), Nat.mod_eq_of_lt hc, Nat.shiftLeft_eq, Int.natCast_emod, Int.natCast_mul, Int.natCast_pow]
    rfl
  rwa [e] at this
theorem QS.shr64 {m : UInt64} {x y : Operand} {t u : TypeId} {k' : IntKind} (c : UInt64) (hx : opv M x = some (.int .u64 m.toNat)) (hy : opv M y = some (.int k' (c.toNat : Int))) (hc : c.toNat < 64) : QS P N F L M ⟨dst, .binOp .shr t x y u, ty, pos, after, g⟩ (.int .u64 (m >>> c).toNat) := by
  have := QS.shr (P := P) (N := N) (F := F) (L := L) (dst := dst) (ty := ty) (pos := pos) (after := after) (g := g) (t := t) (u := u) hx hy (by omega)
  have e : (m.toNat : Int).fdiv (2 ^ (min (c.toNat : Int).toNat IntKind.u64.bits)) = ((m >>> c).toNat : Int) := by
    rw [UInt64.toNat_shiftRight, Int.toNat_natCast, Nat.min_eq_left (by show c.toNat ≤ 64; omega), Nat.mod_eq_of_lt hc, Nat.shiftRight_eq_div_pow, Int.fdiv_eq_ediv_of_nonneg _ (by
      have : (0 : Int) < 2 ^ c.toNat := Int.pow_pos (by decide)
      omega)]
    rw [Int.natCast_ediv, Int.natCast_pow]; rfl
  rwa [e] at this
theorem QS.shrN {m : Nat} {x y : Operand} {t u : TypeId} {k' : IntKind} (c : Nat) (hx : opv M x = some (.int .u64 (m : Int))) (hy : opv M y = some (.int k' (c : Int))) (hc : c ≤ 64) : QS P N F L M ⟨dst, .binOp .shr t x y u, ty, pos, after, g⟩ (.int .u64 ((m / 2 ^ c : Nat) : Int)) := by
  have := QS.shr (P := P) (N := N) (F := F) (L := L) (dst := dst) (ty := ty) (pos := pos) (after := after) (g := g) (t := t) (u := u) hx hy (by omega)
  have e : (m : Int).fdiv (2 ^ (min (c : Int).toNat IntKind.u64.bits)) = ((m / 2 ^ c : Nat) : Int) := by
    rw [Int.toNat_natCast, Nat.min_eq_left (show c ≤ IntKind.u64.bits from hc), Int.fdiv_eq_ediv_of_nonneg _ (by
      have : (0 : Int) < 2 ^ c := Int.pow_pos (by decide)
      omega), Int.natCast_ediv, Int.natCast_pow]; rfl
  rwa [e] at this
theorem QS.shlOne {x y : Operand} {t u : TypeId} {k' : IntKind} {c : Nat} (hx : opv M x = some (.int .u64 1)) (hy : opv M y = some (.int k' (c : Int))) (hc : c < 64) : QS P N F L M ⟨dst, .binOp .shl t x y u, ty, pos, after, g⟩ (.int .u64 ((1 <<< c : Nat) : Int)) := by
  have := QS.shl (P := P) (N := N) (F := F) (L := L) (dst := dst) (ty := ty) (pos := pos) (after := after) (g := g) (t := t) (u := u) hx hy (by omega)
  have e : IntKind.u64.wrap ((1 : Int) * 2 ^ (min (c : Int).toNat IntKind.u64.bits)) = ((1 <<< c : Nat) : Int) := by
    have h1 : 2 ^ c < 2 ^ 64 := Nat.pow_lt_pow_right (by decide) hc
    rw [Int.toNat_natCast, Nat.min_eq_left (by show c ≤ 64; omega), Int.one_mul, Nat.one_shiftLeft, IntWalk.u64_in]
    · rw [Int.natCast_pow]; rfl
    · have h2 : ((2 : Int) ^ c) = ((2 ^ c : Nat) : Int) := by rw [Int.natCast_pow]; rfl
      rw [h2]
      generalize 2 ^ c = z at h1
      have h1' : z < 18446744073709551616 := h1
      omega
  rwa [e] at this
theorem QS.and64 {m n : Nat} {x y : Operand} {t u : TypeId} (hx : opv M x = some (.int .u64 (m : Int))) (hy : opv M y = some (.int .u64 (n : Int))) (hm : m < 18446744073709551616) (hn : n < 18446744073709551616) : QS P N F L M ⟨dst, .binOp .and t x y u, ty, pos, after, g⟩ (.int .u64 ((m &&& n : Nat) : Int)) := by
  have := QS.and (P := P) (N := N) (F := F) (L := L) (dst := dst) (ty := ty) (pos := pos) (after := after) (g := g) (t := t) (u := u) hx hy
  have e : IntKind.u64.wrap ((BitVec.ofInt IntKind.u64.bits (m : Int) &&& BitVec.ofInt IntKind.u64.bits (n : Int)).toNat : Int) = ((m &&& n : Nat) : Int) := by
    have h1 : (BitVec.ofInt 64 (m : Int)).toNat = m := by rw [BitVec.toNat_ofInt]; omega
    have h2 : (BitVec.ofInt 64 (n : Int)).toNat = n := by rw [BitVec.toNat_ofInt]; omega
    show IntKind.u64.wrap ((BitVec.ofInt 64 (m : Int) &&& BitVec.ofInt 64 (n : Int)).toNat : Int) = _
    rw [BitVec.toNat_and, h1, h2, IntWalk.u64_in]
    have : m &&& n ≤ n := Nat.and_le_right
    omega
  rwa [e] at this
theorem QS.cvtTo64 {x : Operand} {s d : TypeId} {ds : TypeDesc} {k : IntKind} {m : Int} (n : Nat) (hx : opv M x = some (.int k m)) (hs : P.underlying s = some ds) (hd : P.underlying d = some (.int .u64)) (hm : m = (n : Int)) (hn : n < 18446744073709551616) :
    QS P N F L M ⟨dst, .convert s d x, ty, pos, after, g⟩ (.int .u64 ((UInt64.ofNat n).toNat : Int)) := by
  have h := QS.cvt (N := N) (F := F) (L := L) (dst := dst) (ty := ty) (pos := pos) (after := after) (g := g) hx hs hd
  rw [hm, IntWalk.u64_in _ (by omega)] at h
  rwa [UInt64.toNat_ofNat', Nat.mod_eq_of_lt hn]
theorem QS.subUN {m n : Nat} {x y : Operand} {t u : TypeId} (hx : opv M x = some (.int .u64 (m : Int))) (hy : opv M y = some (.int .u64 (n : Int))) (h : n ≤ m) (hm : m < 18446744073709551616) : QS P N F L M ⟨dst, .binOp .sub t x y u, ty, pos, after, g⟩ (.int .u64 ((m - n : Nat) : Int)) := by
  have := QS.subU (P := P) (N := N) (F := F) (L := L) (dst := dst) (ty := ty) (pos := pos) (after := after) (g := g) (t := t) (u := u) hx hy (by omega)
  rwa [show (m : Int) - (n : Int) = ((m - n : Nat) : Int) by omega] at this
def tab8 : List UInt8 := (List.range 256).map fun i => UInt8.ofNat (bitsLen i)
theorem bitsLen_8 {i : Nat} (h : i < 256) : bitsLen i ≤ 8 := (bitsLen_le_iff i 8).2 h
theorem QS.lenTab {x y : Operand} {t : TypeId} {s : ByteArray} {i : Nat} (hx : opv M x = some (.string s)) (hy : opv M y = some (.int .u8 (i : Int))) (ht : P.underlying t = some .string) (hs : s.data.toList = tab8) (hi : i < 256) :
    QS P N F L M ⟨dst, .index t x y, ty, pos, after, g⟩ (.int .u8 ((bitsLen i : Nat) : Int)) := by
  have hz : s.size = 256 := by
    have : s.data.toList.length = 256 := by rw [hs]; simp [tab8]
    rw [← this, Array.length_toList]; rfl
  have := QS.strIdx (P := P) (N := N) (F := F) (L := L) (dst := dst) (ty := ty) (pos := pos) (after := after) (g := g) hx hy ht (by omega)
  have e : (s.data.toList.getD (i : Int).toNat 0).toNat = bitsLen i := by
    rw [hs, Int.toNat_natCast, List.getD_eq_getElem?_getD]
    have h8 := bitsLen_8 hi
    simp [tab8, hi]
    omega
  rwa [e] at this
end
/-- The rows' lengths are those of the slice. -/
theorem rowE.len {α β : Type} {V : Value} {T T' : TypeId} {E : Enc α} {G : Enc β} {l : List α} {l' : List β} {w w' : World} (h : (rowE V T E l).holds w) (h' : (rowE V T' G l').holds w') : l'.length = l.length := by
  obtain ⟨a, c, e, _⟩ := (rowE.sl h).shape
  obtain ⟨a', c', e', _⟩ := (rowE.sl h').shape
  rw [e] at e'
  injection e' with _ e2
  exact e2.symm
theorem Tr.rowLen {α β : Type} {N : Nat} {F : Bg} {L : List Ent} {M : Fr} {V : Value} {T T' : TypeId} {E : Enc α} {G : Enc β} {l0 : List α} {l : List β} {w : World} {X : Act → World → Prop} (h : (rowE V T E l0).holds w) (hm : rowE V T' G l ∈ L) (K : l.length = l0.length → Tr N F L M X) : Tr N F L M X :=
  fun a w' ha hw => K (rowE.len h (hw.ent _ hm)) a w' ha hw
theorem HpOK.own {F : Bg} {L Lo R : List Ent} {w : World} (h : HpOK F L w) (hs : Split L Lo R) : OwnAt w Lo := (h.perm hs.perm.symm).ownAt.left
theorem OwnAt.row {α : Type} {V : Value} {T : TypeId} {E : Enc α} {l : List α} {L : List Ent} {w : World} (h : OwnAt w L) (hm : rowE V T E l ∈ L) : (rowE V T E l).holds w := h.ent _ hm
theorem bitsLen_shr {x c : Nat} (h : 2 ^ c ≤ x) : bitsLen x = c + bitsLen (x / 2 ^ c) := by
  have key : ∀ k, bitsLen x ≤ k ↔ c + bitsLen (x / 2 ^ c) ≤ k := fun k => by
    rw [bitsLen_le_iff]
    rcases Nat.lt_or_ge k c with hk | hk
    · have : 2 ^ k < 2 ^ c := Nat.pow_lt_pow_right (by decide) hk
      constructor <;> intro h' <;> omega
    · obtain ⟨j, rfl⟩ : ∃ j, k = c + j := ⟨k - c, by omega⟩
      rw [show (c + bitsLen (x / 2 ^ c) ≤ c + j) ↔ bitsLen (x / 2 ^ c) ≤ j by omega, bitsLen_le_iff, Nat.div_lt_iff_lt_mul (Nat.two_pow_pos _), Nat.pow_add, Nat.mul_comm]
  exact Nat.le_antisymm ((key _).2 (Nat.le_refl _)) ((key _).1 (Nat.le_refl _))
theorem len16 {x : Nat} (h : 65536 ≤ x) : bitsLen x = 16 + bitsLen (x / 2 ^ 16) := bitsLen_shr h
theorem len8 {x : Nat} (h : 256 ≤ x) : bitsLen x = 8 + bitsLen (x / 2 ^ 8) := bitsLen_shr h
theorem order2_bd {d : Array UInt32} {a b s : Nat} {i : Nat × Nat × Nat} (hi : i = order2 ltW d a b s) {n : Nat} (ha : a < n) (hb : b < n) : i.1 < n ∧ i.2.1 < n ∧ i.2.2 ≤ s + 1 := by
  subst hi
  refine ⟨?_, ?_, order2_count ltW d a b s⟩ <;> unfold order2 <;> split <;> assumption
theorem median_bd {d : Array UInt32} {a b c s : Nat} {i : Nat × Nat} (hi : i = median ltW d a b c s) {n : Nat} (ha : a < n) (hb : b < n) (hc : c < n) : i.1 < n ∧ i.2 ≤ s + 3 := by
  subst hi
  refine ⟨?_, median_count ltW d a b c s⟩
  rcases median_mem ltW d a b c s with h | h | h <;> rw [h] <;> assumption
theorem adj_bd {d : Array UInt32} {a s : Nat} {i : Nat × Nat} (hi : i = medianAdjacent ltW d a s) {n : Nat} (ha : a + 1 < n) : i.1 < n ∧ i.2 ≤ s + 3 := median_bd hi (by omega) (by omega) ha
theorem raw_far {d : Array UInt32} {a b : Nat} {i1 i2 i3 i4 : Nat × Nat} (h : 50 ≤ b - a) (e1 : i1 = medianAdjacent ltW d (a + (b - a) / 4 * 1) 0) (e2 : i2 = medianAdjacent ltW d (a + (b - a) / 4 * 2) i1.2) (e3 : i3 = medianAdjacent ltW d (a + (b - a) / 4 * 3) i2.2)
    (e4 : i4 = median ltW d i1.1 i2.1 i3.1 i3.2) : i4 = rawPivot ltW d a b := by
  subst e1 e2 e3 e4
  unfold rawPivot
  rw [if_pos (by omega), if_pos (by omega)]
theorem raw_mid {d : Array UInt32} {a b : Nat} {i4 : Nat × Nat} (h8 : 8 ≤ b - a) (h : b - a < 50) (e4 : i4 = median ltW d (a + (b - a) / 4 * 1) (a + (b - a) / 4 * 2) (a + (b - a) / 4 * 3) 0) : i4 = rawPivot ltW d a b := by
  subst e4
  unfold rawPivot
  rw [if_pos (by omega), if_neg (by omega)]
theorem raw_near {d : Array UInt32} {a b : Nat} (h8 : b - a < 8) : ((a + (b - a) / 4 * 2, 0) : Nat × Nat) = rawPivot ltW d a b := by
  unfold rawPivot
  rw [if_neg (by omega)]
def bsteps (a len m i0 : Nat) : Nat → UInt64 × Array UInt32 → UInt64 × Array UInt32
  | 0, st => st
  | t + 1, st => breakStep a len m (bsteps a len m i0 t st) (i0 + t)
theorem break_go {d : Array UInt32} {a b : Nat} (h : 8 ≤ b - a) : breakPatterns d a b = (bsteps a (b - a) (1 <<< bitsLen (b - a)) (a + (b - a) / 4 * 2 - 1) 3 (UInt64.ofNat (b - a), d)).2 := by
  unfold breakPatterns
  simp only []
  rw [if_pos h]; rfl
theorem break_no {d : Array UInt32} {a b : Nat} (h : b - a < 8) : breakPatterns d a b = d := by
  unfold breakPatterns
  simp only []
  rw [if_neg (by omega)]
theorem bstep_eq {a len m i0 t : Nat} {st : UInt64 × Array UInt32} {r : UInt64} {cur : Array UInt32} {o : Nat} (h : bsteps a len m i0 t st = (r, cur)) (ho : o = if len ≤ ((xorNext r).toNat &&& (m - 1)) then ((xorNext r).toNat &&& (m - 1)) - len else ((xorNext r).toNat &&& (m - 1))) :
    bsteps a len m i0 (t + 1) st = (xorNext r, swp cur (i0 + t) (a + o)) := by
  subst ho
  show breakStep a len m (bsteps a len m i0 t st) (i0 + t) = _
  rw [h]; rfl
theorem mod_bd {n : Nat} (h : 0 < n) : 1 ≤ 1 <<< bitsLen n ∧ 1 <<< bitsLen n ≤ 2 * n := by
  rw [Nat.one_shiftLeft]
  exact ⟨Nat.two_pow_pos _, two_pow_bitsLen_le h⟩
section
variable {d : Array UInt32} {a b limit : Nat} {wb wp : Bool}
theorem own_pdq_small (h : b - a ≤ 12) : pdq ltW d a b limit wb wp = insertionSort ltW d a b := by rw [pdq, if_pos h]
theorem own_pdq_heap (h : ¬ b - a ≤ 12) (h0 : limit = 0) : pdq ltW d a b limit wb wp = heapSort ltW d a b := by rw [pdq, if_neg h, if_pos h0]
/-- A round up to the partition: what is known then. -/
structure Rnd (d : Array UInt32) (a b limit : Nat) (wb wp : Bool) (l1 pv : Nat) (d3 : Array UInt32) : Prop where
  done : ∃ (d1 d2 : Array UInt32) (c : Nat × Hint) (hint : Hint), d1 = (if !wb then breakPatterns d a b else d) ∧ l1 = (if !wb then limit - 1 else limit) ∧ c = choosePivot ltW d1 a b ∧
    d2 = (if c.2 = .decreasing then reverseRange d1 a b else d1) ∧ pv = (if c.2 = .decreasing then (b - 1) - (c.1 - a) else c.1) ∧ hint = (if c.2 = .decreasing then Hint.increasing else c.2) ∧
    (if wb && wp && hint = .increasing then partialInsertionSort ltW d2 a b else (d2, false)) = (d3, false)
theorem own_pdq_done {d1 d2 d3 : Array UInt32} {c : Nat × Hint} {hint : Hint} (h : ¬ b - a ≤ 12) (h0 : ¬ limit = 0) (e1 : d1 = (if !wb then breakPatterns d a b else d)) (ec : c = choosePivot ltW d1 a b)
    (e3 : d2 = (if c.2 = .decreasing then reverseRange d1 a b else d1)) (e5 : hint = (if c.2 = .decreasing then Hint.increasing else c.2)) (e6 : (if wb && wp && hint = .increasing then partialInsertionSort ltW d2 a b else (d2, false)) = (d3, true)) :
    pdq ltW d a b limit wb wp = d3 := by
  subst e1 ec e3 e5
  rw [pdq, if_neg h, if_neg h0]
  simp only [e6, if_true]
theorem pdq_open {l1 pv : Nat} {d3 : Array UInt32} (h : ¬ b - a ≤ 12) (h0 : ¬ limit = 0) (r : Rnd d a b limit wb wp l1 pv d3) :
    pdq ltW d a b limit wb wp = if a > 0 && !ltW d3[a - 1]! d3[pv]! then
      (match partitionEqual ltW d3 a b pv with | (mid, d4) => if _h : a < mid ∧ mid ≤ b then pdq ltW d4 mid b l1 wb wp else d4)
    else
      (match partition ltW d3 a b pv with
      | (mid, ap, d4) =>
        if _h : a ≤ mid ∧ mid < b then
          if mid - a < b - mid then pdq ltW (pdq ltW d4 a mid l1 true true) (mid + 1) b l1 (decide (mid - a ≥ (b - a) / 8)) ap
          else pdq ltW (pdq ltW d4 (mid + 1) b l1 true true) a mid l1 (decide (b - mid ≥ (b - a) / 8)) ap
        else d4) := by
  obtain ⟨d1, d2, c, hint, e1, e2, ec, e3, e4, e5, e6⟩ := r.done
  subst e1 ec e3 e5 e2 e4
  rw [pdq, if_neg h, if_neg h0]
  simp only [e6, Bool.false_eq_true, if_false]
theorem pdq_eqv {l1 pv mid : Nat} {d3 d4 : Array UInt32} (h : ¬ b - a ≤ 12) (h0 : ¬ limit = 0) (r : Rnd d a b limit wb wp l1 pv d3) (ha : 0 < a) (hl : ltW d3[a - 1]! d3[pv]! = false) (he : partitionEqual ltW d3 a b pv = (mid, d4)) (hm : a < mid ∧ mid ≤ b) :
    pdq ltW d a b limit wb wp = pdq ltW d4 mid b l1 wb wp := by
  rw [pdq_open h h0 r, if_pos (by simp [ha, hl]), he]
  simp only []
  rw [dif_pos hm]
theorem own_pdq_left {l1 pv mid : Nat} {d3 d4 : Array UInt32} {ap : Bool} (h : ¬ b - a ≤ 12) (h0 : ¬ limit = 0) (r : Rnd d a b limit wb wp l1 pv d3) (hl : a = 0 ∨ ltW d3[a - 1]! d3[pv]! = true) (he : partition ltW d3 a b pv = (mid, ap, d4)) (hm : a ≤ mid ∧ mid < b) (hs : mid - a < b - mid) :
    pdq ltW d a b limit wb wp = pdq ltW (pdq ltW d4 a mid l1 true true) (mid + 1) b l1 (decide (mid - a ≥ (b - a) / 8)) ap := by
  rw [pdq_open h h0 r, if_neg (by simp only [Bool.and_eq_true, decide_eq_true_eq, Bool.not_eq_true']; rintro ⟨q1, q2⟩; rcases hl with q | q; omega; rw [q] at q2; cases q2), he]
  simp only []
  rw [dif_pos hm, if_pos hs]
theorem own_pdq_right {l1 pv mid : Nat} {d3 d4 : Array UInt32} {ap : Bool} (h : ¬ b - a ≤ 12) (h0 : ¬ limit = 0) (r : Rnd d a b limit wb wp l1 pv d3) (hl : a = 0 ∨ ltW d3[a - 1]! d3[pv]! = true) (he : partition ltW d3 a b pv = (mid, ap, d4)) (hm : a ≤ mid ∧ mid < b) (hs : ¬ mid - a < b - mid) :
    pdq ltW d a b limit wb wp = pdq ltW (pdq ltW d4 (mid + 1) b l1 true true) a mid l1 (decide (b - mid ≥ (b - a) / 8)) ap := by
  rw [pdq_open h h0 r, if_neg (by simp only [Bool.and_eq_true, decide_eq_true_eq, Bool.not_eq_true']; rintro ⟨q1, q2⟩; rcases hl with q | q; omega; rw [q] at q2; cases q2), he]
  simp only []
  rw [dif_pos hm, if_neg hs]
end
theorem partEq_rng {d : Array UInt32} {a b pv : Nat} (h : a + 1 < b) (hb : b ≤ d.size) : a < (partitionEqual ltW d a b pv).1 ∧ (partitionEqual ltW d a b pv).1 ≤ b := by
  have := partEqLoop_spec (lt := ltW) a b _ (a + 1) (b - 1) (swp d a pv) (Nat.le_refl _) (by omega) (by omega) (by omega) (by rw [swpW]; exact hb) (fun t _ _ => by omega) (fun t _ _ => by omega)
  exact ⟨this.1, this.2.1⟩
theorem part_rng {d : Array UInt32} {a b pv : Nat} (h1 : a ≤ pv) (h2 : pv < b) (hb : b ≤ d.size) : a ≤ (partition ltW d a b pv).1 ∧ (partition ltW d a b pv).1 < b := by
  have := partition_holds (lt := ltW) swo_ltW d a b pv h1 h2 hb
  exact ⟨this.1, this.2.1⟩
theorem hintCode_dec (h : Hint) : hintCode h = 2 ↔ h = .decreasing := by cases h <;> simp [hintCode]
theorem hintCode_inc (h : Hint) : hintCode h = 1 ↔ h = .increasing := by cases h <;> simp [hintCode]
theorem pi_yes {wb wp : Bool} {hint : Hint} (h : (wb = true ∧ wp = true) ∧ hintCode hint = 1) : (wb && wp && decide (hint = .increasing)) = true := by
  rw [h.1.1, h.1.2, (hintCode_inc hint).1 h.2]; rfl
theorem pi_no {wb wp : Bool} {hint : Hint} (h : (wb = false ∨ wp = false) ∨ ¬ hintCode hint = 1) : ¬ (wb && wp && decide (hint = .increasing)) = true := by
  simp only [Bool.and_eq_true, decide_eq_true_eq]
  rintro ⟨⟨q1, q2⟩, q3⟩
  rcases h with (q | q) | q
  · rw [q1] at q; cases q
  · rw [q2] at q; cases q
  · exact q ((hintCode_inc hint).2 q3)
theorem sort_u32 (d : Array UInt32) : (sort ltW d).toList = d.toList.mergeSort (fun x y => !ltW y x) := by
  have h := sort_sorts ltW swo_ltW d
  exact sorted_unique_holds (lt := ltW) swo_ltW (fun x y h1 h2 => by
    simp only [ltW, decide_eq_false_iff_not, UInt32.lt_iff_toNat_lt] at h1 h2
    exact UInt32.toNat_inj.1 (by omega)) d _ h.1 h.2
end Go.HL
namespace Go.Proofs.Ytnmaokalpbnmaaa
open Go Go.HL Go.RowKit Go.Sort
set_option maxRecDepth 100000 in
set_option maxHeartbeats 2000000 in
theorem len64_u (x : Nat) (hx : x < 4294967296) (w : World) :
  Calls Try.prog 122 #[.int .u64 (x : Nat)] w (fun e w' => e = .returned (.int .i64 (bitsLen x : Nat)) ∧ Ext w w') := by
 refine enter Try.func122 rfl Try.ntmps122 rfl ?_
 refine Tr.seq (Tr.region ?_)
 refine Tr.q (QS.assign rfl) rfl ?_
 refine Tr.nil (Tr.thenN (Tr.seq (Tr.seq (Tr.region ?_))))
 refine Tr.q (QS.move rfl) rfl ?_
 refine Tr.q (QS.geq rfl rfl) rfl ?_
 refine Tr.nil (Tr.thenN ?_)
 refine Tr.cond rfl (fun h1 => ?_) (fun h1 => ?_)
 ·try simp only [bs] at h1
  first | contradiction | (exfalso; omega) | simp_all
 ·try simp only [bs] at h1
  refine Tr.skip (Tr.thenN ?_)
  refine Tr.seqJ (ι := Nat × Nat) (fun ⟨y, n⟩ => y < 65536 ∧ n ≤ 16 ∧ bitsLen x = n + bitsLen y) (fun _ => Bg.of w) (fun ⟨y, n⟩ => []) (fun ⟨y, n⟩ => [(0, .int .u64 (y : Nat)), (2, .int .i64 (n : Nat))]) ?_ (fun i hi => ?_)
  ·skip
   refine Tr.seq (Tr.region ?_)
   refine Tr.q (QS.move rfl) rfl ?_
   refine Tr.q (QS.geq rfl rfl) rfl ?_
   refine Tr.nil (Tr.thenN ?_)
   refine Tr.cond rfl (fun h2 => ?_) (fun h2 => ?_)
   ·try simp only [bs] at h2
    refine Tr.seq (Tr.region ?_)
    refine Tr.q (QS.move rfl) rfl ?_
    refine Tr.q (QS.shrN 16 rfl rfl (by decide)) rfl ?_
    refine Tr.q (QS.assign rfl) rfl ?_
    refine Tr.nil (Tr.thenN (Tr.region ?_))
    refine Tr.q (QS.move rfl) rfl ?_
    refine Tr.q (QS.addI rfl rfl (by omega)) rfl ?_
    refine Tr.q (QS.assign rfl) rfl ?_
    refine Tr.nil (Tr.thenN ?_)
    apply Tr.joined (x / 2 ^ 16, 16)
    ·exact rfl
    ·exact (.cons (by first | rfl | exact lookI rfl (by omega) | exact lookI rfl (by simp) | exact lookB rfl (by simp)) (.cons (by first | rfl | exact lookI rfl (by omega) | exact lookI rfl (by simp) | exact lookB rfl (by simp)) Front.nil))
    ·exact SubX.dropN 8 (by kernel_rfl) rfl
    ·exact (by repeat' constructor)
    ·exact ⟨by omega, by omega, len16 (by omega)⟩
   ·try simp only [bs] at h2
    refine Tr.skip (Tr.thenN ?_)
    apply Tr.joined (x, 0)
    ·exact rfl
    ·exact (.cons (by first | rfl | exact lookI rfl (by omega) | exact lookI rfl (by simp) | exact lookB rfl (by simp)) (.cons (by first | rfl | exact lookI rfl (by omega) | exact lookI rfl (by simp) | exact lookB rfl (by simp)) Front.nil))
    ·exact SubX.dropN 2 (by kernel_rfl) rfl
    ·exact (by repeat' constructor)
    ·exact ⟨by omega, by omega, by omega⟩
  ·obtain ⟨y, n⟩ := i
   replace hi : y < 65536 ∧ n ≤ 16 ∧ bitsLen x = n + bitsLen y := hi
   change Tr _ _ [] ([(0, .int .u64 (y : Nat)), (2, .int .i64 (n : Nat))] ++ _) _
   obtain ⟨hy1, hy2, hy3⟩ := hi
   refine Tr.seqJ (ι := Nat × Nat) (fun ⟨z, k⟩ => z < 256 ∧ k ≤ 24 ∧ bitsLen x = k + bitsLen z) (fun _ => Bg.of w) (fun ⟨z, k⟩ => []) (fun ⟨z, k⟩ => [(0, .int .u64 (z : Nat)), (2, .int .i64 (k : Nat))]) ?_ (fun i hi => ?_)
   ·skip
    refine Tr.seq (Tr.region ?_)
    refine Tr.q (QS.move rfl) rfl ?_
    refine Tr.q (QS.geq rfl rfl) rfl ?_
    refine Tr.nil (Tr.thenN ?_)
    refine Tr.cond rfl (fun h3 => ?_) (fun h3 => ?_)
    ·try simp only [bs] at h3
     refine Tr.seq (Tr.region ?_)
     refine Tr.q (QS.move rfl) rfl ?_
     refine Tr.q (QS.shrN 8 rfl rfl (by decide)) rfl ?_
     refine Tr.q (QS.assign rfl) rfl ?_
     refine Tr.nil (Tr.thenN (Tr.region ?_))
     refine Tr.q (QS.move rfl) rfl ?_
     refine Tr.q (QS.addI rfl rfl (by omega)) rfl ?_
     refine Tr.q (QS.assign rfl) rfl ?_
     refine Tr.nil (Tr.thenN ?_)
     apply Tr.joined (y / 2 ^ 8, n + 8)
     ·exact rfl
     ·exact (.cons (by first | rfl | exact lookI rfl (by omega) | exact lookI rfl (by simp) | exact lookB rfl (by simp)) (.cons (by first | rfl | exact lookI rfl (by omega) | exact lookI rfl (by simp) | exact lookB rfl (by simp)) Front.nil))
     ·exact SubX.dropN 8 (by kernel_rfl) rfl
     ·exact (by repeat' constructor)
     ·exact ⟨by omega, by omega, by have := len8 (x := y) (by omega); omega⟩
    ·try simp only [bs] at h3
     refine Tr.skip (Tr.thenN ?_)
     apply Tr.joined (y, n)
     ·exact rfl
     ·exact (.cons (by first | rfl | exact lookI rfl (by omega) | exact lookI rfl (by simp) | exact lookB rfl (by simp)) (.cons (by first | rfl | exact lookI rfl (by omega) | exact lookI rfl (by simp) | exact lookB rfl (by simp)) Front.nil))
     ·exact SubX.dropN 2 (by kernel_rfl) rfl
     ·exact (by repeat' constructor)
     ·exact ⟨by omega, by omega, by omega⟩
   ·obtain ⟨z, k⟩ := i
    replace hi : z < 256 ∧ k ≤ 24 ∧ bitsLen x = k + bitsLen z := hi
    change Tr _ _ [] ([(0, .int .u64 (z : Nat)), (2, .int .i64 (k : Nat))] ++ _) _
    obtain ⟨hz1, hz2, hz3⟩ := hi
    have hz8 := bitsLen_8 hz1
    refine Tr.seq (Tr.region ?_)
    refine Tr.q (QS.move rfl) rfl ?_
    refine Tr.q (QS.move rfl) rfl ?_
    refine Tr.q (QS.cvtIn rfl Try.underlying104 Try.underlying5 (by rw [IntKind.wrap_u8]; omega)) rfl ?_
    refine Tr.q (QS.lenTab rfl rfl Try.underlying9 (by kernel_rfl) (by omega)) rfl ?_
    refine Tr.q (QS.cvtIn rfl Try.underlying5 Try.underlying3 (IntWalk.i64_in _ (by omega))) rfl ?_
    refine Tr.q (QS.addI rfl rfl (by omega)) rfl ?_
    refine Tr.q (QS.assign rfl) rfl ?_
    refine Tr.nil (Tr.thenN (Tr.ret ?_))
    refine Tr.ret1 Try.results122 rfl (fun w' hw => ?_)
    exact ⟨by rw [hz3]; simp, hw.below (Bg.le.refl _)⟩
set_option maxRecDepth 100000 in
set_option maxHeartbeats 2000000 in
theorem lenU (x : Nat) (xi : Int) (ex : xi = ((x : Nat) : Int)) (hx : x < 4294967296) (w : World) :
  Calls Try.prog 98 #[.int .u64 xi] w (fun e w' => e = .returned (.int .i64 (bitsLen x : Nat)) ∧ Ext w w') := by
 subst ex
 refine enter Try.func98 rfl Try.ntmps98 rfl ?_
 refine Tr.seq (Tr.region ?_)
 refine Tr.q (QS.assign rfl) rfl ?_
 refine Tr.nil (Tr.thenN (Tr.seq ?_))
 refine Tr.cond rfl (fun h1 => ?_) (fun h1 => ?_)
 ·try simp only [bs] at h1
  first | contradiction | (exfalso; omega) | simp_all
 ·try simp only [bs] at h1
  refine Tr.skip (Tr.thenN (Tr.seq (Tr.region ?_)))
  refine Tr.q (QS.move rfl) rfl ?_
  refine Tr.q (QS.call rfl Try.call122 (fun w hw => len64_u x hx w)) rfl ?_
  refine Tr.q (QS.assign rfl) rfl ?_
  refine Tr.nil (Tr.thenN (Tr.ret ?_))
  refine Tr.ret1 Try.results98 rfl (fun w' hw => ?_)
  exact ⟨rfl, hw.below (Bg.le.refl _)⟩
set_option maxRecDepth 100000 in
set_option maxHeartbeats 2000000 in
theorem nextPow_u (n : Nat) (ni : Int) (en : ni = ((n : Nat) : Int)) (hn : n ≤ 1000000) (w : World) :
  Calls Try.prog 127 #[.int .i64 ni] w (fun e w' => e = .returned (.int .u64 ((1 <<< bitsLen n : Nat) : Int)) ∧ Ext w w') := by
 subst en
 have hb : bitsLen n ≤ 20 := (bitsLen_le_iff n 20).2 (by omega)
 refine enter Try.func127 rfl Try.ntmps127 rfl ?_
 refine Tr.seq (Tr.region ?_)
 refine Tr.q (QS.assign rfl) rfl ?_
 refine Tr.nil (Tr.thenN (Tr.seq (Tr.region ?_)))
 refine Tr.q (QS.move rfl) rfl ?_
 refine Tr.q (QS.cvtIn rfl Try.underlying3 Try.underlying96 (IntWalk.u64_in _ (by omega))) rfl ?_
 refine Tr.q (QS.call rfl Try.call98 (fun w hw => lenU n _ rfl (by omega) w)) rfl ?_
 refine Tr.q (QS.shlOne rfl rfl (by omega)) rfl ?_
 refine Tr.q (QS.assign rfl) rfl ?_
 refine Tr.nil (Tr.thenN (Tr.ret ?_))
 refine Tr.ret1 Try.results127 rfl (fun w' hw => ?_)
 exact ⟨rfl, hw.below (Bg.le.refl _)⟩
set_option maxRecDepth 100000 in
set_option maxHeartbeats 2000000 in
theorem next_u (r : UInt64) (bs : Nat) (w : World) (ho : OwnAt w [cellE bs [.int .u64 ((r).toNat : Int)] 143]) :
  Calls Try.prog 128 #[.pointer (some ⟨bs, 0, none⟩)] w (fun e w' => ∃ i : Unit, e = .returned (.int .u64 ((xorNext r).toNat : Nat)) ∧ Upd w.drawn w w' (blks [cellE bs [.int .u64 ((r).toNat : Int)] 143]) ([cellE bs [.int .u64 ((xorNext r).toNat : Int)] 143]) ∧ True) := by
 refine enterB (L := [cellE bs [.int .u64 ((r).toNat : Int)] 143]) ho rfl (Nat.le_refl _) Try.func128 rfl Try.ntmps128 rfl ?_
 refine Tr.seq (Tr.region ?_)
 refine Tr.q (QS.assign rfl) rfl ?_
 refine Tr.nil (Tr.thenN (Tr.seq ?_))
 refine Tr.regionT 0 9 HLF.mixed (by kernel_rfl) (panicThen panicBody) ?_
 refine TrQ.pureNil ?_
 refine TrQ.q (QS.move rfl) rfl ?_
 refine TrQ.q (QS.nilCheck rfl) rfl ?_
 refine TrQ.q (QS.loadV rfl (by repeat constructor) Try.isAgg143 (by rfl)) rfl ?_
 refine TrQ.q (QS.move rfl) rfl ?_
 refine TrQ.q (QS.nilCheck rfl) rfl ?_
 refine TrQ.q (QS.loadV rfl (by repeat constructor) Try.isAgg143 (by rfl)) rfl ?_
 refine TrQ.q (QS.shl64 13 rfl rfl (by decide)) rfl ?_
 refine TrQ.q (QS.xor64 rfl rfl) rfl ?_
 refine TrQ.q (QS.nilCheck rfl) rfl ?_
 refine TrQ.nil ?_
 refine Tr.storeW rfl rfl Try.sizeOf143 (by repeat constructor) (by rfl) (by rfl) (by first | exact List.all_eq_true.1 rfl | exact Enc.one _ _ | (intro u hu; simp [Value.cells] at hu; simp_all [Value.oneCell'])) rfl ?_
 refine Tr.nil (Tr.thenN (Tr.seq ?_))
 refine Tr.regionT 0 9 HLF.mixed (by kernel_rfl) (panicThen panicBody) ?_
 refine TrQ.pureNil ?_
 refine TrQ.q (QS.move rfl) rfl ?_
 refine TrQ.q (QS.nilCheck rfl) rfl ?_
 refine TrQ.q (QS.loadV rfl (by repeat constructor) Try.isAgg143 (by rfl)) rfl ?_
 refine TrQ.q (QS.move rfl) rfl ?_
 refine TrQ.q (QS.nilCheck rfl) rfl ?_
 refine TrQ.q (QS.loadV rfl (by repeat constructor) Try.isAgg143 (by rfl)) rfl ?_
 refine TrQ.q (QS.shr64 7 rfl rfl (by decide)) rfl ?_
 refine TrQ.q (QS.xor64 rfl rfl) rfl ?_
 refine TrQ.q (QS.nilCheck rfl) rfl ?_
 refine TrQ.nil ?_
 refine Tr.storeW rfl rfl Try.sizeOf143 (by repeat constructor) (by rfl) (by rfl) (by first | exact List.all_eq_true.1 rfl | exact Enc.one _ _ | (intro u hu; simp [Value.cells] at hu; simp_all [Value.oneCell'])) rfl ?_
 refine Tr.nil (Tr.thenN (Tr.seq ?_))
 refine Tr.regionT 0 9 HLF.mixed (by kernel_rfl) (panicThen panicBody) ?_
 refine TrQ.pureNil ?_
 refine TrQ.q (QS.move rfl) rfl ?_
 refine TrQ.q (QS.nilCheck rfl) rfl ?_
 refine TrQ.q (QS.loadV rfl (by repeat constructor) Try.isAgg143 (by rfl)) rfl ?_
 refine TrQ.q (QS.move rfl) rfl ?_
 refine TrQ.q (QS.nilCheck rfl) rfl ?_
 refine TrQ.q (QS.loadV rfl (by repeat constructor) Try.isAgg143 (by rfl)) rfl ?_
 refine TrQ.q (QS.shl64 17 rfl rfl (by decide)) rfl ?_
 refine TrQ.q (QS.xor64 rfl rfl) rfl ?_
 refine TrQ.q (QS.nilCheck rfl) rfl ?_
 refine TrQ.nil ?_
 refine Tr.storeW rfl rfl Try.sizeOf143 (by repeat constructor) (by rfl) (by rfl) (by first | exact List.all_eq_true.1 rfl | exact Enc.one _ _ | (intro u hu; simp [Value.cells] at hu; simp_all [Value.oneCell'])) rfl ?_
 refine Tr.nil (Tr.thenN (Tr.seq (Tr.region ?_)))
 refine Tr.q (QS.move rfl) rfl ?_
 refine Tr.q (QS.nilCheck rfl) rfl ?_
 refine Tr.q (QS.loadV rfl (by repeat constructor) Try.isAgg143 (by rfl)) rfl ?_
 refine Tr.q (QS.assign rfl) rfl ?_
 refine Tr.nil (Tr.thenN (Tr.ret ?_))
 refine Tr.ret1 Try.results128 rfl (fun w' hw => ?_)
 exact ⟨(), rfl, hw.upd (Bg.le.refl _) (by repeat' constructor), trivial⟩
set_option maxRecDepth 100000 in
set_option maxHeartbeats 2000000 in
theorem order2_u32 (d : Array UInt32) (V : Value) (bs : Nat) (a b s : Nat) (ai bi : Int) (ea : ai = ((a : Nat) : Int)) (eb : bi = ((b : Nat) : Int)) (w : World) (ho : OwnAt w [rowE V 39 encU32 d.toList, cellE bs [.int .i64 ((s : Nat) : Int)] 3]) (hd : d.size ≤ 1000000) (ha : a < d.size) (hb : b < d.size) (hs : s ≤ 100 := by omega) :
  Calls Try.prog 132 #[V, .int .i64 ai, .int .i64 bi, .pointer (some ⟨bs, 0, none⟩)] w (fun e w' => ∃ i : Nat × Nat × Nat, e = .returned ((fun i : Nat × Nat × Nat => .tuple #[.int .i64 (i.1 : Nat), .int .i64 (i.2.1 : Nat)]) i) ∧ Upd w.drawn w w' (blks [rowE V 39 encU32 d.toList, cellE bs [.int .i64 ((s : Nat) : Int)] 3]) ([rowE V 39 encU32 d.toList, cellE bs [.int .i64 (i.2.2 : Nat)] 3]) ∧ i = order2 ltW d a b s) := by
 subst ea eb
 have hdl : d.toList.length = d.size := Array.length_toList
 refine enterB (L := [rowE V 39 encU32 d.toList, cellE bs [.int .i64 ((s : Nat) : Int)] 3]) ho rfl (Nat.le_refl _) Try.func132 rfl Try.ntmps132 rfl ?_
 refine Tr.seq (Tr.region ?_)
 refine Tr.q (QS.assign rfl) rfl ?_
 refine Tr.q (QS.assign rfl) rfl ?_
 refine Tr.nil (Tr.thenN (Tr.seq (Tr.seq ?_)))
 refine Tr.regionQ HLF.mixed (by kernel_rfl) ?_
 refine TrQ.q (QS.move rfl) rfl ?_
 refine TrQ.q (QS.move rfl) rfl ?_
 refine TrQ.q (QS.idxRowN rfl rfl (by repeat constructor) Try.underlying23 Try.sizeOf39 (by rfl) (by omega)) rfl ?_
 refine TrQ.q (QS.elR1 rfl (by repeat constructor) Try.isAgg39 (by omega) (by rfl)) rfl ?_
 refine TrQ.q (QS.move rfl) rfl ?_
 refine TrQ.q (QS.move rfl) rfl ?_
 refine TrQ.q (QS.idxRowN rfl rfl (by repeat constructor) Try.underlying23 Try.sizeOf39 (by rfl) (by omega)) rfl ?_
 refine TrQ.q (QS.elR1 rfl (by repeat constructor) Try.isAgg39 (by omega) (by rfl)) rfl ?_
 refine TrQ.q (QS.call rfl Try.call118 (fun w hw => less_any (d.toList.getD (b) default) (d.toList.getD (a) default) w)) rfl ?_
 refine TrQ.nil ?_
 refine Tr.thenN ?_
 refine Tr.cond rfl (fun h1 => ?_) (fun h1 => ?_)
 ·try simp only [bs] at h1
  refine Tr.seq (Tr.region ?_)
  refine Tr.q (QS.move rfl) rfl ?_
  refine Tr.q (QS.nilCheck rfl) rfl ?_
  refine Tr.q (QS.loadV rfl (by repeat constructor) Try.isAgg3 (by rfl)) rfl ?_
  refine Tr.q (QS.addI rfl rfl (by omega)) rfl ?_
  refine Tr.q (QS.nilCheck rfl) rfl ?_
  refine Tr.storeW rfl rfl Try.sizeOf3 (by repeat constructor) (by rfl) (by rfl) (by first | exact List.all_eq_true.1 rfl | exact Enc.one _ _ | exact Enc.one encInt _ | (intro u hu; simp [Value.cells] at hu; simp_all [Value.oneCell'])) rfl ?_
  refine Tr.nil (Tr.thenN (Tr.seq (Tr.region ?_)))
  refine Tr.q (QS.move rfl) rfl ?_
  refine Tr.q (QS.move rfl) rfl ?_
  refine Tr.q (QS.assign rfl) rfl ?_
  refine Tr.q (QS.assign rfl) rfl ?_
  refine Tr.nil (Tr.thenN (Tr.ret (Tr.thenR ?_)))
  refine Tr.ret2 Try.results132 rfl rfl (fun w' hw => ?_)
  refine ⟨(b, a, s + 1), rfl, hw.upd (Bg.le.refl _) (by repeat' constructor), ?_⟩
  unfold order2
  rw [if_pos (by rw [← bang, ← bang]; simp_all)]
 ·try simp only [bs] at h1
  refine Tr.skip (Tr.thenN (Tr.seq (Tr.region ?_)))
  refine Tr.q (QS.move rfl) rfl ?_
  refine Tr.q (QS.move rfl) rfl ?_
  refine Tr.q (QS.assign rfl) rfl ?_
  refine Tr.q (QS.assign rfl) rfl ?_
  refine Tr.nil (Tr.thenN (Tr.ret ?_))
  refine Tr.ret2 Try.results132 rfl rfl (fun w' hw => ?_)
  refine ⟨(a, b, s), rfl, hw.upd (Bg.le.refl _) (by repeat' constructor), ?_⟩
  unfold order2
  rw [if_neg (by rw [← bang, ← bang]; simp_all)]
set_option maxRecDepth 100000 in
set_option maxHeartbeats 2000000 in
theorem median_u32 (d : Array UInt32) (V : Value) (bs : Nat) (a b c s : Nat) (ai bi ci : Int) (ea : ai = ((a : Nat) : Int)) (eb : bi = ((b : Nat) : Int)) (ec : ci = ((c : Nat) : Int)) (w : World) (ho : OwnAt w [rowE V 39 encU32 d.toList, cellE bs [.int .i64 ((s : Nat) : Int)] 3]) (hd : d.size ≤ 1000000) (ha : a < d.size) (hb : b < d.size) (hc : c < d.size) (hs : s ≤ 90 := by omega) :
  Calls Try.prog 130 #[V, .int .i64 ai, .int .i64 bi, .int .i64 ci, .pointer (some ⟨bs, 0, none⟩)] w (fun e w' => ∃ i : Nat × Nat, e = .returned ((fun i : Nat × Nat => .int .i64 (i.1 : Nat)) i) ∧ Upd w.drawn w w' (blks [rowE V 39 encU32 d.toList, cellE bs [.int .i64 ((s : Nat) : Int)] 3]) ([rowE V 39 encU32 d.toList, cellE bs [.int .i64 (i.2 : Nat)] 3]) ∧ i = median ltW d a b c s) := by
 subst ea eb ec
 refine enterB (L := [rowE V 39 encU32 d.toList, cellE bs [.int .i64 ((s : Nat) : Int)] 3]) ho rfl (Nat.le_refl _) Try.func130 rfl Try.ntmps130 rfl ?_
 refine Tr.seq (Tr.region ?_)
 refine Tr.q (QS.assign rfl) rfl ?_
 refine Tr.nil (Tr.thenN (Tr.seq (Tr.region ?_)))
 refine Tr.q (QS.move rfl) rfl ?_
 refine Tr.q (QS.move rfl) rfl ?_
 refine Tr.q (QS.move rfl) rfl ?_
 refine Tr.q (QS.move rfl) rfl ?_
 refine Tr.callO (fun i : Nat × Nat × Nat => .tuple #[.int .i64 (i.1 : Nat), .int .i64 (i.2.1 : Nat)]) [rowE V 39 encU32 d.toList, cellE bs [.int .i64 ((s : Nat) : Int)] 3] (fun i : Nat × Nat × Nat => [rowE V 39 encU32 d.toList, cellE bs [.int .i64 (i.2.2 : Nat)] 3]) (ok := fun i => i = order2 ltW d a b s) (dd := fun w => w.drawn) rfl Try.call132 (by repeat' (first | exact Split.nil _ | exact Del.here _ | apply Split.cons | apply Del.there)) (fun w hw => hw.dr) (fun w hw => order2_u32 d V bs a b s _ _ rfl rfl w (hw.own (by repeat' (first | exact Split.nil _ | exact Del.here _ | apply Split.cons | apply Del.there))) hd (by omega) (by omega)) rfl (fun p hp => ?_)
 obtain ⟨bp1, bp2, bp3⟩ := order2_bd hp (n := d.size) (by omega) (by omega)
 obtain ⟨x1, y1, s1⟩ := p
 dsimp only at bp1 bp2 bp3
 change Tr _ _ [rowE V 39 encU32 d.toList, cellE bs [.int .i64 ((s1 : Nat) : Int)] 3] _ _
 refine Tr.q (QS.move rfl) rfl ?_
 refine Tr.q (QS.extract rfl rfl) rfl ?_
 refine Tr.q (QS.extract rfl rfl) rfl ?_
 refine Tr.q (QS.assign rfl) rfl ?_
 refine Tr.q (QS.assign rfl) rfl ?_
 refine Tr.nil (Tr.thenN (Tr.seq (Tr.region ?_)))
 refine Tr.q (QS.move rfl) rfl ?_
 refine Tr.q (QS.move rfl) rfl ?_
 refine Tr.q (QS.move rfl) rfl ?_
 refine Tr.q (QS.move rfl) rfl ?_
 refine Tr.callO (fun i : Nat × Nat × Nat => .tuple #[.int .i64 (i.1 : Nat), .int .i64 (i.2.1 : Nat)]) [rowE V 39 encU32 d.toList, cellE bs [.int .i64 ((s1 : Nat) : Int)] 3] (fun i : Nat × Nat × Nat => [rowE V 39 encU32 d.toList, cellE bs [.int .i64 (i.2.2 : Nat)] 3]) (ok := fun i => i = order2 ltW d y1 c s1) (dd := fun w => w.drawn) rfl Try.call132 (by repeat' (first | exact Split.nil _ | exact Del.here _ | apply Split.cons | apply Del.there)) (fun w hw => hw.dr) (fun w hw => order2_u32 d V bs y1 c s1 _ _ rfl rfl w (hw.own (by repeat' (first | exact Split.nil _ | exact Del.here _ | apply Split.cons | apply Del.there))) hd (by omega) (by omega)) rfl (fun q hq => ?_)
 obtain ⟨bq1, bq2, bq3⟩ := order2_bd hq (n := d.size) (by omega) (by omega)
 obtain ⟨x2, y2, s2⟩ := q
 dsimp only at bq1 bq2 bq3
 change Tr _ _ [rowE V 39 encU32 d.toList, cellE bs [.int .i64 ((s2 : Nat) : Int)] 3] _ _
 refine Tr.q (QS.move rfl) rfl ?_
 refine Tr.q (QS.extract rfl rfl) rfl ?_
 refine Tr.q (QS.extract rfl rfl) rfl ?_
 refine Tr.q (QS.assign rfl) rfl ?_
 refine Tr.q (QS.assign rfl) rfl ?_
 refine Tr.nil (Tr.thenN (Tr.seq (Tr.region ?_)))
 refine Tr.q (QS.move rfl) rfl ?_
 refine Tr.q (QS.move rfl) rfl ?_
 refine Tr.q (QS.move rfl) rfl ?_
 refine Tr.q (QS.move rfl) rfl ?_
 refine Tr.callO (fun i : Nat × Nat × Nat => .tuple #[.int .i64 (i.1 : Nat), .int .i64 (i.2.1 : Nat)]) [rowE V 39 encU32 d.toList, cellE bs [.int .i64 ((s2 : Nat) : Int)] 3] (fun i : Nat × Nat × Nat => [rowE V 39 encU32 d.toList, cellE bs [.int .i64 (i.2.2 : Nat)] 3]) (ok := fun i => i = order2 ltW d x1 x2 s2) (dd := fun w => w.drawn) rfl Try.call132 (by repeat' (first | exact Split.nil _ | exact Del.here _ | apply Split.cons | apply Del.there)) (fun w hw => hw.dr) (fun w hw => order2_u32 d V bs x1 x2 s2 _ _ rfl rfl w (hw.own (by repeat' (first | exact Split.nil _ | exact Del.here _ | apply Split.cons | apply Del.there))) hd (by omega) (by omega)) rfl (fun r hr => ?_)
 obtain ⟨br1, br2, br3⟩ := order2_bd hr (n := d.size) (by omega) (by omega)
 obtain ⟨x3, y3, s3⟩ := r
 dsimp only at br1 br2 br3
 change Tr _ _ [rowE V 39 encU32 d.toList, cellE bs [.int .i64 ((s3 : Nat) : Int)] 3] _ _
 refine Tr.q (QS.move rfl) rfl ?_
 refine Tr.q (QS.extract rfl rfl) rfl ?_
 refine Tr.q (QS.extract rfl rfl) rfl ?_
 refine Tr.q (QS.assign rfl) rfl ?_
 refine Tr.q (QS.assign rfl) rfl ?_
 refine Tr.nil (Tr.thenN (Tr.seq (Tr.region ?_)))
 refine Tr.q (QS.move rfl) rfl ?_
 refine Tr.q (QS.assign rfl) rfl ?_
 refine Tr.nil (Tr.thenN (Tr.ret ?_))
 refine Tr.ret1 Try.results130 rfl (fun w' hw => ?_)
 exact ⟨(y3, s3), rfl, hw.upd (Bg.le.refl _) (by repeat' constructor), by unfold median; simp only []; rw [← hp]; dsimp only; rw [← hq]; dsimp only; rw [← hr]⟩
set_option maxRecDepth 100000 in
set_option maxHeartbeats 2000000 in
theorem adj_u32 (d : Array UInt32) (V : Value) (bs : Nat) (a s : Nat) (ai : Int) (ea : ai = ((a : Nat) : Int)) (w : World) (ho : OwnAt w [rowE V 39 encU32 d.toList, cellE bs [.int .i64 ((s : Nat) : Int)] 3]) (hd : d.size ≤ 1000000) (ha : a + 1 < d.size) (h1 : 1 ≤ a) (hs : s ≤ 80 := by omega) :
  Calls Try.prog 129 #[V, .int .i64 ai, .pointer (some ⟨bs, 0, none⟩)] w (fun e w' => ∃ i : Nat × Nat, e = .returned ((fun i : Nat × Nat => .int .i64 (i.1 : Nat)) i) ∧ Upd w.drawn w w' (blks [rowE V 39 encU32 d.toList, cellE bs [.int .i64 ((s : Nat) : Int)] 3]) ([rowE V 39 encU32 d.toList, cellE bs [.int .i64 (i.2 : Nat)] 3]) ∧ i = medianAdjacent ltW d a s) := by
 subst ea
 refine enterB (L := [rowE V 39 encU32 d.toList, cellE bs [.int .i64 ((s : Nat) : Int)] 3]) ho rfl (Nat.le_refl _) Try.func129 rfl Try.ntmps129 rfl ?_
 refine Tr.seq (Tr.region ?_)
 refine Tr.q (QS.assign rfl) rfl ?_
 refine Tr.nil (Tr.thenN (Tr.seq (Tr.region ?_)))
 refine Tr.q (QS.move rfl) rfl ?_
 refine Tr.q (QS.move rfl) rfl ?_
 refine Tr.q (QS.subI rfl rfl (by omega)) rfl ?_
 refine Tr.q (QS.move rfl) rfl ?_
 refine Tr.q (QS.move rfl) rfl ?_
 refine Tr.q (QS.addI rfl rfl (by omega)) rfl ?_
 refine Tr.q (QS.move rfl) rfl ?_
 refine Tr.callO (fun i : Nat × Nat => .int .i64 (i.1 : Nat)) [rowE V 39 encU32 d.toList, cellE bs [.int .i64 ((s : Nat) : Int)] 3] (fun i : Nat × Nat => [rowE V 39 encU32 d.toList, cellE bs [.int .i64 (i.2 : Nat)] 3]) (ok := fun zz => zz = median ltW d (a - 1) a (a + 1) s) (dd := fun w => w.drawn) rfl Try.call130 (by repeat' (first | exact Split.nil _ | exact Del.here _ | apply Split.cons | apply Del.there)) (fun w hw => hw.dr) (fun w hw => median_u32 d V bs (a - 1) a (a + 1) s _ _ _ (by omega) (by omega) (by omega) w (hw.own (by repeat' (first | exact Split.nil _ | exact Del.here _ | apply Split.cons | apply Del.there))) hd (by omega) (by omega) (by omega)) rfl (fun p hp => ?_)
 obtain ⟨x, s1⟩ := p
 change Tr _ _ [rowE V 39 encU32 d.toList, cellE bs [.int .i64 ((s1 : Nat) : Int)] 3] _ _
 refine Tr.q (QS.assign rfl) rfl ?_
 refine Tr.nil (Tr.thenN (Tr.ret ?_))
 refine Tr.ret1 Try.results129 rfl (fun w' hw => ?_)
 exact ⟨(x, s1), rfl, hw.upd (Bg.le.refl _) (by repeat' constructor), hp⟩
set_option maxRecDepth 100000 in
set_option maxHeartbeats 8000000 in
theorem choosePivot_u32 (d : Array UInt32) (V : Value) (a : Nat) (b : Nat) (ai : Int) (bi : Int) (ea : ai = ((a : Nat) : Int)) (eb : bi = ((b : Nat) : Int)) (w : World) (hr : (rowE V 39 encU32 d.toList).holds w) (hd : d.size ≤ 1000000) (hab : a < b) (hb : b ≤ d.size) :
  Calls Try.prog 115 #[V, .int .i64 ai, .int .i64 bi] w (fun e w' => e = .returned (.tuple #[.int .i64 ((choosePivot ltW d a b).1 : Nat), .int .i64 (hintCode (choosePivot ltW d a b).2)]) ∧ Mut w w' V ∧ (rowE V 39 encU32 d.toList).holds w') := by
 subst ea eb
 refine enterOwn (l := d.toList) (E := encU32) (T := 39) hr Try.func115 rfl Try.ntmps115 rfl ?_
 refine Tr.seq (Tr.region ?_)
 refine Tr.q (QS.assign rfl) rfl ?_
 refine Tr.q (QS.assign rfl) rfl ?_
 refine Tr.nil (Tr.thenN (Tr.seq (Tr.region ?_)))
 refine Tr.q (QS.move rfl) rfl ?_
 refine Tr.q (QS.move rfl) rfl ?_
 refine Tr.q (QS.subI rfl rfl (by omega)) rfl ?_
 refine Tr.q (QS.assign rfl) rfl ?_
 refine Tr.nil (Tr.thenN (Tr.seq (Tr.region ?_)))
 refine Tr.alloc Try.zeroValue3 rfl rfl (fun b1 => ?_)
 refine Tr.nil (Tr.thenN (Tr.seq (Tr.region ?_)))
 refine Tr.q (QS.move rfl) rfl ?_
 refine Tr.q (QS.move rfl) rfl ?_
 refine Tr.q (QS.quoI rfl rfl (by omega)) rfl ?_
 refine Tr.q (QS.mulI rfl rfl (by omega)) rfl ?_
 refine Tr.q (QS.addI rfl rfl (by omega)) rfl ?_
 refine Tr.q (QS.assign rfl) rfl ?_
 refine Tr.nil (Tr.thenN (Tr.seq (Tr.region ?_)))
 refine Tr.q (QS.move rfl) rfl ?_
 refine Tr.q (QS.move rfl) rfl ?_
 refine Tr.q (QS.quoI rfl rfl (by omega)) rfl ?_
 refine Tr.q (QS.mulI rfl rfl (by omega)) rfl ?_
 refine Tr.q (QS.addI rfl rfl (by omega)) rfl ?_
 refine Tr.q (QS.assign rfl) rfl ?_
 refine Tr.nil (Tr.thenN (Tr.seq (Tr.region ?_)))
 refine Tr.q (QS.move rfl) rfl ?_
 refine Tr.q (QS.move rfl) rfl ?_
 refine Tr.q (QS.quoI rfl rfl (by omega)) rfl ?_
 refine Tr.q (QS.mulI rfl rfl (by omega)) rfl ?_
 refine Tr.q (QS.addI rfl rfl (by omega)) rfl ?_
 refine Tr.q (QS.assign rfl) rfl ?_
 refine Tr.nil (Tr.thenN ?_)
 refine Tr.seqJ (ι := Nat × Nat × Nat × Nat) (fun ⟨i, j, k, s⟩ => (j < d.size ∧ s ≤ 12) ∧ (j, s) = rawPivot ltW d a b) (fun _ => Bg.less w V) (fun ⟨i, j, k, s⟩ => [rowE V 39 encU32 d.toList, cellE b1 [.int .i64 ((s : Nat) : Int)] 3]) (fun ⟨i, j, k, s⟩ => [(10, .int .i64 (i : Nat)), (11, .int .i64 (j : Nat)), (12, .int .i64 (k : Nat))]) ?_ (fun i hi => ?_)
 ·skip
  refine Tr.seq (Tr.region ?_)
  refine Tr.q (QS.move rfl) rfl ?_
  refine Tr.q (QS.geq rfl rfl) rfl ?_
  refine Tr.nil (Tr.thenN ?_)
  refine Tr.cond rfl (fun h2 => ?_) (fun h2 => ?_)
  ·try simp only [bs] at h2
   refine Tr.seqJ (ι := Nat × Nat × Nat × Nat) (fun ⟨i, j, k, s⟩ => (i < d.size ∧ j < d.size ∧ k < d.size ∧ s ≤ 9) ∧ median ltW d i j k s = rawPivot ltW d a b) (fun _ => Bg.less w V) (fun ⟨i, j, k, s⟩ => [rowE V 39 encU32 d.toList, cellE b1 [.int .i64 ((s : Nat) : Int)] 3]) (fun ⟨i, j, k, s⟩ => [(10, .int .i64 (i : Nat)), (11, .int .i64 (j : Nat)), (12, .int .i64 (k : Nat))]) ?_ (fun i hi => ?_)
   ·skip
    refine Tr.seq (Tr.region ?_)
    refine Tr.q (QS.move rfl) rfl ?_
    refine Tr.q (QS.geq rfl rfl) rfl ?_
    refine Tr.nil (Tr.thenN ?_)
    refine Tr.cond rfl (fun h3 => ?_) (fun h3 => ?_)
    ·try simp only [bs] at h3
     refine Tr.seq (Tr.region ?_)
     refine Tr.q (QS.move rfl) rfl ?_
     refine Tr.q (QS.move rfl) rfl ?_
     refine Tr.callO (fun i : Nat × Nat => .int .i64 (i.1 : Nat)) [rowE V 39 encU32 d.toList, cellE b1 [.int .i64 ((0 : Nat) : Int)] 3] (fun i : Nat × Nat => [rowE V 39 encU32 d.toList, cellE b1 [.int .i64 (i.2 : Nat)] 3]) (ok := fun zz => zz = medianAdjacent ltW d (a + (b - a) / 4 * 1) 0) (dd := fun w => w.drawn) rfl Try.call129 (by repeat' (first | exact Split.nil _ | exact Del.here _ | apply Split.cons | apply Del.there)) (fun w hw => hw.dr) (fun w hw => adj_u32 d V b1 (a + (b - a) / 4 * 1) 0 _ (by omega) w (hw.own (by repeat' (first | exact Split.nil _ | exact Del.here _ | apply Split.cons | apply Del.there))) hd (by omega) (by omega)) rfl (fun p hp => ?_)
     have bp := adj_bd hp (n := d.size) (by omega)
     obtain ⟨x1, s1⟩ := p
     dsimp only at bp
     change Tr _ _ [rowE V 39 encU32 d.toList, cellE b1 [.int .i64 ((s1 : Nat) : Int)] 3] _ _
     refine Tr.q (QS.assign rfl) rfl ?_
     refine Tr.nil (Tr.thenN (Tr.seq (Tr.region ?_)))
     refine Tr.q (QS.move rfl) rfl ?_
     refine Tr.q (QS.move rfl) rfl ?_
     refine Tr.callO (fun i : Nat × Nat => .int .i64 (i.1 : Nat)) [rowE V 39 encU32 d.toList, cellE b1 [.int .i64 ((s1 : Nat) : Int)] 3] (fun i : Nat × Nat => [rowE V 39 encU32 d.toList, cellE b1 [.int .i64 (i.2 : Nat)] 3]) (ok := fun zz => zz = medianAdjacent ltW d (a + (b - a) / 4 * 2) s1) (dd := fun w => w.drawn) rfl Try.call129 (by repeat' (first | exact Split.nil _ | exact Del.here _ | apply Split.cons | apply Del.there)) (fun w hw => hw.dr) (fun w hw => adj_u32 d V b1 (a + (b - a) / 4 * 2) s1 _ (by omega) w (hw.own (by repeat' (first | exact Split.nil _ | exact Del.here _ | apply Split.cons | apply Del.there))) hd (by omega) (by omega)) rfl (fun q hq => ?_)
     have bq := adj_bd hq (n := d.size) (by omega)
     obtain ⟨x2, s2⟩ := q
     dsimp only at bq
     change Tr _ _ [rowE V 39 encU32 d.toList, cellE b1 [.int .i64 ((s2 : Nat) : Int)] 3] _ _
     refine Tr.q (QS.assign rfl) rfl ?_
     refine Tr.nil (Tr.thenN (Tr.region ?_))
     refine Tr.q (QS.move rfl) rfl ?_
     refine Tr.q (QS.move rfl) rfl ?_
     refine Tr.callO (fun i : Nat × Nat => .int .i64 (i.1 : Nat)) [rowE V 39 encU32 d.toList, cellE b1 [.int .i64 ((s2 : Nat) : Int)] 3] (fun i : Nat × Nat => [rowE V 39 encU32 d.toList, cellE b1 [.int .i64 (i.2 : Nat)] 3]) (ok := fun zz => zz = medianAdjacent ltW d (a + (b - a) / 4 * 3) s2) (dd := fun w => w.drawn) rfl Try.call129 (by repeat' (first | exact Split.nil _ | exact Del.here _ | apply Split.cons | apply Del.there)) (fun w hw => hw.dr) (fun w hw => adj_u32 d V b1 (a + (b - a) / 4 * 3) s2 _ (by omega) w (hw.own (by repeat' (first | exact Split.nil _ | exact Del.here _ | apply Split.cons | apply Del.there))) hd (by omega) (by omega)) rfl (fun r hr => ?_)
     have br := adj_bd hr (n := d.size) (by omega)
     obtain ⟨x3, s3⟩ := r
     dsimp only at br
     change Tr _ _ [rowE V 39 encU32 d.toList, cellE b1 [.int .i64 ((s3 : Nat) : Int)] 3] _ _
     refine Tr.q (QS.assign rfl) rfl ?_
     refine Tr.nil (Tr.thenN ?_)
     apply Tr.joined (x1, x2, x3, s3)
     ·exact rfl
     ·exact (.cons (by first | rfl | exact lookI rfl (by omega) | exact lookI rfl (by simp) | exact lookB rfl (by simp)) (.cons (by first | rfl | exact lookI rfl (by omega) | exact lookI rfl (by simp) | exact lookB rfl (by simp)) (.cons (by first | rfl | exact lookI rfl (by omega) | exact lookI rfl (by simp) | exact lookB rfl (by simp)) Front.nil)))
     ·exact SubX.dropN 14 (by kernel_rfl) rfl
     ·exact (by repeat' constructor)
     ·exact ⟨by omega, raw_far (by omega) hp hq hr rfl⟩
    ·try simp only [bs] at h3
     refine Tr.skip (Tr.thenN ?_)
     apply Tr.joined (a + (b - a) / 4 * 1, a + (b - a) / 4 * 2, a + (b - a) / 4 * 3, 0)
     ·exact rfl
     ·exact (.cons (by first | rfl | exact lookI rfl (by omega) | exact lookI rfl (by simp) | exact lookB rfl (by simp)) (.cons (by first | rfl | exact lookI rfl (by omega) | exact lookI rfl (by simp) | exact lookB rfl (by simp)) (.cons (by first | rfl | exact lookI rfl (by omega) | exact lookI rfl (by simp) | exact lookB rfl (by simp)) Front.nil)))
     ·exact SubX.dropN 2 (by kernel_rfl) rfl
     ·exact (by repeat' constructor)
     ·exact ⟨by omega, raw_mid (by omega) (by omega) rfl⟩
   ·obtain ⟨i, j, k, s⟩ := i
    replace hi : (i < d.size ∧ j < d.size ∧ k < d.size ∧ s ≤ 9) ∧ median ltW d i j k s = rawPivot ltW d a b := hi
    change Tr _ _ [rowE V 39 encU32 d.toList, cellE b1 [.int .i64 ((s : Nat) : Int)] 3] ([(10, .int .i64 (i : Nat)), (11, .int .i64 (j : Nat)), (12, .int .i64 (k : Nat))] ++ _) _
    obtain ⟨hi1, hi2⟩ := hi
    refine Tr.region ?_
    refine Tr.q (QS.move rfl) rfl ?_
    refine Tr.q (QS.move rfl) rfl ?_
    refine Tr.q (QS.move rfl) rfl ?_
    refine Tr.q (QS.move rfl) rfl ?_
    refine Tr.callO (fun i : Nat × Nat => .int .i64 (i.1 : Nat)) [rowE V 39 encU32 d.toList, cellE b1 [.int .i64 ((s : Nat) : Int)] 3] (fun i : Nat × Nat => [rowE V 39 encU32 d.toList, cellE b1 [.int .i64 (i.2 : Nat)] 3]) (ok := fun zz => zz = median ltW d i j k s) (dd := fun w => w.drawn) rfl Try.call130 (by repeat' (first | exact Split.nil _ | exact Del.here _ | apply Split.cons | apply Del.there)) (fun w hw => hw.dr) (fun w hw => median_u32 d V b1 i j k s _ _ _ rfl rfl rfl w (hw.own (by repeat' (first | exact Split.nil _ | exact Del.here _ | apply Split.cons | apply Del.there))) hd (by omega) (by omega) (by omega)) rfl (fun z hz => ?_)
    have bz := median_bd hz (n := d.size) (by omega) (by omega) (by omega)
    obtain ⟨x4, s4⟩ := z
    dsimp only at bz
    change Tr _ _ [rowE V 39 encU32 d.toList, cellE b1 [.int .i64 ((s4 : Nat) : Int)] 3] _ _
    refine Tr.q (QS.assign rfl) rfl ?_
    refine Tr.nil (Tr.thenN ?_)
    apply Tr.joined (i, x4, k, s4)
    ·exact rfl
    ·exact (.cons (by first | rfl | exact lookI rfl (by omega) | exact lookI rfl (by simp) | exact lookB rfl (by simp)) (.cons (by first | rfl | exact lookI rfl (by omega) | exact lookI rfl (by simp) | exact lookB rfl (by simp)) (.cons (by first | rfl | exact lookI rfl (by omega) | exact lookI rfl (by simp) | exact lookB rfl (by simp)) Front.nil)))
    ·exact SubX.dropN 11 (by kernel_rfl) rfl
    ·exact (by repeat' constructor)
    ·exact ⟨by omega, by rw [← hi2]; exact hz⟩
  ·try simp only [bs] at h2
   refine Tr.skip (Tr.thenN ?_)
   apply Tr.joined (a + (b - a) / 4 * 1, a + (b - a) / 4 * 2, a + (b - a) / 4 * 3, 0)
   ·exact rfl
   ·exact (.cons (by first | rfl | exact lookI rfl (by omega) | exact lookI rfl (by simp) | exact lookB rfl (by simp)) (.cons (by first | rfl | exact lookI rfl (by omega) | exact lookI rfl (by simp) | exact lookB rfl (by simp)) (.cons (by first | rfl | exact lookI rfl (by omega) | exact lookI rfl (by simp) | exact lookB rfl (by simp)) Front.nil)))
   ·exact SubX.dropN 2 (by kernel_rfl) rfl
   ·exact (by repeat' constructor)
   ·exact ⟨by omega, raw_near (by omega)⟩
 ·obtain ⟨i, j, k, s⟩ := i
  replace hi : (j < d.size ∧ s ≤ 12) ∧ (j, s) = rawPivot ltW d a b := hi
  change Tr _ _ [rowE V 39 encU32 d.toList, cellE b1 [.int .i64 ((s : Nat) : Int)] 3] ([(10, .int .i64 (i : Nat)), (11, .int .i64 (j : Nat)), (12, .int .i64 (k : Nat))] ++ _) _
  obtain ⟨hj1, hj2⟩ := hi
  refine Tr.seq (Tr.region ?_)
  refine Tr.q (QS.lV rfl Try.isAgg3) rfl ?_
  refine Tr.nil (Tr.thenN (Tr.block (Tr.seq (Tr.region ?_))))
  refine Tr.q (QS.eql rfl rfl) rfl ?_
  refine Tr.q (QS.assign rfl) rfl ?_
  refine Tr.nil (Tr.thenN ?_)
  refine Tr.cond rfl (fun h4 => ?_) (fun h4 => ?_)
  ·try simp only [bs] at h4
   refine Tr.seq (Tr.region ?_)
   refine Tr.q (QS.move rfl) rfl ?_
   refine Tr.q (QS.assign rfl) rfl ?_
   refine Tr.q (QS.assign rfl) rfl ?_
   refine Tr.nil (Tr.thenN (Tr.ret ?_))
   refine Tr.inR ?_
   refine Tr.ret2 Try.results115 rfl rfl (fun w' hw => ?_)
   obtain rfl : s = 0 := by omega
   exact ⟨by rw [choosePivot_eq, ← hj2]; rfl, HpOK.mutOwn hw (.head _) rfl⟩
  ·try simp only [bs] at h4
   refine Tr.seq (Tr.region ?_)
   refine Tr.q (QS.eql rfl rfl) rfl ?_
   refine Tr.q (QS.assign rfl) rfl ?_
   refine Tr.nil (Tr.thenN ?_)
   refine Tr.cond rfl (fun h5 => ?_) (fun h5 => ?_)
   ·try simp only [bs] at h5
    refine Tr.seq (Tr.region ?_)
    refine Tr.q (QS.move rfl) rfl ?_
    refine Tr.q (QS.assign rfl) rfl ?_
    refine Tr.q (QS.assign rfl) rfl ?_
    refine Tr.nil (Tr.thenN (Tr.ret ?_))
    refine Tr.inR ?_
    refine Tr.ret2 Try.results115 rfl rfl (fun w' hw => ?_)
    obtain rfl : s = 12 := by omega
    exact ⟨by rw [choosePivot_eq, ← hj2]; rfl, HpOK.mutOwn hw (.head _) rfl⟩
   ·try simp only [bs] at h5
    refine Tr.seq (Tr.region ?_)
    refine Tr.q (QS.move rfl) rfl ?_
    refine Tr.q (QS.assign rfl) rfl ?_
    refine Tr.q (QS.assign rfl) rfl ?_
    refine Tr.nil (Tr.thenN (Tr.ret ?_))
    refine Tr.inR ?_
    refine Tr.ret2 Try.results115 rfl rfl (fun w' hw => ?_)
    exact ⟨by rw [choosePivot_eq, ← hj2]; simp only [hintOf]; rw [if_neg (by omega), if_neg (by omega)]; rfl, HpOK.mutOwn hw (.head _) rfl⟩
set_option maxRecDepth 100000 in
set_option maxHeartbeats 8000000 in
theorem break_u32 (d : Array UInt32) (V : Value) (a : Nat) (b : Nat) (ai : Int) (bi : Int) (ea : ai = ((a : Nat) : Int)) (eb : bi = ((b : Nat) : Int)) (w : World) (hr : (rowE V 39 encU32 d.toList).holds w) (hd : d.size ≤ 1000000) (hab : a ≤ b) (hb : b ≤ d.size) :
  Calls Try.prog 114 #[V, .int .i64 ai, .int .i64 bi] w (fun e w' => e = .returned (.tuple #[]) ∧ Mut w w' V ∧ (rowE V 39 encU32 (breakPatterns d a b).toList).holds w') := by
 subst ea eb
 obtain ⟨md, hmd⟩ : ∃ md, md = 1 <<< bitsLen (b - a) := ⟨_, rfl⟩
 obtain ⟨i0, hi0⟩ : ∃ i, i = a + (b - a) / 4 * 2 - 1 := ⟨_, rfl⟩
 refine enterOwn (l := d.toList) (E := encU32) (T := 39) hr Try.func114 rfl Try.ntmps114 rfl ?_
 refine Tr.seq (Tr.region ?_)
 refine Tr.q (QS.move rfl) rfl ?_
 refine Tr.q (QS.move rfl) rfl ?_
 refine Tr.q (QS.subI rfl rfl (by omega)) rfl ?_
 refine Tr.q (QS.assign rfl) rfl ?_
 refine Tr.nil (Tr.thenN (Tr.seq (Tr.region ?_)))
 refine Tr.q (QS.move rfl) rfl ?_
 refine Tr.q (QS.geq rfl rfl) rfl ?_
 refine Tr.nil (Tr.thenN ?_)
 refine Tr.cond rfl (fun h1 => ?_) (fun h1 => ?_)
 ·try simp only [bs] at h1
  refine Tr.seq (Tr.region ?_)
  refine Tr.q (QS.move rfl) rfl ?_
  refine Tr.q (QS.cvtTo64 (b - a) rfl Try.underlying3 Try.underlying143 (by omega) (by omega)) rfl ?_
  refine Tr.alloc Try.zeroValue143 rfl rfl (fun b2 => ?_)
  refine Tr.storeW rfl rfl Try.sizeOf143 (by repeat constructor) (by rfl) (by rfl) (by first | exact List.all_eq_true.1 rfl | exact Enc.one _ _) rfl ?_
  refine Tr.nil (Tr.thenN (Tr.seq (Tr.region ?_)))
  refine Tr.q (QS.move rfl) rfl ?_
  refine Tr.q (QS.call rfl Try.call127 (fun w hw => nextPow_u (b - a) _ (by omega) (by omega) w)) rfl ?_
  rw [← hmd]
  have hmb := mod_bd (n := b - a) (by omega)
  rw [← hmd] at hmb
  refine Tr.q (QS.assign rfl) rfl ?_
  refine Tr.nil (Tr.thenN (Tr.seq (Tr.region ?_)))
  refine Tr.q (QS.move rfl) rfl ?_
  refine Tr.q (QS.move rfl) rfl ?_
  refine Tr.q (QS.quoI rfl rfl (by omega)) rfl ?_
  refine Tr.q (QS.mulI rfl rfl (by omega)) rfl ?_
  refine Tr.q (QS.addI rfl rfl (by omega)) rfl ?_
  refine Tr.q (QS.subI rfl rfl (by omega)) rfl ?_
  refine Tr.q (QS.assign rfl) rfl ?_
  refine Tr.nil (Tr.thenN (Tr.block ?_))
  refine Tr.loop (ι := Nat × UInt64 × Array UInt32) (fun ⟨t, r, cur⟩ => t ≤ 3 ∧ cur.size = d.size ∧ bsteps a (b - a) md i0 t (UInt64.ofNat (b - a), d) = (r, cur)) (fun _ => _) (fun ⟨t, r, cur⟩ => [rowE V 39 encU32 cur.toList, cellE b2 [.int .u64 (r.toNat : Int)] 143]) (fun ⟨t, r, cur⟩ => [(9, .int .i64 ((i0 + t : Nat) : Int))]) (fun ⟨t, r, cur⟩ => 3 - t) (0, UInt64.ofNat (b - a), d) ⟨by omega, rfl, rfl⟩ (.cons (by first | rfl | exact lookI rfl (by omega) | exact lookI rfl (by simp) | exact lookB rfl (by simp)) Front.nil) (by repeat' constructor) rfl (fun i hi m hm => ?_)
  obtain ⟨t, r, cur⟩ := i
  replace hi : t ≤ 3 ∧ cur.size = d.size ∧ bsteps a (b - a) md i0 t (UInt64.ofNat (b - a), d) = (r, cur) := hi
  replace hm : m = 3 - t := hm
  change Tr _ _ [rowE V 39 encU32 cur.toList, cellE b2 [.int .u64 (r.toNat : Int)] 143] ([(9, .int .i64 ((i0 + t : Nat) : Int))] ++ _) _
  obtain ⟨hk1, hk2, hk3⟩ := hi
  have hcl : cur.toList.length = d.size := by rw [Array.length_toList]; exact hk2
  refine Tr.seq (Tr.seq (Tr.region ?_))
  refine Tr.q (QS.move rfl) rfl ?_
  refine Tr.q (QS.move rfl) rfl ?_
  refine Tr.q (QS.move rfl) rfl ?_
  refine Tr.q (QS.quoI rfl rfl (by omega)) rfl ?_
  refine Tr.q (QS.mulI rfl rfl (by omega)) rfl ?_
  refine Tr.q (QS.addI rfl rfl (by omega)) rfl ?_
  refine Tr.q (QS.addI rfl rfl (by omega)) rfl ?_
  refine Tr.q (QS.leq rfl rfl) rfl ?_
  refine Tr.nil (Tr.thenN ?_)
  refine Tr.cond rfl (fun h3 => ?_) (fun h3 => ?_)
  ·try simp only [bs] at h3
   refine Tr.skip (Tr.thenN (Tr.seq (Tr.block (Tr.seq (Tr.region ?_)))))
   refine Tr.callO (fun _ : Unit => .int .u64 ((xorNext r).toNat : Nat)) [cellE b2 [.int .u64 ((r).toNat : Int)] 143] (fun _ => [cellE b2 [.int .u64 ((xorNext r).toNat : Int)] 143]) (ok := fun _ => True) (dd := fun w => w.drawn) rfl Try.call128 (by repeat' (first | exact Split.nil _ | exact Del.here _ | apply Split.cons | apply Del.there)) (fun w hw => hw.dr) (fun w hw => next_u r b2 w (hw.own (by repeat' (first | exact Split.nil _ | exact Del.here _ | apply Split.cons | apply Del.there)))) rfl (fun i hi => ?_)
   refine Tr.q (QS.move rfl) rfl ?_
   refine Tr.q (QS.subUN (n := 1) rfl rfl (by omega) (by omega)) rfl ?_
   refine Tr.q (QS.and64 rfl rfl (by have := (xorNext r).toNat_lt; omega) (by omega)) rfl ?_
   have hand : (xorNext r).toNat &&& (md - 1) ≤ md - 1 := Nat.and_le_right
   change Tr _ _ [cellE b2 [.int .u64 ((xorNext r).toNat : Int)] 143, rowE V 39 encU32 cur.toList] _ _
   refine Tr.q (QS.cvtIn rfl Try.underlying96 Try.underlying3 (IntWalk.i64_in _ (by omega))) rfl ?_
   refine Tr.q (QS.assign rfl) rfl ?_
   refine Tr.nil (Tr.thenN ?_)
   refine Tr.seqJ (ι := Nat) (fun o => o < b - a ∧ o = if b - a ≤ ((xorNext r).toNat &&& (md - 1)) then ((xorNext r).toNat &&& (md - 1)) - (b - a) else ((xorNext r).toNat &&& (md - 1))) (fun _ => Bg.less w V) (fun o => [rowE V 39 encU32 cur.toList, cellE b2 [.int .u64 ((xorNext r).toNat : Int)] 143]) (fun o => [(10, .int .i64 (o : Nat))]) ?_ (fun o hi => ?_)
   ·skip
    refine Tr.seq (Tr.region ?_)
    refine Tr.q (QS.move rfl) rfl ?_
    refine Tr.q (QS.move rfl) rfl ?_
    refine Tr.q (QS.geq rfl rfl) rfl ?_
    refine Tr.nil (Tr.thenN ?_)
    refine Tr.cond rfl (fun h4 => ?_) (fun h4 => ?_)
    ·try simp only [bs] at h4
     refine Tr.region ?_
     refine Tr.q (QS.move rfl) rfl ?_
     refine Tr.q (QS.move rfl) rfl ?_
     refine Tr.q (QS.subI rfl rfl (by omega)) rfl ?_
     refine Tr.q (QS.assign rfl) rfl ?_
     refine Tr.nil (Tr.thenN ?_)
     apply Tr.joined (((xorNext r).toNat &&& (md - 1)) - (b - a))
     ·exact rfl
     ·exact (.cons (by first | rfl | exact lookI rfl (by omega) | exact lookI rfl (by simp) | exact lookB rfl (by simp)) Front.nil)
     ·exact SubX.dropN 7 (by kernel_rfl) rfl
     ·exact (by repeat' constructor)
     ·exact ⟨by omega, by rw [if_pos (by omega)]⟩
    ·try simp only [bs] at h4
     refine Tr.skip (Tr.thenN ?_)
     apply Tr.joined ((xorNext r).toNat &&& (md - 1))
     ·exact rfl
     ·exact (.cons (by first | rfl | exact lookI rfl (by omega) | exact lookI rfl (by simp) | exact lookB rfl (by simp)) Front.nil)
     ·exact SubX.dropN 3 (by kernel_rfl) rfl
     ·exact (by repeat' constructor)
     ·exact ⟨by omega, by rw [if_neg (by omega)]⟩
   ·skip
    replace hi : o < b - a ∧ o = if b - a ≤ ((xorNext r).toNat &&& (md - 1)) then ((xorNext r).toNat &&& (md - 1)) - (b - a) else ((xorNext r).toNat &&& (md - 1)) := hi
    change Tr _ _ [rowE V 39 encU32 cur.toList, cellE b2 [.int .u64 ((xorNext r).toNat : Int)] 143] ([(10, .int .i64 (o : Nat))] ++ _) _
    obtain ⟨ho1, ho2⟩ := hi
    refine Tr.regionT 6 17 HLF.mixed (by kernel_rfl) (panicIn (panicThen (panicThen (panicIn panicBody)))) ?_
    refine TrQ.pureMove rfl rfl ?_
    refine TrQ.pureMove rfl rfl ?_
    refine TrQ.pureMove rfl rfl ?_
    refine TrQ.pureMove rfl rfl ?_
    refine TrQ.pureMove rfl rfl ?_
    refine TrQ.pureQ (fun _ => QS.addI rfl rfl (by omega)) (by rfl) rfl ?_
    refine TrQ.pureNil ?_
    refine TrQ.q (QS.move rfl) rfl ?_
    refine TrQ.q (QS.move rfl) rfl ?_
    refine TrQ.q (QS.move rfl) rfl ?_
    refine TrQ.q (QS.addI rfl rfl (by omega)) rfl ?_
    refine TrQ.q (QS.idxRowN rfl rfl (by repeat constructor) Try.underlying23 Try.sizeOf39 (by rfl) (by omega)) rfl ?_
    refine TrQ.q (QS.elR1 rfl (by repeat constructor) Try.isAgg39 (by omega) (by rfl)) rfl ?_
    refine TrQ.q (QS.move rfl) rfl ?_
    refine TrQ.q (QS.move rfl) rfl ?_
    refine TrQ.q (QS.idxRowN rfl rfl (by repeat constructor) Try.underlying23 Try.sizeOf39 (by rfl) (by omega)) rfl ?_
    refine TrQ.q (QS.elR1 rfl (by repeat constructor) Try.isAgg39 (by omega) (by rfl)) rfl ?_
    refine TrQ.q (QS.idxRowN rfl rfl (by repeat constructor) Try.underlying23 Try.sizeOf39 (by rfl) (by omega)) rfl ?_
    refine TrQ.nil ?_
    refine Tr.storeEl (l := cur.toList) (i := (i0 + t)) (cur.toList.getD ((a + o)) default) rfl rfl Try.sizeOf39 (by repeat constructor) (by (try simp only [List.length_set]); omega) (by rfl) rfl ?_
    have hls5 : (List.set cur.toList ((i0 + t)) (cur.toList.getD ((a + o)) default)).length = (cur.toList).length := List.length_set
    refine Tr.q (QS.idxRowN rfl rfl (by repeat constructor) Try.underlying23 Try.sizeOf39 (by rfl) (by omega)) rfl ?_
    refine Tr.storeEl (l := (cur.toList.set ((i0 + t)) (cur.toList.getD ((a + o)) default))) (i := (a + o)) (cur.toList.getD ((i0 + t)) default) rfl rfl Try.sizeOf39 (by repeat constructor) (by (try simp only [List.length_set]); omega) (by rfl) rfl ?_
    have hls6 : (List.set (cur.toList.set ((i0 + t)) (cur.toList.getD ((a + o)) default)) ((a + o)) (cur.toList.getD ((i0 + t)) default)).length = ((cur.toList.set ((i0 + t)) (cur.toList.getD ((a + o)) default))).length := List.length_set
    rw [bang, bang, set_swp]
    refine Tr.nil (Tr.inN (Tr.thenN (Tr.region ?_)))
    refine Tr.q (QS.move rfl) rfl ?_
    refine Tr.q (QS.addI rfl rfl (by omega)) rfl ?_
    refine Tr.q (QS.assign rfl) rfl ?_
    refine Tr.nil (Tr.thenN ?_)
    apply Tr.again (t + 1, xorNext r, _)
    ·exact rfl
    ·exact (.cons (by first | rfl | exact lookI rfl (by omega) | exact lookI rfl (by simp) | exact lookB rfl (by simp)) Front.nil)
    ·exact SubX.dropN 37 (by kernel_rfl) rfl
    ·exact (by repeat' constructor)
    ·exact ⟨by omega, by rw [swpW]; exact hk2, bstep_eq hk3 ho2⟩
    ·exact (by (try dsimp only); omega)
  ·try simp only [bs] at h3
   refine Tr.exit ?_
   refine Tr.thenE (Tr.thenE (Tr.inHit ?_))
   refine Tr.ret0n Try.results114 (fun w' hw => ?_)
   obtain rfl : t = 3 := by omega
   have hq : breakPatterns d a b = cur := by rw [break_go (by omega), ← hmd, ← hi0, hk3]
   exact ⟨rfl, by rw [hq]; exact HpOK.mutOwn hw (.head _) rfl⟩
 ·try simp only [bs] at h1
  refine Tr.skip ?_
  refine Tr.ret0n Try.results114 (fun w' hw => ?_)
  exact ⟨rfl, by rw [break_no (by omega)]; exact HpOK.mutOwn hw (.head _) rfl⟩
set_option maxRecDepth 100000 in
set_option maxHeartbeats 16000000 in
theorem pdq_step (V : Value) (n : Nat) (ih : ∀ (d : Array UInt32) (a b limit : Nat) (ai bi li : Int) (w : World), ai = ((a : Nat) : Int) → bi = ((b : Nat) : Int) → li = ((limit : Nat) : Int) → (rowE V 39 encU32 d.toList).holds w → d.size ≤ 1000000 → a ≤ b → b ≤ d.size → limit ≤ 64 → b - a < n → Calls Try.prog 97 #[V, .int .i64 ai, .int .i64 bi, .int .i64 li] w (fun e w' => e = .returned (.tuple #[]) ∧ Mut w w' V ∧ (rowE V 39 encU32 (pdq ltW d a b limit true true).toList).holds w')) (d : Array UInt32) (a : Nat) (b : Nat) (limit : Nat) (ai : Int) (bi : Int) (limiti : Int) (ea : ai = ((a : Nat) : Int)) (eb : bi = ((b : Nat) : Int)) (elimit : limiti = ((limit : Nat) : Int)) (w : World) (hr : (rowE V 39 encU32 d.toList).holds w) (hd : d.size ≤ 1000000) (hab : a ≤ b) (hb : b ≤ d.size) (hl : limit ≤ 64) (hn : b - a ≤ n) :
  Calls Try.prog 97 #[V, .int .i64 ai, .int .i64 bi, .int .i64 limiti] w (fun e w' => e = .returned (.tuple #[]) ∧ Mut w w' V ∧ (rowE V 39 encU32 (pdq ltW d a b limit true true).toList).holds w') := by
 subst ea eb elimit
 refine enterOwn (l := d.toList) (E := encU32) (T := 39) hr Try.func97 rfl Try.ntmps97 rfl ?_
 refine Tr.seq (Tr.region ?_)
 refine Tr.q (QS.assign rfl) rfl ?_
 refine Tr.nil (Tr.thenN (Tr.seq (Tr.region ?_)))
 refine Tr.q (QS.assign rfl) rfl ?_
 refine Tr.nil (Tr.thenN (Tr.block ?_))
 refine Tr.loop (ι := Nat × Nat × Nat × Bool × Bool × Array UInt32) (fun ⟨a1, b1, l1, wb, wp, cur⟩ => (a ≤ a1 ∧ a1 ≤ b1 ∧ b1 ≤ b ∧ l1 ≤ 64) ∧ cur.size = d.size ∧ pdq ltW cur a1 b1 l1 wb wp = pdq ltW d a b limit true true) (fun _ => _) (fun ⟨a1, b1, l1, wb, wp, cur⟩ => [rowE V 39 encU32 cur.toList]) (fun ⟨a1, b1, l1, wb, wp, cur⟩ => [(1, .int .i64 (a1 : Nat)), (2, .int .i64 (b1 : Nat)), (3, .int .i64 (l1 : Nat)), (8, .bool wb), (9, .bool wp)]) (fun ⟨a1, b1, l1, wb, wp, cur⟩ => b1 - a1) (a, b, limit, true, true, d) ⟨⟨Nat.le_refl _, hab, Nat.le_refl _, hl⟩, rfl, rfl⟩ (.cons (by first | rfl | exact lookI rfl (by omega) | exact lookB rfl (decide_eq_decide.2 (by omega)) | exact lookI rfl (by simp) | exact lookB rfl (by simp)) (.cons (by first | rfl | exact lookI rfl (by omega) | exact lookB rfl (decide_eq_decide.2 (by omega)) | exact lookI rfl (by simp) | exact lookB rfl (by simp)) (.cons (by first | rfl | exact lookI rfl (by omega) | exact lookB rfl (decide_eq_decide.2 (by omega)) | exact lookI rfl (by simp) | exact lookB rfl (by simp)) (.cons (by first | rfl | exact lookI rfl (by omega) | exact lookB rfl (decide_eq_decide.2 (by omega)) | exact lookI rfl (by simp) | exact lookB rfl (by simp)) (.cons (by first | rfl | exact lookI rfl (by omega) | exact lookB rfl (decide_eq_decide.2 (by omega)) | exact lookI rfl (by simp) | exact lookB rfl (by simp)) Front.nil))))) (by repeat' constructor) rfl (fun i hi m hm => ?_)
 obtain ⟨a1, b1, l1, wb, wp, cur⟩ := i
 replace hi : (a ≤ a1 ∧ a1 ≤ b1 ∧ b1 ≤ b ∧ l1 ≤ 64) ∧ cur.size = d.size ∧ pdq ltW cur a1 b1 l1 wb wp = pdq ltW d a b limit true true := hi
 replace hm : m = b1 - a1 := hm
 change Tr _ _ [rowE V 39 encU32 cur.toList] ([(1, .int .i64 (a1 : Nat)), (2, .int .i64 (b1 : Nat)), (3, .int .i64 (l1 : Nat)), (8, .bool wb), (9, .bool wp)] ++ _) _
 obtain ⟨hk1, hk2, hk3⟩ := hi
 have hcl : cur.toList.length = d.size := by rw [Array.length_toList]; exact hk2
 refine Tr.block (Tr.seq (Tr.region ?_))
 refine Tr.q (QS.move rfl) rfl ?_
 refine Tr.q (QS.move rfl) rfl ?_
 refine Tr.q (QS.subI rfl rfl (by omega)) rfl ?_
 refine Tr.q (QS.assign rfl) rfl ?_
 refine Tr.nil (Tr.thenN (Tr.seq (Tr.seq (Tr.region ?_))))
 refine Tr.q (QS.move rfl) rfl ?_
 refine Tr.q (QS.leq rfl rfl) rfl ?_
 refine Tr.nil (Tr.thenN ?_)
 refine Tr.cond rfl (fun h1 => ?_) (fun h1 => ?_)
 ·try simp only [bs] at h1
  refine Tr.seq (Tr.region ?_)
  refine Tr.q (QS.move rfl) rfl ?_
  refine Tr.q (QS.move rfl) rfl ?_
  refine Tr.q (QS.move rfl) rfl ?_
  refine Tr.callMut rfl Try.call112 (by repeat constructor) (fun w hw => insertion_u32 cur V a1 b1 _ _ rfl rfl w (hw.ent _ (.head _)) (by omega) (by omega) (by omega)) rfl ?_
  refine Tr.nil (Tr.thenN (Tr.ret (Tr.thenR ?_)))
  refine Tr.inR ?_
  refine Tr.thenR ?_
  refine Tr.inR ?_
  refine Tr.ret0 Try.results97 (fun w' hw => ?_)
  exact ⟨rfl, by rw [← hk3, own_pdq_small (by omega)]; exact HpOK.mutOwn hw (.head _) rfl⟩
 ·try simp only [bs] at h1
  refine Tr.skip (Tr.thenN (Tr.seq (Tr.seq (Tr.region ?_))))
  refine Tr.q (QS.move rfl) rfl ?_
  refine Tr.q (QS.eql rfl rfl) rfl ?_
  refine Tr.nil (Tr.thenN ?_)
  refine Tr.cond rfl (fun h2 => ?_) (fun h2 => ?_)
  ·try simp only [bs] at h2
   refine Tr.seq (Tr.region ?_)
   refine Tr.q (QS.move rfl) rfl ?_
   refine Tr.q (QS.move rfl) rfl ?_
   refine Tr.q (QS.move rfl) rfl ?_
   refine Tr.callMut rfl Try.call113 (by repeat constructor) (fun w hw => heap_u32 cur V a1 b1 _ _ rfl rfl w (hw.ent _ (.head _)) (by omega) (by omega) (by omega)) rfl ?_
   refine Tr.nil (Tr.thenN (Tr.ret (Tr.thenR ?_)))
   refine Tr.inR ?_
   refine Tr.thenR ?_
   refine Tr.inR ?_
   refine Tr.ret0 Try.results97 (fun w' hw => ?_)
   exact ⟨rfl, by rw [← hk3, own_pdq_heap (by omega) (by omega)]; exact HpOK.mutOwn hw (.head _) rfl⟩
  ·try simp only [bs] at h2
   refine Tr.skip (Tr.thenN ?_)
   refine Tr.seqJ (ι := Nat × Array UInt32) (fun ⟨l2, d1⟩ => (d1.size = d.size ∧ l2 ≤ 64) ∧ l2 = (if !wb then l1 - 1 else l1) ∧ d1 = (if !wb then breakPatterns cur a1 b1 else cur)) (fun _ => Bg.less w V) (fun ⟨l2, d1⟩ => [rowE V 39 encU32 d1.toList]) (fun ⟨l2, d1⟩ => [(3, .int .i64 (l2 : Nat))]) ?_ (fun i hi => ?_)
   ·skip
    refine Tr.seq (Tr.region ?_)
    refine Tr.q (QS.move rfl) rfl ?_
    refine Tr.q (QS.not rfl) rfl ?_
    refine Tr.nil (Tr.thenN ?_)
    refine Tr.cond rfl (fun h3 => ?_) (fun h3 => ?_)
    ·try simp only [bs] at h3
     refine Tr.seq (Tr.region ?_)
     refine Tr.q (QS.move rfl) rfl ?_
     refine Tr.q (QS.move rfl) rfl ?_
     refine Tr.q (QS.move rfl) rfl ?_
     refine Tr.callMut rfl Try.call114 (by repeat constructor) (fun w hw => break_u32 cur V a1 b1 _ _ rfl rfl w (hw.ent _ (.head _)) (by omega) (by omega) (by omega)) rfl ?_
     refine Tr.rowLen hr (.head _) (fun hq => ?_)
     have hz1 : (breakPatterns cur a1 b1).size = d.size := by rw [← Array.length_toList, ← Array.length_toList]; exact hq
     refine Tr.nil (Tr.thenN (Tr.region ?_))
     refine Tr.q (QS.move rfl) rfl ?_
     refine Tr.q (QS.subI rfl rfl (by omega)) rfl ?_
     refine Tr.q (QS.assign rfl) rfl ?_
     refine Tr.nil (Tr.thenN ?_)
     apply Tr.joined (l1 - 1, breakPatterns cur a1 b1)
     ·exact rfl
     ·exact (.cons (by first | rfl | exact lookI rfl (by omega) | exact lookB rfl (decide_eq_decide.2 (by omega)) | exact lookI rfl (by simp) | exact lookB rfl (by simp)) Front.nil)
     ·exact SubX.dropN 9 (by kernel_rfl) rfl
     ·exact (by repeat' constructor)
     ·exact ⟨⟨hz1, by omega⟩, by simp_all, by simp_all⟩
    ·try simp only [bs] at h3
     refine Tr.skip (Tr.thenN ?_)
     apply Tr.joined (l1, cur)
     ·exact rfl
     ·exact (.cons (by first | rfl | exact lookI rfl (by omega) | exact lookB rfl (decide_eq_decide.2 (by omega)) | exact lookI rfl (by simp) | exact lookB rfl (by simp)) Front.nil)
     ·exact SubX.dropN 2 (by kernel_rfl) rfl
     ·exact (by repeat' constructor)
     ·exact ⟨⟨hk2, by omega⟩, by simp_all, by simp_all⟩
   ·obtain ⟨l2, d1⟩ := i
    replace hi : (d1.size = d.size ∧ l2 ≤ 64) ∧ l2 = (if !wb then l1 - 1 else l1) ∧ d1 = (if !wb then breakPatterns cur a1 b1 else cur) := hi
    change Tr _ _ [rowE V 39 encU32 d1.toList] ([(3, .int .i64 (l2 : Nat))] ++ _) _
    obtain ⟨hd1, hl2, hd1e⟩ := hi
    refine Tr.seq (Tr.region ?_)
    refine Tr.q (QS.move rfl) rfl ?_
    refine Tr.q (QS.move rfl) rfl ?_
    refine Tr.q (QS.move rfl) rfl ?_
    refine Tr.callMut rfl Try.call115 (by repeat constructor) (fun w hw => choosePivot_u32 d1 V a1 b1 _ _ rfl rfl w (hw.ent _ (.head _)) (by omega) (by omega) (by omega)) rfl ?_
    obtain ⟨c, hc⟩ : ∃ c, c = choosePivot ltW d1 a1 b1 := ⟨_, rfl⟩
    rw [← hc]
    have hcr := choosePivot_holds ltW d1 a1 b1 (by omega)
    rw [← hc] at hcr
    refine Tr.q (QS.move rfl) rfl ?_
    refine Tr.q (QS.extract rfl rfl) rfl ?_
    refine Tr.q (QS.extract rfl rfl) rfl ?_
    refine Tr.q (QS.assign rfl) rfl ?_
    refine Tr.q (QS.assign rfl) rfl ?_
    refine Tr.nil (Tr.thenN ?_)
    refine Tr.seqJ (ι := Nat × Hint × Array UInt32) (fun ⟨pv, hint, d2⟩ => (a1 ≤ pv ∧ pv < b1 ∧ d2.size = d.size) ∧ d2 = (if c.2 = .decreasing then reverseRange d1 a1 b1 else d1) ∧ pv = (if c.2 = .decreasing then (b1 - 1) - (c.1 - a1) else c.1) ∧ hint = (if c.2 = .decreasing then Hint.increasing else c.2)) (fun _ => Bg.less w V) (fun ⟨pv, hint, d2⟩ => [rowE V 39 encU32 d2.toList]) (fun ⟨pv, hint, d2⟩ => [(11, .int .i64 (pv : Nat)), (12, .int .i64 (hintCode hint))]) ?_ (fun i hi => ?_)
    ·skip
     refine Tr.seq (Tr.region ?_)
     refine Tr.q (QS.move rfl) rfl ?_
     refine Tr.q (QS.eql rfl rfl) rfl ?_
     refine Tr.nil (Tr.thenN ?_)
     refine Tr.cond rfl (fun h4 => ?_) (fun h4 => ?_)
     ·try simp only [bs] at h4
      refine Tr.seq (Tr.region ?_)
      refine Tr.q (QS.move rfl) rfl ?_
      refine Tr.q (QS.move rfl) rfl ?_
      refine Tr.q (QS.move rfl) rfl ?_
      refine Tr.callMut rfl Try.call116 (by repeat constructor) (fun w hw => reverse_u32 d1 V a1 b1 _ _ rfl rfl w (hw.ent _ (.head _)) (by omega) (by omega) (by omega)) rfl ?_
      refine Tr.rowLen hr (.head _) (fun hq => ?_)
      have hz2 : (reverseRange d1 a1 b1).size = d.size := by rw [← Array.length_toList, ← Array.length_toList]; exact hq
      refine Tr.nil (Tr.thenN (Tr.seq (Tr.region ?_)))
      refine Tr.q (QS.move rfl) rfl ?_
      refine Tr.q (QS.subI rfl rfl (by omega)) rfl ?_
      refine Tr.q (QS.move rfl) rfl ?_
      refine Tr.q (QS.move rfl) rfl ?_
      refine Tr.q (QS.subI rfl rfl (by omega)) rfl ?_
      refine Tr.q (QS.subI rfl rfl (by omega)) rfl ?_
      refine Tr.q (QS.assign rfl) rfl ?_
      refine Tr.nil (Tr.thenN (Tr.region ?_))
      refine Tr.q (QS.assign rfl) rfl ?_
      refine Tr.nil (Tr.thenN ?_)
      have hx : c.2 = .decreasing := (hintCode_dec c.2).1 (by assumption)
      apply Tr.joined (b1 - 1 - (c.1 - a1), .increasing, reverseRange d1 a1 b1)
      ·exact rfl
      ·exact (.cons (by first | rfl | exact lookI rfl (by omega) | exact lookB rfl (decide_eq_decide.2 (by omega)) | exact lookI rfl (by simp) | exact lookB rfl (by simp)) (.cons (by first | rfl | exact lookI rfl (by omega) | exact lookB rfl (decide_eq_decide.2 (by omega)) | exact lookI rfl (by simp) | exact lookB rfl (by simp)) Front.nil))
      ·exact SubX.dropN 14 (by kernel_rfl) rfl
      ·exact (by repeat' constructor)
      ·exact ⟨⟨by omega, by omega, hz2⟩, by rw [if_pos hx], by rw [if_pos hx], by rw [if_pos hx]⟩
     ·try simp only [bs] at h4
      refine Tr.skip (Tr.thenN ?_)
      have hx : ¬ c.2 = .decreasing := fun e => absurd ((hintCode_dec c.2).2 e) (by assumption)
      apply Tr.joined (c.1, c.2, d1)
      ·exact rfl
      ·exact (.cons (by first | rfl | exact lookI rfl (by omega) | exact lookB rfl (decide_eq_decide.2 (by omega)) | exact lookI rfl (by simp) | exact lookB rfl (by simp)) (.cons (by first | rfl | exact lookI rfl (by omega) | exact lookB rfl (decide_eq_decide.2 (by omega)) | exact lookI rfl (by simp) | exact lookB rfl (by simp)) Front.nil))
      ·exact SubX.dropN 2 (by kernel_rfl) rfl
      ·exact (by repeat' constructor)
      ·exact ⟨⟨by omega, by omega, hd1.1⟩, by rw [if_neg hx], by rw [if_neg hx], by rw [if_neg hx]⟩
    ·obtain ⟨pv, hint, d2⟩ := i
     replace hi : (a1 ≤ pv ∧ pv < b1 ∧ d2.size = d.size) ∧ d2 = (if c.2 = .decreasing then reverseRange d1 a1 b1 else d1) ∧ pv = (if c.2 = .decreasing then (b1 - 1) - (c.1 - a1) else c.1) ∧ hint = (if c.2 = .decreasing then Hint.increasing else c.2) := hi
     change Tr _ _ [rowE V 39 encU32 d2.toList] ([(11, .int .i64 (pv : Nat)), (12, .int .i64 (hintCode hint))] ++ _) _
     obtain ⟨hpv, hd2, hpve, hhint⟩ := hi
     have hdl2 : d2.toList.length = d.size := by rw [Array.length_toList]; exact hpv.2.2
     refine Tr.seqJ (ι := Array UInt32) (fun d3 => d3.size = d.size ∧ (if wb && wp && hint = .increasing then partialInsertionSort ltW d2 a1 b1 else (d2, false)) = (d3, false)) (fun _ => Bg.less w V) (fun d3 => [rowE V 39 encU32 d3.toList]) (fun d3 => []) ?_ (fun d3 hi => ?_)
     ·skip
      refine Tr.seq (Tr.region ?_)
      refine Tr.q (QS.move rfl) rfl ?_
      refine Tr.q (QS.move rfl) rfl ?_
      apply Tr.andP
      ·exact (rfl : _ = (2, 62, 64))
      ·exact rfl
      ·intro hT5; have hT5' := hT5
       try simp only [bs] at hT5'
       refine Tr.gq rfl rfl hT5 (QS.move rfl) rfl ?_
       refine Tr.q (QS.pickT rfl hT5 rfl) rfl ?_
       refine Tr.nil (Tr.thenN ?_)
       exact Tr.endX (Sub.cons rfl (Sub.dropN 2 (by kernel_rfl) rfl))
      ·intro hF5
       refine Tr.gskip rfl rfl hF5 rfl ?_
       refine Tr.q (QS.pickF rfl hF5 rfl) rfl ?_
       refine Tr.nil (Tr.thenN ?_)
       exact Tr.endX (Sub.cons rfl (Sub.dropN 2 (by kernel_rfl) rfl))
      refine Tr.q (QS.move rfl) rfl ?_
      apply Tr.andP
      ·exact (rfl : _ = (3, 65, 68))
      ·exact rfl
      ·intro hT6; have hT6' := hT6
       try simp only [bs] at hT6'
       refine Tr.gq rfl rfl hT6 (QS.move rfl) rfl ?_
       refine Tr.gq rfl rfl hT6 (QS.eql rfl rfl) rfl ?_
       refine Tr.q (QS.pickT rfl hT6 rfl) rfl ?_
       refine Tr.nil (Tr.thenN ?_)
       exact Tr.endX (Sub.cons rfl (Sub.dropN 3 (by kernel_rfl) rfl))
      ·intro hF6
       refine Tr.gskip rfl rfl hF6 rfl ?_
       refine Tr.gskip rfl rfl hF6 rfl ?_
       refine Tr.q (QS.pickF rfl hF6 rfl) rfl ?_
       refine Tr.nil (Tr.thenN ?_)
       exact Tr.endX (Sub.cons rfl (Sub.dropN 3 (by kernel_rfl) rfl))
      refine Tr.nil (Tr.thenN ?_)
      refine Tr.cond rfl (fun h7 => ?_) (fun h7 => ?_)
      ·try simp only [bs] at h7
       refine Tr.seq (Tr.region ?_)
       refine Tr.q (QS.move rfl) rfl ?_
       refine Tr.q (QS.move rfl) rfl ?_
       refine Tr.q (QS.move rfl) rfl ?_
       refine Tr.callMut rfl Try.call117 (by repeat constructor) (fun w hw => partialIns_u32 d2 V a1 b1 _ _ rfl rfl w (hw.ent _ (.head _)) (by omega) (by omega) (by omega)) rfl ?_
       obtain ⟨p, hp⟩ : ∃ p, p = partialInsertionSort ltW d2 a1 b1 := ⟨_, rfl⟩
       rw [← hp]
       refine Tr.rowLen hr (.head _) (fun hq => ?_)
       have hz3 : p.1.size = d.size := by rw [← Array.length_toList, ← Array.length_toList]; exact hq
       refine Tr.nil (Tr.thenN ?_)
       refine Tr.cond rfl (fun h8 => ?_) (fun h8 => ?_)
       ·try simp only [bs] at h8
        refine Tr.ret (Tr.thenR ?_)
        refine Tr.inR ?_
        refine Tr.thenR ?_
        refine Tr.inR ?_
        refine Tr.ret0 Try.results97 (fun w' hw => ?_)
        have hfin : pdq ltW cur a1 b1 l1 wb wp = p.1 := own_pdq_done (by omega) (by omega) hd1e hc hd2 hhint (by rw [if_pos (pi_yes h7), ← hp]; exact Prod.ext rfl (by assumption))
        exact ⟨rfl, by rw [← hk3, hfin]; exact HpOK.mutOwn hw (.head _) rfl⟩
       ·try simp only [bs] at h8
        refine Tr.skip (Tr.thenN ?_)
        apply Tr.joined p.1
        ·exact rfl
        ·exact Front.nil
        ·exact SubX.dropN 9 (by kernel_rfl) rfl
        ·exact (by repeat' constructor)
        ·exact ⟨hz3, by rw [if_pos (pi_yes h7)]; exact Prod.ext rfl (by assumption)⟩
      ·try simp only [bs] at h7
       refine Tr.skip (Tr.thenN ?_)
       apply Tr.joined d2
       ·exact rfl
       ·exact Front.nil
       ·exact SubX.dropN 5 (by kernel_rfl) rfl
       ·exact (by repeat' constructor)
       ·exact ⟨hpv.2.2, by rw [if_neg (pi_no h7)]⟩
     ·skip
      replace hi : d3.size = d.size ∧ (if wb && wp && hint = .increasing then partialInsertionSort ltW d2 a1 b1 else (d2, false)) = (d3, false) := hi
      change Tr _ _ [rowE V 39 encU32 d3.toList] ([] ++ _) _
      obtain ⟨hd3, hd3e⟩ := hi
      have hdl3 : d3.toList.length = d.size := by rw [Array.length_toList]; exact hd3
      have hR : Rnd cur a1 b1 l1 wb wp l2 pv d3 := ⟨d1, d2, c, hint, hd1e, hl2, hc, hd2, hpve, hhint, hd3e⟩
      have ea1 : ((a1 : Int) - 1).toNat = a1 - 1 ∨ a1 = 0 := by omega
      refine Tr.seq (Tr.seq ?_)
      refine Tr.regionQ HLF.mixed (by kernel_rfl) ?_
      refine TrQ.q (QS.move rfl) rfl ?_
      refine TrQ.q (QS.gtr rfl rfl) rfl ?_
      refine TrQ.q (QS.move rfl) rfl ?_
      apply TrQ.andP
      ·exact (rfl : _ = (12, 75, 87))
      ·exact rfl
      ·intro hT9; have hT9' := hT9
       try simp only [bs] at hT9'
       refine TrQ.gq rfl rfl hT9 (QS.move rfl) rfl ?_
       refine TrQ.gq rfl rfl hT9 (QS.move rfl) rfl ?_
       refine TrQ.gq rfl rfl hT9 (QS.subI rfl rfl (by omega)) rfl ?_
       refine TrQ.gq rfl rfl hT9 (QS.idxRow rfl rfl (by repeat constructor) Try.underlying23 Try.sizeOf39 (by rfl) (by omega)) rfl ?_
       refine TrQ.gq rfl rfl hT9 (QS.elR1 rfl (by repeat constructor) Try.isAgg39 (by omega) (by rfl)) rfl ?_
       refine TrQ.gq rfl rfl hT9 (QS.move rfl) rfl ?_
       refine TrQ.gq rfl rfl hT9 (QS.move rfl) rfl ?_
       refine TrQ.gq rfl rfl hT9 (QS.idxRowN rfl rfl (by repeat constructor) Try.underlying23 Try.sizeOf39 (by rfl) (by omega)) rfl ?_
       refine TrQ.gq rfl rfl hT9 (QS.elR1 rfl (by repeat constructor) Try.isAgg39 (by omega) (by rfl)) rfl ?_
       refine TrQ.gq rfl rfl hT9 (QS.call rfl Try.call118 (fun w hw => less_any (d3.toList.getD (((a1 : Int) - 1).toNat) default) (d3.toList.getD (pv) default) w)) rfl ?_
       refine TrQ.gq rfl rfl hT9 (QS.not rfl) rfl ?_
       refine TrQ.q (QS.pickT rfl hT9 rfl) rfl ?_
       exact TrQ.end (Sub.cons rfl (Sub.dropN 12 (by kernel_rfl) rfl))
      ·intro hF9
       refine TrQ.gskip rfl rfl hF9 rfl ?_
       refine TrQ.gskip rfl rfl hF9 rfl ?_
       refine TrQ.gskip rfl rfl hF9 rfl ?_
       refine TrQ.gskip rfl rfl hF9 rfl ?_
       refine TrQ.gskip rfl rfl hF9 rfl ?_
       refine TrQ.gskip rfl rfl hF9 rfl ?_
       refine TrQ.gskip rfl rfl hF9 rfl ?_
       refine TrQ.gskip rfl rfl hF9 rfl ?_
       refine TrQ.gskip rfl rfl hF9 rfl ?_
       refine TrQ.gskip rfl rfl hF9 rfl ?_
       refine TrQ.gskip rfl rfl hF9 rfl ?_
       refine TrQ.q (QS.pickF rfl hF9 rfl) rfl ?_
       exact TrQ.end (Sub.cons rfl (Sub.dropN 12 (by kernel_rfl) rfl))
      refine TrQ.nil ?_
      refine Tr.thenN ?_
      refine Tr.cond rfl (fun h10 => ?_) (fun h10 => ?_)
      ·try simp only [bs] at h10
       refine Tr.seq (Tr.region ?_)
       refine Tr.q (QS.move rfl) rfl ?_
       refine Tr.q (QS.move rfl) rfl ?_
       refine Tr.q (QS.move rfl) rfl ?_
       refine Tr.q (QS.move rfl) rfl ?_
       refine Tr.callMut rfl Try.call119 (by repeat constructor) (fun w hw => partitionEq_u32 d3 V a1 b1 pv _ _ _ rfl rfl rfl w (hw.ent _ (.head _)) (by omega) (by omega) (by omega) (by omega)) rfl ?_
       obtain ⟨p, hpe⟩ : ∃ p, p = partitionEqual ltW d3 a1 b1 pv := ⟨_, rfl⟩
       have hpr := partEq_rng (d := d3) (pv := pv) (show a1 + 1 < b1 by omega) (by omega)
       rw [← hpe] at hpr
       rw [← hpe]
       obtain ⟨mid, d4⟩ := p
       dsimp only at hpr ⊢
       refine Tr.rowLen hr (.head _) (fun hq => ?_)
       have hz4 : d4.size = d.size := by rw [← Array.length_toList, ← Array.length_toList]; exact hq
       refine Tr.q (QS.assign rfl) rfl ?_
       refine Tr.nil (Tr.thenN (Tr.seq (Tr.region ?_)))
       refine Tr.q (QS.move rfl) rfl ?_
       refine Tr.q (QS.assign rfl) rfl ?_
       refine Tr.nil (Tr.thenN ?_)
       refine Tr.exit ?_
       refine Tr.thenE (Tr.inHit (Tr.thenN ?_))
       apply Tr.again (mid, b1, l2, wb, wp, d4)
       ·exact rfl
       ·exact (.cons (by first | rfl | exact lookI rfl (by omega) | exact lookB rfl (decide_eq_decide.2 (by omega)) | exact lookI rfl (by simp) | exact lookB rfl (by simp)) (.cons (by first | rfl | exact lookI rfl (by omega) | exact lookB rfl (decide_eq_decide.2 (by omega)) | exact lookI rfl (by simp) | exact lookB rfl (by simp)) (.cons (by first | rfl | exact lookI rfl (by omega) | exact lookB rfl (decide_eq_decide.2 (by omega)) | exact lookI rfl (by simp) | exact lookB rfl (by simp)) (.cons (by first | rfl | exact lookI rfl (by omega) | exact lookB rfl (decide_eq_decide.2 (by omega)) | exact lookI rfl (by simp) | exact lookB rfl (by simp)) (.cons (by first | rfl | exact lookI rfl (by omega) | exact lookB rfl (decide_eq_decide.2 (by omega)) | exact lookI rfl (by simp) | exact lookB rfl (by simp)) Front.nil)))))
       ·exact SubX.dropN 37 (by kernel_rfl) rfl
       ·exact (by repeat' constructor)
       ·exact ⟨by show a ≤ mid ∧ mid ≤ b1 ∧ b1 ≤ b ∧ l2 ≤ 64; omega, hz4, by rw [← hk3]; exact (pdq_eqv (by omega) (by omega) hR (by omega) (by rw [← bang, ← bang, ← ea1.resolve_right (by omega)]; simp_all) hpe.symm (by omega)).symm⟩
       ·exact (by show b1 - mid < m; omega)
      ·try simp only [bs] at h10
       refine Tr.skip (Tr.thenN (Tr.seq ?_))
       have hcond : a1 = 0 ∨ ltW d3[a1 - 1]! d3[pv]! = true := by
        rcases Nat.eq_zero_or_pos a1 with q | q
        ·exact .inl q
        ·right
         rw [← bang, ← bang, ← ea1.resolve_right (by omega)]
         simp_all
       refine Tr.region ?_
       refine Tr.q (QS.move rfl) rfl ?_
       refine Tr.q (QS.move rfl) rfl ?_
       refine Tr.q (QS.move rfl) rfl ?_
       refine Tr.q (QS.move rfl) rfl ?_
       refine Tr.callMut rfl Try.call120 (by repeat constructor) (fun w hw => partition_u32 d3 V a1 b1 pv _ _ _ rfl rfl rfl w (hw.ent _ (.head _)) (by omega) (by omega) (by omega) (by omega)) rfl ?_
       obtain ⟨p, hpt⟩ : ∃ p, p = partition ltW d3 a1 b1 pv := ⟨_, rfl⟩
       have hpr := part_rng (d := d3) (a := a1) (b := b1) (pv := pv) (by omega) (by omega) (by omega)
       rw [← hpt] at hpr
       rw [← hpt]
       obtain ⟨mid, ap, d4⟩ := p
       dsimp only at hpr ⊢
       refine Tr.rowLen hr (.head _) (fun hq => ?_)
       have hz4 : d4.size = d.size := by rw [← Array.length_toList, ← Array.length_toList]; exact hq
       refine Tr.q (QS.move rfl) rfl ?_
       refine Tr.q (QS.extract rfl rfl) rfl ?_
       refine Tr.q (QS.extract rfl rfl) rfl ?_
       refine Tr.q (QS.assign rfl) rfl ?_
       refine Tr.q (QS.assign rfl) rfl ?_
       refine Tr.nil (Tr.thenN (Tr.seq (Tr.region ?_)))
       refine Tr.q (QS.move rfl) rfl ?_
       refine Tr.q (QS.assign rfl) rfl ?_
       refine Tr.nil (Tr.thenN (Tr.seq (Tr.region ?_)))
       refine Tr.q (QS.move rfl) rfl ?_
       refine Tr.q (QS.move rfl) rfl ?_
       refine Tr.q (QS.subI rfl rfl (by omega)) rfl ?_
       refine Tr.q (QS.move rfl) rfl ?_
       refine Tr.q (QS.move rfl) rfl ?_
       refine Tr.q (QS.subI rfl rfl (by omega)) rfl ?_
       refine Tr.q (QS.assign rfl) rfl ?_
       refine Tr.q (QS.assign rfl) rfl ?_
       refine Tr.nil (Tr.thenN (Tr.seq (Tr.region ?_)))
       refine Tr.q (QS.move rfl) rfl ?_
       refine Tr.q (QS.quoI rfl rfl (by omega)) rfl ?_
       refine Tr.q (QS.assign rfl) rfl ?_
       refine Tr.nil (Tr.thenN (Tr.seq (Tr.region ?_)))
       refine Tr.q (QS.move rfl) rfl ?_
       refine Tr.q (QS.move rfl) rfl ?_
       refine Tr.q (QS.lss rfl rfl) rfl ?_
       refine Tr.nil (Tr.thenN ?_)
       refine Tr.cond rfl (fun h11 => ?_) (fun h11 => ?_)
       ·try simp only [bs] at h11
        refine Tr.seq (Tr.region ?_)
        refine Tr.q (QS.move rfl) rfl ?_
        refine Tr.q (QS.move rfl) rfl ?_
        refine Tr.q (QS.geq rfl rfl) rfl ?_
        refine Tr.q (QS.assign rfl) rfl ?_
        refine Tr.nil (Tr.thenN (Tr.seq (Tr.region ?_)))
        refine Tr.q (QS.move rfl) rfl ?_
        refine Tr.q (QS.move rfl) rfl ?_
        refine Tr.q (QS.move rfl) rfl ?_
        refine Tr.q (QS.move rfl) rfl ?_
        refine Tr.callMut rfl Try.call97 (by repeat constructor) (fun w hw => ih d4 a1 mid l2 _ _ _ w rfl rfl rfl (hw.ent _ (.head _)) (by omega) (by omega) (by omega) (by omega) (by omega)) rfl ?_
        refine Tr.rowLen hr (.head _) (fun hq => ?_)
        have hz5 : (pdq ltW d4 a1 mid l2 true true).size = d.size := by rw [← Array.length_toList, ← Array.length_toList]; exact hq
        refine Tr.nil (Tr.thenN (Tr.region ?_))
        refine Tr.q (QS.move rfl) rfl ?_
        refine Tr.q (QS.addI rfl rfl (by omega)) rfl ?_
        refine Tr.q (QS.assign rfl) rfl ?_
        refine Tr.nil (Tr.inN (Tr.thenN ?_))
        apply Tr.again (mid + 1, b1, l2, decide (mid - a1 ≥ (b1 - a1) / 8), ap, pdq ltW d4 a1 mid l2 true true)
        ·exact rfl
        ·exact (.cons (by first | rfl | exact lookI rfl (by omega) | exact lookB rfl (decide_eq_decide.2 (by omega)) | exact lookI rfl (by simp) | exact lookB rfl (by simp)) (.cons (by first | rfl | exact lookI rfl (by omega) | exact lookB rfl (decide_eq_decide.2 (by omega)) | exact lookI rfl (by simp) | exact lookB rfl (by simp)) (.cons (by first | rfl | exact lookI rfl (by omega) | exact lookB rfl (decide_eq_decide.2 (by omega)) | exact lookI rfl (by simp) | exact lookB rfl (by simp)) (.cons (by first | rfl | exact lookI rfl (by omega) | exact lookB rfl (decide_eq_decide.2 (by omega)) | exact lookI rfl (by simp) | exact lookB rfl (by simp)) (.cons (by first | rfl | exact lookI rfl (by omega) | exact lookB rfl (decide_eq_decide.2 (by omega)) | exact lookI rfl (by simp) | exact lookB rfl (by simp)) Front.nil)))))
        ·exact SubX.dropN 67 (by kernel_rfl) rfl
        ·exact (by repeat' constructor)
        ·exact ⟨by show a ≤ mid + 1 ∧ mid + 1 ≤ b1 ∧ b1 ≤ b ∧ l2 ≤ 64; omega, hz5, by rw [← hk3]; exact (own_pdq_left (by omega) (by omega) hR hcond hpt.symm (by omega) (by omega)).symm⟩
        ·exact (by show b1 - (mid + 1) < m; omega)
       ·try simp only [bs] at h11
        refine Tr.seq (Tr.region ?_)
        refine Tr.q (QS.move rfl) rfl ?_
        refine Tr.q (QS.move rfl) rfl ?_
        refine Tr.q (QS.geq rfl rfl) rfl ?_
        refine Tr.q (QS.assign rfl) rfl ?_
        refine Tr.nil (Tr.thenN (Tr.seq (Tr.region ?_)))
        refine Tr.q (QS.move rfl) rfl ?_
        refine Tr.q (QS.move rfl) rfl ?_
        refine Tr.q (QS.addI rfl rfl (by omega)) rfl ?_
        refine Tr.q (QS.move rfl) rfl ?_
        refine Tr.q (QS.move rfl) rfl ?_
        refine Tr.callMut rfl Try.call97 (by repeat constructor) (fun w hw => ih d4 (mid + 1) b1 l2 _ _ _ w (by omega) rfl rfl (hw.ent _ (.head _)) (by omega) (by omega) (by omega) (by omega) (by omega)) rfl ?_
        refine Tr.rowLen hr (.head _) (fun hq => ?_)
        have hz5 : (pdq ltW d4 (mid + 1) b1 l2 true true).size = d.size := by rw [← Array.length_toList, ← Array.length_toList]; exact hq
        refine Tr.nil (Tr.thenN (Tr.region ?_))
        refine Tr.q (QS.move rfl) rfl ?_
        refine Tr.q (QS.assign rfl) rfl ?_
        refine Tr.nil (Tr.inN (Tr.thenN ?_))
        apply Tr.again (a1, mid, l2, decide (b1 - mid ≥ (b1 - a1) / 8), ap, pdq ltW d4 (mid + 1) b1 l2 true true)
        ·exact rfl
        ·exact (.cons (by first | rfl | exact lookI rfl (by omega) | exact lookB rfl (decide_eq_decide.2 (by omega)) | exact lookI rfl (by simp) | exact lookB rfl (by simp)) (.cons (by first | rfl | exact lookI rfl (by omega) | exact lookB rfl (decide_eq_decide.2 (by omega)) | exact lookI rfl (by simp) | exact lookB rfl (by simp)) (.cons (by first | rfl | exact lookI rfl (by omega) | exact lookB rfl (decide_eq_decide.2 (by omega)) | exact lookI rfl (by simp) | exact lookB rfl (by simp)) (.cons (by first | rfl | exact lookI rfl (by omega) | exact lookB rfl (decide_eq_decide.2 (by omega)) | exact lookI rfl (by simp) | exact lookB rfl (by simp)) (.cons (by first | rfl | exact lookI rfl (by omega) | exact lookB rfl (decide_eq_decide.2 (by omega)) | exact lookI rfl (by simp) | exact lookB rfl (by simp)) Front.nil)))))
        ·exact SubX.dropN 67 (by kernel_rfl) rfl
        ·exact (by repeat' constructor)
        ·exact ⟨by show a ≤ a1 ∧ a1 ≤ mid ∧ mid ≤ b ∧ l2 ≤ 64; omega, hz5, by rw [← hk3]; exact (own_pdq_right (by omega) (by omega) hR hcond hpt.symm (by omega) (by omega)).symm⟩
        ·exact (by show mid - a1 < m; omega)
theorem pdq_u32 (V : Value) : ∀ (n : Nat) (d : Array UInt32) (a b limit : Nat) (ai bi li : Int) (w : World), ai = ((a : Nat) : Int) → bi = ((b : Nat) : Int) → li = ((limit : Nat) : Int) → (rowE V 39 encU32 d.toList).holds w → d.size ≤ 1000000 → a ≤ b → b ≤ d.size → limit ≤ 64 → b - a < n → Calls Try.prog 97 #[V, .int .i64 ai, .int .i64 bi, .int .i64 li] w (fun e w' => e = .returned (.tuple #[]) ∧ Mut w w' V ∧ (rowE V 39 encU32 (pdq ltW d a b limit true true).toList).holds w')
 | 0, _, _, _, _, _, _, _, _, _, _, _, _, _, _, _, _, h => absurd h (Nat.not_lt_zero _)
 | n + 1, d, a, b, limit, ai, bi, li, w, e1, e2, e3, hr, hd, hab, hb, hl, h => pdq_step V n (pdq_u32 V n) d a b limit ai bi li e1 e2 e3 w hr hd hab hb hl (Nat.le_of_lt_succ h)
set_option maxRecDepth 100000 in
set_option maxHeartbeats 2000000 in
theorem sortU_any (d : Array UInt32) (V : Value) (w : World) (hr : (rowE V 39 encU32 d.toList).holds w) (hd : d.size ≤ 1000000) :
  Calls Try.prog 79 #[V] w (fun e w' => e = .returned (.tuple #[]) ∧ Mut w w' V ∧ (rowE V 39 encU32 (sort ltW d).toList).holds w') := by
 have hdl : d.toList.length = d.size := Array.length_toList
 have hb20 : bitsLen d.size ≤ 20 := (bitsLen_le_iff _ 20).2 (by omega)
 refine enterOwn (l := d.toList) (E := encU32) (T := 39) hr Try.func79 rfl Try.ntmps79 rfl ?_
 refine Tr.seq (Tr.region ?_)
 refine Tr.q (QS.move rfl) rfl ?_
 refine Tr.q (QS.lenRow rfl (by repeat constructor) Try.underlying23) rfl ?_
 refine Tr.q (QS.assign rfl) rfl ?_
 refine Tr.nil (Tr.thenN (Tr.region ?_))
 refine Tr.q (QS.move rfl) rfl ?_
 refine Tr.q (QS.move rfl) rfl ?_
 refine Tr.q (QS.move rfl) rfl ?_
 refine Tr.q (QS.cvtIn rfl Try.underlying3 Try.underlying96 (IntWalk.u64_in _ (by omega))) rfl ?_
 refine Tr.q (QS.call rfl Try.call98 (fun w hw => lenU d.size _ (by omega) (by omega) w)) rfl ?_
 refine Tr.callMut rfl Try.call97 (by repeat constructor) (fun w hw => pdq_u32 V _ d 0 d.size (bitsLen d.size) _ _ _ w rfl (by omega) rfl (hw.ent _ (.head _)) hd (by omega) (by omega) (by omega) (Nat.lt_succ_self _)) rfl ?_
 refine Tr.nil ?_
 refine Tr.ret0n Try.results79 (fun w' hw => ?_)
 exact ⟨rfl, HpOK.mutOwn hw (.head _) rfl⟩
end Go.Proofs.Ytnmaokalpbnmaaa
namespace Go.HL
open Go Go.RowKit
def Bg.of0 (w : World) : Bg := { Bg.of w with dr := 0 }
theorem HpOK.start0 (w : World) : HpOK (Bg.of0 w) [] w :=
  ⟨rfl, rfl, rfl, Nat.le_refl _, Nat.zero_le _, fun _ _ h => h, fun _ h => (by cases h), (by simp [blks]), fun _ h => (by simp [blks] at h), fun _ h => (by simp [blks] at h)⟩
theorem HpOK.below0 {w0 w : World} {F : Bg} {L : List Ent} (h : HpOK F L w) (hF : (Bg.of0 w0).le F) : Below w0.heap.size w0 w :=
  ⟨h.os.trans hF.os, h.tape.trans hF.tape, h.out.trans hF.out, Nat.le_trans hF.n h.n, fun k hk => by
    have e : (Bg.of0 w0).blk k = some w0.heap[k] := by simp [Bg.of0, Bg.of, hk]
    rw [h.bg k _ (hF.blk k _ e)]; simp [hk]⟩
def CellsOnly (L : List Ent) : Prop := ∀ e ∈ L, ∀ b, e.blk = some b → ∀ o, e.ok (some o) → o.isCells = true
theorem CellsOnly.nil : CellsOnly [] := fun _ h => by cases h
theorem CellsOnly.cell {b : Nat} {cs : List Value} {T : TypeId} {L : List Ent} (h : CellsOnly L) : CellsOnly (cellE b cs T :: L) := fun e he => by
  rcases List.mem_cons.1 he with rfl | he
  · intro _ _ o ho; cases ho; rfl
  · exact h e he
theorem CellsOnly.row {α : Type} {V : Value} {T : TypeId} {E : Enc α} {l : List α} {L : List Ent} (h : CellsOnly L) : CellsOnly (rowE V T E l :: L) := fun e he => by
  rcases List.mem_cons.1 he with rfl | he
  · intro b hb o ho
    rcases ho with ⟨rfl, _⟩ | ⟨g, cap, cur, _, ho, _⟩
    · cases hb
    · cases ho; rfl
  · exact h e he
theorem ent_obj {F : Bg} {L : List Ent} {w : World} (h : HpOK F L w) (hc : CellsOnly L) {b : Nat} (hb : b ∈ blks L) : ∃ o, w.heap[b]? = some o ∧ o.isCells = true := by
  obtain ⟨e, he, hk⟩ := List.mem_filterMap.1 hb
  have hlt := h.lt b hb
  have hh := h.ent e he
  unfold Ent.holds at hh
  rw [hk, Option.bind_some, Array.getElem?_eq_getElem hlt] at hh
  exact ⟨_, Array.getElem?_eq_getElem hlt, hc e he b hk _ hh⟩
/-- What lies there stays, but for a block that is no cells. -/
theorem HpOK.turned {F : Bg} {L : List Ent} {w w' : World} {row : Option Nat} {B : Nat} (h : HpOK F L w) (hc : CellsOnly L) (h0 : F.dr = 0) (hB : ∀ b o, F.blk b = some o → b < B) (hg : w.grownBy w' row)
    (hr : ∀ r, row = some r → B ≤ r ∧ ∃ o : Obj, w.heap[r]? = some o ∧ o.isCells = false) : HpOK F L w' := by
  refine ⟨hg.os.trans h.os, hg.tape.trans h.tape, hg.output.trans h.out, Nat.le_trans h.n hg.size, by rw [h0]; exact Nat.zero_le _, fun b o e => ?_, fun e he => ?_, h.nodup, fun b hm => Nat.lt_of_lt_of_le (h.lt b hm) hg.size, h.sep⟩
  · have := h.bg b o e
    rw [hg.block b (Array.getElem?_eq_some_iff.1 this).1 (fun e2 => by have := (hr b e2.symm).1; have := hB b o e; omega)]; exact this
  · have hh := h.ent e he
    unfold Ent.holds at *
    cases hk : e.blk with
    | none => rw [hk] at hh; exact hh
    | some b =>
      rw [hk] at hh
      simp only [Option.bind_some] at *
      have hb : b ∈ blks L := List.mem_filterMap.2 ⟨e, he, hk⟩
      obtain ⟨o, ho, hoc⟩ := ent_obj h hc hb
      rw [hg.block b (h.lt b hb) (fun e2 => by
        obtain ⟨_, o2, ho2, hn⟩ := hr b e2.symm
        rw [ho] at ho2; cases ho2; rw [hoc] at hn; cases hn)]
      exact hh
theorem HpOK.weaken {F G : Bg} {L : List Ent} {w : World} (h : HpOK G L w) (hF : F.le G) : HpOK F L w :=
  ⟨h.os.trans hF.os, h.tape.trans hF.tape, h.out.trans hF.out, Nat.le_trans hF.n h.n, by rw [← hF.dr]; exact h.dr, fun b o e => h.bg b o (hF.blk b o e), h.ent, h.nodup, h.lt, fun b hb => by
    refine ⟨?_, by rw [← hF.lo]; exact (h.sep b hb).2⟩
    cases e : F.blk b with
    | none => rfl
    | some o =>
      have h2 := hF.blk b o e
      rw [(h.sep b hb).1] at h2
      cases h2⟩
/-- What is not one's own becomes background, and the heap's size is known. -/
theorem HpOK.freezeN {F : Bg} {L : List Ent} {w : World} (h : HpOK F L w) : ∃ F', F.le F' ∧ HpOK F' L w ∧ F'.n = w.heap.size ∧ ∀ b o, b ∉ blks L → w.heap[b]? = some o → F'.blk b = some o := by
  refine ⟨{ F with blk := fun b => if b ∈ blks L then none else w.heap[b]?, n := w.heap.size, lo_le := Nat.le_trans F.lo_le h.n }, ⟨fun b o e => ?_, h.n, rfl, rfl, rfl, rfl, rfl⟩, ⟨h.os, h.tape, h.out, Nat.le_refl _, h.dr, fun b o e => ?_, h.ent, h.nodup, h.lt, fun b hb => ⟨?_, (h.sep b hb).2⟩⟩, rfl, fun b o hb e => ?_⟩
  · have hn : b ∉ blks L := fun hb => by rw [(h.sep b hb).1] at e; cases e
    show (if b ∈ blks L then none else w.heap[b]?) = some o
    rw [if_neg hn]; exact h.bg b o e
  · have e' : (if b ∈ blks L then none else w.heap[b]?) = some o := e
    split at e'
    · cases e'
    · exact e'
  · show (if b ∈ blks L then none else w.heap[b]?) = none
    rw [if_pos hb]
  · show (if b ∈ blks L then none else w.heap[b]?) = some o
    rw [if_neg hb]; exact e
def ownW (bs : List Nat) (W : World) (k : Nat) : Prop := k ∈ bs ∨ ∃ b ∈ bs, ∃ V, W.cell? ⟨b, 0, none⟩ = some V ∧ V.ownBlock = some k
structure KpW (bs : List Nat) (W W' : World) : Prop where
  size : W.heap.size ≤ W'.heap.size
  same : ∀ (k : Nat) (o : Obj), W.heap[k]? = some o → o.isCells = true → ¬ ownW bs W k → W'.heap[k]? = some o
  own : ∀ k, ownW bs W' k → ownW bs W k ∨ W.heap.size ≤ k
theorem KpW.trans {bs : List Nat} {A B C : World} (h : KpW bs A B) (k : KpW bs B C) : KpW bs A C :=
  ⟨Nat.le_trans h.size k.size, fun i o hi ho hn => k.same i o (h.same i o hi ho hn) ho fun hb => by
      rcases h.own i hb with h1 | h1
      · exact hn h1
      · have := (Array.getElem?_eq_some_iff.1 hi).1; omega,
    fun i hi => by
      rcases k.own i hi with h1 | h1
      · exact h.own i h1
      · exact .inr (Nat.le_trans h.size h1)⟩
section
variable {P : Program} {ops : Array Oper} {Q : Exit → Act → World → Prop} {N : Nat} {F : Bg} {L : List Ent} {M : Fr} {l0 n : Nat}
def noDefer (l : List Oper) : Bool := l.all fun o => match o.op with | .defer _ => false | _ => true
theorem Oper.wp_in {o : Oper} {a : Act} {w : World} {K K' : Act → World → Prop} (hd : ∀ c, o.op ≠ .defer c) (hK : ∀ a w, K a w → K' a w) (h : o.wp P a w K Q) : o.wpIn (Fence.wide.inRound l0) n P a w K' Q := by
  have h := Oper.wp_mono hK h
  refine ⟨fun _ _ => trivial, ?_⟩
  rw [Oper.semAt_eq _ _ _ hd]
  unfold Oper.wp at h
  cases hr : (execOp a.eval o).run P w with
  | ok nx w' =>
    rw [hr] at h
    cases nx with
    | value v => exact h
    | skip => exact h
    | defer d => exact h
    | enter f args =>
      refine ⟨fun h => ?_, CallsIn.inRound l0 (callsIn_wide.2 h)⟩
      cases h
    | row r args =>
      refine ⟨fun h => ?_, fun c cs _ => ?_⟩
      · cases h
      · obtain ⟨v, w', r, s⟩ := h c cs
        exact ⟨v, w', r, (stepsIn_wide.2 s : StepsIn (Machine.fenced P Fence.wide) P _ _)⟩
    | _ => exact h.elim
  | halt e w' =>
    rw [hr] at h
    cases e <;> first | exact h | exact h.elim
theorem wpListIn_of (hno : ¬ LetsOut Q) : ∀ (l : List Oper) (a : Act) (w : World), noDefer l = true → wpList P ops Q l a w → wpListIn (Fence.wide.inRound l0) n P ops Q l a w
  | [], _, _, _, h => h
  | o :: rest, a, w, hd, h => by
    have hd1 : (∀ c, o.op ≠ .defer c) ∧ noDefer rest = true := by
      simp only [noDefer, List.all_cons, Bool.and_eq_true] at hd ⊢
      refine ⟨fun c e => ?_, hd.2⟩
      rw [e] at hd; simp at hd
    unfold wpList at h
    unfold wpListIn
    split
    · rename_i hw
      rw [if_pos hw] at h
      rcases h with h | h
      · exact Oper.wp_in hd1.1 (fun a w k => wpListIn_of hno rest a w hd1.2 k) h
      · exact absurd h.2 hno
    · rename_i hw
      rw [if_neg hw] at h
      exact ⟨fun _ _ => trivial, wpListIn_of hno rest _ w hd1.2 h⟩
theorem noIn {id : Nat} (h : ¬ LetsOut Q) : ¬ LetsOut (Exit.inBlock id Q) := h
theorem noNormal {K : Act → World → Prop} : ¬ LetsOut (fun e a w => e = Exit.normal ∧ K a w) := fun ⟨_, _, h, _⟩ => by cases h
theorem Tr.regionI {id : Nat} {l : List Oper} (hno : ¬ LetsOut Q) (hd : noDefer l = true) (h : Tr N F L M (wpList P l.toArray Q l)) : Tr N F L M ((Code.region id l.toArray false).wpIn (Fence.wide.inRound l0) n P Q) :=
  fun a w ha hw => wpIn_region_lit (wpListIn_of hno l a w hd (h a w ha hw))
theorem Tr.blockIn {id : Nat} {c : Code} (h : Tr N F L M (c.wpIn (Fence.wide.inRound l0) n P (Exit.inBlock id Q))) : Tr N F L M ((Code.block id c).wpIn (Fence.wide.inRound l0) n P Q) := fun a w ha hw => wpIn_block (h a w ha hw)
end
def dropMk (M : Fr) : Fr := M.filter fun e => Nat.blt e.1 mk0
theorem look_dropMk : ∀ (M : Fr) (t : Nat), look (dropMk M) t = if t < mk0 then look M t else none
  | [], t => by simp [dropMk, look]
  | (d, v) :: M, t => by
    have ih := look_dropMk M t
    unfold dropMk at *
    rw [List.filter_cons]
    by_cases h : d < mk0
    · rw [if_pos (by simp only [Nat.blt, Nat.ble_eq]; omega), look_cons, look_cons, ih]
      by_cases e : d = t
      · subst e; simp [h]
      · simp [e]
    · rw [if_neg (by simp only [Nat.blt, Nat.ble_eq]; omega), ih, look_cons]
      by_cases e : d = t
      · subst e; simp [h]
      · simp [e]
def markE (D : Nat) : Ent := ⟨some D, fun o => o = some (.deferred (some []))⟩
theorem FrOK.marked {N D : Nat} {M : Fr} {a : Act} (h : FrOK N M a) (h0 : a.defers = []) : FrOK N ((mk0 + 1 + D, undef) :: dropMk M) { a with defers := { target := .collected D, args := #[] } :: a.defers } := by
  refine ⟨fun e => ?_, fun D' e => ?_, h.size, h.lt, fun t v e => ?_⟩
  · rw [look_cons, if_neg (by omega), look_dropMk, if_neg (by omega)] at e; cases e
  · rw [look_cons, look_dropMk, if_neg (c := mk0 + 1 + D' < mk0) (by omega)] at e
    split at e
    · obtain rfl : D = D' := by omega
      show _ :: a.defers = _
      rw [h0]
    · cases e
  · rw [look_cons, look_dropMk] at e
    split at e
    · rename_i e2
      cases e
      rw [← e2, Array.getD_eq_getD_getElem?, Array.getElem?_eq_none (by have h1 : a.tmps.size = N := h.size; have := h.lt; show a.tmps.size ≤ _; omega)]; rfl
    · split at e
      · exact h.val t v e
      · cases e
theorem look_append : ∀ (A B : Fr) (t : Nat), look (A ++ B) t = match look A t with | some v => some v | none => look B t
  | [], B, t => by simp [look]
  | (d, v) :: A, B, t => by
    rw [List.cons_append, look_cons, look_cons]
    split
    · rfl
    · exact look_append A B t
theorem look_mark {M : Fr} {D : Nat} : look (dropMk M ++ [(mk0 + 1 + D, undef)]) (mk0 + 1 + D) = some undef := by
  rw [look_append, look_dropMk, if_neg (by omega)]
  show look [(mk0 + 1 + D, undef)] (mk0 + 1 + D) = _
  rw [look_cons, if_pos rfl]
theorem FrOK.marked' {N D : Nat} {M : Fr} {a : Act} (h : FrOK N M a) (h0 : a.defers = []) : FrOK N (dropMk M ++ [(mk0 + 1 + D, undef)]) { a with defers := { target := .collected D, args := #[] } :: a.defers } :=
  (h.marked h0).sub fun t v e => by
    rw [look_append, look_dropMk] at e
    rw [look_cons, look_dropMk]
    by_cases ht : t < mk0
    · rw [if_pos ht] at e ⊢
      rw [if_neg (by omega)]
      cases hl : look M t with
      | some u => rw [hl] at e; exact e
      | none =>
        rw [hl] at e
        have e' : look [(mk0 + 1 + D, undef)] t = some v := e
        rw [look_cons, if_neg (by omega)] at e'
        cases e'
    · rw [if_neg ht] at e
      have e' : look [(mk0 + 1 + D, undef)] t = some v := e
      rw [look_cons] at e'
      split at e'
      · rename_i q
        rw [if_pos q]; exact e'
      · cases e'
section
variable {P : Program} {Q : Exit → Act → World → Prop} {N : Nat} {F : Bg} {L : List Ent} {M : Fr}
end
section
variable {P : Program} {N : Nat} {F : Bg} {L : List Ent} {M : Fr}
end
section
variable {P : Program} {Q : Exit → Act → World → Prop} {N : Nat} {F : Bg} {L : List Ent} {M : Fr}
/-- Left by 'return' alone. -/
def retOnly (Q : Exit → Act → World → Prop) : Exit → Act → World → Prop := fun e a w => e = .ret ∧ Q .ret a w
theorem enterM {f : FuncId} {fn : Func} {c : Code} {args : List Value} {w : World} {R : Ending → World → Prop} (hf : P.funcs[f]? = some fn) (hb : fn.body = some c) (hN : fn.ntmps = N) (hle : Nat.ble args.length N = true)
    (h : Tr N (Bg.of0 w) [] (frameOf 0 args) (c.wp P (retOnly (bodyPostM Fence.wide 3 P fn R)))) (hN0 : Nat.ble N mk0 = true := by rfl) : Calls P f args.toArray w R :=
  (callsIn_wide (n := 3)).1 (callsIn_of_wp_marks hf hb trivial (wpIn_wide.2 (Code.wp_mono (fun e a w q => by obtain ⟨rfl, q⟩ := q; exact q) (h _ w (frameOf_ok (by rw [hN]; simp) hle hN0) (HpOK.start0 w)))))
theorem enter0 {f : FuncId} {fn : Func} {c : Code} {args : List Value} {w : World} {R : Ending → World → Prop} (hf : P.funcs[f]? = some fn) (hb : fn.body = some c) (hN : fn.ntmps = N) (hle : Nat.ble args.length N = true)
    (h : Tr N (Bg.of0 w) [] (frameOf 0 args) (c.wp P (bodyPost P fn R))) (hN0 : Nat.ble N mk0 = true := by rfl) : Calls P f args.toArray w R :=
  calls_of_wp hf hb (h _ w (frameOf_ok (by rw [hN]; simp) hle hN0) (HpOK.start0 w))
theorem HpOK.cellNew {F : Bg} {L : List Ent} {w w' : World} {b : Nat} {cs : List Value} {T : TypeId} (h : HpOK F L w') (hl : F.lo = w.heap.size) (hm : cellE b cs T ∈ L) : CellsIn (newHp w w') b cs := by
  have he : w'.heap[b]? = some (.cells cs.toArray T (0, 0)) := h.ent _ hm
  have hb := (h.sep b (List.mem_filterMap.2 ⟨_, hm, rfl⟩)).2
  refine ⟨cs.toArray, T, (0, 0), ?_, fun j v hv => by simpa using hv⟩
  show (if b < w.heap.size then none else w'.heap[b]?) = _
  rw [if_neg (by omega)]; exact he
theorem HpOK.grown {Ws w : World} (h : HpOK (Bg.of0 Ws) [] w) : Ws.grownBy w none :=
  have b := h.below0 (Bg.le.refl _)
  ⟨b.os, b.tape, b.output, b.size, fun k hk _ => b.block k hk⟩
theorem wpListIn_value {n : Nat} {ops : Array Oper} {o : Oper} {rest : List Oper} {a : Act} {w : World} {v : Value} (hg : o.guard = none) (hr : (execOp a.eval o).run P w = .ok (.value v) w) (h : wpListIn Fence.wide n P ops Q rest (a.put o.dst v) w) : wpListIn Fence.wide n P ops Q (o :: rest) a w :=
  wpListIn_plain hg fun K hK => by
    refine ⟨fun _ _ => trivial, ?_⟩
    show o.uponIn _ _ _ _ _ _ ((execOp a.eval o).run P w)
    rw [hr]; exact hK _ _ h
/-- 'if !yield(x)': the round comes back with yes, or no. -/
theorem Tr.yield {α : Type} (enc : α → Value) {J Jx : List α → World → Prop} {Kp : World → World → Prop} {l B : Nat} {Ws : World} {pre : List α} {x : α} {id f y d0 d1 d2 d3 : Nat} {t0 t1 t2 t3 : TypeId} {p0 p1 p2 p3 : String} {a0 a1 a2 a3 : Array Edge} {ts : Array TypeId}
    (hf : look M f = some (.func (.yield l) #[] #[])) (hy : look M y = some (enc x)) (hne : Nat.beq d0 y = false) (h01 : Nat.beq d1 d0 = false) (hJ : J pre Ws) (hA : AbidesFrom B J)
    (hY : ∀ W1, J pre W1 → YieldAt Fence.wide 1 P l #[enc x] W1 fun e W' => (e = .returned (.bool true) ∧ J (pre ++ [x]) W' ∧ Kp W1 W') ∨ (e = .returned (.bool false) ∧ Jx (pre ++ [x]) W'))
    (hd0 : Nat.ble (d0 + 1) N = true) (hd1 : Nat.ble (d1 + 1) N = true) (hd2 : Nat.ble (d2 + 1) N = true) (hd3 : Nat.ble (d3 + 1) N = true)
    (K1 : ∀ W1 W', HpOK (Bg.of0 Ws) [] W1 → Kp W1 W' → J (pre ++ [x]) W' → Tr N (Bg.of0 W') [] ((d3, .bool false) :: (d2, .bool true) :: (d1, enc x) :: (d0, .func (.yield l) #[] #[]) :: M) (Q .normal))
    (K2 : ∀ W', Jx (pre ++ [x]) W' → Tr N (Bg.of0 W') [] ((d3, .bool true) :: (d2, .bool false) :: (d1, enc x) :: (d0, .func (.yield l) #[] #[]) :: M) (Q .normal)) :
    Tr N (Bg.of0 Ws) [] M ((Code.region id #[⟨some d0, .move (.tmp f), t0, p0, a0, none⟩, ⟨some d1, .move (.tmp y), t1, p1, a1, none⟩, ⟨some d2, .call { callee := .value (.tmp d0), args := #[.tmp d1], argTypes := ts }, t2, p2, a2, none⟩, ⟨some d3, .unOp .not 4 (.tmp d2), t3, p3, a3, none⟩] false).wp P Q) := by
  intro a w ha hw
  have hj : J pre w := hA pre Ws w none hJ hw.grown (fun r e => by cases e)
  obtain ⟨fn, tmps, assign, body, hy1, hR⟩ := hY w hj
  have ne1 : d0 ≠ y := Nat.ne_of_beq_eq_false hne
  have ne2 : d1 ≠ d0 := Nat.ne_of_beq_eq_false h01
  have b0 := Nat.le_of_ble_eq_true hd0
  have b1 := Nat.le_of_ble_eq_true hd1
  have b2 := Nat.le_of_ble_eq_true hd2
  have b3 := Nat.le_of_ble_eq_true hd3
  have ha1 := ha.put (v := .func (.yield l) #[] #[]) b0
  have ha2 := ha1.put (v := enc x) b1
  refine (wpIn_wide (n := 2)).1 (wpIn_region_lit (l := [_, _, _, _]) ?_)
  refine wpListIn_value rfl (QS.run (QS.move (N := N) (F := Bg.of0 w) (L := []) (M := M) (x := .tmp f) (v := .func (.yield l) #[] #[]) (by show look _ f = _; exact hf)) rfl ha (HpOK.start0 w)) ?_
  refine wpListIn_value rfl (QS.run (QS.move (N := N) (F := Bg.of0 w) (L := []) (M := (d0, .func (.yield l) #[] #[]) :: M) (x := .tmp y) (v := enc x) (by show look _ y = _; rw [look_cons, if_neg ne1]; exact hy)) rfl ha1 (HpOK.start0 w)) ?_
  have hv0 : ((a.put (some d0) (.func (.yield l) #[] #[])).put (some d1) (enc x)).eval (.tmp d0) = .func (.yield l) #[] #[] := ha2.eval (x := .tmp d0) (by show look _ d0 = _; rw [look_cons, if_neg ne2, look_cons, if_pos rfl])
  have hv1 : ((a.put (some d0) (.func (.yield l) #[] #[])).put (some d1) (enc x)).eval (.tmp d1) = enc x := ha2.eval (x := .tmp d1) (by show look _ d1 = _; rw [look_cons, if_pos rfl])
  refine wpListIn_plain rfl fun K hK => ?_
  refine ⟨fun _ _ => trivial, ?_⟩
  have hcall : (execOp ((a.put (some d0) (.func (.yield l) #[] #[])).put (some d1) (enc x)).eval ⟨some d2, .call { callee := .value (.tmp d0), args := #[.tmp d1], argTypes := ts }, t2, p2, a2, none⟩).run P w = .ok (.round l fn tmps assign body) w := by
    simp [execOp, resolve, Deferred.ofValue, hv0, hv1, invoke, hy1]
  rw [show ∀ ρ o, Oper.semAt Fence.wide.round ρ o = execOp ρ o from fun _ _ => rfl, hcall]
  refine ⟨fun h => ?_, hR.mono ?_⟩
  · cases h
  · rintro e W' (⟨rfl, hJ', hk⟩ | ⟨rfl, hJx⟩)
    · have ha3 := ha2.put (v := .bool true) b2
      refine hK _ _ (wpListIn_value (v := .bool false) rfl ?_ ?_)
      · exact QS.run (QS.not (N := N) (F := Bg.of0 W') (L := []) (M := (d2, .bool true) :: (d1, enc x) :: (d0, .func (.yield l) #[] #[]) :: M) (x := .tmp d2) (b := true) (by show look _ d2 = _; rw [look_cons, if_pos rfl])) rfl ha3 (HpOK.start0 W')
      · exact K1 w W' hw hk hJ' _ W' (ha3.put b3) (HpOK.start0 W')
    · have ha3 := ha2.put (v := .bool false) b2
      refine hK _ _ (wpListIn_value (v := .bool true) rfl ?_ ?_)
      · exact QS.run (QS.not (N := N) (F := Bg.of0 W') (L := []) (M := (d2, .bool false) :: (d1, enc x) :: (d0, .func (.yield l) #[] #[]) :: M) (x := .tmp d2) (b := false) (by show look _ d2 = _; rw [look_cons, if_pos rfl])) rfl ha3 (HpOK.start0 W')
      · exact K2 W' hJx _ W' (ha3.put b3) (HpOK.start0 W')
end
section
open Classical
noncomputable def keptHp (bs : List Nat) (w W1 : World) : Hp := fun k => match W1.heap[k]? with
  | some o => if o.isCells = true ∧ ¬ ownW bs w k then some o else none
  | none => none
end
section
variable {P : Program} {N : Nat} {F : Bg} {L : List Ent} {M : Fr}
/-- A variable of one's own is only read from then on. -/
theorem Tr.frozenC {b : Nat} {cs : List Value} {T : TypeId} {L1 : List Ent} {X : Act → World → Prop} (hm : Del (cellE b cs T) L L1) (K : ∀ F', F.le F' → CellsIn F'.blk b cs → Tr N F' L1 M X) : Tr N F L M X := by
  intro a w ha hw
  have hf := hw.front hm
  have h1 : HpOK F L1 w := hf.mem (List.sublist_cons_self _ _)
  obtain ⟨F', e1, e2, e3⟩ := h1.freeze
  refine K F' e1 ?_ a w ha e2
  have he : w.heap[b]? = some (.cells cs.toArray T (0, 0)) := hf.ent _ (.head _)
  refine ⟨cs.toArray, T, (0, 0), e3 b _ ?_ he, fun j v hv => by simpa using hv⟩
  have := hf.nodup
  rw [blks_some (b := b) rfl, List.nodup_cons] at this
  exact this.1
end
theorem HpOK.ents0 {F : Bg} {L : List Ent} {w w' : World} {Ls : List Ent} (h : HpOK F L w') (hl : F.lo = w.heap.size) (hs : Pick L Ls) : NewEnts w w' Ls := by
  have h' := hs.heap h
  refine ⟨h'.ent, h'.nodup, h'.lt, fun b hb => ?_⟩
  rw [← hl]; exact (h'.sep b hb).2
end Go.HL
namespace Go.HL
open Go Go.RowKit
section
variable {P : Program} {ops : Array Oper} {Q : Exit → Act → World → Prop} {N : Nat} {F : Bg} {L : List Ent} {M : Fr} {ty : TypeId} {pos : String} {after : Array Edge} {rest : List Oper} {d : Nat} {dst : Option Tmp} {g : Option (Nat × Bool)}
def redrew (w w' : World) : World := { w' with drawn := max w.drawn w'.drawn }
theorem ext_redrew {w w' : World} (h : Below w.heap.size w w') : Ext w (redrew w w') := ⟨⟨h.os, h.tape, h.output, h.size, h.block⟩, Nat.le_max_left _ _⟩
theorem HpOK.redrew {w w' : World} (h : HpOK F L (HL.redrew w w')) (h0 : F.dr = 0) : HpOK F L w' := ⟨h.os, h.tape, h.out, h.n, by rw [h0]; exact Nat.zero_le _, h.bg, h.ent, h.nodup, h.lt, h.sep⟩
theorem HpOK.grow0 {w w' : World} (h : HpOK F L w) (hb : Below w.heap.size w w') (h0 : F.dr = 0) : HpOK F L w' := (h.grow (ext_redrew hb)).redrew h0
theorem QS.call0 {f : FuncId} {xs : List Operand} {vs : List Value} {ts : Array TypeId} {v : Value} (h0 : F.dr = 0) (hx : opvs M xs = some vs)
    (he : ∀ (args : Array Value) (w : World), (callFunc f args).run P w = .ok (.enter f args) w)
    (hc : ∀ w, HpOK F L w → Calls P f vs.toArray w fun e w' => e = .returned v ∧ Below w.heap.size w w') :
    QS P N F L M ⟨dst, .call { callee := .value (.func f), args := xs.toArray, argTypes := ts }, ty, pos, after, g⟩ v := by
  intro a w ha hw
  have hr : (execOp a.eval ⟨dst, .call { callee := .value (.func f), args := xs.toArray, argTypes := ts }, ty, pos, after, g⟩).run P w = .ok (.enter f vs.toArray) w := by
    have := ha.evals hx
    simp [execOp, resolve, Deferred.ofValue, Act.eval, invoke, he, this]
  unfold Oper.quietAt
  rw [hr]
  exact ⟨rfl, (hc w hw).mono fun e w' ⟨h1, h2⟩ => ⟨h1, hw.grow0 h2 h0⟩⟩
theorem Tr.callEnts0 {ι : Type} (φ : ι → Value) (Ls : ι → List Ent) {ok : ι → Prop} {f : FuncId} {xs : List Operand} {vs : List Value} {ts : Array TypeId} (h0 : F.dr = 0) (hx : opvs M xs = some vs)
    (he : ∀ (args : Array Value) (w : World), (callFunc f args).run P w = .ok (.enter f args) w)
    (hc : ∀ w, HpOK F L w → Calls P f vs.toArray w fun e w' => ∃ i, e = .returned (φ i) ∧ Below w.heap.size w w' ∧ NewEnts w w' (Ls i) ∧ ok i) (hd : Nat.ble (d + 1) N = true)
    (K : ∀ i, ok i → Tr N F (Ls i ++ L) ((d, φ i) :: M) (wpList P ops Q rest)) :
    Tr N F L M (wpList P ops Q (⟨some d, .call { callee := .value (.func f), args := xs.toArray, argTypes := ts }, ty, pos, after, none⟩ :: rest)) := by
  intro a w ha hw
  refine wpList_plain rfl fun K' hK => ?_
  have hr : (execOp a.eval ⟨some d, .call { callee := .value (.func f), args := xs.toArray, argTypes := ts }, ty, pos, after, none⟩).run P w = .ok (.enter f vs.toArray) w := by
    have := ha.evals hx
    simp [execOp, resolve, Deferred.ofValue, Act.eval, invoke, he, this]
  unfold Oper.wp
  rw [hr]
  refine (hc w hw).mono fun e w' ⟨i, h1, h2, h3, h4⟩ => ?_
  subst h1
  have hn : NewEnts w (redrew w w') (Ls i) := ⟨h3.ent, h3.nodup, h3.lt, h3.ge⟩
  exact hK _ _ (K i h4 _ _ (ha.put (Nat.le_of_ble_eq_true hd)) ((hw.newEnts (ext_redrew h2) hn).redrew h0))
end
end Go.HL
