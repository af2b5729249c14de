/- Own rules and walks, part 3. -/
import Derived.Test.YtpeaodkfbjenpaaGreatB2
set_option linter.unusedSimpArgs false
set_option linter.unusedVariables false
set_option linter.unusedSectionVars false
set_option maxRecDepth 100000
set_option maxHeartbeats 16000000
namespace Go.Proofs.YtpeaodkfbjenpaaGreat
open Go Go.HL Go.RowKit Go.Sort
theorem tZ (a : UInt32) (w : World) :
  Calls Tryz.prog 140 #[.int .u32 a.toNat] w (fun e w' => e = .returned (.bool false) ∧ Ext w w') := by
 refine enter Tryz.func140 rfl Tryz.ntmps140 rfl ?_
 refine af (ab (zz0 (ad rfl) (ae (aa (af (ab (zz0 (ac rfl) (zz0 (ac rfl) (zz0 (jk rfl rfl) ?_)))))))))
 refine zz0 (ad rfl) (ae (aa (ao ?_)))
 refine aI Tryz.results140 rfl (fun w' hw => ?_)
 exact ⟨by simp, hw.below (Bg.le.refl _)⟩
theorem gf (a b : UInt32) (w : World) :
  Calls Tryz.prog 107 #[.int .u32 a.toNat, .int .u32 b.toNat] w (fun e w' => e = .returned (.bool (ltW a b)) ∧ Ext w w') := by
 refine enter Tryz.func107 rfl Tryz.ntmps107 rfl ?_
 refine af (ab (zz0 (ad rfl) (ae (aa (af (ab (zz0 (ac rfl) (zz0 (aB rfl Tryz.call140 (fun w hw => tZ a w)) ?_))))))))
 refine zz0 (ac rfl) ?_
 apply bF
 ·exact (rfl : _ = (4, 7, 11))
 ·exact rfl
 ·intro hT1; have hT1' := hT1
  try simp only [bs] at hT1'
  refine zz5 hT1 (ac rfl) (zz5 hT1 (aB rfl Tryz.call140 (fun w hw => tZ b w)) ?_)
  refine zz5 hT1 (cj rfl) (zz0 (aE rfl hT1 rfl) ?_)
  refine ae (aa ?_)
  exact aw (Sub.cons rfl (zz7 4 rfl))
 ·intro hF1
  refine zz6 hF1 (zz6 hF1 (zz6 hF1 (zz0 (aF rfl hF1 rfl) ?_)))
  refine ae (aa ?_)
  exact aw (Sub.cons rfl (zz7 4 rfl))
 refine zz0 (ac rfl) ?_
 apply cZ
 ·exact (rfl : _ = (4, 12, 16))
 ·exact rfl
 ·intro hF2; have hF2' := hF2
  try simp only [bs] at hF2'
  refine zz5 hF2 (ac rfl) (zz5 hF2 (ac rfl) (zz5 hF2 (gG rfl rfl) ?_))
  refine zz0 (aF rfl hF2 rfl) ?_
  refine ae (aa ?_)
  exact aw (Sub.cons rfl (zz7 4 rfl))
 ·intro hT2
  refine zz6 hT2 (zz6 hT2 (zz6 hT2 (zz0 (aE rfl hT2 rfl) ?_)))
  refine ae (aa ?_)
  exact aw (Sub.cons rfl (zz7 4 rfl))
 refine zz0 (ad rfl) (ae (aa (ao ?_)))
 refine aI Tryz.results107 rfl (fun w' hw => ?_)
 exact ⟨by simp [ltW], hw.below (Bg.le.refl _)⟩
theorem q9 (d : Array UInt32) (V : Value) (a : Nat) (b : Nat) (ai : Int) (bi : Int) (ea : ai = ((a : Nat) : Int)) (eb : bi = ((b : Nat) : Int)) (w : World) (hr : (rowE V 23 av d.toList).holds w) (hd : d.size ≤ 1000000) (hab : a ≤ b) (hb : b ≤ d.size) :
  Calls Tryz.prog 101 #[V, .int .i64 ai, .int .i64 bi] w (fun e w' => e = .returned (.tuple #[]) ∧ Mut w w' V ∧ (rowE V 23 av (insertionSort ltW d a b).toList).holds w') := by
 subst ea eb
 refine ij (l := d.toList) (E := av) (T := 23) hr Tryz.func101 rfl Tryz.ntmps101 rfl ?_
 refine af (ab (zz0 (ac rfl) (zz0 (dq rfl rfl) ?_)))
 refine zz0 (ad rfl) (ae (aa (aQ ?_)))
 refine cp (ι := Nat × Array UInt32) (fun ⟨i, cur⟩ => a + 1 ≤ i ∧ cur.size = d.size ∧ insOuter ltW a b i cur = insertionSort ltW d a b) (fun _ => _) (fun ⟨i, cur⟩ => [rowE V 23 av cur.toList]) (fun ⟨i, cur⟩ => [(6, .int .i64 (i : Nat))]) (fun ⟨i, cur⟩ => b - i) (a + 1, d) ⟨Nat.le_refl _, rfl, rfl⟩ (.cons (by first | rfl | exact am rfl (by omega) | exact am rfl (by simp) | exact aS rfl (by simp)) Front.nil) (by repeat' constructor) rfl (fun i hi m hm => ?_)
 obtain ⟨i, cur⟩ := i
 replace hi : a + 1 ≤ i ∧ cur.size = d.size ∧ insOuter ltW a b i cur = insertionSort ltW d a b := hi
 replace hm : m = b - i := hm
 change Tr _ _ [rowE V 23 av cur.toList] ([(6, .int .i64 (i : Nat))] ++ _) _
 obtain ⟨hi1, hi2, hi3⟩ := hi
 have hcl : cur.toList.length = d.size := by rw [Array.length_toList]; exact hi2
 refine af (af (ab (zz0 (ac rfl) (zz0 (ac rfl) (zz0 (cE rfl rfl) (ae (aa ?_)))))))
 refine ak rfl ?_ ?_ <;> intro h1 <;> try simp only [bs] at h1
 ·refine ax (aa (af (aQ (af (ab (zz0 (ac rfl) (zz0 (ad rfl) (ae (aa (aQ ?_))))))))))
  refine cp (ι := Nat × Array UInt32) (fun ⟨j, c2⟩ => j ≤ i ∧ c2.size = d.size ∧ insInner ltW a j c2 = insInner ltW a i cur) (fun _ => _) (fun ⟨j, c2⟩ => [rowE V 23 av c2.toList]) (fun ⟨j, c2⟩ => [(7, .int .i64 (j : Nat))]) (fun ⟨j, c2⟩ => j) (i, cur) ⟨Nat.le_refl _, hi2, rfl⟩ (.cons (by first | rfl | exact am rfl (by omega) | exact am rfl (by simp) | exact aS rfl (by simp)) Front.nil) (by repeat' constructor) rfl (fun i hi m hm => ?_)
  obtain ⟨j, c2⟩ := i
  replace hi : j ≤ i ∧ c2.size = d.size ∧ insInner ltW a j c2 = insInner ltW a i cur := hi
  replace hm : m = j := hm
  change Tr _ _ [rowE V 23 av c2.toList] ([(7, .int .i64 (j : Nat))] ++ _) _
  obtain ⟨hj1, hj2, hj3⟩ := hi
  have ej : ((j : Int) - 1).toNat = j - 1 := by omega
  have hc2 : c2.toList.length = d.size := by rw [Array.length_toList]; exact hj2
  refine af (af (ja aU ?_))
  refine aK (ac rfl) (aK (ac rfl) (aK (fG rfl rfl) (aK (ac rfl) ?_)))
  apply gi
  ·exact (rfl : _ = (11, 19, 30))
  ·exact rfl
  ·intro hT2; have hT2' := hT2
   try simp only [bs] at hT2'
   refine bY hT2 (ac rfl) (bY hT2 (ac rfl) (bY hT2 (dP rfl rfl al ah) ?_))
   refine bY hT2 (eH rfl az) ?_
   refine bY hT2 (ac rfl) (bY hT2 (ac rfl) (bY hT2 (eE rfl rfl) ?_))
   refine bY hT2 (mz rfl rfl al ah) ?_
   refine bY hT2 (eH rfl az) ?_
   refine bY hT2 (aB rfl eU (fun w hw => gf (c2.toList.getD (j) default) (c2.toList.getD (((j : Int) - 1).toNat) default) w)) ?_
   refine aK (aE rfl hT2 rfl) ?_
   exact dh (Sub.cons rfl (zz7 11 rfl))
  ·intro hF2
   refine bZ hF2 (bZ hF2 (bZ hF2 (bZ hF2 (bZ hF2 (bZ hF2 (bZ hF2 (bZ hF2 (bZ hF2 (bZ hF2 (aK (aF rfl hF2 rfl) ?_))))))))))
   exact dh (Sub.cons rfl (zz7 11 rfl))
  refine cH ?_
  refine aa ?_
  refine ak rfl ?_ ?_ <;> intro h3 <;> try simp only [bs] at h3
  ·refine ax (aa (af (aQ (lU 5 15 aU ?_))))
   refine eG rfl ?_
   refine eG rfl ?_
   refine eG rfl ?_
   refine eG rfl ?_
   refine i6 (fun _ => eE rfl rfl) (by rfl) rfl ?_
   refine dz ?_
   refine aK (ac rfl) (aK (ac rfl) (aK (eE rfl rfl) ?_))
   refine aK (mz rfl rfl al ah) ?_
   refine aK (eH rfl az) ?_
   refine aK (ac rfl) (aK (ac rfl) (aK (dP rfl rfl al ah) ?_))
   refine aK (eH rfl az) ?_
   refine aK (dP rfl rfl al ah) ?_
   refine cH ?_
   refine iS (l := c2.toList) (i := j) (c2.toList.getD (((j : Int) - 1).toNat) default) rfl rfl ah ?_
   have hls4 : (List.set c2.toList (j) (c2.toList.getD (((j : Int) - 1).toNat) default)).length = (c2.toList).length := List.length_set
   refine zz0 (mz rfl rfl al ah) ?_
   refine iS (l := (c2.toList.set (j) (c2.toList.getD (((j : Int) - 1).toNat) default))) (i := ((j : Int) - 1).toNat) (c2.toList.getD (j) default) rfl rfl ah ?_
   have hls5 : (List.set (c2.toList.set (j) (c2.toList.getD (((j : Int) - 1).toNat) default)) (((j : Int) - 1).toNat) (c2.toList.getD (j) default)).length = ((c2.toList.set (j) (c2.toList.getD (((j : Int) - 1).toNat) default))).length := List.length_set
   refine ae (a9 (aa (ab (zz0 (ac rfl) (zz0 (eE rfl rfl) ?_)))))
   refine zz0 (ad rfl) (ae (aa ?_))
   rw [ej, dt, dt, gQ]
   apply bP (j - 1, _)
   ·exact rfl
   ·exact (.cons (by first | rfl | exact am rfl (by omega) | exact am rfl (by simp) | exact aS rfl (by simp)) Front.nil)
   ·exact bQ 25 rfl
   ·exact (by repeat' constructor)
   ·exact ⟨by omega, by rw [lY]; exact hj2, by rw [← hj3]; exact (o9 (d := c2) (a := a) (j := j) (by omega) (by have q := h3.2; rw [dt, dt, ej] at q; exact q)).symm⟩
   ·exact (by (try dsimp only); omega)
  ·refine cm (aV (aV (bT (a9 (aa (ab (zz0 (ac rfl) (zz0 (dq rfl rfl) ?_))))))))
   refine zz0 (ad rfl) (ae (aa ?_))
   have hst : insInner ltW a j c2 = c2 := nG (by
    rcases h3 with q | q
    ·exact .inl (by omega)
    ·rw [dt, dt, ej] at q; exact .inr q)
   rw [hst] at hj3
   apply bP (i + 1, c2)
   ·exact rfl
   ·exact (.cons (by first | rfl | exact am rfl (by omega) | exact am rfl (by simp) | exact aS rfl (by simp)) Front.nil)
   ·exact bQ 15 rfl
   ·exact (by repeat' constructor)
   ·exact ⟨by omega, hj2, by rw [hj3, ← uh (by omega)]; exact hi3⟩
   ·exact (by (try dsimp only); omega)
 ·refine cm (aV (aV (bT ?_)))
  refine gj Tryz.results101 (fun w' hw => ?_)
  rw [ui (by omega)] at hi3
  exact ⟨rfl, by rw [← hi3]; exact HpOK.mutOwn hw (.head _) rfl⟩
theorem ti (d : Array UInt32) (V : Value) (lo : Nat) (top : Nat) (f : Nat) (loi : Int) (topi : Int) (fi : Int) (elo : loi = ((lo : Nat) : Int)) (etop : topi = ((top : Nat) : Int)) (ef : fi = ((f : Nat) : Int)) (w : World) (hr : (rowE V 23 av d.toList).holds w) (hd : d.size ≤ 1000000) (hlo : lo ≤ 1000000) (hb : f + top ≤ d.size) :
  Calls Tryz.prog 135 #[V, .int .i64 loi, .int .i64 topi, .int .i64 fi] w (fun e w' => e = .returned (.tuple #[]) ∧ Mut w w' V ∧ (rowE V 23 av (siftDown ltW top f lo d).toList).holds w') := by
 subst elo etop ef
 refine ij (l := d.toList) (E := av) (T := 23) hr Tryz.func135 rfl Tryz.ntmps135 rfl ?_
 refine af (ab (zz0 (ac rfl) (zz0 (ad rfl) (ae (aa (aQ ?_))))))
 refine cp (ι := Nat × Array UInt32) (fun ⟨r, cur⟩ => r ≤ 1000000 ∧ cur.size = d.size ∧ siftDown ltW top f r cur = siftDown ltW top f lo d) (fun _ => _) (fun ⟨r, cur⟩ => [rowE V 23 av cur.toList]) (fun ⟨r, cur⟩ => [(8, .int .i64 (r : Nat))]) (fun ⟨r, cur⟩ => top - r) (lo, d) ⟨hlo, rfl, rfl⟩ (.cons (by first | rfl | exact am rfl (by omega) | exact am rfl (by simp) | exact aS rfl (by simp)) Front.nil) (by repeat' constructor) rfl (fun i hi m hm => ?_)
 obtain ⟨r, cur⟩ := i
 replace hi : r ≤ 1000000 ∧ cur.size = d.size ∧ siftDown ltW top f r cur = siftDown ltW top f lo d := hi
 replace hm : m = top - r := hm
 change Tr _ _ [rowE V 23 av cur.toList] ([(8, .int .i64 (r : Nat))] ++ _) _
 obtain ⟨hr1, hr2, hr3⟩ := hi
 have hcl : cur.toList.length = d.size := by rw [Array.length_toList]; exact hr2
 refine aQ (af (ab (zz0 (ac rfl) (zz0 (k9 rfl rfl (by omega)) ?_))))
 refine zz0 (dq rfl rfl) ?_
 refine zz0 (ad rfl) (ae (aa (af (af (ab (zz0 (ac rfl) (zz0 (ac rfl) (zz0 (dl rfl rfl) (ae (aa ?_))))))))))
 refine ak rfl ?_ ?_ <;> intro h1 <;> try simp only [bs] at h1
 ·refine cm (aV (ko rfl ?_))
  refine aV (bT ?_)
  refine gj Tryz.results135 (fun w' hw => ?_)
  rw [tj (by omega)] at hr3
  exact ⟨rfl, by rw [← hr3]; exact HpOK.mutOwn hw (.head _) rfl⟩
 ·refine ax (aa ?_)
  refine eJ (ι := Nat) (fun c => (2 * r + 1 ≤ c ∧ c < top) ∧ siftDown ltW top f r cur = if ltW cur[f + r]! cur[f + c]! = true then siftDown ltW top f c (swp cur (f + r) (f + c)) else cur) (fun _ => Bg.less w V) (fun c => [rowE V 23 av cur.toList]) (fun c => [(9, .int .i64 (c : Nat))]) ?_ (fun c hi => ?_)
  ·skip
   refine af (ja aU ?_)
   refine aK (ac rfl) (aK (dq rfl rfl) ?_)
   refine aK (ac rfl) (aK (cE rfl rfl) (aK (ac rfl) ?_))
   apply gi
   ·exact (rfl : _ = (15, 21, 36))
   ·exact rfl
   ·intro hT2; have hT2' := hT2
    try simp only [bs] at hT2'
    refine bY hT2 (ac rfl) (bY hT2 (ac rfl) (bY hT2 (ac rfl) (bY hT2 (dq rfl rfl) ?_)))
    refine bY hT2 (mz rfl rfl al ah) ?_
    refine bY hT2 (eH rfl az) ?_
    refine bY hT2 (ac rfl) (bY hT2 (ac rfl) (bY hT2 (ac rfl) (bY hT2 (dq rfl rfl) ?_)))
    refine bY hT2 (dq rfl rfl) ?_
    refine bY hT2 (mz rfl rfl al ah) ?_
    refine bY hT2 (eH rfl az) ?_
    refine bY hT2 (aB rfl eU (fun w hw => gf (cur.toList.getD (f + (2 * r + 1)) default) (cur.toList.getD (f + (2 * r + 1) + 1) default) w)) ?_
    refine aK (aE rfl hT2 rfl) ?_
    exact dh (Sub.cons rfl (zz7 15 rfl))
   ·intro hF2
    refine bZ hF2 (bZ hF2 (bZ hF2 (bZ hF2 (bZ hF2 (bZ hF2 (bZ hF2 (bZ hF2 (bZ hF2 (bZ hF2 (bZ hF2 (bZ hF2 (bZ hF2 (bZ hF2 ?_)))))))))))))
    refine aK (aF rfl hF2 rfl) ?_
    exact dh (Sub.cons rfl (zz7 15 rfl))
   refine cH ?_
   refine aa ?_
   refine ak rfl ?_ ?_ <;> intro h3 <;> try simp only [bs] at h3
   ·refine ab (zz0 (ac rfl) (zz0 (dq rfl rfl) ?_))
    refine zz0 (ad rfl) (ae (aa ?_))
    apply aZ (2 * r + 2)
    ·exact rfl
    ·exact (.cons (by first | rfl | exact am rfl (by omega) | exact am rfl (by simp) | exact aS rfl (by simp)) Front.nil)
    ·exact bQ 9 rfl
    ·exact (by repeat' constructor)
    ·exact ⟨by omega, yi (by omega) (by rw [← dt, ← dt]; exact h3.2)⟩
   ·refine ax (aa ?_)
    apply aZ (2 * r + 1)
    ·exact rfl
    ·exact (.cons (by first | rfl | exact am rfl (by omega) | exact am rfl (by simp) | exact aS rfl (by simp)) Front.nil)
    ·exact bQ 6 rfl
    ·exact (by repeat' constructor)
    ·exact ⟨by omega, yj (by omega) (by
      rcases h3 with q | q
      ·exact .inl (by omega)
      ·exact .inr (by rw [← dt, ← dt]; exact q))⟩
  ·skip
   replace hi : (2 * r + 1 ≤ c ∧ c < top) ∧ siftDown ltW top f r cur = if ltW cur[f + r]! cur[f + c]! = true then siftDown ltW top f c (swp cur (f + r) (f + c)) else cur := hi
   change Tr _ _ [rowE V 23 av cur.toList] ([(9, .int .i64 (c : Nat))] ++ _) _
   obtain ⟨hc1, hc2⟩ := hi
   refine af (af (ja aU ?_))
   refine aK (ac rfl) (aK (ac rfl) (aK (ac rfl) (aK (dq rfl rfl) ?_)))
   refine aK (dP rfl rfl al ah) ?_
   refine aK (eH rfl az) ?_
   refine aK (ac rfl) (aK (ac rfl) (aK (ac rfl) (aK (dq rfl rfl) ?_)))
   refine aK (dP rfl rfl al ah) ?_
   refine aK (eH rfl az) ?_
   refine aK (aB rfl eU (fun w hw => gf (cur.toList.getD (f + r) default) (cur.toList.getD (f + c) default) w)) ?_
   refine aK (cj rfl) (cH ?_)
   refine aa ?_
   refine ak rfl ?_ ?_ <;> intro h4 <;> try simp only [bs] at h4
   ·refine ao (an (bf (an (bf ?_))))
    refine pz Tryz.results135 (fun w' hw => ?_)
    rw [if_neg (by rw [← dt, ← dt]; simp_all)] at hc2
    exact ⟨rfl, by rw [← hr3, hc2]; exact HpOK.mutOwn hw (.head _) rfl⟩
   ·refine ax (aa (af (lU 8 21 aU ?_)))
    refine eG rfl ?_
    refine eG rfl ?_
    refine eG rfl ?_
    refine i6 (fun _ => dq rfl rfl) (by rfl) rfl ?_
    refine eG rfl ?_
    refine eG rfl ?_
    refine eG rfl ?_
    refine i6 (fun _ => dq rfl rfl) (by rfl) rfl ?_
    refine dz ?_
    refine aK (ac rfl) (aK (ac rfl) (aK (ac rfl) (aK (dq rfl rfl) ?_)))
    refine aK (dP rfl rfl al ah) ?_
    refine aK (eH rfl az) ?_
    refine aK (ac rfl) (aK (ac rfl) (aK (ac rfl) (aK (dq rfl rfl) ?_)))
    refine aK (dP rfl rfl al ah) ?_
    refine aK (eH rfl az) ?_
    refine aK (dP rfl rfl al ah) ?_
    refine cH ?_
    refine iS (l := cur.toList) (i := f + r) (cur.toList.getD (f + c) default) rfl rfl ah ?_
    have hls5 : (List.set cur.toList (f + r) (cur.toList.getD (f + c) default)).length = (cur.toList).length := List.length_set
    refine zz0 (dP rfl rfl al ah) ?_
    refine iS (l := (cur.toList.set (f + r) (cur.toList.getD (f + c) default))) (i := f + c) (cur.toList.getD (f + r) default) rfl rfl ah ?_
    have hls6 : (List.set (cur.toList.set (f + r) (cur.toList.getD (f + c) default)) (f + c) (cur.toList.getD (f + r) default)).length = ((cur.toList.set (f + r) (cur.toList.getD (f + c) default))).length := List.length_set
    refine ae (aa (ab (zz0 (ac rfl) (zz0 (ad rfl) (ae (a9 (aa ?_)))))))
    rw [dt, dt, gQ]
    have hst := hc2
    rw [if_pos (by rw [← dt, ← dt]; simp_all)] at hst
    apply bP (c, _)
    ·exact rfl
    ·exact (.cons (by first | rfl | exact am rfl (by omega) | exact am rfl (by simp) | exact aS rfl (by simp)) Front.nil)
    ·exact bQ 47 rfl
    ·exact (by repeat' constructor)
    ·exact ⟨by omega, by rw [lY]; exact hr2, by rw [← hr3]; exact hst.symm⟩
    ·exact (by (try dsimp only); omega)
theorem zc (d : Array UInt32) (V : Value) (a : Nat) (b : Nat) (ai : Int) (bi : Int) (ea : ai = ((a : Nat) : Int)) (eb : bi = ((b : Nat) : Int)) (w : World) (hr : (rowE V 23 av d.toList).holds w) (hd : d.size ≤ 1000000) (hab : a < b) (hb : b ≤ d.size) :
  Calls Tryz.prog 102 #[V, .int .i64 ai, .int .i64 bi] w (fun e w' => e = .returned (.tuple #[]) ∧ Mut w w' V ∧ (rowE V 23 av (heapSort ltW d a b).toList).holds w') := by
 subst ea eb
 obtain ⟨n, hn⟩ : ∃ n, n = b - a := ⟨_, rfl⟩
 obtain ⟨d0, hd0⟩ : ∃ x, x = heapBuild ltW n a ((n - 1) / 2 + 1) d := ⟨_, rfl⟩
 have hhs : heapSort ltW d a b = heapPop ltW a n d0 := by rw [hd0, hn]; rfl
 refine ij (l := d.toList) (E := av) (T := 23) hr Tryz.func102 rfl Tryz.ntmps102 rfl ?_
 refine af (ab (zz0 (ac rfl) (zz0 (ad rfl) (ae (aa (af (ab (zz0 (ad rfl) (ae (aa (af (ab (zz0 (ac rfl) ?_)))))))))))))
 refine zz0 (ac rfl) (zz0 (eE rfl rfl) ?_)
 refine zz0 (ad rfl) (ae (aa (af (af ?_))))
 rw [show ((b : Nat) : Int) - ((a : Nat) : Int) = ((n : Nat) : Int) by omega]
 refine ab (zz0 (ac rfl) (zz0 (eE rfl rfl) ?_))
 refine zz0 (mr rfl rfl (by omega)) ?_
 refine zz0 (ad rfl) (ae (aa (aQ ?_)))
 refine cp (ι := Nat × Array UInt32) (fun ⟨k, cur⟩ => k ≤ (n - 1) / 2 + 1 ∧ cur.size = d.size ∧ heapBuild ltW n a k cur = d0) (fun _ => _) (fun ⟨k, cur⟩ => [rowE V 23 av cur.toList]) (fun ⟨k, cur⟩ => [(9, .int .i64 ((k : Int) - 1))]) (fun ⟨k, cur⟩ => k) ((n - 1) / 2 + 1, d) ⟨Nat.le_refl _, rfl, hd0.symm⟩ (.cons (by first | rfl | exact am rfl (by omega) | exact am rfl (by simp) | exact aS rfl (by simp)) Front.nil) (by repeat' constructor) rfl (fun i hi m hm => ?_)
 obtain ⟨k, cur⟩ := i
 replace hi : k ≤ (n - 1) / 2 + 1 ∧ cur.size = d.size ∧ heapBuild ltW n a k cur = d0 := hi
 replace hm : m = k := hm
 change Tr _ _ [rowE V 23 av cur.toList] ([(9, .int .i64 ((k : Int) - 1))] ++ _) _
 obtain ⟨hk1, hk2, hk3⟩ := hi
 have hcl : cur.toList.length = d.size := by rw [Array.length_toList]; exact hk2
 refine af (af (ab (zz0 (ac rfl) (zz0 (dl rfl rfl) (ae (aa ?_))))))
 refine ak rfl ?_ ?_ <;> intro h1 <;> try simp only [bs] at h1
 ·refine ax (aa (af (aQ (ab (zz0 (ac rfl) (zz0 (ac rfl) (zz0 (ac rfl) (zz0 (ac rfl) (eW rfl Tryz.call135 (by repeat constructor) (fun w hw => ti cur V (k - 1) n a _ _ _ (by omega) (by omega) (by omega) w (hw.ent _ (.head _)) (by omega) (by omega) (by omega)) rfl ?_)))))))))
  refine ae (a9 (aa (ab (zz0 (ac rfl) (zz0 (eE rfl rfl) ?_)))))
  refine zz0 (ad rfl) (ae (aa ?_))
  have hst : heapBuild ltW n a (k - 1) (siftDown ltW n a (k - 1) cur) = d0 := by
   obtain ⟨q, rfl⟩ : ∃ q, k = q + 1 := ⟨k - 1, by omega⟩
   exact hk3
  apply bP (k - 1, _)
  ·exact rfl
  ·exact (.cons (by first | rfl | exact am rfl (by omega) | exact am rfl (by simp) | exact aS rfl (by simp)) Front.nil)
  ·exact bQ 11 rfl
  ·exact (by repeat' constructor)
  ·exact ⟨by omega, by rw [Bj]; exact hk2, hst⟩
  ·exact (by (try dsimp only); omega)
 ·refine cm (aV (aV (bT (aa (af ?_)))))
  obtain rfl : k = 0 := by omega
  have hd1 : cur = d0 := hk3
  subst hd1
  refine ab (zz0 (ac rfl) (zz0 (eE rfl rfl) ?_))
  refine zz0 (ad rfl) (ae (aa (aQ ?_)))
  refine cp (ι := Nat × Array UInt32) (fun ⟨k, cur⟩ => k ≤ n ∧ cur.size = d.size ∧ heapPop ltW a k cur = heapSort ltW d a b) (fun _ => _) (fun ⟨k, cur⟩ => [rowE V 23 av cur.toList]) (fun ⟨k, cur⟩ => [(10, .int .i64 ((k : Int) - 1))]) (fun ⟨k, cur⟩ => k) (n, _) ⟨Nat.le_refl _, hk2, hhs.symm⟩ (.cons (by first | rfl | exact am rfl (by omega) | exact am rfl (by simp) | exact aS rfl (by simp)) Front.nil) (by repeat' constructor) rfl (fun i hi m hm => ?_)
  obtain ⟨k, cur⟩ := i
  replace hi : k ≤ n ∧ cur.size = d.size ∧ heapPop ltW a k cur = heapSort ltW d a b := hi
  replace hm : m = k := hm
  change Tr _ _ [rowE V 23 av cur.toList] ([(10, .int .i64 ((k : Int) - 1))] ++ _) _
  obtain ⟨hk1, hk2, hk3⟩ := hi
  have hcl : cur.toList.length = d.size := by rw [Array.length_toList]; exact hk2
  have ek : ((a : Int) + ((k : Int) - 1)).toNat = a + (k - 1) ∨ k = 0 := by omega
  refine af (af (ab (zz0 (ac rfl) (zz0 (dl rfl rfl) (ae (aa ?_))))))
  refine ak rfl ?_ ?_ <;> intro h2 <;> try simp only [bs] at h2
  ·refine ax (aa (af (aQ (af (lU 6 17 aU ?_)))))
   refine eG rfl ?_
   refine eG rfl ?_
   refine eG rfl ?_
   refine eG rfl ?_
   refine eG rfl ?_
   refine i6 (fun _ => dq rfl rfl) (by rfl) rfl ?_
   refine dz ?_
   refine aK (ac rfl) (aK (ac rfl) (aK (ac rfl) (aK (dq rfl rfl) ?_)))
   refine aK (mz rfl rfl al ah) ?_
   refine aK (eH rfl az) ?_
   refine aK (ac rfl) (aK (ac rfl) (aK (dP rfl rfl al ah) ?_))
   refine aK (eH rfl az) ?_
   refine aK (dP rfl rfl al ah) ?_
   refine cH ?_
   refine iS (l := cur.toList) (i := a) (cur.toList.getD (((a : Int) + ((k : Int) - 1)).toNat) default) rfl rfl ah ?_
   have hls3 : (List.set cur.toList (a) (cur.toList.getD (((a : Int) + ((k : Int) - 1)).toNat) default)).length = (cur.toList).length := List.length_set
   refine zz0 (mz rfl rfl al ah) ?_
   refine iS (l := (cur.toList.set (a) (cur.toList.getD (((a : Int) + ((k : Int) - 1)).toNat) default))) (i := ((a : Int) + ((k : Int) - 1)).toNat) (cur.toList.getD (a) default) rfl rfl ah ?_
   have hls4 : (List.set (cur.toList.set (a) (cur.toList.getD (((a : Int) + ((k : Int) - 1)).toNat) default)) (((a : Int) + ((k : Int) - 1)).toNat) (cur.toList.getD (a) default)).length = ((cur.toList.set (a) (cur.toList.getD (((a : Int) + ((k : Int) - 1)).toNat) default))).length := List.length_set
   rw [ek.resolve_right (by omega), dt, dt, gQ]
   refine ae (aa (ab (zz0 (ac rfl) (zz0 (ac rfl) (zz0 (ac rfl) (zz0 (ac rfl) (eW rfl Tryz.call135 (by repeat constructor) (fun w hw => ti (swp cur a (a + (k - 1))) V 0 (k - 1) a _ _ _ (by omega) (by omega) (by omega) w (hw.ent _ (.head _)) (by rw [lY]; omega) (by omega) (by rw [lY]; omega)) rfl ?_)))))))
   refine ae (a9 (aa (ab (zz0 (ac rfl) (zz0 (eE rfl rfl) ?_)))))
   refine zz0 (ad rfl) (ae (aa ?_))
   have hst : heapPop ltW a (k - 1) (siftDown ltW (k - 1) a 0 (swp cur a (a + (k - 1)))) = heapSort ltW d a b := by
    obtain ⟨q, rfl⟩ : ∃ q, k = q + 1 := ⟨k - 1, by omega⟩
    exact hk3
   apply bP (k - 1, _)
   ·exact rfl
   ·exact (.cons (by first | rfl | exact am rfl (by omega) | exact am rfl (by simp) | exact aS rfl (by simp)) Front.nil)
   ·exact bQ 29 rfl
   ·exact (by repeat' constructor)
   ·exact ⟨by omega, by rw [Bj, lY]; exact hk2, hst⟩
   ·exact (by (try dsimp only); omega)
  ·refine cm (aV (aV (bT ?_)))
   refine gj Tryz.results102 (fun w' hw => ?_)
   obtain rfl : k = 0 := by omega
   exact ⟨rfl, by rw [← hk3]; exact HpOK.mutOwn hw (.head _) rfl⟩
theorem tz (d : Array UInt32) (V : Value) (a : Nat) (b : Nat) (ai : Int) (bi : Int) (ea : ai = ((a : Nat) : Int)) (eb : bi = ((b : Nat) : Int)) (w : World) (hr : (rowE V 23 av d.toList).holds w) (hd : d.size ≤ 1000000) (hab : a < b) (hb : b ≤ d.size) :
  Calls Tryz.prog 105 #[V, .int .i64 ai, .int .i64 bi] w (fun e w' => e = .returned (.tuple #[]) ∧ Mut w w' V ∧ (rowE V 23 av (reverseRange d a b).toList).holds w') := by
 subst ea eb
 refine ij (l := d.toList) (E := av) (T := 23) hr Tryz.func105 rfl Tryz.ntmps105 rfl ?_
 refine af (ab (zz0 (ac rfl) (zz0 (ad rfl) (ae (aa (af (ab (zz0 (ac rfl) (zz0 (eE rfl rfl) ?_)))))))))
 refine zz0 (ad rfl) (ae (aa (aQ ?_)))
 refine cp (ι := Nat × Nat × Array UInt32) (fun ⟨i, j, cur⟩ => (a ≤ i ∧ j < b) ∧ cur.size = d.size ∧ reverseLoop i j cur = reverseRange d a b) (fun _ => _) (fun ⟨i, j, cur⟩ => [rowE V 23 av cur.toList]) (fun ⟨i, j, cur⟩ => [(6, .int .i64 (i : Nat)), (7, .int .i64 (j : Nat))]) (fun ⟨i, j, cur⟩ => j - i) (a, b - 1, d) ⟨⟨Nat.le_refl _, by omega⟩, rfl, rfl⟩ (.cons (by first | rfl | exact am rfl (by omega) | exact am rfl (by simp) | exact aS rfl (by simp)) (.cons (by first | rfl | exact am rfl (by omega) | exact am rfl (by simp) | exact aS rfl (by simp)) Front.nil)) (by repeat' constructor) rfl (fun i hi m hm => ?_)
 obtain ⟨i, j, cur⟩ := i
 replace hi : (a ≤ i ∧ j < b) ∧ cur.size = d.size ∧ reverseLoop i j cur = reverseRange d a b := hi
 replace hm : m = j - i := hm
 change Tr _ _ [rowE V 23 av cur.toList] ([(6, .int .i64 (i : Nat)), (7, .int .i64 (j : Nat))] ++ _) _
 obtain ⟨hi1, hi2, hi3⟩ := hi
 have hcl : cur.toList.length = d.size := by rw [Array.length_toList]; exact hi2
 refine af (af (ab (zz0 (ac rfl) (zz0 (ac rfl) (zz0 (cE rfl rfl) (ae (aa ?_)))))))
 refine ak rfl ?_ ?_ <;> intro h1 <;> try simp only [bs] at h1
 ·refine ax (aa (aQ (af (lU 4 13 aU ?_))))
  refine eG rfl ?_
  refine eG rfl ?_
  refine eG rfl ?_
  refine eG rfl ?_
  refine dz ?_
  refine aK (ac rfl) (aK (ac rfl) (aK (dP rfl rfl al ah) ?_))
  refine aK (eH rfl az) ?_
  refine aK (ac rfl) (aK (ac rfl) (aK (dP rfl rfl al ah) ?_))
  refine aK (eH rfl az) ?_
  refine aK (dP rfl rfl al ah) ?_
  refine cH ?_
  refine iS (l := cur.toList) (i := i) (cur.toList.getD (j) default) rfl rfl ah ?_
  have hls2 : (List.set cur.toList (i) (cur.toList.getD (j) default)).length = (cur.toList).length := List.length_set
  refine zz0 (dP rfl rfl al ah) ?_
  refine iS (l := (cur.toList.set (i) (cur.toList.getD (j) default))) (i := j) (cur.toList.getD (i) default) rfl rfl ah ?_
  have hls3 : (List.set (cur.toList.set (i) (cur.toList.getD (j) default)) (j) (cur.toList.getD (i) default)).length = ((cur.toList.set (i) (cur.toList.getD (j) default))).length := List.length_set
  refine ae (aa (af (ab (zz0 (ac rfl) (zz0 (dq rfl rfl) ?_)))))
  refine zz0 (ad rfl) (ae (aa (ab (zz0 (ac rfl) (zz0 (eE rfl rfl) ?_)))))
  refine zz0 (ad rfl) (ae (a9 (aa ?_)))
  rw [dt, dt, gQ]
  apply bP (i + 1, j - 1, _)
  ·exact rfl
  ·exact (.cons (by first | rfl | exact am rfl (by omega) | exact am rfl (by simp) | exact aS rfl (by simp)) (.cons (by first | rfl | exact am rfl (by omega) | exact am rfl (by simp) | exact aS rfl (by simp)) Front.nil))
  ·exact bQ 25 rfl
  ·exact (by repeat' constructor)
  ·exact ⟨⟨by omega, by omega⟩, by rw [lY]; exact hi2, by rw [← Bs (by omega)]; exact hi3⟩
  ·exact (by (try dsimp only); omega)
 ·refine cm (aV (aV (bT ?_)))
  refine gj Tryz.results105 (fun w' hw => ?_)
  rw [yw (by omega)] at hi3
  exact ⟨rfl, by rw [← hi3]; exact HpOK.mutOwn hw (.head _) rfl⟩
theorem qY (d : Array UInt32) (V : Value) (a : Nat) (b : Nat) (p : Nat) (ai : Int) (bi : Int) (pi : Int) (ea : ai = ((a : Nat) : Int)) (eb : bi = ((b : Nat) : Int)) (ep : pi = ((p : Nat) : Int)) (w : World) (hr : (rowE V 23 av d.toList).holds w) (hd : d.size ≤ 1000000) (hab : a + 1 < b) (hb : b ≤ d.size) (hp : p < b) :
  Calls Tryz.prog 109 #[V, .int .i64 ai, .int .i64 bi, .int .i64 pi] w (fun e w' => e = .returned (.tuple #[.int .i64 ((partition ltW d a b p).1 : Nat), .bool (partition ltW d a b p).2.1]) ∧ Mut w w' V ∧ (rowE V 23 av (partition ltW d a b p).2.2.toList).holds w') := by
 subst ea eb ep
 obtain ⟨d1, hd1⟩ : ∃ x, x = swp d a p := ⟨_, rfl⟩
 have hs1 : d1.size = d.size := by rw [hd1, lY]
 have hl0 : d.toList.length = d.size := Array.length_toList
 have hl1 : d1.toList.length = d.size := by rw [Array.length_toList]; exact hs1
 obtain ⟨P, hP⟩ : ∃ P : UInt32 → Bool, P = fun x => ltW x d1[a]! := ⟨_, rfl⟩
 refine ij (l := d.toList) (E := av) (T := 23) hr Tryz.func109 rfl Tryz.ntmps109 rfl ?_
 refine af (ab (zz0 (ad rfl) (zz0 (ad rfl) (ae (aa (af (lU 4 13 aU ?_)))))))
 refine eG rfl ?_
 refine eG rfl ?_
 refine eG rfl ?_
 refine eG rfl ?_
 refine dz ?_
 refine aK (ac rfl) (aK (ac rfl) (aK (dP rfl rfl al ah) ?_))
 refine aK (eH rfl az) ?_
 refine aK (ac rfl) (aK (ac rfl) (aK (dP rfl rfl al ah) ?_))
 refine aK (eH rfl az) ?_
 refine aK (dP rfl rfl al ah) ?_
 refine cH ?_
 refine iS (l := d.toList) (i := a) (d.toList.getD (p) default) rfl rfl ah ?_
 have hls1 : (List.set d.toList (a) (d.toList.getD (p) default)).length = (d.toList).length := List.length_set
 refine zz0 (dP rfl rfl al ah) ?_
 refine iS (l := (d.toList.set (a) (d.toList.getD (p) default))) (i := p) (d.toList.getD (a) default) rfl rfl ah ?_
 have hls2 : (List.set (d.toList.set (a) (d.toList.getD (p) default)) (p) (d.toList.getD (a) default)).length = ((d.toList.set (a) (d.toList.getD (p) default))).length := List.length_set
 rw [dt, dt, gQ, ← hd1]
 refine ae (aa (af (ab (zz0 (ac rfl) (zz0 (dq rfl rfl) ?_)))))
 refine zz0 (ac rfl) (zz0 (eE rfl rfl) ?_)
 refine zz0 (ad rfl) (zz0 (ad rfl) (ae (aa (af (aQ ?_)))))
 refine cp (ι := Nat) (fun i => a + 1 ≤ i ∧ i ≤ b ∧ scanUp (fun x => ltW x d1[a]!) d1 (b - 1) i = scanUp (fun x => ltW x d1[a]!) d1 (b - 1) (a + 1)) (fun _ => _) (fun i => [rowE V 23 av d1.toList]) (fun i => [(10, .int .i64 (i : Nat)), (11, .int .i64 ((b : Int) - 1))]) (fun i => b - i) (a + 1) ⟨Nat.le_refl _, by omega, rfl⟩ (.cons (by first | rfl | exact am rfl (by omega) | exact am rfl (by simp) | exact aS rfl (by simp)) (.cons (by first | rfl | exact am rfl (by omega) | exact am rfl (by simp) | exact aS rfl (by simp)) Front.nil)) (by repeat' constructor) rfl (fun i hi m hm => ?_)
 replace hi : a + 1 ≤ i ∧ i ≤ b ∧ scanUp (fun x => ltW x d1[a]!) d1 (b - 1) i = scanUp (fun x => ltW x d1[a]!) d1 (b - 1) (a + 1) := hi
 replace hm : m = b - i := hm
 change Tr _ _ [rowE V 23 av d1.toList] ([(10, .int .i64 (i : Nat)), (11, .int .i64 ((b : Int) - 1))] ++ _) _
 obtain ⟨hi1, hi2, hi3⟩ := hi
 refine af (af (ja aU ?_))
 refine aK (ac rfl) (aK (ac rfl) (aK (dO rfl rfl) (aK (ac rfl) ?_)))
 apply gi
 ·exact (rfl : _ = (10, 33, 43))
 ·exact rfl
 ·intro hT3; have hT3' := hT3
  try simp only [bs] at hT3'
  refine bY hT3 (ac rfl) (bY hT3 (ac rfl) (bY hT3 (dP rfl rfl al ah) ?_))
  refine bY hT3 (eH rfl az) ?_
  refine bY hT3 (ac rfl) (bY hT3 (ac rfl) (bY hT3 (dP rfl rfl al ah) ?_))
  refine bY hT3 (eH rfl az) ?_
  refine bY hT3 (aB rfl eU (fun w hw => gf (d1.toList.getD (i) default) (d1.toList.getD (a) default) w)) ?_
  refine aK (aE rfl hT3 rfl) ?_
  exact dh (Sub.cons rfl (zz7 10 rfl))
 ·intro hF3
  refine bZ hF3 (bZ hF3 (bZ hF3 (bZ hF3 (bZ hF3 (bZ hF3 (bZ hF3 (bZ hF3 (bZ hF3 (aK (aF rfl hF3 rfl) ?_)))))))))
  exact dh (Sub.cons rfl (zz7 10 rfl))
 refine cH ?_
 refine aa ?_
 refine ak rfl ?_ ?_ <;> intro h4 <;> try simp only [bs] at h4
 ·refine ax (aa (aQ (ab (zz0 (ac rfl) (zz0 (dq rfl rfl) ?_)))))
  refine zz0 (ad rfl) (ae (a9 (aa ?_)))
  apply bP (i + 1)
  ·exact rfl
  ·exact (.cons (by first | rfl | exact am rfl (by omega) | exact am rfl (by simp) | exact aS rfl (by simp)) (.cons (by first | rfl | exact am rfl (by omega) | exact am rfl (by simp) | exact aS rfl (by simp)) Front.nil))
  ·exact bQ 10 rfl
  ·exact (by repeat' constructor)
  ·exact ⟨by omega, by omega, by rw [← hi3]; exact (yc (by omega) (by rw [← dt, ← dt]; exact h4.2)).symm⟩
  ·exact (by (try dsimp only); omega)
 ·refine cm (aV (aV (bT (aa (af (aQ ?_))))))
  refine cp (ι := Nat) (fun j => j < b ∧ i ≤ j + 1 ∧ scanDown (fun x => !ltW x d1[a]!) d1 i j = scanDown (fun x => !ltW x d1[a]!) d1 i (b - 1)) (fun _ => _) (fun j => [rowE V 23 av d1.toList]) (fun j => [(10, .int .i64 (i : Nat)), (11, .int .i64 (j : Nat))]) (fun j => j) (b - 1) ⟨by omega, by omega, rfl⟩ (.cons (by first | rfl | exact am rfl (by omega) | exact am rfl (by simp) | exact aS rfl (by simp)) (.cons (by first | rfl | exact am rfl (by omega) | exact am rfl (by simp) | exact aS rfl (by simp)) Front.nil)) (by repeat' constructor) rfl (fun j hi m hm => ?_)
  replace hi : j < b ∧ i ≤ j + 1 ∧ scanDown (fun x => !ltW x d1[a]!) d1 i j = scanDown (fun x => !ltW x d1[a]!) d1 i (b - 1) := hi
  replace hm : m = j := hm
  change Tr _ _ [rowE V 23 av d1.toList] ([(10, .int .i64 (i : Nat)), (11, .int .i64 (j : Nat))] ++ _) _
  obtain ⟨hj1, hj2, hj3⟩ := hi
  refine af (af (ja aU ?_))
  refine aK (ac rfl) (aK (ac rfl) (aK (dO rfl rfl) (aK (ac rfl) ?_)))
  apply gi
  ·exact (rfl : _ = (11, 49, 60))
  ·exact rfl
  ·intro hT5; have hT5' := hT5
   try simp only [bs] at hT5'
   refine bY hT5 (ac rfl) (bY hT5 (ac rfl) (bY hT5 (dP rfl rfl al ah) ?_))
   refine bY hT5 (eH rfl az) ?_
   refine bY hT5 (ac rfl) (bY hT5 (ac rfl) (bY hT5 (dP rfl rfl al ah) ?_))
   refine bY hT5 (eH rfl az) ?_
   refine bY hT5 (aB rfl eU (fun w hw => gf (d1.toList.getD (j) default) (d1.toList.getD (a) default) w)) ?_
   refine bY hT5 (cj rfl) (aK (aE rfl hT5 rfl) ?_)
   exact dh (Sub.cons rfl (zz7 11 rfl))
  ·intro hF5
   refine bZ hF5 (bZ hF5 (bZ hF5 (bZ hF5 (bZ hF5 (bZ hF5 (bZ hF5 (bZ hF5 (bZ hF5 (bZ hF5 (aK (aF rfl hF5 rfl) ?_))))))))))
   exact dh (Sub.cons rfl (zz7 11 rfl))
  refine cH ?_
  refine aa ?_
  refine ak rfl ?_ ?_ <;> intro h6 <;> try simp only [bs] at h6
  ·refine ax (aa (aQ (ab (zz0 (ac rfl) (zz0 (eE rfl rfl) ?_)))))
   refine zz0 (ad rfl) (ae (a9 (aa ?_)))
   apply bP (j - 1)
   ·exact rfl
   ·exact (.cons (by first | rfl | exact am rfl (by omega) | exact am rfl (by simp) | exact aS rfl (by simp)) (.cons (by first | rfl | exact am rfl (by omega) | exact am rfl (by simp) | exact aS rfl (by simp)) Front.nil))
   ·exact bQ 10 rfl
   ·exact (by repeat' constructor)
   ·exact ⟨by omega, by omega, by rw [← hj3]; exact (sH (by omega) (by omega) (by rw [← dt, ← dt]; simp_all)).symm⟩
   ·exact (by (try dsimp only); omega)
  ·refine cm (aV (aV (bT (aa (af (af ?_))))))
   have hI : scanUp (fun x => ltW x d1[a]!) d1 (b - 1) (a + 1) = i := by
    rw [← hi3]; exact se (by
     rcases h4 with q | q
     ·exact .inl (by omega)
     ·exact .inr (by rw [← dt, ← dt]; exact q))
   have hJ : scanDown (fun x => !ltW x d1[a]!) d1 i (b - 1) = j := by
    rw [← hj3]; exact ov (by
     rcases h6 with q | q
     ·exact .inl (by omega)
     ·exact .inr (by rw [← dt, ← dt, q]; rfl))
   refine ab (zz0 (ac rfl) (zz0 (ac rfl) (zz0 (fG rfl rfl) (ae (aa ?_)))))
   refine ak rfl ?_ ?_ <;> intro h7 <;> try simp only [bs] at h7
   ·refine af (lU 4 13 aU ?_)
    refine eG rfl ?_
    refine eG rfl ?_
    refine eG rfl ?_
    refine eG rfl ?_
    refine dz ?_
    refine aK (ac rfl) (aK (ac rfl) (aK (dP rfl rfl al ah) ?_))
    refine aK (eH rfl az) ?_
    refine aK (ac rfl) (aK (ac rfl) (aK (dP rfl rfl al ah) ?_))
    refine aK (eH rfl az) ?_
    refine aK (dP rfl rfl al ah) ?_
    refine cH ?_
    refine iS (l := d1.toList) (i := j) (d1.toList.getD (a) default) rfl rfl ah ?_
    have hls8 : (List.set d1.toList (j) (d1.toList.getD (a) default)).length = (d1.toList).length := List.length_set
    refine zz0 (dP rfl rfl al ah) ?_
    refine iS (l := (d1.toList.set (j) (d1.toList.getD (a) default))) (i := a) (d1.toList.getD (j) default) rfl rfl ah ?_
    have hls9 : (List.set (d1.toList.set (j) (d1.toList.getD (a) default)) (a) (d1.toList.getD (j) default)).length = ((d1.toList.set (j) (d1.toList.getD (a) default))).length := List.length_set
    rw [dt, dt, gQ]
    refine ae (aa (af (ab (zz0 (ac rfl) (zz0 (ad rfl) (zz0 (ad rfl) (ae (aa (ao (an ?_))))))))))
    refine cy Tryz.results109 rfl rfl (fun w' hw => ?_)
    have hpt : partition ltW d a b p = (j, true, swp d1 j a) := by
     unfold partition; simp only [← hd1, hI, hJ]; rw [if_pos (by omega)]
    exact ⟨by rw [hpt], by rw [hpt]; exact HpOK.mutOwn hw (.head _) rfl⟩
   ·refine ax (aa (af ?_))
    have hij : i < j := by
     rcases Nat.lt_or_ge i j with q | q
     ·exact q
     ·exfalso
      have e : i = j := by omega
      rcases h4 with g1 | g1
      ·omega
      ·rcases h6 with g2 | g2
       ·omega
       ·rw [e, g2] at g1; cases g1
    refine lU 4 13 aU ?_
    refine eG rfl ?_
    refine eG rfl ?_
    refine eG rfl ?_
    refine eG rfl ?_
    refine dz ?_
    refine aK (ac rfl) (aK (ac rfl) (aK (dP rfl rfl al ah) ?_))
    refine aK (eH rfl az) ?_
    refine aK (ac rfl) (aK (ac rfl) (aK (dP rfl rfl al ah) ?_))
    refine aK (eH rfl az) ?_
    refine aK (dP rfl rfl al ah) ?_
    refine cH ?_
    refine iS (l := d1.toList) (i := i) (d1.toList.getD (j) default) rfl rfl ah ?_
    have hls10 : (List.set d1.toList (i) (d1.toList.getD (j) default)).length = (d1.toList).length := List.length_set
    refine zz0 (dP rfl rfl al ah) ?_
    refine iS (l := (d1.toList.set (i) (d1.toList.getD (j) default))) (i := j) (d1.toList.getD (i) default) rfl rfl ah ?_
    have hls11 : (List.set (d1.toList.set (i) (d1.toList.getD (j) default)) (j) (d1.toList.getD (i) default)).length = ((d1.toList.set (i) (d1.toList.getD (j) default))).length := List.length_set
    rw [dt, dt, gQ]
    refine ae (aa (af (ab (zz0 (ac rfl) (zz0 (dq rfl rfl) ?_)))))
    refine zz0 (ad rfl) (ae (aa (af (ab (zz0 (ac rfl) (zz0 (eE rfl rfl) ?_))))))
    refine zz0 (ad rfl) (ae (aa (af (aQ ?_))))
    refine cp (ι := Nat × Nat × Array UInt32) (fun ⟨i3, j3, cur⟩ => (a + 1 ≤ i3 ∧ i3 ≤ j3 + 1 ∧ j3 < b) ∧ cur.size = d.size ∧ partLoop ltW a i3 j3 cur = partLoop ltW a (i + 1) (j - 1) (swp d1 i j)) (fun _ => _) (fun ⟨i3, j3, cur⟩ => [rowE V 23 av cur.toList]) (fun ⟨i3, j3, cur⟩ => [(10, .int .i64 (i3 : Nat)), (11, .int .i64 (j3 : Nat))]) (fun ⟨i3, j3, cur⟩ => j3 + 1 - i3) (i + 1, j - 1, swp d1 i j) ⟨by omega, by rw [lY]; exact hs1, rfl⟩ (.cons (by first | rfl | exact am rfl (by omega) | exact am rfl (by simp) | exact aS rfl (by simp)) (.cons (by first | rfl | exact am rfl (by omega) | exact am rfl (by simp) | exact aS rfl (by simp)) Front.nil)) (by repeat' constructor) rfl (fun i hi m hm => ?_)
    obtain ⟨i3, j3, cur⟩ := i
    replace hi : (a + 1 ≤ i3 ∧ i3 ≤ j3 + 1 ∧ j3 < b) ∧ cur.size = d.size ∧ partLoop ltW a i3 j3 cur = partLoop ltW a (i + 1) (j - 1) (swp d1 i j) := hi
    replace hm : m = j3 + 1 - i3 := hm
    change Tr _ _ [rowE V 23 av cur.toList] ([(10, .int .i64 (i3 : Nat)), (11, .int .i64 (j3 : Nat))] ++ _) _
    obtain ⟨hk1, hk2, hk3⟩ := hi
    have hcl : cur.toList.length = d.size := by rw [Array.length_toList]; exact hk2
    refine aQ (af (aQ ?_))
    refine cp (ι := Nat) (fun x => i3 ≤ x ∧ x ≤ j3 + 1 ∧ scanUp (fun z => ltW z cur[a]!) cur j3 x = scanUp (fun z => ltW z cur[a]!) cur j3 i3) (fun _ => _) (fun x => [rowE V 23 av cur.toList]) (fun x => [(10, .int .i64 (x : Nat)), (11, .int .i64 (j3 : Nat))]) (fun x => j3 + 1 - x) i3 ⟨Nat.le_refl _, by omega, rfl⟩ (.cons (by first | rfl | exact am rfl (by omega) | exact am rfl (by simp) | exact aS rfl (by simp)) (.cons (by first | rfl | exact am rfl (by omega) | exact am rfl (by simp) | exact aS rfl (by simp)) Front.nil)) (by repeat' constructor) rfl (fun x hi m hm => ?_)
    replace hi : i3 ≤ x ∧ x ≤ j3 + 1 ∧ scanUp (fun z => ltW z cur[a]!) cur j3 x = scanUp (fun z => ltW z cur[a]!) cur j3 i3 := hi
    replace hm : m = j3 + 1 - x := hm
    change Tr _ _ [rowE V 23 av cur.toList] ([(10, .int .i64 (x : Nat)), (11, .int .i64 (j3 : Nat))] ++ _) _
    obtain ⟨hx1, hx2, hx3⟩ := hi
    refine af (af (ja aU ?_))
    refine aK (ac rfl) (aK (ac rfl) (aK (dO rfl rfl) (aK (ac rfl) ?_)))
    apply gi
    ·exact (rfl : _ = (10, 102, 112))
    ·exact rfl
    ·intro hT12; have hT12' := hT12
     try simp only [bs] at hT12'
     refine bY hT12 (ac rfl) (bY hT12 (ac rfl) (bY hT12 (dP rfl rfl al ah) ?_))
     refine bY hT12 (eH rfl az) ?_
     refine bY hT12 (ac rfl) (bY hT12 (ac rfl) (bY hT12 (dP rfl rfl al ah) ?_))
     refine bY hT12 (eH rfl az) ?_
     refine bY hT12 (aB rfl eU (fun w hw => gf (cur.toList.getD (x) default) (cur.toList.getD (a) default) w)) ?_
     refine aK (aE rfl hT12 rfl) ?_
     exact dh (Sub.cons rfl (zz7 10 rfl))
    ·intro hF12
     refine bZ hF12 (bZ hF12 (bZ hF12 (bZ hF12 (bZ hF12 (bZ hF12 (bZ hF12 (bZ hF12 (bZ hF12 (aK (aF rfl hF12 rfl) ?_)))))))))
     exact dh (Sub.cons rfl (zz7 10 rfl))
    refine cH ?_
    refine aa ?_
    refine ak rfl ?_ ?_ <;> intro h13 <;> try simp only [bs] at h13
    ·refine ax (aa (aQ (ab (zz0 (ac rfl) (zz0 (dq rfl rfl) ?_)))))
     refine zz0 (ad rfl) (ae (a9 (aa ?_)))
     apply bP (x + 1)
     ·exact rfl
     ·exact (.cons (by first | rfl | exact am rfl (by omega) | exact am rfl (by simp) | exact aS rfl (by simp)) (.cons (by first | rfl | exact am rfl (by omega) | exact am rfl (by simp) | exact aS rfl (by simp)) Front.nil))
     ·exact bQ 10 rfl
     ·exact (by repeat' constructor)
     ·exact ⟨by omega, by omega, by rw [← hx3]; exact (yc (by omega) (by rw [← dt, ← dt]; simp_all)).symm⟩
     ·exact (by (try dsimp only); omega)
    ·refine cm (aV (aV (bT (aa (af (aQ ?_))))))
     refine cp (ι := Nat) (fun y => y ≤ j3 ∧ x ≤ y + 1 ∧ scanDown (fun z => !ltW z cur[a]!) cur x y = scanDown (fun z => !ltW z cur[a]!) cur x j3) (fun _ => _) (fun y => [rowE V 23 av cur.toList]) (fun y => [(10, .int .i64 (x : Nat)), (11, .int .i64 (y : Nat))]) (fun y => y) j3 ⟨Nat.le_refl _, by omega, rfl⟩ (.cons (by first | rfl | exact am rfl (by omega) | exact am rfl (by simp) | exact aS rfl (by simp)) (.cons (by first | rfl | exact am rfl (by omega) | exact am rfl (by simp) | exact aS rfl (by simp)) Front.nil)) (by repeat' constructor) rfl (fun y hi m hm => ?_)
     replace hi : y ≤ j3 ∧ x ≤ y + 1 ∧ scanDown (fun z => !ltW z cur[a]!) cur x y = scanDown (fun z => !ltW z cur[a]!) cur x j3 := hi
     replace hm : m = y := hm
     change Tr _ _ [rowE V 23 av cur.toList] ([(10, .int .i64 (x : Nat)), (11, .int .i64 (y : Nat))] ++ _) _
     obtain ⟨hy1, hy2, hy3⟩ := hi
     refine af (af (ja aU ?_))
     refine aK (ac rfl) (aK (ac rfl) (aK (dO rfl rfl) (aK (ac rfl) ?_)))
     apply gi
     ·exact (rfl : _ = (11, 118, 129))
     ·exact rfl
     ·intro hT14; have hT14' := hT14
      try simp only [bs] at hT14'
      refine bY hT14 (ac rfl) (bY hT14 (ac rfl) (bY hT14 (dP rfl rfl al ah) ?_))
      refine bY hT14 (eH rfl az) ?_
      refine bY hT14 (ac rfl) (bY hT14 (ac rfl) (bY hT14 (dP rfl rfl al ah) ?_))
      refine bY hT14 (eH rfl az) ?_
      refine bY hT14 (aB rfl eU (fun w hw => gf (cur.toList.getD (y) default) (cur.toList.getD (a) default) w)) ?_
      refine bY hT14 (cj rfl) (aK (aE rfl hT14 rfl) ?_)
      exact dh (Sub.cons rfl (zz7 11 rfl))
     ·intro hF14
      refine bZ hF14 (bZ hF14 (bZ hF14 (bZ hF14 (bZ hF14 (bZ hF14 (bZ hF14 (bZ hF14 (bZ hF14 (bZ hF14 (aK (aF rfl hF14 rfl) ?_))))))))))
      exact dh (Sub.cons rfl (zz7 11 rfl))
     refine cH ?_
     refine aa ?_
     refine ak rfl ?_ ?_ <;> intro h15 <;> try simp only [bs] at h15
     ·refine ax (aa (aQ (ab (zz0 (ac rfl) (zz0 (eE rfl rfl) ?_)))))
      refine zz0 (ad rfl) (ae (a9 (aa ?_)))
      apply bP (y - 1)
      ·exact rfl
      ·exact (.cons (by first | rfl | exact am rfl (by omega) | exact am rfl (by simp) | exact aS rfl (by simp)) (.cons (by first | rfl | exact am rfl (by omega) | exact am rfl (by simp) | exact aS rfl (by simp)) Front.nil))
      ·exact bQ 10 rfl
      ·exact (by repeat' constructor)
      ·exact ⟨by omega, by omega, by rw [← hy3]; exact (sH (by omega) (by omega) (by rw [← dt, ← dt]; simp_all)).symm⟩
      ·exact (by (try dsimp only); omega)
     ·refine cm (aV (aV (bT (aa (af (af ?_))))))
      have hX : scanUp (fun z => ltW z cur[a]!) cur j3 i3 = x := by
       rw [← hx3]; exact se (by
        rcases h13 with q | q
        ·exact .inl (by omega)
        ·exact .inr (by rw [← dt, ← dt]; exact q))
      have hY : scanDown (fun z => !ltW z cur[a]!) cur x j3 = y := by
       rw [← hy3]; exact ov (by
        rcases h15 with q | q
        ·exact .inl (by omega)
        ·exact .inr (by rw [← dt, ← dt, q]; rfl))
      refine ab (zz0 (ac rfl) (zz0 (ac rfl) (zz0 (fG rfl rfl) (ae (aa ?_)))))
      refine ak rfl ?_ ?_ <;> intro h16 <;> try simp only [bs] at h16
      ·refine cm (aV (ko rfl ?_))
       refine aV (bT (aa (af (lU 4 13 aU ?_))))
       refine eG rfl ?_
       refine eG rfl ?_
       refine eG rfl ?_
       refine eG rfl ?_
       refine dz ?_
       refine aK (ac rfl) (aK (ac rfl) (aK (dP rfl rfl al ah) ?_))
       refine aK (eH rfl az) ?_
       refine aK (ac rfl) (aK (ac rfl) (aK (dP rfl rfl al ah) ?_))
       refine aK (eH rfl az) ?_
       refine aK (dP rfl rfl al ah) ?_
       refine cH ?_
       refine iS (l := cur.toList) (i := y) (cur.toList.getD (a) default) rfl rfl ah ?_
       have hls17 : (List.set cur.toList (y) (cur.toList.getD (a) default)).length = (cur.toList).length := List.length_set
       refine zz0 (dP rfl rfl al ah) ?_
       refine iS (l := (cur.toList.set (y) (cur.toList.getD (a) default))) (i := a) (cur.toList.getD (y) default) rfl rfl ah ?_
       have hls18 : (List.set (cur.toList.set (y) (cur.toList.getD (a) default)) (a) (cur.toList.getD (y) default)).length = ((cur.toList.set (y) (cur.toList.getD (a) default))).length := List.length_set
       rw [dt, dt, gQ]
       refine ae (aa (af (ab (zz0 (ac rfl) (zz0 (ad rfl) (zz0 (ad rfl) (ae (aa (ao ?_)))))))))
       refine cy Tryz.results109 rfl rfl (fun w' hw => ?_)
       have he := yQ hX hY (by omega)
       have hpt : partition ltW d a b p = (y, false, swp cur y a) := by
        unfold partition; simp only [← hd1, hI, hJ]; rw [if_neg (by omega), ← hk3, he]
       exact ⟨by rw [hpt], by rw [hpt]; exact HpOK.mutOwn hw (.head _) rfl⟩
      ·refine ax (aa (af ?_))
       have hxy : x < y := by
        rcases Nat.lt_or_ge x y with q | q
        ·exact q
        ·exfalso
         have e : x = y := by omega
         rcases h13 with g1 | g1
         ·omega
         ·rcases h15 with g2 | g2
          ·omega
          ·rw [e, g2] at g1; cases g1
       refine lU 4 13 aU ?_
       refine eG rfl ?_
       refine eG rfl ?_
       refine eG rfl ?_
       refine eG rfl ?_
       refine dz ?_
       refine aK (ac rfl) (aK (ac rfl) (aK (dP rfl rfl al ah) ?_))
       refine aK (eH rfl az) ?_
       refine aK (ac rfl) (aK (ac rfl) (aK (dP rfl rfl al ah) ?_))
       refine aK (eH rfl az) ?_
       refine aK (dP rfl rfl al ah) ?_
       refine cH ?_
       refine iS (l := cur.toList) (i := x) (cur.toList.getD (y) default) rfl rfl ah ?_
       have hls19 : (List.set cur.toList (x) (cur.toList.getD (y) default)).length = (cur.toList).length := List.length_set
       refine zz0 (dP rfl rfl al ah) ?_
       refine iS (l := (cur.toList.set (x) (cur.toList.getD (y) default))) (i := y) (cur.toList.getD (x) default) rfl rfl ah ?_
       have hls20 : (List.set (cur.toList.set (x) (cur.toList.getD (y) default)) (y) (cur.toList.getD (x) default)).length = ((cur.toList.set (x) (cur.toList.getD (y) default))).length := List.length_set
       refine ae (aa (af (ab (zz0 (ac rfl) (zz0 (dq rfl rfl) ?_)))))
       refine zz0 (ad rfl) (ae (aa (ab (zz0 (ac rfl) (zz0 (eE rfl rfl) ?_)))))
       refine zz0 (ad rfl) (ae (a9 (aa ?_)))
       rw [dt, dt, gQ]
       apply bP (x + 1, y - 1, _)
       ·exact rfl
       ·exact (.cons (by first | rfl | exact am rfl (by omega) | exact am rfl (by simp) | exact aS rfl (by simp)) (.cons (by first | rfl | exact am rfl (by omega) | exact am rfl (by simp) | exact aS rfl (by simp)) Front.nil))
       ·exact bQ 39 rfl
       ·exact (by repeat' constructor)
       ·exact ⟨by omega, by rw [lY]; exact hk2, by rw [← hk3]; exact (tY hX hY hxy hx1 hy1).symm⟩
       ·exact (by (try dsimp only); omega)
theorem o8 (d : Array UInt32) (V : Value) (a : Nat) (b : Nat) (p : Nat) (ai : Int) (bi : Int) (pi : Int) (ea : ai = ((a : Nat) : Int)) (eb : bi = ((b : Nat) : Int)) (ep : pi = ((p : Nat) : Int)) (w : World) (hr : (rowE V 23 av d.toList).holds w) (hd : d.size ≤ 1000000) (hab : a + 1 < b) (hb : b ≤ d.size) (hp : p < b) :
  Calls Tryz.prog 108 #[V, .int .i64 ai, .int .i64 bi, .int .i64 pi] w (fun e w' => e = .returned (.int .i64 ((partitionEqual ltW d a b p).1 : Nat)) ∧ Mut w w' V ∧ (rowE V 23 av (partitionEqual ltW d a b p).2.toList).holds w') := by
 subst ea eb ep
 obtain ⟨d1, hd1⟩ : ∃ x, x = swp d a p := ⟨_, rfl⟩
 have hs1 : d1.size = d.size := by rw [hd1, lY]
 have hl0 : d.toList.length = d.size := Array.length_toList
 have hl1 : d1.toList.length = d.size := by rw [Array.length_toList]; exact hs1
 refine ij (l := d.toList) (E := av) (T := 23) hr Tryz.func108 rfl Tryz.ntmps108 rfl ?_
 refine af (ab (zz0 (ad rfl) (ae (aa (af (lU 4 13 aU ?_))))))
 refine eG rfl ?_
 refine eG rfl ?_
 refine eG rfl ?_
 refine eG rfl ?_
 refine dz ?_
 refine aK (ac rfl) (aK (ac rfl) (aK (dP rfl rfl al ah) ?_))
 refine aK (eH rfl az) ?_
 refine aK (ac rfl) (aK (ac rfl) (aK (dP rfl rfl al ah) ?_))
 refine aK (eH rfl az) ?_
 refine aK (dP rfl rfl al ah) ?_
 refine cH ?_
 refine iS (l := d.toList) (i := a) (d.toList.getD (p) default) rfl rfl ah ?_
 have hls1 : (List.set d.toList (a) (d.toList.getD (p) default)).length = (d.toList).length := List.length_set
 refine zz0 (dP rfl rfl al ah) ?_
 refine iS (l := (d.toList.set (a) (d.toList.getD (p) default))) (i := p) (d.toList.getD (a) default) rfl rfl ah ?_
 have hls2 : (List.set (d.toList.set (a) (d.toList.getD (p) default)) (p) (d.toList.getD (a) default)).length = ((d.toList.set (a) (d.toList.getD (p) default))).length := List.length_set
 rw [dt, dt, gQ, ← hd1]
 refine ae (aa (af (ab (zz0 (ac rfl) (zz0 (dq rfl rfl) ?_)))))
 refine zz0 (ac rfl) (zz0 (eE rfl rfl) ?_)
 refine zz0 (ad rfl) (zz0 (ad rfl) (ae (aa (af (aQ ?_)))))
 refine cp (ι := Nat × Nat × Array UInt32) (fun ⟨i3, j3, cur⟩ => (a + 1 ≤ i3 ∧ i3 ≤ j3 + 1 ∧ j3 < b) ∧ cur.size = d.size ∧ partEqLoop ltW a i3 j3 cur = partitionEqual ltW d a b p) (fun _ => _) (fun ⟨i3, j3, cur⟩ => [rowE V 23 av cur.toList]) (fun ⟨i3, j3, cur⟩ => [(9, .int .i64 (i3 : Nat)), (10, .int .i64 (j3 : Nat))]) (fun ⟨i3, j3, cur⟩ => j3 + 1 - i3) (a + 1, b - 1, d1) ⟨by omega, hs1, by rw [hd1]; rfl⟩ (.cons (by first | rfl | exact am rfl (by omega) | exact am rfl (by simp) | exact aS rfl (by simp)) (.cons (by first | rfl | exact am rfl (by omega) | exact am rfl (by simp) | exact aS rfl (by simp)) Front.nil)) (by repeat' constructor) rfl (fun i hi m hm => ?_)
 obtain ⟨i3, j3, cur⟩ := i
 replace hi : (a + 1 ≤ i3 ∧ i3 ≤ j3 + 1 ∧ j3 < b) ∧ cur.size = d.size ∧ partEqLoop ltW a i3 j3 cur = partitionEqual ltW d a b p := hi
 replace hm : m = j3 + 1 - i3 := hm
 change Tr _ _ [rowE V 23 av cur.toList] ([(9, .int .i64 (i3 : Nat)), (10, .int .i64 (j3 : Nat))] ++ _) _
 obtain ⟨hk1, hk2, hk3⟩ := hi
 have hcl : cur.toList.length = d.size := by rw [Array.length_toList]; exact hk2
 refine aQ (af (aQ ?_))
 refine cp (ι := Nat) (fun x => i3 ≤ x ∧ x ≤ j3 + 1 ∧ scanUp (fun z => !ltW cur[a]! z) cur j3 x = scanUp (fun z => !ltW cur[a]! z) cur j3 i3) (fun _ => _) (fun x => [rowE V 23 av cur.toList]) (fun x => [(9, .int .i64 (x : Nat)), (10, .int .i64 (j3 : Nat))]) (fun x => j3 + 1 - x) i3 ⟨Nat.le_refl _, by omega, rfl⟩ (.cons (by first | rfl | exact am rfl (by omega) | exact am rfl (by simp) | exact aS rfl (by simp)) (.cons (by first | rfl | exact am rfl (by omega) | exact am rfl (by simp) | exact aS rfl (by simp)) Front.nil)) (by repeat' constructor) rfl (fun x hi m hm => ?_)
 replace hi : i3 ≤ x ∧ x ≤ j3 + 1 ∧ scanUp (fun z => !ltW cur[a]! z) cur j3 x = scanUp (fun z => !ltW cur[a]! z) cur j3 i3 := hi
 replace hm : m = j3 + 1 - x := hm
 change Tr _ _ [rowE V 23 av cur.toList] ([(9, .int .i64 (x : Nat)), (10, .int .i64 (j3 : Nat))] ++ _) _
 obtain ⟨hx1, hx2, hx3⟩ := hi
 refine af (af (ja aU ?_))
 refine aK (ac rfl) (aK (ac rfl) (aK (dO rfl rfl) (aK (ac rfl) ?_)))
 apply gi
 ·exact (rfl : _ = (11, 32, 43))
 ·exact rfl
 ·intro hT3; have hT3' := hT3
  try simp only [bs] at hT3'
  refine bY hT3 (ac rfl) (bY hT3 (ac rfl) (bY hT3 (dP rfl rfl al ah) ?_))
  refine bY hT3 (eH rfl az) ?_
  refine bY hT3 (ac rfl) (bY hT3 (ac rfl) (bY hT3 (dP rfl rfl al ah) ?_))
  refine bY hT3 (eH rfl az) ?_
  refine bY hT3 (aB rfl eU (fun w hw => gf (cur.toList.getD (a) default) (cur.toList.getD (x) default) w)) ?_
  refine bY hT3 (cj rfl) (aK (aE rfl hT3 rfl) ?_)
  exact dh (Sub.cons rfl (zz7 11 rfl))
 ·intro hF3
  refine bZ hF3 (bZ hF3 (bZ hF3 (bZ hF3 (bZ hF3 (bZ hF3 (bZ hF3 (bZ hF3 (bZ hF3 (bZ hF3 (aK (aF rfl hF3 rfl) ?_))))))))))
  exact dh (Sub.cons rfl (zz7 11 rfl))
 refine cH ?_
 refine aa ?_
 refine ak rfl ?_ ?_ <;> intro h4 <;> try simp only [bs] at h4
 ·refine ax (aa (aQ (ab (zz0 (ac rfl) (zz0 (dq rfl rfl) ?_)))))
  refine zz0 (ad rfl) (ae (a9 (aa ?_)))
  apply bP (x + 1)
  ·exact rfl
  ·exact (.cons (by first | rfl | exact am rfl (by omega) | exact am rfl (by simp) | exact aS rfl (by simp)) (.cons (by first | rfl | exact am rfl (by omega) | exact am rfl (by simp) | exact aS rfl (by simp)) Front.nil))
  ·exact bQ 10 rfl
  ·exact (by repeat' constructor)
  ·exact ⟨by omega, by omega, by rw [← hx3]; exact (yc (by omega) (by rw [← dt, ← dt]; simp_all)).symm⟩
  ·exact (by (try dsimp only); omega)
 ·refine cm (aV (aV (bT (aa (af (aQ ?_))))))
  refine cp (ι := Nat) (fun y => y ≤ j3 ∧ x ≤ y + 1 ∧ scanDown (fun z => ltW cur[a]! z) cur x y = scanDown (fun z => ltW cur[a]! z) cur x j3) (fun _ => _) (fun y => [rowE V 23 av cur.toList]) (fun y => [(9, .int .i64 (x : Nat)), (10, .int .i64 (y : Nat))]) (fun y => y) j3 ⟨Nat.le_refl _, by omega, rfl⟩ (.cons (by first | rfl | exact am rfl (by omega) | exact am rfl (by simp) | exact aS rfl (by simp)) (.cons (by first | rfl | exact am rfl (by omega) | exact am rfl (by simp) | exact aS rfl (by simp)) Front.nil)) (by repeat' constructor) rfl (fun y hi m hm => ?_)
  replace hi : y ≤ j3 ∧ x ≤ y + 1 ∧ scanDown (fun z => ltW cur[a]! z) cur x y = scanDown (fun z => ltW cur[a]! z) cur x j3 := hi
  replace hm : m = y := hm
  change Tr _ _ [rowE V 23 av cur.toList] ([(9, .int .i64 (x : Nat)), (10, .int .i64 (y : Nat))] ++ _) _
  obtain ⟨hy1, hy2, hy3⟩ := hi
  refine af (af (ja aU ?_))
  refine aK (ac rfl) (aK (ac rfl) (aK (dO rfl rfl) (aK (ac rfl) ?_)))
  apply gi
  ·exact (rfl : _ = (10, 49, 59))
  ·exact rfl
  ·intro hT5; have hT5' := hT5
   try simp only [bs] at hT5'
   refine bY hT5 (ac rfl) (bY hT5 (ac rfl) (bY hT5 (dP rfl rfl al ah) ?_))
   refine bY hT5 (eH rfl az) ?_
   refine bY hT5 (ac rfl) (bY hT5 (ac rfl) (bY hT5 (dP rfl rfl al ah) ?_))
   refine bY hT5 (eH rfl az) ?_
   refine bY hT5 (aB rfl eU (fun w hw => gf (cur.toList.getD (a) default) (cur.toList.getD (y) default) w)) ?_
   refine aK (aE rfl hT5 rfl) ?_
   exact dh (Sub.cons rfl (zz7 10 rfl))
  ·intro hF5
   refine bZ hF5 (bZ hF5 (bZ hF5 (bZ hF5 (bZ hF5 (bZ hF5 (bZ hF5 (bZ hF5 (bZ hF5 (aK (aF rfl hF5 rfl) ?_)))))))))
   exact dh (Sub.cons rfl (zz7 10 rfl))
  refine cH ?_
  refine aa ?_
  refine ak rfl ?_ ?_ <;> intro h6 <;> try simp only [bs] at h6
  ·refine ax (aa (aQ (ab (zz0 (ac rfl) (zz0 (eE rfl rfl) ?_)))))
   refine zz0 (ad rfl) (ae (a9 (aa ?_)))
   apply bP (y - 1)
   ·exact rfl
   ·exact (.cons (by first | rfl | exact am rfl (by omega) | exact am rfl (by simp) | exact aS rfl (by simp)) (.cons (by first | rfl | exact am rfl (by omega) | exact am rfl (by simp) | exact aS rfl (by simp)) Front.nil))
   ·exact bQ 10 rfl
   ·exact (by repeat' constructor)
   ·exact ⟨by omega, by omega, by rw [← hy3]; exact (sH (by omega) (by omega) (by rw [← dt, ← dt]; simp_all)).symm⟩
   ·exact (by (try dsimp only); omega)
  ·refine cm (aV (aV (bT (aa (af (af ?_))))))
   have hX : scanUp (fun z => !ltW cur[a]! z) cur j3 i3 = x := by
    rw [← hx3]; exact se (by
     rcases h4 with q | q
     ·exact .inl (by omega)
     ·exact .inr (by rw [← dt, ← dt, q]; rfl))
   have hY : scanDown (fun z => ltW cur[a]! z) cur x j3 = y := by
    rw [← hy3]; exact ov (by
     rcases h6 with q | q
     ·exact .inl (by omega)
     ·exact .inr (by rw [← dt, ← dt]; exact q))
   refine ab (zz0 (ac rfl) (zz0 (ac rfl) (zz0 (fG rfl rfl) (ae (aa ?_)))))
   refine ak rfl ?_ ?_ <;> intro h7 <;> try simp only [bs] at h7
   ·refine cm (aV (ko rfl ?_))
    refine aV (bT (aa (af (ab (zz0 (ac rfl) (zz0 (ad rfl) (ae (aa (ao ?_)))))))))
    refine aI Tryz.results108 rfl (fun w' hw => ?_)
    have he := u3 hX hY (by omega)
    rw [he] at hk3
    exact ⟨by rw [← hk3], by rw [← hk3]; exact HpOK.mutOwn hw (.head _) rfl⟩
   ·refine ax (aa (af ?_))
    have hxy : x < y := by
     rcases Nat.lt_or_ge x y with q | q
     ·exact q
     ·exfalso
      have e : x = y := by omega
      rcases h4 with g1 | g1
      ·omega
      ·rcases h6 with g2 | g2
       ·omega
       ·rw [e, g2] at g1; cases g1
    refine lU 4 13 aU ?_
    refine eG rfl ?_
    refine eG rfl ?_
    refine eG rfl ?_
    refine eG rfl ?_
    refine dz ?_
    refine aK (ac rfl) (aK (ac rfl) (aK (dP rfl rfl al ah) ?_))
    refine aK (eH rfl az) ?_
    refine aK (ac rfl) (aK (ac rfl) (aK (dP rfl rfl al ah) ?_))
    refine aK (eH rfl az) ?_
    refine aK (dP rfl rfl al ah) ?_
    refine cH ?_
    refine iS (l := cur.toList) (i := x) (cur.toList.getD (y) default) rfl rfl ah ?_
    have hls8 : (List.set cur.toList (x) (cur.toList.getD (y) default)).length = (cur.toList).length := List.length_set
    refine zz0 (dP rfl rfl al ah) ?_
    refine iS (l := (cur.toList.set (x) (cur.toList.getD (y) default))) (i := y) (cur.toList.getD (x) default) rfl rfl ah ?_
    have hls9 : (List.set (cur.toList.set (x) (cur.toList.getD (y) default)) (y) (cur.toList.getD (x) default)).length = ((cur.toList.set (x) (cur.toList.getD (y) default))).length := List.length_set
    refine ae (aa (af (ab (zz0 (ac rfl) (zz0 (dq rfl rfl) ?_)))))
    refine zz0 (ad rfl) (ae (aa (ab (zz0 (ac rfl) (zz0 (eE rfl rfl) ?_)))))
    refine zz0 (ad rfl) (ae (a9 (aa ?_)))
    rw [dt, dt, gQ]
    apply bP (x + 1, y - 1, _)
    ·exact rfl
    ·exact (.cons (by first | rfl | exact am rfl (by omega) | exact am rfl (by simp) | exact aS rfl (by simp)) (.cons (by first | rfl | exact am rfl (by omega) | exact am rfl (by simp) | exact aS rfl (by simp)) Front.nil))
    ·exact bQ 39 rfl
    ·exact (by repeat' constructor)
    ·exact ⟨by omega, by rw [lY]; exact hk2, by rw [← hk3]; exact (xo hX hY hxy hx1 hy1).symm⟩
    ·exact (by (try dsimp only); omega)
theorem qf (d : Array UInt32) (V : Value) (a : Nat) (b : Nat) (ai : Int) (bi : Int) (ea : ai = ((a : Nat) : Int)) (eb : bi = ((b : Nat) : Int)) (w : World) (hr : (rowE V 23 av d.toList).holds w) (hd : d.size ≤ 1000000) (hab : a + 1 < b) (hb : b ≤ d.size) :
  Calls Tryz.prog 106 #[V, .int .i64 ai, .int .i64 bi] w (fun e w' => e = .returned (.bool (partialInsertionSort ltW d a b).2) ∧ Mut w w' V ∧ (rowE V 23 av (partialInsertionSort ltW d a b).1.toList).holds w') := by
 subst ea eb
 refine ij (l := d.toList) (E := av) (T := 23) hr Tryz.func106 rfl Tryz.ntmps106 rfl ?_
 refine af (ab (zz0 (ad rfl) (ae (aa (af (ab (zz0 (ac rfl) (zz0 (dq rfl rfl) ?_))))))))
 refine zz0 (ad rfl) (ae (aa (af (af (ab (zz0 (ad rfl) (ae (aa (aQ ?_)))))))))
 refine cp (ι := Nat × Nat × Array UInt32) (fun ⟨s, i, cur⟩ => (s ≤ 5 ∧ a + 1 ≤ i ∧ i ≤ b) ∧ cur.size = d.size ∧ partialIns ltW a b (5 - s) i cur = partialInsertionSort ltW d a b) (fun _ => _) (fun ⟨s, i, cur⟩ => [rowE V 23 av cur.toList]) (fun ⟨s, i, cur⟩ => [(8, .int .i64 (s : Nat)), (7, .int .i64 (i : Nat))]) (fun ⟨s, i, cur⟩ => 5 - s) (0, a + 1, d) ⟨by omega, rfl, rfl⟩ (.cons (by first | rfl | exact am rfl (by omega) | exact am rfl (by simp) | exact aS rfl (by simp)) (.cons (by first | rfl | exact am rfl (by omega) | exact am rfl (by simp) | exact aS rfl (by simp)) Front.nil)) (by repeat' constructor) rfl (fun i hi m hm => ?_)
 obtain ⟨s, i, cur⟩ := i
 replace hi : (s ≤ 5 ∧ a + 1 ≤ i ∧ i ≤ b) ∧ cur.size = d.size ∧ partialIns ltW a b (5 - s) i cur = partialInsertionSort ltW d a b := hi
 replace hm : m = 5 - s := hm
 change Tr _ _ [rowE V 23 av cur.toList] ([(8, .int .i64 (s : Nat)), (7, .int .i64 (i : Nat))] ++ _) _
 obtain ⟨hk1, hk2, hk3⟩ := hi
 have hcl : cur.toList.length = d.size := by rw [Array.length_toList]; exact hk2
 refine af (af (ab (zz0 (ac rfl) (zz0 (cE rfl rfl) (ae (aa ?_))))))
 refine ak rfl ?_ ?_ <;> intro h1 <;> try simp only [bs] at h1
 ·refine ax (aa (af (aQ (af (aQ ?_)))))
  refine cp (ι := Nat) (fun x => i ≤ x ∧ x ≤ b ∧ scanSorted ltW cur b x = scanSorted ltW cur b i) (fun _ => _) (fun x => [rowE V 23 av cur.toList]) (fun x => [(7, .int .i64 (x : Nat)), (8, .int .i64 (s : Nat))]) (fun x => b - x) i ⟨Nat.le_refl _, by omega, rfl⟩ (.cons (by first | rfl | exact am rfl (by omega) | exact am rfl (by simp) | exact aS rfl (by simp)) (.cons (by first | rfl | exact am rfl (by omega) | exact am rfl (by simp) | exact aS rfl (by simp)) Front.nil)) (by repeat' constructor) rfl (fun x hi m hm => ?_)
  replace hi : i ≤ x ∧ x ≤ b ∧ scanSorted ltW cur b x = scanSorted ltW cur b i := hi
  replace hm : m = b - x := hm
  change Tr _ _ [rowE V 23 av cur.toList] ([(7, .int .i64 (x : Nat)), (8, .int .i64 (s : Nat))] ++ _) _
  obtain ⟨hx1, hx2, hx3⟩ := hi
  have ex : ((x : Int) - 1).toNat = x - 1 := by omega
  refine af (af (ja aU ?_))
  refine aK (ac rfl) (aK (ac rfl) (aK (cE rfl rfl) (aK (ac rfl) ?_)))
  apply gi
  ·exact (rfl : _ = (12, 20, 32))
  ·exact rfl
  ·intro hT2; have hT2' := hT2
   try simp only [bs] at hT2'
   refine bY hT2 (ac rfl) (bY hT2 (ac rfl) (bY hT2 (dP rfl rfl al ah) ?_))
   refine bY hT2 (eH rfl az) ?_
   refine bY hT2 (ac rfl) (bY hT2 (ac rfl) (bY hT2 (eE rfl rfl) ?_))
   refine bY hT2 (mz rfl rfl al ah) ?_
   refine bY hT2 (eH rfl az) ?_
   refine bY hT2 (aB rfl eU (fun w hw => gf (cur.toList.getD (x) default) (cur.toList.getD (((x : Int) - 1).toNat) default) w)) ?_
   refine bY hT2 (cj rfl) (aK (aE rfl hT2 rfl) ?_)
   exact dh (Sub.cons rfl (zz7 12 rfl))
  ·intro hF2
   refine bZ hF2 (bZ hF2 (bZ hF2 (bZ hF2 (bZ hF2 (bZ hF2 (bZ hF2 (bZ hF2 (bZ hF2 (bZ hF2 (bZ hF2 (aK (aF rfl hF2 rfl) ?_)))))))))))
   exact dh (Sub.cons rfl (zz7 12 rfl))
  refine cH ?_
  refine aa ?_
  refine ak rfl ?_ ?_ <;> intro h3 <;> try simp only [bs] at h3
  ·refine ax (aa (aQ (ab (zz0 (ac rfl) (zz0 (dq rfl rfl) ?_)))))
   refine zz0 (ad rfl) (ae (a9 (aa ?_)))
   apply bP (x + 1)
   ·exact rfl
   ·exact (.cons (by first | rfl | exact am rfl (by omega) | exact am rfl (by simp) | exact aS rfl (by simp)) (.cons (by first | rfl | exact am rfl (by omega) | exact am rfl (by simp) | exact aS rfl (by simp)) Front.nil))
   ·exact bQ 10 rfl
   ·exact (by repeat' constructor)
   ·exact ⟨by omega, by omega, by rw [← hx3]; exact (B2 (by omega) (by rw [← dt, ← dt, ← ex]; simp_all)).symm⟩
   ·exact (by (try dsimp only); omega)
  ·refine cm (aV (aV (bT (aa (af (af ?_))))))
   have hX : scanSorted ltW cur b i = x := by
    rw [← hx3]; exact Aj (by
     rcases h3 with q | q
     ·exact .inl (by omega)
     ·exact .inr (by rw [← dt, ← dt, ← ex]; exact q))
   refine ab (zz0 (ac rfl) (zz0 (ac rfl) (zz0 (aN rfl rfl) (ae (aa ?_)))))
   refine ak rfl ?_ ?_ <;> intro h4 <;> try simp only [bs] at h4
   ·refine af (ab (zz0 (ad rfl) (ae (aa (ao (an (bf (an (an (bf (an ?_)))))))))))
    refine aI lu rfl (fun w' hw => ?_)
    rw [show 5 - s = (4 - s) + 1 by omega, u5 hX (by omega)] at hk3
    exact ⟨by rw [← hk3], by rw [← hk3]; exact HpOK.mutOwn hw (.head _) rfl⟩
   ·refine ax (aa (af (af (ab (zz0 (ac rfl) (zz0 (ac rfl) (zz0 (eE rfl rfl) ?_)))))))
    refine zz0 (cE rfl rfl) (ae (aa ?_))
    refine ak rfl ?_ ?_ <;> intro h5 <;> try simp only [bs] at h5
    ·refine af (ab (zz0 (ad rfl) (ae (aa (ao (an (bf (an (an (bf (an ?_)))))))))))
     refine aI lu rfl (fun w' hw => ?_)
     rw [show 5 - s = (4 - s) + 1 by omega, Bw hX (by omega) (by omega)] at hk3
     exact ⟨by rw [← hk3], by rw [← hk3]; exact HpOK.mutOwn hw (.head _) rfl⟩
    ·refine ax (aa (af (lU 5 15 aU ?_)))
     refine eG rfl ?_
     refine eG rfl ?_
     refine eG rfl ?_
     refine eG rfl ?_
     refine i6 (fun _ => eE rfl rfl) (by rfl) rfl ?_
     refine dz ?_
     refine aK (ac rfl) (aK (ac rfl) (aK (eE rfl rfl) ?_))
     refine aK (mz rfl rfl al ah) ?_
     refine aK (eH rfl az) ?_
     refine aK (ac rfl) (aK (ac rfl) (aK (dP rfl rfl al ah) ?_))
     refine aK (eH rfl az) ?_
     refine aK (dP rfl rfl al ah) ?_
     refine cH ?_
     refine iS (l := cur.toList) (i := x) (cur.toList.getD (((x : Int) - 1).toNat) default) rfl rfl ah ?_
     have hls6 : (List.set cur.toList (x) (cur.toList.getD (((x : Int) - 1).toNat) default)).length = (cur.toList).length := List.length_set
     refine zz0 (mz rfl rfl al ah) ?_
     refine iS (l := (cur.toList.set (x) (cur.toList.getD (((x : Int) - 1).toNat) default))) (i := ((x : Int) - 1).toNat) (cur.toList.getD (x) default) rfl rfl ah ?_
     have hls7 : (List.set (cur.toList.set (x) (cur.toList.getD (((x : Int) - 1).toNat) default)) (((x : Int) - 1).toNat) (cur.toList.getD (x) default)).length = ((cur.toList.set (x) (cur.toList.getD (((x : Int) - 1).toNat) default))).length := List.length_set
     rw [ex, dt, dt, gQ]
     refine ae (aa ?_)
     refine eJ (ι := Array UInt32) (fun d3 => d3.size = d.size ∧ d3 = if x - a ≥ 2 then shiftDown ltW (x - 1) (swp cur x (x - 1)) else swp cur x (x - 1)) (fun _ => Bg.less w V) (fun d3 => [rowE V 23 av d3.toList]) (fun d3 => []) ?_ (fun d3 hi => ?_)
     ·skip
      refine af (ab (zz0 (ac rfl) (zz0 (ac rfl) (zz0 (eE rfl rfl) ?_))))
      refine zz0 (dl rfl rfl) (ae (aa ?_))
      refine ak rfl ?_ ?_ <;> intro h8 <;> try simp only [bs] at h8
      ·refine af (ab (zz0 (ac rfl) (zz0 (eE rfl rfl) ?_)))
       refine zz0 (ad rfl) (ae (aa (aQ ?_)))
       refine cp (ι := Nat × Array UInt32) (fun ⟨y, c3⟩ => y < x ∧ c3.size = d.size ∧ shiftDown ltW y c3 = shiftDown ltW (x - 1) (swp cur x (x - 1))) (fun _ => _) (fun ⟨y, c3⟩ => [rowE V 23 av c3.toList]) (fun ⟨y, c3⟩ => [(9, .int .i64 (y : Nat))]) (fun ⟨y, c3⟩ => y) (x - 1, _) ⟨by omega, by rw [lY]; exact hk2, rfl⟩ (.cons (by first | rfl | exact am rfl (by omega) | exact am rfl (by simp) | exact aS rfl (by simp)) Front.nil) (by repeat' constructor) rfl (fun i hi m hm => ?_)
       obtain ⟨y, c3⟩ := i
       replace hi : y < x ∧ c3.size = d.size ∧ shiftDown ltW y c3 = shiftDown ltW (x - 1) (swp cur x (x - 1)) := hi
       replace hm : m = y := hm
       change Tr _ _ [rowE V 23 av c3.toList] ([(9, .int .i64 (y : Nat))] ++ _) _
       obtain ⟨hy1, hy2, hy3⟩ := hi
       have ey : ((y : Int) - 1).toNat = y - 1 ∨ y = 0 := by omega
       have hc3 : c3.toList.length = d.size := by rw [Array.length_toList]; exact hy2
       refine af (af (ab (zz0 (ac rfl) (zz0 (dl rfl rfl) (ae (aa ?_))))))
       refine ak rfl ?_ ?_ <;> intro h9 <;> try simp only [bs] at h9
       ·refine ax (aa (af (aQ (af (af (ja aU ?_))))))
        refine aK (ac rfl) (aK (ac rfl) (aK (dP rfl rfl al ah) ?_))
        refine aK (eH rfl az) ?_
        refine aK (ac rfl) (aK (ac rfl) (aK (eE rfl rfl) ?_))
        refine aK (mz rfl rfl al ah) ?_
        refine aK (eH rfl az) ?_
        refine aK (aB rfl eU (fun w hw => gf (c3.toList.getD (y) default) (c3.toList.getD (((y : Int) - 1).toNat) default) w)) ?_
        refine aK (cj rfl) (cH ?_)
        refine aa ?_
        refine ak rfl ?_ ?_ <;> intro h10 <;> try simp only [bs] at h10
        ·refine cm (aV (ko rfl ?_))
         refine aV (aV (bT (aa ?_)))
         apply aZ c3
         ·exact rfl
         ·exact Front.nil
         ·exact bQ 21 rfl
         ·exact (by repeat' constructor)
         ·exact ⟨hy2, by rw [if_pos (by omega), ← hy3]; exact (wa (by first | exact .inl (by omega) | exact .inr (by have e := ey.resolve_right (by omega); rw [← dt, ← dt, ← e]; assumption))).symm⟩
        ·refine ax (aa (lU 5 15 aU ?_))
         refine eG rfl ?_
         refine eG rfl ?_
         refine eG rfl ?_
         refine eG rfl ?_
         refine i6 (fun _ => eE rfl rfl) (by rfl) rfl ?_
         refine dz ?_
         refine aK (ac rfl) (aK (ac rfl) (aK (eE rfl rfl) ?_))
         refine aK (mz rfl rfl al ah) ?_
         refine aK (eH rfl az) ?_
         refine aK (ac rfl) (aK (ac rfl) (aK (dP rfl rfl al ah) ?_))
         refine aK (eH rfl az) ?_
         refine aK (dP rfl rfl al ah) ?_
         refine cH ?_
         refine iS (l := c3.toList) (i := y) (c3.toList.getD (((y : Int) - 1).toNat) default) rfl rfl ah ?_
         have hls11 : (List.set c3.toList (y) (c3.toList.getD (((y : Int) - 1).toNat) default)).length = (c3.toList).length := List.length_set
         refine zz0 (mz rfl rfl al ah) ?_
         refine iS (l := (c3.toList.set (y) (c3.toList.getD (((y : Int) - 1).toNat) default))) (i := ((y : Int) - 1).toNat) (c3.toList.getD (y) default) rfl rfl ah ?_
         have hls12 : (List.set (c3.toList.set (y) (c3.toList.getD (((y : Int) - 1).toNat) default)) (((y : Int) - 1).toNat) (c3.toList.getD (y) default)).length = ((c3.toList.set (y) (c3.toList.getD (((y : Int) - 1).toNat) default))).length := List.length_set
         refine ae (a9 (aa (ab (zz0 (ac rfl) (zz0 (eE rfl rfl) ?_)))))
         refine zz0 (ad rfl) (ae (aa ?_))
         rw [ey.resolve_right (by omega), dt, dt, gQ]
         apply bP (y - 1, _)
         ·exact rfl
         ·exact (.cons (by first | rfl | exact am rfl (by omega) | exact am rfl (by simp) | exact aS rfl (by simp)) Front.nil)
         ·exact bQ 33 rfl
         ·exact (by repeat' constructor)
         ·exact ⟨by omega, by rw [lY]; exact hy2, by rw [← hy3]; exact (B6 (by omega) (by have e := ey.resolve_right (by omega); rw [← dt, ← dt, ← e]; assumption)).symm⟩
         ·exact (by (try dsimp only); omega)
       ·refine cm (aV (aV (bT (aa ?_))))
        apply aZ c3
        ·exact rfl
        ·exact Front.nil
        ·exact bQ 10 rfl
        ·exact (by repeat' constructor)
        ·exact ⟨hy2, by rw [if_pos (by omega), ← hy3]; exact (wa (by first | exact .inl (by omega) | exact .inr (by have e := ey.resolve_right (by omega); rw [← dt, ← dt, ← e]; assumption))).symm⟩
      ·refine ax (aa ?_)
       apply aZ _
       ·exact rfl
       ·exact Front.nil
       ·exact bQ 4 rfl
       ·exact (by repeat' constructor)
       ·exact ⟨by rw [lY]; exact hk2, by rw [if_neg (by omega)]⟩
     ·skip
      replace hi : d3.size = d.size ∧ d3 = if x - a ≥ 2 then shiftDown ltW (x - 1) (swp cur x (x - 1)) else swp cur x (x - 1) := hi
      change Tr _ _ [rowE V 23 av d3.toList] ([] ++ _) _
      have hd3 := hi
      have hl3 : d3.toList.length = d.size := by rw [Array.length_toList]; exact hi.1
      refine af (ab (zz0 (ac rfl) (zz0 (ac rfl) (zz0 (eE rfl rfl) ?_))))
      refine zz0 (dl rfl rfl) (ae (aa ?_))
      refine ak rfl ?_ ?_ <;> intro h13 <;> try simp only [bs] at h13
      ·refine af (ab (zz0 (ac rfl) (zz0 (dq rfl rfl) ?_)))
       refine zz0 (ad rfl) (ae (aa (aQ ?_)))
       refine cp (ι := Nat × Array UInt32) (fun ⟨z, c4⟩ => x < z ∧ c4.size = d.size ∧ shiftUp ltW b z c4 = shiftUp ltW b (x + 1) d3) (fun _ => _) (fun ⟨z, c4⟩ => [rowE V 23 av c4.toList]) (fun ⟨z, c4⟩ => [(10, .int .i64 (z : Nat))]) (fun ⟨z, c4⟩ => b - z) (x + 1, d3) ⟨by omega, hd3.1, rfl⟩ (.cons (by first | rfl | exact am rfl (by omega) | exact am rfl (by simp) | exact aS rfl (by simp)) Front.nil) (by repeat' constructor) rfl (fun i hi m hm => ?_)
       obtain ⟨z, c4⟩ := i
       replace hi : x < z ∧ c4.size = d.size ∧ shiftUp ltW b z c4 = shiftUp ltW b (x + 1) d3 := hi
       replace hm : m = b - z := hm
       change Tr _ _ [rowE V 23 av c4.toList] ([(10, .int .i64 (z : Nat))] ++ _) _
       obtain ⟨hz1, hz2, hz3⟩ := hi
       have ez : ((z : Int) - 1).toNat = z - 1 := by omega
       have hc4 : c4.toList.length = d.size := by rw [Array.length_toList]; exact hz2
       refine af (af (ab (zz0 (ac rfl) (zz0 (ac rfl) (zz0 (cE rfl rfl) (ae (aa ?_)))))))
       refine ak rfl ?_ ?_ <;> intro h14 <;> try simp only [bs] at h14
       ·refine ax (aa (af (aQ (af (af (ja aU ?_))))))
        refine aK (ac rfl) (aK (ac rfl) (aK (dP rfl rfl al ah) ?_))
        refine aK (eH rfl az) ?_
        refine aK (ac rfl) (aK (ac rfl) (aK (eE rfl rfl) ?_))
        refine aK (mz rfl rfl al ah) ?_
        refine aK (eH rfl az) ?_
        refine aK (aB rfl eU (fun w hw => gf (c4.toList.getD (z) default) (c4.toList.getD (((z : Int) - 1).toNat) default) w)) ?_
        refine aK (cj rfl) (cH ?_)
        refine aa ?_
        refine ak rfl ?_ ?_ <;> intro h15 <;> try simp only [bs] at h15
        ·refine cm (aV (ko rfl ?_))
         refine aV (aV (bT (a9 (aa (ab (zz0 (ac rfl) (zz0 (dq rfl rfl) ?_)))))))
         refine zz0 (ad rfl) (ae (aa ?_))
         apply bP (s + 1, x, c4)
         ·exact rfl
         ·exact (.cons (by first | rfl | exact am rfl (by omega) | exact am rfl (by simp) | exact aS rfl (by simp)) (.cons (by first | rfl | exact am rfl (by omega) | exact am rfl (by simp) | exact aS rfl (by simp)) Front.nil))
         ·exact bQ 59 rfl
         ·exact (by repeat' constructor)
         ·exact ⟨by omega, hz2, by rw [← hk3, show 5 - s = (5 - (s + 1)) + 1 by omega]; exact (og hX (by omega) (by omega) hd3.2 (by rw [if_pos (by omega), ← hz3]; exact (vW (by first | exact .inl (by omega) | exact .inr (by rw [← dt, ← dt, ← ez]; assumption))).symm)).symm⟩
         ·exact (by (try dsimp only); omega)
        ·refine ax (aa (lU 5 15 aU ?_))
         refine eG rfl ?_
         refine eG rfl ?_
         refine eG rfl ?_
         refine eG rfl ?_
         refine i6 (fun _ => eE rfl rfl) (by rfl) rfl ?_
         refine dz ?_
         refine aK (ac rfl) (aK (ac rfl) (aK (eE rfl rfl) ?_))
         refine aK (mz rfl rfl al ah) ?_
         refine aK (eH rfl az) ?_
         refine aK (ac rfl) (aK (ac rfl) (aK (dP rfl rfl al ah) ?_))
         refine aK (eH rfl az) ?_
         refine aK (dP rfl rfl al ah) ?_
         refine cH ?_
         refine iS (l := c4.toList) (i := z) (c4.toList.getD (((z : Int) - 1).toNat) default) rfl rfl ah ?_
         have hls16 : (List.set c4.toList (z) (c4.toList.getD (((z : Int) - 1).toNat) default)).length = (c4.toList).length := List.length_set
         refine zz0 (mz rfl rfl al ah) ?_
         refine iS (l := (c4.toList.set (z) (c4.toList.getD (((z : Int) - 1).toNat) default))) (i := ((z : Int) - 1).toNat) (c4.toList.getD (z) default) rfl rfl ah ?_
         have hls17 : (List.set (c4.toList.set (z) (c4.toList.getD (((z : Int) - 1).toNat) default)) (((z : Int) - 1).toNat) (c4.toList.getD (z) default)).length = ((c4.toList.set (z) (c4.toList.getD (((z : Int) - 1).toNat) default))).length := List.length_set
         refine ae (a9 (aa (ab (zz0 (ac rfl) (zz0 (dq rfl rfl) ?_)))))
         refine zz0 (ad rfl) (ae (aa ?_))
         rw [ez, dt, dt, gQ]
         apply bP (z + 1, _)
         ·exact rfl
         ·exact (.cons (by first | rfl | exact am rfl (by omega) | exact am rfl (by simp) | exact aS rfl (by simp)) Front.nil)
         ·exact bQ 34 rfl
         ·exact (by repeat' constructor)
         ·exact ⟨by omega, by rw [lY]; exact hz2, by rw [← hz3]; exact (BZ (by omega) (by rw [← dt, ← dt, ← ez]; assumption)).symm⟩
         ·exact (by (try dsimp only); omega)
       ·refine cm (aV (aV (bT (a9 (aa (ab (zz0 (ac rfl) (zz0 (dq rfl rfl) ?_))))))))
        refine zz0 (ad rfl) (ae (aa ?_))
        apply bP (s + 1, x, c4)
        ·exact rfl
        ·exact (.cons (by first | rfl | exact am rfl (by omega) | exact am rfl (by simp) | exact aS rfl (by simp)) (.cons (by first | rfl | exact am rfl (by omega) | exact am rfl (by simp) | exact aS rfl (by simp)) Front.nil))
        ·exact bQ 48 rfl
        ·exact (by repeat' constructor)
        ·exact ⟨by omega, hz2, by rw [← hk3, show 5 - s = (5 - (s + 1)) + 1 by omega]; exact (og hX (by omega) (by omega) hd3.2 (by rw [if_pos (by omega), ← hz3]; exact (vW (by first | exact .inl (by omega) | exact .inr (by rw [← dt, ← dt, ← ez]; assumption))).symm)).symm⟩
        ·exact (by (try dsimp only); omega)
      ·refine ax (a9 (aa (ab (zz0 (ac rfl) (zz0 (dq rfl rfl) ?_)))))
       refine zz0 (ad rfl) (ae (aa ?_))
       apply bP (s + 1, x, d3)
       ·exact rfl
       ·exact (.cons (by first | rfl | exact am rfl (by omega) | exact am rfl (by simp) | exact aS rfl (by simp)) (.cons (by first | rfl | exact am rfl (by omega) | exact am rfl (by simp) | exact aS rfl (by simp)) Front.nil))
       ·exact bQ 41 rfl
       ·exact (by repeat' constructor)
       ·exact ⟨by omega, hd3.1, by rw [← hk3, show 5 - s = (5 - (s + 1)) + 1 by omega]; exact (og hX (by omega) (by omega) hd3.2 (by rw [if_neg (by omega)])).symm⟩
       ·exact (by (try dsimp only); omega)
 ·refine cm (aV (aV (bT (aa (af (ab (zz0 (ad rfl) (ae (aa (ao ?_))))))))))
  refine aI lu rfl (fun w' hw => ?_)
  obtain rfl : s = 5 := by omega
  have hk4 : (cur, false) = partialInsertionSort ltW d a b := hk3
  exact ⟨by rw [← hk4], by rw [← hk4]; exact HpOK.mutOwn hw (.head _) rfl⟩
end Go.Proofs.YtpeaodkfbjenpaaGreat
namespace Go.HL
open Go Go.RowKit Go.Sort
section
variable {P : Program} {N : Nat} {F : Bg} {L : List Ent} {M : Fr} {dst : Option Tmp} {ty : TypeId} {pos : String} {after : Array Edge} {g : Option (Nat × Bool)}
theorem aH {x : Operand} {a : Addr} (hx : opv M x = some (.pointer (some a))) : QS P N F L M ⟨dst, .nilCheck x, ty, pos, after, g⟩ (.pointer (some a)) :=
  cu fun A w ha _ => by simp [execOp, ha.eval hx]
theorem qF {m n : UInt64} {x y : Operand} {t u : TypeId} (hx : opv M x = some (.int .u64 m.toNat)) (hy : opv M y = some (.int .u64 n.toNat)) : QS P N F L M ⟨dst, .binOp .xor t x y u, ty, pos, after, g⟩ (.int .u64 (m ^^^ n).toNat) := by
  have := zT (P := P) (N := N) (F := F) (L := L) (dst := dst) (ty := ty) (pos := pos) (after := after) (g := g) (t := t) (u := u) hx hy
  have e : IntKind.u64.wrap ((BitVec.ofInt IntKind.u64.bits m.toNat ^^^ BitVec.ofInt IntKind.u64.bits n.toNat).toNat : Int) = ((m ^^^ n).toNat : Int) := by
    have h1 : BitVec.ofInt 64 (m.toNat : Int) = m.toBitVec := by simp
    have h2 : BitVec.ofInt 64 (n.toNat : Int) = n.toBitVec := by simp
    show IntKind.u64.wrap ((BitVec.ofInt 64 m.toNat ^^^ BitVec.ofInt 64 n.toNat).toNat : Int) = _
    rw [h1, h2, IntWalk.u64_in]
    · rfl
    · have := (m ^^^ n).toNat_lt
      show 0 ≤ ((m ^^^ n).toNat : Int) ∧ ((m ^^^ n).toNat : Int) ≤ _
      omega
  rwa [e] at this
theorem uJ {m : UInt64} {x y : Operand} {t u : TypeId} {k' : IntKind} (c : UInt64) (hx : opv M x = some (.int .u64 m.toNat)) (hy : opv M y = some (.int k' (c.toNat : Int))) (hc : c.toNat < 64) : QS P N F L M ⟨dst, .binOp .shl t x y u, ty, pos, after, g⟩ (.int .u64 (m <<< c).toNat) := by
  have := vN (P := P) (N := N) (F := F) (L := L) (dst := dst) (ty := ty) (pos := pos) (after := after) (g := g) (t := t) (u := u) hx hy (by omega)
  have e : IntKind.u64.wrap ((m.toNat : Int) * 2 ^ (min (c.toNat : Int).toNat IntKind.u64.bits)) = ((m <<< c).toNat : Int) := by
    rw [IntKind.wrap_u64, UInt64.toNat_shiftLeft, Int.toNat_natCast, Nat.min_eq_left (by show c.toNat ≤ 64; omega), Nat.mod_eq_of_lt hc, Nat.shiftLeft_eq, Int.natCast_emod, Int.natCast_mul, Int.natCast_pow]
    rfl
  rwa [e] at this
theorem zW {m : UInt64} {x y : Operand} {t u : TypeId} {k' : IntKind} (c : UInt64) (hx : opv M x = some (.int .u64 m.toNat)) (hy : opv M y = some (.int k' (c.toNat : Int))) (hc : c.toNat < 64) : QS P N F L M ⟨dst, .binOp .shr t x y u, ty, pos, after, g⟩ (.int .u64 (m >>> c).toNat) := by
  have := qH (P := P) (N := N) (F := F) (L := L) (dst := dst) (ty := ty) (pos := pos) (after := after) (g := g) (t := t) (u := u) hx hy (by omega)
  have e : (m.toNat : Int).fdiv (2 ^ (min (c.toNat : Int).toNat IntKind.u64.bits)) = ((m >>> c).toNat : Int) := by
    rw [UInt64.toNat_shiftRight, Int.toNat_natCast, Nat.min_eq_left (by show c.toNat ≤ 64; omega), Nat.mod_eq_of_lt hc, Nat.shiftRight_eq_div_pow, Int.fdiv_eq_ediv_of_nonneg _ (by
      have : (0 : Int) < 2 ^ c.toNat := Int.pow_pos (by decide)
      omega)]
    rw [Int.natCast_ediv, Int.natCast_pow]; rfl
  rwa [e] at this
theorem wI {m : Nat} {x y : Operand} {t u : TypeId} {k' : IntKind} (c : Nat) (hx : opv M x = some (.int .u64 (m : Int))) (hy : opv M y = some (.int k' (c : Int))) (hc : c ≤ 64) : QS P N F L M ⟨dst, .binOp .shr t x y u, ty, pos, after, g⟩ (.int .u64 ((m / 2 ^ c : Nat) : Int)) := by
  have := qH (P := P) (N := N) (F := F) (L := L) (dst := dst) (ty := ty) (pos := pos) (after := after) (g := g) (t := t) (u := u) hx hy (by omega)
  have e : (m : Int).fdiv (2 ^ (min (c : Int).toNat IntKind.u64.bits)) = ((m / 2 ^ c : Nat) : Int) := by
    rw [Int.toNat_natCast, Nat.min_eq_left (show c ≤ IntKind.u64.bits from hc), Int.fdiv_eq_ediv_of_nonneg _ (by
      have : (0 : Int) < 2 ^ c := Int.pow_pos (by decide)
      omega), Int.natCast_ediv, Int.natCast_pow]; rfl
  rwa [e] at this
theorem xR {x y : Operand} {t u : TypeId} {k' : IntKind} {c : Nat} (hx : opv M x = some (.int .u64 1)) (hy : opv M y = some (.int k' (c : Int))) (hc : c < 64) : QS P N F L M ⟨dst, .binOp .shl t x y u, ty, pos, after, g⟩ (.int .u64 ((1 <<< c : Nat) : Int)) := by
  have := vN (P := P) (N := N) (F := F) (L := L) (dst := dst) (ty := ty) (pos := pos) (after := after) (g := g) (t := t) (u := u) hx hy (by omega)
  have e : IntKind.u64.wrap ((1 : Int) * 2 ^ (min (c : Int).toNat IntKind.u64.bits)) = ((1 <<< c : Nat) : Int) := by
    have h1 : 2 ^ c < 2 ^ 64 := Nat.pow_lt_pow_right (by decide) hc
    rw [Int.toNat_natCast, Nat.min_eq_left (by show c ≤ 64; omega), Int.one_mul, Nat.one_shiftLeft, IntWalk.u64_in]
    · rw [Int.natCast_pow]; rfl
    · have h2 : ((2 : Int) ^ c) = ((2 ^ c : Nat) : Int) := by rw [Int.natCast_pow]; rfl
      rw [h2]
      generalize 2 ^ c = z at h1
      have h1' : z < 18446744073709551616 := h1
      omega
  rwa [e] at this
theorem Ae {m n : Nat} {x y : Operand} {t u : TypeId} (hx : opv M x = some (.int .u64 (m : Int))) (hy : opv M y = some (.int .u64 (n : Int))) (hm : m < 18446744073709551616) (hn : n < 18446744073709551616) : QS P N F L M ⟨dst, .binOp .and t x y u, ty, pos, after, g⟩ (.int .u64 ((m &&& n : Nat) : Int)) := by
  have := sY (P := P) (N := N) (F := F) (L := L) (dst := dst) (ty := ty) (pos := pos) (after := after) (g := g) (t := t) (u := u) hx hy
  have e : IntKind.u64.wrap ((BitVec.ofInt IntKind.u64.bits (m : Int) &&& BitVec.ofInt IntKind.u64.bits (n : Int)).toNat : Int) = ((m &&& n : Nat) : Int) := by
    have h1 : (BitVec.ofInt 64 (m : Int)).toNat = m := by rw [BitVec.toNat_ofInt]; omega
    have h2 : (BitVec.ofInt 64 (n : Int)).toNat = n := by rw [BitVec.toNat_ofInt]; omega
    show IntKind.u64.wrap ((BitVec.ofInt 64 (m : Int) &&& BitVec.ofInt 64 (n : Int)).toNat : Int) = _
    rw [BitVec.toNat_and, h1, h2, IntWalk.u64_in]
    have : m &&& n ≤ n := Nat.and_le_right
    omega
  rwa [e] at this
theorem vQ {x : Operand} {s d : TypeId} {ds : TypeDesc} {k : IntKind} {m : Int} (n : Nat) (hx : opv M x = some (.int k m)) (hs : P.underlying s = some ds) (hd : P.underlying d = some (.int .u64)) (hm : m = (n : Int)) (hn : n < 18446744073709551616) :
    QS P N F L M ⟨dst, .convert s d x, ty, pos, after, g⟩ (.int .u64 ((UInt64.ofNat n).toNat : Int)) := by
  have h := jE (N := N) (F := F) (L := L) (dst := dst) (ty := ty) (pos := pos) (after := after) (g := g) hx hs hd
  rw [hm, IntWalk.u64_in _ (by omega)] at h
  rwa [UInt64.toNat_ofNat', Nat.mod_eq_of_lt hn]
theorem zU {m n : Nat} {x y : Operand} {t u : TypeId} (hx : opv M x = some (.int .u64 (m : Int))) (hy : opv M y = some (.int .u64 (n : Int))) (h : n ≤ m) (hm : m < 18446744073709551616) : QS P N F L M ⟨dst, .binOp .sub t x y u, ty, pos, after, g⟩ (.int .u64 ((m - n : Nat) : Int)) := by
  have := pB (P := P) (N := N) (F := F) (L := L) (dst := dst) (ty := ty) (pos := pos) (after := after) (g := g) (t := t) (u := u) hx hy (by omega)
  rwa [show (m : Int) - (n : Int) = ((m - n : Nat) : Int) by omega] at this
def Bq : List UInt8 := (List.range 256).map fun i => UInt8.ofNat (bitsLen i)
theorem rS {i : Nat} (h : i < 256) : bitsLen i ≤ 8 := (bitsLen_le_iff i 8).2 h
theorem xU {x y : Operand} {t : TypeId} {s : ByteArray} {i : Nat} (hx : opv M x = some (.string s)) (hy : opv M y = some (.int .u8 (i : Int))) (ht : P.underlying t = some .string) (hs : s.data.toList = Bq) (hi : i < 256) :
    QS P N F L M ⟨dst, .index t x y, ty, pos, after, g⟩ (.int .u8 ((bitsLen i : Nat) : Int)) := by
  have hz : s.size = 256 := by
    have : s.data.toList.length = 256 := by rw [hs]; simp [Bq]
    rw [← this, Array.length_toList]; rfl
  have := oy (P := P) (N := N) (F := F) (L := L) (dst := dst) (ty := ty) (pos := pos) (after := after) (g := g) hx hy ht (by omega)
  have e : (s.data.toList.getD (i : Int).toNat 0).toNat = bitsLen i := by
    rw [hs, Int.toNat_natCast, List.getD_eq_getElem?_getD]
    have h8 := rS hi
    simp [Bq, hi]
    omega
  rwa [e] at this
end
theorem rowE.len {α β : Type} {V : Value} {T T' : TypeId} {E : Enc α} {G : Enc β} {l : List α} {l' : List β} {w w' : World} (h : (rowE V T E l).holds w) (h' : (rowE V T' G l').holds w') : l'.length = l.length := by
  obtain ⟨a, c, e, _⟩ := (rowE.sl h).shape
  obtain ⟨a', c', e', _⟩ := (rowE.sl h').shape
  rw [e] at e'
  injection e' with _ e2
  exact e2.symm
theorem jC {α β : Type} {N : Nat} {F : Bg} {L : List Ent} {M : Fr} {V : Value} {T T' : TypeId} {E : Enc α} {G : Enc β} {l0 : List α} {l : List β} {w : World} {X : Act → World → Prop} (h : (rowE V T E l0).holds w) (hm : rowE V T' G l ∈ L) (K : l.length = l0.length → Tr N F L M X) : Tr N F L M X :=
  fun a w' ha hw => K (rowE.len h (hw.ent _ hm)) a w' ha hw
theorem HpOK.own {F : Bg} {L Lo R : List Ent} {w : World} (h : HpOK F L w) (hs : Split L Lo R) : OwnAt w Lo := (h.perm hs.perm.symm).ownAt.left
theorem oU {x c : Nat} (h : 2 ^ c ≤ x) : bitsLen x = c + bitsLen (x / 2 ^ c) := by
  have key : ∀ k, bitsLen x ≤ k ↔ c + bitsLen (x / 2 ^ c) ≤ k := fun k => by
    rw [bitsLen_le_iff]
    rcases Nat.lt_or_ge k c with hk | hk
    · have : 2 ^ k < 2 ^ c := Nat.pow_lt_pow_right (by decide) hk
      constructor <;> intro h' <;> omega
    · obtain ⟨j, rfl⟩ : ∃ j, k = c + j := ⟨k - c, by omega⟩
      rw [show (c + bitsLen (x / 2 ^ c) ≤ c + j) ↔ bitsLen (x / 2 ^ c) ≤ j by omega, bitsLen_le_iff, Nat.div_lt_iff_lt_mul (Nat.two_pow_pos _), Nat.pow_add, Nat.mul_comm]
  exact Nat.le_antisymm ((key _).2 (Nat.le_refl _)) ((key _).1 (Nat.le_refl _))
theorem Cc {x : Nat} (h : 65536 ≤ x) : bitsLen x = 16 + bitsLen (x / 2 ^ 16) := oU h
theorem len8 {x : Nat} (h : 256 ≤ x) : bitsLen x = 8 + bitsLen (x / 2 ^ 8) := oU h
theorem oh {d : Array UInt32} {a b s : Nat} {i : Nat × Nat × Nat} (hi : i = order2 ltW d a b s) {n : Nat} (ha : a < n) (hb : b < n) : i.1 < n ∧ i.2.1 < n ∧ i.2.2 ≤ s + 1 := by
  subst hi
  refine ⟨?_, ?_, order2_count ltW d a b s⟩ <;> unfold order2 <;> split <;> assumption
theorem rG {d : Array UInt32} {a b c s : Nat} {i : Nat × Nat} (hi : i = median ltW d a b c s) {n : Nat} (ha : a < n) (hb : b < n) (hc : c < n) : i.1 < n ∧ i.2 ≤ s + 3 := by
  subst hi
  refine ⟨?_, median_count ltW d a b c s⟩
  rcases median_mem ltW d a b c s with h | h | h <;> rw [h] <;> assumption
theorem vB {d : Array UInt32} {a s : Nat} {i : Nat × Nat} (hi : i = medianAdjacent ltW d a s) {n : Nat} (ha : a + 1 < n) : i.1 < n ∧ i.2 ≤ s + 3 := rG hi (by omega) (by omega) ha
theorem Ap {d : Array UInt32} {a b : Nat} {i1 i2 i3 i4 : Nat × Nat} (h : 50 ≤ b - a) (e1 : i1 = medianAdjacent ltW d (a + (b - a) / 4 * 1) 0) (e2 : i2 = medianAdjacent ltW d (a + (b - a) / 4 * 2) i1.2) (e3 : i3 = medianAdjacent ltW d (a + (b - a) / 4 * 3) i2.2)
    (e4 : i4 = median ltW d i1.1 i2.1 i3.1 i3.2) : i4 = rawPivot ltW d a b := by
  subst e1 e2 e3 e4
  unfold rawPivot
  rw [if_pos (by omega), if_pos (by omega)]
theorem Ao {d : Array UInt32} {a b : Nat} {i4 : Nat × Nat} (h8 : 8 ≤ b - a) (h : b - a < 50) (e4 : i4 = median ltW d (a + (b - a) / 4 * 1) (a + (b - a) / 4 * 2) (a + (b - a) / 4 * 3) 0) : i4 = rawPivot ltW d a b := by
  subst e4
  unfold rawPivot
  rw [if_pos (by omega), if_neg (by omega)]
theorem yE {d : Array UInt32} {a b : Nat} (h8 : b - a < 8) : ((a + (b - a) / 4 * 2, 0) : Nat × Nat) = rawPivot ltW d a b := by
  unfold rawPivot
  rw [if_neg (by omega)]
def nu (a len m i0 : Nat) : Nat → UInt64 × Array UInt32 → UInt64 × Array UInt32
  | 0, st => st
  | t + 1, st => breakStep a len m (nu a len m i0 t st) (i0 + t)
theorem zH {d : Array UInt32} {a b : Nat} (h : 8 ≤ b - a) : breakPatterns d a b = (nu a (b - a) (1 <<< bitsLen (b - a)) (a + (b - a) / 4 * 2 - 1) 3 (UInt64.ofNat (b - a), d)).2 := by
  unfold breakPatterns
  simp only []
  rw [if_pos h]; rfl
theorem zG {d : Array UInt32} {a b : Nat} (h : b - a < 8) : breakPatterns d a b = d := by
  unfold breakPatterns
  simp only []
  rw [if_neg (by omega)]
theorem zF {a len m i0 t : Nat} {st : UInt64 × Array UInt32} {r : UInt64} {cur : Array UInt32} {o : Nat} (h : nu a len m i0 t st = (r, cur)) (ho : o = if len ≤ ((xorNext r).toNat &&& (m - 1)) then ((xorNext r).toNat &&& (m - 1)) - len else ((xorNext r).toNat &&& (m - 1))) :
    nu a len m i0 (t + 1) st = (xorNext r, swp cur (i0 + t) (a + o)) := by
  subst ho
  show breakStep a len m (nu a len m i0 t st) (i0 + t) = _
  rw [h]; rfl
theorem BA {n : Nat} (h : 0 < n) : 1 ≤ 1 <<< bitsLen n ∧ 1 <<< bitsLen n ≤ 2 * n := by
  rw [Nat.one_shiftLeft]
  exact ⟨Nat.two_pow_pos _, two_pow_bitsLen_le h⟩
section
variable {d : Array UInt32} {a b limit : Nat} {wb wp : Bool}
theorem qZ (h : b - a ≤ 12) : pdq ltW d a b limit wb wp = insertionSort ltW d a b := by rw [pdq, if_pos h]
theorem sw (h : ¬ b - a ≤ 12) (h0 : limit = 0) : pdq ltW d a b limit wb wp = heapSort ltW d a b := by rw [pdq, if_neg h, if_pos h0]
structure Rnd (d : Array UInt32) (a b limit : Nat) (wb wp : Bool) (l1 pv : Nat) (d3 : Array UInt32) : Prop where
  done : ∃ (d1 d2 : Array UInt32) (c : Nat × Hint) (hint : Hint), d1 = (if !wb then breakPatterns d a b else d) ∧ l1 = (if !wb then limit - 1 else limit) ∧ c = choosePivot ltW d1 a b ∧
    d2 = (if c.2 = .decreasing then reverseRange d1 a b else d1) ∧ pv = (if c.2 = .decreasing then (b - 1) - (c.1 - a) else c.1) ∧ hint = (if c.2 = .decreasing then Hint.increasing else c.2) ∧
    (if wb && wp && hint = .increasing then partialInsertionSort ltW d2 a b else (d2, false)) = (d3, false)
theorem sx {d1 d2 d3 : Array UInt32} {c : Nat × Hint} {hint : Hint} (h : ¬ b - a ≤ 12) (h0 : ¬ limit = 0) (e1 : d1 = (if !wb then breakPatterns d a b else d)) (ec : c = choosePivot ltW d1 a b)
    (e3 : d2 = (if c.2 = .decreasing then reverseRange d1 a b else d1)) (e5 : hint = (if c.2 = .decreasing then Hint.increasing else c.2)) (e6 : (if wb && wp && hint = .increasing then partialInsertionSort ltW d2 a b else (d2, false)) = (d3, true)) :
    pdq ltW d a b limit wb wp = d3 := by
  subst e1 ec e3 e5
  rw [pdq, if_neg h, if_neg h0]
  simp only [e6, if_true]
theorem qe {l1 pv : Nat} {d3 : Array UInt32} (h : ¬ b - a ≤ 12) (h0 : ¬ limit = 0) (r : Rnd d a b limit wb wp l1 pv d3) :
    pdq ltW d a b limit wb wp = if a > 0 && !ltW d3[a - 1]! d3[pv]! then
      (match partitionEqual ltW d3 a b pv with | (mid, d4) => if _h : a < mid ∧ mid ≤ b then pdq ltW d4 mid b l1 wb wp else d4)
    else
      (match partition ltW d3 a b pv with
      | (mid, ap, d4) =>
        if _h : a ≤ mid ∧ mid < b then
          if mid - a < b - mid then pdq ltW (pdq ltW d4 a mid l1 true true) (mid + 1) b l1 (decide (mid - a ≥ (b - a) / 8)) ap
          else pdq ltW (pdq ltW d4 (mid + 1) b l1 true true) a mid l1 (decide (b - mid ≥ (b - a) / 8)) ap
        else d4) := by
  obtain ⟨d1, d2, c, hint, e1, e2, ec, e3, e4, e5, e6⟩ := r.done
  subst e1 ec e3 e5 e2 e4
  rw [pdq, if_neg h, if_neg h0]
  simp only [e6, Bool.false_eq_true, if_false]
theorem As {l1 pv mid : Nat} {d3 d4 : Array UInt32} (h : ¬ b - a ≤ 12) (h0 : ¬ limit = 0) (r : Rnd d a b limit wb wp l1 pv d3) (ha : 0 < a) (hl : ltW d3[a - 1]! d3[pv]! = false) (he : partitionEqual ltW d3 a b pv = (mid, d4)) (hm : a < mid ∧ mid ≤ b) :
    pdq ltW d a b limit wb wp = pdq ltW d4 mid b l1 wb wp := by
  rw [qe h h0 r, if_pos (by simp [ha, hl]), he]
  simp only []
  rw [dif_pos hm]
theorem su {l1 pv mid : Nat} {d3 d4 : Array UInt32} {ap : Bool} (h : ¬ b - a ≤ 12) (h0 : ¬ limit = 0) (r : Rnd d a b limit wb wp l1 pv d3) (hl : a = 0 ∨ ltW d3[a - 1]! d3[pv]! = true) (he : partition ltW d3 a b pv = (mid, ap, d4)) (hm : a ≤ mid ∧ mid < b) (hs : mid - a < b - mid) :
    pdq ltW d a b limit wb wp = pdq ltW (pdq ltW d4 a mid l1 true true) (mid + 1) b l1 (decide (mid - a ≥ (b - a) / 8)) ap := by
  rw [qe h h0 r, if_neg (by simp only [Bool.and_eq_true, decide_eq_true_eq, Bool.not_eq_true']; rintro ⟨q1, q2⟩; rcases hl with q | q; omega; rw [q] at q2; cases q2), he]
  simp only []
  rw [dif_pos hm, if_pos hs]
theorem q7 {l1 pv mid : Nat} {d3 d4 : Array UInt32} {ap : Bool} (h : ¬ b - a ≤ 12) (h0 : ¬ limit = 0) (r : Rnd d a b limit wb wp l1 pv d3) (hl : a = 0 ∨ ltW d3[a - 1]! d3[pv]! = true) (he : partition ltW d3 a b pv = (mid, ap, d4)) (hm : a ≤ mid ∧ mid < b) (hs : ¬ mid - a < b - mid) :
    pdq ltW d a b limit wb wp = pdq ltW (pdq ltW d4 (mid + 1) b l1 true true) a mid l1 (decide (b - mid ≥ (b - a) / 8)) ap := by
  rw [qe h h0 r, if_neg (by simp only [Bool.and_eq_true, decide_eq_true_eq, Bool.not_eq_true']; rintro ⟨q1, q2⟩; rcases hl with q | q; omega; rw [q] at q2; cases q2), he]
  simp only []
  rw [dif_pos hm, if_neg hs]
end
theorem u4 {d : Array UInt32} {a b pv : Nat} (h : a + 1 < b) (hb : b ≤ d.size) : a < (partitionEqual ltW d a b pv).1 ∧ (partitionEqual ltW d a b pv).1 ≤ b := by
  have := partEqLoop_spec (lt := ltW) a b _ (a + 1) (b - 1) (swp d a pv) (Nat.le_refl _) (by omega) (by omega) (by omega) (by rw [lY]; exact hb) (fun t _ _ => by omega) (fun t _ _ => by omega)
  exact ⟨this.1, this.2.1⟩
theorem yP {d : Array UInt32} {a b pv : Nat} (h1 : a ≤ pv) (h2 : pv < b) (hb : b ≤ d.size) : a ≤ (partition ltW d a b pv).1 ∧ (partition ltW d a b pv).1 < b := by
  have := partition_holds (lt := ltW) sf d a b pv h1 h2 hb
  exact ⟨this.1, this.2.1⟩
theorem nM (h : Hint) : hintCode h = 2 ↔ h = .decreasing := by cases h <;> simp [hintCode]
theorem nL (h : Hint) : hintCode h = 1 ↔ h = .increasing := by cases h <;> simp [hintCode]
theorem yN {wb wp : Bool} {hint : Hint} (h : (wb = true ∧ wp = true) ∧ hintCode hint = 1) : (wb && wp && decide (hint = .increasing)) = true := by
  rw [h.1.1, h.1.2, (nL hint).1 h.2]; rfl
theorem Ca {wb wp : Bool} {hint : Hint} (h : (wb = false ∨ wp = false) ∨ ¬ hintCode hint = 1) : ¬ (wb && wp && decide (hint = .increasing)) = true := by
  simp only [Bool.and_eq_true, decide_eq_true_eq]
  rintro ⟨⟨q1, q2⟩, q3⟩
  rcases h with (q | q) | q
  · rw [q1] at q; cases q
  · rw [q2] at q; cases q
  · exact q ((nL hint).2 q3)
theorem yf (d : Array UInt32) : (sort ltW d).toList = d.toList.mergeSort (fun x y => !ltW y x) := by
  have h := sort_sorts ltW sf d
  exact sorted_unique_holds (lt := ltW) sf (fun x y h1 h2 => by
    simp only [ltW, decide_eq_false_iff_not, UInt32.lt_iff_toNat_lt] at h1 h2
    exact UInt32.toNat_inj.1 (by omega)) d _ h.1 h.2
end Go.HL
namespace Go.Proofs.YtpeaodkfbjenpaaGreat
open Go Go.HL Go.RowKit Go.Sort
theorem AC (x : Nat) (hx : x < 4294967296) (w : World) :
  Calls Tryz.prog 111 #[.int .u64 (x : Nat)] w (fun e w' => e = .returned (.int .i64 (bitsLen x : Nat)) ∧ Ext w w') := by
 refine enter Tryz.func111 rfl Tryz.ntmps111 rfl ?_
 refine af (ab (zz0 (ad rfl) (ae (aa (af (af (ab (zz0 (ac rfl) (zz0 (dl rfl rfl) (ae (aa ?_)))))))))))
 refine ak rfl ?_ ?_ <;> intro h1 <;> try simp only [bs] at h1
 ·first | contradiction | (exfalso; omega) | simp_all
 ·refine ax (aa ?_)
  refine eJ (ι := Nat × Nat) (fun ⟨y, n⟩ => y < 65536 ∧ n ≤ 16 ∧ bitsLen x = n + bitsLen y) (fun _ => Bg.of w) (fun ⟨y, n⟩ => []) (fun ⟨y, n⟩ => [(0, .int .u64 (y : Nat)), (2, .int .i64 (n : Nat))]) ?_ (fun i hi => ?_)
  ·skip
   refine af (ab (zz0 (ac rfl) (zz0 (dl rfl rfl) (ae (aa ?_)))))
   refine ak rfl ?_ ?_ <;> intro h2 <;> try simp only [bs] at h2
   ·refine af (ab (zz0 (ac rfl) (zz0 (wI 16 rfl rfl (by decide)) ?_)))
    refine zz0 (ad rfl) (ae (aa (ab (zz0 (ac rfl) (zz0 (dq rfl rfl) ?_)))))
    refine zz0 (ad rfl) (ae (aa ?_))
    apply aZ (x / 2 ^ 16, 16)
    ·exact rfl
    ·exact (.cons (by first | rfl | exact am rfl (by omega) | exact am rfl (by simp) | exact aS rfl (by simp)) (.cons (by first | rfl | exact am rfl (by omega) | exact am rfl (by simp) | exact aS rfl (by simp)) Front.nil))
    ·exact bQ 8 rfl
    ·exact (by repeat' constructor)
    ·exact ⟨by omega, by omega, Cc (by omega)⟩
   ·refine ax (aa ?_)
    apply aZ (x, 0)
    ·exact rfl
    ·exact (.cons (by first | rfl | exact am rfl (by omega) | exact am rfl (by simp) | exact aS rfl (by simp)) (.cons (by first | rfl | exact am rfl (by omega) | exact am rfl (by simp) | exact aS rfl (by simp)) Front.nil))
    ·exact bQ 2 rfl
    ·exact (by repeat' constructor)
    ·exact ⟨by omega, by omega, by omega⟩
  ·obtain ⟨y, n⟩ := i
   replace hi : y < 65536 ∧ n ≤ 16 ∧ bitsLen x = n + bitsLen y := hi
   change Tr _ _ [] ([(0, .int .u64 (y : Nat)), (2, .int .i64 (n : Nat))] ++ _) _
   obtain ⟨hy1, hy2, hy3⟩ := hi
   refine eJ (ι := Nat × Nat) (fun ⟨z, k⟩ => z < 256 ∧ k ≤ 24 ∧ bitsLen x = k + bitsLen z) (fun _ => Bg.of w) (fun ⟨z, k⟩ => []) (fun ⟨z, k⟩ => [(0, .int .u64 (z : Nat)), (2, .int .i64 (k : Nat))]) ?_ (fun i hi => ?_)
   ·skip
    refine af (ab (zz0 (ac rfl) (zz0 (dl rfl rfl) (ae (aa ?_)))))
    refine ak rfl ?_ ?_ <;> intro h3 <;> try simp only [bs] at h3
    ·refine af (ab (zz0 (ac rfl) (zz0 (wI 8 rfl rfl (by decide)) ?_)))
     refine zz0 (ad rfl) (ae (aa (ab (zz0 (ac rfl) (zz0 (dq rfl rfl) ?_)))))
     refine zz0 (ad rfl) (ae (aa ?_))
     apply aZ (y / 2 ^ 8, n + 8)
     ·exact rfl
     ·exact (.cons (by first | rfl | exact am rfl (by omega) | exact am rfl (by simp) | exact aS rfl (by simp)) (.cons (by first | rfl | exact am rfl (by omega) | exact am rfl (by simp) | exact aS rfl (by simp)) Front.nil))
     ·exact bQ 8 rfl
     ·exact (by repeat' constructor)
     ·exact ⟨by omega, by omega, by have := len8 (x := y) (by omega); omega⟩
    ·refine ax (aa ?_)
     apply aZ (y, n)
     ·exact rfl
     ·exact (.cons (by first | rfl | exact am rfl (by omega) | exact am rfl (by simp) | exact aS rfl (by simp)) (.cons (by first | rfl | exact am rfl (by omega) | exact am rfl (by simp) | exact aS rfl (by simp)) Front.nil))
     ·exact bQ 2 rfl
     ·exact (by repeat' constructor)
     ·exact ⟨by omega, by omega, by omega⟩
   ·obtain ⟨z, k⟩ := i
    replace hi : z < 256 ∧ k ≤ 24 ∧ bitsLen x = k + bitsLen z := hi
    change Tr _ _ [] ([(0, .int .u64 (z : Nat)), (2, .int .i64 (k : Nat))] ++ _) _
    obtain ⟨hz1, hz2, hz3⟩ := hi
    have hz8 := rS hz1
    refine af (ab (zz0 (ac rfl) (zz0 (ac rfl) (zz0 (fY rfl cN bu (by rw [IntKind.wrap_u8]; omega)) ?_))))
    refine zz0 (xU rfl rfl eS (by kernel_rfl) (by omega)) ?_
    refine zz0 (fY rfl bu aO (IntWalk.i64_in _ (by omega))) ?_
    refine zz0 (dq rfl rfl) ?_
    refine zz0 (ad rfl) (ae (aa (ao ?_)))
    refine aI Tryz.results111 rfl (fun w' hw => ?_)
    exact ⟨by rw [hz3]; simp, hw.below (Bg.le.refl _)⟩
theorem Cb (x : Nat) (xi : Int) (ex : xi = ((x : Nat) : Int)) (hx : x < 4294967296) (w : World) :
  Calls Tryz.prog 77 #[.int .u64 xi] w (fun e w' => e = .returned (.int .i64 (bitsLen x : Nat)) ∧ Ext w w') := by
 subst ex
 refine enter Tryz.func77 rfl Tryz.ntmps77 rfl ?_
 refine af (ab (zz0 (ad rfl) (ae (aa (af ?_)))))
 refine ak rfl ?_ ?_ <;> intro h1 <;> try simp only [bs] at h1
 ·first | contradiction | (exfalso; omega) | simp_all
 ·refine ax (aa (af (ab (zz0 (ac rfl) (zz0 (aB rfl Tryz.call111 (fun w hw => AC x hx w)) ?_)))))
  refine zz0 (ad rfl) (ae (aa (ao ?_)))
  refine aI Tryz.results77 rfl (fun w' hw => ?_)
  exact ⟨rfl, hw.below (Bg.le.refl _)⟩
theorem xq (n : Nat) (ni : Int) (en : ni = ((n : Nat) : Int)) (hn : n ≤ 1000000) (w : World) :
  Calls Tryz.prog 136 #[.int .i64 ni] w (fun e w' => e = .returned (.int .u64 ((1 <<< bitsLen n : Nat) : Int)) ∧ Ext w w') := by
 subst en
 have hb : bitsLen n ≤ 20 := (bitsLen_le_iff n 20).2 (by omega)
 refine enter Tryz.func136 rfl Tryz.ntmps136 rfl ?_
 refine af (ab (zz0 (ad rfl) (ae (aa (af (ab (zz0 (ac rfl) (zz0 (fY rfl aO jw (IntWalk.u64_in _ (by omega))) ?_))))))))
 refine zz0 (aB rfl Tryz.call77 (fun w hw => Cb n _ rfl (by omega) w)) ?_
 refine zz0 (xR rfl rfl (by omega)) ?_
 refine zz0 (ad rfl) (ae (aa (ao ?_)))
 refine aI Tryz.results136 rfl (fun w' hw => ?_)
 exact ⟨rfl, hw.below (Bg.le.refl _)⟩
theorem Bz (r : UInt64) (bs : Nat) (w : World) (ho : OwnAt w [cellE bs [.int .u64 ((r).toNat : Int)] 176]) :
  Calls Tryz.prog 137 #[.pointer (some ⟨bs, 0, none⟩)] w (fun e w' => ∃ i : Unit, e = .returned (.int .u64 ((xorNext r).toNat : Nat)) ∧ Upd w.drawn w w' (cg [cellE bs [.int .u64 ((r).toNat : Int)] 176]) ([cellE bs [.int .u64 ((xorNext r).toNat : Int)] 176]) ∧ True) := by
 refine ik (L := [cellE bs [.int .u64 ((r).toNat : Int)] 176]) ho rfl (Nat.le_refl _) Tryz.func137 rfl Tryz.ntmps137 rfl ?_
 refine af (ab (zz0 (ad rfl) (ae (aa (af (lU 0 9 aU ?_))))))
 refine dz ?_
 refine aK (ac rfl) (aK (aH rfl) ?_)
 refine aK (fH rfl ir) ?_
 refine aK (ac rfl) (aK (aH rfl) ?_)
 refine aK (fH rfl ir) ?_
 refine aK (uJ 13 rfl rfl (by decide)) ?_
 refine aK (qF rfl rfl) ?_
 refine aK (aH rfl) ?_
 refine cH ?_
 refine j0 rfl rfl j7 ?_
 refine ae (aa (af (lU 0 9 aU ?_)))
 refine dz ?_
 refine aK (ac rfl) (aK (aH rfl) ?_)
 refine aK (fH rfl ir) ?_
 refine aK (ac rfl) (aK (aH rfl) ?_)
 refine aK (fH rfl ir) ?_
 refine aK (zW 7 rfl rfl (by decide)) ?_
 refine aK (qF rfl rfl) ?_
 refine aK (aH rfl) ?_
 refine cH ?_
 refine j0 rfl rfl j7 ?_
 refine ae (aa (af (lU 0 9 aU ?_)))
 refine dz ?_
 refine aK (ac rfl) (aK (aH rfl) ?_)
 refine aK (fH rfl ir) ?_
 refine aK (ac rfl) (aK (aH rfl) ?_)
 refine aK (fH rfl ir) ?_
 refine aK (uJ 17 rfl rfl (by decide)) ?_
 refine aK (qF rfl rfl) ?_
 refine aK (aH rfl) ?_
 refine cH ?_
 refine j0 rfl rfl j7 ?_
 refine ae (aa (af (ab (zz0 (ac rfl) (zz0 (aH rfl) ?_)))))
 refine zz0 (fH rfl ir) ?_
 refine zz0 (ad rfl) (ae (aa (ao ?_)))
 refine aI Tryz.results137 rfl (fun w' hw => ?_)
 exact ⟨(), rfl, hw.upd (Bg.le.refl _) (by repeat' constructor), trivial⟩
theorem nn (d : Array UInt32) (V : Value) (bs : Nat) (a b s : Nat) (ai bi : Int) (ea : ai = ((a : Nat) : Int)) (eb : bi = ((b : Nat) : Int)) (w : World) (ho : OwnAt w [rowE V 23 av d.toList, cellE bs [.int .i64 ((s : Nat) : Int)] 3]) (hd : d.size ≤ 1000000) (ha : a < d.size) (hb : b < d.size) (hs : s ≤ 100 := by omega) :
  Calls Tryz.prog 154 #[V, .int .i64 ai, .int .i64 bi, .pointer (some ⟨bs, 0, none⟩)] w (fun e w' => ∃ i : Nat × Nat × Nat, e = .returned ((fun i : Nat × Nat × Nat => .tuple #[.int .i64 (i.1 : Nat), .int .i64 (i.2.1 : Nat)]) i) ∧ Upd w.drawn w w' (cg [rowE V 23 av d.toList, cellE bs [.int .i64 ((s : Nat) : Int)] 3]) ([rowE V 23 av d.toList, cellE bs [.int .i64 (i.2.2 : Nat)] 3]) ∧ i = order2 ltW d a b s) := by
 subst ea eb
 have hdl : d.toList.length = d.size := Array.length_toList
 refine ik (L := [rowE V 23 av d.toList, cellE bs [.int .i64 ((s : Nat) : Int)] 3]) ho rfl (Nat.le_refl _) Tryz.func154 rfl Tryz.ntmps154 rfl ?_
 refine af (ab (zz0 (ad rfl) (zz0 (ad rfl) (ae (aa (af (af (ja aU ?_))))))))
 refine aK (ac rfl) (aK (ac rfl) (aK (dP rfl rfl al ah) ?_))
 refine aK (eH rfl az) ?_
 refine aK (ac rfl) (aK (ac rfl) (aK (dP rfl rfl al ah) ?_))
 refine aK (eH rfl az) ?_
 refine aK (aB rfl eU (fun w hw => gf (d.toList.getD (b) default) (d.toList.getD (a) default) w)) ?_
 refine cH ?_
 refine aa ?_
 refine ak rfl ?_ ?_ <;> intro h1 <;> try simp only [bs] at h1
 ·refine af (ab (zz0 (ac rfl) (zz0 (aH rfl) ?_)))
  refine zz0 (fH rfl aD) ?_
  refine zz0 (dq rfl rfl) ?_
  refine zz0 (aH rfl) ?_
  refine lO rfl rfl aj (by repeat constructor) (by rfl) (by rfl) (by first | exact List.all_eq_true.1 rfl | exact Enc.one _ _ | exact Enc.one BF _ | (intro u hu; simp [Value.cells] at hu; simp_all [Value.oneCell'])) rfl ?_
  refine ae (aa (af (ab (zz0 (ac rfl) (zz0 (ac rfl) (zz0 (ad rfl) (zz0 (ad rfl) (ae (aa (ao (an ?_)))))))))))
  refine cy Tryz.results154 rfl rfl (fun w' hw => ?_)
  refine ⟨(b, a, s + 1), rfl, hw.upd (Bg.le.refl _) (by repeat' constructor), ?_⟩
  unfold order2
  rw [if_pos (by rw [← dt, ← dt]; simp_all)]
 ·refine ax (aa (af (ab (zz0 (ac rfl) (zz0 (ac rfl) (zz0 (ad rfl) (zz0 (ad rfl) (ae (aa (ao ?_))))))))))
  refine cy Tryz.results154 rfl rfl (fun w' hw => ?_)
  refine ⟨(a, b, s), rfl, hw.upd (Bg.le.refl _) (by repeat' constructor), ?_⟩
  unfold order2
  rw [if_neg (by rw [← dt, ← dt]; simp_all)]
theorem qn (d : Array UInt32) (V : Value) (bs : Nat) (a b c s : Nat) (ai bi ci : Int) (ea : ai = ((a : Nat) : Int)) (eb : bi = ((b : Nat) : Int)) (ec : ci = ((c : Nat) : Int)) (w : World) (ho : OwnAt w [rowE V 23 av d.toList, cellE bs [.int .i64 ((s : Nat) : Int)] 3]) (hd : d.size ≤ 1000000) (ha : a < d.size) (hb : b < d.size) (hc : c < d.size) (hs : s ≤ 90 := by omega) :
  Calls Tryz.prog 139 #[V, .int .i64 ai, .int .i64 bi, .int .i64 ci, .pointer (some ⟨bs, 0, none⟩)] w (fun e w' => ∃ i : Nat × Nat, e = .returned ((fun i : Nat × Nat => .int .i64 (i.1 : Nat)) i) ∧ Upd w.drawn w w' (cg [rowE V 23 av d.toList, cellE bs [.int .i64 ((s : Nat) : Int)] 3]) ([rowE V 23 av d.toList, cellE bs [.int .i64 (i.2 : Nat)] 3]) ∧ i = median ltW d a b c s) := by
 subst ea eb ec
 refine ik (L := [rowE V 23 av d.toList, cellE bs [.int .i64 ((s : Nat) : Int)] 3]) ho rfl (Nat.le_refl _) Tryz.func139 rfl Tryz.ntmps139 rfl ?_
 refine af (ab (zz0 (ad rfl) (ae (aa (af (ab (zz0 (ac rfl) (zz0 (ac rfl) (zz0 (ac rfl) (zz0 (ac rfl) ?_))))))))))
 refine cT (fun i : Nat × Nat × Nat => .tuple #[.int .i64 (i.1 : Nat), .int .i64 (i.2.1 : Nat)]) [rowE V 23 av d.toList, cellE bs [.int .i64 ((s : Nat) : Int)] 3] (fun i : Nat × Nat × Nat => [rowE V 23 av d.toList, cellE bs [.int .i64 (i.2.2 : Nat)] 3]) (ok := fun i => i = order2 ltW d a b s) (dd := fun w => w.drawn) rfl Tryz.call154 (by repeat' constructor) (fun w hw => hw.dr) (fun w hw => nn d V bs a b s _ _ rfl rfl w (hw.own (by repeat' constructor)) hd (by omega) (by omega)) rfl (fun p hp => ?_)
 obtain ⟨bp1, bp2, bp3⟩ := oh hp (n := d.size) (by omega) (by omega)
 obtain ⟨x1, y1, s1⟩ := p
 dsimp only at bp1 bp2 bp3
 change Tr _ _ [rowE V 23 av d.toList, cellE bs [.int .i64 ((s1 : Nat) : Int)] 3] _ _
 refine zz0 (ac rfl) (zz0 (ay rfl rfl) (zz0 (ay rfl rfl) (zz0 (ad rfl) (zz0 (ad rfl) (ae (aa (af (ab (zz0 (ac rfl) (zz0 (ac rfl) (zz0 (ac rfl) (zz0 (ac rfl) ?_))))))))))))
 refine cT (fun i : Nat × Nat × Nat => .tuple #[.int .i64 (i.1 : Nat), .int .i64 (i.2.1 : Nat)]) [rowE V 23 av d.toList, cellE bs [.int .i64 ((s1 : Nat) : Int)] 3] (fun i : Nat × Nat × Nat => [rowE V 23 av d.toList, cellE bs [.int .i64 (i.2.2 : Nat)] 3]) (ok := fun i => i = order2 ltW d y1 c s1) (dd := fun w => w.drawn) rfl Tryz.call154 (by repeat' constructor) (fun w hw => hw.dr) (fun w hw => nn d V bs y1 c s1 _ _ rfl rfl w (hw.own (by repeat' constructor)) hd (by omega) (by omega)) rfl (fun q hq => ?_)
 obtain ⟨bq1, bq2, bq3⟩ := oh hq (n := d.size) (by omega) (by omega)
 obtain ⟨x2, y2, s2⟩ := q
 dsimp only at bq1 bq2 bq3
 change Tr _ _ [rowE V 23 av d.toList, cellE bs [.int .i64 ((s2 : Nat) : Int)] 3] _ _
 refine zz0 (ac rfl) (zz0 (ay rfl rfl) (zz0 (ay rfl rfl) (zz0 (ad rfl) (zz0 (ad rfl) (ae (aa (af (ab (zz0 (ac rfl) (zz0 (ac rfl) (zz0 (ac rfl) (zz0 (ac rfl) ?_))))))))))))
 refine cT (fun i : Nat × Nat × Nat => .tuple #[.int .i64 (i.1 : Nat), .int .i64 (i.2.1 : Nat)]) [rowE V 23 av d.toList, cellE bs [.int .i64 ((s2 : Nat) : Int)] 3] (fun i : Nat × Nat × Nat => [rowE V 23 av d.toList, cellE bs [.int .i64 (i.2.2 : Nat)] 3]) (ok := fun i => i = order2 ltW d x1 x2 s2) (dd := fun w => w.drawn) rfl Tryz.call154 (by repeat' constructor) (fun w hw => hw.dr) (fun w hw => nn d V bs x1 x2 s2 _ _ rfl rfl w (hw.own (by repeat' constructor)) hd (by omega) (by omega)) rfl (fun r hr => ?_)
 obtain ⟨br1, br2, br3⟩ := oh hr (n := d.size) (by omega) (by omega)
 obtain ⟨x3, y3, s3⟩ := r
 dsimp only at br1 br2 br3
 change Tr _ _ [rowE V 23 av d.toList, cellE bs [.int .i64 ((s3 : Nat) : Int)] 3] _ _
 refine zz0 (ac rfl) (zz0 (ay rfl rfl) (zz0 (ay rfl rfl) (zz0 (ad rfl) (zz0 (ad rfl) (ae (aa (af (ab (zz0 (ac rfl) (zz0 (ad rfl) (ae (aa (ao ?_)))))))))))))
 refine aI Tryz.results139 rfl (fun w' hw => ?_)
 exact ⟨(y3, s3), rfl, hw.upd (Bg.le.refl _) (by repeat' constructor), by unfold median; simp only []; rw [← hp]; dsimp only; rw [← hq]; dsimp only; rw [← hr]⟩
theorem sO (d : Array UInt32) (V : Value) (bs : Nat) (a s : Nat) (ai : Int) (ea : ai = ((a : Nat) : Int)) (w : World) (ho : OwnAt w [rowE V 23 av d.toList, cellE bs [.int .i64 ((s : Nat) : Int)] 3]) (hd : d.size ≤ 1000000) (ha : a + 1 < d.size) (h1 : 1 ≤ a) (hs : s ≤ 80 := by omega) :
  Calls Tryz.prog 138 #[V, .int .i64 ai, .pointer (some ⟨bs, 0, none⟩)] w (fun e w' => ∃ i : Nat × Nat, e = .returned ((fun i : Nat × Nat => .int .i64 (i.1 : Nat)) i) ∧ Upd w.drawn w w' (cg [rowE V 23 av d.toList, cellE bs [.int .i64 ((s : Nat) : Int)] 3]) ([rowE V 23 av d.toList, cellE bs [.int .i64 (i.2 : Nat)] 3]) ∧ i = medianAdjacent ltW d a s) := by
 subst ea
 refine ik (L := [rowE V 23 av d.toList, cellE bs [.int .i64 ((s : Nat) : Int)] 3]) ho rfl (Nat.le_refl _) Tryz.func138 rfl Tryz.ntmps138 rfl ?_
 refine af (ab (zz0 (ad rfl) (ae (aa (af (ab (zz0 (ac rfl) (zz0 (ac rfl) (zz0 (eE rfl rfl) ?_)))))))))
 refine zz0 (ac rfl) (zz0 (ac rfl) (zz0 (dq rfl rfl) ?_))
 refine zz0 (ac rfl) ?_
 refine cT (fun i : Nat × Nat => .int .i64 (i.1 : Nat)) [rowE V 23 av d.toList, cellE bs [.int .i64 ((s : Nat) : Int)] 3] (fun i : Nat × Nat => [rowE V 23 av d.toList, cellE bs [.int .i64 (i.2 : Nat)] 3]) (ok := fun zz => zz = median ltW d (a - 1) a (a + 1) s) (dd := fun w => w.drawn) rfl Tryz.call139 (by repeat' constructor) (fun w hw => hw.dr) (fun w hw => qn d V bs (a - 1) a (a + 1) s _ _ _ (by omega) (by omega) (by omega) w (hw.own (by repeat' constructor)) hd (by omega) (by omega) (by omega)) rfl (fun p hp => ?_)
 obtain ⟨x, s1⟩ := p
 change Tr _ _ [rowE V 23 av d.toList, cellE bs [.int .i64 ((s1 : Nat) : Int)] 3] _ _
 refine zz0 (ad rfl) (ae (aa (ao ?_)))
 refine aI Tryz.results138 rfl (fun w' hw => ?_)
 exact ⟨(x, s1), rfl, hw.upd (Bg.le.refl _) (by repeat' constructor), hp⟩
theorem pf (d : Array UInt32) (V : Value) (a : Nat) (b : Nat) (ai : Int) (bi : Int) (ea : ai = ((a : Nat) : Int)) (eb : bi = ((b : Nat) : Int)) (w : World) (hr : (rowE V 23 av d.toList).holds w) (hd : d.size ≤ 1000000) (hab : a < b) (hb : b ≤ d.size) :
  Calls Tryz.prog 104 #[V, .int .i64 ai, .int .i64 bi] w (fun e w' => e = .returned (.tuple #[.int .i64 ((choosePivot ltW d a b).1 : Nat), .int .i64 (hintCode (choosePivot ltW d a b).2)]) ∧ Mut w w' V ∧ (rowE V 23 av d.toList).holds w') := by
 subst ea eb
 refine ij (l := d.toList) (E := av) (T := 23) hr Tryz.func104 rfl Tryz.ntmps104 rfl ?_
 refine af (ab (zz0 (ad rfl) (zz0 (ad rfl) (ae (aa (af (ab (zz0 (ac rfl) (zz0 (ac rfl) (zz0 (eE rfl rfl) ?_))))))))))
 refine zz0 (ad rfl) (ae (aa (af (ab ?_))))
 refine c9 Tryz.zeroValue3 rfl (fun b1 => ?_)
 refine ae (aa (af (ab (zz0 (ac rfl) (zz0 (ac rfl) (zz0 (mr rfl rfl (by omega)) ?_))))))
 refine zz0 (k9 rfl rfl (by omega)) ?_
 refine zz0 (dq rfl rfl) ?_
 refine zz0 (ad rfl) (ae (aa (af (ab (zz0 (ac rfl) (zz0 (ac rfl) (zz0 (mr rfl rfl (by omega)) ?_)))))))
 refine zz0 (k9 rfl rfl (by omega)) ?_
 refine zz0 (dq rfl rfl) ?_
 refine zz0 (ad rfl) (ae (aa (af (ab (zz0 (ac rfl) (zz0 (ac rfl) (zz0 (mr rfl rfl (by omega)) ?_)))))))
 refine zz0 (k9 rfl rfl (by omega)) ?_
 refine zz0 (dq rfl rfl) ?_
 refine zz0 (ad rfl) (ae (aa ?_))
 refine eJ (ι := Nat × Nat × Nat × Nat) (fun ⟨i, j, k, s⟩ => (j < d.size ∧ s ≤ 12) ∧ (j, s) = rawPivot ltW d a b) (fun _ => Bg.less w V) (fun ⟨i, j, k, s⟩ => [rowE V 23 av d.toList, cellE b1 [.int .i64 ((s : Nat) : Int)] 3]) (fun ⟨i, j, k, s⟩ => [(10, .int .i64 (i : Nat)), (11, .int .i64 (j : Nat)), (12, .int .i64 (k : Nat))]) ?_ (fun i hi => ?_)
 ·skip
  refine af (ab (zz0 (ac rfl) (zz0 (dl rfl rfl) (ae (aa ?_)))))
  refine ak rfl ?_ ?_ <;> intro h2 <;> try simp only [bs] at h2
  ·refine eJ (ι := Nat × Nat × Nat × Nat) (fun ⟨i, j, k, s⟩ => (i < d.size ∧ j < d.size ∧ k < d.size ∧ s ≤ 9) ∧ median ltW d i j k s = rawPivot ltW d a b) (fun _ => Bg.less w V) (fun ⟨i, j, k, s⟩ => [rowE V 23 av d.toList, cellE b1 [.int .i64 ((s : Nat) : Int)] 3]) (fun ⟨i, j, k, s⟩ => [(10, .int .i64 (i : Nat)), (11, .int .i64 (j : Nat)), (12, .int .i64 (k : Nat))]) ?_ (fun i hi => ?_)
   ·skip
    refine af (ab (zz0 (ac rfl) (zz0 (dl rfl rfl) (ae (aa ?_)))))
    refine ak rfl ?_ ?_ <;> intro h3 <;> try simp only [bs] at h3
    ·refine af (ab (zz0 (ac rfl) (zz0 (ac rfl) ?_)))
     refine cT (fun i : Nat × Nat => .int .i64 (i.1 : Nat)) [rowE V 23 av d.toList, cellE b1 [.int .i64 ((0 : Nat) : Int)] 3] (fun i : Nat × Nat => [rowE V 23 av d.toList, cellE b1 [.int .i64 (i.2 : Nat)] 3]) (ok := fun zz => zz = medianAdjacent ltW d (a + (b - a) / 4 * 1) 0) (dd := fun w => w.drawn) rfl Tryz.call138 (by repeat' constructor) (fun w hw => hw.dr) (fun w hw => sO d V b1 (a + (b - a) / 4 * 1) 0 _ (by omega) w (hw.own (by repeat' constructor)) hd (by omega) (by omega)) rfl (fun p hp => ?_)
     have bp := vB hp (n := d.size) (by omega)
     obtain ⟨x1, s1⟩ := p
     dsimp only at bp
     change Tr _ _ [rowE V 23 av d.toList, cellE b1 [.int .i64 ((s1 : Nat) : Int)] 3] _ _
     refine zz0 (ad rfl) (ae (aa (af (ab (zz0 (ac rfl) (zz0 (ac rfl) ?_))))))
     refine cT (fun i : Nat × Nat => .int .i64 (i.1 : Nat)) [rowE V 23 av d.toList, cellE b1 [.int .i64 ((s1 : Nat) : Int)] 3] (fun i : Nat × Nat => [rowE V 23 av d.toList, cellE b1 [.int .i64 (i.2 : Nat)] 3]) (ok := fun zz => zz = medianAdjacent ltW d (a + (b - a) / 4 * 2) s1) (dd := fun w => w.drawn) rfl Tryz.call138 (by repeat' constructor) (fun w hw => hw.dr) (fun w hw => sO d V b1 (a + (b - a) / 4 * 2) s1 _ (by omega) w (hw.own (by repeat' constructor)) hd (by omega) (by omega)) rfl (fun q hq => ?_)
     have bq := vB hq (n := d.size) (by omega)
     obtain ⟨x2, s2⟩ := q
     dsimp only at bq
     change Tr _ _ [rowE V 23 av d.toList, cellE b1 [.int .i64 ((s2 : Nat) : Int)] 3] _ _
     refine zz0 (ad rfl) (ae (aa (ab (zz0 (ac rfl) (zz0 (ac rfl) ?_)))))
     refine cT (fun i : Nat × Nat => .int .i64 (i.1 : Nat)) [rowE V 23 av d.toList, cellE b1 [.int .i64 ((s2 : Nat) : Int)] 3] (fun i : Nat × Nat => [rowE V 23 av d.toList, cellE b1 [.int .i64 (i.2 : Nat)] 3]) (ok := fun zz => zz = medianAdjacent ltW d (a + (b - a) / 4 * 3) s2) (dd := fun w => w.drawn) rfl Tryz.call138 (by repeat' constructor) (fun w hw => hw.dr) (fun w hw => sO d V b1 (a + (b - a) / 4 * 3) s2 _ (by omega) w (hw.own (by repeat' constructor)) hd (by omega) (by omega)) rfl (fun r hr => ?_)
     have br := vB hr (n := d.size) (by omega)
     obtain ⟨x3, s3⟩ := r
     dsimp only at br
     change Tr _ _ [rowE V 23 av d.toList, cellE b1 [.int .i64 ((s3 : Nat) : Int)] 3] _ _
     refine zz0 (ad rfl) (ae (aa ?_))
     apply aZ (x1, x2, x3, s3)
     ·exact rfl
     ·exact (.cons (by first | rfl | exact am rfl (by omega) | exact am rfl (by simp) | exact aS rfl (by simp)) (.cons (by first | rfl | exact am rfl (by omega) | exact am rfl (by simp) | exact aS rfl (by simp)) (.cons (by first | rfl | exact am rfl (by omega) | exact am rfl (by simp) | exact aS rfl (by simp)) Front.nil)))
     ·exact bQ 14 rfl
     ·exact (by repeat' constructor)
     ·exact ⟨by omega, Ap (by omega) hp hq hr rfl⟩
    ·refine ax (aa ?_)
     apply aZ (a + (b - a) / 4 * 1, a + (b - a) / 4 * 2, a + (b - a) / 4 * 3, 0)
     ·exact rfl
     ·exact (.cons (by first | rfl | exact am rfl (by omega) | exact am rfl (by simp) | exact aS rfl (by simp)) (.cons (by first | rfl | exact am rfl (by omega) | exact am rfl (by simp) | exact aS rfl (by simp)) (.cons (by first | rfl | exact am rfl (by omega) | exact am rfl (by simp) | exact aS rfl (by simp)) Front.nil)))
     ·exact bQ 2 rfl
     ·exact (by repeat' constructor)
     ·exact ⟨by omega, Ao (by omega) (by omega) rfl⟩
   ·obtain ⟨i, j, k, s⟩ := i
    replace hi : (i < d.size ∧ j < d.size ∧ k < d.size ∧ s ≤ 9) ∧ median ltW d i j k s = rawPivot ltW d a b := hi
    change Tr _ _ [rowE V 23 av d.toList, cellE b1 [.int .i64 ((s : Nat) : Int)] 3] ([(10, .int .i64 (i : Nat)), (11, .int .i64 (j : Nat)), (12, .int .i64 (k : Nat))] ++ _) _
    obtain ⟨hi1, hi2⟩ := hi
    refine ab (zz0 (ac rfl) (zz0 (ac rfl) (zz0 (ac rfl) (zz0 (ac rfl) ?_))))
    refine cT (fun i : Nat × Nat => .int .i64 (i.1 : Nat)) [rowE V 23 av d.toList, cellE b1 [.int .i64 ((s : Nat) : Int)] 3] (fun i : Nat × Nat => [rowE V 23 av d.toList, cellE b1 [.int .i64 (i.2 : Nat)] 3]) (ok := fun zz => zz = median ltW d i j k s) (dd := fun w => w.drawn) rfl Tryz.call139 (by repeat' constructor) (fun w hw => hw.dr) (fun w hw => qn d V b1 i j k s _ _ _ rfl rfl rfl w (hw.own (by repeat' constructor)) hd (by omega) (by omega) (by omega)) rfl (fun z hz => ?_)
    have bz := rG hz (n := d.size) (by omega) (by omega) (by omega)
    obtain ⟨x4, s4⟩ := z
    dsimp only at bz
    change Tr _ _ [rowE V 23 av d.toList, cellE b1 [.int .i64 ((s4 : Nat) : Int)] 3] _ _
    refine zz0 (ad rfl) (ae (aa ?_))
    apply aZ (i, x4, k, s4)
    ·exact rfl
    ·exact (.cons (by first | rfl | exact am rfl (by omega) | exact am rfl (by simp) | exact aS rfl (by simp)) (.cons (by first | rfl | exact am rfl (by omega) | exact am rfl (by simp) | exact aS rfl (by simp)) (.cons (by first | rfl | exact am rfl (by omega) | exact am rfl (by simp) | exact aS rfl (by simp)) Front.nil)))
    ·exact bQ 11 rfl
    ·exact (by repeat' constructor)
    ·exact ⟨by omega, by rw [← hi2]; exact hz⟩
  ·refine ax (aa ?_)
   apply aZ (a + (b - a) / 4 * 1, a + (b - a) / 4 * 2, a + (b - a) / 4 * 3, 0)
   ·exact rfl
   ·exact (.cons (by first | rfl | exact am rfl (by omega) | exact am rfl (by simp) | exact aS rfl (by simp)) (.cons (by first | rfl | exact am rfl (by omega) | exact am rfl (by simp) | exact aS rfl (by simp)) (.cons (by first | rfl | exact am rfl (by omega) | exact am rfl (by simp) | exact aS rfl (by simp)) Front.nil)))
   ·exact bQ 2 rfl
   ·exact (by repeat' constructor)
   ·exact ⟨by omega, yE (by omega)⟩
 ·obtain ⟨i, j, k, s⟩ := i
  replace hi : (j < d.size ∧ s ≤ 12) ∧ (j, s) = rawPivot ltW d a b := hi
  change Tr _ _ [rowE V 23 av d.toList, cellE b1 [.int .i64 ((s : Nat) : Int)] 3] ([(10, .int .i64 (i : Nat)), (11, .int .i64 (j : Nat)), (12, .int .i64 (k : Nat))] ++ _) _
  obtain ⟨hj1, hj2⟩ := hi
  refine af (ab (zz0 (aM rfl aD) ?_))
  refine ae (aa (aQ (af (ab (zz0 (aN rfl rfl) (zz0 (ad rfl) (ae (aa ?_))))))))
  refine ak rfl ?_ ?_ <;> intro h4 <;> try simp only [bs] at h4
  ·refine af (ab (zz0 (ac rfl) (zz0 (ad rfl) (zz0 (ad rfl) (ae (aa (ao (bf ?_))))))))
   refine cy lw rfl rfl (fun w' hw => ?_)
   obtain rfl : s = 0 := by omega
   exact ⟨by rw [choosePivot_eq, ← hj2]; rfl, HpOK.mutOwn hw (.head _) rfl⟩
  ·refine af (ab (zz0 (aN rfl rfl) (zz0 (ad rfl) (ae (aa ?_)))))
   refine ak rfl ?_ ?_ <;> intro h5 <;> try simp only [bs] at h5
   ·refine af (ab (zz0 (ac rfl) (zz0 (ad rfl) (zz0 (ad rfl) (ae (aa (ao (bf ?_))))))))
    refine cy lw rfl rfl (fun w' hw => ?_)
    obtain rfl : s = 12 := by omega
    exact ⟨by rw [choosePivot_eq, ← hj2]; rfl, HpOK.mutOwn hw (.head _) rfl⟩
   ·refine af (ab (zz0 (ac rfl) (zz0 (ad rfl) (zz0 (ad rfl) (ae (aa (ao (bf ?_))))))))
    refine cy lw rfl rfl (fun w' hw => ?_)
    exact ⟨by rw [choosePivot_eq, ← hj2]; simp only [hintOf]; rw [if_neg (by omega), if_neg (by omega)]; rfl, HpOK.mutOwn hw (.head _) rfl⟩
theorem xK (d : Array UInt32) (V : Value) (a : Nat) (b : Nat) (ai : Int) (bi : Int) (ea : ai = ((a : Nat) : Int)) (eb : bi = ((b : Nat) : Int)) (w : World) (hr : (rowE V 23 av d.toList).holds w) (hd : d.size ≤ 1000000) (hab : a ≤ b) (hb : b ≤ d.size) :
  Calls Tryz.prog 103 #[V, .int .i64 ai, .int .i64 bi] w (fun e w' => e = .returned (.tuple #[]) ∧ Mut w w' V ∧ (rowE V 23 av (breakPatterns d a b).toList).holds w') := by
 subst ea eb
 obtain ⟨md, hmd⟩ : ∃ md, md = 1 <<< bitsLen (b - a) := ⟨_, rfl⟩
 obtain ⟨i0, hi0⟩ : ∃ i, i = a + (b - a) / 4 * 2 - 1 := ⟨_, rfl⟩
 refine ij (l := d.toList) (E := av) (T := 23) hr Tryz.func103 rfl Tryz.ntmps103 rfl ?_
 refine af (ab (zz0 (ac rfl) (zz0 (ac rfl) (zz0 (eE rfl rfl) ?_))))
 refine zz0 (ad rfl) (ae (aa (af (ab (zz0 (ac rfl) (zz0 (dl rfl rfl) (ae (aa ?_))))))))
 refine ak rfl ?_ ?_ <;> intro h1 <;> try simp only [bs] at h1
 ·refine af (ab (zz0 (ac rfl) (zz0 (vQ (b - a) rfl aO Tryz.underlying176 (by omega) (by omega)) ?_)))
  refine c9 Tryz.zeroValue176 rfl (fun b2 => ?_)
  refine lO rfl rfl j7 (by repeat constructor) (by rfl) (by rfl) (by first | exact List.all_eq_true.1 rfl | exact Enc.one _ _) rfl ?_
  refine ae (aa (af (ab (zz0 (ac rfl) (zz0 (aB rfl Tryz.call136 (fun w hw => xq (b - a) _ (by omega) (by omega) w)) ?_)))))
  rw [← hmd]
  have hmb := BA (n := b - a) (by omega)
  rw [← hmd] at hmb
  refine zz0 (ad rfl) (ae (aa (af (ab (zz0 (ac rfl) (zz0 (ac rfl) (zz0 (mr rfl rfl (by omega)) ?_)))))))
  refine zz0 (k9 rfl rfl (by omega)) ?_
  refine zz0 (dq rfl rfl) ?_
  refine zz0 (eE rfl rfl) ?_
  refine zz0 (ad rfl) (ae (aa (aQ ?_)))
  refine cp (ι := Nat × UInt64 × Array UInt32) (fun ⟨t, r, cur⟩ => t ≤ 3 ∧ cur.size = d.size ∧ nu a (b - a) md i0 t (UInt64.ofNat (b - a), d) = (r, cur)) (fun _ => _) (fun ⟨t, r, cur⟩ => [rowE V 23 av cur.toList, cellE b2 [.int .u64 (r.toNat : Int)] 176]) (fun ⟨t, r, cur⟩ => [(9, .int .i64 ((i0 + t : Nat) : Int))]) (fun ⟨t, r, cur⟩ => 3 - t) (0, UInt64.ofNat (b - a), d) ⟨by omega, rfl, rfl⟩ (.cons (by first | rfl | exact am rfl (by omega) | exact am rfl (by simp) | exact aS rfl (by simp)) Front.nil) (by repeat' constructor) rfl (fun i hi m hm => ?_)
  obtain ⟨t, r, cur⟩ := i
  replace hi : t ≤ 3 ∧ cur.size = d.size ∧ nu a (b - a) md i0 t (UInt64.ofNat (b - a), d) = (r, cur) := hi
  replace hm : m = 3 - t := hm
  change Tr _ _ [rowE V 23 av cur.toList, cellE b2 [.int .u64 (r.toNat : Int)] 176] ([(9, .int .i64 ((i0 + t : Nat) : Int))] ++ _) _
  obtain ⟨hk1, hk2, hk3⟩ := hi
  have hcl : cur.toList.length = d.size := by rw [Array.length_toList]; exact hk2
  refine af (af (ab (zz0 (ac rfl) (zz0 (ac rfl) (zz0 (ac rfl) (zz0 (mr rfl rfl (by omega)) ?_))))))
  refine zz0 (k9 rfl rfl (by omega)) ?_
  refine zz0 (dq rfl rfl) ?_
  refine zz0 (dq rfl rfl) ?_
  refine zz0 (dO rfl rfl) (ae (aa ?_))
  refine ak rfl ?_ ?_ <;> intro h3 <;> try simp only [bs] at h3
  ·refine ax (aa (af (aQ (af (ab ?_)))))
   refine cT (fun _ : Unit => .int .u64 ((xorNext r).toNat : Nat)) [cellE b2 [.int .u64 ((r).toNat : Int)] 176] (fun _ => [cellE b2 [.int .u64 ((xorNext r).toNat : Int)] 176]) (ok := fun _ => True) (dd := fun w => w.drawn) rfl Tryz.call137 (by repeat' constructor) (fun w hw => hw.dr) (fun w hw => Bz r b2 w (hw.own (by repeat' constructor))) rfl (fun i hi => ?_)
   refine zz0 (ac rfl) (zz0 (zU (n := 1) rfl rfl (by omega) (by omega)) ?_)
   refine zz0 (Ae rfl rfl (by have := (xorNext r).toNat_lt; omega) (by omega)) ?_
   have hand : (xorNext r).toNat &&& (md - 1) ≤ md - 1 := Nat.and_le_right
   change Tr _ _ [cellE b2 [.int .u64 ((xorNext r).toNat : Int)] 176, rowE V 23 av cur.toList] _ _
   refine zz0 (fY rfl jw aO (IntWalk.i64_in _ (by omega))) ?_
   refine zz0 (ad rfl) (ae (aa ?_))
   refine eJ (ι := Nat) (fun o => o < b - a ∧ o = if b - a ≤ ((xorNext r).toNat &&& (md - 1)) then ((xorNext r).toNat &&& (md - 1)) - (b - a) else ((xorNext r).toNat &&& (md - 1))) (fun _ => Bg.less w V) (fun o => [rowE V 23 av cur.toList, cellE b2 [.int .u64 ((xorNext r).toNat : Int)] 176]) (fun o => [(10, .int .i64 (o : Nat))]) ?_ (fun o hi => ?_)
   ·skip
    refine af (ab (zz0 (ac rfl) (zz0 (ac rfl) (zz0 (dl rfl rfl) (ae (aa ?_))))))
    refine ak rfl ?_ ?_ <;> intro h4 <;> try simp only [bs] at h4
    ·refine ab (zz0 (ac rfl) (zz0 (ac rfl) (zz0 (eE rfl rfl) ?_)))
     refine zz0 (ad rfl) (ae (aa ?_))
     apply aZ (((xorNext r).toNat &&& (md - 1)) - (b - a))
     ·exact rfl
     ·exact (.cons (by first | rfl | exact am rfl (by omega) | exact am rfl (by simp) | exact aS rfl (by simp)) Front.nil)
     ·exact bQ 7 rfl
     ·exact (by repeat' constructor)
     ·exact ⟨by omega, by rw [if_pos (by omega)]⟩
    ·refine ax (aa ?_)
     apply aZ ((xorNext r).toNat &&& (md - 1))
     ·exact rfl
     ·exact (.cons (by first | rfl | exact am rfl (by omega) | exact am rfl (by simp) | exact aS rfl (by simp)) Front.nil)
     ·exact bQ 3 rfl
     ·exact (by repeat' constructor)
     ·exact ⟨by omega, by rw [if_neg (by omega)]⟩
   ·skip
    replace hi : o < b - a ∧ o = if b - a ≤ ((xorNext r).toNat &&& (md - 1)) then ((xorNext r).toNat &&& (md - 1)) - (b - a) else ((xorNext r).toNat &&& (md - 1)) := hi
    change Tr _ _ [rowE V 23 av cur.toList, cellE b2 [.int .u64 ((xorNext r).toNat : Int)] 176] ([(10, .int .i64 (o : Nat))] ++ _) _
    obtain ⟨ho1, ho2⟩ := hi
    refine lU 6 17 aU ?_
    refine eG rfl ?_
    refine eG rfl ?_
    refine eG rfl ?_
    refine eG rfl ?_
    refine eG rfl ?_
    refine i6 (fun _ => dq rfl rfl) (by rfl) rfl ?_
    refine dz ?_
    refine aK (ac rfl) (aK (ac rfl) (aK (ac rfl) (aK (dq rfl rfl) ?_)))
    refine aK (dP rfl rfl al ah) ?_
    refine aK (eH rfl az) ?_
    refine aK (ac rfl) (aK (ac rfl) (aK (dP rfl rfl al ah) ?_))
    refine aK (eH rfl az) ?_
    refine aK (dP rfl rfl al ah) ?_
    refine cH ?_
    refine iS (l := cur.toList) (i := (i0 + t)) (cur.toList.getD ((a + o)) default) rfl rfl ah ?_
    have hls5 : (List.set cur.toList ((i0 + t)) (cur.toList.getD ((a + o)) default)).length = (cur.toList).length := List.length_set
    refine zz0 (dP rfl rfl al ah) ?_
    refine iS (l := (cur.toList.set ((i0 + t)) (cur.toList.getD ((a + o)) default))) (i := (a + o)) (cur.toList.getD ((i0 + t)) default) rfl rfl ah ?_
    have hls6 : (List.set (cur.toList.set ((i0 + t)) (cur.toList.getD ((a + o)) default)) ((a + o)) (cur.toList.getD ((i0 + t)) default)).length = ((cur.toList.set ((i0 + t)) (cur.toList.getD ((a + o)) default))).length := List.length_set
    rw [dt, dt, gQ]
    refine ae (a9 (aa (ab (zz0 (ac rfl) (zz0 (dq rfl rfl) ?_)))))
    refine zz0 (ad rfl) (ae (aa ?_))
    apply bP (t + 1, xorNext r, _)
    ·exact rfl
    ·exact (.cons (by first | rfl | exact am rfl (by omega) | exact am rfl (by simp) | exact aS rfl (by simp)) Front.nil)
    ·exact bQ 37 rfl
    ·exact (by repeat' constructor)
    ·exact ⟨by omega, by rw [lY]; exact hk2, zF hk3 ho2⟩
    ·exact (by (try dsimp only); omega)
  ·refine cm (aV (aV (bT ?_)))
   refine gj Tryz.results103 (fun w' hw => ?_)
   obtain rfl : t = 3 := by omega
   have hq : breakPatterns d a b = cur := by rw [zH (by omega), ← hmd, ← hi0, hk3]
   exact ⟨rfl, by rw [hq]; exact HpOK.mutOwn hw (.head _) rfl⟩
 ·refine ax ?_
  refine gj Tryz.results103 (fun w' hw => ?_)
  exact ⟨rfl, by rw [zG (by omega)]; exact HpOK.mutOwn hw (.head _) rfl⟩
theorem yO (V : Value) (n : Nat) (ih : ∀ (d : Array UInt32) (a b limit : Nat) (ai bi li : Int) (w : World), ai = ((a : Nat) : Int) → bi = ((b : Nat) : Int) → li = ((limit : Nat) : Int) → (rowE V 23 av d.toList).holds w → d.size ≤ 1000000 → a ≤ b → b ≤ d.size → limit ≤ 64 → b - a < n → Calls Tryz.prog 76 #[V, .int .i64 ai, .int .i64 bi, .int .i64 li] w (fun e w' => e = .returned (.tuple #[]) ∧ Mut w w' V ∧ (rowE V 23 av (pdq ltW d a b limit true true).toList).holds w')) (d : Array UInt32) (a : Nat) (b : Nat) (limit : Nat) (ai : Int) (bi : Int) (limiti : Int) (ea : ai = ((a : Nat) : Int)) (eb : bi = ((b : Nat) : Int)) (elimit : limiti = ((limit : Nat) : Int)) (w : World) (hr : (rowE V 23 av d.toList).holds w) (hd : d.size ≤ 1000000) (hab : a ≤ b) (hb : b ≤ d.size) (hl : limit ≤ 64) (hn : b - a ≤ n) :
  Calls Tryz.prog 76 #[V, .int .i64 ai, .int .i64 bi, .int .i64 limiti] w (fun e w' => e = .returned (.tuple #[]) ∧ Mut w w' V ∧ (rowE V 23 av (pdq ltW d a b limit true true).toList).holds w') := by
 subst ea eb elimit
 refine ij (l := d.toList) (E := av) (T := 23) hr Tryz.func76 rfl Tryz.ntmps76 rfl ?_
 refine af (ab (zz0 (ad rfl) (ae (aa (af (ab (zz0 (ad rfl) (ae (aa (aQ ?_))))))))))
 refine cp (ι := Nat × Nat × Nat × Bool × Bool × Array UInt32) (fun ⟨a1, b1, l1, wb, wp, cur⟩ => (a ≤ a1 ∧ a1 ≤ b1 ∧ b1 ≤ b ∧ l1 ≤ 64) ∧ cur.size = d.size ∧ pdq ltW cur a1 b1 l1 wb wp = pdq ltW d a b limit true true) (fun _ => _) (fun ⟨a1, b1, l1, wb, wp, cur⟩ => [rowE V 23 av cur.toList]) (fun ⟨a1, b1, l1, wb, wp, cur⟩ => [(1, .int .i64 (a1 : Nat)), (2, .int .i64 (b1 : Nat)), (3, .int .i64 (l1 : Nat)), (8, .bool wb), (9, .bool wp)]) (fun ⟨a1, b1, l1, wb, wp, cur⟩ => b1 - a1) (a, b, limit, true, true, d) ⟨⟨Nat.le_refl _, hab, Nat.le_refl _, hl⟩, rfl, rfl⟩ (.cons (by first | rfl | exact am rfl (by omega) | exact aS rfl (decide_eq_decide.2 (by omega)) | exact am rfl (by simp) | exact aS rfl (by simp)) (.cons (by first | rfl | exact am rfl (by omega) | exact aS rfl (decide_eq_decide.2 (by omega)) | exact am rfl (by simp) | exact aS rfl (by simp)) (.cons (by first | rfl | exact am rfl (by omega) | exact aS rfl (decide_eq_decide.2 (by omega)) | exact am rfl (by simp) | exact aS rfl (by simp)) (.cons (by first | rfl | exact am rfl (by omega) | exact aS rfl (decide_eq_decide.2 (by omega)) | exact am rfl (by simp) | exact aS rfl (by simp)) (.cons (by first | rfl | exact am rfl (by omega) | exact aS rfl (decide_eq_decide.2 (by omega)) | exact am rfl (by simp) | exact aS rfl (by simp)) Front.nil))))) (by repeat' constructor) rfl (fun i hi m hm => ?_)
 obtain ⟨a1, b1, l1, wb, wp, cur⟩ := i
 replace hi : (a ≤ a1 ∧ a1 ≤ b1 ∧ b1 ≤ b ∧ l1 ≤ 64) ∧ cur.size = d.size ∧ pdq ltW cur a1 b1 l1 wb wp = pdq ltW d a b limit true true := hi
 replace hm : m = b1 - a1 := hm
 change Tr _ _ [rowE V 23 av cur.toList] ([(1, .int .i64 (a1 : Nat)), (2, .int .i64 (b1 : Nat)), (3, .int .i64 (l1 : Nat)), (8, .bool wb), (9, .bool wp)] ++ _) _
 obtain ⟨hk1, hk2, hk3⟩ := hi
 have hcl : cur.toList.length = d.size := by rw [Array.length_toList]; exact hk2
 refine aQ (af (ab (zz0 (ac rfl) (zz0 (ac rfl) (zz0 (eE rfl rfl) ?_)))))
 refine zz0 (ad rfl) (ae (aa (af (af (ab (zz0 (ac rfl) (zz0 (dO rfl rfl) (ae (aa ?_)))))))))
 refine ak rfl ?_ ?_ <;> intro h1 <;> try simp only [bs] at h1
 ·refine af (ab (zz0 (ac rfl) (zz0 (ac rfl) (zz0 (ac rfl) (eW rfl Tryz.call101 (by repeat constructor) (fun w hw => q9 cur V a1 b1 _ _ rfl rfl w (hw.ent _ (.head _)) (by omega) (by omega) (by omega)) rfl ?_)))))
  refine ae (aa (ao (an (bf (an (bf ?_))))))
  refine pz Tryz.results76 (fun w' hw => ?_)
  exact ⟨rfl, by rw [← hk3, qZ (by omega)]; exact HpOK.mutOwn hw (.head _) rfl⟩
 ·refine ax (aa (af (af (ab (zz0 (ac rfl) (zz0 (aN rfl rfl) (ae (aa ?_))))))))
  refine ak rfl ?_ ?_ <;> intro h2 <;> try simp only [bs] at h2
  ·refine af (ab (zz0 (ac rfl) (zz0 (ac rfl) (zz0 (ac rfl) (eW rfl Tryz.call102 (by repeat constructor) (fun w hw => zc cur V a1 b1 _ _ rfl rfl w (hw.ent _ (.head _)) (by omega) (by omega) (by omega)) rfl ?_)))))
   refine ae (aa (ao (an (bf (an (bf ?_))))))
   refine pz Tryz.results76 (fun w' hw => ?_)
   exact ⟨rfl, by rw [← hk3, sw (by omega) (by omega)]; exact HpOK.mutOwn hw (.head _) rfl⟩
  ·refine ax (aa ?_)
   refine eJ (ι := Nat × Array UInt32) (fun ⟨l2, d1⟩ => (d1.size = d.size ∧ l2 ≤ 64) ∧ l2 = (if !wb then l1 - 1 else l1) ∧ d1 = (if !wb then breakPatterns cur a1 b1 else cur)) (fun _ => Bg.less w V) (fun ⟨l2, d1⟩ => [rowE V 23 av d1.toList]) (fun ⟨l2, d1⟩ => [(3, .int .i64 (l2 : Nat))]) ?_ (fun i hi => ?_)
   ·skip
    refine af (ab (zz0 (ac rfl) (zz0 (cj rfl) (ae (aa ?_)))))
    refine ak rfl ?_ ?_ <;> intro h3 <;> try simp only [bs] at h3
    ·refine af (ab (zz0 (ac rfl) (zz0 (ac rfl) (zz0 (ac rfl) (eW rfl Tryz.call103 (by repeat constructor) (fun w hw => xK cur V a1 b1 _ _ rfl rfl w (hw.ent _ (.head _)) (by omega) (by omega) (by omega)) rfl ?_)))))
     refine jC hr (.head _) (fun hq => ?_)
     have hz1 : (breakPatterns cur a1 b1).size = d.size := by rw [← Array.length_toList, ← Array.length_toList]; exact hq
     refine ae (aa (ab (zz0 (ac rfl) (zz0 (eE rfl rfl) ?_))))
     refine zz0 (ad rfl) (ae (aa ?_))
     apply aZ (l1 - 1, breakPatterns cur a1 b1)
     ·exact rfl
     ·exact (.cons (by first | rfl | exact am rfl (by omega) | exact aS rfl (decide_eq_decide.2 (by omega)) | exact am rfl (by simp) | exact aS rfl (by simp)) Front.nil)
     ·exact bQ 9 rfl
     ·exact (by repeat' constructor)
     ·exact ⟨⟨hz1, by omega⟩, by simp_all, by simp_all⟩
    ·refine ax (aa ?_)
     apply aZ (l1, cur)
     ·exact rfl
     ·exact (.cons (by first | rfl | exact am rfl (by omega) | exact aS rfl (decide_eq_decide.2 (by omega)) | exact am rfl (by simp) | exact aS rfl (by simp)) Front.nil)
     ·exact bQ 2 rfl
     ·exact (by repeat' constructor)
     ·exact ⟨⟨hk2, by omega⟩, by simp_all, by simp_all⟩
   ·obtain ⟨l2, d1⟩ := i
    replace hi : (d1.size = d.size ∧ l2 ≤ 64) ∧ l2 = (if !wb then l1 - 1 else l1) ∧ d1 = (if !wb then breakPatterns cur a1 b1 else cur) := hi
    change Tr _ _ [rowE V 23 av d1.toList] ([(3, .int .i64 (l2 : Nat))] ++ _) _
    obtain ⟨hd1, hl2, hd1e⟩ := hi
    refine af (ab (zz0 (ac rfl) (zz0 (ac rfl) (zz0 (ac rfl) (eW rfl Tryz.call104 (by repeat constructor) (fun w hw => pf d1 V a1 b1 _ _ rfl rfl w (hw.ent _ (.head _)) (by omega) (by omega) (by omega)) rfl ?_)))))
    obtain ⟨c, hc⟩ : ∃ c, c = choosePivot ltW d1 a1 b1 := ⟨_, rfl⟩
    rw [← hc]
    have hcr := choosePivot_holds ltW d1 a1 b1 (by omega)
    rw [← hc] at hcr
    refine zz0 (ac rfl) (zz0 (ay rfl rfl) (zz0 (ay rfl rfl) (zz0 (ad rfl) (zz0 (ad rfl) (ae (aa ?_))))))
    refine eJ (ι := Nat × Hint × Array UInt32) (fun ⟨pv, hint, d2⟩ => (a1 ≤ pv ∧ pv < b1 ∧ d2.size = d.size) ∧ d2 = (if c.2 = .decreasing then reverseRange d1 a1 b1 else d1) ∧ pv = (if c.2 = .decreasing then (b1 - 1) - (c.1 - a1) else c.1) ∧ hint = (if c.2 = .decreasing then Hint.increasing else c.2)) (fun _ => Bg.less w V) (fun ⟨pv, hint, d2⟩ => [rowE V 23 av d2.toList]) (fun ⟨pv, hint, d2⟩ => [(11, .int .i64 (pv : Nat)), (12, .int .i64 (hintCode hint))]) ?_ (fun i hi => ?_)
    ·skip
     refine af (ab (zz0 (ac rfl) (zz0 (aN rfl rfl) (ae (aa ?_)))))
     refine ak rfl ?_ ?_ <;> intro h4 <;> try simp only [bs] at h4
     ·refine af (ab (zz0 (ac rfl) (zz0 (ac rfl) (zz0 (ac rfl) (eW rfl Tryz.call105 (by repeat constructor) (fun w hw => tz d1 V a1 b1 _ _ rfl rfl w (hw.ent _ (.head _)) (by omega) (by omega) (by omega)) rfl ?_)))))
      refine jC hr (.head _) (fun hq => ?_)
      have hz2 : (reverseRange d1 a1 b1).size = d.size := by rw [← Array.length_toList, ← Array.length_toList]; exact hq
      refine ae (aa (af (ab (zz0 (ac rfl) (zz0 (eE rfl rfl) ?_)))))
      refine zz0 (ac rfl) (zz0 (ac rfl) (zz0 (eE rfl rfl) ?_))
      refine zz0 (eE rfl rfl) ?_
      refine zz0 (ad rfl) (ae (aa (ab (zz0 (ad rfl) (ae (aa ?_))))))
      have hx : c.2 = .decreasing := (nM c.2).1 (by assumption)
      apply aZ (b1 - 1 - (c.1 - a1), .increasing, reverseRange d1 a1 b1)
      ·exact rfl
      ·exact (.cons (by first | rfl | exact am rfl (by omega) | exact aS rfl (decide_eq_decide.2 (by omega)) | exact am rfl (by simp) | exact aS rfl (by simp)) (.cons (by first | rfl | exact am rfl (by omega) | exact aS rfl (decide_eq_decide.2 (by omega)) | exact am rfl (by simp) | exact aS rfl (by simp)) Front.nil))
      ·exact bQ 14 rfl
      ·exact (by repeat' constructor)
      ·exact ⟨⟨by omega, by omega, hz2⟩, by rw [if_pos hx], by rw [if_pos hx], by rw [if_pos hx]⟩
     ·refine ax (aa ?_)
      have hx : ¬ c.2 = .decreasing := fun e => absurd ((nM c.2).2 e) (by assumption)
      apply aZ (c.1, c.2, d1)
      ·exact rfl
      ·exact (.cons (by first | rfl | exact am rfl (by omega) | exact aS rfl (decide_eq_decide.2 (by omega)) | exact am rfl (by simp) | exact aS rfl (by simp)) (.cons (by first | rfl | exact am rfl (by omega) | exact aS rfl (decide_eq_decide.2 (by omega)) | exact am rfl (by simp) | exact aS rfl (by simp)) Front.nil))
      ·exact bQ 2 rfl
      ·exact (by repeat' constructor)
      ·exact ⟨⟨by omega, by omega, hd1.1⟩, by rw [if_neg hx], by rw [if_neg hx], by rw [if_neg hx]⟩
    ·obtain ⟨pv, hint, d2⟩ := i
     replace hi : (a1 ≤ pv ∧ pv < b1 ∧ d2.size = d.size) ∧ d2 = (if c.2 = .decreasing then reverseRange d1 a1 b1 else d1) ∧ pv = (if c.2 = .decreasing then (b1 - 1) - (c.1 - a1) else c.1) ∧ hint = (if c.2 = .decreasing then Hint.increasing else c.2) := hi
     change Tr _ _ [rowE V 23 av d2.toList] ([(11, .int .i64 (pv : Nat)), (12, .int .i64 (hintCode hint))] ++ _) _
     obtain ⟨hpv, hd2, hpve, hhint⟩ := hi
     have hdl2 : d2.toList.length = d.size := by rw [Array.length_toList]; exact hpv.2.2
     refine eJ (ι := Array UInt32) (fun d3 => d3.size = d.size ∧ (if wb && wp && hint = .increasing then partialInsertionSort ltW d2 a1 b1 else (d2, false)) = (d3, false)) (fun _ => Bg.less w V) (fun d3 => [rowE V 23 av d3.toList]) (fun d3 => []) ?_ (fun d3 hi => ?_)
     ·skip
      refine af (ab (zz0 (ac rfl) (zz0 (ac rfl) ?_)))
      apply bF
      ·exact (rfl : _ = (2, 62, 64))
      ·exact rfl
      ·intro hT5; have hT5' := hT5
       try simp only [bs] at hT5'
       refine zz5 hT5 (ac rfl) (zz0 (aE rfl hT5 rfl) ?_)
       refine ae (aa ?_)
       exact aw (Sub.cons rfl (zz7 2 rfl))
      ·intro hF5
       refine zz6 hF5 (zz0 (aF rfl hF5 rfl) ?_)
       refine ae (aa ?_)
       exact aw (Sub.cons rfl (zz7 2 rfl))
      refine zz0 (ac rfl) ?_
      apply bF
      ·exact (rfl : _ = (3, 65, 68))
      ·exact rfl
      ·intro hT6; have hT6' := hT6
       try simp only [bs] at hT6'
       refine zz5 hT6 (ac rfl) (zz5 hT6 (aN rfl rfl) (zz0 (aE rfl hT6 rfl) ?_))
       refine ae (aa ?_)
       exact aw (Sub.cons rfl (zz7 3 rfl))
      ·intro hF6
       refine zz6 hF6 (zz6 hF6 (zz0 (aF rfl hF6 rfl) ?_))
       refine ae (aa ?_)
       exact aw (Sub.cons rfl (zz7 3 rfl))
      refine ae (aa ?_)
      refine ak rfl ?_ ?_ <;> intro h7 <;> try simp only [bs] at h7
      ·refine af (ab (zz0 (ac rfl) (zz0 (ac rfl) (zz0 (ac rfl) (eW rfl Tryz.call106 (by repeat constructor) (fun w hw => qf d2 V a1 b1 _ _ rfl rfl w (hw.ent _ (.head _)) (by omega) (by omega) (by omega)) rfl ?_)))))
       obtain ⟨p, hp⟩ : ∃ p, p = partialInsertionSort ltW d2 a1 b1 := ⟨_, rfl⟩
       rw [← hp]
       refine jC hr (.head _) (fun hq => ?_)
       have hz3 : p.1.size = d.size := by rw [← Array.length_toList, ← Array.length_toList]; exact hq
       refine ae (aa ?_)
       refine ak rfl ?_ ?_ <;> intro h8 <;> try simp only [bs] at h8
       ·refine ao (an (bf (an (bf ?_))))
        refine pz Tryz.results76 (fun w' hw => ?_)
        have hfin : pdq ltW cur a1 b1 l1 wb wp = p.1 := sx (by omega) (by omega) hd1e hc hd2 hhint (by rw [if_pos (yN h7), ← hp]; exact Prod.ext rfl (by assumption))
        exact ⟨rfl, by rw [← hk3, hfin]; exact HpOK.mutOwn hw (.head _) rfl⟩
       ·refine ax (aa ?_)
        apply aZ p.1
        ·exact rfl
        ·exact Front.nil
        ·exact bQ 9 rfl
        ·exact (by repeat' constructor)
        ·exact ⟨hz3, by rw [if_pos (yN h7)]; exact Prod.ext rfl (by assumption)⟩
      ·refine ax (aa ?_)
       apply aZ d2
       ·exact rfl
       ·exact Front.nil
       ·exact bQ 5 rfl
       ·exact (by repeat' constructor)
       ·exact ⟨hpv.2.2, by rw [if_neg (Ca h7)]⟩
     ·skip
      replace hi : d3.size = d.size ∧ (if wb && wp && hint = .increasing then partialInsertionSort ltW d2 a1 b1 else (d2, false)) = (d3, false) := hi
      change Tr _ _ [rowE V 23 av d3.toList] ([] ++ _) _
      obtain ⟨hd3, hd3e⟩ := hi
      have hdl3 : d3.toList.length = d.size := by rw [Array.length_toList]; exact hd3
      have hR : Rnd cur a1 b1 l1 wb wp l2 pv d3 := ⟨d1, d2, c, hint, hd1e, hl2, hc, hd2, hpve, hhint, hd3e⟩
      have ea1 : ((a1 : Int) - 1).toNat = a1 - 1 ∨ a1 = 0 := by omega
      refine af (af (ja aU ?_))
      refine aK (ac rfl) (aK (fG rfl rfl) (aK (ac rfl) ?_))
      apply gi
      ·exact (rfl : _ = (12, 75, 87))
      ·exact rfl
      ·intro hT9; have hT9' := hT9
       try simp only [bs] at hT9'
       refine bY hT9 (ac rfl) (bY hT9 (ac rfl) (bY hT9 (eE rfl rfl) ?_))
       refine bY hT9 (mz rfl rfl al ah) ?_
       refine bY hT9 (eH rfl az) ?_
       refine bY hT9 (ac rfl) (bY hT9 (ac rfl) (bY hT9 (dP rfl rfl al ah) ?_))
       refine bY hT9 (eH rfl az) ?_
       refine bY hT9 (aB rfl eU (fun w hw => gf (d3.toList.getD (((a1 : Int) - 1).toNat) default) (d3.toList.getD (pv) default) w)) ?_
       refine bY hT9 (cj rfl) (aK (aE rfl hT9 rfl) ?_)
       exact dh (Sub.cons rfl (zz7 12 rfl))
      ·intro hF9
       refine bZ hF9 (bZ hF9 (bZ hF9 (bZ hF9 (bZ hF9 (bZ hF9 (bZ hF9 (bZ hF9 (bZ hF9 (bZ hF9 (bZ hF9 (aK (aF rfl hF9 rfl) ?_)))))))))))
       exact dh (Sub.cons rfl (zz7 12 rfl))
      refine cH ?_
      refine aa ?_
      refine ak rfl ?_ ?_ <;> intro h10 <;> try simp only [bs] at h10
      ·refine af (ab (zz0 (ac rfl) (zz0 (ac rfl) (zz0 (ac rfl) (zz0 (ac rfl) (eW rfl Tryz.call108 (by repeat constructor) (fun w hw => o8 d3 V a1 b1 pv _ _ _ rfl rfl rfl w (hw.ent _ (.head _)) (by omega) (by omega) (by omega) (by omega)) rfl ?_))))))
       obtain ⟨p, hpe⟩ : ∃ p, p = partitionEqual ltW d3 a1 b1 pv := ⟨_, rfl⟩
       have hpr := u4 (d := d3) (pv := pv) (show a1 + 1 < b1 by omega) (by omega)
       rw [← hpe] at hpr
       rw [← hpe]
       obtain ⟨mid, d4⟩ := p
       dsimp only at hpr ⊢
       refine jC hr (.head _) (fun hq => ?_)
       have hz4 : d4.size = d.size := by rw [← Array.length_toList, ← Array.length_toList]; exact hq
       refine zz0 (ad rfl) (ae (aa (af (ab (zz0 (ac rfl) (zz0 (ad rfl) (ae (aa (cm (aV (bT (aa ?_))))))))))))
       apply bP (mid, b1, l2, wb, wp, d4)
       ·exact rfl
       ·exact (.cons (by first | rfl | exact am rfl (by omega) | exact aS rfl (decide_eq_decide.2 (by omega)) | exact am rfl (by simp) | exact aS rfl (by simp)) (.cons (by first | rfl | exact am rfl (by omega) | exact aS rfl (decide_eq_decide.2 (by omega)) | exact am rfl (by simp) | exact aS rfl (by simp)) (.cons (by first | rfl | exact am rfl (by omega) | exact aS rfl (decide_eq_decide.2 (by omega)) | exact am rfl (by simp) | exact aS rfl (by simp)) (.cons (by first | rfl | exact am rfl (by omega) | exact aS rfl (decide_eq_decide.2 (by omega)) | exact am rfl (by simp) | exact aS rfl (by simp)) (.cons (by first | rfl | exact am rfl (by omega) | exact aS rfl (decide_eq_decide.2 (by omega)) | exact am rfl (by simp) | exact aS rfl (by simp)) Front.nil)))))
       ·exact bQ 37 rfl
       ·exact (by repeat' constructor)
       ·exact ⟨by show a ≤ mid ∧ mid ≤ b1 ∧ b1 ≤ b ∧ l2 ≤ 64; omega, hz4, by rw [← hk3]; exact (As (by omega) (by omega) hR (by omega) (by rw [← dt, ← dt, ← ea1.resolve_right (by omega)]; simp_all) hpe.symm (by omega)).symm⟩
       ·exact (by show b1 - mid < m; omega)
      ·refine ax (aa (af ?_))
       have hcond : a1 = 0 ∨ ltW d3[a1 - 1]! d3[pv]! = true := by
        rcases Nat.eq_zero_or_pos a1 with q | q
        ·exact .inl q
        ·right
         rw [← dt, ← dt, ← ea1.resolve_right (by omega)]
         simp_all
       refine ab (zz0 (ac rfl) (zz0 (ac rfl) (zz0 (ac rfl) (zz0 (ac rfl) (eW rfl Tryz.call109 (by repeat constructor) (fun w hw => qY d3 V a1 b1 pv _ _ _ rfl rfl rfl w (hw.ent _ (.head _)) (by omega) (by omega) (by omega) (by omega)) rfl ?_)))))
       obtain ⟨p, hpt⟩ : ∃ p, p = partition ltW d3 a1 b1 pv := ⟨_, rfl⟩
       have hpr := yP (d := d3) (a := a1) (b := b1) (pv := pv) (by omega) (by omega) (by omega)
       rw [← hpt] at hpr
       rw [← hpt]
       obtain ⟨mid, ap, d4⟩ := p
       dsimp only at hpr ⊢
       refine jC hr (.head _) (fun hq => ?_)
       have hz4 : d4.size = d.size := by rw [← Array.length_toList, ← Array.length_toList]; exact hq
       refine zz0 (ac rfl) (zz0 (ay rfl rfl) (zz0 (ay rfl rfl) (zz0 (ad rfl) (zz0 (ad rfl) (ae (aa (af (ab (zz0 (ac rfl) (zz0 (ad rfl) (ae (aa (af ?_)))))))))))))
       refine ab (zz0 (ac rfl) (zz0 (ac rfl) (zz0 (eE rfl rfl) ?_)))
       refine zz0 (ac rfl) (zz0 (ac rfl) (zz0 (eE rfl rfl) ?_))
       refine zz0 (ad rfl) (zz0 (ad rfl) (ae (aa (af (ab (zz0 (ac rfl) (zz0 (mr rfl rfl (by omega)) ?_)))))))
       refine zz0 (ad rfl) (ae (aa (af (ab (zz0 (ac rfl) (zz0 (ac rfl) (zz0 (cE rfl rfl) (ae (aa ?_)))))))))
       refine ak rfl ?_ ?_ <;> intro h11 <;> try simp only [bs] at h11
       ·refine af (ab (zz0 (ac rfl) (zz0 (ac rfl) (zz0 (dl rfl rfl) (zz0 (ad rfl) (ae (aa (af (ab (zz0 (ac rfl) (zz0 (ac rfl) (zz0 (ac rfl) (zz0 (ac rfl) ?_)))))))))))))
        refine eW rfl Tryz.call76 (by repeat constructor) (fun w hw => ih d4 a1 mid l2 _ _ _ w rfl rfl rfl (hw.ent _ (.head _)) (by omega) (by omega) (by omega) (by omega) (by omega)) rfl ?_
        refine jC hr (.head _) (fun hq => ?_)
        have hz5 : (pdq ltW d4 a1 mid l2 true true).size = d.size := by rw [← Array.length_toList, ← Array.length_toList]; exact hq
        refine ae (aa (ab (zz0 (ac rfl) (zz0 (dq rfl rfl) ?_))))
        refine zz0 (ad rfl) (ae (a9 (aa ?_)))
        apply bP (mid + 1, b1, l2, decide (mid - a1 ≥ (b1 - a1) / 8), ap, pdq ltW d4 a1 mid l2 true true)
        ·exact rfl
        ·exact (.cons (by first | rfl | exact am rfl (by omega) | exact aS rfl (decide_eq_decide.2 (by omega)) | exact am rfl (by simp) | exact aS rfl (by simp)) (.cons (by first | rfl | exact am rfl (by omega) | exact aS rfl (decide_eq_decide.2 (by omega)) | exact am rfl (by simp) | exact aS rfl (by simp)) (.cons (by first | rfl | exact am rfl (by omega) | exact aS rfl (decide_eq_decide.2 (by omega)) | exact am rfl (by simp) | exact aS rfl (by simp)) (.cons (by first | rfl | exact am rfl (by omega) | exact aS rfl (decide_eq_decide.2 (by omega)) | exact am rfl (by simp) | exact aS rfl (by simp)) (.cons (by first | rfl | exact am rfl (by omega) | exact aS rfl (decide_eq_decide.2 (by omega)) | exact am rfl (by simp) | exact aS rfl (by simp)) Front.nil)))))
        ·exact bQ 67 rfl
        ·exact (by repeat' constructor)
        ·exact ⟨by show a ≤ mid + 1 ∧ mid + 1 ≤ b1 ∧ b1 ≤ b ∧ l2 ≤ 64; omega, hz5, by rw [← hk3]; exact (su (by omega) (by omega) hR hcond hpt.symm (by omega) (by omega)).symm⟩
        ·exact (by show b1 - (mid + 1) < m; omega)
       ·refine af (ab (zz0 (ac rfl) (zz0 (ac rfl) (zz0 (dl rfl rfl) (zz0 (ad rfl) (ae (aa (af (ab (zz0 (ac rfl) (zz0 (ac rfl) (zz0 (dq rfl rfl) ?_))))))))))))
        refine zz0 (ac rfl) (zz0 (ac rfl) (eW rfl Tryz.call76 (by repeat constructor) (fun w hw => ih d4 (mid + 1) b1 l2 _ _ _ w (by omega) rfl rfl (hw.ent _ (.head _)) (by omega) (by omega) (by omega) (by omega) (by omega)) rfl ?_))
        refine jC hr (.head _) (fun hq => ?_)
        have hz5 : (pdq ltW d4 (mid + 1) b1 l2 true true).size = d.size := by rw [← Array.length_toList, ← Array.length_toList]; exact hq
        refine ae (aa (ab (zz0 (ac rfl) (zz0 (ad rfl) (ae (a9 (aa ?_)))))))
        apply bP (a1, mid, l2, decide (b1 - mid ≥ (b1 - a1) / 8), ap, pdq ltW d4 (mid + 1) b1 l2 true true)
        ·exact rfl
        ·exact (.cons (by first | rfl | exact am rfl (by omega) | exact aS rfl (decide_eq_decide.2 (by omega)) | exact am rfl (by simp) | exact aS rfl (by simp)) (.cons (by first | rfl | exact am rfl (by omega) | exact aS rfl (decide_eq_decide.2 (by omega)) | exact am rfl (by simp) | exact aS rfl (by simp)) (.cons (by first | rfl | exact am rfl (by omega) | exact aS rfl (decide_eq_decide.2 (by omega)) | exact am rfl (by simp) | exact aS rfl (by simp)) (.cons (by first | rfl | exact am rfl (by omega) | exact aS rfl (decide_eq_decide.2 (by omega)) | exact am rfl (by simp) | exact aS rfl (by simp)) (.cons (by first | rfl | exact am rfl (by omega) | exact aS rfl (decide_eq_decide.2 (by omega)) | exact am rfl (by simp) | exact aS rfl (by simp)) Front.nil)))))
        ·exact bQ 67 rfl
        ·exact (by repeat' constructor)
        ·exact ⟨by show a ≤ a1 ∧ a1 ≤ mid ∧ mid ≤ b ∧ l2 ≤ 64; omega, hz5, by rw [← hk3]; exact (q7 (by omega) (by omega) hR hcond hpt.symm (by omega) (by omega)).symm⟩
        ·exact (by show mid - a1 < m; omega)
theorem wm (V : Value) : ∀ (n : Nat) (d : Array UInt32) (a b limit : Nat) (ai bi li : Int) (w : World), ai = ((a : Nat) : Int) → bi = ((b : Nat) : Int) → li = ((limit : Nat) : Int) → (rowE V 23 av d.toList).holds w → d.size ≤ 1000000 → a ≤ b → b ≤ d.size → limit ≤ 64 → b - a < n → Calls Tryz.prog 76 #[V, .int .i64 ai, .int .i64 bi, .int .i64 li] w (fun e w' => e = .returned (.tuple #[]) ∧ Mut w w' V ∧ (rowE V 23 av (pdq ltW d a b limit true true).toList).holds w')
 | 0, _, _, _, _, _, _, _, _, _, _, _, _, _, _, _, _, h => absurd h (Nat.not_lt_zero _)
 | n + 1, d, a, b, limit, ai, bi, li, w, e1, e2, e3, hr, hd, hab, hb, hl, h => yO V n (wm V n) d a b limit ai bi li e1 e2 e3 w hr hd hab hb hl (Nat.le_of_lt_succ h)
theorem wW (d : Array UInt32) (V : Value) (w : World) (hr : (rowE V 23 av d.toList).holds w) (hd : d.size ≤ 1000000) :
  Calls Tryz.prog 53 #[V] w (fun e w' => e = .returned (.tuple #[]) ∧ Mut w w' V ∧ (rowE V 23 av (sort ltW d).toList).holds w') := by
 have hdl : d.toList.length = d.size := Array.length_toList
 have hb20 : bitsLen d.size ≤ 20 := (bitsLen_le_iff _ 20).2 (by omega)
 refine ij (l := d.toList) (E := av) (T := 23) hr Tryz.func53 rfl Tryz.ntmps53 rfl ?_
 refine af (ab (zz0 (ac rfl) (zz0 (fh rfl (by repeat constructor) al) ?_)))
 refine zz0 (ad rfl) (ae (aa (ab (zz0 (ac rfl) (zz0 (ac rfl) (zz0 (ac rfl) (zz0 (fY rfl aO jw (IntWalk.u64_in _ (by omega))) ?_)))))))
 refine zz0 (aB rfl Tryz.call77 (fun w hw => Cb d.size _ (by omega) (by omega) w)) ?_
 refine eW rfl Tryz.call76 (by repeat constructor) (fun w hw => wm V _ d 0 d.size (bitsLen d.size) _ _ _ w rfl (by omega) rfl (hw.ent _ (.head _)) hd (by omega) (by omega) (by omega) (Nat.lt_succ_self _)) rfl ?_
 refine ae ?_
 refine gj Tryz.results53 (fun w' hw => ?_)
 exact ⟨rfl, HpOK.mutOwn hw (.head _) rfl⟩
end Go.Proofs.YtpeaodkfbjenpaaGreat
namespace Go.Proofs
open Go.Shelf
def Tryz.mclone_ren : Go.Shelf.Ren := ⟨fun | 5 => 74 | 7 => 100 | n => n, fun | 23 => 88 | 25 => 23 | 3 => 5 | 4 => 4 | 20 => 20 | n => n, fun | n => n⟩
theorem Tryz.mclone : Go.Proofs.SlLaysW.n5 Tryz.prog Tryz.mclone_ren := {
  mixed := by kernel_rfl
  f5 := ⟨Tryz.f74.name, by decide, Tryz.func74.trans (congrArg some (by kernel_rfl))⟩
  f7 := Tryz.func100.trans (congrArg some (by kernel_rfl))
  t4 := Tryz.underlying4
  a4 := Tryz.isAgg4
  z4 := Tryz.sizeOf4
  v4 := Tryz.zeroValue4
  t20 := Tryz.underlying20
  a20 := Tryz.isAgg20
  z20 := Tryz.sizeOf20
  v20 := Tryz.zeroValue20
  t23 := Tryz.underlying88
  a23 := Tryz.isAgg88
  z23 := Tryz.sizeOf88
  v23 := Tryz.zeroValue88 }
end Go.Proofs
namespace Go.Proofs.YtpeaodkfbjenpaaGreat
open Go Go.HL Go.RowKit
theorem yg (l : List UInt32) : (Go.Sort.sort ltW l.toArray).toList = wV l := by
 rw [yf, List.toList_toArray]
 unfold wV
 congr 1
 funext x y
 simp only [ltW]
 by_cases h : x ≤ y
 ·rw [decide_eq_true h, decide_eq_false (by rw [UInt32.lt_iff_toNat_lt]; rw [UInt32.le_iff_toNat_le] at h; omega)]; rfl
 ·rw [decide_eq_false h, decide_eq_true (by rw [UInt32.lt_iff_toNat_lt]; rw [UInt32.le_iff_toNat_le] at h; omega)]; rfl
theorem vb (b : Nat) (wl : WL) (w : World) (hW : MapIn (hp w) b u8V wl) : Calls Tryz.prog 74 #[.map (some b)] w (fun e w' => ∃ b' : Nat, e = .returned (.map (some b')) ∧ Ext w w' ∧ NewEnts w w' [mapE b' u8V wl] ∧ True) := by
 obtain ⟨es, ck, hb, hm⟩ := hW
 refine (AnyW.maps_Clone Tryz.mclone b es ck w hb).mono fun e w' ⟨h1, h2⟩ => ?_
 subst h1 h2
 refine ⟨_, rfl, ⟨(Below.refl _ _).alloc (Nat.le_refl _) _, Nat.le_refl _⟩, ⟨fun e he => ?_, by simp [cg, mapE], fun x hx => ?_, fun x hx => ?_⟩, trivial⟩
 ·obtain rfl := List.mem_singleton.1 he
  exact ⟨es, ck, World.alloc_heap_new _ _, hm⟩
 ·simp only [cg, mapE, List.filterMap_cons, List.filterMap_nil, List.mem_singleton] at hx
  subst hx; simp
 ·simp only [cg, mapE, List.filterMap_cons, List.filterMap_nil, List.mem_singleton] at hx
  omega
theorem lE (bM bm : Nat) (VR : Value) (w : World) (hC : CellsIn (hp w) bM [VR, .map (some bm)]) :
  Calls Tryz.prog 51 #[.pointer (some ⟨bM, 0, none⟩)] w (fun e w' => e = .returned (.bool true) ∧ Ext w w') := by
 have hC' : CellsIn (Bg.of w).blk bM [VR, .map (some bm)] := hC
 refine enter Tryz.func51 rfl Tryz.ntmps51 rfl ?_
 refine af (ab (zz0 (ad rfl) (ae (aa (af (ab (zz0 (ac rfl) (zz0 (qJ rfl rfl fC rfl) ?_))))))))
 refine zz0 (ac rfl) ?_
 apply bF
 ·exact (rfl : _ = (6, 5, 11))
 ·exact rfl
 ·intro hT1; have hT1' := hT1
  try simp only [bs] at hT1'
  refine zz5 hT1 (ac rfl) (zz5 hT1 (aH rfl) ?_)
  refine zz5 hT1 (zz3 (off := 1) (ft := 88) rfl cY rfl jP) ?_
  refine zz5 hT1 (fQ rfl (by assumption) kG (by rfl)) ?_
  refine zz5 hT1 (zX rfl rfl iR rfl) ?_
  refine zz0 (aE rfl hT1 rfl) ?_
  refine ae (aa ?_)
  exact aw (Sub.cons rfl (zz7 6 rfl))
 ·intro hF1
  refine zz6 hF1 (zz6 hF1 (zz6 hF1 (zz6 hF1 (zz6 hF1 (zz0 (aF rfl hF1 rfl) ?_)))))
  refine ae (aa ?_)
  exact aw (Sub.cons rfl (zz7 6 rfl))
 refine zz0 (ad rfl) (ae (aa (ao ?_)))
 refine aI Tryz.results51 rfl (fun w' hw => ?_)
 exact ⟨rfl, hw.below (Bg.le.refl _)⟩
theorem ql (n : Int) (w : World) :
  Calls Tryz.prog 55 #[.int .i64 n] w (fun e w' => e = .returned (.bool (jp n)) ∧ Ext w w') := by
 refine enter Tryz.func55 rfl Tryz.ntmps55 rfl ?_
 refine af (ab (zz0 (ad rfl) (ae (aa (af (ab (zz0 (ac rfl) (zz0 (aN rfl rfl) (zz0 (ac rfl) ?_)))))))))
 apply cZ
 ·exact (rfl : _ = (3, 5, 8))
 ·exact rfl
 ·intro hF1; have hF1' := hF1
  try simp only [bs] at hF1'
  refine zz5 hF1 (ac rfl) (zz5 hF1 (aN rfl rfl) (zz0 (aF rfl hF1 rfl) ?_))
  refine ae (aa ?_)
  exact aw (Sub.cons rfl (zz7 3 rfl))
 ·intro hT1
  refine zz6 hT1 (zz6 hT1 (zz0 (aE rfl hT1 rfl) ?_))
  refine ae (aa ?_)
  exact aw (Sub.cons rfl (zz7 3 rfl))
 refine zz0 (ac rfl) ?_
 apply cZ
 ·exact (rfl : _ = (3, 9, 12))
 ·exact rfl
 ·intro hF2; have hF2' := hF2
  try simp only [bs] at hF2'
  refine zz5 hF2 (ac rfl) (zz5 hF2 (aN rfl rfl) (zz0 (aF rfl hF2 rfl) ?_))
  refine ae (aa ?_)
  exact aw (Sub.cons rfl (zz7 3 rfl))
 ·intro hT2
  refine zz6 hT2 (zz6 hT2 (zz0 (aE rfl hT2 rfl) ?_))
  refine ae (aa ?_)
  exact aw (Sub.cons rfl (zz7 3 rfl))
 refine zz0 (ad rfl) (ae (aa (ao ?_)))
 refine aI Tryz.results55 rfl (fun w' hw => ?_)
 exact ⟨by unfold jp; congr 2; rw [Bool.eq_iff_iff]; simp [or_assoc], hw.below (Bg.le.refl _)⟩
theorem om (bM bm : Nat) (VR : Value) (rs : List RegV) (l : List SecV) (a : UInt32) (w : World) (hM : MemAt (hp w) bM bm VR rs) (hO : MemOK l rs) :
  Calls Tryz.prog 52 #[.pointer (some ⟨bM, 0, none⟩), .int .u32 a.toNat] w (fun e w' => e = .returned (.tuple #[.agg (cD.enc (dJ rs a)).toArray, .bool (decide (¬ gR rs a < 0))]) ∧ Ext w w') := by
 have hC' : CellsIn (Bg.of w).blk bM [VR, .map (some bm)] := hM.cells
 have hR' : Sl (Bg.of w).blk cD rs VR := hM.regs
 have hM' : MemAt (Bg.of w).blk bM bm VR rs := hM
 have hrl := hO.bounds.1
 refine enter Tryz.func52 rfl Tryz.ntmps52 rfl ?_
 refine af (ab ?_)
 refine c9 dx rfl (fun b1 => ?_)
 refine zz0 (ad rfl) (ae (aa (af (af (ab (zz0 (ac rfl) (zz0 (aH rfl) ?_)))))))
 refine zz0 (zz3 (off := 0) (ft := 89) rfl cY rfl dU) ?_
 refine zz0 (fQ rfl (by assumption) ip (by rfl)) ?_
 refine zz0 (gI rfl cO) ?_
 refine zz0 (ac rfl) (ae (aa (aQ ?_)))
 refine cp (ι := Nat) (fun k => k ≤ rs.length ∧ eP (inG a) k (rs.drop k) = eP (inG a) 0 rs) (fun _ => _) (fun k => [cellE b1 [.int .u64 0, .slice none 0 0, .bool false, .bool false] 97]) (fun k => [(14, .int .i64 (k : Nat))]) (fun k => rs.length - k) 0 ⟨Nat.zero_le _, rfl⟩ (.cons (by first | rfl | exact am rfl (by omega) | exact am rfl (by simp) | exact aS rfl (by simp)) Front.nil) (by repeat' constructor) rfl (fun k hi m hm => ?_)
 replace hi : k ≤ rs.length ∧ eP (inG a) k (rs.drop k) = eP (inG a) 0 rs := hi
 replace hm : m = rs.length - k := hm
 change Tr _ _ [cellE b1 [.int .u64 0, .slice none 0 0, .bool false, .bool false] 97] ([(14, .int .i64 (k : Nat))] ++ _) _
 obtain ⟨hk1, hk2⟩ := hi
 refine af (ab (zz0 (cE rfl rfl) (ae (aa (af ?_)))))
 refine ak rfl ?_ ?_ <;> intro h2 <;> try simp only [bs] at h2
 ·refine ax (aa (af (aQ (af ?_))))
  have hbk := hO.bounds.2 (rs.getD k default) (fU (by omega))
  have hal := a.toNat_lt
  refine ab (zz0 (i9 rfl rfl cO cB) ?_)
  refine zz0 (lx rfl (by assumption) gW cB (by rfl) (by omega)) ?_
  refine c9 dx rfl (fun b3 => ?_)
  refine bw cD rfl rfl cB ?_
  refine ae (aa (af (ab (zz0 (ac rfl) (zz0 (gl rfl aT cN) (zz0 (ad rfl) (ae (aa (af (ab (zz0 (ac rfl) (zz0 (zz3 (off := 0) (ft := 92) rfl dw rfl jO) ?_))))))))))))
  refine zz0 (aM rfl kF) ?_
  refine zz0 (dl rfl rfl) (zz0 (ac rfl) ?_)
  apply bF
  ·exact (rfl : _ = (10, 24, 34))
  ·exact rfl
  ·intro hT4; have hT4' := hT4
   try simp only [bs] at hT4'
   refine zz5 hT4 (ac rfl) (zz5 hT4 (zz3 (off := 0) (ft := 92) rfl dw rfl jO) ?_)
   refine zz5 hT4 (aM rfl kF) ?_
   refine zz5 hT4 (zz3 (off := 1) (ft := 62) rfl dw rfl de) ?_
   refine zz5 hT4 (aM rfl dM) ?_
   refine zz5 hT4 (fR rfl aG) ?_
   refine zz5 hT4 (fY rfl aO cN (IntWalk.u64_in _ (by omega))) ?_
   refine zz5 hT4 (nY rfl rfl (by omega)) ?_
   refine zz5 hT4 (cE rfl rfl) (zz0 (aE rfl hT4 rfl) ?_)
   refine ae (aa ?_)
   exact aw (Sub.cons rfl (zz7 10 rfl))
  ·intro hF4
   refine zz6 hF4 (zz6 hF4 (zz6 hF4 (zz6 hF4 (zz6 hF4 (zz6 hF4 (zz6 hF4 (zz6 hF4 (zz6 hF4 (zz0 (aF rfl hF4 rfl) ?_)))))))))
   refine ae (aa ?_)
   exact aw (Sub.cons rfl (zz7 10 rfl))
  refine ae (aa ?_)
  refine ak rfl ?_ ?_ <;> intro h5 <;> try simp only [bs] at h5
  ·refine af (ab (zz0 (bK rfl gW cB) ?_))
   refine bw cD rfl rfl cB ?_
   refine zz0 (ad rfl) (ae (aa (ao (bf (an (an (bf (an ?_))))))))
   refine ei Tryz.results52 rfl rfl gW cB (fun w' hw => ?_)
   have hyes : inG a (rs.getD k default) = true := by unfold inG; rw [Bool.and_eq_true, decide_eq_true_eq, decide_eq_true_eq]; omega
   have hix : gR rs a = (k : Int) := by unfold gR; rw [← hk2, drop_cons (k := k) (by omega), eP, if_pos hyes]
   exact ⟨by unfold dJ; rw [hix, if_neg (by omega), decide_eq_true (by omega)]; rfl, hw.below (Bg.le.refl _)⟩
  ·refine ax (a9 (aa (ab (zz0 (dq rfl rfl) ?_))))
   refine zz0 (ac rfl) (ae (aa ?_))
   have hne : inG a (rs.getD k default) = false := by unfold inG; rw [Bool.and_eq_false_iff, decide_eq_false_iff_not, decide_eq_false_iff_not]; omega
   apply bP (k + 1)
   ·exact rfl
   ·exact (.cons (by first | rfl | exact am rfl (by omega) | exact am rfl (by simp) | exact aS rfl (by simp)) Front.nil)
   ·exact bQ 16 rfl
   ·exact (by repeat' constructor)
   ·exact ⟨by omega, by rw [← hk2, drop_cons (k := k) (by omega), eP, if_neg (by rw [hne]; simp)]⟩
   ·exact (by (try dsimp only); omega)
 ·refine cm (aV (aV (bT (aa (af (ab (zz0 (bE (vs := []) rfl rfl (o6)) ?_)))))))
  refine bw cD rfl rfl cB ?_
  refine zz0 (ad rfl) (ae (aa (ao ?_)))
  refine ei Tryz.results52 rfl rfl gW cB (fun w' hw => ?_)
  have hix : gR rs a = -1 := by unfold gR; rw [← hk2, List.drop_of_length_le (by omega)]; rfl
  exact ⟨by unfold dJ; rw [hix, if_pos (by decide), decide_eq_false (by decide)]; rfl, hw.below (Bg.le.refl _)⟩
theorem rE (bM bm : Nat) (VR : Value) (r : RegV) (a : UInt32) (n : Nat) (wl : WL) (w : World) (hC : CellsIn (hp w) bM [VR, .map (some bm)]) (hW : MapIn (hp w) bm u8V wl) (hr : Sl (hp w) dH r.data (.slice r.dp r.data.length r.dc)) (h1 : r.org ≤ a.toNat) (h2 : a.toNat ≤ r.org + r.data.length) (h3 : r.org + r.data.length ≤ 4294967295) (hn : n ≤ 100) :
  Calls Tryz.prog 57 #[.pointer (some ⟨bM, 0, none⟩), .agg (cD.enc r).toArray, .int .u32 a.toNat, .int .i64 (n : Nat)] w (fun e w' => ∃ V', e = .returned V' ∧ Ext w w' ∧ NewRow w w' 5 dH (qb r wl a n) V') := by
 have hC' : CellsIn (Bg.of w).blk bM [VR, .map (some bm)] := hC
 have hW' : MapIn (Bg.of w).blk bm u8V wl := hW
 have hr' : Sl (Bg.of w).blk dH r.data (.slice r.dp r.data.length r.dc) := hr
 have hal := a.toNat_lt
 refine enter Tryz.func57 rfl Tryz.ntmps57 rfl ?_
 refine af (ab ?_)
 refine cM rfl rfl rfl (fun b1 => ?_)
 refine zz0 (ad rfl) (ae (aa (af (ab (zz0 (ac rfl) (zz0 (gl rfl aT cN) (zz0 (zz3 (off := 0) (ft := 92) rfl dw rfl jO) ?_)))))))
 refine zz0 (aM rfl kF) ?_
 refine zz0 (pB rfl rfl (by omega)) ?_
 refine zz0 (fY rfl cN aO (IntWalk.i64_in _ (by omega))) ?_
 refine zz0 (ad rfl) (ae (aa (af (ab (zz0 (zz3 (off := 1) (ft := 62) rfl dw rfl de) ?_)))))
 refine zz0 (aM rfl dM) ?_
 refine zz0 (ac rfl) (zz0 (ac rfl) (zz0 (ac rfl) (zz0 (dq rfl rfl) ?_)))
 refine zz0 (zz3 (off := 1) (ft := 62) rfl dw rfl de) ?_
 refine zz0 (aM rfl dM) ?_
 refine zz0 (gI rfl aG) ?_
 refine zz0 (lb rfl rfl) ?_
 refine zz0 (qN (lv := some (_, _)) (hv := some (_, _)) rfl rfl rfl aG bN) ?_
 refine dV rfl Tryz.call44 (fun w hw => qz ((r.data.take (min (((a.toNat : Int) - r.org) + n) (r.data.length : Int)).toNat).drop ((a.toNat : Int) - r.org).toNat) _ w (Sl.resl (l := ((a.toNat : Int) - r.org).toNat) (h := (min (((a.toNat : Int) - r.org) + n) (r.data.length : Int)).toNat) (hw.slF hr') (by omega) (by omega)) (by simp only [List.length_drop, List.length_take]; omega)) rfl (fun V2 => ?_)
 refine zz0 (ad rfl) (ae (aa (af (af ?_))))
 obtain ⟨base, hbase⟩ : ∃ base, base = ((r.data.take (min (((a.toNat : Int) - r.org) + n) (r.data.length : Int)).toNat).drop ((a.toNat : Int) - r.org).toNat) := ⟨_, rfl⟩
 rw [← hbase]
 have hbl : base.length ≤ 100 := by rw [hbase, List.length_drop, List.length_take]; omega
 refine nT (l' := (ovr wl a (base.take 0) ++ base.drop 0)) (by simp [ovr]) ?_
 have hcl : ∀ k, k ≤ base.length → (ovr wl a (base.take k) ++ base.drop k).length = base.length := fun k hk => by rw [List.length_append, mW, List.length_take, List.length_drop]; omega
 refine ab (zz0 (ac rfl) (zz0 (fh (l := (ovr wl a (base.take 0) ++ base.drop 0)) rfl (by repeat constructor) aG) ?_))
 refine zz0 (ac rfl) (ae (aa (aQ ?_)))
 have hlen0 := hcl 0 (Nat.zero_le _)
 refine cp (ι := Nat) (fun k => k ≤ base.length) (fun _ => _) (fun k => [rowE V2 5 dH (ovr wl a (base.take k) ++ base.drop k), cellE b1 (cD.enc r) 97]) (fun k => [(34, .int .i64 (k : Nat)), (33, .int .i64 (base.length : Nat))]) (fun k => base.length - k) 0 (Nat.zero_le _) (.cons (by first | rfl | exact am rfl (by omega) | exact am rfl (by simp) | exact aS rfl (by simp)) (.cons (by first | rfl | exact am rfl (by omega) | exact am rfl (by simp) | exact aS rfl (by simp)) Front.nil)) (by repeat' constructor) rfl (fun k hi m hm => ?_)
 replace hi : k ≤ base.length := hi
 replace hm : m = base.length - k := hm
 change Tr _ _ [rowE V2 5 dH (ovr wl a (base.take k) ++ base.drop k), cellE b1 (cD.enc r) 97] ([(34, .int .i64 (k : Nat)), (33, .int .i64 (base.length : Nat))] ++ _) _
 refine af (ab (zz0 (cE rfl rfl) (ae (aa (af ?_)))))
 refine ak rfl ?_ ?_ <;> intro h3 <;> try simp only [bs] at h3
 ·refine ax (aa (af (aQ (af (ab (zz0 (ac rfl) (zz0 (ad rfl) (ae (aa (af (ab (zz0 (ac rfl) (zz0 (aH rfl) ?_)))))))))))))
  refine zz0 (zz3 (off := 1) (ft := 88) rfl cY rfl jP) ?_
  refine zz0 (fQ rfl (by assumption) kG (by rfl)) ?_
  refine zz0 (ac rfl) (zz0 (ac rfl) (zz0 (eY rfl aO aT) (zz0 (cL rfl rfl) ?_)))
  refine zz0 (uK rfl rfl hW' iR aT jH) ?_
  refine zz0 (ac rfl) (zz0 (ay rfl rfl) (zz0 (ay rfl rfl) (zz0 (ad rfl) (zz0 (ad rfl) (ae (aa (af (ab (zz0 (ac rfl) (ae (aa ?_)))))))))))
  refine ak rfl ?_ ?_ <;> intro h4 <;> try simp only [bs] at h4
  ·have hlen := hcl k (by omega)
   refine ab (zz0 (ac rfl) (zz0 (ac rfl) (zz0 (ac rfl) (zz0 (dP rfl rfl aG bN) ?_))))
   refine iS (l := (ovr wl a (base.take k) ++ base.drop k)) (i := k) (((fy wl (a + u32 (k : Int))).getD 0)) rfl rfl bN ?_
   have hls5 : (List.set (ovr wl a (base.take k) ++ base.drop k) (k) (((fy wl (a + u32 (k : Int))).getD 0))).length = ((ovr wl a (base.take k) ++ base.drop k)).length := List.length_set
   refine ae (a9 (aa (ab (zz0 (dq rfl rfl) ?_))))
   refine zz0 (ac rfl) (ae (aa ?_))
   obtain ⟨x, hx⟩ := Option.isSome_iff_exists.1 (show (fy wl (a + u32 (k : Int))).isSome = true by assumption)
   rw [hx, Option.getD_some, Av (by omega) (by rw [← mU]; exact hx)]
   apply bP (k + 1)
   ·exact rfl
   ·exact (.cons (by first | rfl | exact am rfl (by omega) | exact am rfl (by simp) | exact aS rfl (by simp)) (.cons (by first | rfl | exact am rfl (by omega) | exact am rfl (by simp) | exact aS rfl (by simp)) Front.nil))
   ·exact bQ 26 rfl
   ·exact (by repeat' constructor)
   ·exact (by show k + 1 ≤ _; omega)
   ·exact (by (try dsimp only); omega)
  ·refine ax (a9 (aa (ab (zz0 (dq rfl rfl) ?_))))
   refine zz0 (ac rfl) (ae (aa ?_))
   rw [By (by omega) (by rw [← mU]; exact Option.isNone_iff_eq_none.1 (by simp_all))]
   apply bP (k + 1)
   ·exact rfl
   ·exact (.cons (by first | rfl | exact am rfl (by omega) | exact am rfl (by simp) | exact aS rfl (by simp)) (.cons (by first | rfl | exact am rfl (by omega) | exact am rfl (by simp) | exact aS rfl (by simp)) Front.nil))
   ·exact bQ 22 rfl
   ·exact (by repeat' constructor)
   ·exact (by show k + 1 ≤ _; omega)
   ·exact (by (try dsimp only); omega)
 ·refine cm (aV (aV (bT (aa (af (ab (zz0 (ac rfl) (zz0 (ad rfl) (ae (aa (ao ?_)))))))))))
  refine aI Tryz.results57 rfl (fun w' hw => ?_)
  have hfin : (ovr wl a (base.take k) ++ base.drop k) = qb r wl a n := by
   rw [List.take_of_length_le (by omega), List.drop_of_length_le (by omega), List.append_nil, hbase]
   unfold qb
   congr 1
   rw [List.drop_take, show ((a.toNat : Int) - r.org).toNat = a.toNat - r.org by omega, List.take_eq_take_iff, List.length_drop]
   omega
  rw [hfin] at hw
  exact ⟨_, rfl, hw.below (Bg.le.refl _), hw.new (.head _)⟩
theorem oP (bM bm : Nat) (VR : Value) (rs : List RegV) (l : List SecV) (a : UInt32) (n : Int) (w : World) (hM : MemAt (hp w) bM bm VR rs) (hO : MemOK l rs) (hn : 1 ≤ n ∧ n ≤ 100) :
  Calls Tryz.prog 56 #[.pointer (some ⟨bM, 0, none⟩), .int .u32 a.toNat, .int .i64 n] w (fun e w' => e = .returned (.tuple #[.agg (cD.enc (vd l rs a n)).toArray, .int .i64 (jJ l a n)]) ∧ Ext w w') := by
 have hC' : CellsIn (Bg.of w).blk bM [VR, .map (some bm)] := hM.cells
 have hR' : Sl (Bg.of w).blk cD rs VR := hM.regs
 have hM' : MemAt (Bg.of w).blk bM bm VR rs := hM
 have hrl := hO.bounds.1
 have hal := a.toNat_lt
 refine enter Tryz.func56 rfl Tryz.ntmps56 rfl ?_
 refine af (ab ?_)
 refine c9 dx rfl (fun b1 => ?_)
 refine zz0 (ad rfl) (ae (aa (af (ab (zz0 (ac rfl) (zz0 (ac rfl) (zz0 (aB rfl Tryz.call52 (fun w hw => om bM bm VR rs l a w (hM'.mono hw.bg) hO)) ?_)))))))
 refine zz0 (ac rfl) (zz0 (ay rfl rfl) (zz0 (ay rfl rfl) ?_))
 refine c9 dx rfl (fun b2 => ?_)
 refine bw cD rfl rfl cB ?_
 refine zz0 (ad rfl) (ae (aa (af (af (ab (zz0 (ac rfl) (zz0 (cj rfl) (zz0 (ac rfl) ?_))))))))
 apply cZ
 ·exact (rfl : _ = (14, 18, 32))
 ·exact rfl
 ·intro hF3; have hF3' := hF3
  try simp only [bs] at hF3'
  have hf : ¬ gR rs a < 0 := by simp_all
  obtain ⟨_, _, _, hg1, hg2⟩ := hO.reg hf
  have hg3 := hO.top hf
  refine zz5 hF3 (ac rfl) (zz5 hF3 (fY rfl aO cN (IntWalk.u64_in _ (by omega))) ?_)
  refine zz5 hF3 (zz3 (off := 0) (ft := 92) rfl dw rfl jO) ?_
  refine zz5 hF3 (aM rfl kF) ?_
  refine zz5 hF3 (zz3 (off := 1) (ft := 62) rfl dw rfl de) ?_
  refine zz5 hF3 (aM rfl dM) ?_
  refine zz5 hF3 (fR rfl aG) ?_
  refine zz5 hF3 (fY rfl aO cN (IntWalk.u64_in _ (by omega))) ?_
  refine zz5 hF3 (nY rfl rfl (by omega)) ?_
  refine zz5 hF3 (ac rfl) (zz5 hF3 (gl rfl aT cN) (zz5 hF3 (pB rfl rfl (by omega)) ?_))
  refine zz5 hF3 (fG rfl rfl) (zz0 (aF rfl hF3 rfl) ?_)
  refine ae (aa ?_)
  exact aw (Sub.cons rfl (zz7 14 rfl))
 ·intro hT3
  refine zz6 hT3 (zz6 hT3 (zz6 hT3 (zz6 hT3 (zz6 hT3 (zz6 hT3 (zz6 hT3 (zz6 hT3 (zz6 hT3 (zz6 hT3 (zz6 hT3 (zz6 hT3 (zz6 hT3 (zz0 (aE rfl hT3 rfl) ?_)))))))))))))
  refine ae (aa ?_)
  exact aw (Sub.cons rfl (zz7 14 rfl))
 refine ae (aa ?_)
 refine ak rfl ?_ ?_ <;> intro h4 <;> try simp only [bs] at h4
 ·refine af (ab (zz0 (bE (vs := []) rfl rfl (o6)) ?_))
  refine bw cD rfl rfl cB ?_
  refine zz0 (ad rfl) (ae (aa (ao (an ?_))))
  refine ei Tryz.results56 rfl rfl gW cB (fun w' hw => ?_)
  have hq : dW l a < n := (hO.mapd (by omega)).2 (by simp_all)
  exact ⟨by unfold vd jJ; rw [if_pos hq, if_pos hq]; rfl, hw.below (Bg.le.refl _)⟩
 ·refine ax (aa (af (ab (zz0 (bK rfl gW cB) ?_))))
  refine bw cD rfl rfl cB ?_
  refine zz0 (ad rfl) (ae (aa (ao ?_)))
  refine ei Tryz.results56 rfl rfl gW cB (fun w' hw => ?_)
  have hq : ¬ dW l a < n := by rw [hO.mapd (by omega)]; simp_all
  exact ⟨by unfold vd jJ; rw [if_neg hq, if_neg hq]; rfl, hw.below (Bg.le.refl _)⟩
theorem ju (bM bm : Nat) (VR : Value) (rs : List RegV) (l : List SecV) (a : UInt32) (n : Int) (wl : WL) (w : World) (hM : MemAt (hp w) bM bm VR rs) (hO : MemOK l rs) (hW : MapIn (hp w) bm u8V wl) :
  Calls Tryz.prog 33 #[.pointer (some ⟨bM, 0, none⟩), .int .u32 a.toNat, .int .i64 n] w (fun e w' => e = .returned (.tuple #[.int .u32 (cP l (cx wl) a n).1.toNat, .int .i64 (cP l (cx wl) a n).2]) ∧ Ext w w') := by
 have hC' : CellsIn (Bg.of w).blk bM [VR, .map (some bm)] := hM.cells
 have hR' : Sl (Bg.of w).blk cD rs VR := hM.regs
 have hM' : MemAt (Bg.of w).blk bM bm VR rs := hM
 have hrl := hO.bounds.1
 have hW' : MapIn (Bg.of w).blk bm u8V wl := hW
 refine enter Tryz.func33 rfl Tryz.ntmps33 rfl ?_
 refine af (ab (zz0 (ad rfl) (zz0 (ad rfl) (ae (aa (af (af (ab (zz0 (ac rfl) (zz0 (aB rfl lL (fun w hw => lE bM bm VR w (hC'.mono hw.bg))) ?_))))))))))
 refine zz0 (cj rfl) (ae (aa ?_))
 refine ak rfl ?_ ?_ <;> intro h1 <;> try simp only [bs] at h1
 ·first | contradiction | (exfalso; omega) | simp_all
 ·refine ax (aa (af (af (ab (zz0 (ac rfl) (zz0 (aB rfl Tryz.call55 (fun w hw => ql n w)) ?_))))))
  refine zz0 (cj rfl) (ae (aa ?_))
  refine ak rfl ?_ ?_ <;> intro h2 <;> try simp only [bs] at h2
  ·refine af (ab (zz0 (ad rfl) (zz0 (ad rfl) (ae (aa (ao (an ?_)))))))
   refine cy Tryz.results33 rfl rfl (fun w' hw => ?_)
   exact ⟨by rw [yZ (by assumption)]; rfl, hw.below (Bg.le.refl _)⟩
  ·refine ax (aa (af ?_))
   have hw0 : ¬ jp n = false := by simp_all
   have hwr := s7 (show jp n = true by simpa using hw0)
   refine ab (zz0 (ac rfl) (zz0 (ac rfl) (zz0 (ac rfl) (zz0 (aB rfl Tryz.call56 (fun w hw => oP bM bm VR rs l a n w (hM'.mono hw.bg) hO (by omega))) ?_))))
   refine zz0 (ac rfl) (zz0 (ay rfl rfl) (zz0 (ay rfl rfl) ?_))
   refine c9 dx rfl (fun b3 => ?_)
   refine bw cD rfl rfl cB ?_
   change Tr _ _ (cellE b3 (cD.enc (vd l rs a n)) 97 :: _) _ _
   refine zz0 (ad rfl) (ae (aa (af (af (ab (zz0 (ac rfl) (zz0 (dk rfl rfl) (ae (aa ?_)))))))))
   refine ak rfl ?_ ?_ <;> intro h4 <;> try simp only [bs] at h4
   ·refine af (ab (zz0 (ac rfl) (zz0 (ad rfl) (zz0 (ad rfl) (ae (aa (ao (an ?_))))))))
    refine cy Tryz.results33 rfl rfl (fun w' hw => ?_)
    have hq : dW l a < n := by
     rcases Int.lt_or_le (dW l a) n with q | q
     ·exact q
     ·exfalso
      have e : jJ l a n = 0 := by unfold jJ; rw [if_neg (by omega)]
      exact absurd e (by assumption)
    exact ⟨by rw [yY hw0 hq, show jJ l a n = 11 by unfold jJ; rw [if_pos hq]]; rfl, hw.below (Bg.le.refl _)⟩
   ·refine ax (aa (af ?_))
    have hq : ¬ dW l a < n := by
     intro q
     have e : jJ l a n = 11 := by unfold jJ; rw [if_pos q]
     omega
    obtain ⟨hf, hmr, _, hg1, hg2, hg3⟩ := hO.mapd_ok (by omega) hq
    rw [hmr]
    have hbl := kD l (cx wl) n.toNat a
    refine ab (zz0 (ad rfl) (ae (aa (af (af (ab (zz0 (ac rfl) (zz0 (bK rfl gW cB) ?_))))))))
    refine zz0 (ac rfl) (zz0 (ac rfl) ?_)
    refine dV rfl Tryz.call57 (fun w hw => (by have q := rE bM bm VR (dJ rs a) a n.toNat wl w (hC'.mono hw.bg) (hW'.mono hw.bg) (hw.slF (hM'.fnd a)) hg1 hg2 hg3 (by omega); rw [show ((n.toNat : Nat) : Int) = n by omega] at q; exact q)) rfl (fun V5 => ?_)
    refine nT (l' := (d6 l (cx wl) a n.toNat)) (hO.pres hf (by omega)) ?_
    refine zz0 (fh rfl (by repeat constructor) aG) ?_
    refine zz0 (ac rfl) (ae (aa (aQ ?_)))
    refine cp (ι := Nat) (fun k => k ≤ (d6 l (cx wl) a n.toNat).length) (fun _ => _) (fun k => [rowE V5 5 dH (d6 l (cx wl) a n.toNat), cellE b3 (cD.enc (dJ rs a)) 97]) (fun k => [(35, .int .i64 (k : Nat)), (10, .int .u32 (leP ((d6 l (cx wl) a n.toNat).take k)).toNat)]) (fun k => (d6 l (cx wl) a n.toNat).length - k) 0 (Nat.zero_le _) (.cons (by first | rfl | exact am rfl (by omega) | exact am rfl (by rw [pw (by omega) (by omega) rfl]) | exact am rfl (by simp) | exact aS rfl (by simp)) (.cons (by first | rfl | exact am rfl (by omega) | exact am rfl (by rw [pw (by omega) (by omega) rfl]) | exact am rfl (by simp) | exact aS rfl (by simp)) Front.nil)) (by repeat' constructor) rfl (fun k hi m hm => ?_)
    replace hi : k ≤ (d6 l (cx wl) a n.toNat).length := hi
    replace hm : m = (d6 l (cx wl) a n.toNat).length - k := hm
    change Tr _ _ [rowE V5 5 dH (d6 l (cx wl) a n.toNat), cellE b3 (cD.enc (dJ rs a)) 97] ([(35, .int .i64 (k : Nat)), (10, .int .u32 (leP ((d6 l (cx wl) a n.toNat).take k)).toNat)] ++ _) _
    refine af (ab (zz0 (cE rfl rfl) (ae (aa (af ?_)))))
    refine ak rfl ?_ ?_ <;> intro h6 <;> try simp only [bs] at h6
    ·refine ax (aa (af (aQ (af (ab (zz0 (ac rfl) (zz0 (dP rfl rfl aG bN) ?_)))))))
     refine zz0 (eH rfl cw) ?_
     refine zz0 (ad rfl) (zz0 (ad rfl) (ae (aa (ab (zz0 (ac rfl) (zz0 (ac rfl) (zz0 (fq rfl bu aT) (zz0 (ac rfl) (zz0 (k9 rfl rfl (by omega)) ?_)))))))))
     refine zz0 (qI rfl rfl (by omega)) ?_
     refine zz0 (pD rfl rfl) ?_
     refine zz0 (ad rfl) (ae (a9 (aa (ab (zz0 (dq rfl rfl) ?_)))))
     refine zz0 (ac rfl) (ae (aa ?_))
     apply bP (k + 1)
     ·exact rfl
     ·exact (.cons (by first | rfl | exact am rfl (by omega) | exact am rfl (by rw [pw (by omega) (by omega) rfl]) | exact am rfl (by simp) | exact aS rfl (by simp)) (.cons (by first | rfl | exact am rfl (by omega) | exact am rfl (by rw [pw (by omega) (by omega) rfl]) | exact am rfl (by simp) | exact aS rfl (by simp)) Front.nil))
     ·exact bQ 18 rfl
     ·exact (by repeat' constructor)
     ·exact (by show k + 1 ≤ _; omega)
     ·exact (by (try dsimp only); omega)
    ·refine cm (aV (aV (bT (aa (af (ab (zz0 (ac rfl) (zz0 (ad rfl) (zz0 (ad rfl) (ae (aa (ao ?_))))))))))))
     refine cy Tryz.results33 rfl rfl (fun w' hw => ?_)
     exact ⟨by rw [yX hw0 hq, List.take_of_length_le (by omega)], hw.below (Bg.le.refl _)⟩
theorem kw (bM bm : Nat) (VR : Value) (rs : List RegV) (l : List SecV) (a : UInt32) (n : Int) (x : UInt32) (wl : WL) (w : World) (ho : OwnAt w [mapE bm u8V wl]) (hM : MemAt (Bg.lessB w [bm] 0).blk bM bm VR rs) (hO : MemOK l rs) :
  Calls Tryz.prog 46 #[.pointer (some ⟨bM, 0, none⟩), .int .u32 a.toNat, .int .i64 n, .int .u32 x.toNat] w (fun e w' => ∃ wl' : WL, e = .returned (.int .i64 (bO l (cx wl) a n x).2) ∧ Upd 0 w w' (cg [mapE bm u8V wl]) [mapE bm u8V wl'] ∧ (cx wl' = (bO l (cx wl) a n x).1 ∧ wl'.length ≤ wl.length + 4)) := by
 have hC' := hM.cells
 refine ik (L := [mapE bm u8V wl]) ho rfl (Nat.zero_le _) Tryz.func46 rfl Tryz.ntmps46 rfl ?_
 refine af (ab (zz0 (ad rfl) (ae (aa (af (af (ab (zz0 (ac rfl) (zz0 (aB rfl lL (fun w hw => lE bM bm VR w (hC'.mono hw.bg))) ?_)))))))))
 refine zz0 (cj rfl) (ae (aa ?_))
 refine ak rfl ?_ ?_ <;> intro h1 <;> try simp only [bs] at h1
 ·first | contradiction | (exfalso; omega) | simp_all
 ·refine ax (aa (af (af (ab (zz0 (ac rfl) (zz0 (aB rfl Tryz.call55 (fun w hw => ql n w)) ?_))))))
  refine zz0 (cj rfl) (ae (aa ?_))
  refine ak rfl ?_ ?_ <;> intro h2 <;> try simp only [bs] at h2
  ·refine af (ab (zz0 (ad rfl) (ae (aa (ao (an ?_))))))
   refine aI ka rfl (fun w' hw => ?_)
   exact ⟨wl, by rw [vZ (by assumption)], hw.upd (Bg.le.refl _) (by repeat' constructor), by rw [vZ (by assumption)], by omega⟩
  ·refine ax (aa (af ?_))
   have hw0 : ¬ jp n = false := by simp_all
   have hwr := s7 (show jp n = true by simpa using hw0)
   refine ab (zz0 (ac rfl) (zz0 (ac rfl) (zz0 (ac rfl) (zz0 (aB rfl Tryz.call56 (fun w hw => oP bM bm VR rs l a n w (hM.mono hw.bg) hO (by omega))) ?_))))
   refine zz0 (ac rfl) (zz0 (ay rfl rfl) (zz0 (ay rfl rfl) ?_))
   refine c9 dx rfl (fun b3 => ?_)
   refine bw cD rfl rfl cB ?_
   change Tr _ _ (cellE b3 (cD.enc (vd l rs a n)) 97 :: _) _ _
   refine zz0 (ad rfl) (ae (aa (af (af (ab (zz0 (ac rfl) (zz0 (dk rfl rfl) (ae (aa ?_)))))))))
   refine ak rfl ?_ ?_ <;> intro h4 <;> try simp only [bs] at h4
   ·refine af (ab (zz0 (ac rfl) (zz0 (ad rfl) (ae (aa (ao (an ?_)))))))
    refine aI ka rfl (fun w' hw => ?_)
    have hq : dW l a < n := by
     rcases Int.lt_or_le (dW l a) n with q | q
     ·exact q
     ·exfalso
      have e : jJ l a n = 0 := by unfold jJ; rw [if_neg (by omega)]
      exact absurd e (by assumption)
    exact ⟨wl, by rw [vY hw0 hq, show jJ l a n = 11 by unfold jJ; rw [if_pos hq]]; rfl, hw.upd (Bg.le.refl _) (by repeat' constructor), by rw [vY hw0 hq], by omega⟩
   ·refine ax (aa (af (af ?_)))
    have hq : ¬ dW l a < n := by
     intro q
     have e : jJ l a n = 11 := by unfold jJ; rw [if_pos q]
     omega
    obtain ⟨hf, hmr, _, hg1, hg2, hg3⟩ := hO.mapd_ok (by omega) hq
    rw [hmr]
    have hwr8 := (hO.rights hf).1
    refine ab (zz0 (zz3 (off := 2) (ft := 95) rfl dw rfl jN) ?_)
    refine zz0 (zz3 (off := 0) (ft := 4) rfl g9 rfl bv) ?_
    refine zz0 (aM rfl bR) ?_
    refine zz0 (cj rfl) (ae (aa ?_))
    refine ak rfl ?_ ?_ <;> intro h5 <;> try simp only [bs] at h5
    ·refine af (ab (zz0 (ad rfl) (ae (aa (ao (an ?_))))))
     refine aI ka rfl (fun w' hw => ?_)
     have h3 : wrA l a = false := by rw [← hwr8]; simp_all
     exact ⟨wl, by rw [vX hw0 hq h3], hw.upd (Bg.le.refl _) (by repeat' constructor), by rw [vX hw0 hq h3], by omega⟩
    ·refine ax (aa (af (af (ab (zz0 (ac rfl) (zz0 (ac rfl) (ae (aa (aQ ?_)))))))))
     refine cp (ι := Nat) (fun k => k ≤ n.toNat) (fun _ => (Bg.lessB w [bm] 0)) (fun k => [mapE bm u8V (sn wl a x k), cellE b3 (cD.enc (dJ rs a)) 97]) (fun k => [(33, .int .i64 (k : Nat))]) (fun k => n.toNat - k) 0 (Nat.zero_le _) (.cons (by first | rfl | exact am rfl (by omega) | exact am rfl (by simp) | exact aS rfl (by simp)) Front.nil) (by repeat' constructor) rfl (fun k hi m hm => ?_)
     replace hi : k ≤ n.toNat := hi
     replace hm : m = n.toNat - k := hm
     change Tr _ _ [mapE bm u8V (sn wl a x k), cellE b3 (cD.enc (dJ rs a)) 97] ([(33, .int .i64 (k : Nat))] ++ _) _
     refine af (ab (zz0 (cE rfl rfl) (ae (aa (af ?_)))))
     refine ak rfl ?_ ?_ <;> intro h6 <;> try simp only [bs] at h6
     ·refine ax (aa (af (aQ (af (ab (zz0 (ac rfl) (zz0 (ad rfl) (ae (aa (bI ([]) 14 rfl aU ?_))))))))))
      refine zz2 0 rfl (ac rfl) ?_
      refine zz2 1 rfl (aH rfl) ?_
      refine zz2 2 rfl (zz3 (off := 1) (ft := 88) rfl cY rfl jP) ?_
      refine eV 3 rfl (by kernel_rfl) (dG (bA (bA (dG (bA bW))))) (fQ rfl (by assumption) kG (by rfl)) ?_
      refine zz2 4 rfl (ac rfl) ?_
      refine zz2 5 rfl (ac rfl) ?_
      refine zz2 6 rfl (eY rfl aO aT) ?_
      refine zz2 7 rfl (cL rfl rfl) ?_
      refine zz2 8 rfl (ac rfl) ?_
      refine zz2 9 rfl (ac rfl) ?_
      refine eV 10 rfl (by kernel_rfl) (dG (bA (bA (dG (bA bW))))) (k9 rfl rfl (by omega)) ?_
      refine eV 11 rfl (by kernel_rfl) (dG (bA (bA (dG (bA bW))))) (uI rfl rfl (by omega)) ?_
      refine zz2 12 rfl (oZ rfl aT bu) ?_
      refine zz9 [13] (fun iq hq => ?_)
      obtain rfl := List.mem_singleton.1 hq
      refine aX rfl ?_
      refine sS (fS x (8 * (k : Int)).toNat).toUInt8 rfl rfl rfl (by repeat constructor) iR aT rfl ?_
      refine bB ?_
      refine eh ?_
      refine a9 (aa (ab (zz0 (dq rfl rfl) ?_)))
      refine zz0 (ac rfl) (ae (aa ?_))
      rw [show lm (sn wl a x k) (a + u32 (k : Int)) (fS x (8 * (k : Int)).toNat).toUInt8 = sn wl a x (k + 1) by rw [mU, show (8 * (k : Int)).toNat = 8 * k by omega]; rfl]
      apply bP (k + 1)
      ·exact rfl
      ·exact (.cons (by first | rfl | exact am rfl (by omega) | exact am rfl (by simp) | exact aS rfl (by simp)) Front.nil)
      ·exact bQ 19 rfl
      ·exact (by repeat' constructor)
      ·exact (by show k + 1 ≤ _; omega)
      ·exact (by (try dsimp only); omega)
     ·refine cm (aV (aV (bT (aa (af (ab (zz0 (ad rfl) (ae (aa (ao ?_))))))))))
      refine aI ka rfl (fun w' hw => ?_)
      have h3 : ¬ wrA l a = false := by rw [← hwr8]; simp_all
      obtain rfl : k = n.toNat := by omega
      have hpl := tR wl a x n.toNat
      exact ⟨_, by rw [pg hw0 hq h3], hw.upd (Bg.le.refl _) (by repeat' constructor), by rw [pg hw0 hq h3, rA], by omega⟩
theorem u9 (bM bm : Nat) (VR : Value) (rs : List RegV) (l : List SecV) (a : UInt32) (wl : WL) (w : World) (hM : MemAt (hp w) bM bm VR rs) (hO : MemOK l rs) (hW : MapIn (hp w) bm u8V wl) :
  Calls Tryz.prog 59 #[.pointer (some ⟨bM, 0, none⟩), .int .u32 a.toNat] w (fun e w' => ∃ V' : Value, e = .returned (.tuple #[V', .int .i64 (dB l (cx wl) a).2]) ∧ Ext w w' ∧ NewRow w w' 5 dH (dB l (cx wl) a).1 V') := by
 have hC' : CellsIn (Bg.of w).blk bM [VR, .map (some bm)] := hM.cells
 have hR' : Sl (Bg.of w).blk cD rs VR := hM.regs
 have hM' : MemAt (Bg.of w).blk bM bm VR rs := hM
 have hrl := hO.bounds.1
 have hW' : MapIn (Bg.of w).blk bm u8V wl := hW
 have hal := a.toNat_lt
 refine enter Tryz.func59 rfl Tryz.ntmps59 rfl ?_
 refine af (ab (zz0 (ad rfl) (zz0 (ad rfl) (ae (aa (af (af (ab (zz0 (ac rfl) (zz0 (aB rfl lL (fun w hw => lE bM bm VR w (hC'.mono hw.bg))) ?_))))))))))
 refine zz0 (cj rfl) (ae (aa ?_))
 refine ak rfl ?_ ?_ <;> intro h1 <;> try simp only [bs] at h1
 ·first | contradiction | (exfalso; omega) | simp_all
 ·refine ax (aa (af (ab (zz0 (ac rfl) (zz0 (ac rfl) (zz0 (aB rfl Tryz.call52 (fun w hw => om bM bm VR rs l a w (hM'.mono hw.bg) hO)) ?_))))))
  refine zz0 (ac rfl) (zz0 (ay rfl rfl) (zz0 (ay rfl rfl) ?_))
  refine c9 dx rfl (fun b2 => ?_)
  refine bw cD rfl rfl cB ?_
  change Tr _ _ (cellE b2 (cD.enc (dJ rs a)) 97 :: _) _ _
  refine zz0 (ad rfl) (ae (aa (af (af (ab (zz0 (ac rfl) (zz0 (cj rfl) (ae (aa ?_)))))))))
  refine ak rfl ?_ ?_ <;> intro h3 <;> try simp only [bs] at h3
  ·refine af (gd 5 dH ?_)
   refine ab (zz0 (ad rfl) (zz0 (ad rfl) (ae (aa (ao (an ?_))))))
   refine cy Tryz.results59 rfl rfl (fun w' hw => ?_)
   have hnr : iK l a = true := (hO.none (by simp_all)).1
   exact ⟨_, by rw [wx hnr], hw.below (Bg.le.refl _), by rw [wx hnr]; exact hw.new (.head _)⟩
  ·refine ax (aa (af (af ?_)))
   have hf : ¬ gR rs a < 0 := by simp_all
   obtain ⟨_, hnr, _, hg1, hg2⟩ := hO.reg hf
   have hg3 := hO.top hf
   have hex := (hO.rights hf).2
   refine ab (zz0 (zz3 (off := 2) (ft := 95) rfl dw rfl jN) ?_)
   refine zz0 (fg (vs := [.bool (dJ rs a).wr, .bool (dJ rs a).ex]) rfl (by repeat constructor) Tryz.isAgg95 jN rfl rfl) ?_
   refine zz0 (bE (vs := []) rfl rfl (uO)) ?_
   refine zz0 (wL (p := ⟨(dJ rs a).wr, (dJ rs a).ex⟩) (q := ⟨false, false⟩) rfl rfl tq g9 (o5 _ g9) rfl qM sa) ?_
   refine zz0 (ac rfl) ?_
   apply cZ
   ·exact (rfl : _ = (5, 23, 28))
   ·exact rfl
   ·intro hF4; have hF4' := hF4
    try simp only [bs] at hF4'
    refine zz5 hF4 (zz3 (off := 2) (ft := 95) rfl dw rfl jN) ?_
    refine zz5 hF4 (fg (vs := [.bool (dJ rs a).wr, .bool (dJ rs a).ex]) rfl (by repeat constructor) Tryz.isAgg95 jN rfl rfl) ?_
    refine zz5 hF4 (bE (vs := [(0, _)]) rfl rfl (ri _)) ?_
    refine zz5 hF4 (wL (p := ⟨(dJ rs a).wr, (dJ rs a).ex⟩) (q := ⟨true, false⟩) rfl rfl tq g9 (o5 _ g9) rfl qM sa) ?_
    refine zz0 (aF rfl hF4 rfl) ?_
    refine ae (aa ?_)
    exact aw (Sub.cons rfl (zz7 5 rfl))
   ·intro hT4
    refine zz6 hT4 (zz6 hT4 (zz6 hT4 (zz6 hT4 (zz0 (aE rfl hT4 rfl) ?_))))
    refine ae (aa ?_)
    exact aw (Sub.cons rfl (zz7 5 rfl))
   refine ae (aa ?_)
   refine ak rfl ?_ ?_ <;> intro h5 <;> try simp only [bs] at h5
   ·refine af (gd 5 dH ?_)
    refine ab (zz0 (ad rfl) (zz0 (ad rfl) (ae (aa (ao (an ?_))))))
    refine cy Tryz.results59 rfl rfl (fun w' hw => ?_)
    have hx : exA l a = false := by rw [← hex]; simp_all; grind
    exact ⟨_, by rw [ww (by simp [hnr]) hx], hw.below (Bg.le.refl _), by rw [ww (by simp [hnr]) hx]; exact hw.new (.head _)⟩
   ·refine ax (aa (af (ab (zz0 (ac rfl) (zz0 (bK rfl gW cB) ?_)))))
    refine zz0 (ac rfl) ?_
    refine dV rfl Tryz.call57 (fun w hw => (by have q := rE bM bm VR (dJ rs a) a 6 wl w (hC'.mono hw.bg) (hW'.mono hw.bg) (hw.slF (hM'.fnd a)) (by omega) (by omega) (by omega) (by omega); exact q)) rfl (fun V6 => ?_)
    refine nT (l' := (d6 l (cx wl) a (min 6 (dW l a)).toNat)) (hO.pres6 hf) ?_
    refine zz0 (ad rfl) (zz0 (ad rfl) (ae (aa (ao ?_))))
    refine cy Tryz.results59 rfl rfl (fun w' hw => ?_)
    have hx : ¬ exA l a = false := by rw [← hex]; simp_all; grind
    exact ⟨_, by rw [wv (by simp [hnr]) hx], hw.below (Bg.le.refl _), by rw [wv (by simp [hnr]) hx]; exact hw.new (.head _)⟩
theorem xG (l : List RegV) (V : Value) (w : World) (hV : Sl (hp w) cD l V) (hb : l.length ≤ 1000000) :
  Calls Tryz.prog 73 #[V] w (fun e w' => ∃ V', e = .returned V' ∧ Ext w w' ∧ NewRow w w' 97 cD (l) V') := by
 have hV' : Sl (Bg.of w).blk cD l V := hV
 refine enter Tryz.func73 rfl Tryz.ntmps73 rfl ?_
 refine af (ab (zz0 (ad rfl) (ae (aa (af (af (ab (zz0 (ac rfl) (zz0 (nw rfl (by assumption) cO) ?_)))))))))
 refine ae (aa ?_)
 refine ak rfl ?_ ?_ <;> intro h1 <;> try simp only [bs] at h1
 ·refine af (ab (zz0 (ad rfl) (ae (aa (ao (an ?_))))))
  refine aI Tryz.results73 rfl (fun w' hw => ?_)
  exact ⟨_, rfl, hw.below (Bg.le.refl _), ku (hV.isNil h1)⟩
 ·refine ax (aa (af (ab ?_)))
  refine pA cD cO cB rfl (fun V2 => ?_)
  refine zz0 (ac rfl) ?_
  refine gJ rfl rfl (by repeat constructor) (fun w hw => hw.slF (by assumption)) cO iV (by rfl) (by rfl) (by (try simp only [List.length_cons, List.length_nil, List.length_append, List.length_take]); omega) (by unfold maxLen; (try simp only [List.length_cons, List.length_nil, List.length_append, List.length_take]); omega) rfl (fun V3 => ?_)
  refine zz0 (ad rfl) (ae (aa (ao ?_)))
  refine aI Tryz.results73 rfl (fun w' hw => ?_)
  exact ⟨_, rfl, hw.below (Bg.le.refl _), hw.new (.head _)⟩
theorem uc (bM bm : Nat) (VR : Value) (rs : List RegV) (wl : WL) (w : World) (hM : MemAt (hp w) bM bm VR rs) (hW : MapIn (hp w) bm u8V wl) (hr : rs.length ≤ 100) :
  Calls Tryz.prog 45 #[.pointer (some ⟨bM, 0, none⟩)] w (fun e w' => ∃ i : Nat × Nat × Value, e = .returned (.pointer (some ⟨i.1, 0, none⟩)) ∧ Ext w w' ∧ NewEnts w w' [cellE i.1 [i.2.2, .map (some i.2.1)] 91, mapE i.2.1 u8V wl, rowE i.2.2 97 cD rs] ∧ True) := by
 have hC' : CellsIn (Bg.of w).blk bM [VR, .map (some bm)] := hM.cells
 have hR' : Sl (Bg.of w).blk cD rs VR := hM.regs
 have hW' : MapIn (Bg.of w).blk bm u8V wl := hW
 refine enter Tryz.func45 rfl Tryz.ntmps45 rfl ?_
 refine af (ab (zz0 (ad rfl) (ae (aa (af (af (ab (zz0 (ac rfl) (zz0 (aB rfl lL (fun w hw => lE bM bm VR w (hC'.mono hw.bg))) ?_)))))))))
 refine zz0 (cj rfl) (ae (aa ?_))
 refine ak rfl ?_ ?_ <;> intro h1 <;> try simp only [bs] at h1
 ·first | contradiction | (exfalso; omega) | simp_all
 ·refine ax (aa (af (bI ([]) 13 rfl aU ?_)))
  refine zz2 0 rfl (ac rfl) ?_
  refine zz2 1 rfl (aH rfl) ?_
  refine zz2 2 rfl (zz3 (off := 0) (ft := 89) rfl cY rfl dU) ?_
  refine eV 3 rfl (by kernel_rfl) (bA bW) (fQ rfl (by assumption) ip (by rfl)) ?_
  refine zz2 5 rfl (ac rfl) ?_
  refine zz2 6 rfl (aH rfl) ?_
  refine zz2 7 rfl (zz3 (off := 1) (ft := 88) rfl cY rfl jP) ?_
  refine eV 8 rfl (by kernel_rfl) (bA bW) (fQ rfl (by assumption) kG (by rfl)) ?_
  refine zz9 [4] (fun iq hq => ?_)
  obtain rfl := List.mem_singleton.1 hq
  refine aX rfl ?_
  refine dV rfl Tryz.call73 (fun w hw => xG rs VR w (hw.slF hR') (by omega)) rfl (fun V40 => ?_)
  refine jm (V := V40) (fun pr cr hpv => ?_)
  subst hpv
  refine bB ?_
  refine zz9 [9] (fun iq hq => ?_)
  obtain rfl := List.mem_singleton.1 hq
  refine aX rfl ?_
  refine e7 (fun b' : Nat => .map (some b')) (fun b' => [mapE b' u8V wl]) (ok := fun _ => True) rfl Tryz.call74 (fun w hw => vb bm wl w (hW'.mono hw.bg)) rfl (fun bn _ => ?_)
  refine bB ?_
  refine eV 10 rfl (by kernel_rfl) (bA bW) (bE (vs := [(0, _), (1, _)]) (cs := #[.slice pr rs.length cr, .map (some bn)]) rfl rfl (by kernel_rfl)) ?_
  refine zz9 [11] (fun iq hq => ?_)
  obtain rfl := List.mem_singleton.1 hq
  refine aX rfl ?_
  refine cM rfl rfl rfl (fun b2 => ?_)
  refine bB ?_
  refine zz2 12 rfl (ad rfl) ?_
  refine eh ?_
  refine aa (ao ?_)
  refine aI Tryz.results45 rfl (fun w' hw => ?_)
  exact ⟨(_, _, _), rfl, hw.below (Bg.le.refl _), hw.ents (Bg.le.refl _) (by repeat' constructor), trivial⟩
theorem qo (bM bm : Nat) (VR : Value) (rs : List RegV) (l : List SecV) (wl : WL) (w : World) (hM : MemAt (hp w) bM bm VR rs) (hO : MemOK l rs) (hW : MapIn (hp w) bm u8V wl) (hI : i7 l (cx wl)) (hn : wl.length ≤ 1000000) :
  Calls Tryz.prog 31 #[.pointer (some ⟨bM, 0, none⟩)] w (fun e w' => ∃ i : Value × List UInt32, e = .returned i.1 ∧ Ext w w' ∧ NewEnts w w' [rowE i.1 23 av i.2] ∧ IsChg l (cx wl) i.2) := by
 have hC' : CellsIn (Bg.of w).blk bM [VR, .map (some bm)] := hM.cells
 have hR' : Sl (Bg.of w).blk cD rs VR := hM.regs
 have hM' : MemAt (Bg.of w).blk bM bm VR rs := hM
 have hrl := hO.bounds.1
 have hW' : MapIn (Bg.of w).blk bm u8V wl := hW
 obtain ⟨es, ck, hb, hmI⟩ := hW
 refine enter Tryz.func31 rfl Tryz.ntmps31 rfl ?_
 refine af (ab (zz0 (ad rfl) (ae (aa (af (af (ab (zz0 (ac rfl) (zz0 (aB rfl lL (fun w hw => lE bM bm VR w (hC'.mono hw.bg))) ?_)))))))))
 refine zz0 (cj rfl) (ae (aa ?_))
 refine ak rfl ?_ ?_ <;> intro h1 <;> try simp only [bs] at h1
 ·first | contradiction | (exfalso; omega) | simp_all
 ·refine ax (aa (af (ab (zz0 (ad rfl) (ae (aa (af (af (ab (zz0 (ac rfl) (zz0 (aH rfl) ?_)))))))))))
  refine zz0 (zz3 (off := 1) (ft := 88) rfl cY rfl jP) ?_
  refine zz0 (fQ rfl (by assumption) kG (by rfl)) ?_
  refine xP rfl hmI hb iR rfl (fun r => ?_)
  refine ae (aa (aQ (gd 23 av ?_)))
  refine cp (ι := List UInt32 × Value) (fun ⟨done, Vo⟩ => done.Nodup ∧ (∀ k ∈ done, k ∈ wl.map (·.1))) (fun _ => _) (fun ⟨done, Vo⟩ => [rowE Vo 23 av (nt l wl done), oQ r bm es ck done]) (fun ⟨done, Vo⟩ => [(3, Vo)]) (fun ⟨done, Vo⟩ => wl.length - done.length) ([], _) ⟨List.nodup_nil, fun k h => (by cases h)⟩ (.cons (by first | rfl | exact am rfl (by omega) | exact am rfl (by simp) | exact aS rfl (by simp)) Front.nil) (by repeat' constructor) rfl (fun i hi m hm => ?_)
  obtain ⟨done, Vo⟩ := i
  replace hi : done.Nodup ∧ (∀ k ∈ done, k ∈ wl.map (·.1)) := hi
  replace hm : m = wl.length - done.length := hm
  change Tr _ _ [rowE Vo 23 av (nt l wl done), oQ r bm es ck done] ([(3, Vo)] ++ _) _
  obtain ⟨q1, q2⟩ := hi
  have hcl := zA l wl done
  refine af ?_
  refine zL (l := wl) rfl hmI hb (by repeat constructor) rfl rfl (fun k x hx2 hk1 hk2 => ?_) (fun hall => ?_)
  ·skip
   have hlen : done.length < wl.length := AD q1 q2 hk1 hk2
   have hnr : iK l k = false := hI k (by unfold cx; rw [hx2]; rfl)
   have hf : ¬ gR rs k < 0 := fun q => by rw [(hO.none q).1] at hnr; cases hnr
   obtain ⟨_, _, _, hg1, hg2⟩ := hO.reg hf
   have hg3 := hO.top hf
   have hfs := hM'.fnd k
   have hin : jf l k = (dJ rs k).data.getD ((k.toNat : Int) - ((dJ rs k).org : Int)).toNat default := by rw [hO.init hf ⟨hg1, hg2⟩]; congr 1; omega
   have hkl := k.toNat_lt
   refine aa (af ?_)
   refine ak rfl ?_ ?_ <;> intro h2 <;> try simp only [bs] at h2
   ·refine ax (aa (aQ (af (ab (zz0 (xZ rfl hmI hb (by repeat constructor) (by simp) hx2) ?_)))))
    refine zz0 (ay rfl rfl) (zz0 (ay rfl rfl) (zz0 (ad rfl) (zz0 (ad rfl) (ae (aa (af (ab (zz0 (ac rfl) (zz0 (ac rfl) (zz0 (aB rfl Tryz.call52 (fun w hw => om bM bm VR rs l k w (hM'.mono hw.bg) hO)) ?_))))))))))
    refine zz0 (ac rfl) (zz0 (ay rfl rfl) (zz0 (ay rfl rfl) ?_))
    refine c9 dx rfl (fun b3 => ?_)
    refine bw cD rfl rfl cB ?_
    change Tr _ _ (cellE b3 (cD.enc (dJ rs k)) 97 :: _) _ _
    refine zz0 (ad rfl) (ae (aa (af (ab (zz0 (ac rfl) (zz0 (ac rfl) ?_))))))
    apply bF
    ·exact (rfl : _ = (12, 28, 40))
    ·exact rfl
    ·intro hT4; have hT4' := hT4
     try simp only [bs] at hT4'
     refine zz5 hT4 (zz3 (off := 1) (ft := 62) rfl dw rfl de) ?_
     refine zz5 hT4 (aM rfl dM) ?_
     refine zz5 hT4 (ac rfl) (zz5 hT4 (gl rfl aT cN) (zz5 hT4 (zz3 (off := 0) (ft := 92) rfl dw rfl jO) ?_))
     refine zz5 hT4 (aM rfl kF) ?_
     refine zz5 hT4 (pB rfl rfl (by omega)) ?_
     refine zz5 hT4 (gP rfl rfl aG bN) ?_
     refine zz5 hT4 (gK rfl cw) ?_
     refine zz5 hT4 (ac rfl) (zz5 hT4 (mt rfl rfl) ?_)
     refine zz0 (aE rfl hT4 rfl) ?_
     refine ae (aa ?_)
     exact aw (Sub.cons rfl (zz7 12 rfl))
    ·intro hF4
     refine zz6 hF4 (zz6 hF4 (zz6 hF4 (zz6 hF4 (zz6 hF4 (zz6 hF4 (zz6 hF4 (zz6 hF4 (zz6 hF4 (zz6 hF4 (zz6 hF4 (zz0 (aF rfl hF4 rfl) ?_)))))))))))
     refine ae (aa ?_)
     exact aw (Sub.cons rfl (zz7 12 rfl))
    refine ae (aa ?_)
    refine ak rfl ?_ ?_ <;> intro h5 <;> try simp only [bs] at h5
    ·refine ab (zz0 (ac rfl) (zz0 (ac rfl) ?_))
     refine fB (E := av) _ rfl rfl al ah fm (by rfl) (by rfl) rfl (fun V6 => ?_)
     refine zz8 rfl rfl al gy (fun V7 => ?_)
     refine zz0 (ad rfl) (ae (a9 (aa ?_)))
     rw [zy hx2 (by rw [hin]; simp_all)]
     apply bP (done ++ [k], _)
     ·exact rfl
     ·exact (.cons (by first | rfl | exact am rfl (by omega) | exact am rfl (by simp) | exact aS rfl (by simp)) Front.nil)
     ·exact bQ 24 rfl
     ·exact (by repeat' constructor)
     ·exact ⟨qh q1 hk2, fun j hj => (List.mem_append.1 hj).elim (q2 j) (fun h => (List.mem_singleton.1 h) ▸ hk1)⟩
     ·exact (by show wl.length - (done ++ [k]).length < m; simp; omega)
    ·refine ax (a9 (aa ?_))
     rw [A0 hx2 (by rw [hin]; rcases (show gR rs k < 0 ∨ _ from (by simpa using (show _ ∨ _ by assumption))) with q | q; exact absurd q hf; exact q)]
     apply bP (done ++ [k], _)
     ·exact rfl
     ·exact (.cons (by first | rfl | exact am rfl (by omega) | exact am rfl (by simp) | exact aS rfl (by simp)) Front.nil)
     ·exact bQ 19 rfl
     ·exact (by repeat' constructor)
     ·exact ⟨qh q1 hk2, fun j hj => (List.mem_append.1 hj).elim (q2 j) (fun h => (List.mem_singleton.1 h) ▸ hk1)⟩
     ·exact (by show wl.length - (done ++ [k]).length < m; simp; omega)
   ·first | contradiction | (exfalso; omega) | simp_all
  ·skip
   refine aa (af ?_)
   refine ak rfl ?_ ?_ <;> intro h8 <;> try simp only [bs] at h8
   ·first | contradiction | (exfalso; omega) | simp_all
   ·refine cm (aV (aV (bT (aa (af ?_)))))
    have hdl : done.length ≤ wl.length := by have q := ol q1 q2; rw [List.length_map] at q; exact q
    refine ab (zz0 (ac rfl) (eW rfl Tryz.call53 (by repeat constructor) (fun w hw => wW (nt l wl done).toArray _ w (hw.ent _ (by repeat constructor)) (by rw [List.size_toArray]; omega)) rfl ?_))
    rw [yg]
    refine ae (aa (af (ab (zz0 (ac rfl) (zz0 (ad rfl) (ae (aa (ao ?_))))))))
    refine aI Tryz.results31 rfl (fun w' hw => ?_)
    exact ⟨(_, _), rfl, hw.below (Bg.le.refl _), hw.ents (Bg.le.refl _) (by repeat' constructor), A1 hmI.nodup q1 q2 hall⟩
theorem t6 (l : List SecV) (V : Value) (w : World) (hV : Sl (hp w) cf l V) (hB : SecB l) (hN : ∀ s ∈ l, s.name.size ≤ 140737488351232) (hD : DataIn (hp w) l) :
  Calls Tryz.prog 25 #[V] w (fun e w' => ∃ i : Option (Nat × Nat × Value × List RegV), e = .returned (.tuple #[match i with | none => .pointer none | some j => .pointer (some ⟨j.1, 0, none⟩), .int .i64 (dL l)]) ∧ Ext w w' ∧ NewEnts w w' (match i with | none => [] | some j => cellE j.1 [j.2.2.1, .map (some j.2.1)] 91 :: mapE j.2.1 u8V [] :: rowE j.2.2.1 97 cD j.2.2.2 :: eI 5 j.2.2.2) ∧ (match i with | none => dL l ≠ 0 | some j => MemOK l j.2.2.2)) := by
 have hV' : Sl (Bg.of w).blk cf l V := hV
 have hD' : DataIn (Bg.of w).blk l := hD
 have hlen := hB.1
 refine enter Tryz.func25 rfl Tryz.ntmps25 rfl ?_
 refine af (ab (zz0 (ad rfl) (zz0 (ad rfl) (ae (aa (af (af (ab (zz0 (ac rfl) (zz0 (aB rfl Tryz.call43 (fun w hw => xH l V w (hw.slF hV') hB (fun s hs => by have := hN s hs; omega))) ?_))))))))))
 refine zz0 (ad rfl) (ae (aa (af (ab (zz0 (ac rfl) (zz0 (dk rfl rfl) (ae (aa ?_))))))))
 refine ak rfl ?_ ?_ <;> intro h1 <;> try simp only [bs] at h1
 ·refine af (ab (zz0 (ac rfl) (zz0 (ad rfl) (zz0 (ad rfl) (ae (aa (ao (an ?_))))))))
  refine cy kd rfl rfl (fun w' hw => ?_)
  exact ⟨none, rfl, hw.below (Bg.le.refl _), hw.ents (Bg.le.refl _) (by repeat' constructor), by assumption⟩
 ·refine ax (aa (af (ab ?_)))
  refine vH u8V rfl (fun b2 => ?_)
  refine zz0 (bE (vs := [(1, _)]) (cs := #[.slice none 0 0, .map (some b2)]) rfl rfl (by kernel_rfl)) ?_
  refine cM rfl rfl rfl (fun b3 => ?_)
  refine zz0 (ad rfl) (ae (aa (af (af (ab (zz0 (ac rfl) (zz0 (gI rfl bh) ?_)))))))
  refine zz0 (ac rfl) (ae (aa (aQ (gd 97 cD ?_))))
  refine cp (ι := Nat × Value × List RegV) (fun ⟨k, Vr, rs⟩ => k ≤ l.length ∧ rs.map RegV.pl = (l.take k).map qR) (fun _ => _) (fun ⟨k, Vr, rs⟩ => (cellE b3 [Vr, .map (some b2)] 91 :: rowE Vr 97 cD rs :: mapE b2 u8V [] :: eI 5 rs)) (fun ⟨k, Vr, rs⟩ => [(18, .int .i64 (k : Nat))]) (fun ⟨k, Vr, rs⟩ => l.length - k) (0, .slice none 0 0, []) ⟨Nat.zero_le _, rfl⟩ (.cons (by first | rfl | exact am rfl (by omega) | exact am rfl (by simp) | exact aS rfl (by simp)) Front.nil) (by repeat' constructor) rfl (fun i hi m hm => ?_)
  obtain ⟨k, Vr, rs⟩ := i
  replace hi : k ≤ l.length ∧ rs.map RegV.pl = (l.take k).map qR := hi
  replace hm : m = l.length - k := hm
  change Tr _ _ (cellE b3 [Vr, .map (some b2)] 91 :: rowE Vr 97 cD rs :: mapE b2 u8V [] :: eI 5 rs) ([(18, .int .i64 (k : Nat))] ++ _) _
  obtain ⟨hk1, hk2⟩ := hi
  have hrl : rs.length = k := by have := congrArg List.length hk2; rw [List.length_map, List.length_map, List.length_take] at this; omega
  refine af (ab (zz0 (cE rfl rfl) (ae (aa (af ?_)))))
  refine ak rfl ?_ ?_ <;> intro h4 <;> try simp only [bs] at h4
  ·refine ax (aa (af (aQ (af ?_))))
   have hk3 := fU (l := l) (k := k) (by omega)
   have hDk := hD' (l.getD k default) hk3
   have hdl := hB.at (k := k) (by omega)
   refine ab (zz0 (i9 rfl rfl bh bL) ?_)
   refine zz0 (lx rfl (by assumption) eK bL (by rfl) (by omega)) ?_
   refine c9 fl rfl (fun b5 => ?_)
   refine bw cf rfl rfl bL ?_
   change Tr _ _ (cellE b5 (cf.enc (l.getD k default)) 64 :: _) _ _
   refine ae (aa (bI ([cellE b5 (cf.enc (l.getD k default)) 64]) 22 rfl aU ?_))
   refine zz2 0 rfl (ac rfl) ?_
   refine zz2 1 rfl (ac rfl) ?_
   refine zz2 2 rfl (aH rfl) ?_
   refine zz2 3 rfl (zz3 (off := 0) (ft := 89) rfl cY rfl dU) ?_
   refine zz2 5 rfl (zz3 (off := 1) (ft := 23) rfl bC rfl ah) ?_
   refine zz2 6 rfl (aM rfl az) ?_
   refine zz2 7 rfl (gl rfl aT cN) ?_
   refine zz2 8 rfl (zz3 (off := 2) (ft := 62) rfl bC rfl de) ?_
   refine zz2 9 rfl (aM rfl dM) ?_
   refine zz2 11 rfl (zz3 (off := 3) (ft := 4) rfl bC rfl bv) ?_
   refine zz2 12 rfl (aM rfl bR) ?_
   refine zz2 13 rfl (zz3 (off := 4) (ft := 4) rfl bC rfl bv) ?_
   refine zz2 14 rfl (aM rfl bR) ?_
   refine eV 15 rfl (by kernel_rfl) (dG (bA (bA (dG (bA bW))))) (bE (vs := [(0, _), (1, _)]) (cs := #[.bool (l.getD k default).wr, .bool (l.getD k default).ex]) rfl rfl (by kernel_rfl)) ?_
   refine zz9 [4, 10] (fun iq hq => ?_)
   rcases List.mem_cons.1 hq with rfl | hq
   ·skip
    refine aX rfl ?_
    refine zz0 (fH rfl ip) ?_
    refine bB ?_
    refine zz9 [10] (fun iq hq => ?_)
    obtain rfl := List.mem_singleton.1 hq
    refine aX rfl ?_
    refine dV rfl Tryz.call44 (fun w hw => qz (l.getD k default).data _ w (hw.slF hDk) (by omega)) rfl (fun V41 => ?_)
    refine jm (V := V41) (fun pd cd hpv => ?_)
    subst hpv
    refine bB ?_
    refine eV 16 rfl (by kernel_rfl) (dG (bA (bA (dG (bA bW))))) (bE (vs := [(0, _), (1, _), (2, _)]) (cs := (cD.enc (⟨(l.getD k default).addr.toNat, (l.getD k default).data, pd, cd, (l.getD k default).wr, (l.getD k default).ex⟩ : RegV)).toArray) rfl rfl (by kernel_rfl)) ?_
    refine zz9 [17] (fun iq hq => ?_)
    obtain rfl := List.mem_singleton.1 hq
    refine aX rfl ?_
    refine fB (E := cD) (⟨(l.getD k default).addr.toNat, (l.getD k default).data, pd, cd, (l.getD k default).wr, (l.getD k default).ex⟩ : RegV) rfl rfl cO cB dx (by rfl) (by rfl) rfl (fun V6 => ?_)
    refine bB ?_
    refine zz9 [18] (fun iq hq => ?_)
    obtain rfl := List.mem_singleton.1 hq
    refine aX rfl ?_
    refine zz8 rfl rfl cO iV (fun V44 => ?_)
    refine jm (V := V44) (fun pn cn hpv => ?_)
    subst hpv
    refine bB ?_
    refine zz2 19 rfl (aH rfl) ?_
    refine zz2 20 rfl (zz3 (off := 0) (ft := 89) rfl cY rfl dU) ?_
    refine zz9 [21] (fun iq hq => ?_)
    obtain rfl := List.mem_singleton.1 hq
    refine aX rfl ?_
    refine zz1 rfl rfl dU rfl ?_
    refine bB ?_
    refine eh ?_
    refine a9 (aa (ab (zz0 (dq rfl rfl) ?_)))
    refine zz0 (ac rfl) (ae (aa ?_))
    apply bP (k + 1, .slice pn (rs ++ [(⟨(l.getD k default).addr.toNat, (l.getD k default).data, pd, cd, (l.getD k default).wr, (l.getD k default).ex⟩ : RegV)]).length cn, rs ++ [(⟨(l.getD k default).addr.toNat, (l.getD k default).data, pd, cd, (l.getD k default).wr, (l.getD k default).ex⟩ : RegV)])
    ·exact rfl
    ·exact (.cons (by first | rfl | exact am rfl (by omega) | exact am rfl (by simp) | exact aS rfl (by simp)) Front.nil)
    ·exact bQ 28 rfl
    ·exact (by show Pick _ (cellE b3 [(.slice pn (rs ++ [(⟨(l.getD k default).addr.toNat, (l.getD k default).data, pd, cd, (l.getD k default).wr, (l.getD k default).ex⟩ : RegV)]).length cn), .map (some b2)] 91 :: rowE (.slice pn (rs ++ [(⟨(l.getD k default).addr.toNat, (l.getD k default).data, pd, cd, (l.getD k default).wr, (l.getD k default).ex⟩ : RegV)]).length cn) 97 cD (rs ++ [(⟨(l.getD k default).addr.toNat, (l.getD k default).data, pd, cd, (l.getD k default).wr, (l.getD k default).ex⟩ : RegV)]) :: mapE b2 u8V [] :: eI 5 (rs ++ [(⟨(l.getD k default).addr.toNat, (l.getD k default).data, pd, cd, (l.getD k default).wr, (l.getD k default).ex⟩ : RegV)])); rw [iy]; exact .cons (by repeat constructor) (.cons (by repeat constructor) (.cons (by repeat constructor) (.cons (by repeat constructor) (by repeat (first | exact Pick.refl _ | apply Pick.skip))))))
    ·exact ⟨by omega, by rw [List.map_append, hk2, hZ (by omega), List.map_append]; rfl⟩
    ·exact (by (try dsimp only); omega)
   obtain rfl := List.mem_singleton.1 hq
   refine aX rfl ?_
   refine dV rfl Tryz.call44 (fun w hw => qz (l.getD k default).data _ w (hw.slF hDk) (by omega)) rfl (fun V41 => ?_)
   refine jm (V := V41) (fun pd cd hpv => ?_)
   subst hpv
   refine bB ?_
   refine eV 16 rfl (by kernel_rfl) (dG (bA (bA (dG (bA bW))))) (bE (vs := [(0, _), (1, _), (2, _)]) (cs := (cD.enc (⟨(l.getD k default).addr.toNat, (l.getD k default).data, pd, cd, (l.getD k default).wr, (l.getD k default).ex⟩ : RegV)).toArray) rfl rfl (by kernel_rfl)) ?_
   refine zz9 [4, 17] (fun iq hq => ?_)
   rcases List.mem_cons.1 hq with rfl | hq
   ·skip
    refine aX rfl ?_
    refine zz0 (fH rfl ip) ?_
    refine bB ?_
    refine zz9 [17] (fun iq hq => ?_)
    obtain rfl := List.mem_singleton.1 hq
    refine aX rfl ?_
    refine fB (E := cD) (⟨(l.getD k default).addr.toNat, (l.getD k default).data, pd, cd, (l.getD k default).wr, (l.getD k default).ex⟩ : RegV) rfl rfl cO cB dx (by rfl) (by rfl) rfl (fun V7 => ?_)
    refine bB ?_
    refine zz9 [18] (fun iq hq => ?_)
    obtain rfl := List.mem_singleton.1 hq
    refine aX rfl ?_
    refine zz8 rfl rfl cO iV (fun V44 => ?_)
    refine jm (V := V44) (fun pn cn hpv => ?_)
    subst hpv
    refine bB ?_
    refine zz2 19 rfl (aH rfl) ?_
    refine zz2 20 rfl (zz3 (off := 0) (ft := 89) rfl cY rfl dU) ?_
    refine zz9 [21] (fun iq hq => ?_)
    obtain rfl := List.mem_singleton.1 hq
    refine aX rfl ?_
    refine zz1 rfl rfl dU rfl ?_
    refine bB ?_
    refine eh ?_
    refine a9 (aa (ab (zz0 (dq rfl rfl) ?_)))
    refine zz0 (ac rfl) (ae (aa ?_))
    apply bP (k + 1, .slice pn (rs ++ [(⟨(l.getD k default).addr.toNat, (l.getD k default).data, pd, cd, (l.getD k default).wr, (l.getD k default).ex⟩ : RegV)]).length cn, rs ++ [(⟨(l.getD k default).addr.toNat, (l.getD k default).data, pd, cd, (l.getD k default).wr, (l.getD k default).ex⟩ : RegV)])
    ·exact rfl
    ·exact (.cons (by first | rfl | exact am rfl (by omega) | exact am rfl (by simp) | exact aS rfl (by simp)) Front.nil)
    ·exact bQ 28 rfl
    ·exact (by show Pick _ (cellE b3 [(.slice pn (rs ++ [(⟨(l.getD k default).addr.toNat, (l.getD k default).data, pd, cd, (l.getD k default).wr, (l.getD k default).ex⟩ : RegV)]).length cn), .map (some b2)] 91 :: rowE (.slice pn (rs ++ [(⟨(l.getD k default).addr.toNat, (l.getD k default).data, pd, cd, (l.getD k default).wr, (l.getD k default).ex⟩ : RegV)]).length cn) 97 cD (rs ++ [(⟨(l.getD k default).addr.toNat, (l.getD k default).data, pd, cd, (l.getD k default).wr, (l.getD k default).ex⟩ : RegV)]) :: mapE b2 u8V [] :: eI 5 (rs ++ [(⟨(l.getD k default).addr.toNat, (l.getD k default).data, pd, cd, (l.getD k default).wr, (l.getD k default).ex⟩ : RegV)])); rw [iy]; exact .cons (by repeat constructor) (.cons (by repeat constructor) (.cons (by repeat constructor) (.cons (by repeat constructor) (by repeat (first | exact Pick.refl _ | apply Pick.skip))))))
    ·exact ⟨by omega, by rw [List.map_append, hk2, hZ (by omega), List.map_append]; rfl⟩
    ·exact (by (try dsimp only); omega)
   obtain rfl := List.mem_singleton.1 hq
   refine aX rfl ?_
   refine fB (E := cD) (⟨(l.getD k default).addr.toNat, (l.getD k default).data, pd, cd, (l.getD k default).wr, (l.getD k default).ex⟩ : RegV) rfl rfl cO cB dx (by rfl) (by rfl) rfl (fun V8 => ?_)
   refine bB ?_
   refine zz9 [4] (fun iq hq => ?_)
   obtain rfl := List.mem_singleton.1 hq
   refine aX rfl ?_
   refine zz0 (fH rfl ip) ?_
   refine bB ?_
   refine zz9 [18] (fun iq hq => ?_)
   obtain rfl := List.mem_singleton.1 hq
   refine aX rfl ?_
   refine zz8 rfl rfl cO iV (fun V44 => ?_)
   refine jm (V := V44) (fun pn cn hpv => ?_)
   subst hpv
   refine bB ?_
   refine zz2 19 rfl (aH rfl) ?_
   refine zz2 20 rfl (zz3 (off := 0) (ft := 89) rfl cY rfl dU) ?_
   refine zz9 [21] (fun iq hq => ?_)
   obtain rfl := List.mem_singleton.1 hq
   refine aX rfl ?_
   refine zz1 rfl rfl dU rfl ?_
   refine bB ?_
   refine eh ?_
   refine a9 (aa (ab (zz0 (dq rfl rfl) ?_)))
   refine zz0 (ac rfl) (ae (aa ?_))
   apply bP (k + 1, .slice pn (rs ++ [(⟨(l.getD k default).addr.toNat, (l.getD k default).data, pd, cd, (l.getD k default).wr, (l.getD k default).ex⟩ : RegV)]).length cn, rs ++ [(⟨(l.getD k default).addr.toNat, (l.getD k default).data, pd, cd, (l.getD k default).wr, (l.getD k default).ex⟩ : RegV)])
   ·exact rfl
   ·exact (.cons (by first | rfl | exact am rfl (by omega) | exact am rfl (by simp) | exact aS rfl (by simp)) Front.nil)
   ·exact bQ 28 rfl
   ·exact (by show Pick _ (cellE b3 [(.slice pn (rs ++ [(⟨(l.getD k default).addr.toNat, (l.getD k default).data, pd, cd, (l.getD k default).wr, (l.getD k default).ex⟩ : RegV)]).length cn), .map (some b2)] 91 :: rowE (.slice pn (rs ++ [(⟨(l.getD k default).addr.toNat, (l.getD k default).data, pd, cd, (l.getD k default).wr, (l.getD k default).ex⟩ : RegV)]).length cn) 97 cD (rs ++ [(⟨(l.getD k default).addr.toNat, (l.getD k default).data, pd, cd, (l.getD k default).wr, (l.getD k default).ex⟩ : RegV)]) :: mapE b2 u8V [] :: eI 5 (rs ++ [(⟨(l.getD k default).addr.toNat, (l.getD k default).data, pd, cd, (l.getD k default).wr, (l.getD k default).ex⟩ : RegV)])); rw [iy]; exact .cons (by repeat constructor) (.cons (by repeat constructor) (.cons (by repeat constructor) (.cons (by repeat constructor) (by repeat (first | exact Pick.refl _ | apply Pick.skip))))))
   ·exact ⟨by omega, by rw [List.map_append, hk2, hZ (by omega), List.map_append]; rfl⟩
   ·exact (by (try dsimp only); omega)
  ·refine cm (aV (aV (bT (aa (af (bI ([]) 13 rfl aU ?_))))))
   refine zz2 0 rfl (ac rfl) ?_
   refine zz2 1 rfl (ac rfl) ?_
   refine zz2 2 rfl (aH rfl) ?_
   refine zz2 3 rfl (zz3 (off := 0) (ft := 89) rfl cY rfl dU) ?_
   refine eV 6 rfl (by kernel_rfl) (bA bW) (bE (vs := [(0, _)]) (cs := #[.bool true, .bool false]) rfl rfl (by kernel_rfl)) ?_
   refine zz9 [4, 5] (fun iq hq => ?_)
   rcases List.mem_cons.1 hq with rfl | hq
   ·skip
    refine aX rfl ?_
    refine zz0 (fH rfl ip) ?_
    refine bB ?_
    refine zz9 [5] (fun iq hq => ?_)
    obtain rfl := List.mem_singleton.1 hq
    refine aX rfl ?_
    refine wG (E := dH) 0 (n := 4096) rfl rfl aG lR rfl rfl rfl (by decide) rfl (fun b42 => ?_)
    obtain ⟨z4, hz4⟩ : ∃ z : List UInt8, z = List.replicate 4096 0 := ⟨_, rfl⟩
    rw [← hz4]
    refine bB ?_
    refine eV 7 rfl (by kernel_rfl) (bA bW) (bE (vs := [(0, _), (1, _), (2, _)]) (cs := (cD.enc (⟨978944, z4, some ⟨b42, 0, none⟩, 4096, true, false⟩ : RegV)).toArray) rfl rfl (by kernel_rfl)) ?_
    refine zz9 [8] (fun iq hq => ?_)
    obtain rfl := List.mem_singleton.1 hq
    refine aX rfl ?_
    refine fB (E := cD) (⟨978944, z4, some ⟨b42, 0, none⟩, 4096, true, false⟩ : RegV) rfl rfl cO cB dx (by rfl) (by rfl) rfl (fun V9 => ?_)
    refine bB ?_
    refine zz9 [9] (fun iq hq => ?_)
    obtain rfl := List.mem_singleton.1 hq
    refine aX rfl ?_
    refine zz8 rfl rfl cO iV (fun V44 => ?_)
    refine jm (V := V44) (fun pn cn hpv => ?_)
    subst hpv
    refine bB ?_
    refine zz2 10 rfl (aH rfl) ?_
    refine zz2 11 rfl (zz3 (off := 0) (ft := 89) rfl cY rfl dU) ?_
    refine zz9 [12] (fun iq hq => ?_)
    obtain rfl := List.mem_singleton.1 hq
    refine aX rfl ?_
    refine zz1 rfl rfl dU rfl ?_
    refine bB ?_
    refine eh ?_
    refine aa (af (ab (zz0 (ac rfl) (zz0 (ad rfl) (zz0 (ad rfl) (ae (aa (ao ?_))))))))
    refine cy kd rfl rfl (fun w' hw => ?_)
    have hfin : MemOK l (rs ++ [(⟨978944, z4, some ⟨b42, 0, none⟩, 4096, true, false⟩ : RegV)]) := ⟨by assumption, by rw [List.map_append, hk2, List.take_of_length_le (by omega), hz4]; rfl⟩
    exact ⟨some (b3, b2, .slice pn (rs ++ [(⟨978944, z4, some ⟨b42, 0, none⟩, 4096, true, false⟩ : RegV)]).length cn, rs ++ [(⟨978944, z4, some ⟨b42, 0, none⟩, 4096, true, false⟩ : RegV)]), by rw [hfin.chk], hw.below (Bg.le.refl _), hw.ents (Bg.le.refl _) (by show Pick _ (cellE b3 [.slice pn (rs ++ [(⟨978944, z4, some ⟨b42, 0, none⟩, 4096, true, false⟩ : RegV)]).length cn, .map (some b2)] 91 :: mapE b2 u8V [] :: rowE (.slice pn (rs ++ [(⟨978944, z4, some ⟨b42, 0, none⟩, 4096, true, false⟩ : RegV)]).length cn) 97 cD (rs ++ [(⟨978944, z4, some ⟨b42, 0, none⟩, 4096, true, false⟩ : RegV)]) :: eI 5 (rs ++ [(⟨978944, z4, some ⟨b42, 0, none⟩, 4096, true, false⟩ : RegV)])); rw [iy]; exact .cons (by repeat constructor) (.cons (by repeat constructor) (.cons (by repeat constructor) (.cons (by repeat constructor) (by repeat (first | exact Pick.refl _ | apply Pick.skip)))))), hfin⟩
   obtain rfl := List.mem_singleton.1 hq
   refine aX rfl ?_
   refine wG (E := dH) 0 (n := 4096) rfl rfl aG lR rfl rfl rfl (by decide) rfl (fun b42 => ?_)
   obtain ⟨z4, hz4⟩ : ∃ z : List UInt8, z = List.replicate 4096 0 := ⟨_, rfl⟩
   rw [← hz4]
   refine bB ?_
   refine eV 7 rfl (by kernel_rfl) (bA bW) (bE (vs := [(0, _), (1, _), (2, _)]) (cs := (cD.enc (⟨978944, z4, some ⟨b42, 0, none⟩, 4096, true, false⟩ : RegV)).toArray) rfl rfl (by kernel_rfl)) ?_
   refine zz9 [4, 8] (fun iq hq => ?_)
   rcases List.mem_cons.1 hq with rfl | hq
   ·skip
    refine aX rfl ?_
    refine zz0 (fH rfl ip) ?_
    refine bB ?_
    refine zz9 [8] (fun iq hq => ?_)
    obtain rfl := List.mem_singleton.1 hq
    refine aX rfl ?_
    refine fB (E := cD) (⟨978944, z4, some ⟨b42, 0, none⟩, 4096, true, false⟩ : RegV) rfl rfl cO cB dx (by rfl) (by rfl) rfl (fun V10 => ?_)
    refine bB ?_
    refine zz9 [9] (fun iq hq => ?_)
    obtain rfl := List.mem_singleton.1 hq
    refine aX rfl ?_
    refine zz8 rfl rfl cO iV (fun V44 => ?_)
    refine jm (V := V44) (fun pn cn hpv => ?_)
    subst hpv
    refine bB ?_
    refine zz2 10 rfl (aH rfl) ?_
    refine zz2 11 rfl (zz3 (off := 0) (ft := 89) rfl cY rfl dU) ?_
    refine zz9 [12] (fun iq hq => ?_)
    obtain rfl := List.mem_singleton.1 hq
    refine aX rfl ?_
    refine zz1 rfl rfl dU rfl ?_
    refine bB ?_
    refine eh ?_
    refine aa (af (ab (zz0 (ac rfl) (zz0 (ad rfl) (zz0 (ad rfl) (ae (aa (ao ?_))))))))
    refine cy kd rfl rfl (fun w' hw => ?_)
    have hfin : MemOK l (rs ++ [(⟨978944, z4, some ⟨b42, 0, none⟩, 4096, true, false⟩ : RegV)]) := ⟨by assumption, by rw [List.map_append, hk2, List.take_of_length_le (by omega), hz4]; rfl⟩
    exact ⟨some (b3, b2, .slice pn (rs ++ [(⟨978944, z4, some ⟨b42, 0, none⟩, 4096, true, false⟩ : RegV)]).length cn, rs ++ [(⟨978944, z4, some ⟨b42, 0, none⟩, 4096, true, false⟩ : RegV)]), by rw [hfin.chk], hw.below (Bg.le.refl _), hw.ents (Bg.le.refl _) (by show Pick _ (cellE b3 [.slice pn (rs ++ [(⟨978944, z4, some ⟨b42, 0, none⟩, 4096, true, false⟩ : RegV)]).length cn, .map (some b2)] 91 :: mapE b2 u8V [] :: rowE (.slice pn (rs ++ [(⟨978944, z4, some ⟨b42, 0, none⟩, 4096, true, false⟩ : RegV)]).length cn) 97 cD (rs ++ [(⟨978944, z4, some ⟨b42, 0, none⟩, 4096, true, false⟩ : RegV)]) :: eI 5 (rs ++ [(⟨978944, z4, some ⟨b42, 0, none⟩, 4096, true, false⟩ : RegV)])); rw [iy]; exact .cons (by repeat constructor) (.cons (by repeat constructor) (.cons (by repeat constructor) (.cons (by repeat constructor) (by repeat (first | exact Pick.refl _ | apply Pick.skip)))))), hfin⟩
   obtain rfl := List.mem_singleton.1 hq
   refine aX rfl ?_
   refine fB (E := cD) (⟨978944, z4, some ⟨b42, 0, none⟩, 4096, true, false⟩ : RegV) rfl rfl cO cB dx (by rfl) (by rfl) rfl (fun V11 => ?_)
   refine bB ?_
   refine zz9 [4] (fun iq hq => ?_)
   obtain rfl := List.mem_singleton.1 hq
   refine aX rfl ?_
   refine zz0 (fH rfl ip) ?_
   refine bB ?_
   refine zz9 [9] (fun iq hq => ?_)
   obtain rfl := List.mem_singleton.1 hq
   refine aX rfl ?_
   refine zz8 rfl rfl cO iV (fun V44 => ?_)
   refine jm (V := V44) (fun pn cn hpv => ?_)
   subst hpv
   refine bB ?_
   refine zz2 10 rfl (aH rfl) ?_
   refine zz2 11 rfl (zz3 (off := 0) (ft := 89) rfl cY rfl dU) ?_
   refine zz9 [12] (fun iq hq => ?_)
   obtain rfl := List.mem_singleton.1 hq
   refine aX rfl ?_
   refine zz1 rfl rfl dU rfl ?_
   refine bB ?_
   refine eh ?_
   refine aa (af (ab (zz0 (ac rfl) (zz0 (ad rfl) (zz0 (ad rfl) (ae (aa (ao ?_))))))))
   refine cy kd rfl rfl (fun w' hw => ?_)
   have hfin : MemOK l (rs ++ [(⟨978944, z4, some ⟨b42, 0, none⟩, 4096, true, false⟩ : RegV)]) := ⟨by assumption, by rw [List.map_append, hk2, List.take_of_length_le (by omega), hz4]; rfl⟩
   exact ⟨some (b3, b2, .slice pn (rs ++ [(⟨978944, z4, some ⟨b42, 0, none⟩, 4096, true, false⟩ : RegV)]).length cn, rs ++ [(⟨978944, z4, some ⟨b42, 0, none⟩, 4096, true, false⟩ : RegV)]), by rw [hfin.chk], hw.below (Bg.le.refl _), hw.ents (Bg.le.refl _) (by show Pick _ (cellE b3 [.slice pn (rs ++ [(⟨978944, z4, some ⟨b42, 0, none⟩, 4096, true, false⟩ : RegV)]).length cn, .map (some b2)] 91 :: mapE b2 u8V [] :: rowE (.slice pn (rs ++ [(⟨978944, z4, some ⟨b42, 0, none⟩, 4096, true, false⟩ : RegV)]).length cn) 97 cD (rs ++ [(⟨978944, z4, some ⟨b42, 0, none⟩, 4096, true, false⟩ : RegV)]) :: eI 5 (rs ++ [(⟨978944, z4, some ⟨b42, 0, none⟩, 4096, true, false⟩ : RegV)])); rw [iy]; exact .cons (by repeat constructor) (.cons (by repeat constructor) (.cons (by repeat constructor) (.cons (by repeat constructor) (by repeat (first | exact Pick.refl _ | apply Pick.skip)))))), hfin⟩
end Go.Proofs.YtpeaodkfbjenpaaGreat
namespace Go.HL
open Go Go.RowKit
theorem l5 (a : UInt32) : fL a = a.toBitVec.msb := by
  rw [BitVec.msb_eq_decide]
  unfold fL
  rw [decide_eq_decide, UInt32.le_iff_toNat_le]
  rfl
theorem sh (a : UInt32) : decide (a &&& 2147483648 ≠ 0) = fL a := by
  rw [l5]
  have h : (a &&& 2147483648 ≠ 0) ↔ a.toBitVec.msb = true := by
    rw [ne_eq, ← UInt32.toBitVec_inj, UInt32.toBitVec_and]
    have e : (2147483648 : UInt32).toBitVec = BitVec.ofNat 32 2147483648 := rfl
    have e0 : (0 : UInt32).toBitVec = 0#32 := rfl
    rw [e, e0]
    constructor
    · intro h
      rw [← Bool.not_eq_false]
      intro hm
      refine h (BitVec.eq_of_getLsbD_eq fun i hi => ?_)
      rw [BitVec.getLsbD_and, BitVec.getLsbD_zero]
      by_cases c : i = 31
      · subst c
        rw [BitVec.msb_eq_getLsbD_last] at hm
        have hm' : a.toBitVec.getLsbD 31 = false := hm
        rw [hm']; rfl
      · have : (BitVec.ofNat 32 2147483648).getLsbD i = false := by
          rw [BitVec.getLsbD_ofNat, show (2147483648 : Nat) = 2 ^ 31 from rfl, Nat.testBit_two_pow]
          have : ¬ 31 = i := fun q => c q.symm
          simp [this]
        rw [this, Bool.and_false]
    · intro h hz
      have h1 := congrArg (fun x => BitVec.getLsbD x 31) hz
      simp only [BitVec.getLsbD_and, BitVec.getLsbD_zero] at h1
      rw [BitVec.msb_eq_getLsbD_last] at h
      have h' : a.toBitVec.getLsbD 31 = true := h
      rw [h'] at h1
      exact absurd h1 (by decide)
  by_cases c : a.toBitVec.msb = true
  · rw [c]; exact decide_eq_true (h.2 c)
  · rw [Bool.not_eq_true] at c
    rw [c]; exact decide_eq_false (fun q => by rw [h.1 q] at c; cases c)
theorem pm (a b : UInt32) : fL (a ^^^ b) = (fL a ^^ fL b) := by
  rw [l5, l5, l5, UInt32.toBitVec_xor, BitVec.msb_xor]
theorem tm (a b : UInt32) : fL (a &&& b) = (fL a && fL b) := by
  rw [l5, l5, l5, UInt32.toBitVec_and, BitVec.msb_and]
theorem Ch (a b n : UInt32) : decide ((a ^^^ n) &&& (b ^^^ n) &&& 2147483648 ≠ 0) = (decide (fL a = fL b) && decide (fL n ≠ fL a)) := by
  rw [sh, tm, pm, pm]
  cases fL a <;> cases fL b <;> cases fL n <;> rfl
theorem BY (a b n : UInt32) : decide ((a ^^^ b) &&& (a ^^^ n) &&& 2147483648 ≠ 0) = (decide (fL a ≠ fL b) && decide (fL n ≠ fL a)) := by
  rw [sh, tm, pm, pm]
  cases fL a <;> cases fL b <;> cases fL n <;> rfl
theorem py (n : UInt32) : (n &&& 31).toNat = fb n := by
  unfold fb
  rw [UInt32.toNat_and, UInt32.toNat_mod]
  exact Nat.and_two_pow_sub_one_eq_mod n.toNat 5
theorem cnt_lt (n : UInt32) : fb n < 32 := by
  unfold fb
  rw [UInt32.toNat_mod]
  exact Nat.mod_lt _ (by decide)
theorem zb {f : Flg} {cc : Int} (h : 0 ≤ cc ∧ cc < 15) {o : Nat} (ho : o = cc.toNat) {l : Bool} (hl : l = decide (f.n ≠ f.v)) :
    ([.bool true, .bool f.z, .bool (!f.z), .bool l, .bool (!l), .bool (f.z || l), .bool (!f.z && !l), .bool f.c, .bool (!f.c), .bool (f.c || f.z), .bool (!f.c && !f.z), .bool f.n, .bool (!f.n), .bool f.v, .bool (!f.v)] : List Value)[o]? = some (.bool (em cc f)) := by
  subst hl ho
  obtain ⟨z, n, c, v⟩ := f
  have hk : cc = 0 ∨ cc = 1 ∨ cc = 2 ∨ cc = 3 ∨ cc = 4 ∨ cc = 5 ∨ cc = 6 ∨ cc = 7 ∨ cc = 8 ∨ cc = 9 ∨ cc = 10 ∨ cc = 11 ∨ cc = 12 ∨ cc = 13 ∨ cc = 14 := by omega
  rcases hk with rfl | rfl | rfl | rfl | rfl | rfl | rfl | rfl | rfl | rfl | rfl | rfl | rfl | rfl | rfl <;> cases z <;> cases n <;> cases c <;> cases v <;> rfl
theorem xB {cc : Int} {f : Flg} (h : ¬ (0 ≤ cc ∧ cc < 15)) : em cc f = false := by
  unfold em
  repeat rw [if_neg (by omega)]
theorem A3 {a b : UInt32} {op : Int} (h : ¬ (op < 3 ∨ 15 < op)) {o : Nat} (ho : o = (op - 3).toNat) :
    ([.int .u32 (a + b).toNat, .int .u32 (a - b).toNat, .int .u32 (a * b).toNat, .int .u32 (a &&& b).toNat, .int .u32 (a ||| b).toNat, .int .u32 (a ^^^ b).toNat, .int .u32 (lB a (fb b)).toNat, .int .u32 (fS a (fb b)).toNat, .int .u32 (nA a (fb b)).toNat,
      .int .u32 (jY (decide (a = b))).toNat, .int .u32 (jY (decide (a ≠ b))).toNat, .int .u32 (jY (sB a b)).toNat, .int .u32 (jY (decide (a < b))).toNat] : List Value)[o]? = some (.int .u32 (jM op a b).toNat) := by
  subst ho
  have hk : op = 3 ∨ op = 4 ∨ op = 5 ∨ op = 6 ∨ op = 7 ∨ op = 8 ∨ op = 9 ∨ op = 10 ∨ op = 11 ∨ op = 12 ∨ op = 13 ∨ op = 14 ∨ op = 15 := by omega
  rcases hk with rfl | rfl | rfl | rfl | rfl | rfl | rfl | rfl | rfl | rfl | rfl | rfl | rfl <;> rfl
theorem Aw {op : Int} (h : 8 ≤ op ∧ op ≤ 14) {o : Nat} (ho : o = (op - 8).toNat) : ([.int .i64 6, .int .i64 7, .int .i64 8, .int .i64 5, .int .i64 9, .int .i64 10, .int .i64 11] : List Value)[o]? = some (.int .i64 (gg.opX op)) := by
  subst ho
  have hk : op = 8 ∨ op = 9 ∨ op = 10 ∨ op = 11 ∨ op = 12 ∨ op = 13 ∨ op = 14 := by omega
  rcases hk with rfl | rfl | rfl | rfl | rfl | rfl | rfl <;> rfl
section
variable {P : Program} {N : Nat} {F : Bg} {L : List Ent} {M : Fr}
theorem mO {fn : Func} {R : Ending → World → Prop} {t T : TypeId} {u s : Tmp} {v : Value} {b k : Nat} {cs : List Value} (hr : fn.results = #[.tmp s, .cell u t]) (hs : look M s = some v) (hv : look M u = some (.pointer (some ⟨b, 0, none⟩))) (hm : cellE b cs T ∈ L)
    (hagg : ∀ w, (isAgg t).run P w = .ok true w) (hz : ∀ w, (sizeOf t).run P w = .ok k w) (hl : cs.length = k) (h : ∀ w, HpOK F L w → R (.returned (.tuple #[v, .agg cs.toArray])) w) (hD : look M mk0 = some undef := by rfl) :
    Tr N F L M (bodyPost P fn R .ret) := fun a w ha hw => ⟨ha.defers0 hD, _, by
      have h1 := ha.val u _ hv
      have h2 := ha.val s _ hs
      rw [Array.getD_eq_getD_getElem?] at h1 h2
      simp [results, hr, h1, h2, asAddr, iY (hw.ent _ hm) hagg hz hl], h w hw⟩
end
def St.setR (s : St) (k : Int) (x : UInt32) : St := { s with m := s.m.set k x }
def St.to (s : St) (p : UInt32) : St := { s with m := s.m.to p }
def St.setF (s : St) (f : Flg) : St := { s with m := { s.m with f := f } }
def Cq (s : St) (bM : Nat) (vi vo eff : Value) : List Value := [.pointer (some ⟨bM, 0, none⟩), vi, .int .i64 (s.read : Nat), vo, .bool s.done, .int .i64 s.err, eff]
def bJ (s : St) (bM : Nat) (vi vo eff : Value) : List Value := mY.enc s.m ++ Cq s bM vi vo eff
section
variable {s : St} {bM : Nat} {vi vo eff : Value}
theorem im {k : Int} (hk : 0 ≤ k ∧ k < 8) {o : Nat} (ho : o = k.toNat) : (bJ s bM vi vo eff)[o]? = some (.int .u32 (s.m.reg k).toNat) := by
  subst ho
  unfold bJ
  rw [List.getElem?_append_left (by show k.toNat < 13; omega)]
  exact s.m.reg_cell hk
theorem il {k : Int} (hk : 0 ≤ k ∧ k < 8) {o : Nat} (ho : o = k.toNat) (x : UInt32) : splice (bJ s bM vi vo eff) o [.int .u32 x.toNat] = bJ (s.setR k x) bM vi vo eff := by
  subst ho
  exact s.m.set_cells hk x _
theorem kZ (p : UInt32) : splice (bJ s bM vi vo eff) 8 [.int .u32 p.toNat] = bJ (s.to p) bM vi vo eff := rfl
theorem zv (f : Flg) : splice (bJ s bM vi vo eff) 9 (gU.enc f) = bJ (s.setF f) bM vi vo eff := rfl
theorem io : (bJ s bM vi vo eff).length = 20 := rfl
end
structure CpuAt (h : Hp) (bM bm : Nat) (VR vi : Value) (rs : List RegV) (inp : List UInt32) : Prop where
  mem : MemAt h bM bm VR rs
  inp : Sl h av inp vi
theorem CpuAt.mono {h h' : Hp} {bM bm : Nat} {VR vi : Value} {rs : List RegV} {inp : List UInt32} (m : CpuAt h bM bm VR vi rs inp) (hh : Hp.le h h') : CpuAt h' bM bm VR vi rs inp := ⟨m.mem.mono hh, m.inp.mono hh⟩
end Go.HL
namespace Go.Proofs.YtpeaodkfbjenpaaGreat
open Go Go.HL Go.RowKit
theorem sc (a : UInt32) (w : World) :
  Calls Tryz.prog 142 #[.int .u32 a.toNat] w (fun e w' => e = .returned (.agg (gU.enc (vg a)).toArray) ∧ Ext w w') := by
 refine enter Tryz.func142 rfl Tryz.ntmps142 rfl ?_
 refine af (ab ?_)
 refine c9 dE rfl (fun b1 => ?_)
 refine ae (aa (af (ab (zz0 (ac rfl) (zz0 (gk (n := 0) rfl rfl) ?_)))))
 refine zz0 (ac rfl) (zz0 (iP (n := 2147483648) rfl rfl) ?_)
 refine zz0 (jk (n := 0) rfl rfl) ?_
 refine zz0 (bE (vs := [(0, _), (1, _)]) rfl rfl (my _ _)) ?_
 refine bw gU rfl rfl bH ?_
 refine ae (aa (ao ?_))
 refine fJ Tryz.results142 rfl (by repeat constructor) dN bH (by rfl) (fun w' hw => ?_)
 exact ⟨by rw [sh]; rfl, hw.below (Bg.le.refl _)⟩
theorem vf (a : UInt32) (w : World) :
  Calls Tryz.prog 122 #[.int .u32 a.toNat] w (fun e w' => e = .returned (.agg (gU.enc (vg a)).toArray) ∧ Ext w w') := by
 refine enter Tryz.func122 rfl Tryz.ntmps122 rfl ?_
 refine af (ab ?_)
 refine c9 dE rfl (fun b1 => ?_)
 refine ae (aa (af (ab (zz0 (ac rfl) (zz0 (aB rfl Tryz.call142 (fun w hw => sc a w)) ?_)))))
 refine bw gU rfl rfl bH ?_
 refine ae (aa (ao ?_))
 refine fJ Tryz.results122 rfl (by repeat constructor) dN bH (by rfl) (fun w' hw => ?_)
 exact ⟨rfl, hw.below (Bg.le.refl _)⟩
theorem zI (a b : UInt32) (w : World) :
  Calls Tryz.prog 119 #[.int .u32 a.toNat, .int .u32 b.toNat] w (fun e w' => e = .returned (.tuple #[.int .u32 (a + b).toNat, .agg (gU.enc (uD a b)).toArray]) ∧ Ext w w') := by
 refine enter Tryz.func119 rfl Tryz.ntmps119 rfl ?_
 refine af (ab (zz0 (ad rfl) ?_))
 refine c9 dE rfl (fun b1 => ?_)
 refine ae (aa (af (ab (zz0 (ac rfl) (zz0 (ac rfl) (zz0 (cL rfl rfl) ?_))))))
 refine zz0 (ad rfl) (ae (aa (af (ab (zz0 (ac rfl) (zz0 (aB rfl Tryz.call142 (fun w hw => sc (a + b) w)) ?_))))))
 refine c9 dE rfl (fun b2 => ?_)
 refine bw gU rfl rfl bH ?_
 refine ae (aa (af (ab (zz0 (ac rfl) (zz0 (ac rfl) (zz0 (gG rfl rfl) ?_))))))
 refine zz0 (zz3 (off := 2) (ft := 4) rfl bj rfl bv) ?_
 refine zz1 (cs' := [_, _, _, _]) rfl rfl bv rfl ?_
 refine ae (aa (af (ab (zz0 (ac rfl) (zz0 (ac rfl) (zz0 (lP rfl rfl) ?_))))))
 refine zz0 (ac rfl) (zz0 (ac rfl) (zz0 (lP rfl rfl) ?_))
 refine zz0 (iP rfl rfl) ?_
 refine zz0 (iP (n := 2147483648) rfl rfl) ?_
 refine zz0 (jk (n := 0) rfl rfl) ?_
 refine zz0 (zz3 (off := 3) (ft := 4) rfl bj rfl bv) ?_
 refine zz1 (cs' := [_, _, _, _]) rfl rfl bv rfl ?_
 refine ae (aa (af (bI ([cellE b2 [.bool (decide (a + b = 0)), .bool (fL (a + b)), .bool (decide (a + b < a)), .bool (decide ((a ^^^ (a + b)) &&& (b ^^^ (a + b)) &&& 2147483648 ≠ 0))] 38]) 4 rfl aU ?_)))
 refine zz2 0 rfl (ac rfl) ?_
 refine zz2 1 rfl (bK rfl dN bH) ?_
 refine zz2 2 rfl (ad rfl) ?_
 refine zz9 [3] (fun iq hq => ?_)
 obtain rfl := List.mem_singleton.1 hq
 refine aX rfl ?_
 refine bw gU rfl rfl bH ?_
 refine bB ?_
 refine eh ?_
 refine aa (ao ?_)
 refine mO Tryz.results119 rfl rfl (by repeat constructor) dN bH (by rfl) (fun w' hw => ?_)
 exact ⟨by rw [Ch]; rfl, hw.below (Bg.le.refl _)⟩
theorem tc (a b : UInt32) (w : World) :
  Calls Tryz.prog 120 #[.int .u32 a.toNat, .int .u32 b.toNat] w (fun e w' => e = .returned (.tuple #[.int .u32 (a - b).toNat, .agg (gU.enc (pI a b)).toArray]) ∧ Ext w w') := by
 refine enter Tryz.func120 rfl Tryz.ntmps120 rfl ?_
 refine af (ab (zz0 (ad rfl) ?_))
 refine c9 dE rfl (fun b1 => ?_)
 refine ae (aa (af (ab (zz0 (ac rfl) (zz0 (ac rfl) (zz0 (eX rfl rfl) ?_))))))
 refine zz0 (ad rfl) (ae (aa (af (ab (zz0 (ac rfl) (zz0 (aB rfl Tryz.call142 (fun w hw => sc (a - b) w)) ?_))))))
 refine c9 dE rfl (fun b2 => ?_)
 refine bw gU rfl rfl bH ?_
 refine ae (aa (af (ab (zz0 (ac rfl) (zz0 (ac rfl) (zz0 (gG rfl rfl) ?_))))))
 refine zz0 (zz3 (off := 2) (ft := 4) rfl bj rfl bv) ?_
 refine zz1 (cs' := [_, _, _, _]) rfl rfl bv rfl ?_
 refine ae (aa (af (ab (zz0 (ac rfl) (zz0 (ac rfl) (zz0 (lP rfl rfl) ?_))))))
 refine zz0 (ac rfl) (zz0 (ac rfl) (zz0 (lP rfl rfl) ?_))
 refine zz0 (iP rfl rfl) ?_
 refine zz0 (iP (n := 2147483648) rfl rfl) ?_
 refine zz0 (jk (n := 0) rfl rfl) ?_
 refine zz0 (zz3 (off := 3) (ft := 4) rfl bj rfl bv) ?_
 refine zz1 (cs' := [_, _, _, _]) rfl rfl bv rfl ?_
 refine ae (aa (af (bI ([cellE b2 [.bool (decide (a - b = 0)), .bool (fL (a - b)), .bool (decide (a < b)), .bool (decide ((a ^^^ b) &&& (a ^^^ (a - b)) &&& 2147483648 ≠ 0))] 38]) 4 rfl aU ?_)))
 refine zz2 0 rfl (ac rfl) ?_
 refine zz2 1 rfl (bK rfl dN bH) ?_
 refine zz2 2 rfl (ad rfl) ?_
 refine zz9 [3] (fun iq hq => ?_)
 obtain rfl := List.mem_singleton.1 hq
 refine aX rfl ?_
 refine bw gU rfl rfl bH ?_
 refine bB ?_
 refine eh ?_
 refine aa (ao ?_)
 refine mO Tryz.results120 rfl rfl (by repeat constructor) dN bH (by rfl) (fun w' hw => ?_)
 exact ⟨by rw [BY]; rfl, hw.below (Bg.le.refl _)⟩
theorem yl (a b : UInt32) (w : World) :
  Calls Tryz.prog 143 #[.int .u32 a.toNat, .int .u32 b.toNat] w (fun e w' => e = .returned (.int .u32 (lB a (fb b)).toNat) ∧ Ext w w') := by
 refine enter Tryz.func143 rfl Tryz.ntmps143 rfl ?_
 refine af (ab (zz0 (ad rfl) (ae (aa (af (ab (zz0 (ac rfl) (zz0 (ac rfl) (zz0 (iP (n := 31) rfl rfl) ?_)))))))))
 refine zz0 (qI rfl rfl (by omega)) ?_
 refine zz0 (ad rfl) (ae (aa (ao ?_)))
 refine aI Tryz.results143 rfl (fun w' hw => ?_)
 exact ⟨by rw [← py]; rfl, hw.below (Bg.le.refl _)⟩
theorem yk (a b : UInt32) (w : World) :
  Calls Tryz.prog 144 #[.int .u32 a.toNat, .int .u32 b.toNat] w (fun e w' => e = .returned (.int .u32 (fS a (fb b)).toNat) ∧ Ext w w') := by
 refine enter Tryz.func144 rfl Tryz.ntmps144 rfl ?_
 refine af (ab (zz0 (ad rfl) (ae (aa (af (ab (zz0 (ac rfl) (zz0 (ac rfl) (zz0 (iP (n := 31) rfl rfl) ?_)))))))))
 refine zz0 (uI rfl rfl (by omega)) ?_
 refine zz0 (ad rfl) (ae (aa (ao ?_)))
 refine aI Tryz.results144 rfl (fun w' hw => ?_)
 exact ⟨by rw [← py]; rfl, hw.below (Bg.le.refl _)⟩
theorem yn (a b : UInt32) (w : World) :
  Calls Tryz.prog 145 #[.int .u32 a.toNat, .int .u32 b.toNat] w (fun e w' => e = .returned (.int .u32 (nA a (fb b)).toNat) ∧ Ext w w') := by
 refine enter Tryz.func145 rfl Tryz.ntmps145 rfl ?_
 refine af (ab (zz0 (ad rfl) (ae (aa (af (ab (zz0 (ac rfl) (zz0 (jE rfl aT ga) (zz0 (ac rfl) (zz0 (iP (n := 31) rfl rfl) ?_))))))))))
 refine zz0 (qH rfl rfl (Int.natCast_nonneg _)) ?_
 refine zz0 (eY rfl ga aT) (zz0 (ad rfl) (ae (aa (ao ?_))))
 refine aI Tryz.results145 rfl (fun w' hw => ?_)
 exact ⟨by unfold nA; rw [← py, Int.toNat_natCast, Nat.min_eq_left (by rw [py]; exact Nat.le_of_lt (cnt_lt b))], hw.below (Bg.le.refl _)⟩
theorem lX (x : Bool) (w : World) :
  Calls Tryz.prog 146 #[.bool x] w (fun e w' => e = .returned (.int .u32 (jY x).toNat) ∧ Ext w w') := by
 refine enter Tryz.func146 rfl Tryz.ntmps146 rfl ?_
 refine af (ab (zz0 (ad rfl) (ae (aa (af (af (ab (zz0 (ac rfl) (ae (aa ?_))))))))))
 refine ak rfl ?_ ?_ <;> intro h1 <;> try simp only [bs] at h1
 ·refine af (ab (zz0 (ad rfl) (ae (aa (ao (an ?_))))))
  refine aI Tryz.results146 rfl (fun w' hw => ?_)
  exact ⟨by rw [show x = true by assumption]; rfl, hw.below (Bg.le.refl _)⟩
 ·refine ax (aa (af (ab (zz0 (ad rfl) (ae (aa (ao ?_)))))))
  refine aI Tryz.results146 rfl (fun w' hw => ?_)
  exact ⟨by rw [show x = false by simp_all]; rfl, hw.below (Bg.le.refl _)⟩
theorem qt (cc : Int) (f : Flg) (w : World) :
  Calls Tryz.prog 117 #[.int .i64 cc, .agg (gU.enc f).toArray] w (fun e w' => e = .returned (.bool (em cc f)) ∧ Ext w w') := by
 refine enter Tryz.func117 rfl Tryz.ntmps117 rfl ?_
 refine af (ab ?_)
 refine cM rfl rfl rfl (fun b1 => ?_)
 refine zz0 (ad rfl) (ae (aa (af (ab (zz0 (zz3 (off := 1) (ft := 4) rfl bj rfl bv) ?_)))))
 refine zz0 (aM rfl bR) ?_
 refine zz0 (zz3 (off := 3) (ft := 4) rfl bj rfl bv) ?_
 refine zz0 (aM rfl bR) ?_
 refine zz0 (iv rfl rfl dS) ?_
 refine zz0 (ad rfl) (ae (aa (af (ab (zz0 (zz3 (off := 0) (ft := 4) rfl bj rfl bv) ?_)))))
 refine zz0 (aM rfl bR) ?_
 refine zz0 (zz3 (off := 0) (ft := 4) rfl bj rfl bv) ?_
 refine zz0 (aM rfl bR) ?_
 refine zz0 (cj rfl) (zz0 (ac rfl) (zz0 (ac rfl) (zz0 (cj rfl) (zz0 (zz3 (off := 0) (ft := 4) rfl bj rfl bv) ?_))))
 refine zz0 (aM rfl bR) ?_
 refine zz0 (ac rfl) ?_
 apply cZ
 ·exact (rfl : _ = (2, 22, 24))
 ·exact rfl
 ·intro hF2; have hF2' := hF2
  try simp only [bs] at hF2'
  refine zz5 hF2 (ac rfl) (zz0 (aF rfl hF2 rfl) ?_)
  refine ae (aa ?_)
  exact aw (Sub.cons rfl (zz7 2 rfl))
 ·intro hT2
  refine zz6 hT2 (zz0 (aE rfl hT2 rfl) ?_)
  refine ae (aa ?_)
  exact aw (Sub.cons rfl (zz7 2 rfl))
 refine zz0 (zz3 (off := 0) (ft := 4) rfl bj rfl bv) ?_
 refine zz0 (aM rfl bR) ?_
 refine zz0 (cj rfl) (zz0 (ac rfl) ?_)
 apply bF
 ·exact (rfl : _ = (3, 28, 31))
 ·exact rfl
 ·intro hT3; have hT3' := hT3
  try simp only [bs] at hT3'
  refine zz5 hT3 (ac rfl) (zz5 hT3 (cj rfl) (zz0 (aE rfl hT3 rfl) ?_))
  refine ae (aa ?_)
  exact aw (Sub.cons rfl (zz7 3 rfl))
 ·intro hF3
  refine zz6 hF3 (zz6 hF3 (zz0 (aF rfl hF3 rfl) ?_))
  refine ae (aa ?_)
  exact aw (Sub.cons rfl (zz7 3 rfl))
 refine zz0 (zz3 (off := 2) (ft := 4) rfl bj rfl bv) ?_
 refine zz0 (aM rfl bR) ?_
 refine zz0 (zz3 (off := 2) (ft := 4) rfl bj rfl bv) ?_
 refine zz0 (aM rfl bR) ?_
 refine zz0 (cj rfl) (zz0 (zz3 (off := 2) (ft := 4) rfl bj rfl bv) ?_)
 refine zz0 (aM rfl bR) ?_
 refine zz0 (ac rfl) ?_
 apply cZ
 ·exact (rfl : _ = (3, 39, 42))
 ·exact rfl
 ·intro hF4; have hF4' := hF4
  try simp only [bs] at hF4'
  refine zz5 hF4 (zz3 (off := 0) (ft := 4) rfl bj rfl bv) ?_
  refine zz5 hF4 (aM rfl bR) ?_
  refine zz0 (aF rfl hF4 rfl) ?_
  refine ae (aa ?_)
  exact aw (Sub.cons rfl (zz7 3 rfl))
 ·intro hT4
  refine zz6 hT4 (zz6 hT4 (zz0 (aE rfl hT4 rfl) ?_))
  refine ae (aa ?_)
  exact aw (Sub.cons rfl (zz7 3 rfl))
 refine zz0 (zz3 (off := 2) (ft := 4) rfl bj rfl bv) ?_
 refine zz0 (aM rfl bR) ?_
 refine zz0 (cj rfl) (zz0 (ac rfl) ?_)
 apply bF
 ·exact (rfl : _ = (4, 46, 50))
 ·exact rfl
 ·intro hT5; have hT5' := hT5
  try simp only [bs] at hT5'
  refine zz5 hT5 (zz3 (off := 0) (ft := 4) rfl bj rfl bv) ?_
  refine zz5 hT5 (aM rfl bR) ?_
  refine zz5 hT5 (cj rfl) (zz0 (aE rfl hT5 rfl) ?_)
  refine ae (aa ?_)
  exact aw (Sub.cons rfl (zz7 4 rfl))
 ·intro hF5
  refine zz6 hF5 (zz6 hF5 (zz6 hF5 (zz0 (aF rfl hF5 rfl) ?_)))
  refine ae (aa ?_)
  exact aw (Sub.cons rfl (zz7 4 rfl))
 refine zz0 (zz3 (off := 1) (ft := 4) rfl bj rfl bv) ?_
 refine zz0 (aM rfl bR) ?_
 refine zz0 (zz3 (off := 1) (ft := 4) rfl bj rfl bv) ?_
 refine zz0 (aM rfl bR) ?_
 refine zz0 (cj rfl) (zz0 (zz3 (off := 3) (ft := 4) rfl bj rfl bv) ?_)
 refine zz0 (aM rfl bR) ?_
 refine zz0 (zz3 (off := 3) (ft := 4) rfl bj rfl bv) ?_
 refine zz0 (aM rfl bR) ?_
 refine zz0 (cj rfl) (zz0 (bE (vs := [(0, _), (1, _), (2, _), (3, _), (4, _), (5, _), (6, _), (7, _), (8, _), (9, _), (10, _), (11, _), (12, _), (13, _), (14, _)]) rfl rfl (gn _ _ _ _ _ _ _ _ _ _ _ _ _ _ _)) ?_)
 refine c9 Tryz.zeroValue185 rfl (fun b6 => ?_)
 refine j0 rfl rfl Tryz.sizeOf185 ?_
 refine ae (aa (af (ab (zz0 (ac rfl) (zz0 (dl rfl rfl) (zz0 (ac rfl) ?_))))))
 apply bF
 ·exact (rfl : _ = (3, 64, 67))
 ·exact rfl
 ·intro hT7; have hT7' := hT7
  try simp only [bs] at hT7'
  refine zz5 hT7 (ac rfl) (zz5 hT7 (cE rfl rfl) (zz0 (aE rfl hT7 rfl) ?_))
  refine ae (aa ?_)
  exact aw (Sub.cons rfl (zz7 3 rfl))
 ·intro hF7
  refine zz6 hF7 (zz6 hF7 (zz0 (aF rfl hF7 rfl) ?_))
  refine ae (aa ?_)
  exact aw (Sub.cons rfl (zz7 3 rfl))
 refine zz0 (ac rfl) ?_
 apply bF
 ·exact (rfl : _ = (4, 68, 72))
 ·exact rfl
 ·intro hT8; have hT8' := hT8
  try simp only [bs] at hT8'
  have hcc : 0 ≤ cc ∧ cc < 15 := by first | assumption | simp_all
  refine zz5 hT8 (ac rfl) (zz5 hT8 (fj rfl rfl Tryz.underlying185 bv) ?_)
  refine zz5 hT8 (dZ (v := .bool (em cc f)) rfl (by repeat constructor) bR (zb (l := !(f.n == f.v)) (by simp_all) (by simp) (by cases f.n <;> cases f.v <;> rfl))) ?_
  refine zz0 (aE rfl hT8 rfl) ?_
  refine ae (aa ?_)
  exact aw (Sub.cons rfl (zz7 4 rfl))
 ·intro hF8
  refine zz6 hF8 (zz6 hF8 (zz6 hF8 (zz0 (aF rfl hF8 rfl) ?_)))
  refine ae (aa ?_)
  exact aw (Sub.cons rfl (zz7 4 rfl))
 refine zz0 (ad rfl) (ae (aa (ao ?_)))
 refine aI Tryz.results117 rfl (fun w' hw => ?_)
 exact ⟨by by_cases hcc : 0 ≤ cc ∧ cc < 15 <;> first | simp [hcc.1, hcc.2] | (rw [xB hcc]; first | (simp; done) | (simp; omega)), hw.below (Bg.le.refl _)⟩
theorem vy (op : Int) (a b : UInt32) (w : World) :
  Calls Tryz.prog 121 #[.int .i64 op, .int .u32 a.toNat, .int .u32 b.toNat] w (fun e w' => e = .returned (.tuple #[.int .u32 (kE op a b).1.toNat, .int .i64 (kE op a b).2]) ∧ Ext w w') := by
 refine enter Tryz.func121 rfl Tryz.ntmps121 rfl ?_
 refine af (ab (zz0 (ad rfl) (zz0 (ad rfl) (ae (aa (af (af (ab (zz0 (ac rfl) (zz0 (cE rfl rfl) (zz0 (ac rfl) ?_)))))))))))
 apply cZ
 ·exact (rfl : _ = (3, 11, 14))
 ·exact rfl
 ·intro hF1; have hF1' := hF1
  try simp only [bs] at hF1'
  refine zz5 hF1 (ac rfl) (zz5 hF1 (fG rfl rfl) (zz0 (aF rfl hF1 rfl) ?_))
  refine ae (aa ?_)
  exact aw (Sub.cons rfl (zz7 3 rfl))
 ·intro hT1
  refine zz6 hT1 (zz6 hT1 (zz0 (aE rfl hT1 rfl) ?_))
  refine ae (aa ?_)
  exact aw (Sub.cons rfl (zz7 3 rfl))
 refine ae (aa ?_)
 refine ak rfl ?_ ?_ <;> intro h2 <;> try simp only [bs] at h2
 ·refine af (ab (zz0 (ad rfl) (zz0 (ad rfl) (ae (aa (ao (an ?_)))))))
  refine cy Tryz.results121 rfl rfl (fun w' hw => ?_)
  exact ⟨by unfold kE; rw [if_pos (by assumption)]; rfl, hw.below (Bg.le.refl _)⟩
 ·refine ax (aa (af (ab (zz0 (ac rfl) (zz0 (ac rfl) (zz0 (cL rfl rfl) ?_))))))
  refine zz0 (ac rfl) (zz0 (ac rfl) (zz0 (eX rfl rfl) ?_))
  refine zz0 (ac rfl) (zz0 (ac rfl) (zz0 (jl rfl rfl) ?_))
  refine zz0 (ac rfl) (zz0 (ac rfl) (zz0 (iP rfl rfl) ?_))
  refine zz0 (ac rfl) (zz0 (ac rfl) (zz0 (pD rfl rfl) ?_))
  refine zz0 (ac rfl) (zz0 (ac rfl) (zz0 (lP rfl rfl) ?_))
  refine zz0 (ac rfl) (zz0 (ac rfl) (zz0 (aB rfl Tryz.call143 (fun w hw => yl a b w)) ?_))
  refine zz0 (ac rfl) (zz0 (ac rfl) (zz0 (aB rfl Tryz.call144 (fun w hw => yk a b w)) ?_))
  refine zz0 (ac rfl) (zz0 (ac rfl) (zz0 (aB rfl Tryz.call145 (fun w hw => yn a b w)) ?_))
  refine zz0 (ac rfl) (zz0 (ac rfl) (zz0 (gk rfl rfl) ?_))
  refine zz0 (aB rfl ml (fun w hw => lX (decide (a = b)) w)) ?_
  refine zz0 (ac rfl) (zz0 (ac rfl) (zz0 (jk rfl rfl) ?_))
  refine zz0 (aB rfl ml (fun w hw => lX (decide (a ≠ b)) w)) ?_
  refine zz0 (ac rfl) (zz0 (jE rfl aT ga) (zz0 (ac rfl) (zz0 (jE rfl aT ga) (zz0 (cE rfl rfl) (zz0 (aB rfl ml (fun w hw => lX (sB a b) w)) ?_)))))
  refine zz0 (ac rfl) (zz0 (ac rfl) (zz0 (gG rfl rfl) ?_))
  refine zz0 (aB rfl ml (fun w hw => lX (decide (a < b)) w)) ?_
  refine zz0 (bE (vs := [(0, _), (1, _), (2, _), (3, _), (4, _), (5, _), (6, _), (7, _), (8, _), (9, _), (10, _), (11, _), (12, _)]) rfl rfl (hU _ _ _ _ _ _ _ _ _ _ _ _ _)) ?_
  refine c9 Tryz.zeroValue187 rfl (fun b3 => ?_)
  refine j0 rfl rfl Tryz.sizeOf187 ?_
  refine ae (aa (af ?_))
  have hop : ¬ (op < 3 ∨ 15 < op) := by omega
  refine ab (zz0 (ac rfl) (zz0 (eE rfl rfl) ?_))
  refine zz0 (fj rfl rfl Tryz.underlying187 ah) ?_
  refine zz0 (dZ (v := .int .u32 (jM op a b).toNat) rfl (by repeat constructor) az (A3 (by assumption) (by simp))) ?_
  refine zz0 (ad rfl) (zz0 (ad rfl) (ae (aa (ao ?_))))
  refine cy Tryz.results121 rfl rfl (fun w' hw => ?_)
  exact ⟨by unfold kE; rw [if_neg hop], hw.below (Bg.le.refl _)⟩
end Go.Proofs.YtpeaodkfbjenpaaGreat
namespace Go.HL
open Go
theorem y5 (i : Ins) (s : Int) : ky i s = i ↔ ((s = 4 ∨ s = 5 ∨ s = 6 ∨ s = 7 ∨ s = 8) ∨ i.imm = 0) ∧ ((5 ≤ i.op ∧ i.op ≤ 15 ∨ i.op = 20) ∨ i.form = 0) ∧ ((i.op = 16 ∨ i.op = 17 ∨ i.op = 18) ∨ i.width = 0) ∧
    ((i.op = 20 ∨ i.op = 25) ∨ i.cc = 0) ∧ ((s = 1 ∨ s = 2 ∨ s = 3 ∨ s = 4 ∨ s = 5 ∨ s = 6) ∨ i.a = 0) ∧ ((s = 3 ∨ s = 5) ∨ i.b = 0) := by
  obtain ⟨addr, imm, op, form, width, cc, a, b, size⟩ := i
  have key : ∀ (p : Prop) [Decidable p] (x : Int), ((if p then x else 0) = x) ↔ (p ∨ x = 0) := fun p _ x => by
    by_cases h : p
    · simp [h]
    · simp [h]; exact eq_comm
  have key2 : ∀ (p : Prop) [Decidable p] (x : UInt32), ((if p then x else 0) = x) ↔ (p ∨ x = 0) := fun p _ x => by
    by_cases h : p
    · simp [h]
    · simp [h]; exact eq_comm
  simp only [ky, Ins.mk.injEq, key, key2, true_and, and_true]
theorem BC {i : Ins} {c : UInt8} {s : Int} (h : bD i = (c, s, true)) : ln i = if ¬ (j2 i.a = true ∧ j2 i.b = true ∧ ky i s = i) then 2 else if (s = 4 ∨ s = 5) ∧ iQ i.imm = false ∨ s = 7 ∧ iQ (i.imm - i.addr - 2) = false then 7 else 0 := by
  unfold ln
  simp only [h]
  by_cases h1 : j2 i.a = true <;> by_cases h2 : j2 i.b = true <;> by_cases h3 : ky i s = i <;> simp [h1, h2, h3]
end Go.HL
namespace Go.HL
open Go
theorem nk (x : UInt8) : u8 (x.toNat : Nat) = x := by
  apply UInt8.toNat_inj.1
  have h := yd (x.toNat : Nat)
  have := x.toNat_lt
  omega
theorem wR (a b c : UInt32) : a - (b + c) = a - b - c := by
  apply UInt32.toNat_inj.1
  have ha := a.toNat_lt; have hb := b.toNat_lt; have hc := c.toNat_lt
  simp only [UInt32.toNat_sub, UInt32.toNat_add]
  omega
end Go.HL
namespace Go.HL
open Go
def Bl (c : UInt8) : Bool :=
  let k := (rowP c).1
  let s := (bD k).2.1
  !(rowP c).2 || (decide (bD k = (c, s, true)) && decide (k.addr = 0) && decide (k.imm = 0) && decide (k.b = 0) && decide (k.size = 0) && (decide (s = 1) || decide (k.a = 0)) && decide (0 ≤ k.a) && decide (k.a < 8) &&
    ((decide (5 ≤ k.op) && decide (k.op ≤ 15)) || decide (k.op = 20) || decide (k.form = 0)) && (decide (k.op = 16) || decide (k.op = 17) || decide (k.op = 18) || decide (k.width = 0)) && (decide (k.op = 20) || decide (k.op = 25) || decide (k.cc = 0)) &&
    (!(decide (k.op = 3) || decide (k.op = 4)) || decide (s = 1)) && (decide (k.op = 20) || decide (k.op = 23)) == (decide (s = 7) || decide (s = 8)))
theorem Am (c : UInt8) : Bl c = true := by
  revert c
  exact nv (by decide +kernel)
structure RowFacts (c : UInt8) (k : Ins) (s : Int) : Prop where
  op : bD k = (c, s, true)
  addr : k.addr = 0
  imm : k.imm = 0
  b : k.b = 0
  size : k.size = 0
  a : s = 1 ∨ k.a = 0
  ar : 0 ≤ k.a ∧ k.a < 8
  form : (5 ≤ k.op ∧ k.op ≤ 15) ∨ k.op = 20 ∨ k.form = 0
  width : k.op = 16 ∨ k.op = 17 ∨ k.op = 18 ∨ k.width = 0
  cc : k.op = 20 ∨ k.op = 25 ∨ k.cc = 0
  one : k.op = 3 ∨ k.op = 4 → s = 1
  jump : (k.op = 20 ∨ k.op = 23) ↔ (s = 7 ∨ s = 8)
theorem wZ {c : UInt8} (h : (rowP c).2 = true) : RowFacts c (rowP c).1 (bD (rowP c).1).2.1 := by
  have h1 := Am c
  simp only [Bl, h, Bool.not_true, Bool.false_or, Bool.and_eq_true, Bool.or_eq_true, Bool.not_eq_true', Bool.or_eq_false_iff, decide_eq_true_eq, decide_eq_false_iff_not, beq_iff_eq] at h1
  obtain ⟨⟨⟨⟨⟨⟨⟨⟨⟨⟨⟨⟨h01, h02⟩, h03⟩, h04⟩, h05⟩, h06⟩, h07⟩, h08⟩, h09⟩, h10⟩, h11⟩, h12⟩, h13⟩ := h1
  refine ⟨h01, h02, h03, h04, h05, h06, ⟨h07, h08⟩, by omega, by omega, by omega, fun k => by omega, ?_⟩
  rw [Bool.eq_iff_iff] at h13
  simpa using h13
theorem q8 {i k : Ins} (ho : i.op = k.op) (hf : i.form = k.form) (hw : i.width = k.width) (hc : i.cc = k.cc) (ha : (k.op = 3 ∨ k.op = 4) → i.a = k.a) : bD i = bD k := by
  unfold bD gB mM
  rw [ho, hf, hw, hc]
  by_cases h : k.op = 3 ∨ k.op = 4
  · rw [ha h]
  · rw [if_neg (c := k.op = 3) (by omega), if_neg (c := k.op = 4) (by omega), if_neg (c := k.op = 3) (by omega), if_neg (c := k.op = 4) (by omega)]
theorem mD (x : UInt8) : iQ (gz x) = true := by
  revert x; exact nv (by decide +kernel)
theorem od (x : UInt8) : (gz x).toUInt8 = x := by
  revert x; exact nv (by decide +kernel)
theorem v7 (x : UInt8) : u8 (((x / 16).toNat : Nat) * 16 + ((x % 16).toNat : Nat)) = x := by
  revert x; exact nv (by decide +kernel)
theorem w8 (n : UInt32) : xa [] n 4 = [(fS n 0).toUInt8, (fS n 8).toUInt8, (fS n 16).toUInt8, (fS n 24).toUInt8] := rfl
theorem tO {b : List UInt8} {k : Nat} (h : k + 4 ≤ b.length) : xa [] (fk b k) 4 = [b.getD k default, b.getD (k + 1) default, b.getD (k + 2) default, b.getD (k + 3) default] := by
  rw [w8]
  unfold fk
  generalize b.getD k default = x0
  generalize b.getD (k + 1) default = x1
  generalize b.getD (k + 2) default = x2
  generalize b.getD (k + 3) default = x3
  have h0 := x0.toNat_lt; have h1 := x1.toNat_lt; have h2 := x2.toNat_lt; have h3 := x3.toNat_lt
  have key : ∀ (n : UInt32) (j : Nat) (x : UInt8), n.toNat / 2 ^ j % 256 = x.toNat → (fS n j).toUInt8 = x := fun n j x e => by
    apply UInt8.toNat_inj.1
    rw [UInt32.toNat_toUInt8, ic]
    exact e
  have e1 : (256 : UInt32).toNat = 256 := rfl
  have e2 : (65536 : UInt32).toNat = 65536 := rfl
  have e3 : (16777216 : UInt32).toNat = 16777216 := rfl
  have hn : (x0.toUInt32 + 256 * x1.toUInt32 + 65536 * x2.toUInt32 + 16777216 * x3.toUInt32).toNat = x0.toNat + 256 * x1.toNat + 65536 * x2.toNat + 16777216 * x3.toNat := by
    simp only [UInt32.toNat_add, UInt32.toNat_mul, UInt8.toNat_toUInt32, e1, e2, e3]
    omega
  congr 1
  · exact key _ _ _ (by rw [hn]; omega)
  congr 1
  · exact key _ _ _ (by rw [hn]; omega)
  congr 1
  · exact key _ _ _ (by rw [hn]; omega)
  congr 1
  exact key _ _ _ (by rw [hn]; omega)
theorem rh (s : Int) (k : Ins) (b : List UInt8) (nx : UInt32) : (f9 s k b nx).op = k.op ∧ (f9 s k b nx).form = k.form ∧ (f9 s k b nx).width = k.width ∧ (f9 s k b nx).cc = k.cc ∧ (f9 s k b nx).size = k.size ∧ (f9 s k b nx).addr = k.addr := by
  unfold f9; repeat' split
  all_goals exact ⟨rfl, rfl, rfl, rfl, rfl, rfl⟩
theorem tl {s : Int} (h : 0 ≤ s ∧ s ≤ 8) : s = 0 ∨ s = 1 ∨ s = 2 ∨ s = 3 ∨ s = 4 ∨ s = 5 ∨ s = 6 ∨ s = 7 ∨ s = 8 := by omega
theorem ix {b : List UInt8} {n : Nat} (h : n ≤ b.length) : b.take n = (List.range n).map fun j => b.getD j default := by
  apply List.ext_getElem?
  intro j
  rw [List.getElem?_take]
  by_cases hj : j < n
  · rw [if_pos hj]
    have : j < b.length := by omega
    simp [hj, List.getD_eq_getElem?_getD, this]
  · rw [if_neg hj]; simp [hj]
theorem rL {b : List UInt8} {addr : UInt32} (h : (gv b addr).2 = 0) :
    ∃ s : Int, (gv b addr).1.size = cz s ∧ 1 ≤ cz s ∧ cz s ≤ b.length ∧ (gv b addr).1.addr = addr ∧ ln (gv b addr).1 = 0 ∧ lF (gv b addr).1 = cz s ∧ wz (gv b addr).1 = b.take (cz s).toNat := by
  by_cases h0 : b.length = 0
  · rw [zt h0] at h; cases h
  by_cases hr : (rowP (b.getD 0 default)).2 = true
  case neg => rw [zr h0 (by simpa using hr)] at h; cases h
  by_cases hl : (b.length : Int) < cz (bD (rowP (b.getD 0 default)).1).2.1
  · rw [zq h0 hr hl] at h; cases h
  have hf := wZ hr
  have hsh := ll (rowP (b.getD 0 default)).1
  have e4 := vr (addr := addr) h0 hr hl (k := _) rfl
  rw [← qC] at e4
  generalize hk : (rowP (b.getD 0 default)).1 = k at *
  generalize hs : (bD k).2.1 = s at *
  generalize hi : f9 s { k with addr := addr, size := cz s } b (addr + u32 (cz s)) = i at *
  have hff := rh s { k with addr := addr, size := cz s } b (addr + u32 (cz s))
  rw [hi] at hff
  obtain ⟨fo, fF, fw, fc, fs, fa⟩ := hff
  have hra : j2 i.a = true ∧ j2 i.b = true := by
    rw [e4] at h
    split at h
    · cases h
    · rename_i q; simpa [not_or] using q
  rw [if_neg (by simp [hra.1, hra.2])] at e4
  rw [e4]
  have hpos : 1 ≤ cz s := by unfold cz; repeat' split
                             all_goals omega
  have opc : bD i = (b.getD 0 default, s, true) := by
    rw [← hf.op]
    refine q8 fo fF fw fc fun q => ?_
    have := hf.one q
    subst this
    rw [← hi]; rfl
  have sp := pO s
  have hn : ¬ (b.length : Int) < cz s := hl
  -- the operands, shape by shape
  have body : ky i s = i ∧ ((s = 4 ∨ s = 5) → iQ i.imm = true) ∧ (s = 7 → iQ (i.imm - i.addr - 2) = true) ∧ (b.getD 0 default) :: Bm s i (i.addr + u32 (cz s)) = b.take (cz s).toNat := by
    have kpt : ky i s = i ↔ ((s = 4 ∨ s = 5 ∨ s = 6 ∨ s = 7 ∨ s = 8) ∨ i.imm = 0) ∧ ((s = 1 ∨ s = 2 ∨ s = 3 ∨ s = 4 ∨ s = 5 ∨ s = 6) ∨ i.a = 0) ∧ ((s = 3 ∨ s = 5) ∨ i.b = 0) := by
      rw [y5, fo, fF, fw, fc]
      have := hf.form; have := hf.width; have := hf.cc
      constructor
      · rintro ⟨q1, q2, q3, q4, q5, q6⟩; exact ⟨q1, q5, q6⟩
      · rintro ⟨q1, q5, q6⟩
        refine ⟨q1, ?_, ?_, ?_, q5, q6⟩
        · rcases hf.form with q | q | q
          · exact .inl (.inl q)
          · exact .inl (.inr q)
          · exact .inr q
        · rcases hf.width with q | q | q | q
          · exact .inl (.inl q)
          · exact .inl (.inr (.inl q))
          · exact .inl (.inr (.inr q))
          · exact .inr q
        · rcases hf.cc with q | q | q
          · exact .inl (.inl q)
          · exact .inl (.inr q)
          · exact .inr q
    rw [kpt, fa]
    have him := hf.imm; have hfb := hf.b; have hfa := hf.a
    rcases tl hsh with rfl | rfl | rfl | rfl | rfl | rfl | rfl | rfl | rfl
    · have e : i = { k with addr := addr, size := cz 0 } := hi.symm
      subst e
      refine ⟨⟨.inr him, .inr (by rcases hfa with q | q; omega; exact q), .inr hfb⟩, fun q => by omega, fun q => by omega, ?_⟩
      rw [ix (n := (cz 0).toNat) (by show 1 ≤ _; omega)]; rfl
    · have e : i = { k with addr := addr, size := cz 1 } := hi.symm
      subst e
      refine ⟨⟨.inr him, .inl (by omega), .inr hfb⟩, fun q => by omega, fun q => by omega, ?_⟩
      rw [ix (n := (cz 1).toNat) (by show 1 ≤ _; omega)]; rfl
    · have e : i = { k with addr := addr, size := cz 2, a := (b.getD 1 default).toNat } := hi.symm
      subst e
      refine ⟨⟨.inr him, .inl (by omega), .inr hfb⟩, fun q => by omega, fun q => by omega, ?_⟩
      rw [ix (n := (cz 2).toNat) (by show 2 ≤ _; omega)]
      show [_, u8 ((b.getD 1 default).toNat : Nat)] = [_, _]
      rw [nk]
    · have e : i = { k with addr := addr, size := cz 3, a := (b.getD 1 default / 16).toNat, b := (b.getD 1 default % 16).toNat } := hi.symm
      subst e
      refine ⟨⟨.inr him, .inl (by omega), .inl (by omega)⟩, fun q => by omega, fun q => by omega, ?_⟩
      rw [ix (n := (cz 3).toNat) (by show 2 ≤ _; omega)]
      show [_, u8 (((b.getD 1 default / 16).toNat : Nat) * 16 + ((b.getD 1 default % 16).toNat : Nat))] = [_, _]
      rw [v7]
    · have e : i = { k with addr := addr, size := cz 4, a := (b.getD 1 default).toNat, imm := gz (b.getD 2 default) } := hi.symm
      subst e
      refine ⟨⟨.inl (by omega), .inl (by omega), .inr hfb⟩, fun q => mD _, fun q => by omega, ?_⟩
      rw [ix (n := (cz 4).toNat) (by show 3 ≤ _; omega)]
      show [_, u8 ((b.getD 1 default).toNat : Nat), (gz (b.getD 2 default)).toUInt8] = [_, _, _]
      rw [nk, od]
    · have e : i = { k with addr := addr, size := cz 5, a := (b.getD 1 default / 16).toNat, b := (b.getD 1 default % 16).toNat, imm := gz (b.getD 2 default) } := hi.symm
      subst e
      refine ⟨⟨.inl (by omega), .inl (by omega), .inl (by omega)⟩, fun q => mD _, fun q => by omega, ?_⟩
      rw [ix (n := (cz 5).toNat) (by show 3 ≤ _; omega)]
      show [_, u8 (((b.getD 1 default / 16).toNat : Nat) * 16 + ((b.getD 1 default % 16).toNat : Nat)), (gz (b.getD 2 default)).toUInt8] = [_, _, _]
      rw [v7, od]
    · have e : i = { k with addr := addr, size := cz 6, a := (b.getD 1 default).toNat, imm := fk b 2 } := hi.symm
      subst e
      refine ⟨⟨.inl (by omega), .inl (by omega), .inr hfb⟩, fun q => by omega, fun q => by omega, ?_⟩
      have h6 : cz 6 = 6 := rfl
      rw [ix (n := (cz 6).toNat) (by show 6 ≤ _; omega)]
      show _ :: u8 ((b.getD 1 default).toNat : Nat) :: xa [] (fk b 2) 4 = _
      rw [nk, tO (by omega)]
      rfl
    · have e : i = { k with addr := addr, size := cz 7, imm := (addr + u32 (cz 7)) + gz (b.getD 1 default) } := hi.symm
      subst e
      have e2 : (addr + u32 (cz 7)) + gz (b.getD 1 default) - addr - 2 = gz (b.getD 1 default) := by
        rw [← wR]
        show (addr + 2) + gz (b.getD 1 default) - (addr + 2) = _
        rw [UInt32.add_comm (addr + 2), UInt32.add_sub_cancel]
      have e3 : (addr + u32 (cz 7)) + gz (b.getD 1 default) - (addr + u32 (cz 7)) = gz (b.getD 1 default) := by
        rw [UInt32.add_comm (addr + _), UInt32.add_sub_cancel]
      refine ⟨⟨.inl (by omega), .inr (by rcases hfa with q | q; omega; exact q), .inr hfb⟩, fun q => by omega, fun q => by rw [e2]; exact mD _, ?_⟩
      rw [ix (n := (cz 7).toNat) (by show 2 ≤ _; omega)]
      show [_, ((addr + u32 (cz 7)) + gz (b.getD 1 default) - (addr + u32 (cz 7))).toUInt8] = [_, _]
      rw [e3, od]
    · have e : i = { k with addr := addr, size := cz 8, imm := (addr + u32 (cz 8)) + fk b 1 } := hi.symm
      subst e
      have e3 : (addr + u32 (cz 8)) + fk b 1 - (addr + u32 (cz 8)) = fk b 1 := by
        rw [UInt32.add_comm (addr + _), UInt32.add_sub_cancel]
      refine ⟨⟨.inl (by omega), .inr (by rcases hfa with q | q; omega; exact q), .inr hfb⟩, fun q => by omega, fun q => by omega, ?_⟩
      have h8 : cz 8 = 5 := rfl
      rw [ix (n := (cz 8).toNat) (by show 5 ≤ _; omega)]
      show _ :: xa [] ((addr + u32 (cz 8)) + fk b 1 - (addr + u32 (cz 8))) 4 = _
      rw [e3, tO (by omega)]
      rfl
  obtain ⟨b1, b2, b3, b4⟩ := body
  have er : ln i = 0 := by
    rw [BC opc, if_neg (by simp [hra.1, hra.2, b1]), if_neg]
    rintro (⟨q1, q2⟩ | ⟨q1, q2⟩)
    · rw [b2 q1] at q2; cases q2
    · rw [b3 q1] at q2; cases q2
  refine ⟨s, fs, hpos, by omega, fa, er, ?_, ?_⟩
  · unfold lF; rw [if_pos er, opc]
  · unfold wz; rw [if_pos er, opc]; exact b4
end Go.HL
namespace Go.HL
open Go
theorem St.setF_setR (s : St) (f : Flg) (k : Int) (x : UInt32) : (s.setF f).setR k x = (s.setR k x).setF f := by
  have h : ({ s.m with f := f } : Mach).set k x = { s.m.set k x with f := f } := by
    unfold Mach.set
    repeat' split
    all_goals rfl
  show ({ s with m := ({ s.m with f := f } : Mach).set k x } : St) = { s with m := { s.m.set k x with f := f } }
  rw [h]
theorem wE {op : Int} (h : 8 ≤ op ∧ op ≤ 14) {a b : UInt32} : (kE (gg.opX op) a b).1 = jM (gg.opX op) a b := by
  unfold kE
  rw [if_neg]
  unfold gg.opX
  repeat' split
  all_goals omega
theorem mV {l : List SecV} {w : WrF} {a : UInt32} {n : Int} {x : UInt32} (h : (bO l w a n x).2 ≠ 0) : (bO l w a n x).1 = w := by
  unfold bO at h ⊢
  repeat' split
  all_goals first | rfl | (exfalso; simp_all)
section
variable {s : St} {bM : Nat} {vi vo eff : Value}
theorem xF (b : Bool) : splice (bJ s bM vi vo eff) 17 [.bool b] = bJ { s with done := b } bM vi vo eff := rfl
theorem xE : splice (bJ s bM vi vo eff) 15 [.int .i64 ((s.read : Int) + 1)] = bJ { s with read := s.read + 1 } bM vi vo eff := rfl
theorem qy (v : Value) : splice (bJ s bM vi vo eff) 16 [v] = bJ s bM vi v eff := rfl
theorem zw (e : Int) : splice (bJ s bM vi vo eff) 18 [.int .i64 e] = bJ { s with err := e } bM vi vo eff := rfl
theorem lI (v : Value) : splice (bJ s bM vi vo eff) 19 [v] = bJ s bM vi vo v := rfl
end
theorem uv {b : List UInt8} {a : UInt32} (h : (gv b a).2 = 0) : (0 ≤ (gv b a).1.a ∧ (gv b a).1.a < 8) ∧ (0 ≤ (gv b a).1.b ∧ (gv b a).1.b < 8) := by
  obtain ⟨s, _, _, _, _, h5, _⟩ := rL h
  exact ⟨(rK h5).2.1, (rK h5).2.2.1⟩
theorem zp {b : List UInt8} {a : UInt32} (h : (gv b a).2 = 0) : cv (gv b a).1 = (gv b a).1.addr + u32 (gv b a).1.size := by
  obtain ⟨s, h1, _, _, _, _, h6, _⟩ := rL h
  unfold cv
  rw [h6, h1]
section
variable {l : List SecV} {inp : List UInt32} {s : St} {i : Ins} {nx : UInt32}
theorem rp : (d5 l s i nx).1.out = s.out := by
  unfold d5
  repeat' split
  all_goals rfl
theorem qD : (dj l s i nx).1.out = s.out := by
  unfold dj
  repeat' split
  all_goals rfl
theorem ug : (eF l s i nx).1.out = s.out := by
  unfold eF
  repeat' split
  all_goals rfl
theorem uy : (eR l s i nx).1.out = s.out := by
  unfold eR
  repeat' split
  all_goals rfl
theorem vV : (df inp s i nx).1.w = s.w := by
  unfold df
  repeat' split
  all_goals rfl
end
theorem ud {w : World} {bs bs' : List Nat} {d d' : Nat} (h : ∀ b ∈ bs', b ∈ bs) : Hp.le (Bg.lessB w bs d).blk (Bg.lessB w bs' d').blk := fun b o e => by
  have e' : (if b ∈ bs then none else w.heap[b]?) = some o := e
  show (if b ∈ bs' then none else w.heap[b]?) = some o
  split at e'
  · cases e'
  · rename_i hn
    rw [if_neg (fun q => hn (h b q))]; exact e'
theorem uA {A B : List Ent} (h : ∀ e ∈ A, e ∈ B) : ∀ b ∈ cg A, b ∈ cg B := fun b hb => by
  obtain ⟨e, he, hk⟩ := List.mem_filterMap.1 hb
  exact List.mem_filterMap.2 ⟨e, h e he, hk⟩
theorem OwnAt.perm {w : World} {A B : List Ent} (h : OwnAt w A) (p : B.Perm A) : OwnAt w B := by
  have hb : (cg B).Perm (cg A) := p.filterMap _
  exact ⟨fun e he => h.ent e (p.subset he), hb.nodup_iff.2 h.nodup, fun b hm => h.lt b (hb.subset hm)⟩
theorem Upd.perm {d : Nat} {w w' : World} {A B La Lb : List Ent} (u : Upd d w w' (cg A) La) (hA : B.Perm A) (hL : Lb.Perm La) : Upd d w w' (cg B) Lb := by
  have hb : (cg B).Perm (cg A) := hA.filterMap _
  have hl : (cg Lb).Perm (cg La) := hL.filterMap _
  exact ⟨u.os, u.tape, u.output, u.size, u.dr, fun k hk hn => u.block k hk (fun q => hn (hb.symm.subset q)), fun e he => u.ent e (hL.subset he), hl.nodup_iff.2 u.nodup, fun b m => u.lt b (hl.subset m), fun b m => (u.own b (hl.subset m)).imp (fun q => hb.symm.subset q) id⟩
inductive Ran (l : List SecV) (inp : List UInt32) (s : St) : Nat → St → List UInt32 → Prop
  | nil : Ran l inp s 0 s []
  | snoc {k : Nat} {t : St} {tr : List UInt32} (h : Ran l inp s k t tr) (h1 : t.done = false) (h2 : t.err = 0) : Ran l inp s (k + 1) (stepS l inp t).1 (tr ++ [t.m.pc])
section
variable {l : List SecV} {inp : List UInt32} {s t : St} {k : Nat} {tr : List UInt32}
theorem Ran.len (h : Ran l inp s k t tr) : tr.length = k := by
  induction h with
  | nil => rfl
  | snoc h h1 h2 ih => simp [ih]
theorem Ran.run (h : Ran l inp s k t tr) : ∀ m, dm l inp (k + m) s = dm l inp m t ∧ da l inp (k + m) s = tr ++ da l inp m t := by
  induction h with
  | nil => intro m; rw [Nat.zero_add]; exact ⟨rfl, rfl⟩
  | @snoc k t tr h h1 h2 ih =>
    intro m
    obtain ⟨q1, q2⟩ := ih (m + 1)
    rw [show k + 1 + m = k + (m + 1) by omega, q1, q2]
    constructor
    · rw [dm, if_pos ⟨h1, h2⟩]
    · rw [da, if_pos ⟨h1, h2⟩, List.append_assoc]; rfl
theorem run_stop (h : ¬ (s.done = false ∧ s.err = 0)) : ∀ m, dm l inp m s = s ∧ da l inp m s = []
  | 0 => ⟨rfl, rfl⟩
  | m + 1 => ⟨by rw [dm, if_neg h], by rw [da, if_neg h]⟩
theorem Ran.full (h : Ran l inp s k t tr) {n : Nat} (hk : k ≤ n) (hs : k = n ∨ ¬ (t.done = false ∧ t.err = 0)) : t = dm l inp n s ∧ tr = da l inp n s := by
  obtain ⟨q1, q2⟩ := h.run (n - k)
  rw [show k + (n - k) = n by omega] at q1 q2
  rcases hs with rfl | hs
  · rw [Nat.sub_self] at q1 q2
    exact ⟨q1.symm, by rw [q2]; simp [da]⟩
  · obtain ⟨r1, r2⟩ := run_stop (l := l) (inp := inp) hs (n - k)
    exact ⟨by rw [q1, r1], by rw [q2, r2, List.append_nil]⟩
end
section
variable {l : List SecV} {inp : List UInt32} {s t : St} {k : Nat} {tr : List UInt32}
theorem wO {i : Ins} {nx : UInt32} (h : s.out.length ≤ 4096) : (df inp s i nx).1.out.length ≤ 4096 := by
  unfold df
  repeat' split
  all_goals first | exact h | (simp only [List.length_append, List.length_cons, List.length_nil]; omega)
theorem AW {i : Ins} {nx : UInt32} (h : s.out.length ≤ 4096) : (cU l inp s i nx).1.out.length ≤ 4096 := by
  unfold cU
  repeat' split
  · rw [rp]; exact h
  · rw [qD]; exact h
  · rw [ug]; exact h
  · rw [uy]; exact h
  · exact wO h
  · exact h
theorem pK (h : s.out.length ≤ 4096) : (stepS l inp s).1.out.length ≤ 4096 := by
  unfold stepS
  split
  · exact h
  split
  · exact h
  show (dX l inp s).1.out.length ≤ 4096
  unfold dX
  split
  · exact h
  split
  · exact h
  exact AW h
theorem Ran.out_len (h : Ran l inp s k t tr) (hs : s.out.length ≤ 4096) : t.out.length ≤ 4096 := by
  induction h with
  | nil => exact hs
  | snoc h h1 h2 ih => exact pK ih
def jV (t : St) : Int := if t.err = 0 ∧ t.done = false then 15 else t.err
end
theorem CellsIn.prefix_ {h : Hp} {b : Nat} {xs ys : List Value} (c : CellsIn h b (xs ++ ys)) : CellsIn h b xs := by
  obtain ⟨cs, T, fz, h1, h2⟩ := c
  exact ⟨cs, T, fz, h1, fun j v hv => h2 j v (by rw [List.getElem?_append_left (List.getElem?_eq_some_iff.1 hv).1]; exact hv)⟩
theorem HpOK.lessOwn {F : Bg} {L Lo R : List Ent} {w : World} {d : Nat} (h : HpOK F L w) (hs : Split L Lo R) {e : Ent} (he : e ∈ R) : e.ok (e.blk.bind (Bg.lessB w (cg Lo) d).blk) := by
  have hp := h.perm hs.perm.symm
  have hh := hp.ent e (List.mem_append_right _ he)
  unfold Ent.holds at hh
  cases hk : e.blk with
  | none => rw [hk] at hh; exact hh
  | some b =>
    rw [hk] at hh
    simp only [Option.bind_some] at hh ⊢
    have hbl : cg (Lo ++ R) = cg Lo ++ cg R := List.filterMap_append
    have hnd := List.nodup_append.1 (hbl ▸ hp.nodup)
    have hb : b ∈ cg R := List.mem_filterMap.2 ⟨e, he, hk⟩
    have : (Bg.lessB w (cg Lo) d).blk b = w.heap[b]? := by
      show (if b ∈ cg Lo then none else w.heap[b]?) = _
      rw [if_neg (fun q => hnd.2.2 b q b hb rfl)]
    rw [this]; exact hh
theorem rm {l : List SecV} {w : WrF} {x : UInt32} : bO l w 983036 4 x = (m8 w 983036 x 4, 0) := by
  have h1 : e9 983036 = true := by decide
  have h2 : dW l 983036 = 4 := by unfold dW; rw [if_pos h1]; rfl
  have h3 : wrA l 983036 = true := by unfold wrA; rw [h1]; rfl
  rw [pg (by decide) (by rw [h2]; decide) (by rw [h3]; decide)]; rfl
theorem va {F : Bg} {L R : List Ent} {w : World} {bM bm : Nat} {VR : Value} {T T2 : TypeId} {rs : List RegV} {wl : WL} (h : HpOK F L w) (hs : Split L [mapE bm u8V wl] R) (h1 : cellE bM [VR, .map (some bm)] T ∈ R) (h2 : rowE VR T2 cD rs ∈ R) (h3 : RegIn F.blk rs) :
    MemAt (Bg.lessB w (cg [mapE bm u8V wl]) 0).blk bM bm VR rs := by
  have k1 := h.lessOwn (d := 0) hs h1
  exact ⟨⟨_, _, _, k1, fun j v hv => by simpa using hv⟩, RowOK.sl (h.lessOwn hs h2), h3.mono (h.lessB (d := 0) hs)⟩
end Go.HL
