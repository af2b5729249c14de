/- Own rules and walks, part 3. -/
import Derived.Test.YtiajjbhcpeadfaaGreatB2
set_option linter.unusedSimpArgs false
set_option linter.unusedVariables false
set_option linter.unusedSectionVars false
set_option maxRecDepth 100000
set_option maxHeartbeats 16000000
namespace Go.Proofs.YtiajjbhcpeadfaaGreat
open Go Go.HL Go.RowKit
theorem s8 (a : VSet) (w : World) :
  Calls Tryz.prog 41 #[.agg (bR.enc a).toArray] w (fun e w' => ∃ V', e = .returned (.tuple #[V', .int .i64 (ff a).2]) ∧ Ext w w' ∧ jA w w' 23 an ((ff a).1) V') := by
 refine enter Tryz.func41 rfl Tryz.ntmps41 rfl ?_
 refine ah ?_
 refine dE rfl rfl (fun b1 => ?_)
 refine zz0 (ab rfl) (zz0 (ab rfl) (aL (zz0 (bE rfl aO ak) ?_)))
 refine zz0 (aC rfl gn (fun w hw => g8 a w)) ?_
 refine aF bR rfl rfl ak ?_
 refine aL (zz0 (bE rfl aO ak) ?_)
 refine zz0 (aC rfl Tryz.call100 (fun w hw => Aa (aZ a) w)) ?_
 refine zz0 (ab rfl) (ad (al (al ?_)))
 have hcc : fx (aZ a) = fx a := by unfold fx; rw [jW]
 rw [hcc]
 have hc0 := FG a
 have hc1 := count_le a
 refine ar (zz0 (aa rfl) (zz0 (eU rfl rfl) (ad ?_)))
 refine ao rfl ?_ ?_ <;> intro h2 <;> try simp only [bs] at h2
 ·refine ah (zz0 (ab rfl) (zz0 (ab rfl) (ad (aD (aB ?_)))))
  refine dI Tryz.results41 rfl rfl (fun w' hw => ?_)
  exact ⟨_, by unfold ff; rw [if_pos (by assumption)], hw.b0, by unfold ff; rw [if_pos (by assumption)]; exact fN rfl⟩
 refine df (zz0 (ab rfl) (ad (al (ah (zz0 (aa rfl) (zz0 (aa rfl) (ad ?_)))))))
 refine aG (cd 23 an ?_)
 refine bN (ι := Nat × Value) (fun ⟨k, V⟩ => k ≤ (fx a).toNat) (fun _ => _) (fun ⟨k, V⟩ => [rowE V 23 an (elK (aZ a) k), cellE b1 (bR.enc (aZ a)) 25]) (fun ⟨k, V⟩ => [(5, V), (14, .int .i64 (k : Nat))]) (fun ⟨k, V⟩ => (fx a).toNat - k) (0, _) (Nat.zero_le _) (Front.c (Front.c Front.nil)) (by repeat' constructor) rfl (fun i hi m hm => ?_)
 obtain ⟨k, V⟩ := i
 replace hi : k ≤ (fx a).toNat := hi
 replace hm : m = (fx a).toNat - k := hm
 change Tr _ _ [rowE V 23 an (elK (aZ a) k), cellE b1 (bR.enc (aZ a)) 25] ([(5, V), (14, .int .i64 (k : Nat))] ++ _) _
 have hel := Cq (aZ a) k
 refine ah (zz0 (bS rfl rfl) (ad (al ?_)))
 refine ao rfl ?_ ?_ <;> intro h3 <;> try simp only [bs] at h3
 ·refine bB (al (aG (ah (zz0 (aa rfl) (zz0 (ab rfl) (ad (ar (zz0 (aa rfl) (zz0 (zz1 (off := 2) (ft := 23) rfl aw rfl ae) ?_)))))))))
  refine zz0 (aH rfl am) ?_
  refine zz0 (aa rfl) (zz0 (iw rfl ba aV) (zz0 (zz1 (off := 4) (ft := 23) rfl aw rfl ae) ?_))
  refine zz0 (aH rfl am) ?_
  refine zz0 (nD rfl rfl) ?_
  refine zz0 (ii rfl rfl) ?_
  refine jB (E := an) _ rfl rfl aj ae cU (fun V4 => ?_)
  refine zz2 rfl rfl aj eW (fun V5 => ?_)
  refine zz0 (ab rfl) (az (aX (ac (ar (zz0 (cx rfl rfl) ?_)))))
  refine zz0 (aa rfl) (ad ?_)
  rw [← FB]
  refine cC (k + 1, _) (Front.c (Front.c Front.nil)) (bA 19 rfl) (o := (by show k + 1 ≤ _; omega))
 refine bG (aJ (aJ (bj (ac (al ?_)))))
 obtain rfl : k = (fx a).toNat := by omega
 refine ar (zz0 (aa rfl) (zz0 (ab rfl) (zz0 (ab rfl) (ad (aD ?_)))))
 refine dI Tryz.results41 rfl rfl (fun w' hw => ?_)
 exact ⟨_, by unfold ff; rw [if_neg (by omega)], hw.b0, by unfold ff ye; rw [if_neg (by omega), hcc]; exact hw.new (.head _)⟩
theorem CO (a b : VSet) (w : World) :
  Cr Tryz.prog 271 #[.agg (bR.enc a).toArray, .agg (bR.enc b).toArray] w (.bool (nL a b)) := by
 refine enter Tryz.func271 rfl Tryz.ntmps271 rfl ?_
 refine ah ?_
 refine dE rfl rfl (fun b1 => ?_)
 refine dE rfl rfl (fun b2 => ?_)
 refine zz0 (ab rfl) (ad (al (fK 0 4 aT ?_)))
 refine bH ?_
 refine ax (bE rfl aO ak) ?_
 refine ax (aC rfl gn (fun w hw => g8 a w)) ?_
 refine ax (bE rfl aO ak) ?_
 refine ax (aC rfl gn (fun w hw => g8 b w)) ?_
 refine bK ?_
 refine aF bR rfl rfl ak ?_
 refine aF bR rfl rfl ak ?_
 refine ad (al (aG (ah (zz0 (zz1 (off := 0) (ft := 4) rfl aw rfl bX) ?_))))
 refine zz0 (aH rfl cK) ?_
 refine zz0 (aa rfl) ?_
 apply cF
 ·exact (rfl : _ = (3, 12, 15))
 ·exact rfl
 ·intro hF3; have hF3' := hF3
  try simp only [bs] at hF3'
  refine zz5 hF3 (zz1 (off := 1) (ft := 4) rfl aw rfl bX) ?_
  refine zz5 hF3 (aH rfl cK) ?_
  refine zz0 (aK rfl hF3 rfl) ?_
  refine az (ac ?_)
  exact aA (Sub.cons rfl (zz7 3 rfl))
 ·intro hT3
  refine zz6 hT3 (zz6 hT3 (zz0 (aN rfl hT3 rfl) ?_))
  refine az (ac ?_)
  exact aA (Sub.cons rfl (zz7 3 rfl))
 refine zz0 (ab rfl) (ad ?_)
 refine ao rfl ?_ ?_ <;> intro h4 <;> try simp only [bs] at h4
 ·refine ah (zz0 (ab rfl) (ad (aD (bv (aB ?_)))))
  refine aS mO rfl (fun w' hw => ?_)
  refine ⟨?_, hw.b0⟩
  unfold nL oS
  repeat' (first | rfl | (exfalso; first | (simp_all; done) | grind) | split)
 refine ah (zz0 (zz1 (off := 1) (ft := 4) rfl aw rfl bX) ?_)
 refine zz0 (aH rfl cK) ?_
 refine zz0 (aa rfl) ?_
 apply cF
 ·exact (rfl : _ = (3, 19, 22))
 ·exact rfl
 ·intro hF5; have hF5' := hF5
  try simp only [bs] at hF5'
  refine zz5 hF5 (zz1 (off := 0) (ft := 4) rfl aw rfl bX) ?_
  refine zz5 hF5 (aH rfl cK) ?_
  refine zz0 (aK rfl hF5 rfl) ?_
  refine az (ac ?_)
  exact aA (Sub.cons rfl (zz7 3 rfl))
 ·intro hT5
  refine zz6 hT5 (zz6 hT5 (zz0 (aN rfl hT5 rfl) ?_))
  refine az (ac ?_)
  exact aA (Sub.cons rfl (zz7 3 rfl))
 refine zz0 (ab rfl) (ad ?_)
 refine ao rfl ?_ ?_ <;> intro h6 <;> try simp only [bs] at h6
 ·refine ah (zz0 (ab rfl) (ad (aD (bv (aB ?_)))))
  refine aS mO rfl (fun w' hw => ?_)
  refine ⟨?_, hw.b0⟩
  unfold nL oS
  repeat' (first | rfl | (exfalso; first | (simp_all; done) | grind) | split)
 refine bW (aX (ac (ah (zz0 (bE rfl aO ak) ?_))))
 refine zz0 (zz1 (off := 2) (ft := 23) rfl aw rfl ae) ?_
 refine zz0 (aH rfl am) ?_
 refine zz0 (aC rfl qc (fun w hw => mz _ _ w)) ?_
 refine zz0 (aa rfl) ?_
 apply bV
 ·exact (rfl : _ = (5, 27, 32))
 ·exact rfl
 ·intro hT7; have hT7' := hT7
  try simp only [bs] at hT7'
  refine zz5 hT7 (bE rfl aO ak) ?_
  refine zz5 hT7 (zz1 (off := 3) (ft := 23) rfl aw rfl ae) ?_
  refine zz5 hT7 (aH rfl am) ?_
  refine zz5 hT7 (aC rfl qc (fun w hw => mz _ _ w)) ?_
  refine zz0 (aN rfl hT7 rfl) ?_
  refine az (ac ?_)
  exact aA (Sub.cons rfl (zz7 5 rfl))
 ·intro hF7
  refine zz6 hF7 (zz6 hF7 (zz6 hF7 (zz6 hF7 (zz0 (aK rfl hF7 rfl) ?_))))
  refine az (ac ?_)
  exact aA (Sub.cons rfl (zz7 5 rfl))
 refine zz0 (aa rfl) ?_
 apply bV
 ·exact (rfl : _ = (17, 33, 50))
 ·exact rfl
 ·intro hT8; have hT8' := hT8
  try simp only [bs] at hT8'
  refine zz5 hT8 (zz1 (off := 4) (ft := 23) rfl aw rfl ae) ?_
  refine zz5 hT8 (aH rfl am) ?_
  refine zz5 hT8 (eC (n := 0) rfl rfl) ?_
  refine zz5 hT8 (aa rfl) ?_
  apply cF
  ·exact (rfl : _ = (12, 37, 49))
  ·exact rfl
  ·intro hF9; have hF9' := hF9
   try simp only [bs] at hF9'
   refine zz5 hF9 (zz1 (off := 4) (ft := 23) rfl aw rfl ae) ?_
   refine zz5 hF9 (aH rfl am) ?_
   refine zz5 hF9 (kU (n := 0) rfl rfl) ?_
   refine zz5 hF9 (aa rfl) ?_
   apply bV
   ·exact (rfl : _ = (7, 41, 48))
   ·exact rfl
   ·intro hT10; have hT10' := hT10
    try simp only [bs] at hT10'
    have hb0 := H8 (by assumption : 0 < (aZ b).st)
    refine zz5 hT10 (zz1 (off := 4) (ft := 23) rfl aw rfl ae) ?_
    refine zz5 hT10 (aH rfl am) ?_
    refine zz5 hT10 (zz1 (off := 4) (ft := 23) rfl aw rfl ae) ?_
    refine zz5 hT10 (aH rfl am) ?_
    refine zz5 hT10 (nC rfl rfl (by first | decide | assumption)) ?_
    refine zz5 hT10 (eC (n := 0) rfl rfl) ?_
    refine zz5 hF9 (aN rfl hT10 rfl) ?_
    refine az (ac ?_)
    exact aA (Sub.cons rfl (zz7 7 rfl))
   ·intro hF10
    refine zz6 hF10 (zz6 hF10 (zz6 hF10 (zz6 hF10 (zz6 hF10 (zz6 hF10 (zz5 hF9 (aK rfl hF10 rfl) ?_))))))
    refine az (ac ?_)
    exact aA (Sub.cons rfl (zz7 7 rfl))
   refine zz5 hT8 (aK rfl hF9 rfl) ?_
   refine az (ac ?_)
   exact aA (Sub.cons rfl (zz7 6 rfl))
  ·intro hT9
   refine zz6 hT9 (zz6 hT9 (zz6 hT9 (zz6 hT9 (fw ?_))))
   refine fw ?_
   refine fw ?_
   refine fw ?_
   refine fw ?_
   refine fw ?_
   refine zz6 hT9 (zz5 hT8 (aN rfl hT9 rfl) ?_)
   refine az (ac ?_)
   exact aA (Sub.cons rfl (zz7 12 rfl))
  refine zz0 (aN rfl hT8 rfl) ?_
  refine az (ac ?_)
  exact aA (Sub.cons rfl (zz7 6 rfl))
 ·intro hF8
  refine zz6 hF8 (zz6 hF8 (zz6 hF8 (zz6 hF8 (fw ?_))))
  refine fw ?_
  refine fw ?_
  refine fw ?_
  refine fw ?_
  refine fw ?_
  refine fw ?_
  refine fw ?_
  refine fw ?_
  refine fw ?_
  refine fw ?_
  refine zz6 hF8 (zz0 (aK rfl hF8 rfl) ?_)
  refine az (ac ?_)
  exact aA (Sub.cons rfl (zz7 17 rfl))
 refine zz0 (ab rfl) (ad (aD ?_))
 refine aS mO rfl (fun w' hw => ?_)
 refine ⟨?_, hw.b0⟩
 unfold nL oS
 repeat' (first | rfl | (exfalso; first | (simp_all; done) | grind) | split)
theorem wj (a : VSet) (k : UInt32) (w : World) :
  Cr Tryz.prog 325 #[.agg (bR.enc a).toArray, .int .u32 k.toNat] w (.agg (bR.enc (qZ a k)).toArray) := by
 have hmul := IU a.hi k
 refine enter Tryz.func325 rfl Tryz.ntmps325 rfl ?_
 refine ah ?_
 refine dE rfl rfl (fun b1 => ?_)
 refine dA cM rfl (fun b2 => ?_)
 refine ad (al (ah (zz0 (zz1 (off := 1) (ft := 4) rfl aw rfl bX) ?_)))
 refine zz0 (aH rfl cK) ?_
 refine zz0 (aa rfl) ?_
 apply cF
 ·exact (rfl : _ = (8, 7, 15))
 ·exact rfl
 ·intro hF3; have hF3' := hF3
  try simp only [bs] at hF3'
  refine zz5 hF3 (zz1 (off := 3) (ft := 23) rfl aw rfl ae) ?_
  refine zz5 hF3 (aH rfl am) ?_
  refine zz5 hF3 (eQ rfl aV cH) (zz5 hF3 (aa rfl) (zz5 hF3 (eQ rfl aV cH) (zz5 hF3 (CE rfl rfl (by omega)) ?_)))
  refine zz5 hF3 (eU rfl rfl) (zz0 (aK rfl hF3 rfl) ?_)
  refine az (ac ?_)
  exact aA (Sub.cons rfl (zz7 8 rfl))
 ·intro hT3
  refine zz6 hT3 (zz6 hT3 (zz6 hT3 (zz6 hT3 (zz6 hT3 (zz6 hT3 (zz6 hT3 (zz0 (aN rfl hT3 rfl) ?_)))))))
  refine az (ac ?_)
  exact aA (Sub.cons rfl (zz7 8 rfl))
 refine ad ?_
 refine ao rfl ?_ ?_ <;> intro h4 <;> try simp only [bs] at h4
 ·refine ah (zz0 (aC rfl fX (fun w hw => j5 w)) ?_)
  refine aF bR rfl rfl ak ?_
  refine ad (aD (aB ?_))
  refine eR Tryz.results325 rfl aO ak (fun w' hw => ?_)
  refine ⟨?_, hw.b0⟩
  unfold qZ
  repeat' (first | rfl | (exfalso; first | (simp_all; done) | grind) | split)
 refine df (zz0 (zz1 (off := 2) (ft := 23) rfl aw rfl ae) ?_)
 refine zz0 (aH rfl am) ?_
 refine zz0 (aa rfl) (zz0 (nD rfl rfl) ?_)
 refine zz0 (zz1 (off := 3) (ft := 23) rfl aw rfl ae) ?_
 refine zz0 (aH rfl am) ?_
 refine zz0 (aa rfl) (zz0 (nD rfl rfl) ?_)
 refine zz0 (zz1 (off := 4) (ft := 23) rfl aw rfl ae) ?_
 refine zz0 (aH rfl am) ?_
 refine zz0 (aa rfl) (zz0 (nD rfl rfl) ?_)
 refine zz0 (aC rfl eD (fun w hw => dO _ _ _ w)) ?_
 refine aF bR rfl rfl ak ?_
 refine ad (aD ?_)
 refine eR Tryz.results325 rfl aO ak (fun w' hw => ?_)
 refine ⟨?_, hw.b0⟩
 unfold qZ
 repeat' (first | rfl | (exfalso; first | (simp_all; done) | grind) | split)
theorem Dp (a : VSet) (n : UInt32) (w : World) :
  Cr Tryz.prog 326 #[.agg (bR.enc a).toArray, .int .u32 n.toNat] w (.agg (bR.enc (tQ a n)).toArray) := by
 refine enter Tryz.func326 rfl Tryz.ntmps326 rfl ?_
 refine ah ?_
 refine dE rfl rfl (fun b1 => ?_)
 refine dA cM rfl (fun b2 => ?_)
 refine aL (zz0 (aa rfl) (zz0 (ab rfl) (ad (al (ah (zz0 (zz1 (off := 1) (ft := 4) rfl aw rfl bX) ?_))))))
 refine zz0 (aH rfl cK) ?_
 refine zz0 (cj rfl) (ad ?_)
 refine ao rfl ?_ ?_ <;> intro h3 <;> try simp only [bs] at h3
 ·refine ar (zz0 (aa rfl) (zz0 (zz1 (off := 3) (ft := 23) rfl aw rfl ae) ?_))
  refine zz0 (aH rfl am) ?_
  refine zz0 (pK rfl rfl) ?_
  refine zz0 (ab rfl) (aL (zz0 (aa rfl) (zz0 (aa rfl) (zz0 (aa rfl) (zz0 (vp rfl) ?_)))))
  refine zz0 (nI rfl rfl) ?_
  refine zz0 (aC rfl eD (fun w hw => dO 0 _ (n &&& (0 - n)) w)) ?_
  refine aF bR rfl rfl ak ?_
  refine ad (aD ?_)
  refine eR Tryz.results326 rfl aO ak (fun w' hw => ?_)
  refine ⟨?_, hw.b0⟩
  unfold tQ
  rw [if_pos (show a.top = false by simp_all)]
  rfl
 refine df (zz0 (aa rfl) (zz0 (aa rfl) (zz0 (aa rfl) (zz0 (vp rfl) ?_))))
 refine zz0 (nI rfl rfl) ?_
 refine zz0 (aC rfl eD (fun w hw => dO 0 _ (n &&& (0 - n)) w)) ?_
 refine aF bR rfl rfl ak ?_
 refine ad (aD ?_)
 refine eR Tryz.results326 rfl aO ak (fun w' hw => ?_)
 refine ⟨?_, hw.b0⟩
 unfold tQ
 rw [if_neg (show ¬a.top = false by simp_all)]
 rfl
theorem pF (op : Int) (a b : VSet) (w : World) :
  Cr Tryz.prog 303 #[.int .i64 op, .agg (bR.enc a).toArray, .agg (bR.enc b).toArray] w (.agg (bR.enc (f7 op a b)).toArray) := by
 have hb1 := (aZ a).hi.toNat_lt
 have hb2 := (aZ b).hi.toNat_lt
 refine enter Tryz.func303 rfl Tryz.ntmps303 rfl ?_
 refine ah ?_
 refine dE rfl rfl (fun b1 => ?_)
 refine dE rfl rfl (fun b2 => ?_)
 refine dA cM rfl (fun b3 => ?_)
 refine ad (al (fK 0 4 aT ?_))
 refine bH ?_
 refine ax (bE rfl aO ak) ?_
 refine ax (aC rfl gn (fun w hw => g8 a w)) ?_
 refine ax (bE rfl aO ak) ?_
 refine ax (aC rfl gn (fun w hw => g8 b w)) ?_
 refine bK ?_
 refine aF bR rfl rfl ak ?_
 refine aF bR rfl rfl ak ?_
 refine ad ?_
 refine db (ι := Unit) (fun u => f7 op a b = ir op (aZ a) (aZ b)) (fun _ => Bg.of w) (fun u => [cellE b3 (bR.enc zeroS) 25, cellE b2 (bR.enc (aZ b)) 25, cellE b1 (bR.enc (aZ a)) 25]) (fun u => []) ?_ (fun u hi => ?_)
 ·skip
  refine aG (ah (zz0 (aa rfl) (zz0 (bS rfl rfl) (zz0 (aa rfl) ?_))))
  apply cF
  ·exact (rfl : _ = (3, 16, 19))
  ·exact rfl
  ·intro hF4; have hF4' := hF4
   try simp only [bs] at hF4'
   refine zz5 hF4 (aa rfl) (zz5 hF4 (eU rfl rfl) (zz0 (aK rfl hF4 rfl) ?_))
   refine az (ac ?_)
   exact aA (Sub.cons rfl (zz7 3 rfl))
  ·intro hT4
   refine zz6 hT4 (zz6 hT4 (zz0 (aN rfl hT4 rfl) ?_))
   refine az (ac ?_)
   exact aA (Sub.cons rfl (zz7 3 rfl))
  refine zz0 (ab rfl) (ad ?_)
  refine ao rfl ?_ ?_ <;> intro h5 <;> try simp only [bs] at h5
  ·refine ah (zz0 (aC rfl fX (fun w hw => j5 w)) ?_)
   refine aF bR rfl rfl ak ?_
   refine ad (aD (bv (aB ?_)))
   refine eR eI rfl aO ak (fun w' hw => ?_)
   try rw [hi]
   refine ⟨?_, hw.b0⟩
   (first | unfold jz | unfold ir | unfold f7 iu)
   repeat' (first | rfl | (exfalso; first | (simp_all; done) | grind) | split)
  refine ah (zz0 (zz1 (off := 0) (ft := 4) rfl aw rfl bX) ?_)
  refine zz0 (aH rfl cK) ?_
  refine zz0 (aa rfl) ?_
  apply cF
  ·exact (rfl : _ = (3, 24, 27))
  ·exact rfl
  ·intro hF6; have hF6' := hF6
   try simp only [bs] at hF6'
   refine zz5 hF6 (zz1 (off := 0) (ft := 4) rfl aw rfl bX) ?_
   refine zz5 hF6 (aH rfl cK) ?_
   refine zz0 (aK rfl hF6 rfl) ?_
   refine az (ac ?_)
   exact aA (Sub.cons rfl (zz7 3 rfl))
  ·intro hT6
   refine zz6 hT6 (zz6 hT6 (zz0 (aN rfl hT6 rfl) ?_))
   refine az (ac ?_)
   exact aA (Sub.cons rfl (zz7 3 rfl))
  refine zz0 (ab rfl) (ad ?_)
  refine ao rfl ?_ ?_ <;> intro h7 <;> try simp only [bs] at h7
  ·refine ah (zz0 (aC rfl jp (fun w hw => ka w)) ?_)
   refine aF bR rfl rfl ak ?_
   refine ad (aD (bv (aB ?_)))
   refine eR eI rfl aO ak (fun w' hw => ?_)
   try rw [hi]
   refine ⟨?_, hw.b0⟩
   (first | unfold jz | unfold ir | unfold f7 iu)
   repeat' (first | rfl | (exfalso; first | (simp_all; done) | grind) | split)
  refine ah (zz0 (bE rfl aO ak) ?_)
  refine zz0 (aC rfl Tryz.call324 (fun w hw => rW _ w)) ?_
  refine zz0 (aa rfl) ?_
  apply bV
  ·exact (rfl : _ = (3, 32, 35))
  ·exact rfl
  ·intro hT8; have hT8' := hT8
   try simp only [bs] at hT8'
   refine zz5 hT8 (bE rfl aO ak) ?_
   refine zz5 hT8 (aC rfl Tryz.call324 (fun w hw => rW _ w)) ?_
   refine zz0 (aN rfl hT8 rfl) ?_
   refine az (ac ?_)
   exact aA (Sub.cons rfl (zz7 3 rfl))
  ·intro hF8
   refine zz6 hF8 (zz6 hF8 (zz0 (aK rfl hF8 rfl) ?_))
   refine az (ac ?_)
   exact aA (Sub.cons rfl (zz7 3 rfl))
  refine zz0 (ab rfl) (ad ?_)
  refine ao rfl ?_ ?_ <;> intro h9 <;> try simp only [bs] at h9
  ·refine ah (zz0 (aa rfl) (zz0 (zz1 (off := 2) (ft := 23) rfl aw rfl ae) ?_))
   refine zz0 (aH rfl am) ?_
   refine zz0 (zz1 (off := 2) (ft := 23) rfl aw rfl ae) ?_
   refine zz0 (aH rfl am) ?_
   refine zz0 (aC rfl Tryz.call277 (fun w hw => Bz op (aZ a).lo (aZ b).lo w)) ?_
   refine zz0 (aa rfl) (zz0 (aR rfl rfl) (zz0 (aR rfl rfl) (zz0 (ab rfl) (zz0 (ab rfl) (aL (zz0 (aa rfl) (zz0 (aC rfl iJ (fun w hw => jC _ w)) ?_)))))))
   refine aF bR rfl rfl ak ?_
   refine ad (aD (bv (aB ?_)))
   refine eR eI rfl aO ak (fun w' hw => ?_)
   try rw [hi]
   refine ⟨?_, hw.b0⟩
   (first | unfold jz | unfold ir | unfold f7 iu)
   repeat' (first | rfl | (exfalso; first | (simp_all; done) | grind) | split)
  refine bW (aX (ac ?_))
  refine cw () Front.nil (bA 15 rfl) (o := (by show _ = _; unfold f7 iu; repeat' (first | rfl | (exfalso; first | (simp_all; done) | grind) | split)))
 skip
 replace hi : f7 op a b = ir op (aZ a) (aZ b) := hi
 change Tr _ _ [cellE b3 (bR.enc zeroS) 25, cellE b2 (bR.enc (aZ b)) 25, cellE b1 (bR.enc (aZ a)) 25] ([] ++ _) _
 refine db (ι := Unit) (fun u => f7 op a b = jz op (aZ a) (aZ b)) (fun _ => Bg.of w) (fun u => [cellE b3 (bR.enc zeroS) 25, cellE b2 (bR.enc (aZ b)) 25, cellE b1 (bR.enc (aZ a)) 25]) (fun u => []) ?_ (fun u hi => ?_)
 ·skip
  refine ah (zz0 (aa rfl) (ad (aG (al (ah (zz0 (aY rfl rfl) (zz0 (ab rfl) (ad ?_))))))))
  apply dT
  ·exact rfl
  ·intro hO10
   try simp only [bs] at hO10
   refine ah (zz0 (aY rfl rfl) (zz0 (ab rfl) (ad ?_)))
   apply dT
   ·exact rfl
   ·intro hO11
    try simp only [bs] at hO11
    refine ah (zz0 (aY rfl rfl) (zz0 (ab rfl) (ad ?_)))
    apply dT
    ·exact rfl
    ·intro hO12
     try simp only [bs] at hO12
     refine ar (zz0 (aY rfl rfl) (zz0 (ab rfl) (ad ?_)))
     exact eG rfl (bA 2 rfl)
    refine ac ?_
    exact eG rfl (bA 3 rfl)
   refine ac ?_
   exact eG rfl (bA 3 rfl)
  refine ac ?_
  refine ao rfl ?_ ?_ <;> intro h13 <;> try simp only [bs] at h13
  ·refine ah (zz0 (aC rfl eD (fun w hw => dO 0 1 1 w)) ?_)
   refine aF bR rfl rfl ak ?_
   refine ad (aD (bv (aB ?_)))
   refine eR eI rfl aO ak (fun w' hw => ?_)
   try rw [hi]
   refine ⟨?_, hw.b0⟩
   (first | unfold jz | unfold ir | unfold f7 iu)
   repeat' (first | rfl | (exfalso; first | (simp_all; done) | grind) | split)
  refine ah (zz0 (aY rfl rfl) (zz0 (ab rfl) (ad ?_)))
  refine ao rfl ?_ ?_ <;> intro h14 <;> try simp only [bs] at h14
  ·refine ah (zz0 (zz1 (off := 1) (ft := 4) rfl aw rfl bX) ?_)
   refine zz0 (aH rfl cK) ?_
   refine zz0 (cj rfl) (zz0 (aa rfl) ?_)
   apply bV
   ·exact (rfl : _ = (4, 59, 63))
   ·exact rfl
   ·intro hT15; have hT15' := hT15
    try simp only [bs] at hT15'
    refine zz5 hT15 (zz1 (off := 1) (ft := 4) rfl aw rfl bX) ?_
    refine zz5 hT15 (aH rfl cK) ?_
    refine zz5 hT15 (cj rfl) (zz0 (aN rfl hT15 rfl) ?_)
    refine az (ac ?_)
    exact aA (Sub.cons rfl (zz7 4 rfl))
   ·intro hF15
    refine zz6 hF15 (zz6 hF15 (zz6 hF15 (zz0 (aK rfl hF15 rfl) ?_)))
    refine az (ac ?_)
    exact aA (Sub.cons rfl (zz7 4 rfl))
   refine zz0 (aa rfl) ?_
   apply bV
   ·exact (rfl : _ = (9, 64, 73))
   ·exact rfl
   ·intro hT16; have hT16' := hT16
    try simp only [bs] at hT16'
    refine zz5 hT16 (zz1 (off := 3) (ft := 23) rfl aw rfl ae) ?_
    refine zz5 hT16 (aH rfl am) ?_
    refine zz5 hT16 (eQ rfl aV cH) (zz5 hT16 (zz1 (off := 3) (ft := 23) rfl aw rfl ae) ?_)
    refine zz5 hT16 (aH rfl am) ?_
    refine zz5 hT16 (eQ rfl aV cH) (zz5 hT16 (qe rfl rfl (by omega)) ?_)
    refine zz5 hT16 (fE rfl rfl) (zz0 (aN rfl hT16 rfl) ?_)
    refine az (ac ?_)
    exact aA (Sub.cons rfl (zz7 9 rfl))
   ·intro hF16
    refine zz6 hF16 (zz6 hF16 (zz6 hF16 (zz6 hF16 (zz6 hF16 (zz6 hF16 (zz6 hF16 (zz6 hF16 (zz0 (aK rfl hF16 rfl) ?_))))))))
    refine az (ac ?_)
    exact aA (Sub.cons rfl (zz7 9 rfl))
   refine ad ?_
   refine ao rfl ?_ ?_ <;> intro h17 <;> try simp only [bs] at h17
   ·refine al (fK 0 16 aT ?_)
    refine bH ?_
    refine ax (zz1 (off := 2) (ft := 23) rfl aw rfl ae) ?_
    refine ax (aH rfl am) ?_
    refine ax (zz1 (off := 2) (ft := 23) rfl aw rfl ae) ?_
    refine ax (aH rfl am) ?_
    refine ax (ii rfl rfl) ?_
    refine ax (zz1 (off := 3) (ft := 23) rfl aw rfl ae) ?_
    refine ax (aH rfl am) ?_
    refine ax (zz1 (off := 3) (ft := 23) rfl aw rfl ae) ?_
    refine ax (aH rfl am) ?_
    refine ax (ii rfl rfl) ?_
    refine ax (zz1 (off := 4) (ft := 23) rfl aw rfl ae) ?_
    refine ax (aH rfl am) ?_
    refine ax (zz1 (off := 4) (ft := 23) rfl aw rfl ae) ?_
    refine ax (aH rfl am) ?_
    refine ax (aC rfl ol (fun w hw => yb _ _ w)) ?_
    refine ax (aC rfl eD (fun w hw => dO _ _ _ w)) ?_
    refine bK ?_
    refine aF bR rfl rfl ak ?_
    refine ad (aD (bv (aB ?_)))
    refine eR eI rfl aO ak (fun w' hw => ?_)
    try rw [hi]
    refine ⟨?_, hw.b0⟩
    (first | unfold jz | unfold ir | unfold f7 iu)
    repeat' (first | rfl | (exfalso; first | (simp_all; done) | grind) | split)
   refine bW (aX (ac ?_))
   refine cw () Front.nil (bA 13 rfl) (o := (by show _ = _; rw [hi]; unfold ir; repeat' (first | rfl | (exfalso; first | (simp_all; done) | grind) | split)))
  refine ah (zz0 (aY rfl rfl) (zz0 (ab rfl) (ad ?_)))
  refine ao rfl ?_ ?_ <;> intro h18 <;> try simp only [bs] at h18
  ·refine ah (zz0 (zz1 (off := 1) (ft := 4) rfl aw rfl bX) ?_)
   refine zz0 (aH rfl cK) ?_
   refine zz0 (cj rfl) (zz0 (aa rfl) ?_)
   apply bV
   ·exact (rfl : _ = (4, 95, 99))
   ·exact rfl
   ·intro hT19; have hT19' := hT19
    try simp only [bs] at hT19'
    refine zz5 hT19 (zz1 (off := 1) (ft := 4) rfl aw rfl bX) ?_
    refine zz5 hT19 (aH rfl cK) ?_
    refine zz5 hT19 (cj rfl) (zz0 (aN rfl hT19 rfl) ?_)
    refine az (ac ?_)
    exact aA (Sub.cons rfl (zz7 4 rfl))
   ·intro hF19
    refine zz6 hF19 (zz6 hF19 (zz6 hF19 (zz0 (aK rfl hF19 rfl) ?_)))
    refine az (ac ?_)
    exact aA (Sub.cons rfl (zz7 4 rfl))
   refine zz0 (aa rfl) ?_
   apply bV
   ·exact (rfl : _ = (6, 100, 106))
   ·exact rfl
   ·intro hT20; have hT20' := hT20
    try simp only [bs] at hT20'
    refine zz5 hT20 (zz1 (off := 2) (ft := 23) rfl aw rfl ae) ?_
    refine zz5 hT20 (aH rfl am) ?_
    refine zz5 hT20 (zz1 (off := 3) (ft := 23) rfl aw rfl ae) ?_
    refine zz5 hT20 (aH rfl am) ?_
    refine zz5 hT20 (mc rfl rfl) ?_
    refine zz0 (aN rfl hT20 rfl) ?_
    refine az (ac ?_)
    exact aA (Sub.cons rfl (zz7 6 rfl))
   ·intro hF20
    refine zz6 hF20 (zz6 hF20 (zz6 hF20 (zz6 hF20 (zz6 hF20 (zz0 (aK rfl hF20 rfl) ?_)))))
    refine az (ac ?_)
    exact aA (Sub.cons rfl (zz7 6 rfl))
   refine ad ?_
   refine ao rfl ?_ ?_ <;> intro h21 <;> try simp only [bs] at h21
   ·refine al (fK 0 16 aT ?_)
    refine bH ?_
    refine ax (zz1 (off := 2) (ft := 23) rfl aw rfl ae) ?_
    refine ax (aH rfl am) ?_
    refine ax (zz1 (off := 3) (ft := 23) rfl aw rfl ae) ?_
    refine ax (aH rfl am) ?_
    refine ax (eZ rfl rfl) ?_
    refine ax (zz1 (off := 3) (ft := 23) rfl aw rfl ae) ?_
    refine ax (aH rfl am) ?_
    refine ax (zz1 (off := 2) (ft := 23) rfl aw rfl ae) ?_
    refine ax (aH rfl am) ?_
    refine ax (eZ rfl rfl) ?_
    refine ax (zz1 (off := 4) (ft := 23) rfl aw rfl ae) ?_
    refine ax (aH rfl am) ?_
    refine ax (zz1 (off := 4) (ft := 23) rfl aw rfl ae) ?_
    refine ax (aH rfl am) ?_
    refine ax (aC rfl ol (fun w hw => yb _ _ w)) ?_
    refine ax (aC rfl eD (fun w hw => dO _ _ _ w)) ?_
    refine bK ?_
    refine aF bR rfl rfl ak ?_
    refine ad (aD (bv (aB ?_)))
    refine eR eI rfl aO ak (fun w' hw => ?_)
    try rw [hi]
    refine ⟨?_, hw.b0⟩
    (first | unfold jz | unfold ir | unfold f7 iu)
    repeat' (first | rfl | (exfalso; first | (simp_all; done) | grind) | split)
   refine bW (aX (ac ?_))
   refine cw () Front.nil (bA 15 rfl) (o := (by show _ = _; rw [hi]; unfold ir; repeat' (first | rfl | (exfalso; first | (simp_all; done) | grind) | split)))
  refine bW (aX (ac ?_))
  refine cw () Front.nil (bA 8 rfl) (o := (by show _ = _; rw [hi]; unfold ir; repeat' (first | rfl | (exfalso; first | (simp_all; done) | grind) | split)))
 skip
 replace hi : f7 op a b = jz op (aZ a) (aZ b) := hi
 change Tr _ _ [cellE b3 (bR.enc zeroS) 25, cellE b2 (bR.enc (aZ b)) 25, cellE b1 (bR.enc (aZ a)) 25] ([] ++ _) _
 refine al (ah (zz0 (bE rfl aO ak) ?_))
 refine zz0 (aC rfl Tryz.call324 (fun w hw => rW _ w)) ?_
 refine zz0 (cj rfl) (ad ?_)
 refine ao rfl ?_ ?_ <;> intro h22 <;> try simp only [bs] at h22
 ·refine ah (zz0 (aC rfl fX (fun w hw => j5 w)) ?_)
  refine aF bR rfl rfl ak ?_
  refine ad (aD (aB ?_))
  refine eR eI rfl aO ak (fun w' hw => ?_)
  try rw [hi]
  refine ⟨?_, hw.b0⟩
  (first | unfold jz | unfold ir | unfold f7 iu)
  repeat' (first | rfl | (exfalso; first | (simp_all; done) | grind) | split)
 refine bB (al (ah (zz0 (aa rfl) (ad (aG (ah (zz0 (aY rfl rfl) (zz0 (ab rfl) (az ?_)))))))))
 refine ac ?_
 refine ao rfl ?_ ?_ <;> intro h23 <;> try simp only [bs] at h23
 ·refine ah (zz0 (bE rfl aO ak) ?_)
  refine zz0 (zz1 (off := 2) (ft := 23) rfl aw rfl ae) ?_
  refine zz0 (aH rfl am) ?_
  refine zz0 (aC rfl Tryz.call325 (fun w hw => wj _ _ w)) ?_
  refine aF bR rfl rfl ak ?_
  refine ad (aD (bv (aB ?_)))
  refine eR eI rfl aO ak (fun w' hw => ?_)
  try rw [hi]
  refine ⟨?_, hw.b0⟩
  (first | unfold jz | unfold ir | unfold f7 iu)
  repeat' (first | rfl | (exfalso; first | (simp_all; done) | grind) | split)
 refine ah (zz0 (aY rfl rfl) (zz0 (ab rfl) (ad ?_)))
 refine ao rfl ?_ ?_ <;> intro h24 <;> try simp only [bs] at h24
 ·refine al (fK 0 5 aT ?_)
  refine bH ?_
  refine ax (bE rfl aO ak) ?_
  refine ax (zz1 (off := 2) (ft := 23) rfl aw rfl ae) ?_
  refine ax (aH rfl am) ?_
  refine ax (aC rfl Tryz.call306 (fun w hw => za 1 _ w)) ?_
  refine ax (aC rfl Tryz.call325 (fun w hw => wj _ _ w)) ?_
  refine bK ?_
  refine aF bR rfl rfl ak ?_
  refine ad (aD (bv (aB ?_)))
  refine eR eI rfl aO ak (fun w' hw => ?_)
  try rw [hi]
  refine ⟨?_, hw.b0⟩
  (first | unfold jz | unfold ir | unfold f7 iu)
  repeat' (first | rfl | (exfalso; first | (simp_all; done) | grind) | split)
 refine ah (zz0 (aY rfl rfl) (zz0 (ab rfl) (ad ?_)))
 refine ao rfl ?_ ?_ <;> intro h25 <;> try simp only [bs] at h25
 ·refine ah (zz0 (bE rfl aO ak) ?_)
  refine zz0 (zz1 (off := 2) (ft := 23) rfl aw rfl ae) ?_
  refine zz0 (aH rfl am) ?_
  refine zz0 (aC rfl Tryz.call326 (fun w hw => Dp _ _ w)) ?_
  refine aF bR rfl rfl ak ?_
  refine ad (aD (bv (aB ?_)))
  refine eR eI rfl aO ak (fun w' hw => ?_)
  try rw [hi]
  refine ⟨?_, hw.b0⟩
  (first | unfold jz | unfold ir | unfold f7 iu)
  repeat' (first | rfl | (exfalso; first | (simp_all; done) | grind) | split)
 refine ah (zz0 (aY rfl rfl) (zz0 (ab rfl) (ad ?_)))
 refine ao rfl ?_ ?_ <;> intro h26 <;> try simp only [bs] at h26
 ·refine ah (zz0 (zz1 (off := 1) (ft := 4) rfl aw rfl bX) ?_)
  refine zz0 (aH rfl cK) ?_
  refine zz0 (cj rfl) (ad ?_)
  refine ao rfl ?_ ?_ <;> intro h27 <;> try simp only [bs] at h27
  ·refine al (fK 0 11 aT ?_)
   refine bH ?_
   refine ax (zz1 (off := 2) (ft := 23) rfl aw rfl ae) ?_
   refine ax (aH rfl am) ?_
   refine ax (zz1 (off := 2) (ft := 23) rfl aw rfl ae) ?_
   refine ax (aH rfl am) ?_
   refine ax (aC rfl Tryz.call307 (fun w hw => uo _ _ w)) ?_
   refine ax (zz1 (off := 3) (ft := 23) rfl aw rfl ae) ?_
   refine ax (aH rfl am) ?_
   refine ax (zz1 (off := 2) (ft := 23) rfl aw rfl ae) ?_
   refine ax (aH rfl am) ?_
   refine ax (aC rfl Tryz.call307 (fun w hw => uo _ _ w)) ?_
   refine ax (aC rfl eD (fun w hw => dO (qY (aZ a).lo (oQ (aZ b).lo)) (qY (aZ a).hi (oQ (aZ b).lo)) 1 w)) ?_
   refine bK ?_
   refine aF bR rfl rfl ak ?_
   refine ad (aD (bv (aB ?_)))
   refine eR eI rfl aO ak (fun w' hw => ?_)
   try rw [hi]
   refine ⟨?_, hw.b0⟩
   (first | unfold jz | unfold ir | unfold f7 iu)
   repeat' (first | rfl | (exfalso; first | (simp_all; done) | grind) | split)
  refine bW (aX (ac (ah (zz0 (aC rfl fX (fun w hw => j5 w)) ?_))))
  refine aF bR rfl rfl ak ?_
  refine ad (aD ?_)
  refine eR eI rfl aO ak (fun w' hw => ?_)
  try rw [hi]
  refine ⟨?_, hw.b0⟩
  (first | unfold jz | unfold ir | unfold f7 iu)
  repeat' (first | rfl | (exfalso; first | (simp_all; done) | grind) | split)
 refine bW (aX (ac (ah (zz0 (aC rfl fX (fun w hw => j5 w)) ?_))))
 refine aF bR rfl rfl ak ?_
 refine ad (aD ?_)
 refine eR eI rfl aO ak (fun w' hw => ?_)
 try rw [hi]
 refine ⟨?_, hw.b0⟩
 (first | unfold jz | unfold ir | unfold f7 iu)
 repeat' (first | rfl | (exfalso; first | (simp_all; done) | grind) | split)
theorem ri (a b : VSet) (w : World) :
  Cr Tryz.prog 300 #[.agg (bR.enc a).toArray, .agg (bR.enc b).toArray] w (.agg (bR.enc (lQ a b)).toArray) := by
 refine enter Tryz.func300 rfl Tryz.ntmps300 rfl ?_
 refine ah ?_
 refine dE rfl rfl (fun b1 => ?_)
 refine dE rfl rfl (fun b2 => ?_)
 refine dA cM rfl (fun b3 => ?_)
 refine ad (al (fK 0 4 aT ?_))
 refine bH ?_
 refine ax (bE rfl aO ak) ?_
 refine ax (aC rfl gn (fun w hw => g8 a w)) ?_
 refine ax (bE rfl aO ak) ?_
 refine ax (aC rfl gn (fun w hw => g8 b w)) ?_
 refine bK ?_
 refine aF bR rfl rfl ak ?_
 refine aF bR rfl rfl ak ?_
 refine ad (al (aG (ah (zz0 (zz1 (off := 1) (ft := 4) rfl aw rfl bX) ?_))))
 refine zz0 (aH rfl cK) ?_
 refine zz0 (ab rfl) (ad ?_)
 refine ao rfl ?_ ?_ <;> intro h4 <;> try simp only [bs] at h4
 ·refine ah (zz0 (bE rfl aO ak) ?_)
  refine aF bR rfl rfl ak ?_
  refine ad (aD (bv (aB ?_)))
  refine eR jF rfl aO ak (fun w' hw => ?_)
  try rw [hme]
  refine ⟨?_, hw.b0⟩
  (first | unfold rj wv | unfold lQ pd)
  repeat' (first | rfl | (exfalso; first | (simp_all; done) | grind) | split)
 refine ah (zz0 (zz1 (off := 1) (ft := 4) rfl aw rfl bX) ?_)
 refine zz0 (aH rfl cK) ?_
 refine zz0 (ab rfl) (ad ?_)
 refine ao rfl ?_ ?_ <;> intro h5 <;> try simp only [bs] at h5
 ·refine ah (zz0 (bE rfl aO ak) ?_)
  refine aF bR rfl rfl ak ?_
  refine ad (aD (bv (aB ?_)))
  refine eR jF rfl aO ak (fun w' hw => ?_)
  try rw [hme]
  refine ⟨?_, hw.b0⟩
  (first | unfold rj wv | unfold lQ pd)
  repeat' (first | rfl | (exfalso; first | (simp_all; done) | grind) | split)
 refine bW (aX (ac ?_))
 refine db (ι := Nat × Nat) (fun ⟨p, q⟩ => True) (fun _ => Bg.of w) (fun ⟨p, q⟩ => [cellE q (bR.enc (aZ b)) 25, cellE p (bR.enc (aZ a)) 25, cellE b3 (bR.enc zeroS) 25, cellE b2 (bR.enc (aZ b)) 25, cellE b1 (bR.enc (aZ a)) 25]) (fun ⟨p, q⟩ => [(6, .pointer (some ⟨q, 0, none⟩)), (5, .pointer (some ⟨p, 0, none⟩))]) ?_ (fun i hi => ?_)
 ·skip
  refine dG ([cellE b3 (bR.enc zeroS) 25, cellE b2 (bR.enc (aZ b)) 25, cellE b1 (bR.enc (aZ a)) 25]) 6 rfl aT ?_
  refine zz3 0 rfl (bE rfl aO ak) ?_
  refine zz3 1 rfl (bE rfl aO ak) ?_
  refine dh [2, 3] (fun iq hq => ?_)
  rcases List.mem_cons.1 hq with rfl | hq
  ·skip
   refine bD rfl ?_
   refine dA cM rfl (fun b6 => ?_)
   refine bU ?_
   refine dh [3] (fun iq hq => ?_)
   obtain rfl := List.mem_singleton.1 hq
   refine bD rfl ?_
   refine dA cM rfl (fun b7 => ?_)
   refine bU ?_
   refine dh [4] (fun iq hq => ?_)
   obtain rfl := List.mem_singleton.1 hq
   refine bD rfl ?_
   refine aF bR rfl rfl ak ?_
   refine bU ?_
   refine dh [5] (fun iq hq => ?_)
   obtain rfl := List.mem_singleton.1 hq
   refine bD rfl ?_
   refine aF bR rfl rfl ak ?_
   refine bU ?_
   refine gI ?_
   refine ac ?_
   refine cw (_, _) (Front.c (Front.c Front.nil)) (bA 4 rfl) (o := trivial)
  obtain rfl := List.mem_singleton.1 hq
  refine bD rfl ?_
  refine dA cM rfl (fun b8 => ?_)
  refine bU ?_
  refine dh [2] (fun iq hq => ?_)
  obtain rfl := List.mem_singleton.1 hq
  refine bD rfl ?_
  refine dA cM rfl (fun b9 => ?_)
  refine bU ?_
  refine dh [4] (fun iq hq => ?_)
  obtain rfl := List.mem_singleton.1 hq
  refine bD rfl ?_
  refine aF bR rfl rfl ak ?_
  refine bU ?_
  refine dh [5] (fun iq hq => ?_)
  obtain rfl := List.mem_singleton.1 hq
  refine bD rfl ?_
  refine aF bR rfl rfl ak ?_
  refine bU ?_
  refine gI ?_
  refine ac ?_
  refine cw (_, _) (Front.c (Front.c Front.nil)) (bA 4 rfl) (o := trivial)
 obtain ⟨p, q⟩ := i
 replace hi : True := hi
 change Tr _ _ [cellE q (bR.enc (aZ b)) 25, cellE p (bR.enc (aZ a)) 25, cellE b3 (bR.enc zeroS) 25, cellE b2 (bR.enc (aZ b)) 25, cellE b1 (bR.enc (aZ a)) 25] ([(6, .pointer (some ⟨q, 0, none⟩)), (5, .pointer (some ⟨p, 0, none⟩))] ++ _) _
 refine db (ι := VSet × VSet) (fun ⟨fe, ot⟩ => (aZ a).top = false ∧ lQ a b = rj (aZ a) (aZ b) fe ot ∧ (64 < fx (aZ a) ∨ fe = aZ a)) (fun _ => Bg.of w) (fun ⟨fe, ot⟩ => [cellE q (bR.enc ot) 25, cellE p (bR.enc fe) 25, cellE b3 (bR.enc zeroS) 25, cellE b2 (bR.enc (aZ b)) 25, cellE b1 (bR.enc (aZ a)) 25]) (fun ⟨fe, ot⟩ => []) ?_ (fun i hi => ?_)
 ·skip
  refine ah (zz0 (bE rfl aO ak) ?_)
  refine zz0 (aC rfl Tryz.call100 (fun w hw => Aa _ w)) ?_
  refine zz0 (eU rfl rfl) (ad ?_)
  refine ao rfl ?_ ?_ <;> intro h10 <;> try simp only [bs] at h10
  ·refine dG ([cellE b3 (bR.enc zeroS) 25, cellE b2 (bR.enc (aZ b)) 25, cellE b1 (bR.enc (aZ a)) 25]) 4 rfl aT ?_
   refine zz3 0 rfl (bE rfl aO ak) ?_
   refine zz3 1 rfl (bE rfl aO ak) ?_
   refine dh [2] (fun iq hq => ?_)
   obtain rfl := List.mem_singleton.1 hq
   refine bD rfl ?_
   refine aF bR rfl rfl ak ?_
   refine bU ?_
   refine dh [3] (fun iq hq => ?_)
   obtain rfl := List.mem_singleton.1 hq
   refine bD rfl ?_
   refine aF bR rfl rfl ak ?_
   refine bU ?_
   refine gI ?_
   refine ac ?_
   refine cw (aZ b, aZ a) Front.nil (bA 5 rfl) (o := ⟨by simp_all, by unfold lQ pd; (repeat' (first | rfl | (exfalso; first | (simp_all; done) | grind) | split)), .inl (by assumption)⟩)
  refine bB ?_
  refine cw (aZ a, aZ b) Front.nil (bA 3 rfl) (o := ⟨by simp_all, by unfold lQ pd; (repeat' (first | rfl | (exfalso; first | (simp_all; done) | grind) | split)), .inr rfl⟩)
 obtain ⟨fe, ot⟩ := i
 replace hi : (aZ a).top = false ∧ lQ a b = rj (aZ a) (aZ b) fe ot ∧ (64 < fx (aZ a) ∨ fe = aZ a) := hi
 change Tr _ _ [cellE q (bR.enc ot) 25, cellE p (bR.enc fe) 25, cellE b3 (bR.enc zeroS) 25, cellE b2 (bR.enc (aZ b)) 25, cellE b1 (bR.enc (aZ a)) 25] ([] ++ _) _
 obtain ⟨hat, hme, hfe⟩ := hi
 refine al (ah (zz0 (bE rfl aO ak) ?_))
 refine im (fun V => .tuple #[V, .int .i64 (ff fe).2]) rfl Tryz.call41 (fun w hw => s8 fe w) rfl (fun VE => ?_)
 refine zz0 (aa rfl) (zz0 (aR rfl rfl) (zz0 (aR rfl rfl) (zz0 (ab rfl) (zz0 (ab rfl) (ad (al ?_))))))
 have hel : (ff fe).2 = 0 → (ff fe).1.length ≤ 64 := wO
 refine ar (zz0 (aa rfl) (zz0 (aY rfl rfl) (ad ?_)))
 refine ao rfl ?_ ?_ <;> intro h11 <;> try simp only [bs] at h11
 ·refine ah (zz0 (aC rfl jp (fun w hw => ka w)) ?_)
  refine dA cM rfl (fun b12 => ?_)
  refine aF bR rfl rfl ak ?_
  refine ad (al (al ?_))
  have hel2 := hel (by assumption)
  refine ar (zz0 (aa rfl) (zz0 (mg rfl aj) ?_))
  refine zz0 (aa rfl) (ad (aG ?_))
  refine bN (ι := Nat) (fun k => k ≤ (ff fe).1.length) (fun _ => _) (fun k => [cellE b12 (bR.enc (mm ot ((ff fe).1.take k) emptyS)) 25, rowE VE 23 an (ff fe).1, cellE q (bR.enc ot) 25, cellE p (bR.enc fe) 25, cellE b3 (bR.enc zeroS) 25, cellE b2 (bR.enc (aZ b)) 25, cellE b1 (bR.enc (aZ a)) 25]) (fun k => [(44, .int .i64 (k : Nat))]) (fun k => (ff fe).1.length - k) 0 (Nat.zero_le _) (Front.c Front.nil) (by repeat' constructor) rfl (fun k hi m hm => ?_)
  replace hi : k ≤ (ff fe).1.length := hi
  replace hm : m = (ff fe).1.length - k := hm
  change Tr _ _ [cellE b12 (bR.enc (mm ot ((ff fe).1.take k) emptyS)) 25, rowE VE 23 an (ff fe).1, cellE q (bR.enc ot) 25, cellE p (bR.enc fe) 25, cellE b3 (bR.enc zeroS) 25, cellE b2 (bR.enc (aZ b)) 25, cellE b1 (bR.enc (aZ a)) 25] ([(44, .int .i64 (k : Nat))] ++ _) _
  refine ah (zz0 (bS rfl rfl) (ad (al ?_)))
  refine ao rfl ?_ ?_ <;> intro h13 <;> try simp only [bs] at h13
  ·refine bB (al (aG (ah (zz0 (dm rfl rfl aj ae) ?_))))
   refine zz0 (er rfl am) ?_
   refine zz0 (ab rfl) (aL (zz0 (bE rfl aO ak) ?_))
   refine zz0 (aa rfl) (zz0 (aC rfl qc (fun w hw => mz ot _ w)) ?_)
   refine ad ?_
   refine ao rfl ?_ ?_ <;> intro h14 <;> try simp only [bs] at h14
   ·refine fK 0 4 aT ?_
    refine bH ?_
    refine ax (bE rfl aO ak) ?_
    refine ax (aa rfl) (ax (aC rfl iJ (fun w hw => jC _ w)) ?_)
    refine ax (aC rfl Tryz.call166 (fun w hw => xT _ _ w)) ?_
    refine bK ?_
    refine aF bR rfl rfl ak ?_
    refine az (aX (ac (ar (zz0 (cx rfl rfl) ?_))))
    refine zz0 (aa rfl) (ad ?_)
    rw [EY (by omega) (by assumption)]
    refine cC (k + 1) (Front.c Front.nil) (bA 14 rfl) (o := (by show k + 1 ≤ _; omega))
   refine bW (aX (ac (ar (zz0 (cx rfl rfl) ?_))))
   refine zz0 (aa rfl) (ad ?_)
   rw [GV (o := ot) (k := k) (by omega) (by assumption)]
   refine cC (k + 1) (Front.c Front.nil) (bA 10 rfl) (o := (by show k + 1 ≤ _; omega))
  refine bG (aJ (aJ (bj (ac (al ?_)))))
  obtain rfl : k = (ff fe).1.length := by omega
  rw [List.take_length]
  refine ar (zz0 (bE rfl aO ak) ?_)
  refine aF bR rfl rfl ak ?_
  refine ad (aD (aB ?_))
  refine eR jF rfl aO ak (fun w' hw => ?_)
  try rw [hme]
  refine ⟨?_, hw.b0⟩
  (first | unfold rj wv | unfold lQ pd)
  repeat' (first | rfl | (exfalso; first | (simp_all; done) | grind) | split)
 refine bB (al ?_)
 have hst0 : (aZ a).st ≠ 0 := Im (jW a) (hfe.elim id (fun e => e ▸ FA (by assumption))) hat
 have hfb := G1 (aZ a) (lq (aZ a).lo (aZ b).lo) hst0
 have hz1 := uH hst0
 have hz2 := (aZ a).st.toNat_lt
 have hz3 := (lq (aZ a).lo (aZ b).lo - (aZ a).lo).toNat_lt
 have hz4 := (aZ a).lo.toNat_lt
 refine gZ aT ?_
 refine ax (zz1 (off := 2) (ft := 23) rfl aw rfl ae) ?_
 refine ax (aH rfl am) ?_
 refine ax (zz1 (off := 2) (ft := 23) rfl aw rfl ae) ?_
 refine ax (aH rfl am) ?_
 refine ax (pL rfl rfl) ?_
 refine ax (zz1 (off := 3) (ft := 23) rfl aw rfl ae) ?_
 refine ax (aH rfl am) ?_
 refine ax (zz1 (off := 3) (ft := 23) rfl aw rfl ae) ?_
 refine ax (aH rfl am) ?_
 refine ax (pK rfl rfl) ?_
 refine ax (ab rfl) (ax (ab rfl) (bK ?_))
 refine ac (al ?_)
 simp only [o9, pf]
 refine gZ aT ?_
 refine ax (zz1 (off := 2) (ft := 23) rfl aw rfl ae) ?_
 refine ax (aH rfl am) ?_
 refine ax (eQ rfl aV cH) (ax (aa rfl) (ax (zz1 (off := 2) (ft := 23) rfl aw rfl ae) ?_))
 refine ax (aH rfl am) ?_
 refine ax (eZ rfl rfl) ?_
 refine ax (eQ rfl aV cH) (ax (zz1 (off := 4) (ft := 23) rfl aw rfl ae) ?_)
 refine ax (aH rfl am) ?_
 refine ax (eQ rfl aV cH) (ax (qe rfl rfl (by omega)) ?_)
 refine ax (Cy rfl rfl (by omega)) ?_
 refine ax (zz1 (off := 4) (ft := 23) rfl aw rfl ae) ?_
 refine ax (aH rfl am) ?_
 refine ax (eQ rfl aV cH) (ax (HB rfl rfl (by omega)) ?_)
 refine ax (zz1 (off := 4) (ft := 23) rfl aw rfl ae) ?_
 refine ax (aH rfl am) ?_
 refine ax (eQ rfl aV cH) (ax (CE rfl rfl (by omega)) ?_)
 refine ax (qe rfl rfl (by omega)) ?_
 refine ax (ab rfl) (bK ?_)
 refine ac (al (al ?_))
 have hfe1 : (aZ a).lo.toNat + (((lq (aZ a).lo (aZ b).lo - (aZ a).lo).toNat : Int) + (aZ a).st.toNat - 1) / ((aZ a).st.toNat : Int) * (aZ a).st.toNat = sy (aZ a) (lq (aZ a).lo (aZ b).lo) := rfl
 rw [hfe1]
 refine ar (zz0 (aa rfl) (zz0 (aa rfl) (zz0 (eQ rfl aV cH) (zz0 (eU rfl rfl) (ad ?_)))))
 refine ao rfl ?_ ?_ <;> intro h15 <;> try simp only [bs] at h15
 ·refine ah (zz0 (aC rfl jp (fun w hw => ka w)) ?_)
  refine aF bR rfl rfl ak ?_
  refine ad (aD (aB ?_))
  refine eR jF rfl aO ak (fun w' hw => ?_)
  try rw [hme]
  refine ⟨?_, hw.b0⟩
  (first | unfold rj wv | unfold lQ pd)
  repeat' (first | rfl | (exfalso; first | (simp_all; done) | grind) | split)
 refine df (zz0 (aa rfl) (zz0 (iw rfl cH aV) (zz0 (aa rfl) (zz0 (zz1 (off := 4) (ft := 23) rfl aw rfl ae) ?_))))
 refine zz0 (aH rfl am) ?_
 refine zz0 (aC rfl eD (fun w hw => dO _ _ _ w)) ?_
 refine aF bR rfl rfl ak ?_
 refine ad (aD ?_)
 refine eR jF rfl aO ak (fun w' hw => ?_)
 try rw [hme]
 refine ⟨?_, hw.b0⟩
 (first | unfold rj wv | unfold lQ pd)
 repeat' (first | rfl | (exfalso; first | (simp_all; done) | grind) | split)
theorem Eb (a b : VSet) (w : World) :
  Cr Tryz.prog 227 #[.agg (bR.enc a).toArray, .agg (bR.enc b).toArray] w (.agg (bR.enc (lL a b)).toArray) := by
 refine enter Tryz.func227 rfl Tryz.ntmps227 rfl ?_
 refine ah ?_
 refine dE rfl rfl (fun b1 => ?_)
 refine dE rfl rfl (fun b2 => ?_)
 refine dA cM rfl (fun b3 => ?_)
 refine ad (al (fK 0 4 aT ?_))
 refine bH ?_
 refine ax (bE rfl aO ak) ?_
 refine ax (aC rfl gn (fun w hw => g8 a w)) ?_
 refine ax (bE rfl aO ak) ?_
 refine ax (aC rfl gn (fun w hw => g8 b w)) ?_
 refine bK ?_
 refine aF bR rfl rfl ak ?_
 refine aF bR rfl rfl ak ?_
 refine ad (al (aG (ah (zz0 (bE rfl aO ak) ?_))))
 refine zz0 (bE rfl aO ak) ?_
 refine zz0 (aC rfl Tryz.call271 (fun w hw => CO _ _ w)) ?_
 refine zz0 (ab rfl) (ad ?_)
 refine ao rfl ?_ ?_ <;> intro h4 <;> try simp only [bs] at h4
 ·refine ah (zz0 (bE rfl aO ak) ?_)
  refine aF bR rfl rfl ak ?_
  refine ad (aD (bv (aB ?_)))
  refine eR gh rfl aO ak (fun w' hw => ?_)
  refine ⟨?_, hw.b0⟩
  unfold lL ll nN
  repeat' (first | rfl | (exfalso; first | (simp_all; done) | grind) | split)
 refine ah (zz0 (zz1 (off := 0) (ft := 4) rfl aw rfl bX) ?_)
 refine zz0 (aH rfl cK) ?_
 refine zz0 (ab rfl) (ad ?_)
 refine ao rfl ?_ ?_ <;> intro h5 <;> try simp only [bs] at h5
 ·refine ah (zz0 (bE rfl aO ak) ?_)
  refine aF bR rfl rfl ak ?_
  refine ad (aD (bv (aB ?_)))
  refine eR gh rfl aO ak (fun w' hw => ?_)
  refine ⟨?_, hw.b0⟩
  unfold lL ll nN
  repeat' (first | rfl | (exfalso; first | (simp_all; done) | grind) | split)
 refine ah (zz0 (zz1 (off := 1) (ft := 4) rfl aw rfl bX) ?_)
 refine zz0 (aH rfl cK) ?_
 refine zz0 (aa rfl) ?_
 apply cF
 ·exact (rfl : _ = (3, 24, 27))
 ·exact rfl
 ·intro hF6; have hF6' := hF6
  try simp only [bs] at hF6'
  refine zz5 hF6 (zz1 (off := 1) (ft := 4) rfl aw rfl bX) ?_
  refine zz5 hF6 (aH rfl cK) ?_
  refine zz0 (aK rfl hF6 rfl) ?_
  refine az (ac ?_)
  exact aA (Sub.cons rfl (zz7 3 rfl))
 ·intro hT6
  refine zz6 hT6 (zz6 hT6 (zz0 (aN rfl hT6 rfl) ?_))
  refine az (ac ?_)
  exact aA (Sub.cons rfl (zz7 3 rfl))
 refine zz0 (ab rfl) (ad ?_)
 refine ao rfl ?_ ?_ <;> intro h7 <;> try simp only [bs] at h7
 ·refine ah (zz0 (aC rfl fX (fun w hw => j5 w)) ?_)
  refine aF bR rfl rfl ak ?_
  refine ad (aD (bv (aB ?_)))
  refine eR gh rfl aO ak (fun w' hw => ?_)
  refine ⟨?_, hw.b0⟩
  unfold lL ll nN
  repeat' (first | rfl | (exfalso; first | (simp_all; done) | grind) | split)
 refine bW (aX (ac (ah (zz0 (bE rfl aO ak) ?_))))
 refine zz0 (bE rfl aO ak) ?_
 refine zz0 (aC rfl Tryz.call166 (fun w hw => xT _ _ w)) ?_
 refine dA cM rfl (fun b8 => ?_)
 refine aF bR rfl rfl ak ?_
 refine ad (al (ah (zz0 (zz1 (off := 1) (ft := 4) rfl aw rfl bX) ?_)))
 refine zz0 (aH rfl cK) ?_
 refine ad ?_
 refine ao rfl ?_ ?_ <;> intro h9 <;> try simp only [bs] at h9
 ·refine ah (zz0 (bE rfl aO ak) ?_)
  refine aF bR rfl rfl ak ?_
  refine ad (aD (aB ?_))
  refine eR gh rfl aO ak (fun w' hw => ?_)
  refine ⟨?_, hw.b0⟩
  unfold lL ll nN
  repeat' (first | rfl | (exfalso; first | (simp_all; done) | grind) | split)
 refine bB (al (gZ aT ?_))
 refine ax (zz1 (off := 2) (ft := 23) rfl aw rfl ae) ?_
 refine ax (aH rfl am) ?_
 refine ax (zz1 (off := 3) (ft := 23) rfl aw rfl ae) ?_
 refine ax (aH rfl am) ?_
 refine ax (ab rfl) (ax (ab rfl) (bK ?_))
 refine ac (al (ah (zz0 (aa rfl) (zz0 (zz1 (off := 2) (ft := 23) rfl aw rfl ae) ?_))))
 refine zz0 (aH rfl am) ?_
 refine zz0 (iF rfl rfl) ?_
 refine ad ?_
 refine ao rfl ?_ ?_ <;> intro h10 <;> try simp only [bs] at h10
 ·have hst0 := Ec (by assumption) (by assumption) (by simp_all) (by simp_all) (by assumption) (by assumption)
  refine ar (zz0 (aa rfl) (zz0 (zz1 (off := 4) (ft := 23) rfl aw rfl ae) ?_))
  refine zz0 (aH rfl am) ?_
  refine zz0 (nC rfl rfl (by first | decide | assumption)) ?_
  refine zz0 (ab rfl) (ad (al (ah (zz0 (aa rfl) (zz0 (zz1 (off := 3) (ft := 23) rfl aw rfl ae) ?_)))))
  refine zz0 (aH rfl am) ?_
  refine zz0 (kU rfl rfl) ?_
  refine ad ?_
  refine ao rfl ?_ ?_ <;> intro h11 <;> try simp only [bs] at h11
  ·refine ar (zz0 (ab rfl) (aL (zz0 (aa rfl) (zz0 (aa rfl) (zz0 (zz1 (off := 4) (ft := 23) rfl aw rfl ae) ?_)))))
   refine zz0 (aH rfl am) ?_
   refine zz0 (aC rfl eD (fun w hw => dO ((gK (aZ a) (aZ b)).lo % (gK (aZ a) (aZ b)).st) 4294967295 (gK (aZ a) (aZ b)).st w)) ?_
   refine aF bR rfl rfl ak ?_
   refine ad (aD ?_)
   refine eR gh rfl aO ak (fun w' hw => ?_)
   refine ⟨?_, hw.b0⟩
   unfold lL ll nN
   repeat' (first | rfl | (exfalso; first | (simp_all; done) | grind) | split)
  refine df (zz0 (aa rfl) (zz0 (aa rfl) (zz0 (zz1 (off := 4) (ft := 23) rfl aw rfl ae) ?_)))
  refine zz0 (aH rfl am) ?_
  refine zz0 (aC rfl eD (fun w hw => dO ((gK (aZ a) (aZ b)).lo % (gK (aZ a) (aZ b)).st) (gK (aZ a) (aZ b)).hi (gK (aZ a) (aZ b)).st w)) ?_
  refine aF bR rfl rfl ak ?_
  refine ad (aD ?_)
  refine eR gh rfl aO ak (fun w' hw => ?_)
  refine ⟨?_, hw.b0⟩
  unfold lL ll nN
  repeat' (first | rfl | (exfalso; first | (simp_all; done) | grind) | split)
 refine bB (al (ah (zz0 (aa rfl) (zz0 (zz1 (off := 3) (ft := 23) rfl aw rfl ae) ?_))))
 refine zz0 (aH rfl am) ?_
 refine zz0 (kU rfl rfl) ?_
 refine ad ?_
 refine ao rfl ?_ ?_ <;> intro h12 <;> try simp only [bs] at h12
 ·refine ar (zz0 (ab rfl) (aL (zz0 (aa rfl) (zz0 (aa rfl) (zz0 (zz1 (off := 4) (ft := 23) rfl aw rfl ae) ?_)))))
  refine zz0 (aH rfl am) ?_
  refine zz0 (aC rfl eD (fun w hw => dO (gK (aZ a) (aZ b)).lo 4294967295 (gK (aZ a) (aZ b)).st w)) ?_
  refine aF bR rfl rfl ak ?_
  refine ad (aD ?_)
  refine eR gh rfl aO ak (fun w' hw => ?_)
  refine ⟨?_, hw.b0⟩
  unfold lL ll nN
  repeat' (first | rfl | (exfalso; first | (simp_all; done) | grind) | split)
 refine df (zz0 (aa rfl) (zz0 (aa rfl) (zz0 (zz1 (off := 4) (ft := 23) rfl aw rfl ae) ?_)))
 refine zz0 (aH rfl am) ?_
 refine zz0 (aC rfl eD (fun w hw => dO (gK (aZ a) (aZ b)).lo (gK (aZ a) (aZ b)).hi (gK (aZ a) (aZ b)).st w)) ?_
 refine aF bR rfl rfl ak ?_
 refine ad (aD ?_)
 refine eR gh rfl aO ak (fun w' hw => ?_)
 refine ⟨?_, hw.b0⟩
 unfold lL ll nN
 repeat' (first | rfl | (exfalso; first | (simp_all; done) | grind) | split)
end Go.Proofs.YtiajjbhcpeadfaaGreat
namespace Go.HL
open Go
structure StV where
 r0 : VSet
 r1 : VSet
 r2 : VSet
 r3 : VSet
 r4 : VSet
 r5 : VSet
 r6 : VSet
 r7 : VSet
 deriving DecidableEq, Inhabited
def StV.l (s : StV) : List VSet := [s.r0, s.r1, s.r2, s.r3, s.r4, s.r5, s.r6, s.r7]
def gu : StV := ⟨zeroS, zeroS, zeroS, zeroS, zeroS, zeroS, zeroS, zeroS⟩
def cL : Enc StV := ⟨40, fun s => s.l.flatMap bR.enc, fun s => rfl, fun s v h => by
 obtain ⟨x, _, hx⟩ := List.mem_flatMap.1 h
 exact bR.one x v hx⟩
def StV.getN (s : StV) : Nat → VSet
 | 0 => s.r0
 | 1 => s.r1
 | 2 => s.r2
 | 3 => s.r3
 | 4 => s.r4
 | 5 => s.r5
 | 6 => s.r6
 | 7 => s.r7
 | _ => zeroS
def StV.setN (s : StV) (v : VSet) : Nat → StV
 | 0 => { s with r0 := v }
 | 1 => { s with r1 := v }
 | 2 => { s with r2 := v }
 | 3 => { s with r3 := v }
 | 4 => { s with r4 := v }
 | 5 => { s with r5 := v }
 | 6 => { s with r6 := v }
 | 7 => { s with r7 := v }
 | _ => s
def StV.get (s : StV) (k : Int) : VSet := s.getN k.toNat
def StV.set (s : StV) (k : Int) (v : VSet) : StV := s.setN v k.toNat
theorem eight {X : Nat → Prop} (h0 : X 0) (h1 : X 1) (h2 : X 2) (h3 : X 3) (h4 : X 4) (h5 : X 5) (h6 : X 6) (h7 : X 7) : ∀ {n : Nat}, n < 8 → X n
 | 0, _ => h0
 | 1, _ => h1
 | 2, _ => h2
 | 3, _ => h3
 | 4, _ => h4
 | 5, _ => h5
 | 6, _ => h6
 | 7, _ => h7
 | n + 8, h => absurd h (by omega)
theorem kY {s : StV} {k : Int} (hk : 0 ≤ k ∧ k < 8) {o : Nat} (ho : o = k.toNat * 5) : ((cL.enc s).drop o).take 5 = bR.enc (s.get k) := by
 subst ho
 exact eight (X := fun n => ((cL.enc s).drop (n * 5)).take 5 = bR.enc (s.getN n)) rfl rfl rfl rfl rfl rfl rfl rfl (show k.toNat < 8 by omega)
theorem kX {s : StV} {k : Int} (hk : 0 ≤ k ∧ k < 8) {o : Nat} (ho : o = k.toNat * 5) (v : VSet) : splice (cL.enc s) o (bR.enc v) = cL.enc (s.set k v) := by
 subst ho
 exact eight (X := fun n => splice (cL.enc s) (n * 5) (bR.enc v) = cL.enc (s.setN v n)) rfl rfl rfl rfl rfl rfl rfl rfl (show k.toNat < 8 by omega)
theorem kZ {s : StV} {k : Int} (hk : 0 ≤ k ∧ k < 8) {o : Nat} (ho : o = k.toNat * 5) : o + 5 ≤ (cL.enc s).length := by
 rw [cL.len]; show o + 5 ≤ 40; omega
theorem E9 (s : StV) (v : VSet) {k : Nat} (hk : k < 8) {j : Nat} (hj : j < 8) : (s.setN v k).getN j = if j = k then v else s.getN j := by
 revert hk
 refine eight (X := fun j => k < 8 → (s.setN v k).getN j = if j = k then v else s.getN j) ?_ ?_ ?_ ?_ ?_ ?_ ?_ ?_ hj
 all_goals intro hk
 all_goals exact eight (X := fun k => (s.setN v k).getN _ = if _ = k then v else s.getN _) rfl rfl rfl rfl rfl rfl rfl rfl hk
theorem Ck {s : StV} {k : Int} (hk : 0 ≤ k ∧ k < 8) (v : VSet) (j : Int) (hj : 0 ≤ j ∧ j < 8) : (s.set k v).get j = if j = k then v else s.get j := by
 have h := E9 s v (k := k.toNat) (by omega) (j := j.toNat) (by omega)
 by_cases e : j = k
 ·rw [if_pos e]; rw [if_pos (by omega)] at h; exact h
 ·rw [if_neg e]; rw [if_neg (by omega)] at h; exact h
def wL (v : VSet) (k : Nat) : StV :=
 ⟨if 0 < k then v else zeroS, if 1 < k then v else zeroS, if 2 < k then v else zeroS, if 3 < k then v else zeroS, if 4 < k then v else zeroS, if 5 < k then v else zeroS, if 6 < k then v else zeroS, if 7 < k then v else zeroS⟩
theorem wK {v : VSet} {k : Nat} (hk : k < 8) : (wL v k).set (k : Int) v = wL v (k + 1) :=
 eight (X := fun k => (wL v k).set (k : Int) v = wL v (k + 1)) rfl rfl rfl rfl rfl rfl rfl rfl hk
def xo (k : Nat) : StV := wL oM k
def yO : StV := xo 8
def iO (k : Nat) : StV := wL emptyS k
theorem Ef {k : Nat} (hk : k < 8) : (xo k).set (k : Int) oM = xo (k + 1) := wK hk
theorem Fz {k : Nat} (hk : k < 8) : (iO k).set (k : Int) emptyS = iO (k + 1) := wK hk
def iP (a b : StV) : Nat → StV
 | 0 => a
 | k + 1 => (iP a b k).set (k : Int) (gK (a.get k) (b.get k))
def vB (a b : StV) : Nat → StV
 | 0 => b
 | k + 1 => (vB a b k).set (k : Int) (lL (a.get k) (b.get k))
theorem wC (a b : StV) : ∀ k : Nat, k ≤ 8 → ∀ j : Nat, k ≤ j → j < 8 → (iP a b k).get (j : Int) = a.get j
 | 0, _, _, _, _ => rfl
 | k + 1, hk, j, h, hj => by
  show ((iP a b k).set (k : Int) _).get _ = _
  rw [Ck (by omega) _ _ (by omega), if_neg (by omega)]
  exact wC a b k (by omega) j (by omega) hj
theorem yN (a b : StV) : ∀ k : Nat, k ≤ 8 → ∀ j : Nat, k ≤ j → j < 8 → (vB a b k).get (j : Int) = b.get j
 | 0, _, _, _, _ => rfl
 | k + 1, hk, j, h, hj => by
  show ((vB a b k).set (k : Int) _).get _ = _
  rw [Ck (by omega) _ _ (by omega), if_neg (by omega)]
  exact yN a b k (by omega) j (by omega) hj
def CZ (s : StV) (i : Ins) : VSet := if i.form = 0 then s.get i.b else gV i.imm
def xK (a : VSet) (n : UInt32) : VSet := if n < 2147483648 then f7 3 a (gV n) else f7 4 a (gV (0 - n))
def zi (op : Int) : Int := [3, 4, 6, 7, 8, 5, 9, 10, 11].getD (op - 6).toNat 0
theorem ES {op : Int} (h : 6 ≤ op ∧ op ≤ 14) {o : Nat} (ho : o = (op - 6).toNat) : ([.int .i64 3, .int .i64 4, .int .i64 6, .int .i64 7, .int .i64 8, .int .i64 5, .int .i64 9, .int .i64 10, .int .i64 11] : List Value)[o]? = some (.int .i64 (zi op)) := by
 subst ho
 unfold zi
 have hk : (op - 6).toNat < 9 := by omega
 generalize (op - 6).toNat = n at hk
 rcases n with _ | _ | _ | _ | _ | _ | _ | _ | _ | n
 all_goals first | rfl | omega
theorem Ii {i : Ins} (he : ij i = 0) (h : i.op = 16) : i.width = 1 ∨ i.width = 2 ∨ i.width = 4 := by
 have h1 := (pZ he).1
 by_cases a : i.width = 1
 ·exact .inl a
 by_cases b : i.width = 2
 ·exact .inr (.inl b)
 by_cases c : i.width = 4
 ·exact .inr (.inr c)
 unfold bO gA at h1
 simp [h, a, b, c] at h1
def iT (i : Ins) (s : StV) : StV :=
 if ij i = 0 then
  if i.op = 5 then s.set i.a (CZ s i)
  else if 6 ≤ i.op ∧ i.op ≤ 14 then s.set i.a (f7 (zi i.op) (s.get i.a) (CZ s i))
  else if i.op = 16 ∧ i.width < 4 then s.set i.a (eF 0 (nj 1 (8 * i.width).toNat - 1) 1)
  else if i.op = 16 ∨ i.op = 17 ∨ i.op = 26 then s.set i.a oM
  else if i.op = 19 then s.set i.a (xK (s.get i.b) i.imm)
  else if i.op = 25 then s.set i.a (eF 0 1 1)
  else if i.op = 3 then s.set 7 (f7 4 (s.get 7) (gV 4))
  else if i.op = 4 then (s.set 7 (f7 3 (s.get 7) (gV 4))).set i.a oM
  else if i.op = 2 then s.set 7 (f7 3 (s.get 7) (gV 4))
  else if i.op = 23 ∨ i.op = 24 then yO
  else s
 else s
def Bq (i : Ins) : Bool := decide (i.op = 15) && decide (i.form ≠ 0) && decide (ij i = 0)
def ym (a : VSet) : Bool := iS a && !a.top && !a.em
def nc (a : VSet) (n : UInt32) : VSet :=
 if ym a = false ∨ n ≠ a.lo ∧ n ≠ a.hi then a else if a.st = 0 then emptyS else if n = a.lo then eF (a.lo + a.st) a.hi a.st else eF a.lo (a.hi - a.st) a.st
def A4 (cc : Int) : Int := if cc < 1 ∨ 15 ≤ cc then -1 else [(-52 : Int), 2, 1, 4, 3, 6, 5, 8, 7, 10, 9, 12, 11, 14, 13].getD cc.toNat 0
theorem Ib {cc : Int} (h : 1 ≤ cc ∧ cc < 15) : A4 cc = [(-52 : Int), 2, 1, 4, 3, 6, 5, 8, 7, 10, 9, 12, 11, 14, 13].getD cc.toNat 0 := by
 unfold A4; rw [if_neg (by omega)]
theorem GQ {cc : Int} (h : 1 ≤ cc ∧ cc < 15) : (((({ data := #[45, 99, 98, 101, 100, 103, 102, 105, 104, 107, 106, 109, 108, 111, 110] } : ByteArray).data.toList.getD cc.toNat 0 - 97 : UInt8).toNat : Nat) : Int) = [(-52 : Int), 2, 1, 4, 3, 6, 5, 8, 7, 10, 9, 12, 11, 14, 13].getD cc.toNat 0 := by
 have hk : cc.toNat - 1 < 14 := by omega
 have e : cc.toNat = (cc.toNat - 1) + 1 := by omega
 rw [e]
 generalize cc.toNat - 1 = n at hk
 rcases n with _ | _ | _ | _ | _ | _ | _ | _ | _ | _ | _ | _ | _ | _ | n
 all_goals first | rfl | omega
theorem Hi {i : Ins} (h : Bq i = true) : ij i = 0 := by unfold Bq at h; simp at h; exact h.2
theorem Gy {cc : Int} (h : 3 ≤ cc ∧ cc ≤ 6) {o : Nat} (ho : o = (cc - 3).toNat) : ([.int .i64 7, .int .i64 8, .int .i64 9, .int .i64 10] : List Value)[o]? = some (.int .i64 (cc + 4)) := by
 subst ho
 obtain ⟨h1, h2⟩ := h
 rcases (show cc = 3 ∨ cc = 4 ∨ cc = 5 ∨ cc = 6 by omega) with rfl | rfl | rfl | rfl <;> rfl
def fM (cc : Int) (a : VSet) (n : UInt32) : VSet :=
 if cc = 1 then lQ a (gV n) else if cc = 2 then nc a n
 else if cc = 7 then (if n = 0 then emptyS else lQ a (eF 0 (n - 1) 1))
 else if cc = 9 then lQ a (eF 0 n 1)
 else if cc = 8 then lQ a (eF n 4294967295 1)
 else if cc = 10 then (if n = 4294967295 then emptyS else lQ a (eF (n + 1) 4294967295 1))
 else a
def nW (cc : Int) (i : Ins) (s : StV) : StV :=
 if 3 ≤ cc ∧ cc ≤ 6 then (if (ym (s.get i.a) = false ∨ 2147483648 ≤ (s.get i.a).hi) ∨ 2147483648 ≤ i.imm then s else s.set i.a (fM (cc + 4) (s.get i.a) i.imm))
 else s.set i.a (fM cc (s.get i.a) i.imm)
def ra (cc : Int) (i : Ins) (s : StV) (taken : Bool) : StV :=
 if Bq i = false then s else nW (if taken = true then cc else A4 cc) i s
end Go.HL
namespace Go.Proofs.YtiajjbhcpeadfaaGreat
open Go Go.HL Go.RowKit
theorem oU (w : World) :
  Cr Tryz.prog 162 #[] w (.agg (cL.enc (xo 8)).toArray) := by
 refine enter Tryz.func162 rfl Tryz.ntmps162 rfl ?_
 refine ah ?_
 refine dA cR rfl (fun b1 => ?_)
 refine aL ?_
 refine dA cR rfl (fun b2 => ?_)
 refine ad (al (ah (zz0 (aa rfl) (ad (aG ?_)))))
 refine bN (ι := Nat) (fun k => k ≤ 8) (fun _ => _) (fun k => [cellE b2 (cL.enc (xo k)) 37, cellE b1 (cL.enc gu) 37]) (fun k => [(3, .int .i64 (k : Nat))]) (fun k => 8 - k) 0 (Nat.zero_le _) (Front.c Front.nil) (by repeat' constructor) rfl (fun k hi m hm => ?_)
 replace hi : k ≤ 8 := hi
 replace hm : m = 8 - k := hm
 change Tr _ _ [cellE b2 (cL.enc (xo k)) 37, cellE b1 (cL.enc gu) 37] ([(3, .int .i64 (k : Nat))] ++ _) _
 refine ah (zz0 (bS rfl rfl) (ad (al ?_)))
 refine ao rfl ?_ ?_ <;> intro h3 <;> try simp only [bs] at h3
 ·refine bB (al (aG (ah (zz0 (aa rfl) (zz0 (ab rfl) (ad (ar (zz0 (aa rfl) (zz0 (aC rfl fX (fun w hw => j5 w)) ?_)))))))))
  refine zz0 (zz1 (off := 0) (ft := 26) rfl co rfl dj) ?_
  refine zz0 (dL rfl rfl cp ak (by omega)) ?_
  refine fY rfl rfl ak (by repeat constructor) ((kX (k := (k : Int)) ⟨by omega, by omega⟩ (by simp) _).trans (congrArg cL.enc (Ef (by omega)))) (by rfl) (kZ (k := (k : Int)) ⟨by omega, by omega⟩ (by simp)) (by first | exact Enc.one bR _ | exact List.all_eq_true.1 rfl) rfl ?_
  refine az (aX (ac (ar (zz0 (cx rfl rfl) ?_))))
  refine zz0 (aa rfl) (ad ?_)
  refine cC (k + 1) (Front.c Front.nil) (bA 10 rfl) (o := (by show k + 1 ≤ _; omega))
 refine bG (aJ (aJ (bj (ac (al ?_)))))
 obtain rfl : k = 8 := by omega
 refine ar (zz0 (bE rfl bT aU) ?_)
 refine aF cL rfl rfl aU ?_
 refine ad (aD ?_)
 refine eR Tryz.results162 rfl bT aU (fun w' hw => ?_)
 exact ⟨rfl, hw.b0⟩
theorem wN (w : World) :
  Cr Tryz.prog 160 #[] w (.agg (cL.enc (iO 8)).toArray) := by
 refine enter Tryz.func160 rfl Tryz.ntmps160 rfl ?_
 refine ah ?_
 refine dA cR rfl (fun b1 => ?_)
 refine aL ?_
 refine dA cR rfl (fun b2 => ?_)
 refine ad (al (ah (zz0 (aa rfl) (ad (aG ?_)))))
 refine bN (ι := Nat) (fun k => k ≤ 8) (fun _ => _) (fun k => [cellE b2 (cL.enc (iO k)) 37, cellE b1 (cL.enc gu) 37]) (fun k => [(3, .int .i64 (k : Nat))]) (fun k => 8 - k) 0 (Nat.zero_le _) (Front.c Front.nil) (by repeat' constructor) rfl (fun k hi m hm => ?_)
 replace hi : k ≤ 8 := hi
 replace hm : m = 8 - k := hm
 change Tr _ _ [cellE b2 (cL.enc (iO k)) 37, cellE b1 (cL.enc gu) 37] ([(3, .int .i64 (k : Nat))] ++ _) _
 refine ah (zz0 (bS rfl rfl) (ad (al ?_)))
 refine ao rfl ?_ ?_ <;> intro h3 <;> try simp only [bs] at h3
 ·refine bB (al (aG (ah (zz0 (aa rfl) (zz0 (ab rfl) (ad (ar (zz0 (aa rfl) (zz0 (aC rfl jp (fun w hw => ka w)) ?_)))))))))
  refine zz0 (zz1 (off := 0) (ft := 26) rfl co rfl dj) ?_
  refine zz0 (dL rfl rfl cp ak (by omega)) ?_
  refine fY rfl rfl ak (by repeat constructor) ((kX (k := (k : Int)) ⟨by omega, by omega⟩ (by simp) _).trans (congrArg cL.enc (Fz (by omega)))) (by rfl) (kZ (k := (k : Int)) ⟨by omega, by omega⟩ (by simp)) (by first | exact Enc.one bR _ | exact List.all_eq_true.1 rfl) rfl ?_
  refine az (aX (ac (ar (zz0 (cx rfl rfl) ?_))))
  refine zz0 (aa rfl) (ad ?_)
  refine cC (k + 1) (Front.c Front.nil) (bA 10 rfl) (o := (by show k + 1 ≤ _; omega))
 refine bG (aJ (aJ (bj (ac (al ?_)))))
 obtain rfl : k = 8 := by omega
 refine ar (zz0 (bE rfl bT aU) ?_)
 refine aF cL rfl rfl aU ?_
 refine ad (aD ?_)
 refine eR Tryz.results160 rfl bT aU (fun w' hw => ?_)
 exact ⟨rfl, hw.b0⟩
theorem uk (s : StV) (i : Ins) (w : World) (hB : 0 ≤ i.b ∧ i.b < 8) :
  Cr Tryz.prog 302 #[.agg (cL.enc s).toArray, .agg (aP.enc i).toArray] w (.agg (bR.enc (CZ s i)).toArray) := by
 refine enter Tryz.func302 rfl Tryz.ntmps302 rfl ?_
 refine ah ?_
 refine dE rfl rfl (fun b1 => ?_)
 refine dE rfl rfl (fun b2 => ?_)
 refine dA cM rfl (fun b3 => ?_)
 refine ad (al (ah (zz0 (zz1 (off := 3) (ft := 3) rfl af rfl ay) ?_)))
 refine zz0 (aH rfl aI) ?_
 refine zz0 (aY rfl rfl) (ad ?_)
 refine ao rfl ?_ ?_ <;> intro h4 <;> try simp only [bs] at h4
 ·refine ah (zz0 (zz1 (off := 7) (ft := 3) rfl af rfl ay) ?_)
  refine zz0 (aH rfl aI) ?_
  refine zz0 (zz1 (off := 0) (ft := 26) rfl co rfl dj) ?_
  refine zz0 (dL rfl rfl cp ak (by omega)) ?_
  refine zz0 (gr (vs := bR.enc (s.get i.b)) rfl (by repeat constructor) aO ak (kY hB (by simp)) rfl) ?_
  refine aF bR rfl rfl ak ?_
  refine ad (aD (aB ?_))
  refine eR Tryz.results302 rfl aO ak (fun w' hw => ?_)
  refine ⟨?_, hw.b0⟩
  unfold CZ
  repeat' (first | rfl | (exfalso; first | (simp_all; done) | grind) | split)
 refine df (zz0 (zz1 (off := 1) (ft := 23) rfl af rfl ae) ?_)
 refine zz0 (aH rfl am) ?_
 refine zz0 (aC rfl iJ (fun w hw => jC _ w)) ?_
 refine aF bR rfl rfl ak ?_
 refine ad (aD ?_)
 refine eR Tryz.results302 rfl aO ak (fun w' hw => ?_)
 refine ⟨?_, hw.b0⟩
 unfold CZ
 repeat' (first | rfl | (exfalso; first | (simp_all; done) | grind) | split)
theorem Do (a : VSet) (n : UInt32) (w : World) :
  Cr Tryz.prog 304 #[.agg (bR.enc a).toArray, .int .u32 n.toNat] w (.agg (bR.enc (xK a n)).toArray) := by
 refine enter Tryz.func304 rfl Tryz.ntmps304 rfl ?_
 refine ah ?_
 refine dE rfl rfl (fun b1 => ?_)
 refine dA cM rfl (fun b2 => ?_)
 refine ad (al (ah (zz0 (aa rfl) (zz0 (iF (n := 2147483648) rfl rfl) ?_))))
 refine ad ?_
 refine ao rfl ?_ ?_ <;> intro h3 <;> try simp only [bs] at h3
 ·refine al (fK 0 4 aT ?_)
  refine bH ?_
  refine ax (bE rfl aO ak) ?_
  refine ax (aa rfl) (ax (aC rfl iJ (fun w hw => jC _ w)) ?_)
  refine ax (aC rfl l8 (fun w hw => pF 3 _ _ w)) ?_
  refine bK ?_
  refine aF bR rfl rfl ak ?_
  refine ad (aD (aB ?_))
  refine eR Tryz.results304 rfl aO ak (fun w' hw => ?_)
  refine ⟨?_, hw.b0⟩
  unfold xK
  repeat' (first | rfl | (exfalso; first | (simp_all; done) | grind) | split)
 refine bB (al (fK 0 5 aT ?_))
 refine bH ?_
 refine ax (bE rfl aO ak) ?_
 refine ax (aa rfl) (ax (vp rfl) ?_)
 refine ax (aC rfl iJ (fun w hw => jC _ w)) ?_
 refine ax (aC rfl l8 (fun w hw => pF 4 _ _ w)) ?_
 refine bK ?_
 refine aF bR rfl rfl ak ?_
 refine ad (aD ?_)
 refine eR Tryz.results304 rfl aO ak (fun w' hw => ?_)
 refine ⟨?_, hw.b0⟩
 unfold xK
 repeat' (first | rfl | (exfalso; first | (simp_all; done) | grind) | split)
theorem td (a : VSet) (w : World) :
  Cr Tryz.prog 299 #[.agg (bR.enc a).toArray] w (.bool (ym a)) := by
 refine enter Tryz.func299 rfl Tryz.ntmps299 rfl ?_
 refine ah ?_
 refine dE rfl rfl (fun b1 => ?_)
 refine zz0 (ab rfl) (aL (zz0 (bE rfl aO ak) ?_))
 refine zz0 (aC rfl Tryz.call40 (fun w hw => uh _ w)) ?_
 refine zz0 (aa rfl) ?_
 apply bV
 ·exact (rfl : _ = (4, 5, 9))
 ·exact rfl
 ·intro hT2; have hT2' := hT2
  try simp only [bs] at hT2'
  refine zz5 hT2 (zz1 (off := 1) (ft := 4) rfl aw rfl bX) ?_
  refine zz5 hT2 (aH rfl cK) ?_
  refine zz5 hT2 (cj rfl) (zz0 (aN rfl hT2 rfl) ?_)
  refine az (ac ?_)
  exact aA (Sub.cons rfl (zz7 4 rfl))
 ·intro hF2
  refine zz6 hF2 (zz6 hF2 (zz6 hF2 (zz0 (aK rfl hF2 rfl) ?_)))
  refine az (ac ?_)
  exact aA (Sub.cons rfl (zz7 4 rfl))
 refine zz0 (aa rfl) ?_
 apply bV
 ·exact (rfl : _ = (4, 10, 14))
 ·exact rfl
 ·intro hT3; have hT3' := hT3
  try simp only [bs] at hT3'
  refine zz5 hT3 (zz1 (off := 0) (ft := 4) rfl aw rfl bX) ?_
  refine zz5 hT3 (aH rfl cK) ?_
  refine zz5 hT3 (cj rfl) (zz0 (aN rfl hT3 rfl) ?_)
  refine az (ac ?_)
  exact aA (Sub.cons rfl (zz7 4 rfl))
 ·intro hF3
  refine zz6 hF3 (zz6 hF3 (zz6 hF3 (zz0 (aK rfl hF3 rfl) ?_)))
  refine az (ac ?_)
  exact aA (Sub.cons rfl (zz7 4 rfl))
 refine zz0 (ab rfl) (ad (aD ?_))
 refine aS Tryz.results299 rfl (fun w' hw => ?_)
 refine ⟨?_, hw.b0⟩
 unfold ym
 repeat' (first | rfl | (exfalso; first | (simp_all; done) | grind) | split)
theorem yL (a : VSet) (n : UInt32) (w : World) :
  Cr Tryz.prog 301 #[.agg (bR.enc a).toArray, .int .u32 n.toNat] w (.agg (bR.enc (nc a n)).toArray) := by
 refine enter Tryz.func301 rfl Tryz.ntmps301 rfl ?_
 refine ah ?_
 refine dE rfl rfl (fun b1 => ?_)
 refine dA cM rfl (fun b2 => ?_)
 refine ad (al (aG (ah (zz0 (bE rfl aO ak) ?_))))
 refine zz0 (aC rfl Tryz.call299 (fun w hw => td _ w)) ?_
 refine zz0 (cj rfl) (zz0 (aa rfl) ?_)
 apply cF
 ·exact (rfl : _ = (11, 9, 20))
 ·exact rfl
 ·intro hF3; have hF3' := hF3
  try simp only [bs] at hF3'
  refine zz5 hF3 (aa rfl) (zz5 hF3 (zz1 (off := 2) (ft := 23) rfl aw rfl ae) ?_)
  refine zz5 hF3 (aH rfl am) ?_
  refine zz5 hF3 (jc rfl rfl) ?_
  refine zz5 hF3 (aa rfl) ?_
  apply bV
  ·exact (rfl : _ = (5, 14, 19))
  ·exact rfl
  ·intro hT4; have hT4' := hT4
   try simp only [bs] at hT4'
   refine zz5 hT4 (aa rfl) (zz5 hT4 (zz1 (off := 3) (ft := 23) rfl aw rfl ae) ?_)
   refine zz5 hT4 (aH rfl am) ?_
   refine zz5 hT4 (jc rfl rfl) ?_
   refine zz5 hF3 (aN rfl hT4 rfl) ?_
   refine az (ac ?_)
   exact aA (Sub.cons rfl (zz7 5 rfl))
  ·intro hF4
   refine zz6 hF4 (zz6 hF4 (zz6 hF4 (zz6 hF4 (zz5 hF3 (aK rfl hF4 rfl) ?_))))
   refine az (ac ?_)
   exact aA (Sub.cons rfl (zz7 5 rfl))
  refine zz0 (aK rfl hF3 rfl) ?_
  refine az (ac ?_)
  exact aA (Sub.cons rfl (zz7 7 rfl))
 ·intro hT3
  refine zz6 hT3 (zz6 hT3 (zz6 hT3 (zz6 hT3 (zz6 hT3 (fw ?_)))))
  refine fw ?_
  refine fw ?_
  refine fw ?_
  refine zz6 hT3 (zz0 (aN rfl hT3 rfl) ?_)
  refine az (ac ?_)
  exact aA (Sub.cons rfl (zz7 11 rfl))
 refine zz0 (ab rfl) (ad ?_)
 refine ao rfl ?_ ?_ <;> intro h5 <;> try simp only [bs] at h5
 ·refine ah (zz0 (bE rfl aO ak) ?_)
  refine aF bR rfl rfl ak ?_
  refine ad (aD (bv (aB ?_)))
  refine eR kF rfl aO ak (fun w' hw => ?_)
  refine ⟨?_, hw.b0⟩
  unfold nc
  repeat' (first | rfl | (exfalso; first | (simp_all; done) | grind) | split)
 refine ah (zz0 (zz1 (off := 4) (ft := 23) rfl aw rfl ae) ?_)
 refine zz0 (aH rfl am) ?_
 refine zz0 (eC (n := 0) rfl rfl) ?_
 refine zz0 (ab rfl) (ad ?_)
 refine ao rfl ?_ ?_ <;> intro h6 <;> try simp only [bs] at h6
 ·refine ah (zz0 (aC rfl jp (fun w hw => ka w)) ?_)
  refine aF bR rfl rfl ak ?_
  refine ad (aD (bv (aB ?_)))
  refine eR kF rfl aO ak (fun w' hw => ?_)
  refine ⟨?_, hw.b0⟩
  unfold nc
  repeat' (first | rfl | (exfalso; first | (simp_all; done) | grind) | split)
 refine ah (zz0 (aa rfl) (zz0 (zz1 (off := 2) (ft := 23) rfl aw rfl ae) ?_))
 refine zz0 (aH rfl am) ?_
 refine zz0 (eC rfl rfl) ?_
 refine zz0 (ab rfl) (ad ?_)
 refine ao rfl ?_ ?_ <;> intro h7 <;> try simp only [bs] at h7
 ·refine ah (zz0 (zz1 (off := 2) (ft := 23) rfl aw rfl ae) ?_)
  refine zz0 (aH rfl am) ?_
  refine zz0 (zz1 (off := 4) (ft := 23) rfl aw rfl ae) ?_
  refine zz0 (aH rfl am) ?_
  refine zz0 (ii rfl rfl) ?_
  refine zz0 (zz1 (off := 3) (ft := 23) rfl aw rfl ae) ?_
  refine zz0 (aH rfl am) ?_
  refine zz0 (zz1 (off := 4) (ft := 23) rfl aw rfl ae) ?_
  refine zz0 (aH rfl am) ?_
  refine zz0 (aC rfl eD (fun w hw => dO _ _ _ w)) ?_
  refine aF bR rfl rfl ak ?_
  refine ad (aD (bv (aB ?_)))
  refine eR kF rfl aO ak (fun w' hw => ?_)
  refine ⟨?_, hw.b0⟩
  unfold nc
  repeat' (first | rfl | (exfalso; first | (simp_all; done) | grind) | split)
 refine bW (aX (ac (ah (zz0 (zz1 (off := 2) (ft := 23) rfl aw rfl ae) ?_))))
 refine zz0 (aH rfl am) ?_
 refine zz0 (zz1 (off := 3) (ft := 23) rfl aw rfl ae) ?_
 refine zz0 (aH rfl am) ?_
 refine zz0 (zz1 (off := 4) (ft := 23) rfl aw rfl ae) ?_
 refine zz0 (aH rfl am) ?_
 refine zz0 (eZ rfl rfl) ?_
 refine zz0 (zz1 (off := 4) (ft := 23) rfl aw rfl ae) ?_
 refine zz0 (aH rfl am) ?_
 refine zz0 (aC rfl eD (fun w hw => dO _ _ _ w)) ?_
 refine aF bR rfl rfl ak ?_
 refine ad (aD ?_)
 refine eR kF rfl aO ak (fun w' hw => ?_)
 refine ⟨?_, hw.b0⟩
 unfold nc
 repeat' (first | rfl | (exfalso; first | (simp_all; done) | grind) | split)
theorem s9 (i : Ins) (w : World) (hI : InsOK i) :
  Cr Tryz.prog 225 #[.agg (aP.enc i).toArray] w (.bool (Bq i)) := by
 refine enter Tryz.func225 rfl Tryz.ntmps225 rfl ?_
 refine ah ?_
 refine dE rfl rfl (fun b1 => ?_)
 refine zz0 (ab rfl) (aL (zz0 (zz1 (off := 2) (ft := 3) rfl af rfl ay) ?_))
 refine zz0 (aH rfl aI) ?_
 refine zz0 (aY rfl rfl) (zz0 (aa rfl) ?_)
 apply bV
 ·exact (rfl : _ = (4, 6, 10))
 ·exact rfl
 ·intro hT2; have hT2' := hT2
  try simp only [bs] at hT2'
  refine zz5 hT2 (zz1 (off := 3) (ft := 3) rfl af rfl ay) ?_
  refine zz5 hT2 (aH rfl aI) ?_
  refine zz5 hT2 (fa rfl rfl) (zz0 (aN rfl hT2 rfl) ?_)
  refine az (ac ?_)
  exact aA (Sub.cons rfl (zz7 4 rfl))
 ·intro hF2
  refine zz6 hF2 (zz6 hF2 (zz6 hF2 (zz0 (aK rfl hF2 rfl) ?_)))
  refine az (ac ?_)
  exact aA (Sub.cons rfl (zz7 4 rfl))
 refine zz0 (aa rfl) ?_
 apply bV
 ·exact (rfl : _ = (3, 11, 14))
 ·exact rfl
 ·intro hT3; have hT3' := hT3
  try simp only [bs] at hT3'
  refine zz5 hT3 (bE rfl aQ au) ?_
  refine zz5 hT3 (aC rfl kt (fun w hw => kl i w hI)) ?_
  refine zz0 (aN rfl hT3 rfl) ?_
  refine az (ac ?_)
  exact aA (Sub.cons rfl (zz7 3 rfl))
 ·intro hF3
  refine zz6 hF3 (zz6 hF3 (zz0 (aK rfl hF3 rfl) ?_))
  refine az (ac ?_)
  exact aA (Sub.cons rfl (zz7 3 rfl))
 refine zz0 (ab rfl) (ad (aD ?_))
 refine aS Tryz.results225 rfl (fun w' hw => ?_)
 refine ⟨?_, hw.b0⟩
 unfold Bq
 repeat' (first | rfl | (exfalso; first | (simp_all; done) | grind) | split)
theorem xJ (cc : Int) (w : World) :
  Cr Tryz.prog 298 #[.int .i64 cc] w (.int .i64 (A4 cc)) := by
 refine enter Tryz.func298 rfl Tryz.ntmps298 rfl ?_
 refine ah (zz0 (ab rfl) (ad (al (ah (zz0 (aa rfl) (zz0 (bS rfl rfl) (zz0 (aa rfl) ?_)))))))
 apply cF
 ·exact (rfl : _ = (3, 5, 8))
 ·exact rfl
 ·intro hF1; have hF1' := hF1
  try simp only [bs] at hF1'
  refine zz5 hF1 (aa rfl) (zz5 hF1 (d5 rfl rfl) (zz0 (aK rfl hF1 rfl) ?_))
  refine az (ac ?_)
  exact aA (Sub.cons rfl (zz7 3 rfl))
 ·intro hT1
  refine zz6 hT1 (zz6 hT1 (zz0 (aN rfl hT1 rfl) ?_))
  refine az (ac ?_)
  exact aA (Sub.cons rfl (zz7 3 rfl))
 refine ad ?_
 refine ao rfl ?_ ?_ <;> intro h2 <;> try simp only [bs] at h2
 ·refine ah (zz0 (ab rfl) (ad (aD (aB ?_))))
  refine aS Tryz.results298 rfl (fun w' hw => ?_)
  exact ⟨by unfold A4; rw [if_pos (by omega)], hw.b0⟩
 refine bB (al ?_)
 have hsz : ({ data := #[45, 99, 98, 101, 100, 103, 102, 105, 104, 107, 106, 109, 108, 111, 110] } : ByteArray).size = 15 := rfl
 refine ar (zz0 (aa rfl) (zz0 (sN rfl rfl g9 (by omega)) ?_))
 refine zz0 (Cz (n := 97) rfl rfl) ?_
 refine zz0 (je rfl cg ba) (zz0 (ab rfl) (ad (aD ?_)))
 refine aS Tryz.results298 rfl (fun w' hw => ?_)
 exact ⟨by rw [Ib (by omega), ← GQ (by omega)], hw.b0⟩
theorem ob (a b : StV) (w : World) :
  Cr Tryz.prog 110 #[.agg (cL.enc a).toArray, .agg (cL.enc b).toArray] w (.agg (cL.enc (iP a b 8)).toArray) := by
 refine enter Tryz.func110 rfl Tryz.ntmps110 rfl ?_
 refine ah ?_
 refine dE rfl rfl (fun b1 => ?_)
 refine dE rfl rfl (fun b2 => ?_)
 refine dA cR rfl (fun b3 => ?_)
 refine ad (al (ah (zz0 (aa rfl) (ad (aG ?_)))))
 refine bN (ι := Nat) (fun k => k ≤ 8) (fun _ => _) (fun k => [cellE b3 (cL.enc gu) 37, cellE b2 (cL.enc b) 37, cellE b1 (cL.enc (iP a b k)) 37]) (fun k => [(6, .int .i64 (k : Nat))]) (fun k => 8 - k) 0 (Nat.zero_le _) (Front.c Front.nil) (by repeat' constructor) rfl (fun k hi m hm => ?_)
 replace hi : k ≤ 8 := hi
 replace hm : m = 8 - k := hm
 change Tr _ _ [cellE b3 (cL.enc gu) 37, cellE b2 (cL.enc b) 37, cellE b1 (cL.enc (iP a b k)) 37] ([(6, .int .i64 (k : Nat))] ++ _) _
 have hgk := wC a b k hi k (Nat.le_refl k)
 refine ah (zz0 (bS rfl rfl) (ad (al ?_)))
 refine ao rfl ?_ ?_ <;> intro h4 <;> try simp only [bs] at h4
 ·refine bB (al (aG (ah (zz0 (aa rfl) (zz0 (ab rfl) (ad ?_))))))
  replace hgk := hgk (by omega)
  refine fK 0 12 aT ?_
  refine bH ?_
  refine ax (aa rfl) (ax (aa rfl) (ax (zz1 (off := 0) (ft := 26) rfl co rfl dj) ?_))
  refine ax (dL rfl rfl cp ak (by omega)) ?_
  refine ax (gr (vs := bR.enc ((iP a b k).get (k : Int))) rfl (by repeat constructor) aO ak (kY ⟨by omega, by omega⟩ (by simp)) rfl) ?_
  refine ax (aa rfl) (ax (zz1 (off := 0) (ft := 26) rfl co rfl dj) ?_)
  refine ax (dL rfl rfl cp ak (by omega)) ?_
  refine ax (gr (vs := bR.enc (b.get (k : Int))) rfl (by repeat constructor) aO ak (kY ⟨by omega, by omega⟩ (by simp)) rfl) ?_
  refine ax (aC rfl Tryz.call166 (fun w hw => xT _ _ w)) ?_
  refine ax (zz1 (off := 0) (ft := 26) rfl co rfl dj) ?_
  refine ax (dL rfl rfl cp ak (by omega)) ?_
  refine bK ?_
  refine fY rfl rfl ak (by repeat constructor) ((kX (s := iP a b k) (k := (k : Int)) ⟨by omega, by omega⟩ (by simp) (gK ((iP a b k).get (k : Int)) (b.get (k : Int)))).trans (congrArg cL.enc (show _ = iP a b (k + 1) by rw [hgk]; rfl))) (by rfl) (kZ (k := (k : Int)) ⟨by omega, by omega⟩ (by simp)) (by first | exact Enc.one bR _ | exact List.all_eq_true.1 rfl) rfl ?_
  refine az (aX (ac (ar (zz0 (cx rfl rfl) ?_))))
  refine zz0 (aa rfl) (ad ?_)
  refine cC (k + 1) (Front.c Front.nil) (bA 18 rfl) (o := (by show k + 1 ≤ _; omega))
 refine bG (aJ (aJ (bj (ac (al ?_)))))
 obtain rfl : k = 8 := by omega
 refine ar (zz0 (bE rfl bT aU) ?_)
 refine aF cL rfl rfl aU ?_
 refine ad (aD ?_)
 refine eR Tryz.results110 rfl bT aU (fun w' hw => ?_)
 exact ⟨rfl, hw.b0⟩
end Go.Proofs.YtiajjbhcpeadfaaGreat
namespace Go.Proofs.YtiajjbhcpeadfaaGreat
open Go Go.HL Go.RowKit
theorem xp (i : Ins) (s : StV) (w : World) (hI : InsOK i) :
  Cr Tryz.prog 270 #[.agg (aP.enc i).toArray, .agg (cL.enc s).toArray] w (.agg (cL.enc (iT i s)).toArray) := by
 refine enter Tryz.func270 rfl Tryz.ntmps270 rfl ?_
 refine ah ?_
 refine dE rfl rfl (fun b1 => ?_)
 refine dE rfl rfl (fun b2 => ?_)
 refine dA cR rfl (fun b3 => ?_)
 refine ad (al (ah (zz0 (bE rfl aQ au) ?_)))
 refine zz0 (aC rfl kt (fun w hw => kl i w hI)) ?_
 refine zz0 (cj rfl) (ad ?_)
 refine ao rfl ?_ ?_ <;> intro h4 <;> try simp only [bs] at h4
 ·refine ah (zz0 (bE rfl bT aU) ?_)
  refine aF cL rfl rfl aU ?_
  refine ad (aD (aB ?_))
  refine eR gX rfl bT aU (fun w' hw => ?_)
  refine ⟨?_, hw.b0⟩
  first | (rw [hi]; rfl) | (unfold iT; (repeat' split) <;> first | (exfalso; first | (simp_all; done) | grind) | rfl)
 refine bB (al ?_)
 have he : ij i = 0 := by simp_all
 obtain ⟨_, hA, hB, _⟩ := pZ he
 refine ar (zz0 (zz1 (off := 6) (ft := 3) rfl af rfl ay) ?_)
 refine zz0 (aH rfl aI) ?_
 refine zz0 (zz1 (off := 0) (ft := 26) rfl co rfl dj) ?_
 refine zz0 (dL rfl rfl cp ak (by omega)) ?_
 refine zz0 (gr (vs := bR.enc (s.get i.a)) rfl (by repeat constructor) aO ak (kY hA (by simp)) rfl) ?_
 refine dA cM rfl (fun b5 => ?_)
 refine aF bR rfl rfl ak ?_
 refine ad ?_
 refine db (ι := VSet) (fun a1 => iT i s = s.set i.a a1) (fun _ => Bg.of w) (fun a1 => [cellE b5 (bR.enc a1) 25, cellE b3 (cL.enc gu) 37, cellE b2 (cL.enc s) 37, cellE b1 (aP.enc i) 36]) (fun a1 => []) ?_ (fun a1 hi => ?_)
 ·skip
  refine aG (ah (zz0 (zz1 (off := 2) (ft := 3) rfl af rfl ay) ?_))
  refine zz0 (aH rfl aI) ?_
  refine zz0 (aY rfl rfl) (zz0 (ab rfl) (ad ?_))
  refine ao rfl ?_ ?_ <;> intro h6 <;> try simp only [bs] at h6
  ·refine ar (zz0 (bE rfl bT aU) ?_)
   refine zz0 (bE rfl aQ au) ?_
   refine zz0 (aC rfl Tryz.call302 (fun w hw => uk s i w hB)) ?_
   refine aF bR rfl rfl ak ?_
   refine az (aX (ac ?_))
   refine cw _ Front.nil (bA 7 rfl) (o := (by show _ = _; unfold iT; rw [if_pos he]; (repeat' split) <;> first | (exfalso; first | (simp_all; done) | grind) | rfl))
  refine ah (zz0 (zz1 (off := 2) (ft := 3) rfl af rfl ay) ?_)
  refine zz0 (aH rfl aI) ?_
  refine zz0 (d5 rfl rfl) (zz0 (aa rfl) ?_)
  apply bV
  ·exact (rfl : _ = (4, 28, 32))
  ·exact rfl
  ·intro hT7; have hT7' := hT7
   try simp only [bs] at hT7'
   refine zz5 hT7 (zz1 (off := 2) (ft := 3) rfl af rfl ay) ?_
   refine zz5 hT7 (aH rfl aI) ?_
   refine zz5 hT7 (fE rfl rfl) (zz0 (aN rfl hT7 rfl) ?_)
   refine az (ac ?_)
   exact aA (Sub.cons rfl (zz7 4 rfl))
  ·intro hF7
   refine zz6 hF7 (zz6 hF7 (zz6 hF7 (zz0 (aK rfl hF7 rfl) ?_)))
   refine az (ac ?_)
   exact aA (Sub.cons rfl (zz7 4 rfl))
  refine zz0 (ab rfl) (ad ?_)
  refine ao rfl ?_ ?_ <;> intro h8 <;> try simp only [bs] at h8
  ·refine ah (zz0 (bL (vs := [(0, _), (1, _), (2, _), (3, _), (4, _), (5, _), (6, _), (7, _), (8, _)]) rfl rfl (kB _ _ _ _ _ _ _ _ _)) ?_)
   refine dA Tryz.zeroValue321 rfl (fun b9 => ?_)
   refine zz8 rfl rfl Tryz.sizeOf321 ?_
   refine ad (fK 0 10 aT ?_)
   refine bH ?_
   refine ax (zz1 (off := 2) (ft := 3) rfl af rfl ay) ?_
   refine ax (aH rfl aI) ?_
   refine ax (d6 rfl rfl) ?_
   refine ax (dL rfl rfl Tryz.underlying321 ay (by omega)) ?_
   refine ax (pM (v := .int .i64 (zi i.op)) rfl (by repeat constructor) aI (ES (by assumption) (by simp))) ?_
   refine ax (bE rfl aO ak) ?_
   refine ax (bE rfl bT aU) ?_
   refine ax (bE rfl aQ au) ?_
   refine ax (aC rfl Tryz.call302 (fun w hw => uk s i w hB)) ?_
   refine ax (aC rfl l8 (fun w hw => pF (zi i.op) (s.get i.a) (CZ s i) w)) ?_
   refine bK ?_
   refine aF bR rfl rfl ak ?_
   refine az (aX (ac ?_))
   refine cw _ Front.nil (bA 22 rfl) (o := (by show _ = _; unfold iT; rw [if_pos he]; (repeat' split) <;> first | (exfalso; first | (simp_all; done) | grind) | rfl))
  refine ah (zz0 (zz1 (off := 2) (ft := 3) rfl af rfl ay) ?_)
  refine zz0 (aH rfl aI) ?_
  refine zz0 (aY rfl rfl) (zz0 (aa rfl) ?_)
  apply bV
  ·exact (rfl : _ = (4, 48, 52))
  ·exact rfl
  ·intro hT10; have hT10' := hT10
   try simp only [bs] at hT10'
   refine zz5 hT10 (zz1 (off := 4) (ft := 3) rfl af rfl ay) ?_
   refine zz5 hT10 (aH rfl aI) ?_
   refine zz5 hT10 (bS rfl rfl) (zz0 (aN rfl hT10 rfl) ?_)
   refine az (ac ?_)
   exact aA (Sub.cons rfl (zz7 4 rfl))
  ·intro hF10
   refine zz6 hF10 (zz6 hF10 (zz6 hF10 (zz0 (aK rfl hF10 rfl) ?_)))
   refine az (ac ?_)
   exact aA (Sub.cons rfl (zz7 4 rfl))
  refine zz0 (ab rfl) (ad ?_)
  refine ao rfl ?_ ?_ <;> intro h11 <;> try simp only [bs] at h11
  ·have hwd := Ii he (by omega)
   refine ar (zz0 (zz1 (off := 4) (ft := 3) rfl af rfl ay) ?_)
   refine zz0 (aH rfl aI) ?_
   refine zz0 (kM rfl rfl (by omega)) ?_
   refine zz0 (nB (m := 1) rfl rfl (by omega)) ?_
   refine zz0 (eZ (n := 1) rfl rfl) ?_
   refine zz0 (aC rfl eD (fun w hw => dO 0 (nj 1 (8 * i.width).toNat - 1) 1 w)) ?_
   refine aF bR rfl rfl ak ?_
   refine az (aX (ac ?_))
   refine cw _ Front.nil (bA 22 rfl) (o := (by show _ = _; unfold iT; rw [if_pos he]; (repeat' split) <;> first | (exfalso; first | (simp_all; done) | grind) | rfl))
  refine al (ah (zz0 (zz1 (off := 2) (ft := 3) rfl af rfl ay) ?_))
  refine zz0 (aH rfl aI) ?_
  refine zz0 (aY rfl rfl) (zz0 (ab rfl) (ad ?_))
  apply dT
  ·exact rfl
  ·intro hO12
   try simp only [bs] at hO12
   refine ah (zz0 (zz1 (off := 2) (ft := 3) rfl af rfl ay) ?_)
   refine zz0 (aH rfl aI) ?_
   refine zz0 (aY rfl rfl) (zz0 (ab rfl) (ad ?_))
   apply dT
   ·exact rfl
   ·intro hO13
    try simp only [bs] at hO13
    refine ar (zz0 (zz1 (off := 2) (ft := 3) rfl af rfl ay) ?_)
    refine zz0 (aH rfl aI) ?_
    refine zz0 (aY rfl rfl) (zz0 (ab rfl) (ad ?_))
    exact eG rfl (bA 4 rfl)
   refine ac ?_
   exact eG rfl (bA 5 rfl)
  refine ac ?_
  refine ao rfl ?_ ?_ <;> intro h14 <;> try simp only [bs] at h14
  ·refine ar (zz0 (aC rfl fX (fun w hw => j5 w)) ?_)
   refine aF bR rfl rfl ak ?_
   refine az (aX (ac ?_))
   refine cw _ Front.nil (bA 22 rfl) (o := (by show _ = _; unfold iT; rw [if_pos he]; (repeat' split) <;> first | (exfalso; first | (simp_all; done) | grind) | rfl))
  refine ah (zz0 (zz1 (off := 2) (ft := 3) rfl af rfl ay) ?_)
  refine zz0 (aH rfl aI) ?_
  refine zz0 (aY rfl rfl) (zz0 (ab rfl) (ad ?_))
  refine ao rfl ?_ ?_ <;> intro h15 <;> try simp only [bs] at h15
  ·refine fK 0 8 aT ?_
   refine bH ?_
   refine ax (zz1 (off := 7) (ft := 3) rfl af rfl ay) ?_
   refine ax (aH rfl aI) ?_
   refine ax (zz1 (off := 0) (ft := 26) rfl co rfl dj) ?_
   refine ax (dL rfl rfl cp ak (by omega)) ?_
   refine ax (gr (vs := bR.enc (s.get i.b)) rfl (by repeat constructor) aO ak (kY hB (by simp)) rfl) ?_
   refine ax (zz1 (off := 1) (ft := 23) rfl af rfl ae) ?_
   refine ax (aH rfl am) ?_
   refine ax (aC rfl Tryz.call304 (fun w hw => Do (s.get i.b) i.imm w)) ?_
   refine bK ?_
   refine aF bR rfl rfl ak ?_
   refine az (aX (ac ?_))
   refine cw _ Front.nil (bA 33 rfl) (o := (by show _ = _; unfold iT; rw [if_pos he]; (repeat' split) <;> first | (exfalso; first | (simp_all; done) | grind) | rfl))
  refine ah (zz0 (zz1 (off := 2) (ft := 3) rfl af rfl ay) ?_)
  refine zz0 (aH rfl aI) ?_
  refine zz0 (aY rfl rfl) (zz0 (ab rfl) (ad ?_))
  refine ao rfl ?_ ?_ <;> intro h16 <;> try simp only [bs] at h16
  ·refine ar (zz0 (aC rfl eD (fun w hw => dO 0 1 1 w)) ?_)
   refine aF bR rfl rfl ak ?_
   refine az (aX (ac ?_))
   refine cw _ Front.nil (bA 30 rfl) (o := (by show _ = _; unfold iT; rw [if_pos he]; (repeat' split) <;> first | (exfalso; first | (simp_all; done) | grind) | rfl))
  refine ah (zz0 (zz1 (off := 2) (ft := 3) rfl af rfl ay) ?_)
  refine zz0 (aH rfl aI) ?_
  refine zz0 (aY rfl rfl) (zz0 (ab rfl) (ad ?_))
  refine ao rfl ?_ ?_ <;> intro h17 <;> try simp only [bs] at h17
  ·refine al (fK 0 7 aT ?_)
   refine bH ?_
   refine ax (zz1 (off := 0) (ft := 26) rfl co rfl dj) ?_
   refine ax (dL rfl rfl cp ak (by omega)) ?_
   refine ax (gr (vs := bR.enc (s.get (7 : Int))) rfl (by repeat constructor) aO ak (kY ⟨by omega, by omega⟩ (by simp)) rfl) ?_
   refine ax (aC rfl iJ (fun w hw => jC 4 w)) ?_
   refine ax (aC rfl l8 (fun w hw => pF 4 (s.get 7) (gV 4) w)) ?_
   refine ax (zz1 (off := 0) (ft := 26) rfl co rfl dj) ?_
   refine ax (dL rfl rfl cp ak (by omega)) ?_
   refine bK ?_
   refine fY rfl rfl ak (by repeat constructor) (kX (k := 7) ⟨by omega, by omega⟩ (by simp) _) (by rfl) (kZ (k := 7) ⟨by omega, by omega⟩ (by simp)) (by first | exact Enc.one bR _ | exact List.all_eq_true.1 rfl) rfl ?_
   refine aL (zz0 (bE rfl bT aU) ?_)
   refine aF cL rfl rfl aU ?_
   refine ad (aD (bv (aB ?_)))
   refine eR gX rfl bT aU (fun w' hw => ?_)
   refine ⟨?_, hw.b0⟩
   first | (rw [hi]; rfl) | (unfold iT; (repeat' split) <;> first | (exfalso; first | (simp_all; done) | grind) | rfl)
  refine al (ah (zz0 (zz1 (off := 2) (ft := 3) rfl af rfl ay) ?_))
  refine zz0 (aH rfl aI) ?_
  refine zz0 (aY rfl rfl) (zz0 (ab rfl) (ad ?_))
  apply dT
  ·exact rfl
  ·intro hO18
   try simp only [bs] at hO18
   refine ar (zz0 (zz1 (off := 2) (ft := 3) rfl af rfl ay) ?_)
   refine zz0 (aH rfl aI) ?_
   refine zz0 (aY rfl rfl) (zz0 (ab rfl) (ad ?_))
   exact eG rfl (bA 4 rfl)
  refine ac ?_
  refine ao rfl ?_ ?_ <;> intro h19 <;> try simp only [bs] at h19
  ·refine al (fK 0 7 aT ?_)
   refine bH ?_
   refine ax (zz1 (off := 0) (ft := 26) rfl co rfl dj) ?_
   refine ax (dL rfl rfl cp ak (by omega)) ?_
   refine ax (gr (vs := bR.enc (s.get (7 : Int))) rfl (by repeat constructor) aO ak (kY ⟨by omega, by omega⟩ (by simp)) rfl) ?_
   refine ax (aC rfl iJ (fun w hw => jC 4 w)) ?_
   refine ax (aC rfl l8 (fun w hw => pF 3 (s.get 7) (gV 4) w)) ?_
   refine ax (zz1 (off := 0) (ft := 26) rfl co rfl dj) ?_
   refine ax (dL rfl rfl cp ak (by omega)) ?_
   refine bK ?_
   refine fY rfl rfl ak (by repeat constructor) (kX (k := 7) ⟨by omega, by omega⟩ (by simp) _) (by rfl) (kZ (k := 7) ⟨by omega, by omega⟩ (by simp)) (by first | exact Enc.one bR _ | exact List.all_eq_true.1 rfl) rfl ?_
   refine ad (al (ah (zz0 (zz1 (off := 2) (ft := 3) rfl af rfl ay) ?_)))
   refine zz0 (aH rfl aI) ?_
   refine zz0 (aY rfl rfl) (ad ?_)
   refine ao rfl ?_ ?_ <;> intro h20 <;> try simp only [bs] at h20
   ·refine fK 0 5 aT ?_
    refine bH ?_
    refine ax (zz1 (off := 6) (ft := 3) rfl af rfl ay) ?_
    refine ax (aH rfl aI) ?_
    refine ax (aC rfl fX (fun w hw => j5 w)) ?_
    refine ax (zz1 (off := 0) (ft := 26) rfl co rfl dj) ?_
    refine ax (dL rfl rfl cp ak (by omega)) ?_
    refine bK ?_
    refine fY rfl rfl ak (by repeat constructor) (kX hA (by simp) _) (by rfl) (kZ hA (by simp)) (by first | exact Enc.one bR _ | exact List.all_eq_true.1 rfl) rfl ?_
    refine aL (zz0 (bE rfl bT aU) ?_)
    refine aF cL rfl rfl aU ?_
    refine ad (aD (bv (aB ?_)))
    refine eR gX rfl bT aU (fun w' hw => ?_)
    refine ⟨?_, hw.b0⟩
    first | (rw [hi]; rfl) | (unfold iT; (repeat' split) <;> first | (exfalso; first | (simp_all; done) | grind) | rfl)
   refine df (zz0 (bE rfl bT aU) ?_)
   refine aF cL rfl rfl aU ?_
   refine ad (aD (bv (aB ?_)))
   refine eR gX rfl bT aU (fun w' hw => ?_)
   refine ⟨?_, hw.b0⟩
   first | (rw [hi]; rfl) | (unfold iT; (repeat' split) <;> first | (exfalso; first | (simp_all; done) | grind) | rfl)
  refine al (ah (zz0 (zz1 (off := 2) (ft := 3) rfl af rfl ay) ?_))
  refine zz0 (aH rfl aI) ?_
  refine zz0 (aY rfl rfl) (zz0 (ab rfl) (ad ?_))
  apply dT
  ·exact rfl
  ·intro hO21
   try simp only [bs] at hO21
   refine ar (zz0 (zz1 (off := 2) (ft := 3) rfl af rfl ay) ?_)
   refine zz0 (aH rfl aI) ?_
   refine zz0 (aY rfl rfl) (zz0 (ab rfl) (ad ?_))
   exact eG rfl (bA 4 rfl)
  refine ac ?_
  refine ao rfl ?_ ?_ <;> intro h22 <;> try simp only [bs] at h22
  ·refine ah (zz0 (aC rfl Tryz.call162 (fun w hw => oU w)) ?_)
   refine aF cL rfl rfl aU ?_
   refine ad (aD (bv (aB ?_)))
   refine eR gX rfl bT aU (fun w' hw => ?_)
   refine ⟨?_, hw.b0⟩
   first | (rw [hi]; rfl) | (unfold iT; (repeat' split) <;> first | (exfalso; first | (simp_all; done) | grind) | rfl)
  refine ah (zz0 (bE rfl bT aU) ?_)
  refine aF cL rfl rfl aU ?_
  refine ad (aD (bv (aB ?_)))
  refine eR gX rfl bT aU (fun w' hw => ?_)
  refine ⟨?_, hw.b0⟩
  first | (rw [hi]; rfl) | (unfold iT; (repeat' split) <;> first | (exfalso; first | (simp_all; done) | grind) | rfl)
 skip
 replace hi : iT i s = s.set i.a a1 := hi
 change Tr _ _ [cellE b5 (bR.enc a1) 25, cellE b3 (cL.enc gu) 37, cellE b2 (cL.enc s) 37, cellE b1 (aP.enc i) 36] ([] ++ _) _
 refine ah (zz0 (zz1 (off := 6) (ft := 3) rfl af rfl ay) ?_)
 refine zz0 (aH rfl aI) ?_
 refine zz0 (bE rfl aO ak) ?_
 refine zz0 (zz1 (off := 0) (ft := 26) rfl co rfl dj) ?_
 refine zz0 (dL rfl rfl cp ak (by omega)) ?_
 refine fY rfl rfl ak (by repeat constructor) (kX hA (by simp) _) (by rfl) (kZ hA (by simp)) (by first | exact Enc.one bR _ | exact List.all_eq_true.1 rfl) rfl ?_
 refine aL (zz0 (bE rfl bT aU) ?_)
 refine aF cL rfl rfl aU ?_
 refine ad (aD ?_)
 refine eR gX rfl bT aU (fun w' hw => ?_)
 refine ⟨?_, hw.b0⟩
 first | (rw [hi]; rfl) | (unfold iT; (repeat' split) <;> first | (exfalso; first | (simp_all; done) | grind) | rfl)
theorem AZ (cc : Int) (i : Ins) (s : StV) (tk : Bool) (w : World) (hI : InsOK i) :
  Cr Tryz.prog 269 #[.int .i64 cc, .agg (aP.enc i).toArray, .agg (cL.enc s).toArray, .bool tk] w (.agg (cL.enc (ra cc i s tk)).toArray) := by
 refine enter Tryz.func269 rfl Tryz.ntmps269 rfl ?_
 refine ah ?_
 refine dE rfl rfl (fun b1 => ?_)
 refine dE rfl rfl (fun b2 => ?_)
 refine dA cR rfl (fun b3 => ?_)
 refine ad (al (ah (zz0 (bE rfl aQ au) ?_)))
 refine zz0 (aC rfl Tryz.call225 (fun w hw => s9 i w hI)) ?_
 refine zz0 (cj rfl) (ad ?_)
 refine ao rfl ?_ ?_ <;> intro h4 <;> try simp only [bs] at h4
 ·refine ah (zz0 (bE rfl bT aU) ?_)
  refine aF cL rfl rfl aU ?_
  refine ad (aD (aB ?_))
  refine eR mP rfl bT aU (fun w' hw => ?_)
  refine ⟨?_, hw.b0⟩
  unfold ra
  rw [if_pos (by simp_all)]
  rfl
 refine bB (al ?_)
 have hcm : Bq i = true := by simp_all
 obtain ⟨_, hA, hB, _⟩ := pZ (Hi hcm)
 refine dG ([cellE b3 (cL.enc gu) 37, cellE b2 (cL.enc s) 37, cellE b1 (aP.enc i) 36]) 10 rfl aT ?_
 refine zz3 0 rfl (zz1 (off := 6) (ft := 3) rfl af rfl ay) ?_
 refine zz3 1 rfl (aH rfl aI) ?_
 refine zz3 2 rfl (zz1 (off := 0) (ft := 26) rfl co rfl dj) ?_
 refine ke 3 rfl (by kernel_rfl) (bF dx) (dL rfl rfl cp ak (by omega)) ?_
 refine ke 4 rfl (by kernel_rfl) (bF dx) (gr (vs := bR.enc (s.get i.a)) rfl (by repeat constructor) aO ak (kY hA (by simp)) rfl) ?_
 refine zz3 5 rfl (zz1 (off := 1) (ft := 23) rfl af rfl ae) ?_
 refine zz3 6 rfl (aH rfl am) ?_
 refine dh [7] (fun iq hq => ?_)
 obtain rfl := List.mem_singleton.1 hq
 refine bD rfl ?_
 refine dA cM rfl (fun b5 => ?_)
 refine bU ?_
 refine dh [8] (fun iq hq => ?_)
 obtain rfl := List.mem_singleton.1 hq
 refine bD rfl ?_
 refine aF bR rfl rfl ak ?_
 refine bU ?_
 refine zz3 9 rfl (ab rfl) ?_
 refine gI ?_
 refine ac ?_
 refine db (ι := Int) (fun c1 => c1 = (if tk = true then cc else A4 cc)) (fun _ => Bg.of w) (fun c1 => [cellE b5 (bR.enc (s.get i.a)) 25, cellE b3 (cL.enc gu) 37, cellE b2 (cL.enc s) 37, cellE b1 (aP.enc i) 36]) (fun c1 => [(0, .int .i64 c1)]) ?_ (fun c1 hi => ?_)
 ·skip
  refine ah (zz0 (aa rfl) (zz0 (cj rfl) (ad ?_)))
  refine ao rfl ?_ ?_ <;> intro h6 <;> try simp only [bs] at h6
  ·refine ar (zz0 (aa rfl) (zz0 (aC rfl Tryz.call298 (fun w hw => xJ cc w)) ?_))
   refine zz0 (ab rfl) (ad ?_)
   refine cw _ (Front.c Front.nil) (bA 5 rfl) (o := (by show _ = _; rw [if_neg (by simp_all)]))
  refine bB ?_
  refine cw _ (Front.c Front.nil) (bA 2 rfl) (o := (by show _ = _; rw [if_pos (by simp_all)]))
 skip
 replace hi : c1 = (if tk = true then cc else A4 cc) := hi
 change Tr _ _ [cellE b5 (bR.enc (s.get i.a)) 25, cellE b3 (cL.enc gu) 37, cellE b2 (cL.enc s) 37, cellE b1 (aP.enc i) 36] ([(0, .int .i64 c1)] ++ _) _
 have hrf : ra cc i s tk = nW c1 i s := by unfold ra; rw [if_neg (by rw [hcm]; simp), hi]
 refine db (ι := Int) (fun c2 => nW c1 i s = s.set i.a (fM c2 (s.get i.a) i.imm)) (fun _ => Bg.of w) (fun c2 => [cellE b5 (bR.enc (s.get i.a)) 25, cellE b3 (cL.enc gu) 37, cellE b2 (cL.enc s) 37, cellE b1 (aP.enc i) 36]) (fun c2 => [(0, .int .i64 c2)]) ?_ (fun c2 hi => ?_)
 ·skip
  refine ah (zz0 (aa rfl) (zz0 (d5 rfl rfl) (zz0 (aa rfl) ?_)))
  apply bV
  ·exact (rfl : _ = (3, 29, 32))
  ·exact rfl
  ·intro hT7; have hT7' := hT7
   try simp only [bs] at hT7'
   refine zz5 hT7 (aa rfl) (zz5 hT7 (fE rfl rfl) (zz0 (aN rfl hT7 rfl) ?_))
   refine az (ac ?_)
   exact aA (Sub.cons rfl (zz7 3 rfl))
  ·intro hF7
   refine zz6 hF7 (zz6 hF7 (zz0 (aK rfl hF7 rfl) ?_))
   refine az (ac ?_)
   exact aA (Sub.cons rfl (zz7 3 rfl))
  refine ad ?_
  refine ao rfl ?_ ?_ <;> intro h8 <;> try simp only [bs] at h8
  ·refine al (ah (zz0 (bE rfl aO ak) ?_))
   refine zz0 (aC rfl Tryz.call299 (fun w hw => td _ w)) ?_
   refine zz0 (cj rfl) (zz0 (aa rfl) ?_)
   apply cF
   ·exact (rfl : _ = (4, 36, 40))
   ·exact rfl
   ·intro hF9; have hF9' := hF9
    try simp only [bs] at hF9'
    refine zz5 hF9 (zz1 (off := 3) (ft := 23) rfl aw rfl ae) ?_
    refine zz5 hF9 (aH rfl am) ?_
    refine zz5 hF9 (mc (n := 2147483648) rfl rfl) ?_
    refine zz0 (aK rfl hF9 rfl) ?_
    refine az (ac ?_)
    exact aA (Sub.cons rfl (zz7 4 rfl))
   ·intro hT9
    refine zz6 hT9 (zz6 hT9 (zz6 hT9 (zz0 (aN rfl hT9 rfl) ?_)))
    refine az (ac ?_)
    exact aA (Sub.cons rfl (zz7 4 rfl))
   refine zz0 (aa rfl) ?_
   apply cF
   ·exact (rfl : _ = (3, 41, 44))
   ·exact rfl
   ·intro hF10; have hF10' := hF10
    try simp only [bs] at hF10'
    refine zz5 hF10 (aa rfl) (zz5 hF10 (mc (n := 2147483648) rfl rfl) ?_)
    refine zz0 (aK rfl hF10 rfl) ?_
    refine az (ac ?_)
    exact aA (Sub.cons rfl (zz7 3 rfl))
   ·intro hT10
    refine zz6 hT10 (zz6 hT10 (zz0 (aN rfl hT10 rfl) ?_))
    refine az (ac ?_)
    exact aA (Sub.cons rfl (zz7 3 rfl))
   refine ad ?_
   refine ao rfl ?_ ?_ <;> intro h11 <;> try simp only [bs] at h11
   ·refine ah (zz0 (bE rfl bT aU) ?_)
    refine aF cL rfl rfl aU ?_
    refine ad (aD (aB (aB ?_)))
    refine eR mP rfl bT aU (fun w' hw => ?_)
    refine ⟨?_, hw.b0⟩
    rw [hrf]
    unfold nW
    (repeat' split) <;> first | (exfalso; first | (simp_all; done) | grind) | rfl
   refine df (zz0 (bL (vs := [(0, _), (1, _), (2, _), (3, _)]) rfl rfl (pQ _ _ _ _)) ?_)
   refine dA Tryz.zeroValue319 rfl (fun b12 => ?_)
   refine zz8 rfl rfl Tryz.sizeOf319 ?_
   refine ad (ar (zz0 (aa rfl) (zz0 (d6 rfl rfl) ?_)))
   refine zz0 (dL rfl rfl Tryz.underlying319 ay (by omega)) ?_
   refine zz0 (pM (v := .int .i64 (c1 + 4)) rfl (by repeat constructor) aI (Gy (by assumption) (by simp))) ?_
   refine zz0 (ab rfl) (ad ?_)
   refine cw _ (Front.c Front.nil) (bA 18 rfl) (o := (by show _ = _; unfold nW; (repeat' split) <;> first | (exfalso; first | (simp_all; done) | grind) | rfl))
  refine bB ?_
  refine cw _ (Front.c Front.nil) (bA 4 rfl) (o := (by show _ = _; unfold nW; (repeat' split) <;> first | (exfalso; first | (simp_all; done) | grind) | rfl))
 skip
 replace hi : nW c1 i s = s.set i.a (fM c2 (s.get i.a) i.imm) := hi
 change Tr _ _ [cellE b5 (bR.enc (s.get i.a)) 25, cellE b3 (cL.enc gu) 37, cellE b2 (cL.enc s) 37, cellE b1 (aP.enc i) 36] ([(0, .int .i64 c2)] ++ _) _
 have hi2 := hi
 refine db (ι := VSet) (fun a1 => fM c2 (s.get i.a) i.imm = a1) (fun _ => Bg.of w) (fun a1 => [cellE b5 (bR.enc a1) 25, cellE b3 (cL.enc gu) 37, cellE b2 (cL.enc s) 37, cellE b1 (aP.enc i) 36]) (fun a1 => []) ?_ (fun a1 hi => ?_)
 ·skip
  refine ah (zz0 (aa rfl) (ad (aG (ah (zz0 (aY rfl rfl) (zz0 (ab rfl) (ad ?_)))))))
  refine ao rfl ?_ ?_ <;> intro h13 <;> try simp only [bs] at h13
  ·refine fK 0 4 aT ?_
   refine bH ?_
   refine ax (bE rfl aO ak) ?_
   refine ax (aa rfl) (ax (aC rfl iJ (fun w hw => jC i.imm w)) ?_)
   refine ax (aC rfl l9 (fun w hw => ri (s.get i.a) _ w)) ?_
   refine bK ?_
   refine aF bR rfl rfl ak ?_
   refine az (aX (ac ?_))
   refine cw _ Front.nil (bA 7 rfl) (o := (by show _ = _; unfold fM; (repeat' split) <;> first | (exfalso; first | (simp_all; done) | grind) | rfl))
  refine ah (zz0 (aY rfl rfl) (zz0 (ab rfl) (ad ?_)))
  refine ao rfl ?_ ?_ <;> intro h14 <;> try simp only [bs] at h14
  ·refine ar (zz0 (bE rfl aO ak) ?_)
   refine zz0 (aa rfl) (zz0 (aC rfl Tryz.call301 (fun w hw => yL (s.get i.a) i.imm w)) ?_)
   refine aF bR rfl rfl ak ?_
   refine az (aX (ac ?_))
   refine cw _ Front.nil (bA 8 rfl) (o := (by show _ = _; unfold fM; (repeat' split) <;> first | (exfalso; first | (simp_all; done) | grind) | rfl))
  refine ah (zz0 (aY rfl rfl) (zz0 (ab rfl) (ad ?_)))
  refine ao rfl ?_ ?_ <;> intro h15 <;> try simp only [bs] at h15
  ·refine al (fK 0 5 aT ?_)
   refine bH ?_
   refine ax (bE rfl aO ak) ?_
   refine ax (aa rfl) (ax (eZ (n := 1) rfl rfl) ?_)
   refine ax (aC rfl eD (fun w hw => dO 0 (i.imm - 1) 1 w)) ?_
   refine ax (aC rfl l9 (fun w hw => ri (s.get i.a) _ w)) ?_
   refine bK ?_
   refine aF bR rfl rfl ak ?_
   refine aL (zz0 (aa rfl) (zz0 (eC (n := 0) rfl rfl) ?_))
   refine ad ?_
   refine ao rfl ?_ ?_ <;> intro h16 <;> try simp only [bs] at h16
   ·refine ar (zz0 (aC rfl jp (fun w hw => ka w)) ?_)
    refine aF bR rfl rfl ak ?_
    refine az (aX (ac ?_))
    refine cw _ Front.nil (bA 15 rfl) (o := (by show _ = _; unfold fM; (repeat' split) <;> first | (exfalso; first | (simp_all; done) | grind) | rfl))
   refine bW (aX (ac ?_))
   refine cw _ Front.nil (bA 14 rfl) (o := (by show _ = _; unfold fM; (repeat' split) <;> first | (exfalso; first | (simp_all; done) | grind) | rfl))
  refine ah (zz0 (aY rfl rfl) (zz0 (ab rfl) (ad ?_)))
  refine ao rfl ?_ ?_ <;> intro h17 <;> try simp only [bs] at h17
  ·refine fK 0 4 aT ?_
   refine bH ?_
   refine ax (bE rfl aO ak) ?_
   refine ax (aa rfl) (ax (aC rfl eD (fun w hw => dO 0 i.imm 1 w)) ?_)
   refine ax (aC rfl l9 (fun w hw => ri (s.get i.a) _ w)) ?_
   refine bK ?_
   refine aF bR rfl rfl ak ?_
   refine az (aX (ac ?_))
   refine cw _ Front.nil (bA 13 rfl) (o := (by show _ = _; unfold fM; (repeat' split) <;> first | (exfalso; first | (simp_all; done) | grind) | rfl))
  refine ah (zz0 (aY rfl rfl) (zz0 (ab rfl) (ad ?_)))
  refine ao rfl ?_ ?_ <;> intro h18 <;> try simp only [bs] at h18
  ·refine fK 0 4 aT ?_
   refine bH ?_
   refine ax (bE rfl aO ak) ?_
   refine ax (aa rfl) (ax (aC rfl eD (fun w hw => dO i.imm 4294967295 1 w)) ?_)
   refine ax (aC rfl l9 (fun w hw => ri (s.get i.a) _ w)) ?_
   refine bK ?_
   refine aF bR rfl rfl ak ?_
   refine az (aX (ac ?_))
   refine cw _ Front.nil (bA 15 rfl) (o := (by show _ = _; unfold fM; (repeat' split) <;> first | (exfalso; first | (simp_all; done) | grind) | rfl))
  refine ah (zz0 (aY rfl rfl) (zz0 (ab rfl) (ad ?_)))
  refine ao rfl ?_ ?_ <;> intro h19 <;> try simp only [bs] at h19
  ·refine al (fK 0 5 aT ?_)
   refine bH ?_
   refine ax (bE rfl aO ak) ?_
   refine ax (aa rfl) (ax (ii (n := 1) rfl rfl) ?_)
   refine ax (aC rfl eD (fun w hw => dO (i.imm + 1) 4294967295 1 w)) ?_
   refine ax (aC rfl l9 (fun w hw => ri (s.get i.a) _ w)) ?_
   refine bK ?_
   refine aF bR rfl rfl ak ?_
   refine aL (zz0 (aa rfl) (zz0 (eC (n := 4294967295) rfl rfl) ?_))
   refine ad ?_
   refine ao rfl ?_ ?_ <;> intro h20 <;> try simp only [bs] at h20
   ·refine ar (zz0 (aC rfl jp (fun w hw => ka w)) ?_)
    refine aF bR rfl rfl ak ?_
    refine az (aX (ac ?_))
    refine cw _ Front.nil (bA 21 rfl) (o := (by show _ = _; unfold fM; (repeat' split) <;> first | (exfalso; first | (simp_all; done) | grind) | rfl))
   refine bW (aX (ac ?_))
   refine cw _ Front.nil (bA 20 rfl) (o := (by show _ = _; unfold fM; (repeat' split) <;> first | (exfalso; first | (simp_all; done) | grind) | rfl))
  refine bW (aX (ac ?_))
  refine cw _ Front.nil (bA 13 rfl) (o := (by show _ = _; unfold fM; (repeat' split) <;> first | (exfalso; first | (simp_all; done) | grind) | rfl))
 skip
 replace hi : fM c2 (s.get i.a) i.imm = a1 := hi
 change Tr _ _ [cellE b5 (bR.enc a1) 25, cellE b3 (cL.enc gu) 37, cellE b2 (cL.enc s) 37, cellE b1 (aP.enc i) 36] ([] ++ _) _
 have hi3 := hi
 refine ah (zz0 (zz1 (off := 6) (ft := 3) rfl af rfl ay) ?_)
 refine zz0 (aH rfl aI) ?_
 refine zz0 (bE rfl aO ak) ?_
 refine zz0 (zz1 (off := 0) (ft := 26) rfl co rfl dj) ?_
 refine zz0 (dL rfl rfl cp ak (by omega)) ?_
 refine fY rfl rfl ak (by repeat constructor) (kX hA (by simp) _) (by rfl) (kZ hA (by simp)) (by first | exact Enc.one bR _ | exact List.all_eq_true.1 rfl) rfl ?_
 refine aL (zz0 (bE rfl bT aU) ?_)
 refine aF cL rfl rfl aU ?_
 refine ad (aD ?_)
 refine eR mP rfl bT aU (fun w' hw => ?_)
 refine ⟨?_, hw.b0⟩
 rw [hrf, hi2, hi3]
 rfl
end Go.Proofs.YtiajjbhcpeadfaaGreat
namespace Go.HL
open Go Go.Sort
def ltW (x y : UInt32) : Bool := decide (x < y)
theorem xt : SWO ltW where
 irrefl x := by simp [ltW]
 trans x y z h1 h2 := by simp only [ltW, decide_eq_true_eq, UInt32.lt_iff_toNat_lt] at *; omega
 ntrans x y z h1 h2 := by simp only [ltW, decide_eq_false_iff_not, UInt32.lt_iff_toNat_lt] at *; omega
theorem dQ {d : Array UInt32} {i : Nat} : d.toList.getD i default = d[i]! := by
 rw [List.getD_eq_getElem?_getD, Array.getElem?_toList, Array.getElem!_eq_getD, Array.getD_eq_getD_getElem?]
theorem io {d : Array UInt32} {i j : Nat} : (d.toList.set i d[j]!).set j d[i]! = (swp d i j).toList := by
 simp [swp, Array.toList_setIfInBounds]
theorem nR {d : Array UInt32} {i j : Nat} : (swp d i j).size = d.size := by simp [swp]
theorem zF {a b i : Nat} {d : Array UInt32} (h : b ≤ i) : insOuter ltW a b i d = d := by rw [insOuter, if_neg (by omega)]
theorem zD {a b i : Nat} {d : Array UInt32} (h : i < b) : insOuter ltW a b i d = insOuter ltW a b (i + 1) (insInner ltW a i d) := by rw [insOuter, if_pos h]
theorem tC {a j : Nat} {d : Array UInt32} (h : a < j) (h2 : ltW d[j]! d[j - 1]! = true) : insInner ltW a j d = insInner ltW a (j - 1) (swp d j (j - 1)) := by
 cases j with
 | zero => omega
 | succ j => rw [insInner, if_pos (by simp only [Bool.and_eq_true, decide_eq_true_eq]; exact ⟨h, h2⟩)]; rfl
theorem rb {a j : Nat} {d : Array UInt32} (h : j ≤ a ∨ ltW d[j]! d[j - 1]! = false) : insInner ltW a j d = d := by
 cases j with
 | zero => rfl
 | succ j =>
  rw [insInner, if_neg]
  simp only [Bool.and_eq_true, decide_eq_true_eq]
  rintro ⟨h1, h2⟩
  rcases h with h | h
  ·omega
  ·rw [show j + 1 - 1 = j from rfl, h2] at h; cases h
theorem y8 {hi f r : Nat} {d : Array UInt32} (h : hi ≤ 2 * r + 1) : siftDown ltW hi f r d = d := by rw [siftDown, dif_pos h]
theorem Er {hi f r : Nat} {d : Array UInt32} (h : 2 * r + 2 < hi) (hl : ltW d[f + (2 * r + 1)]! d[f + (2 * r + 1) + 1]! = true) :
  siftDown ltW hi f r d = if ltW d[f + r]! d[f + (2 * r + 2)]! = true then siftDown ltW hi f (2 * r + 2) (swp d (f + r) (f + (2 * r + 2))) else d := by
 rw [siftDown, dif_neg (by omega), if_pos (by simp only [Bool.and_eq_true, decide_eq_true_eq]; exact ⟨by omega, hl⟩), dif_pos h]
 cases ltW d[f + r]! d[f + (2 * r + 2)]! <;> rfl
theorem Es {hi f r : Nat} {d : Array UInt32} (h : 2 * r + 1 < hi) (hl : hi ≤ 2 * r + 2 ∨ ltW d[f + (2 * r + 1)]! d[f + (2 * r + 1) + 1]! = false) :
  siftDown ltW hi f r d = if ltW d[f + r]! d[f + (2 * r + 1)]! = true then siftDown ltW hi f (2 * r + 1) (swp d (f + r) (f + (2 * r + 1))) else d := by
 rw [siftDown, dif_neg (by omega), if_neg]
 ·cases ltW d[f + r]! d[f + (2 * r + 1)]! <;> rfl
 ·simp only [Bool.and_eq_true, decide_eq_true_eq]
  rintro ⟨q1, q2⟩
  rcases hl with hl | hl
  ·omega
  ·rw [q2] at hl; cases hl
theorem sift_size {hi f : Nat} : ∀ (n r : Nat) (d : Array UInt32), hi - r ≤ n → (siftDown ltW hi f r d).size = d.size
 | n, r, d, h => by
  by_cases c1 : hi ≤ 2 * r + 1
  ·rw [y8 c1]
  ·cases n with
   | zero => omega
   | succ n =>
    by_cases c2 : 2 * r + 2 < hi ∧ ltW d[f + (2 * r + 1)]! d[f + (2 * r + 1) + 1]! = true
    ·rw [Er c2.1 c2.2]
     split
     ·rw [sift_size n (2 * r + 2) _ (by omega), nR]
     ·rfl
    ·rw [Es (by omega) (by
      by_cases q : 2 * r + 2 < hi
      ·refine .inr ?_
       cases e : ltW d[f + (2 * r + 1)]! d[f + (2 * r + 1) + 1]!
       ·rfl
       ·exact absurd ⟨q, e⟩ c2
      ·exact .inl (by omega))]
     split
     ·rw [sift_size n (2 * r + 1) _ (by omega), nR]
     ·rfl
theorem HK {hi f r : Nat} {d : Array UInt32} : (siftDown ltW hi f r d).size = d.size := sift_size _ _ _ (Nat.le_refl _)
theorem EB {i j : Nat} {d : Array UInt32} (h : ¬ i < j) : reverseLoop i j d = d := by rw [reverseLoop, if_neg h]
theorem H5 {i j : Nat} {d : Array UInt32} (h : i < j) : reverseLoop i j d = reverseLoop (i + 1) (j - 1) (swp d i j) := by rw [reverseLoop, if_pos h]
theorem Ee {p : UInt32 → Bool} {d : Array UInt32} {i j : Nat} (h : i ≤ j) (hp : p d[i]! = true) : scanUp p d j i = scanUp p d j (i + 1) := by
 rw [scanUp, if_pos (by simp only [Bool.and_eq_true, decide_eq_true_eq]; exact ⟨h, hp⟩)]
theorem xn {p : UInt32 → Bool} {d : Array UInt32} {i j : Nat} (h : j < i ∨ p d[i]! = false) : scanUp p d j i = i := by
 rw [scanUp, if_neg]
 simp only [Bool.and_eq_true, decide_eq_true_eq]
 rintro ⟨q1, q2⟩
 rcases h with h | h
 ·omega
 ·rw [q2] at h; cases h
theorem yf {p : UInt32 → Bool} {d : Array UInt32} {i j : Nat} (h : i ≤ j) (h0 : 0 < j) (hp : p d[j]! = true) : scanDown p d i j = scanDown p d i (j - 1) := by
 obtain ⟨k, rfl⟩ : ∃ k, j = k + 1 := ⟨j - 1, by omega⟩
 rw [scanDown, if_pos (by simp only [Bool.and_eq_true, decide_eq_true_eq]; exact ⟨h, hp⟩)]; rfl
theorem sC {p : UInt32 → Bool} {d : Array UInt32} {i j : Nat} (h : j < i ∨ p d[j]! = false) : scanDown p d i j = j := by
 cases j with
 | zero => rfl
 | succ k =>
  rw [scanDown, if_neg]
  simp only [Bool.and_eq_true, decide_eq_true_eq]
  rintro ⟨q1, q2⟩
  rcases h with h | h
  ·omega
  ·rw [q2] at h; cases h
theorem EQ {a i j I J : Nat} {d : Array UInt32} (hI : scanUp (fun x => ltW x d[a]!) d j i = I) (hJ : scanDown (fun x => !ltW x d[a]!) d I j = J) (h : J < I) : partLoop ltW a i j d = (J, d) := by
 rw [partLoop]; simp only [hI, hJ]; rw [if_pos h]
theorem zh {a i j I J : Nat} {d : Array UInt32} (hI : scanUp (fun x => ltW x d[a]!) d j i = I) (hJ : scanDown (fun x => !ltW x d[a]!) d I j = J) (h : I < J) (h1 : i ≤ I) (h2 : J ≤ j) :
  partLoop ltW a i j d = partLoop ltW a (I + 1) (J - 1) (swp d I J) := by
 rw [partLoop]; simp only [hI, hJ]; rw [if_neg (by omega), dif_pos (by omega)]
theorem A1 {a i j I J : Nat} {d : Array UInt32} (hI : scanUp (fun x => !ltW d[a]! x) d j i = I) (hJ : scanDown (fun x => ltW d[a]! x) d I j = J) (h : J < I) : partEqLoop ltW a i j d = (I, d) := by
 rw [partEqLoop]; simp only [hI, hJ]; rw [if_pos h]
theorem Dh {a i j I J : Nat} {d : Array UInt32} (hI : scanUp (fun x => !ltW d[a]! x) d j i = I) (hJ : scanDown (fun x => ltW d[a]! x) d I j = J) (h : I < J) (h1 : i ≤ I) (h2 : J ≤ j) :
  partEqLoop ltW a i j d = partEqLoop ltW a (I + 1) (J - 1) (swp d I J) := by
 rw [partEqLoop]; simp only [hI, hJ]; rw [if_neg (by omega), dif_pos (by omega)]
theorem IP {b i : Nat} {d : Array UInt32} (h : i < b) (hl : ltW d[i]! d[i - 1]! = false) : scanSorted ltW d b i = scanSorted ltW d b (i + 1) := by
 rw [scanSorted, if_pos (by simp only [Bool.and_eq_true, decide_eq_true_eq, Bool.not_eq_true']; exact ⟨h, hl⟩)]
theorem GE {b i : Nat} {d : Array UInt32} (h : b ≤ i ∨ ltW d[i]! d[i - 1]! = true) : scanSorted ltW d b i = i := by
 rw [scanSorted, if_neg]
 simp only [Bool.and_eq_true, decide_eq_true_eq, Bool.not_eq_true']
 rintro ⟨q1, q2⟩
 rcases h with h | h
 ·omega
 ·rw [q2] at h; cases h
theorem IQ {j : Nat} {d : Array UInt32} (h : 0 < j) (hl : ltW d[j]! d[j - 1]! = true) : shiftDown ltW j d = shiftDown ltW (j - 1) (swp d j (j - 1)) := by
 obtain ⟨k, rfl⟩ : ∃ k, j = k + 1 := ⟨j - 1, by omega⟩
 rw [shiftDown, if_neg (by rw [show k + 1 - 1 = k from rfl] at hl; simp [hl])]; rfl
theorem B2 {j : Nat} {d : Array UInt32} (h : j = 0 ∨ ltW d[j]! d[j - 1]! = false) : shiftDown ltW j d = d := by
 cases j with
 | zero => rfl
 | succ k =>
  rcases h with h | h
  ·omega
  ·rw [shiftDown, if_pos (by rw [show k + 1 - 1 = k from rfl] at h; simp [h])]
theorem IO {b j : Nat} {d : Array UInt32} (h : j < b) (hl : ltW d[j]! d[j - 1]! = true) : shiftUp ltW b j d = shiftUp ltW b (j + 1) (swp d j (j - 1)) := by
 rw [shiftUp, if_pos h, if_neg (by simp [hl])]
theorem BY {b j : Nat} {d : Array UInt32} (h : b ≤ j ∨ ltW d[j]! d[j - 1]! = false) : shiftUp ltW b j d = d := by
 rw [shiftUp]
 rcases h with h | h
 ·rw [if_neg (by omega)]
 ·split
  ·rw [if_pos (by simp [h])]
  ·rfl
theorem A3 {a b k i x : Nat} {d : Array UInt32} (hX : scanSorted ltW d b i = x) (h : x = b) : partialIns ltW a b (k + 1) i d = (d, true) := by
 rw [partialIns]; simp only [hX]; rw [if_pos h]
theorem H9 {a b k i x : Nat} {d : Array UInt32} (hX : scanSorted ltW d b i = x) (h : x ≠ b) (h2 : b - a < 50) : partialIns ltW a b (k + 1) i d = (d, false) := by
 rw [partialIns]; simp only [hX]; rw [if_neg h, if_pos h2]
theorem rZ {a b k i x : Nat} {d d3 d4 : Array UInt32} (hX : scanSorted ltW d b i = x) (h : x ≠ b) (h2 : ¬ b - a < 50) (h3 : d3 = if x - a ≥ 2 then shiftDown ltW (x - 1) (swp d x (x - 1)) else swp d x (x - 1)) (h4 : d4 = if b - x ≥ 2 then shiftUp ltW b (x + 1) d3 else d3) :
  partialIns ltW a b (k + 1) i d = partialIns ltW a b k x d4 := by
 rw [partialIns]; simp only [hX]; rw [if_neg h, if_neg h2, ← h3, ← h4]
end Go.HL
namespace Go.Proofs.YtiajjbhcpeadfaaGreat
open Go Go.HL Go.RowKit Go.Sort
theorem rf (a : UInt32) (w : World) :
  Cr Tryz.prog 151 #[.int .u32 a.toNat] w (.bool false) := by
 refine enter Tryz.func151 rfl Tryz.ntmps151 rfl ?_
 refine ah (zz0 (ab rfl) (aL (zz0 (aa rfl) (zz0 (aa rfl) (zz0 (jc rfl rfl) ?_)))))
 refine zz0 (ab rfl) (ad (aD ?_))
 refine aS Tryz.results151 rfl (fun w' hw => ?_)
 exact ⟨by simp, hw.b0⟩
theorem gJ (a b : UInt32) (w : World) :
  Cr Tryz.prog 260 #[.int .u32 a.toNat, .int .u32 b.toNat] w (.bool (ltW a b)) := by
 refine enter Tryz.func260 rfl Tryz.ntmps260 rfl ?_
 refine ah (zz0 (ab rfl) (aL (zz0 (aa rfl) (zz0 (aC rfl ov (fun w hw => rf a w)) ?_))))
 refine zz0 (aa rfl) ?_
 apply bV
 ·exact (rfl : _ = (4, 7, 11))
 ·exact rfl
 ·intro hT1; have hT1' := hT1
  try simp only [bs] at hT1'
  refine zz5 hT1 (aa rfl) (zz5 hT1 (aC rfl ov (fun w hw => rf b w)) ?_)
  refine zz5 hT1 (cj rfl) (zz0 (aN rfl hT1 rfl) ?_)
  refine az (ac ?_)
  exact aA (Sub.cons rfl (zz7 4 rfl))
 ·intro hF1
  refine zz6 hF1 (zz6 hF1 (zz6 hF1 (zz0 (aK rfl hF1 rfl) ?_)))
  refine az (ac ?_)
  exact aA (Sub.cons rfl (zz7 4 rfl))
 refine zz0 (aa rfl) ?_
 apply cF
 ·exact (rfl : _ = (4, 12, 16))
 ·exact rfl
 ·intro hF2; have hF2' := hF2
  try simp only [bs] at hF2'
  refine zz5 hF2 (aa rfl) (zz5 hF2 (aa rfl) (zz5 hF2 (iF rfl rfl) ?_))
  refine zz0 (aK rfl hF2 rfl) ?_
  refine az (ac ?_)
  exact aA (Sub.cons rfl (zz7 4 rfl))
 ·intro hT2
  refine zz6 hT2 (zz6 hT2 (zz6 hT2 (zz0 (aN rfl hT2 rfl) ?_)))
  refine az (ac ?_)
  exact aA (Sub.cons rfl (zz7 4 rfl))
 refine zz0 (ab rfl) (ad (aD ?_))
 refine aS Tryz.results260 rfl (fun w' hw => ?_)
 exact ⟨by simp [ltW], hw.b0⟩
theorem vI (d : Array UInt32) (V : Value) (a : Nat) (b : Nat) (ai : Int) (bi : Int) (ea : ai = ((a : Nat) : Int)) (eb : bi = ((b : Nat) : Int)) (w : World) (hr : (rowE V 23 an d.toList).holds w) (hd : d.size ≤ 1000000) (hab : a ≤ b) (hb : b ≤ d.size) :
  Calls Tryz.prog 254 #[V, .int .i64 ai, .int .i64 bi] w (fun e w' => e = .returned (.tuple #[]) ∧ Mut w w' V ∧ (rowE V 23 an (insertionSort ltW d a b).toList).holds w') := by
 subst ea eb
 refine fF (l := d.toList) (E := an) (T := 23) hr Tryz.func254 rfl Tryz.ntmps254 rfl ?_
 refine ah (zz0 (aa rfl) (zz0 (cx rfl rfl) ?_))
 refine zz0 (ab rfl) (ad (aG ?_))
 refine bN (ι := Nat × Array UInt32) (fun ⟨i, cur⟩ => a + 1 ≤ i ∧ cur.size = d.size ∧ insOuter ltW a b i cur = insertionSort ltW d a b) (fun _ => _) (fun ⟨i, cur⟩ => [rowE V 23 an cur.toList]) (fun ⟨i, cur⟩ => [(6, .int .i64 (i : Nat))]) (fun ⟨i, cur⟩ => b - i) (a + 1, d) ⟨Nat.le_refl _, rfl, rfl⟩ (Front.c Front.nil) (by repeat' constructor) rfl (fun i hi m hm => ?_)
 obtain ⟨i, cur⟩ := i
 replace hi : a + 1 ≤ i ∧ cur.size = d.size ∧ insOuter ltW a b i cur = insertionSort ltW d a b := hi
 replace hm : m = b - i := hm
 change Tr _ _ [rowE V 23 an cur.toList] ([(6, .int .i64 (i : Nat))] ++ _) _
 obtain ⟨hi1, hi2, hi3⟩ := hi
 have hcl : cur.toList.length = d.size := by rw [Array.length_toList]; exact hi2
 refine al (ah (zz0 (aa rfl) (zz0 (aa rfl) (zz0 (bS rfl rfl) (ad ?_)))))
 refine ao rfl ?_ ?_ <;> intro h1 <;> try simp only [bs] at h1
 ·refine bB (al (aG (ah (zz0 (aa rfl) (zz0 (ab rfl) (ad (aG ?_)))))))
  refine bN (ι := Nat × Array UInt32) (fun ⟨j, c2⟩ => j ≤ i ∧ c2.size = d.size ∧ insInner ltW a j c2 = insInner ltW a i cur) (fun _ => _) (fun ⟨j, c2⟩ => [rowE V 23 an c2.toList]) (fun ⟨j, c2⟩ => [(7, .int .i64 (j : Nat))]) (fun ⟨j, c2⟩ => j) (i, cur) ⟨Nat.le_refl _, hi2, rfl⟩ (Front.c Front.nil) (by repeat' constructor) rfl (fun i hi m hm => ?_)
  obtain ⟨j, c2⟩ := i
  replace hi : j ≤ i ∧ c2.size = d.size ∧ insInner ltW a j c2 = insInner ltW a i cur := hi
  replace hm : m = j := hm
  change Tr _ _ [rowE V 23 an c2.toList] ([(7, .int .i64 (j : Nat))] ++ _) _
  obtain ⟨hj1, hj2, hj3⟩ := hi
  have ej : ((j : Int) - 1).toNat = j - 1 := by omega
  have hc2 : c2.toList.length = d.size := by rw [Array.length_toList]; exact hj2
  refine al (al (gZ aT ?_))
  refine ax (aa rfl) (ax (aa rfl) (ax (eU rfl rfl) (ax (aa rfl) ?_)))
  apply fH
  ·exact (rfl : _ = (11, 19, 30))
  ·exact rfl
  ·intro hT2; have hT2' := hT2
   try simp only [bs] at hT2'
   refine bZ hT2 (aa rfl) (bZ hT2 (aa rfl) (bZ hT2 (dm rfl rfl aj ae) ?_))
   refine bZ hT2 (er rfl am) ?_
   refine bZ hT2 (aa rfl) (bZ hT2 (aa rfl) (bZ hT2 (d6 rfl rfl) ?_))
   refine bZ hT2 (jv rfl rfl aj ae) ?_
   refine bZ hT2 (er rfl am) ?_
   refine bZ hT2 (aC rfl fB (fun w hw => gJ (c2.toList.getD (j) default) (c2.toList.getD (((j : Int) - 1).toNat) default) w)) ?_
   refine ax (aN rfl hT2 rfl) ?_
   exact dl (Sub.cons rfl (zz7 11 rfl))
  ·intro hF2
   refine bY hF2 (bY hF2 (bY hF2 (bY hF2 (bY hF2 (bY hF2 (bY hF2 (bY hF2 (bY hF2 (bY hF2 (ax (aK rfl hF2 rfl) ?_))))))))))
   exact dl (Sub.cons rfl (zz7 11 rfl))
  refine bK ?_
  refine ac ?_
  refine ao rfl ?_ ?_ <;> intro h3 <;> try simp only [bs] at h3
  ·refine bB (al (aG (fK 5 15 aT ?_)))
   refine ei rfl ?_
   refine ei rfl ?_
   refine ei rfl ?_
   refine ei rfl ?_
   refine gp (fun _ => d6 rfl rfl) (by rfl) rfl ?_
   refine bH ?_
   refine ax (aa rfl) (ax (aa rfl) (ax (d6 rfl rfl) ?_))
   refine ax (jv rfl rfl aj ae) ?_
   refine ax (er rfl am) ?_
   refine ax (aa rfl) (ax (aa rfl) (ax (dm rfl rfl aj ae) ?_))
   refine ax (er rfl am) ?_
   refine ax (dm rfl rfl aj ae) ?_
   refine bK ?_
   refine f9 (l := c2.toList) (i := j) (c2.toList.getD (((j : Int) - 1).toNat) default) rfl rfl ae ?_
   have hls4 : (List.set c2.toList (j) (c2.toList.getD (((j : Int) - 1).toNat) default)).length = (c2.toList).length := List.length_set
   refine zz0 (jv rfl rfl aj ae) ?_
   refine f9 (l := (c2.toList.set (j) (c2.toList.getD (((j : Int) - 1).toNat) default))) (i := ((j : Int) - 1).toNat) (c2.toList.getD (j) default) rfl rfl ae ?_
   have hls5 : (List.set (c2.toList.set (j) (c2.toList.getD (((j : Int) - 1).toNat) default)) (((j : Int) - 1).toNat) (c2.toList.getD (j) default)).length = ((c2.toList.set (j) (c2.toList.getD (((j : Int) - 1).toNat) default))).length := List.length_set
   refine az (aX (ac (ar (zz0 (aa rfl) (zz0 (d6 rfl rfl) ?_)))))
   refine zz0 (ab rfl) (ad ?_)
   rw [ej, dQ, dQ, io]
   refine cC (j - 1, _) (Front.c Front.nil) (bA 25 rfl) (o := ⟨by omega, by rw [nR]; exact hj2, by rw [← hj3]; exact (tC (d := c2) (a := a) (j := j) (by omega) (by have q := h3.2; rw [dQ, dQ, ej] at q; exact q)).symm⟩)
  refine bG (aJ (aJ (bj (aX (ac (ar (zz0 (aa rfl) (zz0 (cx rfl rfl) ?_))))))))
  refine zz0 (ab rfl) (ad ?_)
  have hst : insInner ltW a j c2 = c2 := rb (by
   rcases h3 with q | q
   ·exact .inl (by omega)
   ·rw [dQ, dQ, ej] at q; exact .inr q)
  rw [hst] at hj3
  refine cC (i + 1, c2) (Front.c Front.nil) (bA 15 rfl) (o := ⟨by omega, hj2, by rw [hj3, ← zD (by omega)]; exact hi3⟩)
 refine bG (aJ (aJ (bj ?_)))
 refine fq Tryz.results254 (fun w' hw => ?_)
 rw [zF (by omega)] at hi3
 exact ⟨rfl, by rw [← hi3]; exact HpOK.mutOwn hw (.head _) rfl⟩
theorem yZ (d : Array UInt32) (V : Value) (lo : Nat) (top : Nat) (f : Nat) (loi : Int) (topi : Int) (fi : Int) (elo : loi = ((lo : Nat) : Int)) (etop : topi = ((top : Nat) : Int)) (ef : fi = ((f : Nat) : Int)) (w : World) (hr : (rowE V 23 an d.toList).holds w) (hd : d.size ≤ 1000000) (hlo : lo ≤ 1000000) (hb : f + top ≤ d.size) :
  Calls Tryz.prog 293 #[V, .int .i64 loi, .int .i64 topi, .int .i64 fi] w (fun e w' => e = .returned (.tuple #[]) ∧ Mut w w' V ∧ (rowE V 23 an (siftDown ltW top f lo d).toList).holds w') := by
 subst elo etop ef
 refine fF (l := d.toList) (E := an) (T := 23) hr Tryz.func293 rfl Tryz.ntmps293 rfl ?_
 refine ah (zz0 (aa rfl) (zz0 (ab rfl) (ad (aG ?_))))
 refine bN (ι := Nat × Array UInt32) (fun ⟨r, cur⟩ => r ≤ 1000000 ∧ cur.size = d.size ∧ siftDown ltW top f r cur = siftDown ltW top f lo d) (fun _ => _) (fun ⟨r, cur⟩ => [rowE V 23 an cur.toList]) (fun ⟨r, cur⟩ => [(8, .int .i64 (r : Nat))]) (fun ⟨r, cur⟩ => top - r) (lo, d) ⟨hlo, rfl, rfl⟩ (Front.c Front.nil) (by repeat' constructor) rfl (fun i hi m hm => ?_)
 obtain ⟨r, cur⟩ := i
 replace hi : r ≤ 1000000 ∧ cur.size = d.size ∧ siftDown ltW top f r cur = siftDown ltW top f lo d := hi
 replace hm : m = top - r := hm
 change Tr _ _ [rowE V 23 an cur.toList] ([(8, .int .i64 (r : Nat))] ++ _) _
 obtain ⟨hr1, hr2, hr3⟩ := hi
 have hcl : cur.toList.length = d.size := by rw [Array.length_toList]; exact hr2
 refine aG (ah (zz0 (aa rfl) (zz0 (kM rfl rfl (by omega)) ?_)))
 refine zz0 (cx rfl rfl) ?_
 refine zz0 (ab rfl) (ad (al (ah (zz0 (aa rfl) (zz0 (aa rfl) (zz0 (d5 rfl rfl) (ad ?_)))))))
 refine ao rfl ?_ ?_ <;> intro h1 <;> try simp only [bs] at h1
 ·refine bG (aJ (js rfl ?_))
  refine aJ (bj ?_)
  refine fq Tryz.results293 (fun w' hw => ?_)
  rw [y8 (by omega)] at hr3
  exact ⟨rfl, by rw [← hr3]; exact HpOK.mutOwn hw (.head _) rfl⟩
 refine bB ?_
 refine db (ι := Nat) (fun c => (2 * r + 1 ≤ c ∧ c < top) ∧ siftDown ltW top f r cur = if ltW cur[f + r]! cur[f + c]! = true then siftDown ltW top f c (swp cur (f + r) (f + c)) else cur) (fun _ => Bg.less w V) (fun c => [rowE V 23 an cur.toList]) (fun c => [(9, .int .i64 (c : Nat))]) ?_ (fun c hi => ?_)
 ·skip
  refine al (gZ aT ?_)
  refine ax (aa rfl) (ax (cx rfl rfl) ?_)
  refine ax (aa rfl) (ax (bS rfl rfl) (ax (aa rfl) ?_))
  apply fH
  ·exact (rfl : _ = (15, 21, 36))
  ·exact rfl
  ·intro hT2; have hT2' := hT2
   try simp only [bs] at hT2'
   refine bZ hT2 (aa rfl) (bZ hT2 (aa rfl) (bZ hT2 (aa rfl) (bZ hT2 (cx rfl rfl) ?_)))
   refine bZ hT2 (jv rfl rfl aj ae) ?_
   refine bZ hT2 (er rfl am) ?_
   refine bZ hT2 (aa rfl) (bZ hT2 (aa rfl) (bZ hT2 (aa rfl) (bZ hT2 (cx rfl rfl) ?_)))
   refine bZ hT2 (cx rfl rfl) ?_
   refine bZ hT2 (jv rfl rfl aj ae) ?_
   refine bZ hT2 (er rfl am) ?_
   refine bZ hT2 (aC rfl fB (fun w hw => gJ (cur.toList.getD (f + (2 * r + 1)) default) (cur.toList.getD (f + (2 * r + 1) + 1) default) w)) ?_
   refine ax (aN rfl hT2 rfl) ?_
   exact dl (Sub.cons rfl (zz7 15 rfl))
  ·intro hF2
   refine bY hF2 (bY hF2 (bY hF2 (bY hF2 (bY hF2 (bY hF2 (bY hF2 (bY hF2 (bY hF2 (bY hF2 (bY hF2 (bY hF2 (bY hF2 (bY hF2 ?_)))))))))))))
   refine ax (aK rfl hF2 rfl) ?_
   exact dl (Sub.cons rfl (zz7 15 rfl))
  refine bK ?_
  refine ac ?_
  refine ao rfl ?_ ?_ <;> intro h3 <;> try simp only [bs] at h3
  ·refine ar (zz0 (aa rfl) (zz0 (cx rfl rfl) ?_))
   refine zz0 (ab rfl) (ad ?_)
   refine cw (2 * r + 2) (Front.c Front.nil) (bA 9 rfl) (o := ⟨by omega, Er (by omega) (by rw [← dQ, ← dQ]; exact h3.2)⟩)
  refine bB ?_
  apply eh (2 * r + 1)
  ·exact rfl
  ·exact (Front.c Front.nil)
  ·exact bA 6 rfl
  ·exact (by repeat' constructor)
  exact ⟨by omega, Es (by omega) (by
   rcases h3 with q | q
   ·exact .inl (by omega)
   ·exact .inr (by rw [← dQ, ← dQ]; exact q))⟩
 skip
 replace hi : (2 * r + 1 ≤ c ∧ c < top) ∧ siftDown ltW top f r cur = if ltW cur[f + r]! cur[f + c]! = true then siftDown ltW top f c (swp cur (f + r) (f + c)) else cur := hi
 change Tr _ _ [rowE V 23 an cur.toList] ([(9, .int .i64 (c : Nat))] ++ _) _
 obtain ⟨hc1, hc2⟩ := hi
 refine al (al (gZ aT ?_))
 refine ax (aa rfl) (ax (aa rfl) (ax (aa rfl) (ax (cx rfl rfl) ?_)))
 refine ax (dm rfl rfl aj ae) ?_
 refine ax (er rfl am) ?_
 refine ax (aa rfl) (ax (aa rfl) (ax (aa rfl) (ax (cx rfl rfl) ?_)))
 refine ax (dm rfl rfl aj ae) ?_
 refine ax (er rfl am) ?_
 refine ax (aC rfl fB (fun w hw => gJ (cur.toList.getD (f + r) default) (cur.toList.getD (f + c) default) w)) ?_
 refine ax (cj rfl) (bK ?_)
 refine ac ?_
 refine ao rfl ?_ ?_ <;> intro h4 <;> try simp only [bs] at h4
 ·refine aD (aB (bv (aB (bv ?_))))
  refine lD Tryz.results293 (fun w' hw => ?_)
  rw [if_neg (by rw [← dQ, ← dQ]; simp_all)] at hc2
  exact ⟨rfl, by rw [← hr3, hc2]; exact HpOK.mutOwn hw (.head _) rfl⟩
 refine bB (al (fK 8 21 aT ?_))
 refine ei rfl ?_
 refine ei rfl ?_
 refine ei rfl ?_
 refine gp (fun _ => cx rfl rfl) (by rfl) rfl ?_
 refine ei rfl ?_
 refine ei rfl ?_
 refine ei rfl ?_
 refine gp (fun _ => cx rfl rfl) (by rfl) rfl ?_
 refine bH ?_
 refine ax (aa rfl) (ax (aa rfl) (ax (aa rfl) (ax (cx rfl rfl) ?_)))
 refine ax (dm rfl rfl aj ae) ?_
 refine ax (er rfl am) ?_
 refine ax (aa rfl) (ax (aa rfl) (ax (aa rfl) (ax (cx rfl rfl) ?_)))
 refine ax (dm rfl rfl aj ae) ?_
 refine ax (er rfl am) ?_
 refine ax (dm rfl rfl aj ae) ?_
 refine bK ?_
 refine f9 (l := cur.toList) (i := f + r) (cur.toList.getD (f + c) default) rfl rfl ae ?_
 have hls5 : (List.set cur.toList (f + r) (cur.toList.getD (f + c) default)).length = (cur.toList).length := List.length_set
 refine zz0 (dm rfl rfl aj ae) ?_
 refine f9 (l := (cur.toList.set (f + r) (cur.toList.getD (f + c) default))) (i := f + c) (cur.toList.getD (f + r) default) rfl rfl ae ?_
 have hls6 : (List.set (cur.toList.set (f + r) (cur.toList.getD (f + c) default)) (f + c) (cur.toList.getD (f + r) default)).length = ((cur.toList.set (f + r) (cur.toList.getD (f + c) default))).length := List.length_set
 refine ad (ar (zz0 (aa rfl) (zz0 (ab rfl) (az (aX (ac ?_))))))
 rw [dQ, dQ, io]
 have hst := hc2
 rw [if_pos (by rw [← dQ, ← dQ]; simp_all)] at hst
 refine cC (c, _) (Front.c Front.nil) (bA 47 rfl) (o := ⟨by omega, by rw [nR]; exact hr2, by rw [← hr3]; exact hst.symm⟩)
theorem E7 (d : Array UInt32) (V : Value) (a : Nat) (b : Nat) (ai : Int) (bi : Int) (ea : ai = ((a : Nat) : Int)) (eb : bi = ((b : Nat) : Int)) (w : World) (hr : (rowE V 23 an d.toList).holds w) (hd : d.size ≤ 1000000) (hab : a < b) (hb : b ≤ d.size) :
  Calls Tryz.prog 255 #[V, .int .i64 ai, .int .i64 bi] w (fun e w' => e = .returned (.tuple #[]) ∧ Mut w w' V ∧ (rowE V 23 an (heapSort ltW d a b).toList).holds w') := by
 subst ea eb
 obtain ⟨n, hn⟩ : ∃ n, n = b - a := ⟨_, rfl⟩
 obtain ⟨d0, hd0⟩ : ∃ x, x = heapBuild ltW n a ((n - 1) / 2 + 1) d := ⟨_, rfl⟩
 have hhs : heapSort ltW d a b = heapPop ltW a n d0 := by rw [hd0, hn]; rfl
 refine fF (l := d.toList) (E := an) (T := 23) hr Tryz.func255 rfl Tryz.ntmps255 rfl ?_
 refine ah (zz0 (aa rfl) (zz0 (ab rfl) (aL (zz0 (ab rfl) (aL (zz0 (aa rfl) ?_))))))
 refine zz0 (aa rfl) (zz0 (d6 rfl rfl) ?_)
 refine zz0 (ab rfl) (ad (al (al ?_)))
 rw [show ((b : Nat) : Int) - ((a : Nat) : Int) = ((n : Nat) : Int) by omega]
 refine ar (zz0 (aa rfl) (zz0 (d6 rfl rfl) ?_))
 refine zz0 (oH rfl rfl (by omega)) ?_
 refine zz0 (ab rfl) (ad (aG ?_))
 refine bN (ι := Nat × Array UInt32) (fun ⟨k, cur⟩ => k ≤ (n - 1) / 2 + 1 ∧ cur.size = d.size ∧ heapBuild ltW n a k cur = d0) (fun _ => _) (fun ⟨k, cur⟩ => [rowE V 23 an cur.toList]) (fun ⟨k, cur⟩ => [(9, .int .i64 ((k : Int) - 1))]) (fun ⟨k, cur⟩ => k) ((n - 1) / 2 + 1, d) ⟨Nat.le_refl _, rfl, hd0.symm⟩ (Front.c Front.nil) (by repeat' constructor) rfl (fun i hi m hm => ?_)
 obtain ⟨k, cur⟩ := i
 replace hi : k ≤ (n - 1) / 2 + 1 ∧ cur.size = d.size ∧ heapBuild ltW n a k cur = d0 := hi
 replace hm : m = k := hm
 change Tr _ _ [rowE V 23 an cur.toList] ([(9, .int .i64 ((k : Int) - 1))] ++ _) _
 obtain ⟨hk1, hk2, hk3⟩ := hi
 have hcl : cur.toList.length = d.size := by rw [Array.length_toList]; exact hk2
 refine al (ah (zz0 (aa rfl) (zz0 (d5 rfl rfl) (ad ?_))))
 refine ao rfl ?_ ?_ <;> intro h1 <;> try simp only [bs] at h1
 ·refine bB (al (aG (ar (zz0 (aa rfl) (zz0 (aa rfl) (zz0 (aa rfl) (zz0 (aa rfl) (dY rfl Tryz.call293 (by repeat constructor) (fun w hw => yZ cur V (k - 1) n a _ _ _ (by omega) (by omega) (by omega) w (hw.ent _ (.head _)) (by omega) (by omega) (by omega)) rfl ?_))))))))
  refine az (aX (ac (ar (zz0 (aa rfl) (zz0 (d6 rfl rfl) ?_)))))
  refine zz0 (ab rfl) (ad ?_)
  have hst : heapBuild ltW n a (k - 1) (siftDown ltW n a (k - 1) cur) = d0 := by
   obtain ⟨q, rfl⟩ : ∃ q, k = q + 1 := ⟨k - 1, by omega⟩
   exact hk3
  refine cC (k - 1, _) (Front.c Front.nil) (bA 11 rfl) (o := ⟨by omega, by rw [HK]; exact hk2, hst⟩)
 refine bG (aJ (aJ (bj (ac (al ?_)))))
 obtain rfl : k = 0 := by omega
 have hd1 : cur = d0 := hk3
 subst hd1
 refine ar (zz0 (aa rfl) (zz0 (d6 rfl rfl) ?_))
 refine zz0 (ab rfl) (ad (aG ?_))
 refine bN (ι := Nat × Array UInt32) (fun ⟨k, cur⟩ => k ≤ n ∧ cur.size = d.size ∧ heapPop ltW a k cur = heapSort ltW d a b) (fun _ => _) (fun ⟨k, cur⟩ => [rowE V 23 an cur.toList]) (fun ⟨k, cur⟩ => [(10, .int .i64 ((k : Int) - 1))]) (fun ⟨k, cur⟩ => k) (n, _) ⟨Nat.le_refl _, hk2, hhs.symm⟩ (Front.c Front.nil) (by repeat' constructor) rfl (fun i hi m hm => ?_)
 obtain ⟨k, cur⟩ := i
 replace hi : k ≤ n ∧ cur.size = d.size ∧ heapPop ltW a k cur = heapSort ltW d a b := hi
 replace hm : m = k := hm
 change Tr _ _ [rowE V 23 an cur.toList] ([(10, .int .i64 ((k : Int) - 1))] ++ _) _
 obtain ⟨hk1, hk2, hk3⟩ := hi
 have hcl : cur.toList.length = d.size := by rw [Array.length_toList]; exact hk2
 have ek : ((a : Int) + ((k : Int) - 1)).toNat = a + (k - 1) ∨ k = 0 := by omega
 refine al (ah (zz0 (aa rfl) (zz0 (d5 rfl rfl) (ad ?_))))
 refine ao rfl ?_ ?_ <;> intro h2 <;> try simp only [bs] at h2
 ·refine bB (al (aG (al (fK 6 17 aT ?_))))
  refine ei rfl ?_
  refine ei rfl ?_
  refine ei rfl ?_
  refine ei rfl ?_
  refine ei rfl ?_
  refine gp (fun _ => cx rfl rfl) (by rfl) rfl ?_
  refine bH ?_
  refine ax (aa rfl) (ax (aa rfl) (ax (aa rfl) (ax (cx rfl rfl) ?_)))
  refine ax (jv rfl rfl aj ae) ?_
  refine ax (er rfl am) ?_
  refine ax (aa rfl) (ax (aa rfl) (ax (dm rfl rfl aj ae) ?_))
  refine ax (er rfl am) ?_
  refine ax (dm rfl rfl aj ae) ?_
  refine bK ?_
  refine f9 (l := cur.toList) (i := a) (cur.toList.getD (((a : Int) + ((k : Int) - 1)).toNat) default) rfl rfl ae ?_
  have hls3 : (List.set cur.toList (a) (cur.toList.getD (((a : Int) + ((k : Int) - 1)).toNat) default)).length = (cur.toList).length := List.length_set
  refine zz0 (jv rfl rfl aj ae) ?_
  refine f9 (l := (cur.toList.set (a) (cur.toList.getD (((a : Int) + ((k : Int) - 1)).toNat) default))) (i := ((a : Int) + ((k : Int) - 1)).toNat) (cur.toList.getD (a) default) rfl rfl ae ?_
  have hls4 : (List.set (cur.toList.set (a) (cur.toList.getD (((a : Int) + ((k : Int) - 1)).toNat) default)) (((a : Int) + ((k : Int) - 1)).toNat) (cur.toList.getD (a) default)).length = ((cur.toList.set (a) (cur.toList.getD (((a : Int) + ((k : Int) - 1)).toNat) default))).length := List.length_set
  rw [ek.resolve_right (by omega), dQ, dQ, io]
  refine ad (ar (zz0 (aa rfl) (zz0 (aa rfl) (zz0 (aa rfl) (zz0 (aa rfl) (dY rfl Tryz.call293 (by repeat constructor) (fun w hw => yZ (swp cur a (a + (k - 1))) V 0 (k - 1) a _ _ _ (by omega) (by omega) (by omega) w (hw.ent _ (.head _)) (by rw [nR]; omega) (by omega) (by rw [nR]; omega)) rfl ?_))))))
  refine az (aX (ac (ar (zz0 (aa rfl) (zz0 (d6 rfl rfl) ?_)))))
  refine zz0 (ab rfl) (ad ?_)
  have hst : heapPop ltW a (k - 1) (siftDown ltW (k - 1) a 0 (swp cur a (a + (k - 1)))) = heapSort ltW d a b := by
   obtain ⟨q, rfl⟩ : ∃ q, k = q + 1 := ⟨k - 1, by omega⟩
   exact hk3
  refine cC (k - 1, _) (Front.c Front.nil) (bA 29 rfl) (o := ⟨by omega, by rw [HK, nR]; exact hk2, hst⟩)
 refine bG (aJ (aJ (bj ?_)))
 refine fq Tryz.results255 (fun w' hw => ?_)
 obtain rfl : k = 0 := by omega
 exact ⟨rfl, by rw [← hk3]; exact HpOK.mutOwn hw (.head _) rfl⟩
theorem zd (d : Array UInt32) (V : Value) (a : Nat) (b : Nat) (ai : Int) (bi : Int) (ea : ai = ((a : Nat) : Int)) (eb : bi = ((b : Nat) : Int)) (w : World) (hr : (rowE V 23 an d.toList).holds w) (hd : d.size ≤ 1000000) (hab : a < b) (hb : b ≤ d.size) :
  Calls Tryz.prog 258 #[V, .int .i64 ai, .int .i64 bi] w (fun e w' => e = .returned (.tuple #[]) ∧ Mut w w' V ∧ (rowE V 23 an (reverseRange d a b).toList).holds w') := by
 subst ea eb
 refine fF (l := d.toList) (E := an) (T := 23) hr Tryz.func258 rfl Tryz.ntmps258 rfl ?_
 refine ah (zz0 (aa rfl) (zz0 (ab rfl) (aL (zz0 (aa rfl) (zz0 (d6 rfl rfl) ?_)))))
 refine zz0 (ab rfl) (ad (aG ?_))
 refine bN (ι := Nat × Nat × Array UInt32) (fun ⟨i, j, cur⟩ => (a ≤ i ∧ j < b) ∧ cur.size = d.size ∧ reverseLoop i j cur = reverseRange d a b) (fun _ => _) (fun ⟨i, j, cur⟩ => [rowE V 23 an cur.toList]) (fun ⟨i, j, cur⟩ => [(6, .int .i64 (i : Nat)), (7, .int .i64 (j : Nat))]) (fun ⟨i, j, cur⟩ => j - i) (a, b - 1, d) ⟨⟨Nat.le_refl _, by omega⟩, rfl, rfl⟩ (Front.c (Front.c Front.nil)) (by repeat' constructor) rfl (fun i hi m hm => ?_)
 obtain ⟨i, j, cur⟩ := i
 replace hi : (a ≤ i ∧ j < b) ∧ cur.size = d.size ∧ reverseLoop i j cur = reverseRange d a b := hi
 replace hm : m = j - i := hm
 change Tr _ _ [rowE V 23 an cur.toList] ([(6, .int .i64 (i : Nat)), (7, .int .i64 (j : Nat))] ++ _) _
 obtain ⟨hi1, hi2, hi3⟩ := hi
 have hcl : cur.toList.length = d.size := by rw [Array.length_toList]; exact hi2
 refine al (ah (zz0 (aa rfl) (zz0 (aa rfl) (zz0 (bS rfl rfl) (ad ?_)))))
 refine ao rfl ?_ ?_ <;> intro h1 <;> try simp only [bs] at h1
 ·refine bB (aG (al (fK 4 13 aT ?_)))
  refine ei rfl ?_
  refine ei rfl ?_
  refine ei rfl ?_
  refine ei rfl ?_
  refine bH ?_
  refine ax (aa rfl) (ax (aa rfl) (ax (dm rfl rfl aj ae) ?_))
  refine ax (er rfl am) ?_
  refine ax (aa rfl) (ax (aa rfl) (ax (dm rfl rfl aj ae) ?_))
  refine ax (er rfl am) ?_
  refine ax (dm rfl rfl aj ae) ?_
  refine bK ?_
  refine f9 (l := cur.toList) (i := i) (cur.toList.getD (j) default) rfl rfl ae ?_
  have hls2 : (List.set cur.toList (i) (cur.toList.getD (j) default)).length = (cur.toList).length := List.length_set
  refine zz0 (dm rfl rfl aj ae) ?_
  refine f9 (l := (cur.toList.set (i) (cur.toList.getD (j) default))) (i := j) (cur.toList.getD (i) default) rfl rfl ae ?_
  have hls3 : (List.set (cur.toList.set (i) (cur.toList.getD (j) default)) (j) (cur.toList.getD (i) default)).length = ((cur.toList.set (i) (cur.toList.getD (j) default))).length := List.length_set
  refine aL (zz0 (aa rfl) (zz0 (cx rfl rfl) ?_))
  refine zz0 (ab rfl) (ad (ar (zz0 (aa rfl) (zz0 (d6 rfl rfl) ?_))))
  refine zz0 (ab rfl) (az (aX (ac ?_)))
  rw [dQ, dQ, io]
  refine cC (i + 1, j - 1, _) (Front.c (Front.c Front.nil)) (bA 25 rfl) (o := ⟨⟨by omega, by omega⟩, by rw [nR]; exact hi2, by rw [← H5 (by omega)]; exact hi3⟩)
 refine bG (aJ (aJ (bj ?_)))
 refine fq Tryz.results258 (fun w' hw => ?_)
 rw [EB (by omega)] at hi3
 exact ⟨rfl, by rw [← hi3]; exact HpOK.mutOwn hw (.head _) rfl⟩
theorem vF (d : Array UInt32) (V : Value) (a : Nat) (b : Nat) (p : Nat) (ai : Int) (bi : Int) (pi : Int) (ea : ai = ((a : Nat) : Int)) (eb : bi = ((b : Nat) : Int)) (ep : pi = ((p : Nat) : Int)) (w : World) (hr : (rowE V 23 an d.toList).holds w) (hd : d.size ≤ 1000000) (hab : a + 1 < b) (hb : b ≤ d.size) (hp : p < b) :
  Calls Tryz.prog 262 #[V, .int .i64 ai, .int .i64 bi, .int .i64 pi] w (fun e w' => e = .returned (.tuple #[.int .i64 ((partition ltW d a b p).1 : Nat), .bool (partition ltW d a b p).2.1]) ∧ Mut w w' V ∧ (rowE V 23 an (partition ltW d a b p).2.2.toList).holds w') := by
 subst ea eb ep
 obtain ⟨d1, hd1⟩ : ∃ x, x = swp d a p := ⟨_, rfl⟩
 have hs1 : d1.size = d.size := by rw [hd1, nR]
 have hl0 : d.toList.length = d.size := Array.length_toList
 have hl1 : d1.toList.length = d.size := by rw [Array.length_toList]; exact hs1
 obtain ⟨P, hP⟩ : ∃ P : UInt32 → Bool, P = fun x => ltW x d1[a]! := ⟨_, rfl⟩
 refine fF (l := d.toList) (E := an) (T := 23) hr Tryz.func262 rfl Tryz.ntmps262 rfl ?_
 refine ah (zz0 (ab rfl) (zz0 (ab rfl) (ad (al (fK 4 13 aT ?_)))))
 refine ei rfl ?_
 refine ei rfl ?_
 refine ei rfl ?_
 refine ei rfl ?_
 refine bH ?_
 refine ax (aa rfl) (ax (aa rfl) (ax (dm rfl rfl aj ae) ?_))
 refine ax (er rfl am) ?_
 refine ax (aa rfl) (ax (aa rfl) (ax (dm rfl rfl aj ae) ?_))
 refine ax (er rfl am) ?_
 refine ax (dm rfl rfl aj ae) ?_
 refine bK ?_
 refine f9 (l := d.toList) (i := a) (d.toList.getD (p) default) rfl rfl ae ?_
 have hls1 : (List.set d.toList (a) (d.toList.getD (p) default)).length = (d.toList).length := List.length_set
 refine zz0 (dm rfl rfl aj ae) ?_
 refine f9 (l := (d.toList.set (a) (d.toList.getD (p) default))) (i := p) (d.toList.getD (a) default) rfl rfl ae ?_
 have hls2 : (List.set (d.toList.set (a) (d.toList.getD (p) default)) (p) (d.toList.getD (a) default)).length = ((d.toList.set (a) (d.toList.getD (p) default))).length := List.length_set
 rw [dQ, dQ, io, ← hd1]
 refine aL (zz0 (aa rfl) (zz0 (cx rfl rfl) ?_))
 refine zz0 (aa rfl) (zz0 (d6 rfl rfl) ?_)
 refine zz0 (ab rfl) (zz0 (ab rfl) (ad (al (aG ?_))))
 refine bN (ι := Nat) (fun i => a + 1 ≤ i ∧ i ≤ b ∧ scanUp (fun x => ltW x d1[a]!) d1 (b - 1) i = scanUp (fun x => ltW x d1[a]!) d1 (b - 1) (a + 1)) (fun _ => _) (fun i => [rowE V 23 an d1.toList]) (fun i => [(10, .int .i64 (i : Nat)), (11, .int .i64 ((b : Int) - 1))]) (fun i => b - i) (a + 1) ⟨Nat.le_refl _, by omega, rfl⟩ (Front.c (Front.c Front.nil)) (by repeat' constructor) rfl (fun i hi m hm => ?_)
 replace hi : a + 1 ≤ i ∧ i ≤ b ∧ scanUp (fun x => ltW x d1[a]!) d1 (b - 1) i = scanUp (fun x => ltW x d1[a]!) d1 (b - 1) (a + 1) := hi
 replace hm : m = b - i := hm
 change Tr _ _ [rowE V 23 an d1.toList] ([(10, .int .i64 (i : Nat)), (11, .int .i64 ((b : Int) - 1))] ++ _) _
 obtain ⟨hi1, hi2, hi3⟩ := hi
 refine al (al (gZ aT ?_))
 refine ax (aa rfl) (ax (aa rfl) (ax (fE rfl rfl) (ax (aa rfl) ?_)))
 apply fH
 ·exact (rfl : _ = (10, 33, 43))
 ·exact rfl
 ·intro hT3; have hT3' := hT3
  try simp only [bs] at hT3'
  refine bZ hT3 (aa rfl) (bZ hT3 (aa rfl) (bZ hT3 (dm rfl rfl aj ae) ?_))
  refine bZ hT3 (er rfl am) ?_
  refine bZ hT3 (aa rfl) (bZ hT3 (aa rfl) (bZ hT3 (dm rfl rfl aj ae) ?_))
  refine bZ hT3 (er rfl am) ?_
  refine bZ hT3 (aC rfl fB (fun w hw => gJ (d1.toList.getD (i) default) (d1.toList.getD (a) default) w)) ?_
  refine ax (aN rfl hT3 rfl) ?_
  exact dl (Sub.cons rfl (zz7 10 rfl))
 ·intro hF3
  refine bY hF3 (bY hF3 (bY hF3 (bY hF3 (bY hF3 (bY hF3 (bY hF3 (bY hF3 (bY hF3 (ax (aK rfl hF3 rfl) ?_)))))))))
  exact dl (Sub.cons rfl (zz7 10 rfl))
 refine bK ?_
 refine ac ?_
 refine ao rfl ?_ ?_ <;> intro h4 <;> try simp only [bs] at h4
 ·refine bB (aG (ar (zz0 (aa rfl) (zz0 (cx rfl rfl) ?_))))
  refine zz0 (ab rfl) (az (aX (ac ?_)))
  refine cC (i + 1) (Front.c (Front.c Front.nil)) (bA 10 rfl) (o := ⟨by omega, by omega, by rw [← hi3]; exact (Ee (by omega) (by rw [← dQ, ← dQ]; exact h4.2)).symm⟩)
 refine bG (aJ (aJ (bj (ac (al (aG ?_))))))
 refine bN (ι := Nat) (fun j => j < b ∧ i ≤ j + 1 ∧ scanDown (fun x => !ltW x d1[a]!) d1 i j = scanDown (fun x => !ltW x d1[a]!) d1 i (b - 1)) (fun _ => _) (fun j => [rowE V 23 an d1.toList]) (fun j => [(10, .int .i64 (i : Nat)), (11, .int .i64 (j : Nat))]) (fun j => j) (b - 1) ⟨by omega, by omega, rfl⟩ (Front.c (Front.c Front.nil)) (by repeat' constructor) rfl (fun j hi m hm => ?_)
 replace hi : j < b ∧ i ≤ j + 1 ∧ scanDown (fun x => !ltW x d1[a]!) d1 i j = scanDown (fun x => !ltW x d1[a]!) d1 i (b - 1) := hi
 replace hm : m = j := hm
 change Tr _ _ [rowE V 23 an d1.toList] ([(10, .int .i64 (i : Nat)), (11, .int .i64 (j : Nat))] ++ _) _
 obtain ⟨hj1, hj2, hj3⟩ := hi
 refine al (al (gZ aT ?_))
 refine ax (aa rfl) (ax (aa rfl) (ax (fE rfl rfl) (ax (aa rfl) ?_)))
 apply fH
 ·exact (rfl : _ = (11, 49, 60))
 ·exact rfl
 ·intro hT5; have hT5' := hT5
  try simp only [bs] at hT5'
  refine bZ hT5 (aa rfl) (bZ hT5 (aa rfl) (bZ hT5 (dm rfl rfl aj ae) ?_))
  refine bZ hT5 (er rfl am) ?_
  refine bZ hT5 (aa rfl) (bZ hT5 (aa rfl) (bZ hT5 (dm rfl rfl aj ae) ?_))
  refine bZ hT5 (er rfl am) ?_
  refine bZ hT5 (aC rfl fB (fun w hw => gJ (d1.toList.getD (j) default) (d1.toList.getD (a) default) w)) ?_
  refine bZ hT5 (cj rfl) (ax (aN rfl hT5 rfl) ?_)
  exact dl (Sub.cons rfl (zz7 11 rfl))
 ·intro hF5
  refine bY hF5 (bY hF5 (bY hF5 (bY hF5 (bY hF5 (bY hF5 (bY hF5 (bY hF5 (bY hF5 (bY hF5 (ax (aK rfl hF5 rfl) ?_))))))))))
  exact dl (Sub.cons rfl (zz7 11 rfl))
 refine bK ?_
 refine ac ?_
 refine ao rfl ?_ ?_ <;> intro h6 <;> try simp only [bs] at h6
 ·refine bB (aG (ar (zz0 (aa rfl) (zz0 (d6 rfl rfl) ?_))))
  refine zz0 (ab rfl) (az (aX (ac ?_)))
  refine cC (j - 1) (Front.c (Front.c Front.nil)) (bA 10 rfl) (o := ⟨by omega, by omega, by rw [← hj3]; exact (yf (by omega) (by omega) (by rw [← dQ, ← dQ]; simp_all)).symm⟩)
 refine bG (aJ (aJ (bj (ac (al (al ?_))))))
 have hI : scanUp (fun x => ltW x d1[a]!) d1 (b - 1) (a + 1) = i := by
  rw [← hi3]; exact xn (by
   rcases h4 with q | q
   ·exact .inl (by omega)
   ·exact .inr (by rw [← dQ, ← dQ]; exact q))
 have hJ : scanDown (fun x => !ltW x d1[a]!) d1 i (b - 1) = j := by
  rw [← hj3]; exact sC (by
   rcases h6 with q | q
   ·exact .inl (by omega)
   ·exact .inr (by rw [← dQ, ← dQ, q]; rfl))
 refine ar (zz0 (aa rfl) (zz0 (aa rfl) (zz0 (eU rfl rfl) (ad ?_))))
 refine ao rfl ?_ ?_ <;> intro h7 <;> try simp only [bs] at h7
 ·refine al (fK 4 13 aT ?_)
  refine ei rfl ?_
  refine ei rfl ?_
  refine ei rfl ?_
  refine ei rfl ?_
  refine bH ?_
  refine ax (aa rfl) (ax (aa rfl) (ax (dm rfl rfl aj ae) ?_))
  refine ax (er rfl am) ?_
  refine ax (aa rfl) (ax (aa rfl) (ax (dm rfl rfl aj ae) ?_))
  refine ax (er rfl am) ?_
  refine ax (dm rfl rfl aj ae) ?_
  refine bK ?_
  refine f9 (l := d1.toList) (i := j) (d1.toList.getD (a) default) rfl rfl ae ?_
  have hls8 : (List.set d1.toList (j) (d1.toList.getD (a) default)).length = (d1.toList).length := List.length_set
  refine zz0 (dm rfl rfl aj ae) ?_
  refine f9 (l := (d1.toList.set (j) (d1.toList.getD (a) default))) (i := a) (d1.toList.getD (j) default) rfl rfl ae ?_
  have hls9 : (List.set (d1.toList.set (j) (d1.toList.getD (a) default)) (a) (d1.toList.getD (j) default)).length = ((d1.toList.set (j) (d1.toList.getD (a) default))).length := List.length_set
  rw [dQ, dQ, io]
  refine aL (zz0 (aa rfl) (zz0 (ab rfl) (zz0 (ab rfl) (ad (aD (aB ?_))))))
  refine dI Tryz.results262 rfl rfl (fun w' hw => ?_)
  have hpt : partition ltW d a b p = (j, true, swp d1 j a) := by
   unfold partition; simp only [← hd1, hI, hJ]; rw [if_pos (by omega)]
  exact ⟨by rw [hpt], by rw [hpt]; exact HpOK.mutOwn hw (.head _) rfl⟩
 refine bB (al ?_)
 have hij : i < j := by
  rcases Nat.lt_or_ge i j with q | q
  ·exact q
  ·exfalso
   have e : i = j := by omega
   rcases h4 with g1 | g1
   ·omega
   ·rcases h6 with g2 | g2
    ·omega
    ·rw [e, g2] at g1; cases g1
 refine fK 4 13 aT ?_
 refine ei rfl ?_
 refine ei rfl ?_
 refine ei rfl ?_
 refine ei rfl ?_
 refine bH ?_
 refine ax (aa rfl) (ax (aa rfl) (ax (dm rfl rfl aj ae) ?_))
 refine ax (er rfl am) ?_
 refine ax (aa rfl) (ax (aa rfl) (ax (dm rfl rfl aj ae) ?_))
 refine ax (er rfl am) ?_
 refine ax (dm rfl rfl aj ae) ?_
 refine bK ?_
 refine f9 (l := d1.toList) (i := i) (d1.toList.getD (j) default) rfl rfl ae ?_
 have hls10 : (List.set d1.toList (i) (d1.toList.getD (j) default)).length = (d1.toList).length := List.length_set
 refine zz0 (dm rfl rfl aj ae) ?_
 refine f9 (l := (d1.toList.set (i) (d1.toList.getD (j) default))) (i := j) (d1.toList.getD (i) default) rfl rfl ae ?_
 have hls11 : (List.set (d1.toList.set (i) (d1.toList.getD (j) default)) (j) (d1.toList.getD (i) default)).length = ((d1.toList.set (i) (d1.toList.getD (j) default))).length := List.length_set
 rw [dQ, dQ, io]
 refine aL (zz0 (aa rfl) (zz0 (cx rfl rfl) ?_))
 refine zz0 (ab rfl) (aL (zz0 (aa rfl) (zz0 (d6 rfl rfl) ?_)))
 refine zz0 (ab rfl) (ad (al (aG ?_)))
 refine bN (ι := Nat × Nat × Array UInt32) (fun ⟨i3, j3, cur⟩ => (a + 1 ≤ i3 ∧ i3 ≤ j3 + 1 ∧ j3 < b) ∧ cur.size = d.size ∧ partLoop ltW a i3 j3 cur = partLoop ltW a (i + 1) (j - 1) (swp d1 i j)) (fun _ => _) (fun ⟨i3, j3, cur⟩ => [rowE V 23 an cur.toList]) (fun ⟨i3, j3, cur⟩ => [(10, .int .i64 (i3 : Nat)), (11, .int .i64 (j3 : Nat))]) (fun ⟨i3, j3, cur⟩ => j3 + 1 - i3) (i + 1, j - 1, swp d1 i j) ⟨by omega, by rw [nR]; exact hs1, rfl⟩ (Front.c (Front.c Front.nil)) (by repeat' constructor) rfl (fun i hi m hm => ?_)
 obtain ⟨i3, j3, cur⟩ := i
 replace hi : (a + 1 ≤ i3 ∧ i3 ≤ j3 + 1 ∧ j3 < b) ∧ cur.size = d.size ∧ partLoop ltW a i3 j3 cur = partLoop ltW a (i + 1) (j - 1) (swp d1 i j) := hi
 replace hm : m = j3 + 1 - i3 := hm
 change Tr _ _ [rowE V 23 an cur.toList] ([(10, .int .i64 (i3 : Nat)), (11, .int .i64 (j3 : Nat))] ++ _) _
 obtain ⟨hk1, hk2, hk3⟩ := hi
 have hcl : cur.toList.length = d.size := by rw [Array.length_toList]; exact hk2
 refine aG (al (aG ?_))
 refine bN (ι := Nat) (fun x => i3 ≤ x ∧ x ≤ j3 + 1 ∧ scanUp (fun z => ltW z cur[a]!) cur j3 x = scanUp (fun z => ltW z cur[a]!) cur j3 i3) (fun _ => _) (fun x => [rowE V 23 an cur.toList]) (fun x => [(10, .int .i64 (x : Nat)), (11, .int .i64 (j3 : Nat))]) (fun x => j3 + 1 - x) i3 ⟨Nat.le_refl _, by omega, rfl⟩ (Front.c (Front.c Front.nil)) (by repeat' constructor) rfl (fun x hi m hm => ?_)
 replace hi : i3 ≤ x ∧ x ≤ j3 + 1 ∧ scanUp (fun z => ltW z cur[a]!) cur j3 x = scanUp (fun z => ltW z cur[a]!) cur j3 i3 := hi
 replace hm : m = j3 + 1 - x := hm
 change Tr _ _ [rowE V 23 an cur.toList] ([(10, .int .i64 (x : Nat)), (11, .int .i64 (j3 : Nat))] ++ _) _
 obtain ⟨hx1, hx2, hx3⟩ := hi
 refine al (al (gZ aT ?_))
 refine ax (aa rfl) (ax (aa rfl) (ax (fE rfl rfl) (ax (aa rfl) ?_)))
 apply fH
 ·exact (rfl : _ = (10, 102, 112))
 ·exact rfl
 ·intro hT12; have hT12' := hT12
  try simp only [bs] at hT12'
  refine bZ hT12 (aa rfl) (bZ hT12 (aa rfl) (bZ hT12 (dm rfl rfl aj ae) ?_))
  refine bZ hT12 (er rfl am) ?_
  refine bZ hT12 (aa rfl) (bZ hT12 (aa rfl) (bZ hT12 (dm rfl rfl aj ae) ?_))
  refine bZ hT12 (er rfl am) ?_
  refine bZ hT12 (aC rfl fB (fun w hw => gJ (cur.toList.getD (x) default) (cur.toList.getD (a) default) w)) ?_
  refine ax (aN rfl hT12 rfl) ?_
  exact dl (Sub.cons rfl (zz7 10 rfl))
 ·intro hF12
  refine bY hF12 (bY hF12 (bY hF12 (bY hF12 (bY hF12 (bY hF12 (bY hF12 (bY hF12 (bY hF12 (ax (aK rfl hF12 rfl) ?_)))))))))
  exact dl (Sub.cons rfl (zz7 10 rfl))
 refine bK ?_
 refine ac ?_
 refine ao rfl ?_ ?_ <;> intro h13 <;> try simp only [bs] at h13
 ·refine bB (aG (ar (zz0 (aa rfl) (zz0 (cx rfl rfl) ?_))))
  refine zz0 (ab rfl) (az (aX (ac ?_)))
  refine cC (x + 1) (Front.c (Front.c Front.nil)) (bA 10 rfl) (o := ⟨by omega, by omega, by rw [← hx3]; exact (Ee (by omega) (by rw [← dQ, ← dQ]; simp_all)).symm⟩)
 refine bG (aJ (aJ (bj (ac (al (aG ?_))))))
 refine bN (ι := Nat) (fun y => y ≤ j3 ∧ x ≤ y + 1 ∧ scanDown (fun z => !ltW z cur[a]!) cur x y = scanDown (fun z => !ltW z cur[a]!) cur x j3) (fun _ => _) (fun y => [rowE V 23 an cur.toList]) (fun y => [(10, .int .i64 (x : Nat)), (11, .int .i64 (y : Nat))]) (fun y => y) j3 ⟨Nat.le_refl _, by omega, rfl⟩ (Front.c (Front.c Front.nil)) (by repeat' constructor) rfl (fun y hi m hm => ?_)
 replace hi : y ≤ j3 ∧ x ≤ y + 1 ∧ scanDown (fun z => !ltW z cur[a]!) cur x y = scanDown (fun z => !ltW z cur[a]!) cur x j3 := hi
 replace hm : m = y := hm
 change Tr _ _ [rowE V 23 an cur.toList] ([(10, .int .i64 (x : Nat)), (11, .int .i64 (y : Nat))] ++ _) _
 obtain ⟨hy1, hy2, hy3⟩ := hi
 refine al (al (gZ aT ?_))
 refine ax (aa rfl) (ax (aa rfl) (ax (fE rfl rfl) (ax (aa rfl) ?_)))
 apply fH
 ·exact (rfl : _ = (11, 118, 129))
 ·exact rfl
 ·intro hT14; have hT14' := hT14
  try simp only [bs] at hT14'
  refine bZ hT14 (aa rfl) (bZ hT14 (aa rfl) (bZ hT14 (dm rfl rfl aj ae) ?_))
  refine bZ hT14 (er rfl am) ?_
  refine bZ hT14 (aa rfl) (bZ hT14 (aa rfl) (bZ hT14 (dm rfl rfl aj ae) ?_))
  refine bZ hT14 (er rfl am) ?_
  refine bZ hT14 (aC rfl fB (fun w hw => gJ (cur.toList.getD (y) default) (cur.toList.getD (a) default) w)) ?_
  refine bZ hT14 (cj rfl) (ax (aN rfl hT14 rfl) ?_)
  exact dl (Sub.cons rfl (zz7 11 rfl))
 ·intro hF14
  refine bY hF14 (bY hF14 (bY hF14 (bY hF14 (bY hF14 (bY hF14 (bY hF14 (bY hF14 (bY hF14 (bY hF14 (ax (aK rfl hF14 rfl) ?_))))))))))
  exact dl (Sub.cons rfl (zz7 11 rfl))
 refine bK ?_
 refine ac ?_
 refine ao rfl ?_ ?_ <;> intro h15 <;> try simp only [bs] at h15
 ·refine bB (aG (ar (zz0 (aa rfl) (zz0 (d6 rfl rfl) ?_))))
  refine zz0 (ab rfl) (az (aX (ac ?_)))
  refine cC (y - 1) (Front.c (Front.c Front.nil)) (bA 10 rfl) (o := ⟨by omega, by omega, by rw [← hy3]; exact (yf (by omega) (by omega) (by rw [← dQ, ← dQ]; simp_all)).symm⟩)
 refine bG (aJ (aJ (bj (ac (al (al ?_))))))
 have hX : scanUp (fun z => ltW z cur[a]!) cur j3 i3 = x := by
  rw [← hx3]; exact xn (by
   rcases h13 with q | q
   ·exact .inl (by omega)
   ·exact .inr (by rw [← dQ, ← dQ]; exact q))
 have hY : scanDown (fun z => !ltW z cur[a]!) cur x j3 = y := by
  rw [← hy3]; exact sC (by
   rcases h15 with q | q
   ·exact .inl (by omega)
   ·exact .inr (by rw [← dQ, ← dQ, q]; rfl))
 refine ar (zz0 (aa rfl) (zz0 (aa rfl) (zz0 (eU rfl rfl) (ad ?_))))
 refine ao rfl ?_ ?_ <;> intro h16 <;> try simp only [bs] at h16
 ·refine bG (aJ (js rfl ?_))
  refine aJ (bj (ac (al (fK 4 13 aT ?_))))
  refine ei rfl ?_
  refine ei rfl ?_
  refine ei rfl ?_
  refine ei rfl ?_
  refine bH ?_
  refine ax (aa rfl) (ax (aa rfl) (ax (dm rfl rfl aj ae) ?_))
  refine ax (er rfl am) ?_
  refine ax (aa rfl) (ax (aa rfl) (ax (dm rfl rfl aj ae) ?_))
  refine ax (er rfl am) ?_
  refine ax (dm rfl rfl aj ae) ?_
  refine bK ?_
  refine f9 (l := cur.toList) (i := y) (cur.toList.getD (a) default) rfl rfl ae ?_
  have hls17 : (List.set cur.toList (y) (cur.toList.getD (a) default)).length = (cur.toList).length := List.length_set
  refine zz0 (dm rfl rfl aj ae) ?_
  refine f9 (l := (cur.toList.set (y) (cur.toList.getD (a) default))) (i := a) (cur.toList.getD (y) default) rfl rfl ae ?_
  have hls18 : (List.set (cur.toList.set (y) (cur.toList.getD (a) default)) (a) (cur.toList.getD (y) default)).length = ((cur.toList.set (y) (cur.toList.getD (a) default))).length := List.length_set
  rw [dQ, dQ, io]
  refine aL (zz0 (aa rfl) (zz0 (ab rfl) (zz0 (ab rfl) (ad (aD ?_)))))
  refine dI Tryz.results262 rfl rfl (fun w' hw => ?_)
  have he := EQ hX hY (by omega)
  have hpt : partition ltW d a b p = (y, false, swp cur y a) := by
   unfold partition; simp only [← hd1, hI, hJ]; rw [if_neg (by omega), ← hk3, he]
  exact ⟨by rw [hpt], by rw [hpt]; exact HpOK.mutOwn hw (.head _) rfl⟩
 refine bB (al ?_)
 have hxy : x < y := by
  rcases Nat.lt_or_ge x y with q | q
  ·exact q
  ·exfalso
   have e : x = y := by omega
   rcases h13 with g1 | g1
   ·omega
   ·rcases h15 with g2 | g2
    ·omega
    ·rw [e, g2] at g1; cases g1
 refine fK 4 13 aT ?_
 refine ei rfl ?_
 refine ei rfl ?_
 refine ei rfl ?_
 refine ei rfl ?_
 refine bH ?_
 refine ax (aa rfl) (ax (aa rfl) (ax (dm rfl rfl aj ae) ?_))
 refine ax (er rfl am) ?_
 refine ax (aa rfl) (ax (aa rfl) (ax (dm rfl rfl aj ae) ?_))
 refine ax (er rfl am) ?_
 refine ax (dm rfl rfl aj ae) ?_
 refine bK ?_
 refine f9 (l := cur.toList) (i := x) (cur.toList.getD (y) default) rfl rfl ae ?_
 have hls19 : (List.set cur.toList (x) (cur.toList.getD (y) default)).length = (cur.toList).length := List.length_set
 refine zz0 (dm rfl rfl aj ae) ?_
 refine f9 (l := (cur.toList.set (x) (cur.toList.getD (y) default))) (i := y) (cur.toList.getD (x) default) rfl rfl ae ?_
 have hls20 : (List.set (cur.toList.set (x) (cur.toList.getD (y) default)) (y) (cur.toList.getD (x) default)).length = ((cur.toList.set (x) (cur.toList.getD (y) default))).length := List.length_set
 refine aL (zz0 (aa rfl) (zz0 (cx rfl rfl) ?_))
 refine zz0 (ab rfl) (ad (ar (zz0 (aa rfl) (zz0 (d6 rfl rfl) ?_))))
 refine zz0 (ab rfl) (az (aX (ac ?_)))
 rw [dQ, dQ, io]
 refine cC (x + 1, y - 1, _) (Front.c (Front.c Front.nil)) (bA 39 rfl) (o := ⟨by omega, by rw [nR]; exact hk2, by rw [← hk3]; exact (zh hX hY hxy hx1 hy1).symm⟩)
theorem tA (d : Array UInt32) (V : Value) (a : Nat) (b : Nat) (p : Nat) (ai : Int) (bi : Int) (pi : Int) (ea : ai = ((a : Nat) : Int)) (eb : bi = ((b : Nat) : Int)) (ep : pi = ((p : Nat) : Int)) (w : World) (hr : (rowE V 23 an d.toList).holds w) (hd : d.size ≤ 1000000) (hab : a + 1 < b) (hb : b ≤ d.size) (hp : p < b) :
  Calls Tryz.prog 261 #[V, .int .i64 ai, .int .i64 bi, .int .i64 pi] w (fun e w' => e = .returned (.int .i64 ((partitionEqual ltW d a b p).1 : Nat)) ∧ Mut w w' V ∧ (rowE V 23 an (partitionEqual ltW d a b p).2.toList).holds w') := by
 subst ea eb ep
 obtain ⟨d1, hd1⟩ : ∃ x, x = swp d a p := ⟨_, rfl⟩
 have hs1 : d1.size = d.size := by rw [hd1, nR]
 have hl0 : d.toList.length = d.size := Array.length_toList
 have hl1 : d1.toList.length = d.size := by rw [Array.length_toList]; exact hs1
 refine fF (l := d.toList) (E := an) (T := 23) hr Tryz.func261 rfl Tryz.ntmps261 rfl ?_
 refine ah (zz0 (ab rfl) (ad (al (fK 4 13 aT ?_))))
 refine ei rfl ?_
 refine ei rfl ?_
 refine ei rfl ?_
 refine ei rfl ?_
 refine bH ?_
 refine ax (aa rfl) (ax (aa rfl) (ax (dm rfl rfl aj ae) ?_))
 refine ax (er rfl am) ?_
 refine ax (aa rfl) (ax (aa rfl) (ax (dm rfl rfl aj ae) ?_))
 refine ax (er rfl am) ?_
 refine ax (dm rfl rfl aj ae) ?_
 refine bK ?_
 refine f9 (l := d.toList) (i := a) (d.toList.getD (p) default) rfl rfl ae ?_
 have hls1 : (List.set d.toList (a) (d.toList.getD (p) default)).length = (d.toList).length := List.length_set
 refine zz0 (dm rfl rfl aj ae) ?_
 refine f9 (l := (d.toList.set (a) (d.toList.getD (p) default))) (i := p) (d.toList.getD (a) default) rfl rfl ae ?_
 have hls2 : (List.set (d.toList.set (a) (d.toList.getD (p) default)) (p) (d.toList.getD (a) default)).length = ((d.toList.set (a) (d.toList.getD (p) default))).length := List.length_set
 rw [dQ, dQ, io, ← hd1]
 refine aL (zz0 (aa rfl) (zz0 (cx rfl rfl) ?_))
 refine zz0 (aa rfl) (zz0 (d6 rfl rfl) ?_)
 refine zz0 (ab rfl) (zz0 (ab rfl) (ad (al (aG ?_))))
 refine bN (ι := Nat × Nat × Array UInt32) (fun ⟨i3, j3, cur⟩ => (a + 1 ≤ i3 ∧ i3 ≤ j3 + 1 ∧ j3 < b) ∧ cur.size = d.size ∧ partEqLoop ltW a i3 j3 cur = partitionEqual ltW d a b p) (fun _ => _) (fun ⟨i3, j3, cur⟩ => [rowE V 23 an cur.toList]) (fun ⟨i3, j3, cur⟩ => [(9, .int .i64 (i3 : Nat)), (10, .int .i64 (j3 : Nat))]) (fun ⟨i3, j3, cur⟩ => j3 + 1 - i3) (a + 1, b - 1, d1) ⟨by omega, hs1, by rw [hd1]; rfl⟩ (Front.c (Front.c Front.nil)) (by repeat' constructor) rfl (fun i hi m hm => ?_)
 obtain ⟨i3, j3, cur⟩ := i
 replace hi : (a + 1 ≤ i3 ∧ i3 ≤ j3 + 1 ∧ j3 < b) ∧ cur.size = d.size ∧ partEqLoop ltW a i3 j3 cur = partitionEqual ltW d a b p := hi
 replace hm : m = j3 + 1 - i3 := hm
 change Tr _ _ [rowE V 23 an cur.toList] ([(9, .int .i64 (i3 : Nat)), (10, .int .i64 (j3 : Nat))] ++ _) _
 obtain ⟨hk1, hk2, hk3⟩ := hi
 have hcl : cur.toList.length = d.size := by rw [Array.length_toList]; exact hk2
 refine aG (al (aG ?_))
 refine bN (ι := Nat) (fun x => i3 ≤ x ∧ x ≤ j3 + 1 ∧ scanUp (fun z => !ltW cur[a]! z) cur j3 x = scanUp (fun z => !ltW cur[a]! z) cur j3 i3) (fun _ => _) (fun x => [rowE V 23 an cur.toList]) (fun x => [(9, .int .i64 (x : Nat)), (10, .int .i64 (j3 : Nat))]) (fun x => j3 + 1 - x) i3 ⟨Nat.le_refl _, by omega, rfl⟩ (Front.c (Front.c Front.nil)) (by repeat' constructor) rfl (fun x hi m hm => ?_)
 replace hi : i3 ≤ x ∧ x ≤ j3 + 1 ∧ scanUp (fun z => !ltW cur[a]! z) cur j3 x = scanUp (fun z => !ltW cur[a]! z) cur j3 i3 := hi
 replace hm : m = j3 + 1 - x := hm
 change Tr _ _ [rowE V 23 an cur.toList] ([(9, .int .i64 (x : Nat)), (10, .int .i64 (j3 : Nat))] ++ _) _
 obtain ⟨hx1, hx2, hx3⟩ := hi
 refine al (al (gZ aT ?_))
 refine ax (aa rfl) (ax (aa rfl) (ax (fE rfl rfl) (ax (aa rfl) ?_)))
 apply fH
 ·exact (rfl : _ = (11, 32, 43))
 ·exact rfl
 ·intro hT3; have hT3' := hT3
  try simp only [bs] at hT3'
  refine bZ hT3 (aa rfl) (bZ hT3 (aa rfl) (bZ hT3 (dm rfl rfl aj ae) ?_))
  refine bZ hT3 (er rfl am) ?_
  refine bZ hT3 (aa rfl) (bZ hT3 (aa rfl) (bZ hT3 (dm rfl rfl aj ae) ?_))
  refine bZ hT3 (er rfl am) ?_
  refine bZ hT3 (aC rfl fB (fun w hw => gJ (cur.toList.getD (a) default) (cur.toList.getD (x) default) w)) ?_
  refine bZ hT3 (cj rfl) (ax (aN rfl hT3 rfl) ?_)
  exact dl (Sub.cons rfl (zz7 11 rfl))
 ·intro hF3
  refine bY hF3 (bY hF3 (bY hF3 (bY hF3 (bY hF3 (bY hF3 (bY hF3 (bY hF3 (bY hF3 (bY hF3 (ax (aK rfl hF3 rfl) ?_))))))))))
  exact dl (Sub.cons rfl (zz7 11 rfl))
 refine bK ?_
 refine ac ?_
 refine ao rfl ?_ ?_ <;> intro h4 <;> try simp only [bs] at h4
 ·refine bB (aG (ar (zz0 (aa rfl) (zz0 (cx rfl rfl) ?_))))
  refine zz0 (ab rfl) (az (aX (ac ?_)))
  refine cC (x + 1) (Front.c (Front.c Front.nil)) (bA 10 rfl) (o := ⟨by omega, by omega, by rw [← hx3]; exact (Ee (by omega) (by rw [← dQ, ← dQ]; simp_all)).symm⟩)
 refine bG (aJ (aJ (bj (ac (al (aG ?_))))))
 refine bN (ι := Nat) (fun y => y ≤ j3 ∧ x ≤ y + 1 ∧ scanDown (fun z => ltW cur[a]! z) cur x y = scanDown (fun z => ltW cur[a]! z) cur x j3) (fun _ => _) (fun y => [rowE V 23 an cur.toList]) (fun y => [(9, .int .i64 (x : Nat)), (10, .int .i64 (y : Nat))]) (fun y => y) j3 ⟨Nat.le_refl _, by omega, rfl⟩ (Front.c (Front.c Front.nil)) (by repeat' constructor) rfl (fun y hi m hm => ?_)
 replace hi : y ≤ j3 ∧ x ≤ y + 1 ∧ scanDown (fun z => ltW cur[a]! z) cur x y = scanDown (fun z => ltW cur[a]! z) cur x j3 := hi
 replace hm : m = y := hm
 change Tr _ _ [rowE V 23 an cur.toList] ([(9, .int .i64 (x : Nat)), (10, .int .i64 (y : Nat))] ++ _) _
 obtain ⟨hy1, hy2, hy3⟩ := hi
 refine al (al (gZ aT ?_))
 refine ax (aa rfl) (ax (aa rfl) (ax (fE rfl rfl) (ax (aa rfl) ?_)))
 apply fH
 ·exact (rfl : _ = (10, 49, 59))
 ·exact rfl
 ·intro hT5; have hT5' := hT5
  try simp only [bs] at hT5'
  refine bZ hT5 (aa rfl) (bZ hT5 (aa rfl) (bZ hT5 (dm rfl rfl aj ae) ?_))
  refine bZ hT5 (er rfl am) ?_
  refine bZ hT5 (aa rfl) (bZ hT5 (aa rfl) (bZ hT5 (dm rfl rfl aj ae) ?_))
  refine bZ hT5 (er rfl am) ?_
  refine bZ hT5 (aC rfl fB (fun w hw => gJ (cur.toList.getD (a) default) (cur.toList.getD (y) default) w)) ?_
  refine ax (aN rfl hT5 rfl) ?_
  exact dl (Sub.cons rfl (zz7 10 rfl))
 ·intro hF5
  refine bY hF5 (bY hF5 (bY hF5 (bY hF5 (bY hF5 (bY hF5 (bY hF5 (bY hF5 (bY hF5 (ax (aK rfl hF5 rfl) ?_)))))))))
  exact dl (Sub.cons rfl (zz7 10 rfl))
 refine bK ?_
 refine ac ?_
 refine ao rfl ?_ ?_ <;> intro h6 <;> try simp only [bs] at h6
 ·refine bB (aG (ar (zz0 (aa rfl) (zz0 (d6 rfl rfl) ?_))))
  refine zz0 (ab rfl) (az (aX (ac ?_)))
  refine cC (y - 1) (Front.c (Front.c Front.nil)) (bA 10 rfl) (o := ⟨by omega, by omega, by rw [← hy3]; exact (yf (by omega) (by omega) (by rw [← dQ, ← dQ]; simp_all)).symm⟩)
 refine bG (aJ (aJ (bj (ac (al (al ?_))))))
 have hX : scanUp (fun z => !ltW cur[a]! z) cur j3 i3 = x := by
  rw [← hx3]; exact xn (by
   rcases h4 with q | q
   ·exact .inl (by omega)
   ·exact .inr (by rw [← dQ, ← dQ, q]; rfl))
 have hY : scanDown (fun z => ltW cur[a]! z) cur x j3 = y := by
  rw [← hy3]; exact sC (by
   rcases h6 with q | q
   ·exact .inl (by omega)
   ·exact .inr (by rw [← dQ, ← dQ]; exact q))
 refine ar (zz0 (aa rfl) (zz0 (aa rfl) (zz0 (eU rfl rfl) (ad ?_))))
 refine ao rfl ?_ ?_ <;> intro h7 <;> try simp only [bs] at h7
 ·refine bG (aJ (js rfl ?_))
  refine aJ (bj (ac (ah (zz0 (aa rfl) (zz0 (ab rfl) (ad (aD ?_)))))))
  refine aS Tryz.results261 rfl (fun w' hw => ?_)
  have he := A1 hX hY (by omega)
  rw [he] at hk3
  exact ⟨by rw [← hk3], by rw [← hk3]; exact HpOK.mutOwn hw (.head _) rfl⟩
 refine bB (al ?_)
 have hxy : x < y := by
  rcases Nat.lt_or_ge x y with q | q
  ·exact q
  ·exfalso
   have e : x = y := by omega
   rcases h4 with g1 | g1
   ·omega
   ·rcases h6 with g2 | g2
    ·omega
    ·rw [e, g2] at g1; cases g1
 refine fK 4 13 aT ?_
 refine ei rfl ?_
 refine ei rfl ?_
 refine ei rfl ?_
 refine ei rfl ?_
 refine bH ?_
 refine ax (aa rfl) (ax (aa rfl) (ax (dm rfl rfl aj ae) ?_))
 refine ax (er rfl am) ?_
 refine ax (aa rfl) (ax (aa rfl) (ax (dm rfl rfl aj ae) ?_))
 refine ax (er rfl am) ?_
 refine ax (dm rfl rfl aj ae) ?_
 refine bK ?_
 refine f9 (l := cur.toList) (i := x) (cur.toList.getD (y) default) rfl rfl ae ?_
 have hls8 : (List.set cur.toList (x) (cur.toList.getD (y) default)).length = (cur.toList).length := List.length_set
 refine zz0 (dm rfl rfl aj ae) ?_
 refine f9 (l := (cur.toList.set (x) (cur.toList.getD (y) default))) (i := y) (cur.toList.getD (x) default) rfl rfl ae ?_
 have hls9 : (List.set (cur.toList.set (x) (cur.toList.getD (y) default)) (y) (cur.toList.getD (x) default)).length = ((cur.toList.set (x) (cur.toList.getD (y) default))).length := List.length_set
 refine aL (zz0 (aa rfl) (zz0 (cx rfl rfl) ?_))
 refine zz0 (ab rfl) (ad (ar (zz0 (aa rfl) (zz0 (d6 rfl rfl) ?_))))
 refine zz0 (ab rfl) (az (aX (ac ?_)))
 rw [dQ, dQ, io]
 refine cC (x + 1, y - 1, _) (Front.c (Front.c Front.nil)) (bA 39 rfl) (o := ⟨by omega, by rw [nR]; exact hk2, by rw [← hk3]; exact (Dh hX hY hxy hx1 hy1).symm⟩)
theorem uA (d : Array UInt32) (V : Value) (a : Nat) (b : Nat) (ai : Int) (bi : Int) (ea : ai = ((a : Nat) : Int)) (eb : bi = ((b : Nat) : Int)) (w : World) (hr : (rowE V 23 an d.toList).holds w) (hd : d.size ≤ 1000000) (hab : a + 1 < b) (hb : b ≤ d.size) :
  Calls Tryz.prog 259 #[V, .int .i64 ai, .int .i64 bi] w (fun e w' => e = .returned (.bool (partialInsertionSort ltW d a b).2) ∧ Mut w w' V ∧ (rowE V 23 an (partialInsertionSort ltW d a b).1.toList).holds w') := by
 subst ea eb
 refine fF (l := d.toList) (E := an) (T := 23) hr Tryz.func259 rfl Tryz.ntmps259 rfl ?_
 refine ah (zz0 (ab rfl) (aL (zz0 (aa rfl) (zz0 (cx rfl rfl) ?_))))
 refine zz0 (ab rfl) (ad (al (ah (zz0 (ab rfl) (ad (aG ?_))))))
 refine bN (ι := Nat × Nat × Array UInt32) (fun ⟨s, i, cur⟩ => (s ≤ 5 ∧ a + 1 ≤ i ∧ i ≤ b) ∧ cur.size = d.size ∧ partialIns ltW a b (5 - s) i cur = partialInsertionSort ltW d a b) (fun _ => _) (fun ⟨s, i, cur⟩ => [rowE V 23 an cur.toList]) (fun ⟨s, i, cur⟩ => [(8, .int .i64 (s : Nat)), (7, .int .i64 (i : Nat))]) (fun ⟨s, i, cur⟩ => 5 - s) (0, a + 1, d) ⟨by omega, rfl, rfl⟩ (Front.c (Front.c Front.nil)) (by repeat' constructor) rfl (fun i hi m hm => ?_)
 obtain ⟨s, i, cur⟩ := i
 replace hi : (s ≤ 5 ∧ a + 1 ≤ i ∧ i ≤ b) ∧ cur.size = d.size ∧ partialIns ltW a b (5 - s) i cur = partialInsertionSort ltW d a b := hi
 replace hm : m = 5 - s := hm
 change Tr _ _ [rowE V 23 an cur.toList] ([(8, .int .i64 (s : Nat)), (7, .int .i64 (i : Nat))] ++ _) _
 obtain ⟨hk1, hk2, hk3⟩ := hi
 have hcl : cur.toList.length = d.size := by rw [Array.length_toList]; exact hk2
 refine al (ah (zz0 (aa rfl) (zz0 (bS rfl rfl) (ad ?_))))
 refine ao rfl ?_ ?_ <;> intro h1 <;> try simp only [bs] at h1
 ·refine bB (al (aG (al (aG ?_))))
  refine bN (ι := Nat) (fun x => i ≤ x ∧ x ≤ b ∧ scanSorted ltW cur b x = scanSorted ltW cur b i) (fun _ => _) (fun x => [rowE V 23 an cur.toList]) (fun x => [(7, .int .i64 (x : Nat)), (8, .int .i64 (s : Nat))]) (fun x => b - x) i ⟨Nat.le_refl _, by omega, rfl⟩ (Front.c (Front.c Front.nil)) (by repeat' constructor) rfl (fun x hi m hm => ?_)
  replace hi : i ≤ x ∧ x ≤ b ∧ scanSorted ltW cur b x = scanSorted ltW cur b i := hi
  replace hm : m = b - x := hm
  change Tr _ _ [rowE V 23 an cur.toList] ([(7, .int .i64 (x : Nat)), (8, .int .i64 (s : Nat))] ++ _) _
  obtain ⟨hx1, hx2, hx3⟩ := hi
  have ex : ((x : Int) - 1).toNat = x - 1 := by omega
  refine al (al (gZ aT ?_))
  refine ax (aa rfl) (ax (aa rfl) (ax (bS rfl rfl) (ax (aa rfl) ?_)))
  apply fH
  ·exact (rfl : _ = (12, 20, 32))
  ·exact rfl
  ·intro hT2; have hT2' := hT2
   try simp only [bs] at hT2'
   refine bZ hT2 (aa rfl) (bZ hT2 (aa rfl) (bZ hT2 (dm rfl rfl aj ae) ?_))
   refine bZ hT2 (er rfl am) ?_
   refine bZ hT2 (aa rfl) (bZ hT2 (aa rfl) (bZ hT2 (d6 rfl rfl) ?_))
   refine bZ hT2 (jv rfl rfl aj ae) ?_
   refine bZ hT2 (er rfl am) ?_
   refine bZ hT2 (aC rfl fB (fun w hw => gJ (cur.toList.getD (x) default) (cur.toList.getD (((x : Int) - 1).toNat) default) w)) ?_
   refine bZ hT2 (cj rfl) (ax (aN rfl hT2 rfl) ?_)
   exact dl (Sub.cons rfl (zz7 12 rfl))
  ·intro hF2
   refine bY hF2 (bY hF2 (bY hF2 (bY hF2 (bY hF2 (bY hF2 (bY hF2 (bY hF2 (bY hF2 (bY hF2 (bY hF2 (ax (aK rfl hF2 rfl) ?_)))))))))))
   exact dl (Sub.cons rfl (zz7 12 rfl))
  refine bK ?_
  refine ac ?_
  refine ao rfl ?_ ?_ <;> intro h3 <;> try simp only [bs] at h3
  ·refine bB (aG (ar (zz0 (aa rfl) (zz0 (cx rfl rfl) ?_))))
   refine zz0 (ab rfl) (az (aX (ac ?_)))
   refine cC (x + 1) (Front.c (Front.c Front.nil)) (bA 10 rfl) (o := ⟨by omega, by omega, by rw [← hx3]; exact (IP (by omega) (by rw [← dQ, ← dQ, ← ex]; simp_all)).symm⟩)
  refine bG (aJ (aJ (bj (ac (al (al ?_))))))
  have hX : scanSorted ltW cur b i = x := by
   rw [← hx3]; exact GE (by
    rcases h3 with q | q
    ·exact .inl (by omega)
    ·exact .inr (by rw [← dQ, ← dQ, ← ex]; exact q))
  refine ar (zz0 (aa rfl) (zz0 (aa rfl) (zz0 (aY rfl rfl) (ad ?_))))
  refine ao rfl ?_ ?_ <;> intro h4 <;> try simp only [bs] at h4
  ·refine ah (zz0 (ab rfl) (ad (aD (aB (bv (aB (aB (bv (aB ?_)))))))))
   refine aS mQ rfl (fun w' hw => ?_)
   rw [show 5 - s = (4 - s) + 1 by omega, A3 hX (by omega)] at hk3
   exact ⟨by rw [← hk3], by rw [← hk3]; exact HpOK.mutOwn hw (.head _) rfl⟩
  refine bB (al (ah (zz0 (aa rfl) (zz0 (aa rfl) (zz0 (d6 rfl rfl) ?_)))))
  refine zz0 (bS rfl rfl) (ad ?_)
  refine ao rfl ?_ ?_ <;> intro h5 <;> try simp only [bs] at h5
  ·refine ah (zz0 (ab rfl) (ad (aD (aB (bv (aB (aB (bv (aB ?_)))))))))
   refine aS mQ rfl (fun w' hw => ?_)
   rw [show 5 - s = (4 - s) + 1 by omega, H9 hX (by omega) (by omega)] at hk3
   exact ⟨by rw [← hk3], by rw [← hk3]; exact HpOK.mutOwn hw (.head _) rfl⟩
  refine bB (al (fK 5 15 aT ?_))
  refine ei rfl ?_
  refine ei rfl ?_
  refine ei rfl ?_
  refine ei rfl ?_
  refine gp (fun _ => d6 rfl rfl) (by rfl) rfl ?_
  refine bH ?_
  refine ax (aa rfl) (ax (aa rfl) (ax (d6 rfl rfl) ?_))
  refine ax (jv rfl rfl aj ae) ?_
  refine ax (er rfl am) ?_
  refine ax (aa rfl) (ax (aa rfl) (ax (dm rfl rfl aj ae) ?_))
  refine ax (er rfl am) ?_
  refine ax (dm rfl rfl aj ae) ?_
  refine bK ?_
  refine f9 (l := cur.toList) (i := x) (cur.toList.getD (((x : Int) - 1).toNat) default) rfl rfl ae ?_
  have hls6 : (List.set cur.toList (x) (cur.toList.getD (((x : Int) - 1).toNat) default)).length = (cur.toList).length := List.length_set
  refine zz0 (jv rfl rfl aj ae) ?_
  refine f9 (l := (cur.toList.set (x) (cur.toList.getD (((x : Int) - 1).toNat) default))) (i := ((x : Int) - 1).toNat) (cur.toList.getD (x) default) rfl rfl ae ?_
  have hls7 : (List.set (cur.toList.set (x) (cur.toList.getD (((x : Int) - 1).toNat) default)) (((x : Int) - 1).toNat) (cur.toList.getD (x) default)).length = ((cur.toList.set (x) (cur.toList.getD (((x : Int) - 1).toNat) default))).length := List.length_set
  rw [ex, dQ, dQ, io]
  refine ad ?_
  refine db (ι := Array UInt32) (fun d3 => d3.size = d.size ∧ d3 = if x - a ≥ 2 then shiftDown ltW (x - 1) (swp cur x (x - 1)) else swp cur x (x - 1)) (fun _ => Bg.less w V) (fun d3 => [rowE V 23 an d3.toList]) (fun d3 => []) ?_ (fun d3 hi => ?_)
  ·skip
   refine ah (zz0 (aa rfl) (zz0 (aa rfl) (zz0 (d6 rfl rfl) ?_)))
   refine zz0 (d5 rfl rfl) (ad ?_)
   refine ao rfl ?_ ?_ <;> intro h8 <;> try simp only [bs] at h8
   ·refine ah (zz0 (aa rfl) (zz0 (d6 rfl rfl) ?_))
    refine zz0 (ab rfl) (ad (aG ?_))
    refine bN (ι := Nat × Array UInt32) (fun ⟨y, c3⟩ => y < x ∧ c3.size = d.size ∧ shiftDown ltW y c3 = shiftDown ltW (x - 1) (swp cur x (x - 1))) (fun _ => _) (fun ⟨y, c3⟩ => [rowE V 23 an c3.toList]) (fun ⟨y, c3⟩ => [(9, .int .i64 (y : Nat))]) (fun ⟨y, c3⟩ => y) (x - 1, _) ⟨by omega, by rw [nR]; exact hk2, rfl⟩ (Front.c Front.nil) (by repeat' constructor) rfl (fun i hi m hm => ?_)
    obtain ⟨y, c3⟩ := i
    replace hi : y < x ∧ c3.size = d.size ∧ shiftDown ltW y c3 = shiftDown ltW (x - 1) (swp cur x (x - 1)) := hi
    replace hm : m = y := hm
    change Tr _ _ [rowE V 23 an c3.toList] ([(9, .int .i64 (y : Nat))] ++ _) _
    obtain ⟨hy1, hy2, hy3⟩ := hi
    have ey : ((y : Int) - 1).toNat = y - 1 ∨ y = 0 := by omega
    have hc3 : c3.toList.length = d.size := by rw [Array.length_toList]; exact hy2
    refine al (ah (zz0 (aa rfl) (zz0 (d5 rfl rfl) (ad ?_))))
    refine ao rfl ?_ ?_ <;> intro h9 <;> try simp only [bs] at h9
    ·refine bB (al (aG (al (al (gZ aT ?_)))))
     refine ax (aa rfl) (ax (aa rfl) (ax (dm rfl rfl aj ae) ?_))
     refine ax (er rfl am) ?_
     refine ax (aa rfl) (ax (aa rfl) (ax (d6 rfl rfl) ?_))
     refine ax (jv rfl rfl aj ae) ?_
     refine ax (er rfl am) ?_
     refine ax (aC rfl fB (fun w hw => gJ (c3.toList.getD (y) default) (c3.toList.getD (((y : Int) - 1).toNat) default) w)) ?_
     refine ax (cj rfl) (bK ?_)
     refine ac ?_
     refine ao rfl ?_ ?_ <;> intro h10 <;> try simp only [bs] at h10
     ·refine bG (aJ (js rfl ?_))
      refine aJ (aJ (bj (ac ?_)))
      refine cw c3 Front.nil (bA 21 rfl) (o := ⟨hy2, by rw [if_pos (by omega), ← hy3]; exact (B2 (by first | exact .inl (by omega) | exact .inr (by have e := ey.resolve_right (by omega); rw [← dQ, ← dQ, ← e]; assumption))).symm⟩)
     refine bB (fK 5 15 aT ?_)
     refine ei rfl ?_
     refine ei rfl ?_
     refine ei rfl ?_
     refine ei rfl ?_
     refine gp (fun _ => d6 rfl rfl) (by rfl) rfl ?_
     refine bH ?_
     refine ax (aa rfl) (ax (aa rfl) (ax (d6 rfl rfl) ?_))
     refine ax (jv rfl rfl aj ae) ?_
     refine ax (er rfl am) ?_
     refine ax (aa rfl) (ax (aa rfl) (ax (dm rfl rfl aj ae) ?_))
     refine ax (er rfl am) ?_
     refine ax (dm rfl rfl aj ae) ?_
     refine bK ?_
     refine f9 (l := c3.toList) (i := y) (c3.toList.getD (((y : Int) - 1).toNat) default) rfl rfl ae ?_
     have hls11 : (List.set c3.toList (y) (c3.toList.getD (((y : Int) - 1).toNat) default)).length = (c3.toList).length := List.length_set
     refine zz0 (jv rfl rfl aj ae) ?_
     refine f9 (l := (c3.toList.set (y) (c3.toList.getD (((y : Int) - 1).toNat) default))) (i := ((y : Int) - 1).toNat) (c3.toList.getD (y) default) rfl rfl ae ?_
     have hls12 : (List.set (c3.toList.set (y) (c3.toList.getD (((y : Int) - 1).toNat) default)) (((y : Int) - 1).toNat) (c3.toList.getD (y) default)).length = ((c3.toList.set (y) (c3.toList.getD (((y : Int) - 1).toNat) default))).length := List.length_set
     refine az (aX (ac (ar (zz0 (aa rfl) (zz0 (d6 rfl rfl) ?_)))))
     refine zz0 (ab rfl) (ad ?_)
     rw [ey.resolve_right (by omega), dQ, dQ, io]
     refine cC (y - 1, _) (Front.c Front.nil) (bA 33 rfl) (o := ⟨by omega, by rw [nR]; exact hy2, by rw [← hy3]; exact (IQ (by omega) (by have e := ey.resolve_right (by omega); rw [← dQ, ← dQ, ← e]; assumption)).symm⟩)
    refine bG (aJ (aJ (bj (ac ?_))))
    refine cw c3 Front.nil (bA 10 rfl) (o := ⟨hy2, by rw [if_pos (by omega), ← hy3]; exact (B2 (by first | exact .inl (by omega) | exact .inr (by have e := ey.resolve_right (by omega); rw [← dQ, ← dQ, ← e]; assumption))).symm⟩)
   refine bB ?_
   refine cw _ Front.nil (bA 4 rfl) (o := ⟨by rw [nR]; exact hk2, by rw [if_neg (by omega)]⟩)
  skip
  replace hi : d3.size = d.size ∧ d3 = if x - a ≥ 2 then shiftDown ltW (x - 1) (swp cur x (x - 1)) else swp cur x (x - 1) := hi
  change Tr _ _ [rowE V 23 an d3.toList] ([] ++ _) _
  have hd3 := hi
  have hl3 : d3.toList.length = d.size := by rw [Array.length_toList]; exact hi.1
  refine ah (zz0 (aa rfl) (zz0 (aa rfl) (zz0 (d6 rfl rfl) ?_)))
  refine zz0 (d5 rfl rfl) (ad ?_)
  refine ao rfl ?_ ?_ <;> intro h13 <;> try simp only [bs] at h13
  ·refine ah (zz0 (aa rfl) (zz0 (cx rfl rfl) ?_))
   refine zz0 (ab rfl) (ad (aG ?_))
   refine bN (ι := Nat × Array UInt32) (fun ⟨z, c4⟩ => x < z ∧ c4.size = d.size ∧ shiftUp ltW b z c4 = shiftUp ltW b (x + 1) d3) (fun _ => _) (fun ⟨z, c4⟩ => [rowE V 23 an c4.toList]) (fun ⟨z, c4⟩ => [(10, .int .i64 (z : Nat))]) (fun ⟨z, c4⟩ => b - z) (x + 1, d3) ⟨by omega, hd3.1, rfl⟩ (Front.c Front.nil) (by repeat' constructor) rfl (fun i hi m hm => ?_)
   obtain ⟨z, c4⟩ := i
   replace hi : x < z ∧ c4.size = d.size ∧ shiftUp ltW b z c4 = shiftUp ltW b (x + 1) d3 := hi
   replace hm : m = b - z := hm
   change Tr _ _ [rowE V 23 an c4.toList] ([(10, .int .i64 (z : Nat))] ++ _) _
   obtain ⟨hz1, hz2, hz3⟩ := hi
   have ez : ((z : Int) - 1).toNat = z - 1 := by omega
   have hc4 : c4.toList.length = d.size := by rw [Array.length_toList]; exact hz2
   refine al (ah (zz0 (aa rfl) (zz0 (aa rfl) (zz0 (bS rfl rfl) (ad ?_)))))
   refine ao rfl ?_ ?_ <;> intro h14 <;> try simp only [bs] at h14
   ·refine bB (al (aG (al (al (gZ aT ?_)))))
    refine ax (aa rfl) (ax (aa rfl) (ax (dm rfl rfl aj ae) ?_))
    refine ax (er rfl am) ?_
    refine ax (aa rfl) (ax (aa rfl) (ax (d6 rfl rfl) ?_))
    refine ax (jv rfl rfl aj ae) ?_
    refine ax (er rfl am) ?_
    refine ax (aC rfl fB (fun w hw => gJ (c4.toList.getD (z) default) (c4.toList.getD (((z : Int) - 1).toNat) default) w)) ?_
    refine ax (cj rfl) (bK ?_)
    refine ac ?_
    refine ao rfl ?_ ?_ <;> intro h15 <;> try simp only [bs] at h15
    ·refine bG (aJ (js rfl ?_))
     refine aJ (aJ (bj (aX (ac (ar (zz0 (aa rfl) (zz0 (cx rfl rfl) ?_)))))))
     refine zz0 (ab rfl) (ad ?_)
     refine cC (s + 1, x, c4) (Front.c (Front.c Front.nil)) (bA 59 rfl) (o := ⟨by omega, hz2, by rw [← hk3, show 5 - s = (5 - (s + 1)) + 1 by omega]; exact (rZ hX (by omega) (by omega) hd3.2 (by rw [if_pos (by omega), ← hz3]; exact (BY (by first | exact .inl (by omega) | exact .inr (by rw [← dQ, ← dQ, ← ez]; assumption))).symm)).symm⟩)
    refine bB (fK 5 15 aT ?_)
    refine ei rfl ?_
    refine ei rfl ?_
    refine ei rfl ?_
    refine ei rfl ?_
    refine gp (fun _ => d6 rfl rfl) (by rfl) rfl ?_
    refine bH ?_
    refine ax (aa rfl) (ax (aa rfl) (ax (d6 rfl rfl) ?_))
    refine ax (jv rfl rfl aj ae) ?_
    refine ax (er rfl am) ?_
    refine ax (aa rfl) (ax (aa rfl) (ax (dm rfl rfl aj ae) ?_))
    refine ax (er rfl am) ?_
    refine ax (dm rfl rfl aj ae) ?_
    refine bK ?_
    refine f9 (l := c4.toList) (i := z) (c4.toList.getD (((z : Int) - 1).toNat) default) rfl rfl ae ?_
    have hls16 : (List.set c4.toList (z) (c4.toList.getD (((z : Int) - 1).toNat) default)).length = (c4.toList).length := List.length_set
    refine zz0 (jv rfl rfl aj ae) ?_
    refine f9 (l := (c4.toList.set (z) (c4.toList.getD (((z : Int) - 1).toNat) default))) (i := ((z : Int) - 1).toNat) (c4.toList.getD (z) default) rfl rfl ae ?_
    have hls17 : (List.set (c4.toList.set (z) (c4.toList.getD (((z : Int) - 1).toNat) default)) (((z : Int) - 1).toNat) (c4.toList.getD (z) default)).length = ((c4.toList.set (z) (c4.toList.getD (((z : Int) - 1).toNat) default))).length := List.length_set
    refine az (aX (ac (ar (zz0 (aa rfl) (zz0 (cx rfl rfl) ?_)))))
    refine zz0 (ab rfl) (ad ?_)
    rw [ez, dQ, dQ, io]
    refine cC (z + 1, _) (Front.c Front.nil) (bA 34 rfl) (o := ⟨by omega, by rw [nR]; exact hz2, by rw [← hz3]; exact (IO (by omega) (by rw [← dQ, ← dQ, ← ez]; assumption)).symm⟩)
   refine bG (aJ (aJ (bj (aX (ac (ar (zz0 (aa rfl) (zz0 (cx rfl rfl) ?_))))))))
   refine zz0 (ab rfl) (ad ?_)
   refine cC (s + 1, x, c4) (Front.c (Front.c Front.nil)) (bA 48 rfl) (o := ⟨by omega, hz2, by rw [← hk3, show 5 - s = (5 - (s + 1)) + 1 by omega]; exact (rZ hX (by omega) (by omega) hd3.2 (by rw [if_pos (by omega), ← hz3]; exact (BY (by first | exact .inl (by omega) | exact .inr (by rw [← dQ, ← dQ, ← ez]; assumption))).symm)).symm⟩)
  refine bW (aX (ac (ar (zz0 (aa rfl) (zz0 (cx rfl rfl) ?_)))))
  refine zz0 (ab rfl) (ad ?_)
  refine cC (s + 1, x, d3) (Front.c (Front.c Front.nil)) (bA 41 rfl) (o := ⟨by omega, hd3.1, by rw [← hk3, show 5 - s = (5 - (s + 1)) + 1 by omega]; exact (rZ hX (by omega) (by omega) hd3.2 (by rw [if_neg (by omega)])).symm⟩)
 refine bG (aJ (aJ (bj (ac (ah (zz0 (ab rfl) (ad (aD ?_))))))))
 refine aS mQ rfl (fun w' hw => ?_)
 obtain rfl : s = 5 := by omega
 have hk4 : (cur, false) = partialInsertionSort ltW d a b := hk3
 exact ⟨by rw [← hk4], by rw [← hk4]; exact HpOK.mutOwn hw (.head _) rfl⟩
end Go.Proofs.YtiajjbhcpeadfaaGreat
namespace Go.HL
open Go Go.RowKit Go.Sort
section
variable {P : Program} {N : Nat} {F : Bg} {L : List Ent} {M : Fr} {dst : Option Tmp} {ty : TypeId} {pos : String} {after : Array Edge} {g : Option (Nat × Bool)}
theorem bh {x : Operand} {a : Addr} (hx : opv M x = some (.pointer (some a))) : QS P N F L M ⟨dst, .nilCheck x, ty, pos, after, g⟩ (.pointer (some a)) :=
 cG fun A w ha _ => by simp [execOp, ha.eval hx]
theorem vn {m n : UInt64} {x y : Operand} {t u : TypeId} (hx : opv M x = some (.int .u64 m.toNat)) (hy : opv M y = some (.int .u64 n.toNat)) : QS P N F L M ⟨dst, .binOp .xor t x y u, ty, pos, after, g⟩ (.int .u64 (m ^^^ n).toNat) := by
 have := Gk (P := P) (N := N) (F := F) (L := L) (dst := dst) (ty := ty) (pos := pos) (after := after) (g := g) (t := t) (u := u) hx hy
 have e : IntKind.u64.wrap ((BitVec.ofInt IntKind.u64.bits m.toNat ^^^ BitVec.ofInt IntKind.u64.bits n.toNat).toNat : Int) = ((m ^^^ n).toNat : Int) := by
  have h1 : BitVec.ofInt 64 (m.toNat : Int) = m.toBitVec := by simp
  have h2 : BitVec.ofInt 64 (n.toNat : Int) = n.toBitVec := by simp
  show IntKind.u64.wrap ((BitVec.ofInt 64 m.toNat ^^^ BitVec.ofInt 64 n.toNat).toNat : Int) = _
  rw [h1, h2, IntWalk.u64_in]
  ·rfl
  ·have := (m ^^^ n).toNat_lt
   show 0 ≤ ((m ^^^ n).toNat : Int) ∧ ((m ^^^ n).toNat : Int) ≤ _
   omega
 rwa [e] at this
theorem AB {m : UInt64} {x y : Operand} {t u : TypeId} {k' : IntKind} (c : UInt64) (hx : opv M x = some (.int .u64 m.toNat)) (hy : opv M y = some (.int k' (c.toNat : Int))) (hc : c.toNat < 64) : QS P N F L M ⟨dst, .binOp .shl t x y u, ty, pos, after, g⟩ (.int .u64 (m <<< c).toNat) := by
 have := BQ (P := P) (N := N) (F := F) (L := L) (dst := dst) (ty := ty) (pos := pos) (after := after) (g := g) (t := t) (u := u) hx hy (by omega)
 have e : IntKind.u64.wrap ((m.toNat : Int) * 2 ^ (min (c.toNat : Int).toNat IntKind.u64.bits)) = ((m <<< c).toNat : Int) := by
  rw [IntKind.wrap_u64, UInt64.toNat_shiftLeft, Int.toNat_natCast, Nat.min_eq_left (by show c.toNat ≤ 64; omega), Nat.mod_eq_of_lt hc, Nat.shiftLeft_eq, Int.natCast_emod, Int.natCast_mul, Int.natCast_pow]
  rfl
 rwa [e] at this
theorem Gp {m : UInt64} {x y : Operand} {t u : TypeId} {k' : IntKind} (c : UInt64) (hx : opv M x = some (.int .u64 m.toNat)) (hy : opv M y = some (.int k' (c.toNat : Int))) (hc : c.toNat < 64) : QS P N F L M ⟨dst, .binOp .shr t x y u, ty, pos, after, g⟩ (.int .u64 (m >>> c).toNat) := by
 have := sO (P := P) (N := N) (F := F) (L := L) (dst := dst) (ty := ty) (pos := pos) (after := after) (g := g) (t := t) (u := u) hx hy (by omega)
 have e : (m.toNat : Int).fdiv (2 ^ (min (c.toNat : Int).toNat IntKind.u64.bits)) = ((m >>> c).toNat : Int) := by
  rw [UInt64.toNat_shiftRight, Int.toNat_natCast, Nat.min_eq_left (by show c.toNat ≤ 64; omega), Nat.mod_eq_of_lt hc, Nat.shiftRight_eq_div_pow, Int.fdiv_eq_ediv_of_nonneg _ (by
   have : (0 : Int) < 2 ^ c.toNat := Int.pow_pos (by decide)
   omega)]
  rw [Int.natCast_ediv, Int.natCast_pow]; rfl
 rwa [e] at this
theorem CB {m : Nat} {x y : Operand} {t u : TypeId} {k' : IntKind} (c : Nat) (hx : opv M x = some (.int .u64 (m : Int))) (hy : opv M y = some (.int k' (c : Int))) (hc : c ≤ 64) : QS P N F L M ⟨dst, .binOp .shr t x y u, ty, pos, after, g⟩ (.int .u64 ((m / 2 ^ c : Nat) : Int)) := by
 have := sO (P := P) (N := N) (F := F) (L := L) (dst := dst) (ty := ty) (pos := pos) (after := after) (g := g) (t := t) (u := u) hx hy (by omega)
 have e : (m : Int).fdiv (2 ^ (min (c : Int).toNat IntKind.u64.bits)) = ((m / 2 ^ c : Nat) : Int) := by
  rw [Int.toNat_natCast, Nat.min_eq_left (show c ≤ IntKind.u64.bits from hc), Int.fdiv_eq_ediv_of_nonneg _ (by
   have : (0 : Int) < 2 ^ c := Int.pow_pos (by decide)
   omega), Int.natCast_ediv, Int.natCast_pow]; rfl
 rwa [e] at this
theorem DV {x y : Operand} {t u : TypeId} {k' : IntKind} {c : Nat} (hx : opv M x = some (.int .u64 1)) (hy : opv M y = some (.int k' (c : Int))) (hc : c < 64) : QS P N F L M ⟨dst, .binOp .shl t x y u, ty, pos, after, g⟩ (.int .u64 ((1 <<< c : Nat) : Int)) := by
 have := BQ (P := P) (N := N) (F := F) (L := L) (dst := dst) (ty := ty) (pos := pos) (after := after) (g := g) (t := t) (u := u) hx hy (by omega)
 have e : IntKind.u64.wrap ((1 : Int) * 2 ^ (min (c : Int).toNat IntKind.u64.bits)) = ((1 <<< c : Nat) : Int) := by
  have h1 : 2 ^ c < 2 ^ 64 := Nat.pow_lt_pow_right (by decide) hc
  rw [Int.toNat_natCast, Nat.min_eq_left (by show c ≤ 64; omega), Int.one_mul, Nat.one_shiftLeft, IntWalk.u64_in]
  ·rw [Int.natCast_pow]; rfl
  ·have h2 : ((2 : Int) ^ c) = ((2 ^ c : Nat) : Int) := by rw [Int.natCast_pow]; rfl
   rw [h2]
   generalize 2 ^ c = z at h1
   have h1' : z < 18446744073709551616 := h1
   omega
 rwa [e] at this
theorem Gu {m n : Nat} {x y : Operand} {t u : TypeId} (hx : opv M x = some (.int .u64 (m : Int))) (hy : opv M y = some (.int .u64 (n : Int))) (hm : m < 18446744073709551616) (hn : n < 18446744073709551616) : QS P N F L M ⟨dst, .binOp .and t x y u, ty, pos, after, g⟩ (.int .u64 ((m &&& n : Nat) : Int)) := by
 have := yJ (P := P) (N := N) (F := F) (L := L) (dst := dst) (ty := ty) (pos := pos) (after := after) (g := g) (t := t) (u := u) hx hy
 have e : IntKind.u64.wrap ((BitVec.ofInt IntKind.u64.bits (m : Int) &&& BitVec.ofInt IntKind.u64.bits (n : Int)).toNat : Int) = ((m &&& n : Nat) : Int) := by
  have h1 : (BitVec.ofInt 64 (m : Int)).toNat = m := by rw [BitVec.toNat_ofInt]; omega
  have h2 : (BitVec.ofInt 64 (n : Int)).toNat = n := by rw [BitVec.toNat_ofInt]; omega
  show IntKind.u64.wrap ((BitVec.ofInt 64 (m : Int) &&& BitVec.ofInt 64 (n : Int)).toNat : Int) = _
  rw [BitVec.toNat_and, h1, h2, IntWalk.u64_in]
  have : m &&& n ≤ n := Nat.and_le_right
  omega
 rwa [e] at this
theorem BV {x : Operand} {s d : TypeId} {ds : TypeDesc} {k : IntKind} {m : Int} (n : Nat) (hx : opv M x = some (.int k m)) (hs : P.underlying s = some ds) (hd : P.underlying d = some (.int .u64)) (hm : m = (n : Int)) (hn : n < 18446744073709551616) :
  QS P N F L M ⟨dst, .convert s d x, ty, pos, after, g⟩ (.int .u64 ((UInt64.ofNat n).toNat : Int)) := by
 have h := m7 (N := N) (F := F) (L := L) (dst := dst) (ty := ty) (pos := pos) (after := after) (g := g) hx hs hd
 rw [hm, IntWalk.u64_in _ (by omega)] at h
 rwa [UInt64.toNat_ofNat', Nat.mod_eq_of_lt hn]
theorem Gl {m n : Nat} {x y : Operand} {t u : TypeId} (hx : opv M x = some (.int .u64 (m : Int))) (hy : opv M y = some (.int .u64 (n : Int))) (h : n ≤ m) (hm : m < 18446744073709551616) : QS P N F L M ⟨dst, .binOp .sub t x y u, ty, pos, after, g⟩ (.int .u64 ((m - n : Nat) : Int)) := by
 have := Cy (P := P) (N := N) (F := F) (L := L) (dst := dst) (ty := ty) (pos := pos) (after := after) (g := g) (t := t) (u := u) hx hy (by omega)
 rwa [show (m : Int) - (n : Int) = ((m - n : Nat) : Int) by omega] at this
def HY : List UInt8 := (List.range 256).map fun i => UInt8.ofNat (bitsLen i)
theorem wV {i : Nat} (h : i < 256) : bitsLen i ≤ 8 := (bitsLen_le_iff i 8).2 h
theorem D1 {x y : Operand} {t : TypeId} {s : ByteArray} {i : Nat} (hx : opv M x = some (.string s)) (hy : opv M y = some (.int .u8 (i : Int))) (ht : P.underlying t = some .string) (hs : s.data.toList = HY) (hi : i < 256) :
  QS P N F L M ⟨dst, .index t x y, ty, pos, after, g⟩ (.int .u8 ((bitsLen i : Nat) : Int)) := by
 have hz : s.size = 256 := by
  have : s.data.toList.length = 256 := by rw [hs]; simp [HY]
  rw [← this, Array.length_toList]; rfl
 have := sN (P := P) (N := N) (F := F) (L := L) (dst := dst) (ty := ty) (pos := pos) (after := after) (g := g) hx hy ht (by omega)
 have e : (s.data.toList.getD (i : Int).toNat 0).toNat = bitsLen i := by
  rw [hs, Int.toNat_natCast, List.getD_eq_getElem?_getD]
  have h8 := wV hi
  simp [HY, hi]
  omega
 rwa [e] at this
end
theorem rowE.len {α β : Type} {V : Value} {T T' : TypeId} {E : Enc α} {G : Enc β} {l : List α} {l' : List β} {w w' : World} (h : (rowE V T E l).holds w) (h' : (rowE V T' G l').holds w') : l'.length = l.length := by
 obtain ⟨a, c, e, _⟩ := (rowE.sl h).shape
 obtain ⟨a', c', e', _⟩ := (rowE.sl h').shape
 rw [e] at e'
 injection e' with _ e2
 exact e2.symm
theorem ku {α β : Type} {N : Nat} {F : Bg} {L : List Ent} {M : Fr} {V : Value} {T T' : TypeId} {E : Enc α} {G : Enc β} {l0 : List α} {l : List β} {w : World} {X : Act → World → Prop} (h : (rowE V T E l0).holds w) (hm : rowE V T' G l ∈ L) (K : l.length = l0.length → Tr N F L M X) : Tr N F L M X :=
 fun a w' ha hw => K (rowE.len h (hw.ent _ hm)) a w' ha hw
theorem HpOK.own {F : Bg} {L Lo R : List Ent} {w : World} (h : HpOK F L w) (hs : Split L Lo R) : OwnAt w Lo := (h.perm hs.perm.symm).ownAt.left
theorem te {x c : Nat} (h : 2 ^ c ≤ x) : bitsLen x = c + bitsLen (x / 2 ^ c) := by
 have key : ∀ k, bitsLen x ≤ k ↔ c + bitsLen (x / 2 ^ c) ≤ k := fun k => by
  rw [bitsLen_le_iff]
  rcases Nat.lt_or_ge k c with hk | hk
  ·have : 2 ^ k < 2 ^ c := Nat.pow_lt_pow_right (by decide) hk
   constructor <;> intro h' <;> omega
  ·obtain ⟨j, rfl⟩ : ∃ j, k = c + j := ⟨k - c, by omega⟩
   rw [show (c + bitsLen (x / 2 ^ c) ≤ c + j) ↔ bitsLen (x / 2 ^ c) ≤ j by omega, bitsLen_le_iff, Nat.div_lt_iff_lt_mul (Nat.two_pow_pos _), Nat.pow_add, Nat.mul_comm]
 exact Nat.le_antisymm ((key _).2 (Nat.le_refl _)) ((key _).1 (Nat.le_refl _))
theorem IX {x : Nat} (h : 65536 ≤ x) : bitsLen x = 16 + bitsLen (x / 2 ^ 16) := te h
theorem len8 {x : Nat} (h : 256 ≤ x) : bitsLen x = 8 + bitsLen (x / 2 ^ 8) := te h
theorem sa {d : Array UInt32} {a b s : Nat} {i : Nat × Nat × Nat} (hi : i = order2 ltW d a b s) {n : Nat} (ha : a < n) (hb : b < n) : i.1 < n ∧ i.2.1 < n ∧ i.2.2 ≤ s + 1 := by
 subst hi
 refine ⟨?_, ?_, order2_count ltW d a b s⟩ <;> unfold order2 <;> split <;> assumption
theorem ww {d : Array UInt32} {a b c s : Nat} {i : Nat × Nat} (hi : i = median ltW d a b c s) {n : Nat} (ha : a < n) (hb : b < n) (hc : c < n) : i.1 < n ∧ i.2 ≤ s + 3 := by
 subst hi
 refine ⟨?_, median_count ltW d a b c s⟩
 rcases median_mem ltW d a b c s with h | h | h <;> rw [h] <;> assumption
theorem BC {d : Array UInt32} {a s : Nat} {i : Nat × Nat} (hi : i = medianAdjacent ltW d a s) {n : Nat} (ha : a + 1 < n) : i.1 < n ∧ i.2 ≤ s + 3 := ww hi (by omega) (by omega) ha
theorem GO {d : Array UInt32} {a b : Nat} {i1 i2 i3 i4 : Nat × Nat} (h : 50 ≤ b - a) (e1 : i1 = medianAdjacent ltW d (a + (b - a) / 4 * 1) 0) (e2 : i2 = medianAdjacent ltW d (a + (b - a) / 4 * 2) i1.2) (e3 : i3 = medianAdjacent ltW d (a + (b - a) / 4 * 3) i2.2)
  (e4 : i4 = median ltW d i1.1 i2.1 i3.1 i3.2) : i4 = rawPivot ltW d a b := by
 subst e1 e2 e3 e4
 unfold rawPivot
 rw [if_pos (by omega), if_pos (by omega)]
theorem GN {d : Array UInt32} {a b : Nat} {i4 : Nat × Nat} (h8 : 8 ≤ b - a) (h : b - a < 50) (e4 : i4 = median ltW d (a + (b - a) / 4 * 1) (a + (b - a) / 4 * 2) (a + (b - a) / 4 * 3) 0) : i4 = rawPivot ltW d a b := by
 subst e4
 unfold rawPivot
 rw [if_pos (by omega), if_neg (by omega)]
theorem EI {d : Array UInt32} {a b : Nat} (h8 : b - a < 8) : ((a + (b - a) / 4 * 2, 0) : Nat × Nat) = rawPivot ltW d a b := by
 unfold rawPivot
 rw [if_neg (by omega)]
def qG (a len m i0 : Nat) : Nat → UInt64 × Array UInt32 → UInt64 × Array UInt32
 | 0, st => st
 | t + 1, st => breakStep a len m (qG a len m i0 t st) (i0 + t)
theorem FU {d : Array UInt32} {a b : Nat} (h : 8 ≤ b - a) : breakPatterns d a b = (qG a (b - a) (1 <<< bitsLen (b - a)) (a + (b - a) / 4 * 2 - 1) 3 (UInt64.ofNat (b - a), d)).2 := by
 unfold breakPatterns
 simp only []
 rw [if_pos h]; rfl
theorem FT {d : Array UInt32} {a b : Nat} (h : b - a < 8) : breakPatterns d a b = d := by
 unfold breakPatterns
 simp only []
 rw [if_neg (by omega)]
theorem FS {a len m i0 t : Nat} {st : UInt64 × Array UInt32} {r : UInt64} {cur : Array UInt32} {o : Nat} (h : qG a len m i0 t st = (r, cur)) (ho : o = if len ≤ ((xorNext r).toNat &&& (m - 1)) then ((xorNext r).toNat &&& (m - 1)) - len else ((xorNext r).toNat &&& (m - 1))) :
  qG a len m i0 (t + 1) st = (xorNext r, swp cur (i0 + t) (a + o)) := by
 subst ho
 show breakStep a len m (qG a len m i0 t st) (i0 + t) = _
 rw [h]; rfl
theorem Ig {n : Nat} (h : 0 < n) : 1 ≤ 1 <<< bitsLen n ∧ 1 <<< bitsLen n ≤ 2 * n := by
 rw [Nat.one_shiftLeft]
 exact ⟨Nat.two_pow_pos _, two_pow_bitsLen_le h⟩
section
variable {d : Array UInt32} {a b limit : Nat} {wb wp : Bool}
theorem vG (h : b - a ≤ 12) : pdq ltW d a b limit wb wp = insertionSort ltW d a b := by rw [pdq, if_pos h]
theorem xF (h : ¬ b - a ≤ 12) (h0 : limit = 0) : pdq ltW d a b limit wb wp = heapSort ltW d a b := by rw [pdq, if_neg h, if_pos h0]
structure Rnd (d : Array UInt32) (a b limit : Nat) (wb wp : Bool) (l1 pv : Nat) (d3 : Array UInt32) : Prop where
 done : ∃ (d1 d2 : Array UInt32) (c : Nat × Hint) (hint : Hint), d1 = (if !wb then breakPatterns d a b else d) ∧ l1 = (if !wb then limit - 1 else limit) ∧ c = choosePivot ltW d1 a b ∧
  d2 = (if c.2 = .decreasing then reverseRange d1 a b else d1) ∧ pv = (if c.2 = .decreasing then (b - 1) - (c.1 - a) else c.1) ∧ hint = (if c.2 = .decreasing then Hint.increasing else c.2) ∧
  (if wb && wp && hint = .increasing then partialInsertionSort ltW d2 a b else (d2, false)) = (d3, false)
theorem xG {d1 d2 d3 : Array UInt32} {c : Nat × Hint} {hint : Hint} (h : ¬ b - a ≤ 12) (h0 : ¬ limit = 0) (e1 : d1 = (if !wb then breakPatterns d a b else d)) (ec : c = choosePivot ltW d1 a b)
  (e3 : d2 = (if c.2 = .decreasing then reverseRange d1 a b else d1)) (e5 : hint = (if c.2 = .decreasing then Hint.increasing else c.2)) (e6 : (if wb && wp && hint = .increasing then partialInsertionSort ltW d2 a b else (d2, false)) = (d3, true)) :
  pdq ltW d a b limit wb wp = d3 := by
 subst e1 ec e3 e5
 rw [pdq, if_neg h, if_neg h0]
 simp only [e6, if_true]
theorem uz {l1 pv : Nat} {d3 : Array UInt32} (h : ¬ b - a ≤ 12) (h0 : ¬ limit = 0) (r : Rnd d a b limit wb wp l1 pv d3) :
  pdq ltW d a b limit wb wp = if a > 0 && !ltW d3[a - 1]! d3[pv]! then
   (match partitionEqual ltW d3 a b pv with | (mid, d4) => if _h : a < mid ∧ mid ≤ b then pdq ltW d4 mid b l1 wb wp else d4)
  else
   (match partition ltW d3 a b pv with
   | (mid, ap, d4) =>
    if _h : a ≤ mid ∧ mid < b then
     if mid - a < b - mid then pdq ltW (pdq ltW d4 a mid l1 true true) (mid + 1) b l1 (decide (mid - a ≥ (b - a) / 8)) ap
     else pdq ltW (pdq ltW d4 (mid + 1) b l1 true true) a mid l1 (decide (b - mid ≥ (b - a) / 8)) ap
    else d4) := by
 obtain ⟨d1, d2, c, hint, e1, e2, ec, e3, e4, e5, e6⟩ := r.done
 subst e1 ec e3 e5 e2 e4
 rw [pdq, if_neg h, if_neg h0]
 simp only [e6, Bool.false_eq_true, if_false]
theorem GP {l1 pv mid : Nat} {d3 d4 : Array UInt32} (h : ¬ b - a ≤ 12) (h0 : ¬ limit = 0) (r : Rnd d a b limit wb wp l1 pv d3) (ha : 0 < a) (hl : ltW d3[a - 1]! d3[pv]! = false) (he : partitionEqual ltW d3 a b pv = (mid, d4)) (hm : a < mid ∧ mid ≤ b) :
  pdq ltW d a b limit wb wp = pdq ltW d4 mid b l1 wb wp := by
 rw [uz h h0 r, if_pos (by simp [ha, hl]), he]
 simp only []
 rw [dif_pos hm]
theorem xE {l1 pv mid : Nat} {d3 d4 : Array UInt32} {ap : Bool} (h : ¬ b - a ≤ 12) (h0 : ¬ limit = 0) (r : Rnd d a b limit wb wp l1 pv d3) (hl : a = 0 ∨ ltW d3[a - 1]! d3[pv]! = true) (he : partition ltW d3 a b pv = (mid, ap, d4)) (hm : a ≤ mid ∧ mid < b) (hs : mid - a < b - mid) :
  pdq ltW d a b limit wb wp = pdq ltW (pdq ltW d4 a mid l1 true true) (mid + 1) b l1 (decide (mid - a ≥ (b - a) / 8)) ap := by
 rw [uz h h0 r, if_neg (by simp only [Bool.and_eq_true, decide_eq_true_eq, Bool.not_eq_true']; rintro ⟨q1, q2⟩; rcases hl with q | q; omega; rw [q] at q2; cases q2), he]
 simp only []
 rw [dif_pos hm, if_pos hs]
theorem vH {l1 pv mid : Nat} {d3 d4 : Array UInt32} {ap : Bool} (h : ¬ b - a ≤ 12) (h0 : ¬ limit = 0) (r : Rnd d a b limit wb wp l1 pv d3) (hl : a = 0 ∨ ltW d3[a - 1]! d3[pv]! = true) (he : partition ltW d3 a b pv = (mid, ap, d4)) (hm : a ≤ mid ∧ mid < b) (hs : ¬ mid - a < b - mid) :
  pdq ltW d a b limit wb wp = pdq ltW (pdq ltW d4 (mid + 1) b l1 true true) a mid l1 (decide (b - mid ≥ (b - a) / 8)) ap := by
 rw [uz h h0 r, if_neg (by simp only [Bool.and_eq_true, decide_eq_true_eq, Bool.not_eq_true']; rintro ⟨q1, q2⟩; rcases hl with q | q; omega; rw [q] at q2; cases q2), he]
 simp only []
 rw [dif_pos hm, if_neg hs]
end
theorem A2 {d : Array UInt32} {a b pv : Nat} (h : a + 1 < b) (hb : b ≤ d.size) : a < (partitionEqual ltW d a b pv).1 ∧ (partitionEqual ltW d a b pv).1 ≤ b := by
 have := partEqLoop_spec (lt := ltW) a b _ (a + 1) (b - 1) (swp d a pv) (Nat.le_refl _) (by omega) (by omega) (by omega) (by rw [nR]; exact hb) (fun t _ _ => by omega) (fun t _ _ => by omega)
 exact ⟨this.1, this.2.1⟩
theorem EP {d : Array UInt32} {a b pv : Nat} (h1 : a ≤ pv) (h2 : pv < b) (hb : b ≤ d.size) : a ≤ (partition ltW d a b pv).1 ∧ (partition ltW d a b pv).1 < b := by
 have := partition_holds (lt := ltW) xt d a b pv h1 h2 hb
 exact ⟨this.1, this.2.1⟩
theorem ru (h : Hint) : hintCode h = 2 ↔ h = .decreasing := by cases h <;> simp [hintCode]
theorem rr (h : Hint) : hintCode h = 1 ↔ h = .increasing := by cases h <;> simp [hintCode]
theorem EN {wb wp : Bool} {hint : Hint} (h : (wb = true ∧ wp = true) ∧ hintCode hint = 1) : (wb && wp && decide (hint = .increasing)) = true := by
 rw [h.1.1, h.1.2, (rr hint).1 h.2]; rfl
theorem IS {wb wp : Bool} {hint : Hint} (h : (wb = false ∨ wp = false) ∨ ¬ hintCode hint = 1) : ¬ (wb && wp && decide (hint = .increasing)) = true := by
 simp only [Bool.and_eq_true, decide_eq_true_eq]
 rintro ⟨⟨q1, q2⟩, q3⟩
 rcases h with (q | q) | q
 ·rw [q1] at q; cases q
 ·rw [q2] at q; cases q
 ·exact q ((rr hint).2 q3)
theorem Eo (d : Array UInt32) : (sort ltW d).toList = d.toList.mergeSort (fun x y => !ltW y x) := by
 have h := sort_sorts ltW xt d
 exact sorted_unique_holds (lt := ltW) xt (fun x y h1 h2 => by
  simp only [ltW, decide_eq_false_iff_not, UInt32.lt_iff_toNat_lt] at h1 h2
  exact UInt32.toNat_inj.1 (by omega)) d _ h.1 h.2
end Go.HL
namespace Go.Proofs.YtiajjbhcpeadfaaGreat
open Go Go.HL Go.RowKit Go.Sort
theorem GW (x : Nat) (hx : x < 4294967296) (w : World) :
  Cr Tryz.prog 209 #[.int .u64 (x : Nat)] w (.int .i64 (bitsLen x : Nat)) := by
 refine enter Tryz.func209 rfl Tryz.ntmps209 rfl ?_
 refine ah (zz0 (ab rfl) (ad (al (ah (zz0 (aa rfl) (zz0 (d5 rfl rfl) (ad ?_)))))))
 refine ao rfl ?_ ?_ <;> intro h1 <;> try simp only [bs] at h1
 ·first | contradiction | (exfalso; omega) | simp_all
 refine bB ?_
 refine db (ι := Nat × Nat) (fun ⟨y, n⟩ => y < 65536 ∧ n ≤ 16 ∧ bitsLen x = n + bitsLen y) (fun _ => Bg.of w) (fun ⟨y, n⟩ => []) (fun ⟨y, n⟩ => [(0, .int .u64 (y : Nat)), (2, .int .i64 (n : Nat))]) ?_ (fun i hi => ?_)
 ·skip
  refine ah (zz0 (aa rfl) (zz0 (d5 rfl rfl) (ad ?_)))
  refine ao rfl ?_ ?_ <;> intro h2 <;> try simp only [bs] at h2
  ·refine ah (zz0 (aa rfl) (zz0 (CB 16 rfl rfl (by decide)) ?_))
   refine zz0 (ab rfl) (ad (ar (zz0 (aa rfl) (zz0 (cx rfl rfl) ?_))))
   refine zz0 (ab rfl) (ad ?_)
   refine cw (x / 2 ^ 16, 16) (Front.c (Front.c Front.nil)) (bA 8 rfl) (o := ⟨by omega, by omega, IX (by omega)⟩)
  refine bB ?_
  refine cw (x, 0) (Front.c (Front.c Front.nil)) (bA 2 rfl) (o := ⟨by omega, by omega, by omega⟩)
 obtain ⟨y, n⟩ := i
 replace hi : y < 65536 ∧ n ≤ 16 ∧ bitsLen x = n + bitsLen y := hi
 change Tr _ _ [] ([(0, .int .u64 (y : Nat)), (2, .int .i64 (n : Nat))] ++ _) _
 obtain ⟨hy1, hy2, hy3⟩ := hi
 refine db (ι := Nat × Nat) (fun ⟨z, k⟩ => z < 256 ∧ k ≤ 24 ∧ bitsLen x = k + bitsLen z) (fun _ => Bg.of w) (fun ⟨z, k⟩ => []) (fun ⟨z, k⟩ => [(0, .int .u64 (z : Nat)), (2, .int .i64 (k : Nat))]) ?_ (fun i hi => ?_)
 ·skip
  refine ah (zz0 (aa rfl) (zz0 (d5 rfl rfl) (ad ?_)))
  refine ao rfl ?_ ?_ <;> intro h3 <;> try simp only [bs] at h3
  ·refine ah (zz0 (aa rfl) (zz0 (CB 8 rfl rfl (by decide)) ?_))
   refine zz0 (ab rfl) (ad (ar (zz0 (aa rfl) (zz0 (cx rfl rfl) ?_))))
   refine zz0 (ab rfl) (ad ?_)
   refine cw (y / 2 ^ 8, n + 8) (Front.c (Front.c Front.nil)) (bA 8 rfl) (o := ⟨by omega, by omega, by have := len8 (x := y) (by omega); omega⟩)
  refine bB ?_
  refine cw (y, n) (Front.c (Front.c Front.nil)) (bA 2 rfl) (o := ⟨by omega, by omega, by omega⟩)
 obtain ⟨z, k⟩ := i
 replace hi : z < 256 ∧ k ≤ 24 ∧ bitsLen x = k + bitsLen z := hi
 change Tr _ _ [] ([(0, .int .u64 (z : Nat)), (2, .int .i64 (k : Nat))] ++ _) _
 obtain ⟨hz1, hz2, hz3⟩ := hi
 have hz8 := wV hz1
 refine ah (zz0 (aa rfl) (zz0 (aa rfl) (zz0 (fb rfl cH cg (by rw [IntKind.wrap_u8]; omega)) ?_)))
 refine zz0 (D1 rfl rfl g9 (by kernel_rfl) (by omega)) ?_
 refine zz0 (fb rfl cg ba (IntWalk.i64_in _ (by omega))) ?_
 refine zz0 (cx rfl rfl) ?_
 refine zz0 (ab rfl) (ad (aD ?_))
 refine aS Tryz.results209 rfl (fun w' hw => ?_)
 exact ⟨by rw [hz3]; simp, hw.b0⟩
theorem IW (x : Nat) (xi : Int) (ex : xi = ((x : Nat) : Int)) (hx : x < 4294967296) (w : World) :
  Cr Tryz.prog 150 #[.int .u64 xi] w (.int .i64 (bitsLen x : Nat)) := by
 subst ex
 refine enter Tryz.func150 rfl Tryz.ntmps150 rfl ?_
 refine ah (zz0 (ab rfl) (ad (al ?_)))
 refine ao rfl ?_ ?_ <;> intro h1 <;> try simp only [bs] at h1
 ·first | contradiction | (exfalso; omega) | simp_all
 refine df (zz0 (aa rfl) (zz0 (aC rfl Tryz.call209 (fun w hw => GW x hx w)) ?_))
 refine zz0 (ab rfl) (ad (aD ?_))
 refine aS Tryz.results150 rfl (fun w' hw => ?_)
 exact ⟨rfl, hw.b0⟩
theorem Dl (n : Nat) (ni : Int) (en : ni = ((n : Nat) : Int)) (hn : n ≤ 1000000) (w : World) :
  Cr Tryz.prog 265 #[.int .i64 ni] w (.int .u64 ((1 <<< bitsLen n : Nat) : Int)) := by
 subst en
 have hb : bitsLen n ≤ 20 := (bitsLen_le_iff n 20).2 (by omega)
 refine enter Tryz.func265 rfl Tryz.ntmps265 rfl ?_
 refine ah (zz0 (ab rfl) (aL (zz0 (aa rfl) (zz0 (fb rfl ba dR (IntWalk.u64_in _ (by omega))) ?_))))
 refine zz0 (aC rfl Tryz.call150 (fun w hw => IW n _ rfl (by omega) w)) ?_
 refine zz0 (DV rfl rfl (by omega)) ?_
 refine zz0 (ab rfl) (ad (aD ?_))
 refine aS Tryz.results265 rfl (fun w' hw => ?_)
 exact ⟨rfl, hw.b0⟩
theorem If (r : UInt64) (bs : Nat) (w : World) (ho : OwnAt w [cellE bs [.int .u64 ((r).toNat : Int)] 292]) :
  Calls Tryz.prog 266 #[.pointer (some ⟨bs, 0, none⟩)] w (fun e w' => ∃ i : Unit, e = .returned (.int .u64 ((xorNext r).toNat : Nat)) ∧ Upd w.drawn w w' (cT [cellE bs [.int .u64 ((r).toNat : Int)] 292]) ([cellE bs [.int .u64 ((xorNext r).toNat : Int)] 292]) ∧ True) := by
 refine qB (L := [cellE bs [.int .u64 ((r).toNat : Int)] 292]) ho rfl (Nat.le_refl _) Tryz.func266 rfl Tryz.ntmps266 rfl ?_
 refine ah (zz0 (ab rfl) (ad (al (fK 0 9 aT ?_))))
 refine bH ?_
 refine ax (aa rfl) (ax (bh rfl) ?_)
 refine ax (ki rfl i6) ?_
 refine ax (aa rfl) (ax (bh rfl) ?_)
 refine ax (ki rfl i6) ?_
 refine ax (AB 13 rfl rfl (by decide)) ?_
 refine ax (vn rfl rfl) ?_
 refine ax (bh rfl) ?_
 refine bK ?_
 refine zz8 rfl rfl lA ?_
 refine ad (al (fK 0 9 aT ?_))
 refine bH ?_
 refine ax (aa rfl) (ax (bh rfl) ?_)
 refine ax (ki rfl i6) ?_
 refine ax (aa rfl) (ax (bh rfl) ?_)
 refine ax (ki rfl i6) ?_
 refine ax (Gp 7 rfl rfl (by decide)) ?_
 refine ax (vn rfl rfl) ?_
 refine ax (bh rfl) ?_
 refine bK ?_
 refine zz8 rfl rfl lA ?_
 refine ad (al (fK 0 9 aT ?_))
 refine bH ?_
 refine ax (aa rfl) (ax (bh rfl) ?_)
 refine ax (ki rfl i6) ?_
 refine ax (aa rfl) (ax (bh rfl) ?_)
 refine ax (ki rfl i6) ?_
 refine ax (AB 17 rfl rfl (by decide)) ?_
 refine ax (vn rfl rfl) ?_
 refine ax (bh rfl) ?_
 refine bK ?_
 refine zz8 rfl rfl lA ?_
 refine aL (zz0 (aa rfl) (zz0 (bh rfl) ?_))
 refine zz0 (ki rfl i6) ?_
 refine zz0 (ab rfl) (ad (aD ?_))
 refine aS Tryz.results266 rfl (fun w' hw => ?_)
 exact ⟨(), rfl, hw.upd (Bg.le.refl _) (by repeat' constructor), trivial⟩
theorem qw (d : Array UInt32) (V : Value) (bs : Nat) (a b s : Nat) (ai bi : Int) (ea : ai = ((a : Nat) : Int)) (eb : bi = ((b : Nat) : Int)) (w : World) (ho : OwnAt w [rowE V 23 an d.toList, cellE bs [.int .i64 ((s : Nat) : Int)] 3]) (hd : d.size ≤ 1000000) (ha : a < d.size) (hb : b < d.size) (hs : s ≤ 100 := by omega) :
  Calls Tryz.prog 323 #[V, .int .i64 ai, .int .i64 bi, .pointer (some ⟨bs, 0, none⟩)] w (fun e w' => ∃ i : Nat × Nat × Nat, e = .returned ((fun i : Nat × Nat × Nat => .tuple #[.int .i64 (i.1 : Nat), .int .i64 (i.2.1 : Nat)]) i) ∧ Upd w.drawn w w' (cT [rowE V 23 an d.toList, cellE bs [.int .i64 ((s : Nat) : Int)] 3]) ([rowE V 23 an d.toList, cellE bs [.int .i64 (i.2.2 : Nat)] 3]) ∧ i = order2 ltW d a b s) := by
 subst ea eb
 have hdl : d.toList.length = d.size := Array.length_toList
 refine qB (L := [rowE V 23 an d.toList, cellE bs [.int .i64 ((s : Nat) : Int)] 3]) ho rfl (Nat.le_refl _) Tryz.func323 rfl Tryz.ntmps323 rfl ?_
 refine ah (zz0 (ab rfl) (zz0 (ab rfl) (ad (al (al (gZ aT ?_))))))
 refine ax (aa rfl) (ax (aa rfl) (ax (dm rfl rfl aj ae) ?_))
 refine ax (er rfl am) ?_
 refine ax (aa rfl) (ax (aa rfl) (ax (dm rfl rfl aj ae) ?_))
 refine ax (er rfl am) ?_
 refine ax (aC rfl fB (fun w hw => gJ (d.toList.getD (b) default) (d.toList.getD (a) default) w)) ?_
 refine bK ?_
 refine ac ?_
 refine ao rfl ?_ ?_ <;> intro h1 <;> try simp only [bs] at h1
 ·refine ah (zz0 (aa rfl) (zz0 (bh rfl) ?_))
  refine zz0 (ki rfl aI) ?_
  refine zz0 (cx rfl rfl) ?_
  refine zz0 (bh rfl) ?_
  refine jq rfl rfl ay (by repeat constructor) (by rfl) (by rfl) (by first | exact List.all_eq_true.1 rfl | exact Enc.one _ _ | exact Enc.one bQ _ | (intro u hu; simp [Value.cells] at hu; simp_all [Value.oneCell'])) rfl ?_
  refine aL (zz0 (aa rfl) (zz0 (aa rfl) (zz0 (ab rfl) (zz0 (ab rfl) (ad (aD (aB ?_)))))))
  refine dI Tryz.results323 rfl rfl (fun w' hw => ?_)
  refine ⟨(b, a, s + 1), rfl, hw.upd (Bg.le.refl _) (by repeat' constructor), ?_⟩
  unfold order2
  rw [if_pos (by rw [← dQ, ← dQ]; simp_all)]
 refine df (zz0 (aa rfl) (zz0 (aa rfl) (zz0 (ab rfl) (zz0 (ab rfl) (ad (aD ?_))))))
 refine dI Tryz.results323 rfl rfl (fun w' hw => ?_)
 refine ⟨(a, b, s), rfl, hw.upd (Bg.le.refl _) (by repeat' constructor), ?_⟩
 unfold order2
 rw [if_neg (by rw [← dQ, ← dQ]; simp_all)]
theorem uR (d : Array UInt32) (V : Value) (bs : Nat) (a b c s : Nat) (ai bi ci : Int) (ea : ai = ((a : Nat) : Int)) (eb : bi = ((b : Nat) : Int)) (ec : ci = ((c : Nat) : Int)) (w : World) (ho : OwnAt w [rowE V 23 an d.toList, cellE bs [.int .i64 ((s : Nat) : Int)] 3]) (hd : d.size ≤ 1000000) (ha : a < d.size) (hb : b < d.size) (hc : c < d.size) (hs : s ≤ 90 := by omega) :
  Calls Tryz.prog 295 #[V, .int .i64 ai, .int .i64 bi, .int .i64 ci, .pointer (some ⟨bs, 0, none⟩)] w (fun e w' => ∃ i : Nat × Nat, e = .returned ((fun i : Nat × Nat => .int .i64 (i.1 : Nat)) i) ∧ Upd w.drawn w w' (cT [rowE V 23 an d.toList, cellE bs [.int .i64 ((s : Nat) : Int)] 3]) ([rowE V 23 an d.toList, cellE bs [.int .i64 (i.2 : Nat)] 3]) ∧ i = median ltW d a b c s) := by
 subst ea eb ec
 refine qB (L := [rowE V 23 an d.toList, cellE bs [.int .i64 ((s : Nat) : Int)] 3]) ho rfl (Nat.le_refl _) Tryz.func295 rfl Tryz.ntmps295 rfl ?_
 refine ah (zz0 (ab rfl) (aL (zz0 (aa rfl) (zz0 (aa rfl) (zz0 (aa rfl) (zz0 (aa rfl) ?_))))))
 refine iE (fun i : Nat × Nat × Nat => .tuple #[.int .i64 (i.1 : Nat), .int .i64 (i.2.1 : Nat)]) [rowE V 23 an d.toList, cellE bs [.int .i64 ((s : Nat) : Int)] 3] (fun i : Nat × Nat × Nat => [rowE V 23 an d.toList, cellE bs [.int .i64 (i.2.2 : Nat)] 3]) (ok := fun i => i = order2 ltW d a b s) (dd := fun w => w.drawn) rfl Tryz.call323 (by repeat' constructor) (fun w hw => hw.dr) (fun w hw => qw d V bs a b s _ _ rfl rfl w (hw.own (by repeat' constructor)) hd (by omega) (by omega)) rfl (fun p hp => ?_)
 obtain ⟨bp1, bp2, bp3⟩ := sa hp (n := d.size) (by omega) (by omega)
 obtain ⟨x1, y1, s1⟩ := p
 dsimp only at bp1 bp2 bp3
 change Tr _ _ [rowE V 23 an d.toList, cellE bs [.int .i64 ((s1 : Nat) : Int)] 3] _ _
 refine zz0 (aa rfl) (zz0 (aR rfl rfl) (zz0 (aR rfl rfl) (zz0 (ab rfl) (zz0 (ab rfl) (aL (zz0 (aa rfl) (zz0 (aa rfl) (zz0 (aa rfl) (zz0 (aa rfl) ?_)))))))))
 refine iE (fun i : Nat × Nat × Nat => .tuple #[.int .i64 (i.1 : Nat), .int .i64 (i.2.1 : Nat)]) [rowE V 23 an d.toList, cellE bs [.int .i64 ((s1 : Nat) : Int)] 3] (fun i : Nat × Nat × Nat => [rowE V 23 an d.toList, cellE bs [.int .i64 (i.2.2 : Nat)] 3]) (ok := fun i => i = order2 ltW d y1 c s1) (dd := fun w => w.drawn) rfl Tryz.call323 (by repeat' constructor) (fun w hw => hw.dr) (fun w hw => qw d V bs y1 c s1 _ _ rfl rfl w (hw.own (by repeat' constructor)) hd (by omega) (by omega)) rfl (fun q hq => ?_)
 obtain ⟨bq1, bq2, bq3⟩ := sa hq (n := d.size) (by omega) (by omega)
 obtain ⟨x2, y2, s2⟩ := q
 dsimp only at bq1 bq2 bq3
 change Tr _ _ [rowE V 23 an d.toList, cellE bs [.int .i64 ((s2 : Nat) : Int)] 3] _ _
 refine zz0 (aa rfl) (zz0 (aR rfl rfl) (zz0 (aR rfl rfl) (zz0 (ab rfl) (zz0 (ab rfl) (aL (zz0 (aa rfl) (zz0 (aa rfl) (zz0 (aa rfl) (zz0 (aa rfl) ?_)))))))))
 refine iE (fun i : Nat × Nat × Nat => .tuple #[.int .i64 (i.1 : Nat), .int .i64 (i.2.1 : Nat)]) [rowE V 23 an d.toList, cellE bs [.int .i64 ((s2 : Nat) : Int)] 3] (fun i : Nat × Nat × Nat => [rowE V 23 an d.toList, cellE bs [.int .i64 (i.2.2 : Nat)] 3]) (ok := fun i => i = order2 ltW d x1 x2 s2) (dd := fun w => w.drawn) rfl Tryz.call323 (by repeat' constructor) (fun w hw => hw.dr) (fun w hw => qw d V bs x1 x2 s2 _ _ rfl rfl w (hw.own (by repeat' constructor)) hd (by omega) (by omega)) rfl (fun r hr => ?_)
 obtain ⟨br1, br2, br3⟩ := sa hr (n := d.size) (by omega) (by omega)
 obtain ⟨x3, y3, s3⟩ := r
 dsimp only at br1 br2 br3
 change Tr _ _ [rowE V 23 an d.toList, cellE bs [.int .i64 ((s3 : Nat) : Int)] 3] _ _
 refine zz0 (aa rfl) (zz0 (aR rfl rfl) (zz0 (aR rfl rfl) (zz0 (ab rfl) (zz0 (ab rfl) (aL (zz0 (aa rfl) (zz0 (ab rfl) (ad (aD ?_)))))))))
 refine aS Tryz.results295 rfl (fun w' hw => ?_)
 exact ⟨(y3, s3), rfl, hw.upd (Bg.le.refl _) (by repeat' constructor), by unfold median; simp only []; rw [← hp]; dsimp only; rw [← hq]; dsimp only; rw [← hr]⟩
theorem yv (d : Array UInt32) (V : Value) (bs : Nat) (a s : Nat) (ai : Int) (ea : ai = ((a : Nat) : Int)) (w : World) (ho : OwnAt w [rowE V 23 an d.toList, cellE bs [.int .i64 ((s : Nat) : Int)] 3]) (hd : d.size ≤ 1000000) (ha : a + 1 < d.size) (h1 : 1 ≤ a) (hs : s ≤ 80 := by omega) :
  Calls Tryz.prog 294 #[V, .int .i64 ai, .pointer (some ⟨bs, 0, none⟩)] w (fun e w' => ∃ i : Nat × Nat, e = .returned ((fun i : Nat × Nat => .int .i64 (i.1 : Nat)) i) ∧ Upd w.drawn w w' (cT [rowE V 23 an d.toList, cellE bs [.int .i64 ((s : Nat) : Int)] 3]) ([rowE V 23 an d.toList, cellE bs [.int .i64 (i.2 : Nat)] 3]) ∧ i = medianAdjacent ltW d a s) := by
 subst ea
 refine qB (L := [rowE V 23 an d.toList, cellE bs [.int .i64 ((s : Nat) : Int)] 3]) ho rfl (Nat.le_refl _) Tryz.func294 rfl Tryz.ntmps294 rfl ?_
 refine ah (zz0 (ab rfl) (aL (zz0 (aa rfl) (zz0 (aa rfl) (zz0 (d6 rfl rfl) ?_)))))
 refine zz0 (aa rfl) (zz0 (aa rfl) (zz0 (cx rfl rfl) ?_))
 refine zz0 (aa rfl) ?_
 refine iE (fun i : Nat × Nat => .int .i64 (i.1 : Nat)) [rowE V 23 an d.toList, cellE bs [.int .i64 ((s : Nat) : Int)] 3] (fun i : Nat × Nat => [rowE V 23 an d.toList, cellE bs [.int .i64 (i.2 : Nat)] 3]) (ok := fun zz => zz = median ltW d (a - 1) a (a + 1) s) (dd := fun w => w.drawn) rfl Tryz.call295 (by repeat' constructor) (fun w hw => hw.dr) (fun w hw => uR d V bs (a - 1) a (a + 1) s _ _ _ (by omega) (by omega) (by omega) w (hw.own (by repeat' constructor)) hd (by omega) (by omega) (by omega)) rfl (fun p hp => ?_)
 obtain ⟨x, s1⟩ := p
 change Tr _ _ [rowE V 23 an d.toList, cellE bs [.int .i64 ((s1 : Nat) : Int)] 3] _ _
 refine zz0 (ab rfl) (ad (aD ?_))
 refine aS Tryz.results294 rfl (fun w' hw => ?_)
 exact ⟨(x, s1), rfl, hw.upd (Bg.le.refl _) (by repeat' constructor), hp⟩
theorem tJ (d : Array UInt32) (V : Value) (a : Nat) (b : Nat) (ai : Int) (bi : Int) (ea : ai = ((a : Nat) : Int)) (eb : bi = ((b : Nat) : Int)) (w : World) (hr : (rowE V 23 an d.toList).holds w) (hd : d.size ≤ 1000000) (hab : a < b) (hb : b ≤ d.size) :
  Calls Tryz.prog 257 #[V, .int .i64 ai, .int .i64 bi] w (fun e w' => e = .returned (.tuple #[.int .i64 ((choosePivot ltW d a b).1 : Nat), .int .i64 (hintCode (choosePivot ltW d a b).2)]) ∧ Mut w w' V ∧ (rowE V 23 an d.toList).holds w') := by
 subst ea eb
 refine fF (l := d.toList) (E := an) (T := 23) hr Tryz.func257 rfl Tryz.ntmps257 rfl ?_
 refine ah (zz0 (ab rfl) (zz0 (ab rfl) (aL (zz0 (aa rfl) (zz0 (aa rfl) (zz0 (d6 rfl rfl) ?_))))))
 refine zz0 (ab rfl) (aL ?_)
 refine dA iH rfl (fun b1 => ?_)
 refine aL (zz0 (aa rfl) (zz0 (aa rfl) (zz0 (oH rfl rfl (by omega)) ?_)))
 refine zz0 (kM rfl rfl (by omega)) ?_
 refine zz0 (cx rfl rfl) ?_
 refine zz0 (ab rfl) (aL (zz0 (aa rfl) (zz0 (aa rfl) (zz0 (oH rfl rfl (by omega)) ?_))))
 refine zz0 (kM rfl rfl (by omega)) ?_
 refine zz0 (cx rfl rfl) ?_
 refine zz0 (ab rfl) (aL (zz0 (aa rfl) (zz0 (aa rfl) (zz0 (oH rfl rfl (by omega)) ?_))))
 refine zz0 (kM rfl rfl (by omega)) ?_
 refine zz0 (cx rfl rfl) ?_
 refine zz0 (ab rfl) (ad ?_)
 refine db (ι := Nat × Nat × Nat × Nat) (fun ⟨i, j, k, s⟩ => (j < d.size ∧ s ≤ 12) ∧ (j, s) = rawPivot ltW d a b) (fun _ => Bg.less w V) (fun ⟨i, j, k, s⟩ => [rowE V 23 an d.toList, cellE b1 [.int .i64 ((s : Nat) : Int)] 3]) (fun ⟨i, j, k, s⟩ => [(10, .int .i64 (i : Nat)), (11, .int .i64 (j : Nat)), (12, .int .i64 (k : Nat))]) ?_ (fun i hi => ?_)
 ·skip
  refine ah (zz0 (aa rfl) (zz0 (d5 rfl rfl) (ad ?_)))
  refine ao rfl ?_ ?_ <;> intro h2 <;> try simp only [bs] at h2
  ·refine db (ι := Nat × Nat × Nat × Nat) (fun ⟨i, j, k, s⟩ => (i < d.size ∧ j < d.size ∧ k < d.size ∧ s ≤ 9) ∧ median ltW d i j k s = rawPivot ltW d a b) (fun _ => Bg.less w V) (fun ⟨i, j, k, s⟩ => [rowE V 23 an d.toList, cellE b1 [.int .i64 ((s : Nat) : Int)] 3]) (fun ⟨i, j, k, s⟩ => [(10, .int .i64 (i : Nat)), (11, .int .i64 (j : Nat)), (12, .int .i64 (k : Nat))]) ?_ (fun i hi => ?_)
   ·skip
    refine ah (zz0 (aa rfl) (zz0 (d5 rfl rfl) (ad ?_)))
    refine ao rfl ?_ ?_ <;> intro h3 <;> try simp only [bs] at h3
    ·refine ah (zz0 (aa rfl) (zz0 (aa rfl) ?_))
     refine iE (fun i : Nat × Nat => .int .i64 (i.1 : Nat)) [rowE V 23 an d.toList, cellE b1 [.int .i64 ((0 : Nat) : Int)] 3] (fun i : Nat × Nat => [rowE V 23 an d.toList, cellE b1 [.int .i64 (i.2 : Nat)] 3]) (ok := fun zz => zz = medianAdjacent ltW d (a + (b - a) / 4 * 1) 0) (dd := fun w => w.drawn) rfl Tryz.call294 (by repeat' constructor) (fun w hw => hw.dr) (fun w hw => yv d V b1 (a + (b - a) / 4 * 1) 0 _ (by omega) w (hw.own (by repeat' constructor)) hd (by omega) (by omega)) rfl (fun p hp => ?_)
     have bp := BC hp (n := d.size) (by omega)
     obtain ⟨x1, s1⟩ := p
     dsimp only at bp
     change Tr _ _ [rowE V 23 an d.toList, cellE b1 [.int .i64 ((s1 : Nat) : Int)] 3] _ _
     refine zz0 (ab rfl) (aL (zz0 (aa rfl) (zz0 (aa rfl) ?_)))
     refine iE (fun i : Nat × Nat => .int .i64 (i.1 : Nat)) [rowE V 23 an d.toList, cellE b1 [.int .i64 ((s1 : Nat) : Int)] 3] (fun i : Nat × Nat => [rowE V 23 an d.toList, cellE b1 [.int .i64 (i.2 : Nat)] 3]) (ok := fun zz => zz = medianAdjacent ltW d (a + (b - a) / 4 * 2) s1) (dd := fun w => w.drawn) rfl Tryz.call294 (by repeat' constructor) (fun w hw => hw.dr) (fun w hw => yv d V b1 (a + (b - a) / 4 * 2) s1 _ (by omega) w (hw.own (by repeat' constructor)) hd (by omega) (by omega)) rfl (fun q hq => ?_)
     have bq := BC hq (n := d.size) (by omega)
     obtain ⟨x2, s2⟩ := q
     dsimp only at bq
     change Tr _ _ [rowE V 23 an d.toList, cellE b1 [.int .i64 ((s2 : Nat) : Int)] 3] _ _
     refine zz0 (ab rfl) (ad (ar (zz0 (aa rfl) (zz0 (aa rfl) ?_))))
     refine iE (fun i : Nat × Nat => .int .i64 (i.1 : Nat)) [rowE V 23 an d.toList, cellE b1 [.int .i64 ((s2 : Nat) : Int)] 3] (fun i : Nat × Nat => [rowE V 23 an d.toList, cellE b1 [.int .i64 (i.2 : Nat)] 3]) (ok := fun zz => zz = medianAdjacent ltW d (a + (b - a) / 4 * 3) s2) (dd := fun w => w.drawn) rfl Tryz.call294 (by repeat' constructor) (fun w hw => hw.dr) (fun w hw => yv d V b1 (a + (b - a) / 4 * 3) s2 _ (by omega) w (hw.own (by repeat' constructor)) hd (by omega) (by omega)) rfl (fun r hr => ?_)
     have br := BC hr (n := d.size) (by omega)
     obtain ⟨x3, s3⟩ := r
     dsimp only at br
     change Tr _ _ [rowE V 23 an d.toList, cellE b1 [.int .i64 ((s3 : Nat) : Int)] 3] _ _
     refine zz0 (ab rfl) (ad ?_)
     refine cw (x1, x2, x3, s3) (Front.c (Front.c (Front.c Front.nil))) (bA 14 rfl) (o := ⟨by omega, GO (by omega) hp hq hr rfl⟩)
    refine bB ?_
    refine cw (a + (b - a) / 4 * 1, a + (b - a) / 4 * 2, a + (b - a) / 4 * 3, 0) (Front.c (Front.c (Front.c Front.nil))) (bA 2 rfl) (o := ⟨by omega, GN (by omega) (by omega) rfl⟩)
   obtain ⟨i, j, k, s⟩ := i
   replace hi : (i < d.size ∧ j < d.size ∧ k < d.size ∧ s ≤ 9) ∧ median ltW d i j k s = rawPivot ltW d a b := hi
   change Tr _ _ [rowE V 23 an d.toList, cellE b1 [.int .i64 ((s : Nat) : Int)] 3] ([(10, .int .i64 (i : Nat)), (11, .int .i64 (j : Nat)), (12, .int .i64 (k : Nat))] ++ _) _
   obtain ⟨hi1, hi2⟩ := hi
   refine ar (zz0 (aa rfl) (zz0 (aa rfl) (zz0 (aa rfl) (zz0 (aa rfl) ?_))))
   refine iE (fun i : Nat × Nat => .int .i64 (i.1 : Nat)) [rowE V 23 an d.toList, cellE b1 [.int .i64 ((s : Nat) : Int)] 3] (fun i : Nat × Nat => [rowE V 23 an d.toList, cellE b1 [.int .i64 (i.2 : Nat)] 3]) (ok := fun zz => zz = median ltW d i j k s) (dd := fun w => w.drawn) rfl Tryz.call295 (by repeat' constructor) (fun w hw => hw.dr) (fun w hw => uR d V b1 i j k s _ _ _ rfl rfl rfl w (hw.own (by repeat' constructor)) hd (by omega) (by omega) (by omega)) rfl (fun z hz => ?_)
   have bz := ww hz (n := d.size) (by omega) (by omega) (by omega)
   obtain ⟨x4, s4⟩ := z
   dsimp only at bz
   change Tr _ _ [rowE V 23 an d.toList, cellE b1 [.int .i64 ((s4 : Nat) : Int)] 3] _ _
   refine zz0 (ab rfl) (ad ?_)
   refine cw (i, x4, k, s4) (Front.c (Front.c (Front.c Front.nil))) (bA 11 rfl) (o := ⟨by omega, by rw [← hi2]; exact hz⟩)
  refine bB ?_
  refine cw (a + (b - a) / 4 * 1, a + (b - a) / 4 * 2, a + (b - a) / 4 * 3, 0) (Front.c (Front.c (Front.c Front.nil))) (bA 2 rfl) (o := ⟨by omega, EI (by omega)⟩)
 obtain ⟨i, j, k, s⟩ := i
 replace hi : (j < d.size ∧ s ≤ 12) ∧ (j, s) = rawPivot ltW d a b := hi
 change Tr _ _ [rowE V 23 an d.toList, cellE b1 [.int .i64 ((s : Nat) : Int)] 3] ([(10, .int .i64 (i : Nat)), (11, .int .i64 (j : Nat)), (12, .int .i64 (k : Nat))] ++ _) _
 obtain ⟨hj1, hj2⟩ := hi
 refine ah (zz0 (aH rfl aI) ?_)
 refine ad (aG (ah (zz0 (aY rfl rfl) (zz0 (ab rfl) (ad ?_)))))
 refine ao rfl ?_ ?_ <;> intro h4 <;> try simp only [bs] at h4
 ·refine ah (zz0 (aa rfl) (zz0 (ab rfl) (zz0 (ab rfl) (ad (aD (bv ?_))))))
  refine dI mR rfl rfl (fun w' hw => ?_)
  obtain rfl : s = 0 := by omega
  exact ⟨by rw [choosePivot_eq, ← hj2]; rfl, HpOK.mutOwn hw (.head _) rfl⟩
 refine ah (zz0 (aY rfl rfl) (zz0 (ab rfl) (ad ?_)))
 refine ao rfl ?_ ?_ <;> intro h5 <;> try simp only [bs] at h5
 ·refine ah (zz0 (aa rfl) (zz0 (ab rfl) (zz0 (ab rfl) (ad (aD (bv ?_))))))
  refine dI mR rfl rfl (fun w' hw => ?_)
  obtain rfl : s = 12 := by omega
  exact ⟨by rw [choosePivot_eq, ← hj2]; rfl, HpOK.mutOwn hw (.head _) rfl⟩
 refine ah (zz0 (aa rfl) (zz0 (ab rfl) (zz0 (ab rfl) (ad (aD (bv ?_))))))
 refine dI mR rfl rfl (fun w' hw => ?_)
 exact ⟨by rw [choosePivot_eq, ← hj2]; simp only [hintOf]; rw [if_neg (by omega), if_neg (by omega)]; rfl, HpOK.mutOwn hw (.head _) rfl⟩
theorem DN (d : Array UInt32) (V : Value) (a : Nat) (b : Nat) (ai : Int) (bi : Int) (ea : ai = ((a : Nat) : Int)) (eb : bi = ((b : Nat) : Int)) (w : World) (hr : (rowE V 23 an d.toList).holds w) (hd : d.size ≤ 1000000) (hab : a ≤ b) (hb : b ≤ d.size) :
  Calls Tryz.prog 256 #[V, .int .i64 ai, .int .i64 bi] w (fun e w' => e = .returned (.tuple #[]) ∧ Mut w w' V ∧ (rowE V 23 an (breakPatterns d a b).toList).holds w') := by
 subst ea eb
 obtain ⟨md, hmd⟩ : ∃ md, md = 1 <<< bitsLen (b - a) := ⟨_, rfl⟩
 obtain ⟨i0, hi0⟩ : ∃ i, i = a + (b - a) / 4 * 2 - 1 := ⟨_, rfl⟩
 refine fF (l := d.toList) (E := an) (T := 23) hr Tryz.func256 rfl Tryz.ntmps256 rfl ?_
 refine ah (zz0 (aa rfl) (zz0 (aa rfl) (zz0 (d6 rfl rfl) ?_)))
 refine zz0 (ab rfl) (aL (zz0 (aa rfl) (zz0 (d5 rfl rfl) (ad ?_))))
 refine ao rfl ?_ ?_ <;> intro h1 <;> try simp only [bs] at h1
 ·refine ah (zz0 (aa rfl) (zz0 (BV (b - a) rfl ba Tryz.underlying292 (by omega) (by omega)) ?_))
  refine dA Tryz.zeroValue292 rfl (fun b2 => ?_)
  refine jq rfl rfl lA (by repeat constructor) (by rfl) (by rfl) (by first | exact List.all_eq_true.1 rfl | exact Enc.one _ _) rfl ?_
  refine aL (zz0 (aa rfl) (zz0 (aC rfl Tryz.call265 (fun w hw => Dl (b - a) _ (by omega) (by omega) w)) ?_))
  rw [← hmd]
  have hmb := Ig (n := b - a) (by omega)
  rw [← hmd] at hmb
  refine zz0 (ab rfl) (aL (zz0 (aa rfl) (zz0 (aa rfl) (zz0 (oH rfl rfl (by omega)) ?_))))
  refine zz0 (kM rfl rfl (by omega)) ?_
  refine zz0 (cx rfl rfl) ?_
  refine zz0 (d6 rfl rfl) ?_
  refine zz0 (ab rfl) (ad (aG ?_))
  refine bN (ι := Nat × UInt64 × Array UInt32) (fun ⟨t, r, cur⟩ => t ≤ 3 ∧ cur.size = d.size ∧ qG a (b - a) md i0 t (UInt64.ofNat (b - a), d) = (r, cur)) (fun _ => _) (fun ⟨t, r, cur⟩ => [rowE V 23 an cur.toList, cellE b2 [.int .u64 (r.toNat : Int)] 292]) (fun ⟨t, r, cur⟩ => [(9, .int .i64 ((i0 + t : Nat) : Int))]) (fun ⟨t, r, cur⟩ => 3 - t) (0, UInt64.ofNat (b - a), d) ⟨by omega, rfl, rfl⟩ (Front.c Front.nil) (by repeat' constructor) rfl (fun i hi m hm => ?_)
  obtain ⟨t, r, cur⟩ := i
  replace hi : t ≤ 3 ∧ cur.size = d.size ∧ qG a (b - a) md i0 t (UInt64.ofNat (b - a), d) = (r, cur) := hi
  replace hm : m = 3 - t := hm
  change Tr _ _ [rowE V 23 an cur.toList, cellE b2 [.int .u64 (r.toNat : Int)] 292] ([(9, .int .i64 ((i0 + t : Nat) : Int))] ++ _) _
  obtain ⟨hk1, hk2, hk3⟩ := hi
  have hcl : cur.toList.length = d.size := by rw [Array.length_toList]; exact hk2
  refine al (ah (zz0 (aa rfl) (zz0 (aa rfl) (zz0 (aa rfl) (zz0 (oH rfl rfl (by omega)) ?_)))))
  refine zz0 (kM rfl rfl (by omega)) ?_
  refine zz0 (cx rfl rfl) ?_
  refine zz0 (cx rfl rfl) ?_
  refine zz0 (fE rfl rfl) (ad ?_)
  refine ao rfl ?_ ?_ <;> intro h3 <;> try simp only [bs] at h3
  ·refine bB (al (aG (ah ?_)))
   refine iE (fun _ : Unit => .int .u64 ((xorNext r).toNat : Nat)) [cellE b2 [.int .u64 ((r).toNat : Int)] 292] (fun _ => [cellE b2 [.int .u64 ((xorNext r).toNat : Int)] 292]) (ok := fun _ => True) (dd := fun w => w.drawn) rfl Tryz.call266 (by repeat' constructor) (fun w hw => hw.dr) (fun w hw => If r b2 w (hw.own (by repeat' constructor))) rfl (fun i hi => ?_)
   refine zz0 (aa rfl) (zz0 (Gl (n := 1) rfl rfl (by omega) (by omega)) ?_)
   refine zz0 (Gu rfl rfl (by have := (xorNext r).toNat_lt; omega) (by omega)) ?_
   have hand : (xorNext r).toNat &&& (md - 1) ≤ md - 1 := Nat.and_le_right
   change Tr _ _ [cellE b2 [.int .u64 ((xorNext r).toNat : Int)] 292, rowE V 23 an cur.toList] _ _
   refine zz0 (fb rfl dR ba (IntWalk.i64_in _ (by omega))) ?_
   refine zz0 (ab rfl) (ad ?_)
   refine db (ι := Nat) (fun o => o < b - a ∧ o = if b - a ≤ ((xorNext r).toNat &&& (md - 1)) then ((xorNext r).toNat &&& (md - 1)) - (b - a) else ((xorNext r).toNat &&& (md - 1))) (fun _ => Bg.less w V) (fun o => [rowE V 23 an cur.toList, cellE b2 [.int .u64 ((xorNext r).toNat : Int)] 292]) (fun o => [(10, .int .i64 (o : Nat))]) ?_ (fun o hi => ?_)
   ·skip
    refine ah (zz0 (aa rfl) (zz0 (aa rfl) (zz0 (d5 rfl rfl) (ad ?_))))
    refine ao rfl ?_ ?_ <;> intro h4 <;> try simp only [bs] at h4
    ·refine ar (zz0 (aa rfl) (zz0 (aa rfl) (zz0 (d6 rfl rfl) ?_)))
     refine zz0 (ab rfl) (ad ?_)
     refine cw (((xorNext r).toNat &&& (md - 1)) - (b - a)) (Front.c Front.nil) (bA 7 rfl) (o := ⟨by omega, by rw [if_pos (by omega)]⟩)
    refine bB ?_
    refine cw ((xorNext r).toNat &&& (md - 1)) (Front.c Front.nil) (bA 3 rfl) (o := ⟨by omega, by rw [if_neg (by omega)]⟩)
   skip
   replace hi : o < b - a ∧ o = if b - a ≤ ((xorNext r).toNat &&& (md - 1)) then ((xorNext r).toNat &&& (md - 1)) - (b - a) else ((xorNext r).toNat &&& (md - 1)) := hi
   change Tr _ _ [rowE V 23 an cur.toList, cellE b2 [.int .u64 ((xorNext r).toNat : Int)] 292] ([(10, .int .i64 (o : Nat))] ++ _) _
   obtain ⟨ho1, ho2⟩ := hi
   refine fK 6 17 aT ?_
   refine ei rfl ?_
   refine ei rfl ?_
   refine ei rfl ?_
   refine ei rfl ?_
   refine ei rfl ?_
   refine gp (fun _ => cx rfl rfl) (by rfl) rfl ?_
   refine bH ?_
   refine ax (aa rfl) (ax (aa rfl) (ax (aa rfl) (ax (cx rfl rfl) ?_)))
   refine ax (dm rfl rfl aj ae) ?_
   refine ax (er rfl am) ?_
   refine ax (aa rfl) (ax (aa rfl) (ax (dm rfl rfl aj ae) ?_))
   refine ax (er rfl am) ?_
   refine ax (dm rfl rfl aj ae) ?_
   refine bK ?_
   refine f9 (l := cur.toList) (i := (i0 + t)) (cur.toList.getD ((a + o)) default) rfl rfl ae ?_
   have hls5 : (List.set cur.toList ((i0 + t)) (cur.toList.getD ((a + o)) default)).length = (cur.toList).length := List.length_set
   refine zz0 (dm rfl rfl aj ae) ?_
   refine f9 (l := (cur.toList.set ((i0 + t)) (cur.toList.getD ((a + o)) default))) (i := (a + o)) (cur.toList.getD ((i0 + t)) default) rfl rfl ae ?_
   have hls6 : (List.set (cur.toList.set ((i0 + t)) (cur.toList.getD ((a + o)) default)) ((a + o)) (cur.toList.getD ((i0 + t)) default)).length = ((cur.toList.set ((i0 + t)) (cur.toList.getD ((a + o)) default))).length := List.length_set
   rw [dQ, dQ, io]
   refine az (aX (ac (ar (zz0 (aa rfl) (zz0 (cx rfl rfl) ?_)))))
   refine zz0 (ab rfl) (ad ?_)
   refine cC (t + 1, xorNext r, _) (Front.c Front.nil) (bA 37 rfl) (o := ⟨by omega, by rw [nR]; exact hk2, FS hk3 ho2⟩)
  refine bG (aJ (aJ (bj ?_)))
  refine fq Tryz.results256 (fun w' hw => ?_)
  obtain rfl : t = 3 := by omega
  have hq : breakPatterns d a b = cur := by rw [FU (by omega), ← hmd, ← hi0, hk3]
  exact ⟨rfl, by rw [hq]; exact HpOK.mutOwn hw (.head _) rfl⟩
 refine bW ?_
 refine fq Tryz.results256 (fun w' hw => ?_)
 exact ⟨rfl, by rw [FT (by omega)]; exact HpOK.mutOwn hw (.head _) rfl⟩
theorem EO (V : Value) (n : Nat) (ih : ∀ (d : Array UInt32) (a b limit : Nat) (ai bi li : Int) (w : World), ai = ((a : Nat) : Int) → bi = ((b : Nat) : Int) → li = ((limit : Nat) : Int) → (rowE V 23 an d.toList).holds w → d.size ≤ 1000000 → a ≤ b → b ≤ d.size → limit ≤ 64 → b - a < n → Calls Tryz.prog 198 #[V, .int .i64 ai, .int .i64 bi, .int .i64 li] w (fun e w' => e = .returned (.tuple #[]) ∧ Mut w w' V ∧ (rowE V 23 an (pdq ltW d a b limit true true).toList).holds w')) (d : Array UInt32) (a : Nat) (b : Nat) (limit : Nat) (ai : Int) (bi : Int) (limiti : Int) (ea : ai = ((a : Nat) : Int)) (eb : bi = ((b : Nat) : Int)) (elimit : limiti = ((limit : Nat) : Int)) (w : World) (hr : (rowE V 23 an d.toList).holds w) (hd : d.size ≤ 1000000) (hab : a ≤ b) (hb : b ≤ d.size) (hl : limit ≤ 64) (hn : b - a ≤ n) :
  Calls Tryz.prog 198 #[V, .int .i64 ai, .int .i64 bi, .int .i64 limiti] w (fun e w' => e = .returned (.tuple #[]) ∧ Mut w w' V ∧ (rowE V 23 an (pdq ltW d a b limit true true).toList).holds w') := by
 subst ea eb elimit
 refine fF (l := d.toList) (E := an) (T := 23) hr Tryz.func198 rfl Tryz.ntmps198 rfl ?_
 refine ah (zz0 (ab rfl) (aL (zz0 (ab rfl) (ad (aG ?_)))))
 refine bN (ι := Nat × Nat × Nat × Bool × Bool × Array UInt32) (fun ⟨a1, b1, l1, wb, wp, cur⟩ => (a ≤ a1 ∧ a1 ≤ b1 ∧ b1 ≤ b ∧ l1 ≤ 64) ∧ cur.size = d.size ∧ pdq ltW cur a1 b1 l1 wb wp = pdq ltW d a b limit true true) (fun _ => _) (fun ⟨a1, b1, l1, wb, wp, cur⟩ => [rowE V 23 an cur.toList]) (fun ⟨a1, b1, l1, wb, wp, cur⟩ => [(1, .int .i64 (a1 : Nat)), (2, .int .i64 (b1 : Nat)), (3, .int .i64 (l1 : Nat)), (8, .bool wb), (9, .bool wp)]) (fun ⟨a1, b1, l1, wb, wp, cur⟩ => b1 - a1) (a, b, limit, true, true, d) ⟨⟨Nat.le_refl _, hab, Nat.le_refl _, hl⟩, rfl, rfl⟩ (.cons (by first | rfl | exact eo rfl (by omega) | exact eB rfl (decide_eq_decide.2 (by omega)) | exact eo rfl (by simp) | exact eB rfl (by simp)) (.cons (by first | rfl | exact eo rfl (by omega) | exact eB rfl (decide_eq_decide.2 (by omega)) | exact eo rfl (by simp) | exact eB rfl (by simp)) (.cons (by first | rfl | exact eo rfl (by omega) | exact eB rfl (decide_eq_decide.2 (by omega)) | exact eo rfl (by simp) | exact eB rfl (by simp)) (.cons (by first | rfl | exact eo rfl (by omega) | exact eB rfl (decide_eq_decide.2 (by omega)) | exact eo rfl (by simp) | exact eB rfl (by simp)) (.cons (by first | rfl | exact eo rfl (by omega) | exact eB rfl (decide_eq_decide.2 (by omega)) | exact eo rfl (by simp) | exact eB rfl (by simp)) Front.nil))))) (by repeat' constructor) rfl (fun i hi m hm => ?_)
 obtain ⟨a1, b1, l1, wb, wp, cur⟩ := i
 replace hi : (a ≤ a1 ∧ a1 ≤ b1 ∧ b1 ≤ b ∧ l1 ≤ 64) ∧ cur.size = d.size ∧ pdq ltW cur a1 b1 l1 wb wp = pdq ltW d a b limit true true := hi
 replace hm : m = b1 - a1 := hm
 change Tr _ _ [rowE V 23 an cur.toList] ([(1, .int .i64 (a1 : Nat)), (2, .int .i64 (b1 : Nat)), (3, .int .i64 (l1 : Nat)), (8, .bool wb), (9, .bool wp)] ++ _) _
 obtain ⟨hk1, hk2, hk3⟩ := hi
 have hcl : cur.toList.length = d.size := by rw [Array.length_toList]; exact hk2
 refine aG (ah (zz0 (aa rfl) (zz0 (aa rfl) (zz0 (d6 rfl rfl) ?_))))
 refine zz0 (ab rfl) (ad (al (ah (zz0 (aa rfl) (zz0 (fE rfl rfl) (ad ?_))))))
 refine ao rfl ?_ ?_ <;> intro h1 <;> try simp only [bs] at h1
 ·refine ah (zz0 (aa rfl) (zz0 (aa rfl) (zz0 (aa rfl) (dY rfl Tryz.call254 (by repeat constructor) (fun w hw => vI cur V a1 b1 _ _ rfl rfl w (hw.ent _ (.head _)) (by omega) (by omega) (by omega)) rfl ?_))))
  refine ad (aD (aB (bv (aB (bv ?_)))))
  refine lD mW (fun w' hw => ?_)
  exact ⟨rfl, by rw [← hk3, vG (by omega)]; exact HpOK.mutOwn hw (.head _) rfl⟩
 refine bB (al (ah (zz0 (aa rfl) (zz0 (aY rfl rfl) (ad ?_)))))
 refine ao rfl ?_ ?_ <;> intro h2 <;> try simp only [bs] at h2
 ·refine ah (zz0 (aa rfl) (zz0 (aa rfl) (zz0 (aa rfl) (dY rfl Tryz.call255 (by repeat constructor) (fun w hw => E7 cur V a1 b1 _ _ rfl rfl w (hw.ent _ (.head _)) (by omega) (by omega) (by omega)) rfl ?_))))
  refine ad (aD (aB (bv (aB (bv ?_)))))
  refine lD mW (fun w' hw => ?_)
  exact ⟨rfl, by rw [← hk3, xF (by omega) (by omega)]; exact HpOK.mutOwn hw (.head _) rfl⟩
 refine bB ?_
 refine db (ι := Nat × Array UInt32) (fun ⟨l2, d1⟩ => (d1.size = d.size ∧ l2 ≤ 64) ∧ l2 = (if !wb then l1 - 1 else l1) ∧ d1 = (if !wb then breakPatterns cur a1 b1 else cur)) (fun _ => Bg.less w V) (fun ⟨l2, d1⟩ => [rowE V 23 an d1.toList]) (fun ⟨l2, d1⟩ => [(3, .int .i64 (l2 : Nat))]) ?_ (fun i hi => ?_)
 ·skip
  refine ah (zz0 (aa rfl) (zz0 (cj rfl) (ad ?_)))
  refine ao rfl ?_ ?_ <;> intro h3 <;> try simp only [bs] at h3
  ·refine ah (zz0 (aa rfl) (zz0 (aa rfl) (zz0 (aa rfl) (dY rfl Tryz.call256 (by repeat constructor) (fun w hw => DN cur V a1 b1 _ _ rfl rfl w (hw.ent _ (.head _)) (by omega) (by omega) (by omega)) rfl ?_))))
   refine ku hr (.head _) (fun hq => ?_)
   have hz1 : (breakPatterns cur a1 b1).size = d.size := by rw [← Array.length_toList, ← Array.length_toList]; exact hq
   refine ad (ar (zz0 (aa rfl) (zz0 (d6 rfl rfl) ?_)))
   refine zz0 (ab rfl) (ad ?_)
   refine cw (l1 - 1, breakPatterns cur a1 b1) (.cons (by first | rfl | exact eo rfl (by omega) | exact eB rfl (decide_eq_decide.2 (by omega)) | exact eo rfl (by simp) | exact eB rfl (by simp)) Front.nil) (bA 9 rfl) (o := ⟨⟨hz1, by omega⟩, by simp_all, by simp_all⟩)
  refine bB ?_
  refine cw (l1, cur) (.cons (by first | rfl | exact eo rfl (by omega) | exact eB rfl (decide_eq_decide.2 (by omega)) | exact eo rfl (by simp) | exact eB rfl (by simp)) Front.nil) (bA 2 rfl) (o := ⟨⟨hk2, by omega⟩, by simp_all, by simp_all⟩)
 obtain ⟨l2, d1⟩ := i
 replace hi : (d1.size = d.size ∧ l2 ≤ 64) ∧ l2 = (if !wb then l1 - 1 else l1) ∧ d1 = (if !wb then breakPatterns cur a1 b1 else cur) := hi
 change Tr _ _ [rowE V 23 an d1.toList] ([(3, .int .i64 (l2 : Nat))] ++ _) _
 obtain ⟨hd1, hl2, hd1e⟩ := hi
 refine ah (zz0 (aa rfl) (zz0 (aa rfl) (zz0 (aa rfl) (dY rfl Tryz.call257 (by repeat constructor) (fun w hw => tJ d1 V a1 b1 _ _ rfl rfl w (hw.ent _ (.head _)) (by omega) (by omega) (by omega)) rfl ?_))))
 obtain ⟨c, hc⟩ : ∃ c, c = choosePivot ltW d1 a1 b1 := ⟨_, rfl⟩
 rw [← hc]
 have hcr := choosePivot_holds ltW d1 a1 b1 (by omega)
 rw [← hc] at hcr
 refine zz0 (aa rfl) (zz0 (aR rfl rfl) (zz0 (aR rfl rfl) (zz0 (ab rfl) (zz0 (ab rfl) (ad ?_)))))
 refine db (ι := Nat × Hint × Array UInt32) (fun ⟨pv, hint, d2⟩ => (a1 ≤ pv ∧ pv < b1 ∧ d2.size = d.size) ∧ d2 = (if c.2 = .decreasing then reverseRange d1 a1 b1 else d1) ∧ pv = (if c.2 = .decreasing then (b1 - 1) - (c.1 - a1) else c.1) ∧ hint = (if c.2 = .decreasing then Hint.increasing else c.2)) (fun _ => Bg.less w V) (fun ⟨pv, hint, d2⟩ => [rowE V 23 an d2.toList]) (fun ⟨pv, hint, d2⟩ => [(11, .int .i64 (pv : Nat)), (12, .int .i64 (hintCode hint))]) ?_ (fun i hi => ?_)
 ·skip
  refine ah (zz0 (aa rfl) (zz0 (aY rfl rfl) (ad ?_)))
  refine ao rfl ?_ ?_ <;> intro h4 <;> try simp only [bs] at h4
  ·refine ah (zz0 (aa rfl) (zz0 (aa rfl) (zz0 (aa rfl) (dY rfl Tryz.call258 (by repeat constructor) (fun w hw => zd d1 V a1 b1 _ _ rfl rfl w (hw.ent _ (.head _)) (by omega) (by omega) (by omega)) rfl ?_))))
   refine ku hr (.head _) (fun hq => ?_)
   have hz2 : (reverseRange d1 a1 b1).size = d.size := by rw [← Array.length_toList, ← Array.length_toList]; exact hq
   refine aL (zz0 (aa rfl) (zz0 (d6 rfl rfl) ?_))
   refine zz0 (aa rfl) (zz0 (aa rfl) (zz0 (d6 rfl rfl) ?_))
   refine zz0 (d6 rfl rfl) ?_
   refine zz0 (ab rfl) (ad (ar (zz0 (ab rfl) (ad ?_))))
   have hx : c.2 = .decreasing := (ru c.2).1 (by assumption)
   refine cw (b1 - 1 - (c.1 - a1), .increasing, reverseRange d1 a1 b1) (.cons (by first | rfl | exact eo rfl (by omega) | exact eB rfl (decide_eq_decide.2 (by omega)) | exact eo rfl (by simp) | exact eB rfl (by simp)) (.cons (by first | rfl | exact eo rfl (by omega) | exact eB rfl (decide_eq_decide.2 (by omega)) | exact eo rfl (by simp) | exact eB rfl (by simp)) Front.nil)) (bA 14 rfl) (o := ⟨⟨by omega, by omega, hz2⟩, by rw [if_pos hx], by rw [if_pos hx], by rw [if_pos hx]⟩)
  refine bB ?_
  have hx : ¬ c.2 = .decreasing := fun e => absurd ((ru c.2).2 e) (by assumption)
  refine cw (c.1, c.2, d1) (.cons (by first | rfl | exact eo rfl (by omega) | exact eB rfl (decide_eq_decide.2 (by omega)) | exact eo rfl (by simp) | exact eB rfl (by simp)) (.cons (by first | rfl | exact eo rfl (by omega) | exact eB rfl (decide_eq_decide.2 (by omega)) | exact eo rfl (by simp) | exact eB rfl (by simp)) Front.nil)) (bA 2 rfl) (o := ⟨⟨by omega, by omega, hd1.1⟩, by rw [if_neg hx], by rw [if_neg hx], by rw [if_neg hx]⟩)
 obtain ⟨pv, hint, d2⟩ := i
 replace hi : (a1 ≤ pv ∧ pv < b1 ∧ d2.size = d.size) ∧ d2 = (if c.2 = .decreasing then reverseRange d1 a1 b1 else d1) ∧ pv = (if c.2 = .decreasing then (b1 - 1) - (c.1 - a1) else c.1) ∧ hint = (if c.2 = .decreasing then Hint.increasing else c.2) := hi
 change Tr _ _ [rowE V 23 an d2.toList] ([(11, .int .i64 (pv : Nat)), (12, .int .i64 (hintCode hint))] ++ _) _
 obtain ⟨hpv, hd2, hpve, hhint⟩ := hi
 have hdl2 : d2.toList.length = d.size := by rw [Array.length_toList]; exact hpv.2.2
 refine db (ι := Array UInt32) (fun d3 => d3.size = d.size ∧ (if wb && wp && hint = .increasing then partialInsertionSort ltW d2 a1 b1 else (d2, false)) = (d3, false)) (fun _ => Bg.less w V) (fun d3 => [rowE V 23 an d3.toList]) (fun d3 => []) ?_ (fun d3 hi => ?_)
 ·skip
  refine ah (zz0 (aa rfl) (zz0 (aa rfl) ?_))
  apply bV
  ·exact (rfl : _ = (2, 62, 64))
  ·exact rfl
  ·intro hT5; have hT5' := hT5
   try simp only [bs] at hT5'
   refine zz5 hT5 (aa rfl) (zz0 (aN rfl hT5 rfl) ?_)
   refine az (ac ?_)
   exact aA (Sub.cons rfl (zz7 2 rfl))
  ·intro hF5
   refine zz6 hF5 (zz0 (aK rfl hF5 rfl) ?_)
   refine az (ac ?_)
   exact aA (Sub.cons rfl (zz7 2 rfl))
  refine zz0 (aa rfl) ?_
  apply bV
  ·exact (rfl : _ = (3, 65, 68))
  ·exact rfl
  ·intro hT6; have hT6' := hT6
   try simp only [bs] at hT6'
   refine zz5 hT6 (aa rfl) (zz5 hT6 (aY rfl rfl) (zz0 (aN rfl hT6 rfl) ?_))
   refine az (ac ?_)
   exact aA (Sub.cons rfl (zz7 3 rfl))
  ·intro hF6
   refine zz6 hF6 (zz6 hF6 (zz0 (aK rfl hF6 rfl) ?_))
   refine az (ac ?_)
   exact aA (Sub.cons rfl (zz7 3 rfl))
  refine ad ?_
  refine ao rfl ?_ ?_ <;> intro h7 <;> try simp only [bs] at h7
  ·refine ah (zz0 (aa rfl) (zz0 (aa rfl) (zz0 (aa rfl) (dY rfl Tryz.call259 (by repeat constructor) (fun w hw => uA d2 V a1 b1 _ _ rfl rfl w (hw.ent _ (.head _)) (by omega) (by omega) (by omega)) rfl ?_))))
   obtain ⟨p, hp⟩ : ∃ p, p = partialInsertionSort ltW d2 a1 b1 := ⟨_, rfl⟩
   rw [← hp]
   refine ku hr (.head _) (fun hq => ?_)
   have hz3 : p.1.size = d.size := by rw [← Array.length_toList, ← Array.length_toList]; exact hq
   refine ad ?_
   refine ao rfl ?_ ?_ <;> intro h8 <;> try simp only [bs] at h8
   ·refine aD (aB (bv (aB (bv ?_))))
    refine lD mW (fun w' hw => ?_)
    have hfin : pdq ltW cur a1 b1 l1 wb wp = p.1 := xG (by omega) (by omega) hd1e hc hd2 hhint (by rw [if_pos (EN h7), ← hp]; exact Prod.ext rfl (by assumption))
    exact ⟨rfl, by rw [← hk3, hfin]; exact HpOK.mutOwn hw (.head _) rfl⟩
   refine bB ?_
   refine cw p.1 Front.nil (bA 9 rfl) (o := ⟨hz3, by rw [if_pos (EN h7)]; exact Prod.ext rfl (by assumption)⟩)
  refine bB ?_
  refine cw d2 Front.nil (bA 5 rfl) (o := ⟨hpv.2.2, by rw [if_neg (IS h7)]⟩)
 skip
 replace hi : d3.size = d.size ∧ (if wb && wp && hint = .increasing then partialInsertionSort ltW d2 a1 b1 else (d2, false)) = (d3, false) := hi
 change Tr _ _ [rowE V 23 an d3.toList] ([] ++ _) _
 obtain ⟨hd3, hd3e⟩ := hi
 have hdl3 : d3.toList.length = d.size := by rw [Array.length_toList]; exact hd3
 have hR : Rnd cur a1 b1 l1 wb wp l2 pv d3 := ⟨d1, d2, c, hint, hd1e, hl2, hc, hd2, hpve, hhint, hd3e⟩
 have ea1 : ((a1 : Int) - 1).toNat = a1 - 1 ∨ a1 = 0 := by omega
 refine al (al (gZ aT ?_))
 refine ax (aa rfl) (ax (eU rfl rfl) (ax (aa rfl) ?_))
 apply fH
 ·exact (rfl : _ = (12, 75, 87))
 ·exact rfl
 ·intro hT9; have hT9' := hT9
  try simp only [bs] at hT9'
  refine bZ hT9 (aa rfl) (bZ hT9 (aa rfl) (bZ hT9 (d6 rfl rfl) ?_))
  refine bZ hT9 (jv rfl rfl aj ae) ?_
  refine bZ hT9 (er rfl am) ?_
  refine bZ hT9 (aa rfl) (bZ hT9 (aa rfl) (bZ hT9 (dm rfl rfl aj ae) ?_))
  refine bZ hT9 (er rfl am) ?_
  refine bZ hT9 (aC rfl fB (fun w hw => gJ (d3.toList.getD (((a1 : Int) - 1).toNat) default) (d3.toList.getD (pv) default) w)) ?_
  refine bZ hT9 (cj rfl) (ax (aN rfl hT9 rfl) ?_)
  exact dl (Sub.cons rfl (zz7 12 rfl))
 ·intro hF9
  refine bY hF9 (bY hF9 (bY hF9 (bY hF9 (bY hF9 (bY hF9 (bY hF9 (bY hF9 (bY hF9 (bY hF9 (bY hF9 (ax (aK rfl hF9 rfl) ?_)))))))))))
  exact dl (Sub.cons rfl (zz7 12 rfl))
 refine bK ?_
 refine ac ?_
 refine ao rfl ?_ ?_ <;> intro h10 <;> try simp only [bs] at h10
 ·refine ah (zz0 (aa rfl) (zz0 (aa rfl) (zz0 (aa rfl) (zz0 (aa rfl) (dY rfl Tryz.call261 (by repeat constructor) (fun w hw => tA d3 V a1 b1 pv _ _ _ rfl rfl rfl w (hw.ent _ (.head _)) (by omega) (by omega) (by omega) (by omega)) rfl ?_)))))
  obtain ⟨p, hpe⟩ : ∃ p, p = partitionEqual ltW d3 a1 b1 pv := ⟨_, rfl⟩
  have hpr := A2 (d := d3) (pv := pv) (show a1 + 1 < b1 by omega) (by omega)
  rw [← hpe] at hpr
  rw [← hpe]
  obtain ⟨mid, d4⟩ := p
  dsimp only at hpr ⊢
  refine ku hr (.head _) (fun hq => ?_)
  have hz4 : d4.size = d.size := by rw [← Array.length_toList, ← Array.length_toList]; exact hq
  refine zz0 (ab rfl) (aL (zz0 (aa rfl) (zz0 (ab rfl) (ad (bG (aJ (bj (ac ?_))))))))
  apply ie (mid, b1, l2, wb, wp, d4)
  ·exact rfl
  ·exact (.cons (by first | rfl | exact eo rfl (by omega) | exact eB rfl (decide_eq_decide.2 (by omega)) | exact eo rfl (by simp) | exact eB rfl (by simp)) (.cons (by first | rfl | exact eo rfl (by omega) | exact eB rfl (decide_eq_decide.2 (by omega)) | exact eo rfl (by simp) | exact eB rfl (by simp)) (.cons (by first | rfl | exact eo rfl (by omega) | exact eB rfl (decide_eq_decide.2 (by omega)) | exact eo rfl (by simp) | exact eB rfl (by simp)) (.cons (by first | rfl | exact eo rfl (by omega) | exact eB rfl (decide_eq_decide.2 (by omega)) | exact eo rfl (by simp) | exact eB rfl (by simp)) (.cons (by first | rfl | exact eo rfl (by omega) | exact eB rfl (decide_eq_decide.2 (by omega)) | exact eo rfl (by simp) | exact eB rfl (by simp)) Front.nil)))))
  ·exact bA 37 rfl
  ·exact (by repeat' constructor)
  ·exact ⟨by show a ≤ mid ∧ mid ≤ b1 ∧ b1 ≤ b ∧ l2 ≤ 64; omega, hz4, by rw [← hk3]; exact (GP (by omega) (by omega) hR (by omega) (by rw [← dQ, ← dQ, ← ea1.resolve_right (by omega)]; simp_all) hpe.symm (by omega)).symm⟩
  exact (by show b1 - mid < m; omega)
 refine bB (al ?_)
 have hcond : a1 = 0 ∨ ltW d3[a1 - 1]! d3[pv]! = true := by
  rcases Nat.eq_zero_or_pos a1 with q | q
  ·exact .inl q
  ·right
   rw [← dQ, ← dQ, ← ea1.resolve_right (by omega)]
   simp_all
 refine ar (zz0 (aa rfl) (zz0 (aa rfl) (zz0 (aa rfl) (zz0 (aa rfl) (dY rfl Tryz.call262 (by repeat constructor) (fun w hw => vF d3 V a1 b1 pv _ _ _ rfl rfl rfl w (hw.ent _ (.head _)) (by omega) (by omega) (by omega) (by omega)) rfl ?_)))))
 obtain ⟨p, hpt⟩ : ∃ p, p = partition ltW d3 a1 b1 pv := ⟨_, rfl⟩
 have hpr := EP (d := d3) (a := a1) (b := b1) (pv := pv) (by omega) (by omega) (by omega)
 rw [← hpt] at hpr
 rw [← hpt]
 obtain ⟨mid, ap, d4⟩ := p
 dsimp only at hpr ⊢
 refine ku hr (.head _) (fun hq => ?_)
 have hz4 : d4.size = d.size := by rw [← Array.length_toList, ← Array.length_toList]; exact hq
 refine zz0 (aa rfl) (zz0 (aR rfl rfl) (zz0 (aR rfl rfl) (zz0 (ab rfl) (zz0 (ab rfl) (aL (zz0 (aa rfl) (zz0 (ab rfl) (ad (al ?_)))))))))
 refine ar (zz0 (aa rfl) (zz0 (aa rfl) (zz0 (d6 rfl rfl) ?_)))
 refine zz0 (aa rfl) (zz0 (aa rfl) (zz0 (d6 rfl rfl) ?_))
 refine zz0 (ab rfl) (zz0 (ab rfl) (aL (zz0 (aa rfl) (zz0 (oH rfl rfl (by omega)) ?_))))
 refine zz0 (ab rfl) (aL (zz0 (aa rfl) (zz0 (aa rfl) (zz0 (bS rfl rfl) (ad ?_)))))
 refine ao rfl ?_ ?_ <;> intro h11 <;> try simp only [bs] at h11
 ·refine ah (zz0 (aa rfl) (zz0 (aa rfl) (zz0 (d5 rfl rfl) (zz0 (ab rfl) (aL (zz0 (aa rfl) (zz0 (aa rfl) (zz0 (aa rfl) (zz0 (aa rfl) ?_)))))))))
  refine dY rfl Tryz.call198 (by repeat constructor) (fun w hw => ih d4 a1 mid l2 _ _ _ w rfl rfl rfl (hw.ent _ (.head _)) (by omega) (by omega) (by omega) (by omega) (by omega)) rfl ?_
  refine ku hr (.head _) (fun hq => ?_)
  have hz5 : (pdq ltW d4 a1 mid l2 true true).size = d.size := by rw [← Array.length_toList, ← Array.length_toList]; exact hq
  refine ad (ar (zz0 (aa rfl) (zz0 (cx rfl rfl) ?_)))
  refine zz0 (ab rfl) (az (aX (ac ?_)))
  apply ie (mid + 1, b1, l2, decide (mid - a1 ≥ (b1 - a1) / 8), ap, pdq ltW d4 a1 mid l2 true true)
  ·exact rfl
  ·exact (.cons (by first | rfl | exact eo rfl (by omega) | exact eB rfl (decide_eq_decide.2 (by omega)) | exact eo rfl (by simp) | exact eB rfl (by simp)) (.cons (by first | rfl | exact eo rfl (by omega) | exact eB rfl (decide_eq_decide.2 (by omega)) | exact eo rfl (by simp) | exact eB rfl (by simp)) (.cons (by first | rfl | exact eo rfl (by omega) | exact eB rfl (decide_eq_decide.2 (by omega)) | exact eo rfl (by simp) | exact eB rfl (by simp)) (.cons (by first | rfl | exact eo rfl (by omega) | exact eB rfl (decide_eq_decide.2 (by omega)) | exact eo rfl (by simp) | exact eB rfl (by simp)) (.cons (by first | rfl | exact eo rfl (by omega) | exact eB rfl (decide_eq_decide.2 (by omega)) | exact eo rfl (by simp) | exact eB rfl (by simp)) Front.nil)))))
  ·exact bA 67 rfl
  ·exact (by repeat' constructor)
  ·exact ⟨by show a ≤ mid + 1 ∧ mid + 1 ≤ b1 ∧ b1 ≤ b ∧ l2 ≤ 64; omega, hz5, by rw [← hk3]; exact (xE (by omega) (by omega) hR hcond hpt.symm (by omega) (by omega)).symm⟩
  exact (by show b1 - (mid + 1) < m; omega)
 refine ah (zz0 (aa rfl) (zz0 (aa rfl) (zz0 (d5 rfl rfl) (zz0 (ab rfl) (aL (zz0 (aa rfl) (zz0 (aa rfl) (zz0 (cx rfl rfl) ?_))))))))
 refine zz0 (aa rfl) (zz0 (aa rfl) (dY rfl Tryz.call198 (by repeat constructor) (fun w hw => ih d4 (mid + 1) b1 l2 _ _ _ w (by omega) rfl rfl (hw.ent _ (.head _)) (by omega) (by omega) (by omega) (by omega) (by omega)) rfl ?_))
 refine ku hr (.head _) (fun hq => ?_)
 have hz5 : (pdq ltW d4 (mid + 1) b1 l2 true true).size = d.size := by rw [← Array.length_toList, ← Array.length_toList]; exact hq
 refine ad (ar (zz0 (aa rfl) (zz0 (ab rfl) (az (aX (ac ?_))))))
 apply ie (a1, mid, l2, decide (b1 - mid ≥ (b1 - a1) / 8), ap, pdq ltW d4 (mid + 1) b1 l2 true true)
 ·exact rfl
 ·exact (.cons (by first | rfl | exact eo rfl (by omega) | exact eB rfl (decide_eq_decide.2 (by omega)) | exact eo rfl (by simp) | exact eB rfl (by simp)) (.cons (by first | rfl | exact eo rfl (by omega) | exact eB rfl (decide_eq_decide.2 (by omega)) | exact eo rfl (by simp) | exact eB rfl (by simp)) (.cons (by first | rfl | exact eo rfl (by omega) | exact eB rfl (decide_eq_decide.2 (by omega)) | exact eo rfl (by simp) | exact eB rfl (by simp)) (.cons (by first | rfl | exact eo rfl (by omega) | exact eB rfl (decide_eq_decide.2 (by omega)) | exact eo rfl (by simp) | exact eB rfl (by simp)) (.cons (by first | rfl | exact eo rfl (by omega) | exact eB rfl (decide_eq_decide.2 (by omega)) | exact eo rfl (by simp) | exact eB rfl (by simp)) Front.nil)))))
 ·exact bA 67 rfl
 ·exact (by repeat' constructor)
 ·exact ⟨by show a ≤ a1 ∧ a1 ≤ mid ∧ mid ≤ b ∧ l2 ≤ 64; omega, hz5, by rw [← hk3]; exact (vH (by omega) (by omega) hR hcond hpt.symm (by omega) (by omega)).symm⟩
 exact (by show mid - a1 < m; omega)
theorem B8 (V : Value) : ∀ (n : Nat) (d : Array UInt32) (a b limit : Nat) (ai bi li : Int) (w : World), ai = ((a : Nat) : Int) → bi = ((b : Nat) : Int) → li = ((limit : Nat) : Int) → (rowE V 23 an d.toList).holds w → d.size ≤ 1000000 → a ≤ b → b ≤ d.size → limit ≤ 64 → b - a < n → Calls Tryz.prog 198 #[V, .int .i64 ai, .int .i64 bi, .int .i64 li] w (fun e w' => e = .returned (.tuple #[]) ∧ Mut w w' V ∧ (rowE V 23 an (pdq ltW d a b limit true true).toList).holds w')
 | 0, _, _, _, _, _, _, _, _, _, _, _, _, _, _, _, _, h => absurd h (Nat.not_lt_zero _)
 | n + 1, d, a, b, limit, ai, bi, li, w, e1, e2, e3, hr, hd, hab, hb, hl, h => EO V n (B8 V n) d a b limit ai bi li e1 e2 e3 w hr hd hab hb hl (Nat.le_of_lt_succ h)
theorem we (d : Array UInt32) (V : Value) (w : World) (hr : (rowE V 23 an d.toList).holds w) (hd : d.size ≤ 1000000) :
  Calls Tryz.prog 141 #[V] w (fun e w' => e = .returned (.tuple #[]) ∧ Mut w w' V ∧ (rowE V 23 an (sort ltW d).toList).holds w') := by
 have hdl : d.toList.length = d.size := Array.length_toList
 have hb20 : bitsLen d.size ≤ 20 := (bitsLen_le_iff _ 20).2 (by omega)
 refine fF (l := d.toList) (E := an) (T := 23) hr Tryz.func141 rfl Tryz.ntmps141 rfl ?_
 refine ah (zz0 (aa rfl) (zz0 (mg rfl aj) ?_))
 refine zz0 (ab rfl) (ad (ar (zz0 (aa rfl) (zz0 (aa rfl) (zz0 (aa rfl) (zz0 (fb rfl ba dR (IntWalk.u64_in _ (by omega))) ?_))))))
 refine zz0 (aC rfl Tryz.call150 (fun w hw => IW d.size _ (by omega) (by omega) w)) ?_
 refine dY rfl Tryz.call198 (by repeat constructor) (fun w hw => B8 V _ d 0 d.size (bitsLen d.size) _ _ _ w rfl (by omega) rfl (hw.ent _ (.head _)) hd (by omega) (by omega) (by omega) (Nat.lt_succ_self _)) rfl ?_
 refine az ?_
 refine fq Tryz.results141 (fun w' hw => ?_)
 exact ⟨rfl, HpOK.mutOwn hw (.head _) rfl⟩
end Go.Proofs.YtiajjbhcpeadfaaGreat
namespace Go.Proofs.YtiajjbhcpeadfaaGreat
open Go Go.HL Go.RowKit
theorem yX (l : List UInt32) : (Go.Sort.sort ltW l.toArray).toList = fZ l := by
 rw [Eo, List.toList_toArray]
 unfold fZ
 congr 1
 funext x y
 simp only [ltW]
 by_cases h : x ≤ y
 ·rw [decide_eq_true h, decide_eq_false (by rw [UInt32.lt_iff_toNat_lt]; rw [UInt32.le_iff_toNat_le] at h; omega)]; rfl
 rw [decide_eq_false h, decide_eq_true (by rw [UInt32.lt_iff_toNat_lt]; rw [UInt32.le_iff_toNat_le] at h; omega)]; rfl
theorem Dt (b : Nat) (w : World) :
  Calls Tryz.prog 139 #[.map (some b)] w (fun e w' => ∃ i : Nat, e = .returned (.func (.func 196) #[] #[.pointer (some ⟨i, 0, none⟩)]) ∧ Ext w w' ∧ CellsIn (wn w w') i [.map (some b)]) := by
 refine enter Tryz.func139 rfl Tryz.ntmps139 rfl ?_
 refine ah ?_
 refine dE rfl rfl (fun b1 => ?_)
 refine zz0 (ab rfl) (aL (zz0 (fu rfl rfl) ?_))
 refine zz0 (ab rfl) (ad (aD ?_))
 refine aS Tryz.results139 rfl (fun w' hw => ?_)
 exact ⟨b1, rfl, hw.b0, hw.cellNew rfl (by repeat constructor)⟩
theorem Ba {α : Type} {f : α → Value} {l : List (UInt32 × α)} (b Bm : Nat) (es : Array MapEntry) (ck : Nat) (hmI : MapIs f l es ck) (w : World) (c1 : CellsIn (hp w) Bm [.map (some b)]) (hb : w.heap[b]? = some (.map es ck)) (lv B : Nat) (hB : B ≤ w.heap.size) (J Jx : List UInt32 → World → Prop) (hJ : AbidesFrom B J) (hJx : AbidesFrom B Jx) (hY : ∀ pre x W1, J pre W1 → pre.length < l.length → YieldAt Fence.wide 1 Tryz.prog lv #[.int .u32 x.toNat] W1 fun e W' => (e = .returned (.bool true) ∧ J (pre ++ [x]) W' ∧ KeepsWalks W1 W') ∨ (e = .returned (.bool false) ∧ Jx (pre ++ [x]) W')) (h0 : J [] w) :
  Calls Tryz.prog 196 #[.func (.yield lv) #[] #[], .pointer (some ⟨Bm, 0, none⟩)] w (fun e W' => (∃ v, e = .returned v) ∧ ((∃ xs, xs.Perm (l.map (·.1)) ∧ J xs W') ∨ (∃ pre, True ∧ Jx pre W'))) := by
 have c1' : CellsIn (Bg.of0 w).blk Bm [.map (some b)] := c1
 refine l3 Tryz.func196 rfl Tryz.ntmps196 rfl ?_
 refine ah (zz0 (eT rfl c1' fU (by rfl)) ?_)
 refine w9 rfl hmI hb ed rfl (fun W1 r hg1 hr1 hI1 => ?_)
 refine ad (aG ?_)
 refine bN (ι := World × List UInt32) (fun ⟨Ws, done⟩ => IterAt Ws b r es ck done ∧ done.Nodup ∧ (∀ k ∈ done, k ∈ l.map (·.1)) ∧ J done Ws) (fun ⟨Ws, done⟩ => Bg.of0 Ws) (fun ⟨Ws, done⟩ => []) (fun ⟨Ws, done⟩ => []) (fun ⟨Ws, done⟩ => l.length - done.length) (W1, []) ⟨hI1, List.nodup_nil, fun k h => (by cases h), hJ [] w W1 none h0 hg1 (fun r e => by cases e)⟩ Front.nil (by repeat' constructor) rfl (fun i hi m hm => ?_)
 obtain ⟨Ws, done⟩ := i
 replace hi : IterAt Ws b r es ck done ∧ done.Nodup ∧ (∀ k ∈ done, k ∈ l.map (·.1)) ∧ J done Ws := hi
 replace hm : m = l.length - done.length := hm
 change Tr _ (Bg.of0 Ws) [] ([] ++ _) _
 obtain ⟨q1, q2, q3, q4⟩ := hi
 refine al ?_
 refine Ax (l := l) rfl hmI q1 rfl rfl (fun k x W2 W3 hx2 hk1 hk2 g1 g2 i1 i2 => ?_) (fun hall => ?_)
 ·skip
  have hlen : done.length < l.length := Cf q2 q3 hk1 hk2
  have hJ3 : J done W3 := hJ done W2 W3 (some r) (hJ done Ws W2 none q4 g1 (fun r e => by cases e)) g2 (fun r' e => by cases e; exact ⟨by omega, i1.walk⟩)
  refine ac (al ?_)
  refine ao rfl ?_ ?_ <;> intro h1 <;> try simp only [bs] at h1
  ·refine bB (aG (ah (zz0 (xj rfl hmI i2 (by simp) hx2) ?_)))
   refine zz0 (aR rfl rfl) (zz0 (ab rfl) (ad (al ?_)))
   refine Ar (x := k) (fun x : UInt32 => .int .u32 x.toNat) rfl rfl rfl rfl hJ3 hJ (fun W4 h => hY done k W4 h hlen) rfl rfl rfl rfl (fun W4 W' y1 y2 y3 => ?_) (fun W' y1 => ?_)
   ·skip
    refine ac ?_
    refine ao rfl ?_ ?_ <;> intro h2 <;> try simp only [bs] at h2
    ·first | contradiction | (exfalso; omega) | simp_all
    refine bW (aX (ac ?_))
    have hdl : (done ++ [k]).length = done.length + 1 := by simp
    apply ie (W', done ++ [k])
    ·exact rfl
    ·exact Front.nil
    ·exact bA 9 rfl
    ·exact (by repeat' constructor)
    ·exact ⟨(i2.grown y1.grown).keeps y2, uG q2 hk2, fun j hj => (List.mem_append.1 hj).elim (q3 j) (fun h => (List.mem_singleton.1 h) ▸ hk1), y3⟩
    exact (by show l.length - (done ++ [k]).length < m; omega)
   skip
   refine ac ?_
   refine ao rfl ?_ ?_ <;> intro h3 <;> try simp only [bs] at h3
   ·refine aD (bv (aB (bv ?_)))
    refine lD Tryz.results196 (fun w' hw => ?_)
    exact ⟨⟨_, rfl⟩, .inr ⟨_, trivial, hJx _ W' _ none y1 hw.grown (fun r e => by cases e)⟩⟩
   first | contradiction | (exfalso; omega) | simp_all
  first | contradiction | (exfalso; omega) | simp_all
 skip
 refine ac (al ?_)
 refine ao rfl ?_ ?_ <;> intro h4 <;> try simp only [bs] at h4
 ·first | contradiction | (exfalso; omega) | simp_all
 refine bG (aJ (aJ (bj ?_)))
 refine fq Tryz.results196 (fun w' hw => ?_)
 exact ⟨⟨_, rfl⟩, .inl ⟨done, zt hmI.nodup q2 q3 hall, hJ done Ws _ none q4 hw.grown (fun r e => by cases e)⟩⟩
theorem tD {α : Type} {f : α → Value} {l : List (UInt32 × α)} (b Bm : Nat) (w : World) (hm : MapIn (hp w) b f l) (c1 : CellsIn (hp w) Bm [.map (some b)]) :
  SeqStopsK Fence.wide 2 Tryz.prog 196 [.pointer (some ⟨Bm, 0, none⟩)].toArray (fun x : UInt32 => #[.int .u32 x.toNat]) KeepsWalks (fun xs => xs.Perm (l.map (·.1))) (fun _ => True) l.length w := by
 obtain ⟨es, ck, hb, hm⟩ := hm
 intro lv J Jx W hBel hJ hJx hY h0
 have hle : Hp.le (hp w) (hp W) := fun k o e => (hBel.block k (Array.getElem?_eq_some_iff.1 (show w.heap[k]? = some o from e)).1).trans e
 exact callsIn_wide.2 (Ba b Bm es ck hm W (c1.mono hle) (hle b _ hb) lv W.heap.size (Nat.le_refl _) J Jx hJ hJx hY h0)
theorem E3 (b : Nat) (w : World) :
  Calls Tryz.prog 72 #[.map (some b)] w (fun e w' => ∃ i : Nat, e = .returned (.func (.func 142) #[] #[.pointer (some ⟨i, 0, none⟩)]) ∧ Ext w w' ∧ CellsIn (wn w w') i [.map (some b)]) := by
 refine enter Tryz.func72 rfl Tryz.ntmps72 rfl ?_
 refine ah ?_
 refine dE rfl rfl (fun b1 => ?_)
 refine zz0 (ab rfl) (aL (zz0 (fu rfl rfl) ?_))
 refine zz0 (ab rfl) (ad (aD ?_))
 refine aS Tryz.results72 rfl (fun w' hw => ?_)
 exact ⟨b1, rfl, hw.b0, hw.cellNew rfl (by repeat constructor)⟩
theorem Du {α : Type} {f : α → Value} {l : List (UInt32 × α)} (b Bm : Nat) (es : Array MapEntry) (ck : Nat) (hmI : MapIs f l es ck) (w : World) (c1 : CellsIn (hp w) Bm [.map (some b)]) (hb : w.heap[b]? = some (.map es ck)) (lv B : Nat) (hB : B ≤ w.heap.size) (J Jx : List UInt32 → World → Prop) (hJ : AbidesFrom B J) (hJx : AbidesFrom B Jx) (hY : ∀ pre x W1, J pre W1 → pre.length < l.length → YieldAt Fence.wide 1 Tryz.prog lv #[.int .u32 x.toNat] W1 fun e W' => (e = .returned (.bool true) ∧ J (pre ++ [x]) W' ∧ KeepsWalks W1 W') ∨ (e = .returned (.bool false) ∧ Jx (pre ++ [x]) W')) (h0 : J [] w) :
  Calls Tryz.prog 142 #[.func (.yield lv) #[] #[], .pointer (some ⟨Bm, 0, none⟩)] w (fun e W' => (∃ v, e = .returned v) ∧ ((∃ xs, xs.Perm (l.map (·.1)) ∧ J xs W') ∨ (∃ pre, True ∧ Jx pre W'))) := by
 have c1' : CellsIn (Bg.of0 w).blk Bm [.map (some b)] := c1
 refine l3 Tryz.func142 rfl Tryz.ntmps142 rfl ?_
 refine ah (zz0 (eT rfl c1' ja (by rfl)) ?_)
 refine w9 rfl hmI hb fO rfl (fun W1 r hg1 hr1 hI1 => ?_)
 refine ad (aG ?_)
 refine bN (ι := World × List UInt32) (fun ⟨Ws, done⟩ => IterAt Ws b r es ck done ∧ done.Nodup ∧ (∀ k ∈ done, k ∈ l.map (·.1)) ∧ J done Ws) (fun ⟨Ws, done⟩ => Bg.of0 Ws) (fun ⟨Ws, done⟩ => []) (fun ⟨Ws, done⟩ => []) (fun ⟨Ws, done⟩ => l.length - done.length) (W1, []) ⟨hI1, List.nodup_nil, fun k h => (by cases h), hJ [] w W1 none h0 hg1 (fun r e => by cases e)⟩ Front.nil (by repeat' constructor) rfl (fun i hi m hm => ?_)
 obtain ⟨Ws, done⟩ := i
 replace hi : IterAt Ws b r es ck done ∧ done.Nodup ∧ (∀ k ∈ done, k ∈ l.map (·.1)) ∧ J done Ws := hi
 replace hm : m = l.length - done.length := hm
 change Tr _ (Bg.of0 Ws) [] ([] ++ _) _
 obtain ⟨q1, q2, q3, q4⟩ := hi
 refine al ?_
 refine Ax (l := l) rfl hmI q1 rfl rfl (fun k x W2 W3 hx2 hk1 hk2 g1 g2 i1 i2 => ?_) (fun hall => ?_)
 ·skip
  have hlen : done.length < l.length := Cf q2 q3 hk1 hk2
  have hJ3 : J done W3 := hJ done W2 W3 (some r) (hJ done Ws W2 none q4 g1 (fun r e => by cases e)) g2 (fun r' e => by cases e; exact ⟨by omega, i1.walk⟩)
  refine ac (al ?_)
  refine ao rfl ?_ ?_ <;> intro h1 <;> try simp only [bs] at h1
  ·refine bB (aG (ah (zz0 (xj rfl hmI i2 (by simp) hx2) ?_)))
   refine zz0 (aR rfl rfl) (zz0 (ab rfl) (ad (al ?_)))
   refine Ar (x := k) (fun x : UInt32 => .int .u32 x.toNat) rfl rfl rfl rfl hJ3 hJ (fun W4 h => hY done k W4 h hlen) rfl rfl rfl rfl (fun W4 W' y1 y2 y3 => ?_) (fun W' y1 => ?_)
   ·skip
    refine ac ?_
    refine ao rfl ?_ ?_ <;> intro h2 <;> try simp only [bs] at h2
    ·first | contradiction | (exfalso; omega) | simp_all
    refine bW (aX (ac ?_))
    have hdl : (done ++ [k]).length = done.length + 1 := by simp
    apply ie (W', done ++ [k])
    ·exact rfl
    ·exact Front.nil
    ·exact bA 9 rfl
    ·exact (by repeat' constructor)
    ·exact ⟨(i2.grown y1.grown).keeps y2, uG q2 hk2, fun j hj => (List.mem_append.1 hj).elim (q3 j) (fun h => (List.mem_singleton.1 h) ▸ hk1), y3⟩
    exact (by show l.length - (done ++ [k]).length < m; omega)
   skip
   refine ac ?_
   refine ao rfl ?_ ?_ <;> intro h3 <;> try simp only [bs] at h3
   ·refine aD (bv (aB (bv ?_)))
    refine lD Tryz.results142 (fun w' hw => ?_)
    exact ⟨⟨_, rfl⟩, .inr ⟨_, trivial, hJx _ W' _ none y1 hw.grown (fun r e => by cases e)⟩⟩
   first | contradiction | (exfalso; omega) | simp_all
  first | contradiction | (exfalso; omega) | simp_all
 skip
 refine ac (al ?_)
 refine ao rfl ?_ ?_ <;> intro h4 <;> try simp only [bs] at h4
 ·first | contradiction | (exfalso; omega) | simp_all
 refine bG (aJ (aJ (bj ?_)))
 refine fq Tryz.results142 (fun w' hw => ?_)
 exact ⟨⟨_, rfl⟩, .inl ⟨done, zt hmI.nodup q2 q3 hall, hJ done Ws _ none q4 hw.grown (fun r e => by cases e)⟩⟩
theorem uV {α : Type} {f : α → Value} {l : List (UInt32 × α)} (b Bm : Nat) (w : World) (hm : MapIn (hp w) b f l) (c1 : CellsIn (hp w) Bm [.map (some b)]) :
  SeqStopsK Fence.wide 2 Tryz.prog 142 [.pointer (some ⟨Bm, 0, none⟩)].toArray (fun x : UInt32 => #[.int .u32 x.toNat]) KeepsWalks (fun xs => xs.Perm (l.map (·.1))) (fun _ => True) l.length w := by
 obtain ⟨es, ck, hb, hm⟩ := hm
 intro lv J Jx W hBel hJ hJx hY h0
 have hle : Hp.le (hp w) (hp W) := fun k o e => (hBel.block k (Array.getElem?_eq_some_iff.1 (show w.heap[k]? = some o from e)).1).trans e
 exact callsIn_wide.2 (Du b Bm es ck hm W (c1.mono hle) (hle b _ hb) lv W.heap.size (Nat.le_refl _) J Jx hJ hJx hY h0)
theorem vS (g : Nat) (lb : List Value) (keys : List UInt32) (Nm : Nat) (hN : Nm ≤ 1000000) (eg : ∀ (args : Array Value) (w : World), (callFunc g args).run Tryz.prog w = .ok (.enter g args) w) (w : World) (hseq : SeqStopsK Fence.wide 2 Tryz.prog g lb.toArray (fun x : UInt32 => #[.int .u32 x.toNat]) KeepsWalks (fun xs => xs.Perm keys) (fun _ => True) Nm w) :
  Calls Tryz.prog 197 #[.slice none 0 0, .func (.func g) #[] lb.toArray] w (fun e w' => ∃ i : Value × List UInt32, e = .returned i.1 ∧ Below w.heap.size w w' ∧ NewEnts w w' [rowE i.1 23 an i.2] ∧ i.2.Perm keys) := by
 refine Is Tryz.func197 rfl Tryz.ntmps197 rfl ?_
 refine ah ?_
 refine dE rfl rfl (fun b1 => ?_)
 refine zz0 (ab rfl) (ad (al (ah (zz0 (aa rfl) (ad (aG (cd 23 an ?_)))))))
 refine BJ (α := UInt32) (ι := Value × List UInt32) (lb := lb) (fun x => .int .u32 x.toNat) (fun xs => xs.Perm keys) (fun pre j => j.2 = pre) (fun j => [cellE b1 [j.1] 31, rowE j.1 23 an j.2]) Nm (.slice none 0 0, []) rfl rfl rfl eg rfl rfl (by repeat' constructor) rfl (fun j => .cell (.row .nil)) ?_ ?_ ?_
 ·exact fun w2 F1 hf h1 => SeqStopsK.later hseq (h1.below0 hf)
 ·intro pre x j l0 F1 hF1 hok hlen
  obtain ⟨V, xs⟩ := j
  replace hok : xs = pre := hok
  subst hok
  change Tr _ _ [cellE b1 [V] 31, rowE V 23 an xs] _ _
  refine BM ?_
  refine BI (Ja ET) rfl ?_
  refine zz0 (aH rfl dq) ?_
  refine zz0 (aa rfl) ?_
  refine jB (E := an) x rfl rfl aj ae cU (fun V2 => ?_)
  refine zz2 rfl rfl aj eW (fun V3 => ?_)
  refine dz (.head _) (fun pa pc hpv => ?_)
  subst hpv
  refine jq rfl rfl cn (by repeat constructor) (by rfl) (by rfl) (by first | exact List.all_eq_true.1 rfl | exact Enc.one _ _) rfl ?_
  refine az (aX ?_)
  exact fun a w ha hw => ⟨rfl, (.slice pa (xs ++ [x]).length pc, xs ++ [x]), rfl, Pick.heap (L' := [cellE b1 [.slice pa (xs ++ [x]).length pc] 31, rowE (.slice pa (xs ++ [x]).length pc) 23 an (xs ++ [x])]) (by repeat' constructor) hw⟩
 intro xs j D F1 hF1 hS hok
 obtain ⟨V, ys⟩ := j
 replace hok : ys = xs := hok
 subst hok
 change Tr _ _ [EZ D, cellE b1 [V] 31, rowE V 23 an ys] _ _
 refine aX (ac (ah (zz0 (aH rfl dq) ?_)))
 refine zz0 (ab rfl) (ad (aD ?_))
 refine FY (D := D) Tryz.results197 rfl (by (repeat rw [dy, if_neg (by unfold mk0; omega)]); exact Ds) (by repeat constructor) (fun w' hw => ?_)
 exact ⟨(V, ys), rfl, hw.below0 hF1, hw.ents0 hF1.lo (by repeat' constructor), hS⟩
theorem Ag (g : Nat) (lb : List Value) (keys : List UInt32) (Nm : Nat) (hN : Nm ≤ 1000000) (eg : ∀ (args : Array Value) (w : World), (callFunc g args).run Tryz.prog w = .ok (.enter g args) w) (w : World) (hseq : SeqStopsK Fence.wide 2 Tryz.prog g lb.toArray (fun x : UInt32 => #[.int .u32 x.toNat]) KeepsWalks (fun xs => xs.Perm keys) (fun _ => True) Nm w) :
  Calls Tryz.prog 140 #[.func (.func g) #[] lb.toArray] w (fun e w' => ∃ i : Value × List UInt32, e = .returned i.1 ∧ Below w.heap.size w w' ∧ NewEnts w w' [rowE i.1 23 an i.2] ∧ i.2.Perm keys) := by
 refine l3 Tryz.func140 rfl Tryz.ntmps140 rfl ?_
 refine ah (zz0 (ab rfl) (aL (zz0 (aa rfl) ?_)))
 refine eE (fun i : Value × List UInt32 => i.1) (fun i => [rowE i.1 23 an i.2]) (ok := fun i => i.2.Perm keys) rfl rfl Tryz.call197 (fun w hw => vS g lb keys Nm hN eg w (SeqStopsK.later hseq (hw.below0 (Bg.le.refl _)))) rfl (fun i hi => ?_)
 obtain ⟨V, ys⟩ := i
 change Tr _ _ [rowE V 23 an ys] _ _
 refine zz0 (ab rfl) (ad (aD ?_))
 refine aS Tryz.results140 rfl (fun w' hw => ?_)
 exact ⟨(V, ys), rfl, hw.below0 (Bg.le.refl _), hw.ents0 rfl (by repeat' constructor), hi⟩
theorem ul (g : Nat) (lb : List Value) (keys : List UInt32) (Nm : Nat) (hN : Nm ≤ 1000000) (eg : ∀ (args : Array Value) (w : World), (callFunc g args).run Tryz.prog w = .ok (.enter g args) w) (hK : keys.length ≤ 1000000) (w : World) (hseq : SeqStopsK Fence.wide 2 Tryz.prog g lb.toArray (fun x : UInt32 => #[.int .u32 x.toNat]) KeepsWalks (fun xs => xs.Perm keys) (fun _ => True) Nm w) :
  Calls Tryz.prog 71 #[.func (.func g) #[] lb.toArray] w (fun e w' => ∃ V : Value, e = .returned V ∧ Below w.heap.size w w' ∧ NewEnts w w' [rowE V 23 an (fZ keys)] ∧ True) := by
 refine l3 Tryz.func71 rfl Tryz.ntmps71 rfl ?_
 refine ah (zz0 (ab rfl) (aL (zz0 (aa rfl) ?_)))
 refine eE (fun i : Value × List UInt32 => i.1) (fun i => [rowE i.1 23 an i.2]) (ok := fun i => i.2.Perm keys) rfl rfl Tryz.call140 (fun w hw => Ag g lb keys Nm hN eg w (SeqStopsK.later hseq (hw.below0 (Bg.le.refl _)))) rfl (fun i hi => ?_)
 obtain ⟨V, ys⟩ := i
 replace hi : ys.Perm keys := hi
 have hyl := hi.length_eq
 change Tr _ _ [rowE V 23 an ys] _ _
 refine zz0 (ab rfl) (aL (zz0 (aa rfl) (dY rfl Tryz.call141 (by repeat constructor) (fun w hw => we ys.toArray V w (hw.ent _ (.head _)) (by rw [List.size_toArray]; omega)) rfl ?_)))
 rw [yX, xw hi]
 refine aL (zz0 (aa rfl) (zz0 (ab rfl) (ad (aD ?_))))
 refine aS Tryz.results71 rfl (fun w' hw => ?_)
 exact ⟨V, rfl, hw.below0 (Bg.le.refl _), hw.ents0 rfl (by repeat' constructor), trivial⟩
theorem jZ (l : List (UInt32 × Bool)) (b : Nat) (w : World) (hm : MapIn (hp w) b cY l) (hl : l.length ≤ 1000000) :
  Calls Tryz.prog 70 #[.map (some b)] w (fun e w' => ∃ V : Value, e = .returned V ∧ Below w.heap.size w w' ∧ NewEnts w w' [rowE V 23 an (fZ (l.map (·.1)))] ∧ True) := by
 have hm' : MapIn (Bg.of0 w).blk b cY l := hm
 refine l3 Tryz.func70 rfl Tryz.ntmps70 rfl ?_
 refine ah (zz0 (ab rfl) (aL (zz0 (aa rfl) ?_)))
 refine xc (fun i : Nat => .func (.func 196) #[] #[.pointer (some ⟨i, 0, none⟩)]) (R := fun h i => CellsIn h i [.map (some b)]) (fun h h' i hh r => r.mono hh) rfl Tryz.call139 (fun w hw => Dt b w) rfl (fun i7 F7 hF7 hR7 => ?_)
 refine eE (fun V : Value => V) (fun V => [rowE V 23 an (fZ (l.map (·.1)))]) (ok := fun _ => True) (hF7.dr) rfl Tryz.call71 (fun w hw => ul _ _ (l.map (·.1)) l.length hl Tryz.call196 (by rw [List.length_map]; exact hl) w (tD b i7 w ((hm'.mono hF7.blk).mono hw.bg) (hR7.mono hw.bg))) rfl (fun V7 _ => ?_)
 refine zz0 (ab rfl) (ad (aD ?_))
 refine aS Tryz.results70 rfl (fun w' hw => ?_)
 exact ⟨V7, rfl, hw.below0 hF7, hw.ents0 hF7.lo (by repeat' constructor), trivial⟩
end Go.Proofs.YtiajjbhcpeadfaaGreat
namespace Go.HL
open Go
theorem Bv (k : Ins) (s : Int) (b : List UInt8) (addr : UInt32) : (wU k s b addr).size = fg s ∧ (wU k s b addr).addr = addr := by
 unfold wU l4
 repeat' split
 all_goals exact ⟨rfl, rfl⟩
theorem C0 (s : Int) : 1 ≤ fg s ∧ fg s ≤ 6 := by unfold fg; repeat' split <;> omega
theorem FC {b : List UInt8} {addr : UInt32} (h : (ns b addr).2 = 0) : 1 ≤ (ns b addr).1.size ∧ (ns b addr).1.size ≤ b.length ∧ (ns b addr).1.addr = addr := by
 unfold ns at h ⊢
 split at h
 ·simp at h
 ·rename_i h1
  rw [if_neg h1]
  split at h
  ·simp at h
  ·rename_i h2
   rw [if_neg h2]
   split at h
   ·simp at h
   ·rename_i h3
    rw [if_neg h3]
    dsimp only at h ⊢
    split at h
    ·simp at h
    ·rename_i h4
     rw [if_neg h4]
     obtain ⟨q1, q2⟩ := Bv (rowP (b.getD 0 default)).1 (bO (rowP (b.getD 0 default)).1).2.1 b addr
     have := C0 (bO (rowP (b.getD 0 default)).1).2.1
     refine ⟨?_, ?_, q2⟩
     ·rw [q1]; omega
     ·rw [q1]; omega
end Go.HL
namespace Go.HL
open Go Go.RowKit
def sq (i : Ins) : Value := .agg (aP.enc i).toArray
theorem uK {z : Value} (hz : z = sq cB) (o : Option Ins) : uL sq z o = .agg (aP.enc (o.getD cB)).toArray := by
 subst hz
 cases o <;> rfl
section
variable {P : Program} {ops : Array Oper} {Q : Exit → Act → World → Prop} {N : Nat} {F : Bg} {L : List Ent} {M : Fr} {dst : Option Tmp} {ty : TypeId} {pos : String} {after : Array Edge} {g : Option (Nat × Bool)} {rest : List Oper} {d : Nat}
theorem xf {l : List (UInt32 × Ins)} {x y : Operand} {t K e : TypeId} {z : Value} {b : Nat} {k : UInt32} (hx : opv M x = some (.map (some b))) (hy : opv M y = some (.int .u32 k.toNat)) (hm : MapIn F.blk b sq l)
  (ht : P.underlying t = some (.map K e)) (hK : P.underlying K = some (.int .u32)) (hz : ∀ w, (zeroValue e).run P w = .ok z w) (hzz : z = sq cB) : QS P N F L M ⟨dst, .lookup t x y false, ty, pos, after, g⟩ (.agg (aP.enc ((dN l k).getD cB)).toArray) := by
 have h := vt (P := P) (N := N) (F := F) (L := L) (M := M) (dst := dst) (ty := ty) (pos := pos) (after := after) (g := g) hx hy hm ht hK hz
 rw [uK hzz] at h; exact h
theorem BS {l : List (UInt32 × Ins)} {x y : Operand} {t K e : TypeId} {z : Value} {b : Nat} {k : UInt32} (hx : opv M x = some (.map (some b))) (hy : opv M y = some (.int .u32 k.toNat)) (hm : mapE b sq l ∈ L)
  (ht : P.underlying t = some (.map K e)) (hK : P.underlying K = some (.int .u32)) (hz : ∀ w, (zeroValue e).run P w = .ok z w) (hzz : z = sq cB) : QS P N F L M ⟨dst, .lookup t x y true, ty, pos, after, g⟩ (.tuple #[.agg (aP.enc ((dN l k).getD cB)).toArray, .bool (dN l k).isSome]) := by
 have h := xe (P := P) (N := N) (F := F) (L := L) (M := M) (dst := dst) (ty := ty) (pos := pos) (after := after) (g := g) hx hy hm ht hK hz
 rw [uK hzz] at h; exact h
theorem AE {l : List (UInt32 × Ins)} {x y : Operand} {t K e : TypeId} {z : Value} {b : Nat} {k : UInt32} (hx : opv M x = some (.map (some b))) (hy : opv M y = some (.int .u32 k.toNat)) (hm : MapIn F.blk b sq l)
  (ht : P.underlying t = some (.map K e)) (hK : P.underlying K = some (.int .u32)) (hz : ∀ w, (zeroValue e).run P w = .ok z w) (hzz : z = sq cB) : QS P N F L M ⟨dst, .lookup t x y true, ty, pos, after, g⟩ (.tuple #[.agg (aP.enc ((dN l k).getD cB)).toArray, .bool (dN l k).isSome]) := by
 have h := vr (P := P) (N := N) (F := F) (L := L) (M := M) (dst := dst) (ty := ty) (pos := pos) (after := after) (g := g) hx hy hm ht hK hz
 rw [uK hzz] at h; exact h
theorem DR {α : Type} {E : Enc α} {xs : List α} {x hi : Operand} {t e T : TypeId} {V : Value} {k : Nat} {kk : IntKind} {n : Int} {L1 : List Ent} (hx : opv M x = some V) (hV : Del (rowE V T E xs) L L1) (hhi : opv M hi = some (.int kk n))
  (ht : P.underlying t = some (.slice e)) (hz : ∀ w, (sizeOf e).run P w = .ok k w) (hn : 0 ≤ n ∧ n ≤ xs.length) (hd : Nat.ble (d + 1) N = true)
  (K : ∀ V', Tr N F (rowE V' T E (xs.take n.toNat) :: L1) ((d, V') :: M) (wpList P ops Q rest)) : Tr N F L M (wpList P ops Q (⟨some d, .slice t x none (some hi) none, ty, pos, after, none⟩ :: rest)) := by
 intro a w ha hw
 refine wpList_plain rfl fun K' hK => ?_
 have hf := hw.front hV
 have hrow : RowOK V T E xs (V.ownBlock.bind (w.heap[·]?)) := hf.ent _ (.head _)
 obtain ⟨m, rfl⟩ : ∃ m : Nat, n = (m : Int) := ⟨n.toNat, by omega⟩
 have hm : m ≤ xs.length := by omega
 obtain ⟨av, cv, hV', hle⟩ : ∃ av cv, V = .slice av xs.length cv ∧ xs.length ≤ cv := by
  rcases hrow with ⟨rfl, rfl⟩ | ⟨gb, cap, cur, rfl, _, h1, _⟩
  ·exact ⟨none, 0, rfl, Nat.le_refl _⟩
  ·exact ⟨_, _, rfl, h1⟩
 have hb : ∀ w, (Instr.sliceBounds true xs.length cv none (some (.int kk (m : Int))) none).run P w = .ok (0, m, cv) w := by
  intro w
  have := sK (P := P) (n := xs.length) (c := cv) (lo := none) (hi := some (kk, (m : Int))) w (by simp [kQ]) (by simp [kQ, kf]) (by simp only [kf]; omega) hle
  simpa [kQ, kf] using this
 have hr := qW (P := P) ht hz w (a := av) hb
 have hv : (if cv = 0 then av else av.map (·.add (0 * k))) = av := by
  split
  ·rfl
  ·cases av with
   | none => rfl
   | some a0 => simp [Addr.add]
 rw [hv] at hr
 simp only [Nat.sub_zero] at hr
 unfold Oper.wp
 simp only [execOp, ha.eval hx, ha.eval hhi, Option.map_none, Option.map_some, Sem.run_bind, hV', hr, Result.andThen_ok, Sem.run_pure, Oper.upon]
 refine hK _ _ (K _ _ _ (ha.put (Nat.le_of_ble_eq_true hd)) ?_)
 subst hV'
 have hL1 : HpOK F (rowE (.slice av xs.length cv) T E xs :: L1) w := hf
 have htk : (xs.take ((m : Int)).toNat).length = m := by rw [List.length_take, Int.toNat_natCast]; omega
 rcases hrow with ⟨h1, h2⟩ | ⟨gb, cap, cur, h1, ho, hc1, hc2, hc3, hc4⟩
 ·subst h2
  simp only [Value.slice.injEq] at h1
  obtain ⟨rfl, _, rfl⟩ := h1
  have hm0 : m = 0 := by simpa using hm
  subst hm0
  exact hL1
 ·simp only [Value.slice.injEq] at h1
  obtain ⟨rfl, _, rfl⟩ := h1
  have e1 : rowE (.slice (some ⟨gb, 0, none⟩) xs.length cv) T E xs = ⟨some gb, RowOK (.slice (some ⟨gb, 0, none⟩) xs.length cv) T E xs⟩ := rfl
  have e2 : rowE (.slice (some ⟨gb, 0, none⟩) m cv) T E (xs.take ((m : Int)).toNat) = ⟨some gb, RowOK (.slice (some ⟨gb, 0, none⟩) m cv) T E (xs.take ((m : Int)).toNat)⟩ := rfl
  rw [e1] at hL1
  rw [e2]
  refine HpOK.set hL1 (.here _) rfl rfl rfl (Nat.le_refl _) (Nat.le_refl _) (fun _ _ _ => rfl) ?_
  refine .inr ⟨gb, cv, cur, by rw [htk], ho, by rw [htk]; omega, hc2, hc3, ?_⟩
  rw [htk, Int.toNat_natCast]
  have hle2 : m * E.k ≤ xs.length * E.k := Nat.mul_le_mul_right _ hm
  have h3 : cur.toList.take (m * E.k) = (cur.toList.take (xs.length * E.k)).take (m * E.k) := by rw [List.take_take, Nat.min_eq_left hle2]
  rw [h3, hc4]
  have h4 : xs.flatMap E.enc = (xs.take m).flatMap E.enc ++ (xs.drop m).flatMap E.enc := by rw [← List.flatMap_append, List.take_append_drop]
  have h5 : ((xs.take m).flatMap E.enc).length = m * E.k := by rw [dC, List.length_take, Nat.min_eq_left hm]
  rw [h4, ← h5, List.take_left]
end
end Go.HL
namespace Go.HL
open Go
structure TabV where
 data : List UInt32
 dp : Option Addr
 dc : Nat
 deriving Inhabited
def f5 : Enc TabV := ⟨1, fun t => [.slice t.dp t.data.length t.dc], fun _ => rfl, fun x v h => by simp at h; subst h; rfl⟩
def TabIn (h : Hp) (l : List TabV) : Prop := ∀ t ∈ l, Sl h an t.data (.slice t.dp t.data.length t.dc)
theorem TabIn.mono {h h' : Hp} {l : List TabV} (d : TabIn h l) (hh : Hp.le h h') : TabIn h' l := fun s hs => (d s hs).mono hh
def pH (ts : List TabV) : Prop := ts.length ≤ 700 ∧ ∀ t ∈ ts, t.data.length ≤ 64
def CP (l : List SecV) (a : UInt32) : List UInt8 := ((l.getD (dV l a).toNat default).data.drop (a - (l.getD (dV l a).toNat default).addr).toNat).take 6
def Dj (l : List SecV) (a : UInt32) : Bool := decide (dV l a < 0) || !(l.getD (dV l a).toNat default).ex
def atP (l : List SecV) (a : UInt32) : Ins × Bool := if Dj l a = true then (cB, false) else ((ns (CP l a) a).1, decide ((ns (CP l a) a).2 = 0))
def rn (op : Int) : Bool := decide (op = 21 ∨ op = 22 ∨ op = 24)
def eY (ts : List TabV) (at_ : List UInt32) (a : UInt32) : Option (List UInt32) :=
 if dF (fun x => decide (a = x)) 0 at_ < 0 then none else some (ts.getD (dF (fun x => decide (a = x)) 0 at_).toNat default).data
def dP (i : Ins) : List UInt32 := if ij i = 0 then (if (de i).2 = true then [(de i).1] else []) ++ (if lk i = true then [] else [oK i]) else []
def kh (ts : List TabV) (at_ : List UInt32) (i : Ins) : List UInt32 := dP i ++ (if rn i.op = true then (eY ts at_ i.addr).getD [] else [])
def kb (ts : List TabV) (at_ : List UInt32) (i : Ins) : List UInt32 := if i.op = 23 then [i.imm] else if i.op = 24 then (eY ts at_ i.addr).getD [] else []
def oV (ts : List TabV) (at_ : List UInt32) (i : Ins) : Bool := rn i.op && (eY ts at_ i.addr).isNone
def sh (ts : List TabV) (at_ : List UInt32) (a : UInt32) : Value :=
 if dF (fun x => decide (a = x)) 0 at_ < 0 then .slice none 0 0 else
  .slice (ts.getD (dF (fun x => decide (a = x)) 0 at_).toNat default).dp (ts.getD (dF (fun x => decide (a = x)) 0 at_).toNat default).data.length (ts.getD (dF (fun x => decide (a = x)) 0 at_).toNat default).dc
section
variable {ts : List TabV} {at_ : List UInt32} {a : UInt32}
theorem wx (h : dF (fun x => decide (a = x)) 0 at_ < 0) : sh ts at_ a = .slice none 0 0 := by unfold sh; rw [if_pos h]
theorem wy (h : dF (fun x => decide (a = x)) 0 at_ < 0) : eY ts at_ a = none := by unfold eY; rw [if_pos h]
theorem uT (h : ¬ dF (fun x => decide (a = x)) 0 at_ < 0) : sh ts at_ a = .slice (ts.getD (dF (fun x => decide (a = x)) 0 at_).toNat default).dp (ts.getD (dF (fun x => decide (a = x)) 0 at_).toNat default).data.length (ts.getD (dF (fun x => decide (a = x)) 0 at_).toNat default).dc := by unfold sh; rw [if_neg h]
theorem uU (h : ¬ dF (fun x => decide (a = x)) 0 at_ < 0) : eY ts at_ a = some (ts.getD (dF (fun x => decide (a = x)) 0 at_).toNat default).data := by unfold eY; rw [if_neg h]
theorem E2 {H : Hp} (hTI : TabIn H ts) (hTB : pH ts) (hl : ts.length = at_.length) : Sl H an ((eY ts at_ a).getD []) (sh ts at_ a) := by
 by_cases h : dF (fun x => decide (a = x)) 0 at_ < 0
 ·rw [wy h, wx h]; exact Sl.nil _ _
 ·rw [uU h, uT h]
  have := jQ (fun x => decide (a = x)) at_ 0
  exact hTI _ (cS (by omega))
end
theorem j7 (i : Ins) : (dP i).length ≤ 2 := by
 unfold dP
 repeat' split
 all_goals simp
theorem sg {ts : List TabV} (hT : pH ts) (at_ : List UInt32) (a : UInt32) : ((eY ts at_ a).getD []).length ≤ 64 := by
 unfold eY
 split
 ·simp
 ·simp only [Option.getD_some]
  by_cases h : (dF (fun x => decide (a = x)) 0 at_).toNat < ts.length
  ·exact hT.2 _ (cS h)
  ·rw [List.getD_eq_getElem?_getD, List.getElem?_eq_none (by omega)]; exact Nat.zero_le _
theorem uS {ts : List TabV} (hT : pH ts) (at_ : List UInt32) (i : Ins) : (kh ts at_ i).length ≤ 66 := by
 have h1 := j7 i
 have h2 := sg hT at_ i.addr
 unfold kh
 rw [List.length_append]
 split
 ·omega
 ·simp; omega
theorem yo {l : List SecV} {a : UInt32} (h : (atP l a).2 = true) : (atP l a).1.addr = a ∧ Dj l a = false ∧ (ns (CP l a) a).2 = 0 := by
 unfold atP at h ⊢
 split at h
 ·cases h
 ·rename_i hn
  rw [if_neg hn]
  have h' := of_decide_eq_true h
  exact ⟨(FC h').2.2, by simpa using hn, h'⟩
inductive Reach (l : List SecV) (ts : List TabV) (at_ es : List UInt32) : UInt32 → Prop
 | ent (a : UInt32) (h : a ∈ es) : Reach l ts at_ es a
 | step (b a : UInt32) (h : Reach l ts at_ es b) (hf : (atP l b).2 = true) (ha : a ∈ kh ts at_ (atP l b).1) : Reach l ts at_ es a
structure CodeP where
 ins : List Ins
 ents : List UInt32
 unk : List UInt32
 bad : List UInt32
structure IsCode (l : List SecV) (ts : List TabV) (at_ es : List UInt32) (c : CodeP) : Prop where
 ins : ∃ ks : List UInt32, ks.Pairwise (· < ·) ∧ (∀ a, a ∈ ks ↔ Reach l ts at_ es a ∧ (atP l a).2 = true) ∧ c.ins = ks.map fun a => (atP l a).1
 bad : c.bad.Pairwise (· < ·) ∧ ∀ a, a ∈ c.bad ↔ Reach l ts at_ es a ∧ (atP l a).2 = false
 ents : c.ents.Pairwise (· < ·) ∧ ∀ a, a ∈ c.ents ↔ (Reach l ts at_ es a ∧ (atP l a).2 = true) ∧ (a ∈ es ∨ ∃ b, (Reach l ts at_ es b ∧ (atP l b).2 = true) ∧ a ∈ kb ts at_ (atP l b).1)
 unk : c.unk.Pairwise (· < ·) ∧ ∀ a, a ∈ c.unk ↔ (Reach l ts at_ es a ∧ (atP l a).2 = true) ∧ oV ts at_ (atP l a).1 = true
inductive WalkIs (l : List SecV) (ts : List TabV) (at_ es : List UInt32) (c : CodeP) (e : Int) : Prop
 | arg (h : ts.length ≠ at_.length) (he : e = 2) (hc : c = ⟨[], [], [], []⟩) : WalkIs l ts at_ es c e
 | chk (h : ts.length = at_.length) (h1 : gW l ≠ 0) (he : e = gW l) (hc : c = ⟨[], [], [], []⟩) : WalkIs l ts at_ es c e
 | ok (h : ts.length = at_.length) (h1 : gW l = 0) (he : e = 0) (hc : IsCode l ts at_ es c) : WalkIs l ts at_ es c e
theorem HN {l : List UInt32} (h : l.Pairwise (· < ·)) : l.Pairwise (fun x y => x ≤ y) := h.imp fun h => by rw [UInt32.lt_iff_toNat_lt] at h; rw [UInt32.le_iff_toNat_le]; omega
theorem rk {l : List UInt32} (h : l.Pairwise (· < ·)) : l.Nodup := h.imp fun h e => by subst e; simp at h
theorem yq {l l' : List UInt32} (h : l.Pairwise (· < ·)) (h' : l'.Pairwise (· < ·)) (hm : ∀ a, a ∈ l ↔ a ∈ l') : l = l' :=
 rV ((List.perm_ext_iff_of_nodup (rk h) (rk h')).2 hm) (HN h) (HN h')
theorem qU {l : List UInt32} (h : l.Nodup) : (fZ l).Pairwise (· < ·) := by
 have h1 := mh l
 have h2 : (fZ l).Nodup := (lF l).nodup_iff.2 h
 exact (List.pairwise_and_iff.2 ⟨h1, h2⟩).imp fun ⟨a, b⟩ => by
  rw [UInt32.le_iff_toNat_le] at a
  rw [UInt32.lt_iff_toNat_lt]
  have : ¬ (_ : UInt32).toNat = (_ : UInt32).toNat := fun e => b (UInt32.toNat_inj.1 e)
  omega
theorem nn {l : List UInt32} {a : UInt32} : a ∈ fZ l ↔ a ∈ l := (lF l).mem_iff
theorem IsCode.eq {l : List SecV} {ts : List TabV} {at_ es es' : List UInt32} {c c' : CodeP} (h : IsCode l ts at_ es c) (h' : IsCode l ts at_ es' c') (hr : ∀ a, Reach l ts at_ es a ↔ Reach l ts at_ es' a) (he : ∀ a, a ∈ es ↔ a ∈ es') : c = c' := by
 obtain ⟨ks, k1, k2, k3⟩ := h.ins
 obtain ⟨ks', k1', k2', k3'⟩ := h'.ins
 have e1 : ks = ks' := yq k1 k1' fun a => by rw [k2, k2', hr]
 have e2 : c.bad = c'.bad := yq h.bad.1 h'.bad.1 fun a => by rw [h.bad.2, h'.bad.2, hr]
 have e3 : c.unk = c'.unk := yq h.unk.1 h'.unk.1 fun a => by rw [h.unk.2, h'.unk.2, hr]
 have e4 : c.ents = c'.ents := yq h.ents.1 h'.ents.1 fun a => by rw [h.ents.2, h'.ents.2, hr, he]; simp only [hr]
 cases c; cases c'
 simp only at *
 rw [k3, k3', e1, e2, e3, e4]
theorem iU {α : Type} {m : List (UInt32 × α)} {k j : UInt32} {x : α} : j ∈ (fh m k x).map (·.1) ↔ j = k ∨ j ∈ m.map (·.1) := by
 rw [sc]
 split
 ·rename_i h
  constructor
  ·exact .inr
  ·rintro (rfl | h')
   ·exact kP.1 h
   ·exact h'
 ·simp only [List.mem_append, List.mem_singleton]
  exact ⟨fun h => h.symm, fun h => h.symm⟩
def gv (m : List (UInt32 × Bool)) (ks : List UInt32) : List (UInt32 × Bool) := ks.foldl (fun m k => fh m k true) m
theorem sd : ∀ (ks : List UInt32) (m : List (UInt32 × Bool)) {j : UInt32}, j ∈ (gv m ks).map (·.1) ↔ j ∈ ks ∨ j ∈ m.map (·.1)
 | [], m, j => by simp [gv]
 | k :: ks, m, j => by
  have ih := sd ks (fh m k true) (j := j)
  show j ∈ (gv (fh m k true) ks).map (·.1) ↔ _
  rw [ih, iU, List.mem_cons]
  constructor
  ·rintro (h | h | h)
   ·exact .inl (.inr h)
   ·exact .inl (.inl h)
   ·exact .inr h
  ·rintro ((h | h) | h)
   ·exact .inr (.inl h)
   ·exact .inl h
   ·exact .inr (.inr h)
theorem uM (m : List (UInt32 × Bool)) (ks : List UInt32) (k : UInt32) : gv m (ks ++ [k]) = fh (gv m ks) k true := by simp [gv]
theorem Bu {ts : List TabV} {at_ : List UInt32} {i : Ins} {ents m1 : List (UInt32 × Bool)} (h : m1 = if i.op = 23 then fh ents i.imm true else ents) (hn : rn i.op = false) : gv ents (kb ts at_ i) = m1 := by
 have hq : ¬ i.op = 24 := fun e => by unfold rn at hn; rw [e] at hn; exact absurd hn (by decide)
 subst h
 unfold kb
 rw [if_neg hq]
 split <;> rfl
theorem FR {ts : List TabV} {at_ : List UInt32} {i : Ins} {ents m1 m2 : List (UInt32 × Bool)} (h : m1 = if i.op = 23 then fh ents i.imm true else ents) (h2 : m2 = if i.op = 24 then gv m1 ((eY ts at_ i.addr).getD []) else m1) (hn : rn i.op = true) : gv ents (kb ts at_ i) = m2 := by
 have hq : ¬ i.op = 23 := fun e => by unfold rn at hn; rw [e] at hn; exact absurd hn (by decide)
 rw [if_neg hq] at h
 subst h
 subst h2
 unfold kb
 rw [if_neg hq]
 split <;> rfl
theorem Gz {ts : List TabV} {at_ : List UInt32} {i : Ins} {unk u1 : List (UInt32 × Bool)} (h : u1 = if (eY ts at_ i.addr).isSome = true then unk else fh unk i.addr true) (hn : rn i.op = true) : (if oV ts at_ i = true then fh unk i.addr true else unk) = u1 := by
 subst h
 unfold oV
 rw [hn, Bool.true_and]
 cases eY ts at_ i.addr <;> rfl
theorem sb : ∀ (ks : List UInt32) (m : List (UInt32 × Bool)), (gv m ks).length ≤ m.length + ks.length
 | [], m => by simp [gv]
 | k :: ks, m => by
  have ih := sb ks (fh m k true)
  have := uN m k true
  show (gv (fh m k true) ks).length ≤ _
  rw [List.length_cons]; omega
structure DSt where
 ins : List (UInt32 × Ins)
 bad : List (UInt32 × Bool)
 ents : List (UInt32 × Bool)
 unk : List (UInt32 × Bool)
 rest : List UInt32
def stepD (l : List SecV) (ts : List TabV) (at_ : List UInt32) (a : UInt32) (s : DSt) (r : List UInt32) : DSt :=
 ⟨fh s.ins a (atP l a).1, s.bad, gv s.ents (kb ts at_ (atP l a).1), if oV ts at_ (atP l a).1 = true then fh s.unk (atP l a).1.addr true else s.unk, r ++ kh ts at_ (atP l a).1⟩
structure DInv (l : List SecV) (ts : List TabV) (at_ es : List UInt32) (s : DSt) : Prop where
 nIns : (s.ins.map (·.1)).Nodup
 nBad : (s.bad.map (·.1)).Nodup
 nEnts : (s.ents.map (·.1)).Nodup
 nUnk : (s.unk.map (·.1)).Nodup
 ins : ∀ k x, dN s.ins k = some x → Reach l ts at_ es k ∧ (atP l k).2 = true ∧ x = (atP l k).1
 bad : ∀ k x, dN s.bad k = some x → Reach l ts at_ es k ∧ (atP l k).2 = false ∧ x = true
 rest : ∀ a ∈ s.rest, Reach l ts at_ es a
 start : ∀ a ∈ es, a ∈ s.ins.map (·.1) ∨ a ∈ s.bad.map (·.1) ∨ a ∈ s.rest
 close : ∀ k ∈ s.ins.map (·.1), ∀ a ∈ kh ts at_ (atP l k).1, a ∈ s.ins.map (·.1) ∨ a ∈ s.bad.map (·.1) ∨ a ∈ s.rest
 ents : ∀ a, a ∈ s.ents.map (·.1) ↔ a ∈ es ∨ ∃ k ∈ s.ins.map (·.1), a ∈ kb ts at_ (atP l k).1
 unk : ∀ a, a ∈ s.unk.map (·.1) ↔ a ∈ s.ins.map (·.1) ∧ oV ts at_ (atP l a).1 = true
 lRest : s.rest.length + s.bad.length ≤ es.length + 66 * s.ins.length
 lEnts : s.ents.length ≤ es.length + 66 * s.ins.length
 lUnk : s.unk.length ≤ s.ins.length
section
variable {l : List SecV} {ts : List TabV} {at_ es : List UInt32} {s : DSt} {r : List UInt32} {a : UInt32}
theorem nX {α : Type} {m : List (UInt32 × α)} {k : UInt32} (h : k ∈ m.map (·.1)) : ∃ x, dN m k = some x := Option.isSome_iff_exists.1 (kP.2 h)
theorem xR {α : Type} {m : List (UInt32 × α)} {k : UInt32} {x : α} (h : dN m k = some x) : k ∈ m.map (·.1) := kP.1 (by rw [h]; rfl)
theorem DInv.begin : DInv l ts at_ es ⟨[], [], gv [] es, [], es⟩ := by
 refine ⟨List.nodup_nil, List.nodup_nil, ?_, List.nodup_nil, fun k x h => by simp [dN] at h, fun k x h => by simp [dN] at h, fun a h => .ent a h, fun a h => .inr (.inr h), fun k h => by simp at h, fun a => ?_, fun a => by simp, by simp, ?_, by simp⟩
 ·have : ∀ (ks : List UInt32) (m : List (UInt32 × Bool)), (m.map (·.1)).Nodup → ((gv m ks).map (·.1)).Nodup := by
   intro ks
   induction ks with
   | nil => intro m h; exact h
   | cons k ks ih => intro m h; exact ih _ (lP k true h)
  exact this es [] List.nodup_nil
 ·show a ∈ (gv [] es).map (·.1) ↔ _
  rw [sd]; simp
 ·have := sb es []
  simpa using this
theorem DInv.skip (h : DInv l ts at_ es s) (hr : s.rest = r ++ [a]) (hk : a ∈ s.ins.map (·.1) ∨ a ∈ s.bad.map (·.1)) : DInv l ts at_ es { s with rest := r } := by
 have mv : ∀ b, b ∈ s.ins.map (·.1) ∨ b ∈ s.bad.map (·.1) ∨ b ∈ s.rest → b ∈ s.ins.map (·.1) ∨ b ∈ s.bad.map (·.1) ∨ b ∈ r := by
  rintro b (h1 | h1 | h1)
  ·exact .inl h1
  ·exact .inr (.inl h1)
  ·rw [hr] at h1
   rcases List.mem_append.1 h1 with h2 | h2
   ·exact .inr (.inr h2)
   ·rw [List.mem_singleton.1 h2]
    rcases hk with hk | hk
    ·exact .inl hk
    ·exact .inr (.inl hk)
 refine ⟨h.nIns, h.nBad, h.nEnts, h.nUnk, h.ins, h.bad, fun b hb => h.rest b (by rw [hr]; exact List.mem_append_left _ hb), fun b hb => mv b (h.start b hb), fun k hk b hb => mv b (h.close k hk b hb), h.ents, h.unk, ?_, h.lEnts, h.lUnk⟩
 have := h.lRest
 rw [hr, List.length_append, List.length_singleton] at this
 show r.length + s.bad.length ≤ es.length + 66 * s.ins.length
 omega
theorem DInv.isBad (h : DInv l ts at_ es s) (hr : s.rest = r ++ [a]) (hf : (atP l a).2 = false) : DInv l ts at_ es { s with rest := r, bad := fh s.bad a true } := by
 have mv : ∀ b, b ∈ s.ins.map (·.1) ∨ b ∈ s.bad.map (·.1) ∨ b ∈ s.rest → b ∈ s.ins.map (·.1) ∨ b ∈ (fh s.bad a true).map (·.1) ∨ b ∈ r := by
  rintro b (h1 | h1 | h1)
  ·exact .inl h1
  ·exact .inr (.inl (iU.2 (.inr h1)))
  ·rw [hr] at h1
   rcases List.mem_append.1 h1 with h2 | h2
   ·exact .inr (.inr h2)
   ·exact .inr (.inl (iU.2 (.inl (List.mem_singleton.1 h2))))
 refine ⟨h.nIns, lP a true h.nBad, h.nEnts, h.nUnk, h.ins, fun k x hx => ?_, fun b hb => h.rest b (by rw [hr]; exact List.mem_append_left _ hb), fun b hb => mv b (h.start b hb), fun k hk b hb => mv b (h.close k hk b hb), h.ents, h.unk, ?_, h.lEnts, h.lUnk⟩
 ·have hx' : dN (fh s.bad a true) k = some x := hx
  rw [uP] at hx'
  split at hx'
  ·rename_i e
   subst e
   cases hx'
   exact ⟨h.rest k (by rw [hr]; simp), hf, rfl⟩
  ·exact h.bad k x hx'
 ·have := h.lRest
  have h2 := uN s.bad a true
  rw [hr, List.length_append, List.length_singleton] at this
  show r.length + (fh s.bad a true).length ≤ es.length + 66 * s.ins.length
  omega
theorem DInv.found (hT : pH ts) (h : DInv l ts at_ es s) (hr : s.rest = r ++ [a]) (hf : (atP l a).2 = true) (hn : a ∉ s.ins.map (·.1)) : DInv l ts at_ es (stepD l ts at_ a s r) := by
 have ha := (yo hf).1
 have hra : Reach l ts at_ es a := h.rest a (by rw [hr]; simp)
 have mv : ∀ b, b ∈ s.ins.map (·.1) ∨ b ∈ s.bad.map (·.1) ∨ b ∈ s.rest → b ∈ (fh s.ins a (atP l a).1).map (·.1) ∨ b ∈ s.bad.map (·.1) ∨ b ∈ r ++ kh ts at_ (atP l a).1 := by
  rintro b (h1 | h1 | h1)
  ·exact .inl (iU.2 (.inr h1))
  ·exact .inr (.inl h1)
  ·rw [hr] at h1
   rcases List.mem_append.1 h1 with h2 | h2
   ·exact .inr (.inr (List.mem_append_left _ h2))
   ·exact .inl (iU.2 (.inl (List.mem_singleton.1 h2)))
 have hlen : (fh s.ins a (atP l a).1).length = s.ins.length + 1 := by
  rw [rh]
  ·simp
  ·cases hq : dN s.ins a with
   | none => rfl
   | some x => exact absurd (xR hq) hn
 have hl := uS hT at_ (atP l a).1
 have hcl : (kb ts at_ (atP l a).1).length ≤ 66 := by
  have := sg hT at_ (atP l a).1.addr
  unfold kb
  repeat' split
  all_goals simp <;> omega
 refine ⟨lP a _ h.nIns, h.nBad, ?_, ?_, fun k x hx => ?_, h.bad, fun b hb => ?_, fun b hb => mv b (h.start b hb), fun k hk b hb => ?_, fun b => ?_, fun b => ?_, ?_, ?_, ?_⟩
 ·have : ∀ (ks : List UInt32) (m : List (UInt32 × Bool)), (m.map (·.1)).Nodup → ((gv m ks).map (·.1)).Nodup := by
   intro ks
   induction ks with
   | nil => intro m h; exact h
   | cons k ks ih => intro m h; exact ih _ (lP k true h)
  exact this _ _ h.nEnts
 ·show ((if oV ts at_ (atP l a).1 = true then fh s.unk (atP l a).1.addr true else s.unk).map (·.1)).Nodup
  split
  ·exact lP _ _ h.nUnk
  ·exact h.nUnk
 ·have hx' : dN (fh s.ins a (atP l a).1) k = some x := hx
  rw [uP] at hx'
  split at hx'
  ·rename_i e
   subst e
   cases hx'
   exact ⟨hra, hf, rfl⟩
  ·exact h.ins k x hx'
 ·rcases List.mem_append.1 (show b ∈ r ++ kh ts at_ (atP l a).1 from hb) with h1 | h1
  ·exact h.rest b (by rw [hr]; exact List.mem_append_left _ h1)
  ·exact .step a b hra hf h1
 ·rcases iU.1 (show k ∈ (fh s.ins a (atP l a).1).map (·.1) from hk) with rfl | hk
  ·exact .inr (.inr (List.mem_append_right _ hb))
  ·exact mv b (h.close k hk b hb)
 ·show b ∈ (gv s.ents (kb ts at_ (atP l a).1)).map (·.1) ↔ b ∈ es ∨ ∃ k ∈ (fh s.ins a (atP l a).1).map (·.1), _
  rw [sd, h.ents]
  constructor
  ·rintro (h1 | h1 | ⟨k, h1, h2⟩)
   ·exact .inr ⟨a, iU.2 (.inl rfl), h1⟩
   ·exact .inl h1
   ·exact .inr ⟨k, iU.2 (.inr h1), h2⟩
  ·rintro (h1 | ⟨k, h1, h2⟩)
   ·exact .inr (.inl h1)
   ·rcases iU.1 h1 with rfl | h1
    ·exact .inl h2
    ·exact .inr (.inr ⟨k, h1, h2⟩)
 ·show b ∈ (if oV ts at_ (atP l a).1 = true then fh s.unk (atP l a).1.addr true else s.unk).map (·.1) ↔ b ∈ (fh s.ins a (atP l a).1).map (·.1) ∧ _
  rw [iU]
  split
  ·rename_i hu
   rw [iU, h.unk, ha]
   constructor
   ·rintro (rfl | ⟨h1, h2⟩)
    ·exact ⟨.inl rfl, hu⟩
    ·exact ⟨.inr h1, h2⟩
   ·rintro ⟨h1 | h1, h2⟩
    ·exact .inl h1
    ·exact .inr ⟨h1, h2⟩
  ·rename_i hu
   rw [h.unk]
   constructor
   ·rintro ⟨h1, h2⟩
    exact ⟨.inr h1, h2⟩
   ·rintro ⟨h1 | h1, h2⟩
    ·subst h1; exact absurd h2 hu
    ·exact ⟨h1, h2⟩
 ·have := h.lRest
  rw [hr, List.length_append, List.length_singleton] at this
  show (r ++ kh ts at_ (atP l a).1).length + s.bad.length ≤ es.length + 66 * (fh s.ins a (atP l a).1).length
  rw [hlen, List.length_append]
  omega
 ·have := h.lEnts
  have h2 := sb (kb ts at_ (atP l a).1) s.ents
  show (gv s.ents (kb ts at_ (atP l a).1)).length ≤ es.length + 66 * (fh s.ins a (atP l a).1).length
  rw [hlen]; omega
 ·have := h.lUnk
  show (if oV ts at_ (atP l a).1 = true then fh s.unk (atP l a).1.addr true else s.unk).length ≤ (fh s.ins a (atP l a).1).length
  rw [hlen]
  split
  ·have := uN s.unk (atP l a).1.addr true; omega
  ·omega
theorem DInv.all (h : DInv l ts at_ es s) (hr : s.rest = []) : ∀ b, Reach l ts at_ es b → b ∈ s.ins.map (·.1) ∨ b ∈ s.bad.map (·.1) := by
 intro b hb
 have cut : ∀ c, c ∈ s.ins.map (·.1) ∨ c ∈ s.bad.map (·.1) ∨ c ∈ s.rest → c ∈ s.ins.map (·.1) ∨ c ∈ s.bad.map (·.1) := by
  rintro c (h1 | h1 | h1)
  ·exact .inl h1
  ·exact .inr h1
  ·rw [hr] at h1; cases h1
 induction hb with
 | ent a ha => exact cut a (h.start a ha)
 | step b a hb hf ha ih =>
  rcases ih with h1 | h1
  ·exact cut a (h.close b h1 a ha)
  ·obtain ⟨x, hx⟩ := nX h1
   have := (h.bad b x hx).2.1
   rw [hf] at this; cases this
theorem DInv.insKeys (h : DInv l ts at_ es s) (hr : s.rest = []) (b : UInt32) : b ∈ s.ins.map (·.1) ↔ Reach l ts at_ es b ∧ (atP l b).2 = true := by
 constructor
 ·intro h1
  obtain ⟨x, hx⟩ := nX h1
  exact ⟨(h.ins b x hx).1, (h.ins b x hx).2.1⟩
 ·rintro ⟨h1, h2⟩
  rcases h.all hr b h1 with h3 | h3
  ·exact h3
  ·obtain ⟨x, hx⟩ := nX h3
   have := (h.bad b x hx).2.1
   rw [h2] at this; cases this
theorem DInv.code (h : DInv l ts at_ es s) (hr : s.rest = []) : IsCode l ts at_ es ⟨(fZ (s.ins.map (·.1))).map fun a => (atP l a).1, (fZ (s.ents.map (·.1))).filter fun a => (dN s.ins a).isSome, fZ (s.unk.map (·.1)), fZ (s.bad.map (·.1))⟩ := by
 refine ⟨⟨_, qU h.nIns, fun a => by rw [nn]; exact h.insKeys hr a, rfl⟩, ⟨qU h.nBad, fun a => ?_⟩, ⟨(qU h.nEnts).filter _, fun a => ?_⟩, ⟨qU h.nUnk, fun a => ?_⟩⟩
 ·show a ∈ fZ _ ↔ _
  rw [nn]
  constructor
  ·intro h1
   obtain ⟨x, hx⟩ := nX h1
   exact ⟨(h.bad a x hx).1, (h.bad a x hx).2.1⟩
  ·rintro ⟨h1, h2⟩
   rcases h.all hr a h1 with h3 | h3
   ·have := ((h.insKeys hr a).1 h3).2
    rw [h2] at this; cases this
   ·exact h3
 ·show a ∈ (fZ _).filter _ ↔ _
  rw [List.mem_filter, nn, h.ents, kP, h.insKeys hr]
  constructor
  ·rintro ⟨h1 | ⟨k, h1, h2⟩, h3⟩
   ·exact ⟨h3, .inl h1⟩
   ·exact ⟨h3, .inr ⟨k, (h.insKeys hr k).1 h1, h2⟩⟩
  ·rintro ⟨h3, h1 | ⟨k, h1, h2⟩⟩
   ·exact ⟨.inl h1, h3⟩
   ·exact ⟨.inr ⟨k, (h.insKeys hr k).2 h1, h2⟩, h3⟩
 ·show a ∈ fZ _ ↔ _
  rw [nn, h.unk, h.insKeys hr]
end
theorem A8 {α : Type} [Inhabited α] {xs : List α} (h : 0 < xs.length) : xs = xs.take ((xs.length : Int) - 1).toNat ++ [xs.getD ((xs.length : Int) - 1).toNat default] := by
 obtain ⟨n, hn⟩ : ∃ n, ((xs.length : Int) - 1).toNat = n := ⟨_, rfl⟩
 rw [hn]
 have h1 : n + 1 = xs.length := by omega
 have := dn (l := xs) (k := n) (by omega)
 rw [← this, h1, List.take_length]
theorem yY {ins : List (UInt32 × Ins)} {bad : List (UInt32 × Bool)} {a : UInt32} (h : (dN ins a).isSome = true ∨ (dN bad a).getD false = true) : a ∈ ins.map (·.1) ∨ a ∈ bad.map (·.1) := by
 rcases h with h | h
 ·exact .inl (kP.1 h)
 ·right
  cases hq : dN bad a with
  | none => rw [hq] at h; cases h
  | some x => exact xR hq
theorem B0 {ins : List (UInt32 × Ins)} {bad : List (UInt32 × Bool)} {a : UInt32} (h : (dN ins a).isSome = false ∧ (dN bad a).getD false = false) : a ∉ ins.map (·.1) := fun hq => by
 have := kP.2 hq
 rw [h.1] at this; cases this
theorem Ik {l : List SecV} {ts : List TabV} {at_ es : List UInt32} {s : DSt} (h : DInv l ts at_ es s) {k : UInt32} (hk : k ∈ s.ins.map (·.1)) : (dN s.ins k).getD cB = (atP l k).1 := by
 obtain ⟨x, hx⟩ := nX hk
 rw [hx]; exact (h.ins k x hx).2.2
theorem mJ {α β : Type} [Inhabited α] (f : α → β) {l : List α} {k : Nat} (h : k < l.length) : (l.take k).map f ++ [f (l.getD k default)] = (l.take (k + 1)).map f := by
 rw [dn h, List.map_append]; rfl
theorem tH {α : Type} [Inhabited α] {p : α → Bool} {l : List α} {k : Nat} (h : k < l.length) (hp : p (l.getD k default) = true) : (l.take k).filter p ++ [l.getD k default] = (l.take (k + 1)).filter p := by
 rw [dn h, List.filter_append, List.filter_cons_of_pos hp]; rfl
theorem u7 {α : Type} [Inhabited α] {p : α → Bool} {l : List α} {k : Nat} (h : k < l.length) (hp : p (l.getD k default) = false) : (l.take k).filter p = (l.take (k + 1)).filter p := by
 rw [dn h, List.filter_append, List.filter_cons_of_neg (by rw [hp]; simp)]; simp
theorem HT (l : List SecV) (a : UInt32) : InsOK (atP l a).1 := by
 unfold atP
 split
 ·constructor <;> exact ⟨by decide, by decide⟩
 ·exact Iv
def wd (l : List SecV) : List UInt32 := l.flatMap fun s => (List.range s.data.length).map fun i => s.addr + UInt32.ofNat i
def totD (l : List SecV) : Nat := (l.map fun s => s.data.length).sum
theorem uj (l : List SecV) : (wd l).length = totD l := by
 induction l with
 | nil => rfl
 | cons s l ih =>
  show (((List.range s.data.length).map fun i => s.addr + UInt32.ofNat i) ++ wd l).length = _
  rw [List.length_append, List.length_map, List.length_range, ih]
  simp [totD]
theorem yn {l : List SecV} {a : UInt32} (h : (atP l a).2 = true) : a ∈ wd l := by
 obtain ⟨_, h1, _⟩ := yo h
 unfold Dj at h1
 simp only [Bool.or_eq_false_iff, decide_eq_false_iff_not] at h1
 have hf : 0 ≤ dV l a := by omega
 have hlt := nr (l := l) (a := a)
 have hin := rp.1 (pB (l := l) (a := a) hf)
 refine List.mem_flatMap.2 ⟨l.getD (dV l a).toNat default, cS (by omega), ?_⟩
 obtain ⟨s, hs⟩ : ∃ s, s = l.getD (dV l a).toNat default := ⟨_, rfl⟩
 rw [← hs] at hin ⊢
 have hen : qC s ≤ (s.addr.toNat : Int) + s.data.length := by unfold qC; omega
 have ha := a.toNat_lt
 refine List.mem_map.2 ⟨a.toNat - s.addr.toNat, List.mem_range.2 (by omega), ?_⟩
 rw [← UInt32.toNat_inj, UInt32.toNat_add, UInt32.toNat_ofNat']
 omega
theorem DInv.count {l : List SecV} {ts : List TabV} {at_ es : List UInt32} {s : DSt} (h : DInv l ts at_ es s) : s.ins.length ≤ totD l := by
 have := nm (l := s.ins.map (·.1)) (l' := wd l) h.nIns fun k hk => by
  obtain ⟨x, hx⟩ := nX hk
  exact yn (h.ins k x hx).2.1
 rw [List.length_map, uj] at this
 exact this
end Go.HL
