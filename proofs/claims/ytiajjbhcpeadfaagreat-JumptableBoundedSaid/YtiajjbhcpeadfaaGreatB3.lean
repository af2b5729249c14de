/- Own rules and walks, part 3. -/
import Derived.Test.YtiajjbhcpeadfaaGreatB2
set_option linter.unusedSimpArgs false
set_option linter.unusedVariables false
set_option linter.unusedSectionVars false
set_option maxRecDepth 100000
set_option maxHeartbeats 16000000
namespace Go.Proofs.YtiajjbhcpeadfaaGreat
open Go Go.HL Go.RowKit
theorem sF (a : VSet) (w : World) :
  Calls Tryz.prog 41 #[.agg (bO.enc a).toArray] w (fun e w' => ∃ V', e = .returned (.tuple #[V', .int .i64 (eY a).2]) ∧ Ext w w' ∧ js w w' 23 al ((eY a).1) V') := by
 refine enter Tryz.func41 rfl Tryz.ntmps41 rfl ?_
 refine ah ?_
 refine dG rfl rfl (fun b1 => ?_)
 refine zz0 (ab rfl) (zz0 (ab rfl) (aI (zz0 (bG rfl aJ ak) ?_)))
 refine zz0 (az rfl gg (fun w hw => g4 a w)) ?_
 refine aB bO rfl rfl ak ?_
 refine aI (zz0 (bG rfl aJ ak) ?_)
 refine zz0 (az rfl Tryz.call100 (fun w hw => yN (aZ a) w)) ?_
 refine zz0 (ab rfl) (ad (an (an ?_)))
 have hcc : ff (aZ a) = ff a := by unfold ff; rw [jL]
 rw [hcc]
 have hc0 := Ew a
 have hc1 := count_le a
 refine ar (zz0 (aa rfl) (zz0 (fg rfl rfl) (ad ?_)))
 refine au rfl ?_ ?_ <;> intro h2 <;> try simp only [bs] at h2
 ·refine ah (zz0 (ab rfl) (zz0 (ab rfl) (ad (aC (ay ?_)))))
  refine dE Tryz.results41 rfl rfl (fun w' hw => ?_)
  exact ⟨_, by unfold eY; rw [if_pos (by assumption)], hw.b0, by unfold eY; rw [if_pos (by assumption)]; exact fD rfl⟩
 refine dz (zz0 (ab rfl) (ad (an (ah (zz0 (aa rfl) (zz0 (aa rfl) (ad ?_)))))))
 refine aF (bZ 23 al ?_)
 refine bL (ι := Nat × Value) (fun ⟨k, V⟩ => k ≤ (ff a).toNat) (fun _ => _) (fun ⟨k, V⟩ => [rowE V 23 al (elK (aZ a) k), cellE b1 (bO.enc (aZ a)) 25]) (fun ⟨k, V⟩ => [(5, V), (14, .int .i64 (k : Nat))]) (fun ⟨k, V⟩ => (ff a).toNat - k) (0, _) (Nat.zero_le _) (Front.c (Front.c Front.nil)) (by repeat' constructor) rfl (fun i hi m hm => ?_)
 obtain ⟨k, V⟩ := i
 replace hi : k ≤ (ff a).toNat := hi
 replace hm : m = (ff a).toNat - k := hm
 change Tr _ _ [rowE V 23 al (elK (aZ a) k), cellE b1 (bO.enc (aZ a)) 25] ([(5, V), (14, .int .i64 (k : Nat))] ++ _) _
 have hel := Bi (aZ a) k
 refine ah (zz0 (bT rfl rfl) (ad (an ?_)))
 refine au rfl ?_ ?_ <;> intro h3 <;> try simp only [bs] at h3
 ·refine bC (an (aF (ah (zz0 (aa rfl) (zz0 (ab rfl) (ad (ar (zz0 (aa rfl) (zz0 (zz2 (off := 2) (ft := 23) rfl ao rfl ae) ?_)))))))))
  refine zz0 (aH rfl am) ?_
  refine zz0 (aa rfl) (zz0 (gU rfl ba aS) (zz0 (zz2 (off := 4) (ft := 23) rfl ao rfl ae) ?_))
  refine zz0 (aH rfl am) ?_
  refine zz0 (ng rfl rfl) ?_
  refine zz0 (gJ rfl rfl) ?_
  refine iG (E := al) _ rfl rfl af ae cC (fun V4 => ?_)
  refine zz1 rfl rfl af eS (fun V5 => ?_)
  refine zz0 (ab rfl) (aD (aY (ac (ar (zz0 (cB rfl rfl) ?_)))))
  refine zz0 (aa rfl) (ad ?_)
  rw [← Et]
  refine cK (k + 1, _) (Front.c (Front.c Front.nil)) (zz8 19 rfl) (o := (by show k + 1 ≤ _; omega))
 refine bJ (aG (aG (bj (ac (an ?_)))))
 obtain rfl : k = (ff a).toNat := by omega
 refine ar (zz0 (aa rfl) (zz0 (ab rfl) (zz0 (ab rfl) (ad (aC ?_)))))
 refine dE Tryz.results41 rfl rfl (fun w' hw => ?_)
 exact ⟨_, by unfold eY; rw [if_neg (by omega)], hw.b0, by unfold eY wT; rw [if_neg (by omega), hcc]; exact hw.new (.head _)⟩
theorem BF (a b : VSet) (w : World) :
  Cr Tryz.prog 271 #[.agg (bO.enc a).toArray, .agg (bO.enc b).toArray] w (.bool (nn a b)) := by
 refine enter Tryz.func271 rfl Tryz.ntmps271 rfl ?_
 refine ah ?_
 refine dG rfl rfl (fun b1 => ?_)
 refine dG rfl rfl (fun b2 => ?_)
 refine zz0 (ab rfl) (ad (an (fy 0 4 aP ?_)))
 refine bE ?_
 refine aw (bG rfl aJ ak) ?_
 refine aw (az rfl gg (fun w hw => g4 a w)) ?_
 refine aw (bG rfl aJ ak) ?_
 refine aw (az rfl gg (fun w hw => g4 b w)) ?_
 refine bH ?_
 refine aB bO rfl rfl ak ?_
 refine aB bO rfl rfl ak ?_
 refine ad (an (aF (ah (zz0 (zz2 (off := 0) (ft := 4) rfl ao rfl bS) ?_))))
 refine zz0 (aH rfl cE) ?_
 refine zz0 (aa rfl) ?_
 apply dV
 ·exact (rfl : _ = (3, 12, 15))
 ·exact rfl
 ·intro hF3; have hF3' := hF3
  try simp only [bs] at hF3'
  refine zz6 hF3 (zz2 (off := 1) (ft := 4) rfl ao rfl bS) ?_
  refine zz6 hF3 (aH rfl cE) ?_
  refine zz0 (aU rfl hF3 rfl) ?_
  refine aD (ac ?_)
  exact aK (Sub.cons rfl (bD 3 rfl))
 ·intro hT3
  refine zz9 hT3 (zz9 hT3 (zz0 (aV rfl hT3 rfl) ?_))
  refine aD (ac ?_)
  exact aK (Sub.cons rfl (bD 3 rfl))
 refine zz0 (ab rfl) (ad ?_)
 refine au rfl ?_ ?_ <;> intro h4 <;> try simp only [bs] at h4
 ·refine ah (zz0 (ab rfl) (ad (aC (bv (ay ?_)))))
  refine aX my rfl (fun w' hw => ?_)
  refine ⟨?_, hw.b0⟩
  unfold nn oh
  repeat' (first | rfl | (exfalso; first | (simp_all; done) | grind) | split)
 refine ah (zz0 (zz2 (off := 1) (ft := 4) rfl ao rfl bS) ?_)
 refine zz0 (aH rfl cE) ?_
 refine zz0 (aa rfl) ?_
 apply dV
 ·exact (rfl : _ = (3, 19, 22))
 ·exact rfl
 ·intro hF5; have hF5' := hF5
  try simp only [bs] at hF5'
  refine zz6 hF5 (zz2 (off := 0) (ft := 4) rfl ao rfl bS) ?_
  refine zz6 hF5 (aH rfl cE) ?_
  refine zz0 (aU rfl hF5 rfl) ?_
  refine aD (ac ?_)
  exact aK (Sub.cons rfl (bD 3 rfl))
 ·intro hT5
  refine zz9 hT5 (zz9 hT5 (zz0 (aV rfl hT5 rfl) ?_))
  refine aD (ac ?_)
  exact aK (Sub.cons rfl (bD 3 rfl))
 refine zz0 (ab rfl) (ad ?_)
 refine au rfl ?_ ?_ <;> intro h6 <;> try simp only [bs] at h6
 ·refine ah (zz0 (ab rfl) (ad (aC (bv (ay ?_)))))
  refine aX my rfl (fun w' hw => ?_)
  refine ⟨?_, hw.b0⟩
  unfold nn oh
  repeat' (first | rfl | (exfalso; first | (simp_all; done) | grind) | split)
 refine cd (aY (ac (ah (zz0 (bG rfl aJ ak) ?_))))
 refine zz0 (zz2 (off := 2) (ft := 23) rfl ao rfl ae) ?_
 refine zz0 (aH rfl am) ?_
 refine zz0 (az rfl pj (fun w hw => l8 _ _ w)) ?_
 refine zz0 (aa rfl) ?_
 apply cH
 ·exact (rfl : _ = (5, 27, 32))
 ·exact rfl
 ·intro hT7; have hT7' := hT7
  try simp only [bs] at hT7'
  refine zz6 hT7 (bG rfl aJ ak) ?_
  refine zz6 hT7 (zz2 (off := 3) (ft := 23) rfl ao rfl ae) ?_
  refine zz6 hT7 (aH rfl am) ?_
  refine zz6 hT7 (az rfl pj (fun w hw => l8 _ _ w)) ?_
  refine zz0 (aV rfl hT7 rfl) ?_
  refine aD (ac ?_)
  exact aK (Sub.cons rfl (bD 5 rfl))
 ·intro hF7
  refine zz9 hF7 (zz9 hF7 (zz9 hF7 (zz9 hF7 (zz0 (aU rfl hF7 rfl) ?_))))
  refine aD (ac ?_)
  exact aK (Sub.cons rfl (bD 5 rfl))
 refine zz0 (aa rfl) ?_
 apply cH
 ·exact (rfl : _ = (17, 33, 50))
 ·exact rfl
 ·intro hT8; have hT8' := hT8
  try simp only [bs] at hT8'
  refine zz6 hT8 (zz2 (off := 4) (ft := 23) rfl ao rfl ae) ?_
  refine zz6 hT8 (aH rfl am) ?_
  refine zz6 hT8 (eE (n := 0) rfl rfl) ?_
  refine zz6 hT8 (aa rfl) ?_
  apply dV
  ·exact (rfl : _ = (12, 37, 49))
  ·exact rfl
  ·intro hF9; have hF9' := hF9
   try simp only [bs] at hF9'
   refine zz6 hF9 (zz2 (off := 4) (ft := 23) rfl ao rfl ae) ?_
   refine zz6 hF9 (aH rfl am) ?_
   refine zz6 hF9 (kD (n := 0) rfl rfl) ?_
   refine zz6 hF9 (aa rfl) ?_
   apply cH
   ·exact (rfl : _ = (7, 41, 48))
   ·exact rfl
   ·intro hT10; have hT10' := hT10
    try simp only [bs] at hT10'
    have hb0 := GR (by assumption : 0 < (aZ b).st)
    refine zz6 hT10 (zz2 (off := 4) (ft := 23) rfl ao rfl ae) ?_
    refine zz6 hT10 (aH rfl am) ?_
    refine zz6 hT10 (zz2 (off := 4) (ft := 23) rfl ao rfl ae) ?_
    refine zz6 hT10 (aH rfl am) ?_
    refine zz6 hT10 (nf rfl rfl (by first | decide | assumption)) ?_
    refine zz6 hT10 (eE (n := 0) rfl rfl) ?_
    refine zz6 hF9 (aV rfl hT10 rfl) ?_
    refine aD (ac ?_)
    exact aK (Sub.cons rfl (bD 7 rfl))
   ·intro hF10
    refine zz9 hF10 (zz9 hF10 (zz9 hF10 (zz9 hF10 (zz9 hF10 (zz9 hF10 (zz6 hF9 (aU rfl hF10 rfl) ?_))))))
    refine aD (ac ?_)
    exact aK (Sub.cons rfl (bD 7 rfl))
   refine zz6 hT8 (aU rfl hF9 rfl) ?_
   refine aD (ac ?_)
   exact aK (Sub.cons rfl (bD 6 rfl))
  ·intro hT9
   refine zz9 hT9 (zz9 hT9 (zz9 hT9 (zz9 hT9 (gw ?_))))
   refine gw ?_
   refine gw ?_
   refine gw ?_
   refine gw ?_
   refine gw ?_
   refine zz9 hT9 (zz6 hT8 (aV rfl hT9 rfl) ?_)
   refine aD (ac ?_)
   exact aK (Sub.cons rfl (bD 12 rfl))
  refine zz0 (aV rfl hT8 rfl) ?_
  refine aD (ac ?_)
  exact aK (Sub.cons rfl (bD 6 rfl))
 ·intro hF8
  refine zz9 hF8 (zz9 hF8 (zz9 hF8 (zz9 hF8 (gw ?_))))
  refine gw ?_
  refine gw ?_
  refine gw ?_
  refine gw ?_
  refine gw ?_
  refine gw ?_
  refine gw ?_
  refine gw ?_
  refine gw ?_
  refine gw ?_
  refine zz9 hF8 (zz0 (aU rfl hF8 rfl) ?_)
  refine aD (ac ?_)
  exact aK (Sub.cons rfl (bD 17 rfl))
 refine zz0 (ab rfl) (ad (aC ?_))
 refine aX my rfl (fun w' hw => ?_)
 refine ⟨?_, hw.b0⟩
 unfold nn oh
 repeat' (first | rfl | (exfalso; first | (simp_all; done) | grind) | split)
theorem vq (a : VSet) (k : UInt32) (w : World) :
  Cr Tryz.prog 325 #[.agg (bO.enc a).toArray, .int .u32 k.toNat] w (.agg (bO.enc (qE a k)).toArray) := by
 have hmul := HG a.hi k
 refine enter Tryz.func325 rfl Tryz.ntmps325 rfl ?_
 refine ah ?_
 refine dG rfl rfl (fun b1 => ?_)
 refine dC cG rfl (fun b2 => ?_)
 refine ad (an (ah (zz0 (zz2 (off := 1) (ft := 4) rfl ao rfl bS) ?_)))
 refine zz0 (aH rfl cE) ?_
 refine zz0 (aa rfl) ?_
 apply dV
 ·exact (rfl : _ = (8, 7, 15))
 ·exact rfl
 ·intro hF3; have hF3' := hF3
  try simp only [bs] at hF3'
  refine zz6 hF3 (zz2 (off := 3) (ft := 23) rfl ao rfl ae) ?_
  refine zz6 hF3 (aH rfl am) ?_
  refine zz6 hF3 (eN rfl aS cD) (zz6 hF3 (aa rfl) (zz6 hF3 (eN rfl aS cD) (zz6 hF3 (Bz rfl rfl (by omega)) ?_)))
  refine zz6 hF3 (fg rfl rfl) (zz0 (aU rfl hF3 rfl) ?_)
  refine aD (ac ?_)
  exact aK (Sub.cons rfl (bD 8 rfl))
 ·intro hT3
  refine zz9 hT3 (zz9 hT3 (zz9 hT3 (zz9 hT3 (zz9 hT3 (zz9 hT3 (zz9 hT3 (zz0 (aV rfl hT3 rfl) ?_)))))))
  refine aD (ac ?_)
  exact aK (Sub.cons rfl (bD 8 rfl))
 refine ad ?_
 refine au rfl ?_ ?_ <;> intro h4 <;> try simp only [bs] at h4
 ·refine ah (zz0 (az rfl fO (fun w hw => jP w)) ?_)
  refine aB bO rfl rfl ak ?_
  refine ad (aC (ay ?_))
  refine eO Tryz.results325 rfl aJ ak (fun w' hw => ?_)
  refine ⟨?_, hw.b0⟩
  unfold qE
  repeat' (first | rfl | (exfalso; first | (simp_all; done) | grind) | split)
 refine dz (zz0 (zz2 (off := 2) (ft := 23) rfl ao rfl ae) ?_)
 refine zz0 (aH rfl am) ?_
 refine zz0 (aa rfl) (zz0 (ng rfl rfl) ?_)
 refine zz0 (zz2 (off := 3) (ft := 23) rfl ao rfl ae) ?_
 refine zz0 (aH rfl am) ?_
 refine zz0 (aa rfl) (zz0 (ng rfl rfl) ?_)
 refine zz0 (zz2 (off := 4) (ft := 23) rfl ao rfl ae) ?_
 refine zz0 (aH rfl am) ?_
 refine zz0 (aa rfl) (zz0 (ng rfl rfl) ?_)
 refine zz0 (az rfl eA (fun w hw => dK _ _ _ w)) ?_
 refine aB bO rfl rfl ak ?_
 refine ad (aC ?_)
 refine eO Tryz.results325 rfl aJ ak (fun w' hw => ?_)
 refine ⟨?_, hw.b0⟩
 unfold qE
 repeat' (first | rfl | (exfalso; first | (simp_all; done) | grind) | split)
theorem Cf (a : VSet) (n : UInt32) (w : World) :
  Cr Tryz.prog 326 #[.agg (bO.enc a).toArray, .int .u32 n.toNat] w (.agg (bO.enc (te a n)).toArray) := by
 refine enter Tryz.func326 rfl Tryz.ntmps326 rfl ?_
 refine ah ?_
 refine dG rfl rfl (fun b1 => ?_)
 refine dC cG rfl (fun b2 => ?_)
 refine aI (zz0 (aa rfl) (zz0 (ab rfl) (ad (an (ah (zz0 (zz2 (off := 1) (ft := 4) rfl ao rfl bS) ?_))))))
 refine zz0 (aH rfl cE) ?_
 refine zz0 (cP rfl) (ad ?_)
 refine au rfl ?_ ?_ <;> intro h3 <;> try simp only [bs] at h3
 ·refine ar (zz0 (aa rfl) (zz0 (zz2 (off := 3) (ft := 23) rfl ao rfl ae) ?_))
  refine zz0 (aH rfl am) ?_
  refine zz0 (oU rfl rfl) ?_
  refine zz0 (ab rfl) (aI (zz0 (aa rfl) (zz0 (aa rfl) (zz0 (aa rfl) (zz0 (uH rfl) ?_)))))
  refine zz0 (nk rfl rfl) ?_
  refine zz0 (az rfl eA (fun w hw => dK 0 _ (n &&& (0 - n)) w)) ?_
  refine aB bO rfl rfl ak ?_
  refine ad (aC ?_)
  refine eO Tryz.results326 rfl aJ ak (fun w' hw => ?_)
  refine ⟨?_, hw.b0⟩
  unfold te
  rw [if_pos (show a.top = false by simp_all)]
  rfl
 refine dz (zz0 (aa rfl) (zz0 (aa rfl) (zz0 (aa rfl) (zz0 (uH rfl) ?_))))
 refine zz0 (nk rfl rfl) ?_
 refine zz0 (az rfl eA (fun w hw => dK 0 _ (n &&& (0 - n)) w)) ?_
 refine aB bO rfl rfl ak ?_
 refine ad (aC ?_)
 refine eO Tryz.results326 rfl aJ ak (fun w' hw => ?_)
 refine ⟨?_, hw.b0⟩
 unfold te
 rw [if_neg (show ¬a.top = false by simp_all)]
 rfl
theorem oR (op : Int) (a b : VSet) (w : World) :
  Cr Tryz.prog 303 #[.int .i64 op, .agg (bO.enc a).toArray, .agg (bO.enc b).toArray] w (.agg (bO.enc (fU op a b)).toArray) := by
 have hb1 := (aZ a).hi.toNat_lt
 have hb2 := (aZ b).hi.toNat_lt
 refine enter Tryz.func303 rfl Tryz.ntmps303 rfl ?_
 refine ah ?_
 refine dG rfl rfl (fun b1 => ?_)
 refine dG rfl rfl (fun b2 => ?_)
 refine dC cG rfl (fun b3 => ?_)
 refine ad (an (fy 0 4 aP ?_))
 refine bE ?_
 refine aw (bG rfl aJ ak) ?_
 refine aw (az rfl gg (fun w hw => g4 a w)) ?_
 refine aw (bG rfl aJ ak) ?_
 refine aw (az rfl gg (fun w hw => g4 b w)) ?_
 refine bH ?_
 refine aB bO rfl rfl ak ?_
 refine aB bO rfl rfl ak ?_
 refine ad ?_
 refine cZ (ι := Unit) (fun u => fU op a b = ii op (aZ a) (aZ b)) (fun _ => Bg.of w) (fun u => [cellE b3 (bO.enc zeroS) 25, cellE b2 (bO.enc (aZ b)) 25, cellE b1 (bO.enc (aZ a)) 25]) (fun u => []) ?_ (fun u hi => ?_)
 ·skip
  refine aF (ah (zz0 (aa rfl) (zz0 (bT rfl rfl) (zz0 (aa rfl) ?_))))
  apply dV
  ·exact (rfl : _ = (3, 16, 19))
  ·exact rfl
  ·intro hF4; have hF4' := hF4
   try simp only [bs] at hF4'
   refine zz6 hF4 (aa rfl) (zz6 hF4 (fg rfl rfl) (zz0 (aU rfl hF4 rfl) ?_))
   refine aD (ac ?_)
   exact aK (Sub.cons rfl (bD 3 rfl))
  ·intro hT4
   refine zz9 hT4 (zz9 hT4 (zz0 (aV rfl hT4 rfl) ?_))
   refine aD (ac ?_)
   exact aK (Sub.cons rfl (bD 3 rfl))
  refine zz0 (ab rfl) (ad ?_)
  refine au rfl ?_ ?_ <;> intro h5 <;> try simp only [bs] at h5
  ·refine ah (zz0 (az rfl fO (fun w hw => jP w)) ?_)
   refine aB bO rfl rfl ak ?_
   refine ad (aC (bv (ay ?_)))
   refine eO eG rfl aJ ak (fun w' hw => ?_)
   try rw [hi]
   refine ⟨?_, hw.b0⟩
   (first | unfold jr | unfold ii | unfold fU ij)
   repeat' (first | rfl | (exfalso; first | (simp_all; done) | grind) | split)
  refine ah (zz0 (zz2 (off := 0) (ft := 4) rfl ao rfl bS) ?_)
  refine zz0 (aH rfl cE) ?_
  refine zz0 (aa rfl) ?_
  apply dV
  ·exact (rfl : _ = (3, 24, 27))
  ·exact rfl
  ·intro hF6; have hF6' := hF6
   try simp only [bs] at hF6'
   refine zz6 hF6 (zz2 (off := 0) (ft := 4) rfl ao rfl bS) ?_
   refine zz6 hF6 (aH rfl cE) ?_
   refine zz0 (aU rfl hF6 rfl) ?_
   refine aD (ac ?_)
   exact aK (Sub.cons rfl (bD 3 rfl))
  ·intro hT6
   refine zz9 hT6 (zz9 hT6 (zz0 (aV rfl hT6 rfl) ?_))
   refine aD (ac ?_)
   exact aK (Sub.cons rfl (bD 3 rfl))
  refine zz0 (ab rfl) (ad ?_)
  refine au rfl ?_ ?_ <;> intro h7 <;> try simp only [bs] at h7
  ·refine ah (zz0 (az rfl je (fun w hw => jR w)) ?_)
   refine aB bO rfl rfl ak ?_
   refine ad (aC (bv (ay ?_)))
   refine eO eG rfl aJ ak (fun w' hw => ?_)
   try rw [hi]
   refine ⟨?_, hw.b0⟩
   (first | unfold jr | unfold ii | unfold fU ij)
   repeat' (first | rfl | (exfalso; first | (simp_all; done) | grind) | split)
  refine ah (zz0 (bG rfl aJ ak) ?_)
  refine zz0 (az rfl Tryz.call324 (fun w hw => rE _ w)) ?_
  refine zz0 (aa rfl) ?_
  apply cH
  ·exact (rfl : _ = (3, 32, 35))
  ·exact rfl
  ·intro hT8; have hT8' := hT8
   try simp only [bs] at hT8'
   refine zz6 hT8 (bG rfl aJ ak) ?_
   refine zz6 hT8 (az rfl Tryz.call324 (fun w hw => rE _ w)) ?_
   refine zz0 (aV rfl hT8 rfl) ?_
   refine aD (ac ?_)
   exact aK (Sub.cons rfl (bD 3 rfl))
  ·intro hF8
   refine zz9 hF8 (zz9 hF8 (zz0 (aU rfl hF8 rfl) ?_))
   refine aD (ac ?_)
   exact aK (Sub.cons rfl (bD 3 rfl))
  refine zz0 (ab rfl) (ad ?_)
  refine au rfl ?_ ?_ <;> intro h9 <;> try simp only [bs] at h9
  ·refine ah (zz0 (aa rfl) (zz0 (zz2 (off := 2) (ft := 23) rfl ao rfl ae) ?_))
   refine zz0 (aH rfl am) ?_
   refine zz0 (zz2 (off := 2) (ft := 23) rfl ao rfl ae) ?_
   refine zz0 (aH rfl am) ?_
   refine zz0 (az rfl Tryz.call277 (fun w hw => Ap op (aZ a).lo (aZ b).lo w)) ?_
   refine zz0 (aa rfl) (zz0 (aN rfl rfl) (zz0 (aN rfl rfl) (zz0 (ab rfl) (zz0 (ab rfl) (aI (zz0 (aa rfl) (zz0 (az rfl ix (fun w hw => jv _ w)) ?_)))))))
   refine aB bO rfl rfl ak ?_
   refine ad (aC (bv (ay ?_)))
   refine eO eG rfl aJ ak (fun w' hw => ?_)
   try rw [hi]
   refine ⟨?_, hw.b0⟩
   (first | unfold jr | unfold ii | unfold fU ij)
   repeat' (first | rfl | (exfalso; first | (simp_all; done) | grind) | split)
  refine cd (aY (ac ?_))
  refine co () Front.nil (zz8 15 rfl) (o := (by show _ = _; unfold fU ij; repeat' (first | rfl | (exfalso; first | (simp_all; done) | grind) | split)))
 skip
 replace hi : fU op a b = ii op (aZ a) (aZ b) := hi
 change Tr _ _ [cellE b3 (bO.enc zeroS) 25, cellE b2 (bO.enc (aZ b)) 25, cellE b1 (bO.enc (aZ a)) 25] ([] ++ _) _
 refine cZ (ι := Unit) (fun u => fU op a b = jr op (aZ a) (aZ b)) (fun _ => Bg.of w) (fun u => [cellE b3 (bO.enc zeroS) 25, cellE b2 (bO.enc (aZ b)) 25, cellE b1 (bO.enc (aZ a)) 25]) (fun u => []) ?_ (fun u hi => ?_)
 ·skip
  refine ah (zz0 (aa rfl) (ad (aF (an (ah (zz0 (bA rfl rfl) (zz0 (ab rfl) (ad ?_))))))))
  apply dP
  ·exact rfl
  ·intro hO10
   try simp only [bs] at hO10
   refine ah (zz0 (bA rfl rfl) (zz0 (ab rfl) (ad ?_)))
   apply dP
   ·exact rfl
   ·intro hO11
    try simp only [bs] at hO11
    refine ah (zz0 (bA rfl rfl) (zz0 (ab rfl) (ad ?_)))
    apply dP
    ·exact rfl
    ·intro hO12
     try simp only [bs] at hO12
     refine ar (zz0 (bA rfl rfl) (zz0 (ab rfl) (ad ?_)))
     exact eD rfl (zz8 2 rfl)
    refine ac ?_
    exact eD rfl (zz8 3 rfl)
   refine ac ?_
   exact eD rfl (zz8 3 rfl)
  refine ac ?_
  refine au rfl ?_ ?_ <;> intro h13 <;> try simp only [bs] at h13
  ·refine ah (zz0 (az rfl eA (fun w hw => dK 0 1 1 w)) ?_)
   refine aB bO rfl rfl ak ?_
   refine ad (aC (bv (ay ?_)))
   refine eO eG rfl aJ ak (fun w' hw => ?_)
   try rw [hi]
   refine ⟨?_, hw.b0⟩
   (first | unfold jr | unfold ii | unfold fU ij)
   repeat' (first | rfl | (exfalso; first | (simp_all; done) | grind) | split)
  refine ah (zz0 (bA rfl rfl) (zz0 (ab rfl) (ad ?_)))
  refine au rfl ?_ ?_ <;> intro h14 <;> try simp only [bs] at h14
  ·refine ah (zz0 (zz2 (off := 1) (ft := 4) rfl ao rfl bS) ?_)
   refine zz0 (aH rfl cE) ?_
   refine zz0 (cP rfl) (zz0 (aa rfl) ?_)
   apply cH
   ·exact (rfl : _ = (4, 59, 63))
   ·exact rfl
   ·intro hT15; have hT15' := hT15
    try simp only [bs] at hT15'
    refine zz6 hT15 (zz2 (off := 1) (ft := 4) rfl ao rfl bS) ?_
    refine zz6 hT15 (aH rfl cE) ?_
    refine zz6 hT15 (cP rfl) (zz0 (aV rfl hT15 rfl) ?_)
    refine aD (ac ?_)
    exact aK (Sub.cons rfl (bD 4 rfl))
   ·intro hF15
    refine zz9 hF15 (zz9 hF15 (zz9 hF15 (zz0 (aU rfl hF15 rfl) ?_)))
    refine aD (ac ?_)
    exact aK (Sub.cons rfl (bD 4 rfl))
   refine zz0 (aa rfl) ?_
   apply cH
   ·exact (rfl : _ = (9, 64, 73))
   ·exact rfl
   ·intro hT16; have hT16' := hT16
    try simp only [bs] at hT16'
    refine zz6 hT16 (zz2 (off := 3) (ft := 23) rfl ao rfl ae) ?_
    refine zz6 hT16 (aH rfl am) ?_
    refine zz6 hT16 (eN rfl aS cD) (zz6 hT16 (zz2 (off := 3) (ft := 23) rfl ao rfl ae) ?_)
    refine zz6 hT16 (aH rfl am) ?_
    refine zz6 hT16 (eN rfl aS cD) (zz6 hT16 (pp rfl rfl (by omega)) ?_)
    refine zz6 hT16 (fX rfl rfl) (zz0 (aV rfl hT16 rfl) ?_)
    refine aD (ac ?_)
    exact aK (Sub.cons rfl (bD 9 rfl))
   ·intro hF16
    refine zz9 hF16 (zz9 hF16 (zz9 hF16 (zz9 hF16 (zz9 hF16 (zz9 hF16 (zz9 hF16 (zz9 hF16 (zz0 (aU rfl hF16 rfl) ?_))))))))
    refine aD (ac ?_)
    exact aK (Sub.cons rfl (bD 9 rfl))
   refine ad ?_
   refine au rfl ?_ ?_ <;> intro h17 <;> try simp only [bs] at h17
   ·refine an (fy 0 16 aP ?_)
    refine bE ?_
    refine aw (zz2 (off := 2) (ft := 23) rfl ao rfl ae) ?_
    refine aw (aH rfl am) ?_
    refine aw (zz2 (off := 2) (ft := 23) rfl ao rfl ae) ?_
    refine aw (aH rfl am) ?_
    refine aw (gJ rfl rfl) ?_
    refine aw (zz2 (off := 3) (ft := 23) rfl ao rfl ae) ?_
    refine aw (aH rfl am) ?_
    refine aw (zz2 (off := 3) (ft := 23) rfl ao rfl ae) ?_
    refine aw (aH rfl am) ?_
    refine aw (gJ rfl rfl) ?_
    refine aw (zz2 (off := 4) (ft := 23) rfl ao rfl ae) ?_
    refine aw (aH rfl am) ?_
    refine aw (zz2 (off := 4) (ft := 23) rfl ao rfl ae) ?_
    refine aw (aH rfl am) ?_
    refine aw (az rfl nL (fun w hw => wR _ _ w)) ?_
    refine aw (az rfl eA (fun w hw => dK _ _ _ w)) ?_
    refine bH ?_
    refine aB bO rfl rfl ak ?_
    refine ad (aC (bv (ay ?_)))
    refine eO eG rfl aJ ak (fun w' hw => ?_)
    try rw [hi]
    refine ⟨?_, hw.b0⟩
    (first | unfold jr | unfold ii | unfold fU ij)
    repeat' (first | rfl | (exfalso; first | (simp_all; done) | grind) | split)
   refine cd (aY (ac ?_))
   refine co () Front.nil (zz8 13 rfl) (o := (by show _ = _; rw [hi]; unfold ii; repeat' (first | rfl | (exfalso; first | (simp_all; done) | grind) | split)))
  refine ah (zz0 (bA rfl rfl) (zz0 (ab rfl) (ad ?_)))
  refine au rfl ?_ ?_ <;> intro h18 <;> try simp only [bs] at h18
  ·refine ah (zz0 (zz2 (off := 1) (ft := 4) rfl ao rfl bS) ?_)
   refine zz0 (aH rfl cE) ?_
   refine zz0 (cP rfl) (zz0 (aa rfl) ?_)
   apply cH
   ·exact (rfl : _ = (4, 95, 99))
   ·exact rfl
   ·intro hT19; have hT19' := hT19
    try simp only [bs] at hT19'
    refine zz6 hT19 (zz2 (off := 1) (ft := 4) rfl ao rfl bS) ?_
    refine zz6 hT19 (aH rfl cE) ?_
    refine zz6 hT19 (cP rfl) (zz0 (aV rfl hT19 rfl) ?_)
    refine aD (ac ?_)
    exact aK (Sub.cons rfl (bD 4 rfl))
   ·intro hF19
    refine zz9 hF19 (zz9 hF19 (zz9 hF19 (zz0 (aU rfl hF19 rfl) ?_)))
    refine aD (ac ?_)
    exact aK (Sub.cons rfl (bD 4 rfl))
   refine zz0 (aa rfl) ?_
   apply cH
   ·exact (rfl : _ = (6, 100, 106))
   ·exact rfl
   ·intro hT20; have hT20' := hT20
    try simp only [bs] at hT20'
    refine zz6 hT20 (zz2 (off := 2) (ft := 23) rfl ao rfl ae) ?_
    refine zz6 hT20 (aH rfl am) ?_
    refine zz6 hT20 (zz2 (off := 3) (ft := 23) rfl ao rfl ae) ?_
    refine zz6 hT20 (aH rfl am) ?_
    refine zz6 hT20 (nj rfl rfl) ?_
    refine zz0 (aV rfl hT20 rfl) ?_
    refine aD (ac ?_)
    exact aK (Sub.cons rfl (bD 6 rfl))
   ·intro hF20
    refine zz9 hF20 (zz9 hF20 (zz9 hF20 (zz9 hF20 (zz9 hF20 (zz0 (aU rfl hF20 rfl) ?_)))))
    refine aD (ac ?_)
    exact aK (Sub.cons rfl (bD 6 rfl))
   refine ad ?_
   refine au rfl ?_ ?_ <;> intro h21 <;> try simp only [bs] at h21
   ·refine an (fy 0 16 aP ?_)
    refine bE ?_
    refine aw (zz2 (off := 2) (ft := 23) rfl ao rfl ae) ?_
    refine aw (aH rfl am) ?_
    refine aw (zz2 (off := 3) (ft := 23) rfl ao rfl ae) ?_
    refine aw (aH rfl am) ?_
    refine aw (fk rfl rfl) ?_
    refine aw (zz2 (off := 3) (ft := 23) rfl ao rfl ae) ?_
    refine aw (aH rfl am) ?_
    refine aw (zz2 (off := 2) (ft := 23) rfl ao rfl ae) ?_
    refine aw (aH rfl am) ?_
    refine aw (fk rfl rfl) ?_
    refine aw (zz2 (off := 4) (ft := 23) rfl ao rfl ae) ?_
    refine aw (aH rfl am) ?_
    refine aw (zz2 (off := 4) (ft := 23) rfl ao rfl ae) ?_
    refine aw (aH rfl am) ?_
    refine aw (az rfl nL (fun w hw => wR _ _ w)) ?_
    refine aw (az rfl eA (fun w hw => dK _ _ _ w)) ?_
    refine bH ?_
    refine aB bO rfl rfl ak ?_
    refine ad (aC (bv (ay ?_)))
    refine eO eG rfl aJ ak (fun w' hw => ?_)
    try rw [hi]
    refine ⟨?_, hw.b0⟩
    (first | unfold jr | unfold ii | unfold fU ij)
    repeat' (first | rfl | (exfalso; first | (simp_all; done) | grind) | split)
   refine cd (aY (ac ?_))
   refine co () Front.nil (zz8 15 rfl) (o := (by show _ = _; rw [hi]; unfold ii; repeat' (first | rfl | (exfalso; first | (simp_all; done) | grind) | split)))
  refine cd (aY (ac ?_))
  refine co () Front.nil (zz8 8 rfl) (o := (by show _ = _; rw [hi]; unfold ii; repeat' (first | rfl | (exfalso; first | (simp_all; done) | grind) | split)))
 skip
 replace hi : fU op a b = jr op (aZ a) (aZ b) := hi
 change Tr _ _ [cellE b3 (bO.enc zeroS) 25, cellE b2 (bO.enc (aZ b)) 25, cellE b1 (bO.enc (aZ a)) 25] ([] ++ _) _
 refine an (ah (zz0 (bG rfl aJ ak) ?_))
 refine zz0 (az rfl Tryz.call324 (fun w hw => rE _ w)) ?_
 refine zz0 (cP rfl) (ad ?_)
 refine au rfl ?_ ?_ <;> intro h22 <;> try simp only [bs] at h22
 ·refine ah (zz0 (az rfl fO (fun w hw => jP w)) ?_)
  refine aB bO rfl rfl ak ?_
  refine ad (aC (ay ?_))
  refine eO eG rfl aJ ak (fun w' hw => ?_)
  try rw [hi]
  refine ⟨?_, hw.b0⟩
  (first | unfold jr | unfold ii | unfold fU ij)
  repeat' (first | rfl | (exfalso; first | (simp_all; done) | grind) | split)
 refine bC (an (ah (zz0 (aa rfl) (ad (aF (ah (zz0 (bA rfl rfl) (zz0 (ab rfl) (aD ?_)))))))))
 refine ac ?_
 refine au rfl ?_ ?_ <;> intro h23 <;> try simp only [bs] at h23
 ·refine ah (zz0 (bG rfl aJ ak) ?_)
  refine zz0 (zz2 (off := 2) (ft := 23) rfl ao rfl ae) ?_
  refine zz0 (aH rfl am) ?_
  refine zz0 (az rfl Tryz.call325 (fun w hw => vq _ _ w)) ?_
  refine aB bO rfl rfl ak ?_
  refine ad (aC (bv (ay ?_)))
  refine eO eG rfl aJ ak (fun w' hw => ?_)
  try rw [hi]
  refine ⟨?_, hw.b0⟩
  (first | unfold jr | unfold ii | unfold fU ij)
  repeat' (first | rfl | (exfalso; first | (simp_all; done) | grind) | split)
 refine ah (zz0 (bA rfl rfl) (zz0 (ab rfl) (ad ?_)))
 refine au rfl ?_ ?_ <;> intro h24 <;> try simp only [bs] at h24
 ·refine an (fy 0 5 aP ?_)
  refine bE ?_
  refine aw (bG rfl aJ ak) ?_
  refine aw (zz2 (off := 2) (ft := 23) rfl ao rfl ae) ?_
  refine aw (aH rfl am) ?_
  refine aw (az rfl Tryz.call306 (fun w hw => xY 1 _ w)) ?_
  refine aw (az rfl Tryz.call325 (fun w hw => vq _ _ w)) ?_
  refine bH ?_
  refine aB bO rfl rfl ak ?_
  refine ad (aC (bv (ay ?_)))
  refine eO eG rfl aJ ak (fun w' hw => ?_)
  try rw [hi]
  refine ⟨?_, hw.b0⟩
  (first | unfold jr | unfold ii | unfold fU ij)
  repeat' (first | rfl | (exfalso; first | (simp_all; done) | grind) | split)
 refine ah (zz0 (bA rfl rfl) (zz0 (ab rfl) (ad ?_)))
 refine au rfl ?_ ?_ <;> intro h25 <;> try simp only [bs] at h25
 ·refine ah (zz0 (bG rfl aJ ak) ?_)
  refine zz0 (zz2 (off := 2) (ft := 23) rfl ao rfl ae) ?_
  refine zz0 (aH rfl am) ?_
  refine zz0 (az rfl Tryz.call326 (fun w hw => Cf _ _ w)) ?_
  refine aB bO rfl rfl ak ?_
  refine ad (aC (bv (ay ?_)))
  refine eO eG rfl aJ ak (fun w' hw => ?_)
  try rw [hi]
  refine ⟨?_, hw.b0⟩
  (first | unfold jr | unfold ii | unfold fU ij)
  repeat' (first | rfl | (exfalso; first | (simp_all; done) | grind) | split)
 refine ah (zz0 (bA rfl rfl) (zz0 (ab rfl) (ad ?_)))
 refine au rfl ?_ ?_ <;> intro h26 <;> try simp only [bs] at h26
 ·refine ah (zz0 (zz2 (off := 1) (ft := 4) rfl ao rfl bS) ?_)
  refine zz0 (aH rfl cE) ?_
  refine zz0 (cP rfl) (ad ?_)
  refine au rfl ?_ ?_ <;> intro h27 <;> try simp only [bs] at h27
  ·refine an (fy 0 11 aP ?_)
   refine bE ?_
   refine aw (zz2 (off := 2) (ft := 23) rfl ao rfl ae) ?_
   refine aw (aH rfl am) ?_
   refine aw (zz2 (off := 2) (ft := 23) rfl ao rfl ae) ?_
   refine aw (aH rfl am) ?_
   refine aw (az rfl Tryz.call307 (fun w hw => tK _ _ w)) ?_
   refine aw (zz2 (off := 3) (ft := 23) rfl ao rfl ae) ?_
   refine aw (aH rfl am) ?_
   refine aw (zz2 (off := 2) (ft := 23) rfl ao rfl ae) ?_
   refine aw (aH rfl am) ?_
   refine aw (az rfl Tryz.call307 (fun w hw => tK _ _ w)) ?_
   refine aw (az rfl eA (fun w hw => dK (qD (aZ a).lo (od (aZ b).lo)) (qD (aZ a).hi (od (aZ b).lo)) 1 w)) ?_
   refine bH ?_
   refine aB bO rfl rfl ak ?_
   refine ad (aC (bv (ay ?_)))
   refine eO eG rfl aJ ak (fun w' hw => ?_)
   try rw [hi]
   refine ⟨?_, hw.b0⟩
   (first | unfold jr | unfold ii | unfold fU ij)
   repeat' (first | rfl | (exfalso; first | (simp_all; done) | grind) | split)
  refine cd (aY (ac (ah (zz0 (az rfl fO (fun w hw => jP w)) ?_))))
  refine aB bO rfl rfl ak ?_
  refine ad (aC ?_)
  refine eO eG rfl aJ ak (fun w' hw => ?_)
  try rw [hi]
  refine ⟨?_, hw.b0⟩
  (first | unfold jr | unfold ii | unfold fU ij)
  repeat' (first | rfl | (exfalso; first | (simp_all; done) | grind) | split)
 refine cd (aY (ac (ah (zz0 (az rfl fO (fun w hw => jP w)) ?_))))
 refine aB bO rfl rfl ak ?_
 refine ad (aC ?_)
 refine eO eG rfl aJ ak (fun w' hw => ?_)
 try rw [hi]
 refine ⟨?_, hw.b0⟩
 (first | unfold jr | unfold ii | unfold fU ij)
 repeat' (first | rfl | (exfalso; first | (simp_all; done) | grind) | split)
theorem qP (a b : VSet) (w : World) :
  Cr Tryz.prog 300 #[.agg (bO.enc a).toArray, .agg (bO.enc b).toArray] w (.agg (bO.enc (lz a b)).toArray) := by
 refine enter Tryz.func300 rfl Tryz.ntmps300 rfl ?_
 refine ah ?_
 refine dG rfl rfl (fun b1 => ?_)
 refine dG rfl rfl (fun b2 => ?_)
 refine dC cG rfl (fun b3 => ?_)
 refine ad (an (fy 0 4 aP ?_))
 refine bE ?_
 refine aw (bG rfl aJ ak) ?_
 refine aw (az rfl gg (fun w hw => g4 a w)) ?_
 refine aw (bG rfl aJ ak) ?_
 refine aw (az rfl gg (fun w hw => g4 b w)) ?_
 refine bH ?_
 refine aB bO rfl rfl ak ?_
 refine aB bO rfl rfl ak ?_
 refine ad (an (aF (ah (zz0 (zz2 (off := 1) (ft := 4) rfl ao rfl bS) ?_))))
 refine zz0 (aH rfl cE) ?_
 refine zz0 (ab rfl) (ad ?_)
 refine au rfl ?_ ?_ <;> intro h4 <;> try simp only [bs] at h4
 ·refine ah (zz0 (bG rfl aJ ak) ?_)
  refine aB bO rfl rfl ak ?_
  refine ad (aC (bv (ay ?_)))
  refine eO jx rfl aJ ak (fun w' hw => ?_)
  try rw [hme]
  refine ⟨?_, hw.b0⟩
  (first | unfold qQ vy | unfold lz oz)
  repeat' (first | rfl | (exfalso; first | (simp_all; done) | grind) | split)
 refine ah (zz0 (zz2 (off := 1) (ft := 4) rfl ao rfl bS) ?_)
 refine zz0 (aH rfl cE) ?_
 refine zz0 (ab rfl) (ad ?_)
 refine au rfl ?_ ?_ <;> intro h5 <;> try simp only [bs] at h5
 ·refine ah (zz0 (bG rfl aJ ak) ?_)
  refine aB bO rfl rfl ak ?_
  refine ad (aC (bv (ay ?_)))
  refine eO jx rfl aJ ak (fun w' hw => ?_)
  try rw [hme]
  refine ⟨?_, hw.b0⟩
  (first | unfold qQ vy | unfold lz oz)
  repeat' (first | rfl | (exfalso; first | (simp_all; done) | grind) | split)
 refine cd (aY (ac ?_))
 refine cZ (ι := Nat × Nat) (fun ⟨p, q⟩ => True) (fun _ => Bg.of w) (fun ⟨p, q⟩ => [cellE q (bO.enc (aZ b)) 25, cellE p (bO.enc (aZ a)) 25, cellE b3 (bO.enc zeroS) 25, cellE b2 (bO.enc (aZ b)) 25, cellE b1 (bO.enc (aZ a)) 25]) (fun ⟨p, q⟩ => [(6, .pointer (some ⟨q, 0, none⟩)), (5, .pointer (some ⟨p, 0, none⟩))]) ?_ (fun i hi => ?_)
 ·skip
  refine dU ([cellE b3 (bO.enc zeroS) 25, cellE b2 (bO.enc (aZ b)) 25, cellE b1 (bO.enc (aZ a)) 25]) 6 rfl aP ?_
  refine zz4 0 rfl (bG rfl aJ ak) ?_
  refine zz4 1 rfl (bG rfl aJ ak) ?_
  refine dw [2, 3] (fun iq hq => ?_)
  rcases List.mem_cons.1 hq with rfl | hq
  ·skip
   refine bF rfl ?_
   refine dC cG rfl (fun b6 => ?_)
   refine bV ?_
   refine dw [3] (fun iq hq => ?_)
   obtain rfl := List.mem_singleton.1 hq
   refine bF rfl ?_
   refine dC cG rfl (fun b7 => ?_)
   refine bV ?_
   refine dw [4] (fun iq hq => ?_)
   obtain rfl := List.mem_singleton.1 hq
   refine bF rfl ?_
   refine aB bO rfl rfl ak ?_
   refine bV ?_
   refine dw [5] (fun iq hq => ?_)
   obtain rfl := List.mem_singleton.1 hq
   refine bF rfl ?_
   refine aB bO rfl rfl ak ?_
   refine bV ?_
   refine iz ?_
   refine ac ?_
   refine co (_, _) (Front.c (Front.c Front.nil)) (zz8 4 rfl) (o := trivial)
  obtain rfl := List.mem_singleton.1 hq
  refine bF rfl ?_
  refine dC cG rfl (fun b8 => ?_)
  refine bV ?_
  refine dw [2] (fun iq hq => ?_)
  obtain rfl := List.mem_singleton.1 hq
  refine bF rfl ?_
  refine dC cG rfl (fun b9 => ?_)
  refine bV ?_
  refine dw [4] (fun iq hq => ?_)
  obtain rfl := List.mem_singleton.1 hq
  refine bF rfl ?_
  refine aB bO rfl rfl ak ?_
  refine bV ?_
  refine dw [5] (fun iq hq => ?_)
  obtain rfl := List.mem_singleton.1 hq
  refine bF rfl ?_
  refine aB bO rfl rfl ak ?_
  refine bV ?_
  refine iz ?_
  refine ac ?_
  refine co (_, _) (Front.c (Front.c Front.nil)) (zz8 4 rfl) (o := trivial)
 obtain ⟨p, q⟩ := i
 replace hi : True := hi
 change Tr _ _ [cellE q (bO.enc (aZ b)) 25, cellE p (bO.enc (aZ a)) 25, cellE b3 (bO.enc zeroS) 25, cellE b2 (bO.enc (aZ b)) 25, cellE b1 (bO.enc (aZ a)) 25] ([(6, .pointer (some ⟨q, 0, none⟩)), (5, .pointer (some ⟨p, 0, none⟩))] ++ _) _
 refine cZ (ι := VSet × VSet) (fun ⟨fe, ot⟩ => (aZ a).top = false ∧ lz a b = qQ (aZ a) (aZ b) fe ot ∧ (64 < ff (aZ a) ∨ fe = aZ a)) (fun _ => Bg.of w) (fun ⟨fe, ot⟩ => [cellE q (bO.enc ot) 25, cellE p (bO.enc fe) 25, cellE b3 (bO.enc zeroS) 25, cellE b2 (bO.enc (aZ b)) 25, cellE b1 (bO.enc (aZ a)) 25]) (fun ⟨fe, ot⟩ => []) ?_ (fun i hi => ?_)
 ·skip
  refine ah (zz0 (bG rfl aJ ak) ?_)
  refine zz0 (az rfl Tryz.call100 (fun w hw => yN _ w)) ?_
  refine zz0 (fg rfl rfl) (ad ?_)
  refine au rfl ?_ ?_ <;> intro h10 <;> try simp only [bs] at h10
  ·refine dU ([cellE b3 (bO.enc zeroS) 25, cellE b2 (bO.enc (aZ b)) 25, cellE b1 (bO.enc (aZ a)) 25]) 4 rfl aP ?_
   refine zz4 0 rfl (bG rfl aJ ak) ?_
   refine zz4 1 rfl (bG rfl aJ ak) ?_
   refine dw [2] (fun iq hq => ?_)
   obtain rfl := List.mem_singleton.1 hq
   refine bF rfl ?_
   refine aB bO rfl rfl ak ?_
   refine bV ?_
   refine dw [3] (fun iq hq => ?_)
   obtain rfl := List.mem_singleton.1 hq
   refine bF rfl ?_
   refine aB bO rfl rfl ak ?_
   refine bV ?_
   refine iz ?_
   refine ac ?_
   refine co (aZ b, aZ a) Front.nil (zz8 5 rfl) (o := ⟨by simp_all, by unfold lz oz; (repeat' (first | rfl | (exfalso; first | (simp_all; done) | grind) | split)), .inl (by assumption)⟩)
  refine bC ?_
  refine co (aZ a, aZ b) Front.nil (zz8 3 rfl) (o := ⟨by simp_all, by unfold lz oz; (repeat' (first | rfl | (exfalso; first | (simp_all; done) | grind) | split)), .inr rfl⟩)
 obtain ⟨fe, ot⟩ := i
 replace hi : (aZ a).top = false ∧ lz a b = qQ (aZ a) (aZ b) fe ot ∧ (64 < ff (aZ a) ∨ fe = aZ a) := hi
 change Tr _ _ [cellE q (bO.enc ot) 25, cellE p (bO.enc fe) 25, cellE b3 (bO.enc zeroS) 25, cellE b2 (bO.enc (aZ b)) 25, cellE b1 (bO.enc (aZ a)) 25] ([] ++ _) _
 obtain ⟨hat, hme, hfe⟩ := hi
 refine an (ah (zz0 (bG rfl aJ ak) ?_))
 refine ic (fun V => .tuple #[V, .int .i64 (eY fe).2]) rfl Tryz.call41 (fun w hw => sF fe w) rfl (fun VE => ?_)
 refine zz0 (aa rfl) (zz0 (aN rfl rfl) (zz0 (aN rfl rfl) (zz0 (ab rfl) (zz0 (ab rfl) (ad (an ?_))))))
 have hel : (eY fe).2 = 0 → (eY fe).1.length ≤ 64 := vM
 refine ar (zz0 (aa rfl) (zz0 (bA rfl rfl) (ad ?_)))
 refine au rfl ?_ ?_ <;> intro h11 <;> try simp only [bs] at h11
 ·refine ah (zz0 (az rfl je (fun w hw => jR w)) ?_)
  refine dC cG rfl (fun b12 => ?_)
  refine aB bO rfl rfl ak ?_
  refine ad (an (an ?_))
  have hel2 := hel (by assumption)
  refine ar (zz0 (aa rfl) (zz0 (lQ rfl af) ?_))
  refine zz0 (aa rfl) (ad (aF ?_))
  refine bL (ι := Nat) (fun k => k ≤ (eY fe).1.length) (fun _ => _) (fun k => [cellE b12 (bO.enc (lY ot ((eY fe).1.take k) emptyS)) 25, rowE VE 23 al (eY fe).1, cellE q (bO.enc ot) 25, cellE p (bO.enc fe) 25, cellE b3 (bO.enc zeroS) 25, cellE b2 (bO.enc (aZ b)) 25, cellE b1 (bO.enc (aZ a)) 25]) (fun k => [(44, .int .i64 (k : Nat))]) (fun k => (eY fe).1.length - k) 0 (Nat.zero_le _) (Front.c Front.nil) (by repeat' constructor) rfl (fun k hi m hm => ?_)
  replace hi : k ≤ (eY fe).1.length := hi
  replace hm : m = (eY fe).1.length - k := hm
  change Tr _ _ [cellE b12 (bO.enc (lY ot ((eY fe).1.take k) emptyS)) 25, rowE VE 23 al (eY fe).1, cellE q (bO.enc ot) 25, cellE p (bO.enc fe) 25, cellE b3 (bO.enc zeroS) 25, cellE b2 (bO.enc (aZ b)) 25, cellE b1 (bO.enc (aZ a)) 25] ([(44, .int .i64 (k : Nat))] ++ _) _
  refine ah (zz0 (bT rfl rfl) (ad (an ?_)))
  refine au rfl ?_ ?_ <;> intro h13 <;> try simp only [bs] at h13
  ·refine bC (an (aF (ah (zz0 (zz7 rfl rfl af ae) ?_))))
   refine zz0 (er rfl am) ?_
   refine zz0 (ab rfl) (aI (zz0 (bG rfl aJ ak) ?_))
   refine zz0 (aa rfl) (zz0 (az rfl pj (fun w hw => l8 ot _ w)) ?_)
   refine ad ?_
   refine au rfl ?_ ?_ <;> intro h14 <;> try simp only [bs] at h14
   ·refine fy 0 4 aP ?_
    refine bE ?_
    refine aw (bG rfl aJ ak) ?_
    refine aw (aa rfl) (aw (az rfl ix (fun w hw => jv _ w)) ?_)
    refine aw (az rfl Tryz.call166 (fun w hw => wL _ _ w)) ?_
    refine bH ?_
    refine aB bO rfl rfl ak ?_
    refine aD (aY (ac (ar (zz0 (cB rfl rfl) ?_))))
    refine zz0 (aa rfl) (ad ?_)
    rw [DZ (by omega) (by assumption)]
    refine cK (k + 1) (Front.c Front.nil) (zz8 14 rfl) (o := (by show k + 1 ≤ _; omega))
   refine cd (aY (ac (ar (zz0 (cB rfl rfl) ?_))))
   refine zz0 (aa rfl) (ad ?_)
   rw [FC (o := ot) (k := k) (by omega) (by assumption)]
   refine cK (k + 1) (Front.c Front.nil) (zz8 10 rfl) (o := (by show k + 1 ≤ _; omega))
  refine bJ (aG (aG (bj (ac (an ?_)))))
  obtain rfl : k = (eY fe).1.length := by omega
  rw [List.take_length]
  refine ar (zz0 (bG rfl aJ ak) ?_)
  refine aB bO rfl rfl ak ?_
  refine ad (aC (ay ?_))
  refine eO jx rfl aJ ak (fun w' hw => ?_)
  try rw [hme]
  refine ⟨?_, hw.b0⟩
  (first | unfold qQ vy | unfold lz oz)
  repeat' (first | rfl | (exfalso; first | (simp_all; done) | grind) | split)
 refine bC (an ?_)
 have hst0 : (aZ a).st ≠ 0 := G5 (jL a) (hfe.elim id (fun e => e ▸ Es (by assumption))) hat
 have hfb := FI (aZ a) (kZ (aZ a).lo (aZ b).lo) hst0
 have hz1 := tZ hst0
 have hz2 := (aZ a).st.toNat_lt
 have hz3 := (kZ (aZ a).lo (aZ b).lo - (aZ a).lo).toNat_lt
 have hz4 := (aZ a).lo.toNat_lt
 refine gZ aP ?_
 refine aw (zz2 (off := 2) (ft := 23) rfl ao rfl ae) ?_
 refine aw (aH rfl am) ?_
 refine aw (zz2 (off := 2) (ft := 23) rfl ao rfl ae) ?_
 refine aw (aH rfl am) ?_
 refine aw (oV rfl rfl) ?_
 refine aw (zz2 (off := 3) (ft := 23) rfl ao rfl ae) ?_
 refine aw (aH rfl am) ?_
 refine aw (zz2 (off := 3) (ft := 23) rfl ao rfl ae) ?_
 refine aw (aH rfl am) ?_
 refine aw (oU rfl rfl) ?_
 refine aw (ab rfl) (aw (ab rfl) (bH ?_))
 refine ac (an ?_)
 simp only [oy, oC]
 refine gZ aP ?_
 refine aw (zz2 (off := 2) (ft := 23) rfl ao rfl ae) ?_
 refine aw (aH rfl am) ?_
 refine aw (eN rfl aS cD) (aw (aa rfl) (aw (zz2 (off := 2) (ft := 23) rfl ao rfl ae) ?_))
 refine aw (aH rfl am) ?_
 refine aw (fk rfl rfl) ?_
 refine aw (eN rfl aS cD) (aw (zz2 (off := 4) (ft := 23) rfl ao rfl ae) ?_)
 refine aw (aH rfl am) ?_
 refine aw (eN rfl aS cD) (aw (pp rfl rfl (by omega)) ?_)
 refine aw (Bu rfl rfl (by omega)) ?_
 refine aw (zz2 (off := 4) (ft := 23) rfl ao rfl ae) ?_
 refine aw (aH rfl am) ?_
 refine aw (eN rfl aS cD) (aw (Gn rfl rfl (by omega)) ?_)
 refine aw (zz2 (off := 4) (ft := 23) rfl ao rfl ae) ?_
 refine aw (aH rfl am) ?_
 refine aw (eN rfl aS cD) (aw (Bz rfl rfl (by omega)) ?_)
 refine aw (pp rfl rfl (by omega)) ?_
 refine aw (ab rfl) (bH ?_)
 refine ac (an (an ?_))
 have hfe1 : (aZ a).lo.toNat + (((kZ (aZ a).lo (aZ b).lo - (aZ a).lo).toNat : Int) + (aZ a).st.toNat - 1) / ((aZ a).st.toNat : Int) * (aZ a).st.toNat = rU (aZ a) (kZ (aZ a).lo (aZ b).lo) := rfl
 rw [hfe1]
 refine ar (zz0 (aa rfl) (zz0 (aa rfl) (zz0 (eN rfl aS cD) (zz0 (fg rfl rfl) (ad ?_)))))
 refine au rfl ?_ ?_ <;> intro h15 <;> try simp only [bs] at h15
 ·refine ah (zz0 (az rfl je (fun w hw => jR w)) ?_)
  refine aB bO rfl rfl ak ?_
  refine ad (aC (ay ?_))
  refine eO jx rfl aJ ak (fun w' hw => ?_)
  try rw [hme]
  refine ⟨?_, hw.b0⟩
  (first | unfold qQ vy | unfold lz oz)
  repeat' (first | rfl | (exfalso; first | (simp_all; done) | grind) | split)
 refine dz (zz0 (aa rfl) (zz0 (gU rfl cD aS) (zz0 (aa rfl) (zz0 (zz2 (off := 4) (ft := 23) rfl ao rfl ae) ?_))))
 refine zz0 (aH rfl am) ?_
 refine zz0 (az rfl eA (fun w hw => dK _ _ _ w)) ?_
 refine aB bO rfl rfl ak ?_
 refine ad (aC ?_)
 refine eO jx rfl aJ ak (fun w' hw => ?_)
 try rw [hme]
 refine ⟨?_, hw.b0⟩
 (first | unfold qQ vy | unfold lz oz)
 repeat' (first | rfl | (exfalso; first | (simp_all; done) | grind) | split)
theorem CZ (a b : VSet) (w : World) :
  Cr Tryz.prog 227 #[.agg (bO.enc a).toArray, .agg (bO.enc b).toArray] w (.agg (bO.enc (lw a b)).toArray) := by
 refine enter Tryz.func227 rfl Tryz.ntmps227 rfl ?_
 refine ah ?_
 refine dG rfl rfl (fun b1 => ?_)
 refine dG rfl rfl (fun b2 => ?_)
 refine dC cG rfl (fun b3 => ?_)
 refine ad (an (fy 0 4 aP ?_))
 refine bE ?_
 refine aw (bG rfl aJ ak) ?_
 refine aw (az rfl gg (fun w hw => g4 a w)) ?_
 refine aw (bG rfl aJ ak) ?_
 refine aw (az rfl gg (fun w hw => g4 b w)) ?_
 refine bH ?_
 refine aB bO rfl rfl ak ?_
 refine aB bO rfl rfl ak ?_
 refine ad (an (aF (ah (zz0 (bG rfl aJ ak) ?_))))
 refine zz0 (bG rfl aJ ak) ?_
 refine zz0 (az rfl Tryz.call271 (fun w hw => BF _ _ w)) ?_
 refine zz0 (ab rfl) (ad ?_)
 refine au rfl ?_ ?_ <;> intro h4 <;> try simp only [bs] at h4
 ·refine ah (zz0 (bG rfl aJ ak) ?_)
  refine aB bO rfl rfl ak ?_
  refine ad (aC (bv (ay ?_)))
  refine eO fZ rfl aJ ak (fun w' hw => ?_)
  refine ⟨?_, hw.b0⟩
  unfold lw kV nq
  repeat' (first | rfl | (exfalso; first | (simp_all; done) | grind) | split)
 refine ah (zz0 (zz2 (off := 0) (ft := 4) rfl ao rfl bS) ?_)
 refine zz0 (aH rfl cE) ?_
 refine zz0 (ab rfl) (ad ?_)
 refine au rfl ?_ ?_ <;> intro h5 <;> try simp only [bs] at h5
 ·refine ah (zz0 (bG rfl aJ ak) ?_)
  refine aB bO rfl rfl ak ?_
  refine ad (aC (bv (ay ?_)))
  refine eO fZ rfl aJ ak (fun w' hw => ?_)
  refine ⟨?_, hw.b0⟩
  unfold lw kV nq
  repeat' (first | rfl | (exfalso; first | (simp_all; done) | grind) | split)
 refine ah (zz0 (zz2 (off := 1) (ft := 4) rfl ao rfl bS) ?_)
 refine zz0 (aH rfl cE) ?_
 refine zz0 (aa rfl) ?_
 apply dV
 ·exact (rfl : _ = (3, 24, 27))
 ·exact rfl
 ·intro hF6; have hF6' := hF6
  try simp only [bs] at hF6'
  refine zz6 hF6 (zz2 (off := 1) (ft := 4) rfl ao rfl bS) ?_
  refine zz6 hF6 (aH rfl cE) ?_
  refine zz0 (aU rfl hF6 rfl) ?_
  refine aD (ac ?_)
  exact aK (Sub.cons rfl (bD 3 rfl))
 ·intro hT6
  refine zz9 hT6 (zz9 hT6 (zz0 (aV rfl hT6 rfl) ?_))
  refine aD (ac ?_)
  exact aK (Sub.cons rfl (bD 3 rfl))
 refine zz0 (ab rfl) (ad ?_)
 refine au rfl ?_ ?_ <;> intro h7 <;> try simp only [bs] at h7
 ·refine ah (zz0 (az rfl fO (fun w hw => jP w)) ?_)
  refine aB bO rfl rfl ak ?_
  refine ad (aC (bv (ay ?_)))
  refine eO fZ rfl aJ ak (fun w' hw => ?_)
  refine ⟨?_, hw.b0⟩
  unfold lw kV nq
  repeat' (first | rfl | (exfalso; first | (simp_all; done) | grind) | split)
 refine cd (aY (ac (ah (zz0 (bG rfl aJ ak) ?_))))
 refine zz0 (bG rfl aJ ak) ?_
 refine zz0 (az rfl Tryz.call166 (fun w hw => wL _ _ w)) ?_
 refine dC cG rfl (fun b8 => ?_)
 refine aB bO rfl rfl ak ?_
 refine ad (an (ah (zz0 (zz2 (off := 1) (ft := 4) rfl ao rfl bS) ?_)))
 refine zz0 (aH rfl cE) ?_
 refine ad ?_
 refine au rfl ?_ ?_ <;> intro h9 <;> try simp only [bs] at h9
 ·refine ah (zz0 (bG rfl aJ ak) ?_)
  refine aB bO rfl rfl ak ?_
  refine ad (aC (ay ?_))
  refine eO fZ rfl aJ ak (fun w' hw => ?_)
  refine ⟨?_, hw.b0⟩
  unfold lw kV nq
  repeat' (first | rfl | (exfalso; first | (simp_all; done) | grind) | split)
 refine bC (an (gZ aP ?_))
 refine aw (zz2 (off := 2) (ft := 23) rfl ao rfl ae) ?_
 refine aw (aH rfl am) ?_
 refine aw (zz2 (off := 3) (ft := 23) rfl ao rfl ae) ?_
 refine aw (aH rfl am) ?_
 refine aw (ab rfl) (aw (ab rfl) (bH ?_))
 refine ac (an (ah (zz0 (aa rfl) (zz0 (zz2 (off := 2) (ft := 23) rfl ao rfl ae) ?_))))
 refine zz0 (aH rfl am) ?_
 refine zz0 (iu rfl rfl) ?_
 refine ad ?_
 refine au rfl ?_ ?_ <;> intro h10 <;> try simp only [bs] at h10
 ·have hst0 := C0 (by assumption) (by assumption) (by simp_all) (by simp_all) (by assumption) (by assumption)
  refine ar (zz0 (aa rfl) (zz0 (zz2 (off := 4) (ft := 23) rfl ao rfl ae) ?_))
  refine zz0 (aH rfl am) ?_
  refine zz0 (nf rfl rfl (by first | decide | assumption)) ?_
  refine zz0 (ab rfl) (ad (an (ah (zz0 (aa rfl) (zz0 (zz2 (off := 3) (ft := 23) rfl ao rfl ae) ?_)))))
  refine zz0 (aH rfl am) ?_
  refine zz0 (kD rfl rfl) ?_
  refine ad ?_
  refine au rfl ?_ ?_ <;> intro h11 <;> try simp only [bs] at h11
  ·refine ar (zz0 (ab rfl) (aI (zz0 (aa rfl) (zz0 (aa rfl) (zz0 (zz2 (off := 4) (ft := 23) rfl ao rfl ae) ?_)))))
   refine zz0 (aH rfl am) ?_
   refine zz0 (az rfl eA (fun w hw => dK ((gA (aZ a) (aZ b)).lo % (gA (aZ a) (aZ b)).st) 4294967295 (gA (aZ a) (aZ b)).st w)) ?_
   refine aB bO rfl rfl ak ?_
   refine ad (aC ?_)
   refine eO fZ rfl aJ ak (fun w' hw => ?_)
   refine ⟨?_, hw.b0⟩
   unfold lw kV nq
   repeat' (first | rfl | (exfalso; first | (simp_all; done) | grind) | split)
  refine dz (zz0 (aa rfl) (zz0 (aa rfl) (zz0 (zz2 (off := 4) (ft := 23) rfl ao rfl ae) ?_)))
  refine zz0 (aH rfl am) ?_
  refine zz0 (az rfl eA (fun w hw => dK ((gA (aZ a) (aZ b)).lo % (gA (aZ a) (aZ b)).st) (gA (aZ a) (aZ b)).hi (gA (aZ a) (aZ b)).st w)) ?_
  refine aB bO rfl rfl ak ?_
  refine ad (aC ?_)
  refine eO fZ rfl aJ ak (fun w' hw => ?_)
  refine ⟨?_, hw.b0⟩
  unfold lw kV nq
  repeat' (first | rfl | (exfalso; first | (simp_all; done) | grind) | split)
 refine bC (an (ah (zz0 (aa rfl) (zz0 (zz2 (off := 3) (ft := 23) rfl ao rfl ae) ?_))))
 refine zz0 (aH rfl am) ?_
 refine zz0 (kD rfl rfl) ?_
 refine ad ?_
 refine au rfl ?_ ?_ <;> intro h12 <;> try simp only [bs] at h12
 ·refine ar (zz0 (ab rfl) (aI (zz0 (aa rfl) (zz0 (aa rfl) (zz0 (zz2 (off := 4) (ft := 23) rfl ao rfl ae) ?_)))))
  refine zz0 (aH rfl am) ?_
  refine zz0 (az rfl eA (fun w hw => dK (gA (aZ a) (aZ b)).lo 4294967295 (gA (aZ a) (aZ b)).st w)) ?_
  refine aB bO rfl rfl ak ?_
  refine ad (aC ?_)
  refine eO fZ rfl aJ ak (fun w' hw => ?_)
  refine ⟨?_, hw.b0⟩
  unfold lw kV nq
  repeat' (first | rfl | (exfalso; first | (simp_all; done) | grind) | split)
 refine dz (zz0 (aa rfl) (zz0 (aa rfl) (zz0 (zz2 (off := 4) (ft := 23) rfl ao rfl ae) ?_)))
 refine zz0 (aH rfl am) ?_
 refine zz0 (az rfl eA (fun w hw => dK (gA (aZ a) (aZ b)).lo (gA (aZ a) (aZ b)).hi (gA (aZ a) (aZ b)).st w)) ?_
 refine aB bO rfl rfl ak ?_
 refine ad (aC ?_)
 refine eO fZ rfl aJ ak (fun w' hw => ?_)
 refine ⟨?_, hw.b0⟩
 unfold lw kV nq
 repeat' (first | rfl | (exfalso; first | (simp_all; done) | grind) | split)
end Go.Proofs.YtiajjbhcpeadfaaGreat
namespace Go.HL
open Go
structure StV where
 r0 : VSet
 r1 : VSet
 r2 : VSet
 r3 : VSet
 r4 : VSet
 r5 : VSet
 r6 : VSet
 r7 : VSet
 deriving DecidableEq, Inhabited
def StV.l (s : StV) : List VSet := [s.r0, s.r1, s.r2, s.r3, s.r4, s.r5, s.r6, s.r7]
def gk : StV := ⟨zeroS, zeroS, zeroS, zeroS, zeroS, zeroS, zeroS, zeroS⟩
def cF : Enc StV := ⟨40, fun s => s.l.flatMap bO.enc, fun s => rfl, fun s v h => by
 obtain ⟨x, _, hx⟩ := List.mem_flatMap.1 h
 exact bO.one x v hx⟩
def StV.getN (s : StV) : Nat → VSet
 | 0 => s.r0
 | 1 => s.r1
 | 2 => s.r2
 | 3 => s.r3
 | 4 => s.r4
 | 5 => s.r5
 | 6 => s.r6
 | 7 => s.r7
 | _ => zeroS
def StV.setN (s : StV) (v : VSet) : Nat → StV
 | 0 => { s with r0 := v }
 | 1 => { s with r1 := v }
 | 2 => { s with r2 := v }
 | 3 => { s with r3 := v }
 | 4 => { s with r4 := v }
 | 5 => { s with r5 := v }
 | 6 => { s with r6 := v }
 | 7 => { s with r7 := v }
 | _ => s
def StV.get (s : StV) (k : Int) : VSet := s.getN k.toNat
def StV.set (s : StV) (k : Int) (v : VSet) : StV := s.setN v k.toNat
theorem eight {X : Nat → Prop} (h0 : X 0) (h1 : X 1) (h2 : X 2) (h3 : X 3) (h4 : X 4) (h5 : X 5) (h6 : X 6) (h7 : X 7) : ∀ {n : Nat}, n < 8 → X n
 | 0, _ => h0
 | 1, _ => h1
 | 2, _ => h2
 | 3, _ => h3
 | 4, _ => h4
 | 5, _ => h5
 | 6, _ => h6
 | 7, _ => h7
 | n + 8, h => absurd h (by omega)
theorem kK {s : StV} {k : Int} (hk : 0 ≤ k ∧ k < 8) {o : Nat} (ho : o = k.toNat * 5) : ((cF.enc s).drop o).take 5 = bO.enc (s.get k) := by
 subst ho
 exact eight (X := fun n => ((cF.enc s).drop (n * 5)).take 5 = bO.enc (s.getN n)) rfl rfl rfl rfl rfl rfl rfl rfl (show k.toNat < 8 by omega)
theorem kJ {s : StV} {k : Int} (hk : 0 ≤ k ∧ k < 8) {o : Nat} (ho : o = k.toNat * 5) (v : VSet) : splice (cF.enc s) o (bO.enc v) = cF.enc (s.set k v) := by
 subst ho
 exact eight (X := fun n => splice (cF.enc s) (n * 5) (bO.enc v) = cF.enc (s.setN v n)) rfl rfl rfl rfl rfl rfl rfl rfl (show k.toNat < 8 by omega)
theorem kL {s : StV} {k : Int} (hk : 0 ≤ k ∧ k < 8) {o : Nat} (ho : o = k.toNat * 5) : o + 5 ≤ (cF.enc s).length := by
 rw [cF.len]; show o + 5 ≤ 40; omega
theorem Eb (s : StV) (v : VSet) {k : Nat} (hk : k < 8) {j : Nat} (hj : j < 8) : (s.setN v k).getN j = if j = k then v else s.getN j := by
 revert hk
 refine eight (X := fun j => k < 8 → (s.setN v k).getN j = if j = k then v else s.getN j) ?_ ?_ ?_ ?_ ?_ ?_ ?_ ?_ hj
 all_goals intro hk
 all_goals exact eight (X := fun k => (s.setN v k).getN _ = if _ = k then v else s.getN _) rfl rfl rfl rfl rfl rfl rfl rfl hk
theorem Ba {s : StV} {k : Int} (hk : 0 ≤ k ∧ k < 8) (v : VSet) (j : Int) (hj : 0 ≤ j ∧ j < 8) : (s.set k v).get j = if j = k then v else s.get j := by
 have h := Eb s v (k := k.toNat) (by omega) (j := j.toNat) (by omega)
 by_cases e : j = k
 ·rw [if_pos e]; rw [if_pos (by omega)] at h; exact h
 ·rw [if_neg e]; rw [if_neg (by omega)] at h; exact h
def vJ (v : VSet) (k : Nat) : StV :=
 ⟨if 0 < k then v else zeroS, if 1 < k then v else zeroS, if 2 < k then v else zeroS, if 3 < k then v else zeroS, if 4 < k then v else zeroS, if 5 < k then v else zeroS, if 6 < k then v else zeroS, if 7 < k then v else zeroS⟩
theorem vI {v : VSet} {k : Nat} (hk : k < 8) : (vJ v k).set (k : Int) v = vJ v (k + 1) :=
 eight (X := fun k => (vJ v k).set (k : Int) v = vJ v (k + 1)) rfl rfl rfl rfl rfl rfl rfl rfl hk
def wn (k : Nat) : StV := vJ oa k
def xG : StV := wn 8
def iE (k : Nat) : StV := vJ emptyS k
theorem C4 {k : Nat} (hk : k < 8) : (wn k).set (k : Int) oa = wn (k + 1) := vI hk
theorem Er {k : Nat} (hk : k < 8) : (iE k).set (k : Int) emptyS = iE (k + 1) := vI hk
def iF (a b : StV) : Nat → StV
 | 0 => a
 | k + 1 => (iF a b k).set (k : Int) (gA (a.get k) (b.get k))
def uR (a b : StV) : Nat → StV
 | 0 => b
 | k + 1 => (uR a b k).set (k : Int) (lw (a.get k) (b.get k))
theorem vF (a b : StV) : ∀ k : Nat, k ≤ 8 → ∀ j : Nat, k ≤ j → j < 8 → (iF a b k).get (j : Int) = a.get j
 | 0, _, _, _, _ => rfl
 | k + 1, hk, j, h, hj => by
  show ((iF a b k).set (k : Int) _).get _ = _
  rw [Ba (by omega) _ _ (by omega), if_neg (by omega)]
  exact vF a b k (by omega) j (by omega) hj
theorem xF (a b : StV) : ∀ k : Nat, k ≤ 8 → ∀ j : Nat, k ≤ j → j < 8 → (uR a b k).get (j : Int) = b.get j
 | 0, _, _, _, _ => rfl
 | k + 1, hk, j, h, hj => by
  show ((uR a b k).set (k : Int) _).get _ = _
  rw [Ba (by omega) _ _ (by omega), if_neg (by omega)]
  exact xF a b k (by omega) j (by omega) hj
def BO (s : StV) (i : Ins) : VSet := if i.form = 0 then s.get i.b else gP i.imm
def wE (a : VSet) (n : UInt32) : VSet := if n < 2147483648 then fU 3 a (gP n) else fU 4 a (gP (0 - n))
def yh (op : Int) : Int := [3, 4, 6, 7, 8, 5, 9, 10, 11].getD (op - 6).toNat 0
theorem DR {op : Int} (h : 6 ≤ op ∧ op ≤ 14) {o : Nat} (ho : o = (op - 6).toNat) : ([.int .i64 3, .int .i64 4, .int .i64 6, .int .i64 7, .int .i64 8, .int .i64 5, .int .i64 9, .int .i64 10, .int .i64 11] : List Value)[o]? = some (.int .i64 (yh op)) := by
 subst ho
 unfold yh
 have hk : (op - 6).toNat < 9 := by omega
 generalize (op - 6).toNat = n at hk
 rcases n with _ | _ | _ | _ | _ | _ | _ | _ | _ | n
 all_goals first | rfl | omega
theorem G0 {i : Ins} (he : iM i = 0) (h : i.op = 16) : i.width = 1 ∨ i.width = 2 ∨ i.width = 4 := by
 have h1 := (pd he).1
 by_cases a : i.width = 1
 ·exact .inl a
 by_cases b : i.width = 2
 ·exact .inr (.inl b)
 by_cases c : i.width = 4
 ·exact .inr (.inr c)
 unfold bP gY at h1
 simp [h, a, b, c] at h1
def iJ (i : Ins) (s : StV) : StV :=
 if iM i = 0 then
  if i.op = 5 then s.set i.a (BO s i)
  else if 6 ≤ i.op ∧ i.op ≤ 14 then s.set i.a (fU (yh i.op) (s.get i.a) (BO s i))
  else if i.op = 16 ∧ i.width < 4 then s.set i.a (db 0 (mT 1 (8 * i.width).toNat - 1) 1)
  else if i.op = 16 ∨ i.op = 17 ∨ i.op = 26 then s.set i.a oa
  else if i.op = 19 then s.set i.a (wE (s.get i.b) i.imm)
  else if i.op = 25 then s.set i.a (db 0 1 1)
  else if i.op = 3 then s.set 7 (fU 4 (s.get 7) (gP 4))
  else if i.op = 4 then (s.set 7 (fU 3 (s.get 7) (gP 4))).set i.a oa
  else if i.op = 2 then s.set 7 (fU 3 (s.get 7) (gP 4))
  else if i.op = 23 ∨ i.op = 24 then xG
  else s
 else s
def Ag (i : Ins) : Bool := decide (i.op = 15) && decide (i.form ≠ 0) && decide (iM i = 0)
def w9 (a : VSet) : Bool := iI a && !a.top && !a.em
def mP (a : VSet) (n : UInt32) : VSet :=
 if w9 a = false ∨ n ≠ a.lo ∧ n ≠ a.hi then a else if a.st = 0 then emptyS else if n = a.lo then db (a.lo + a.st) a.hi a.st else db a.lo (a.hi - a.st) a.st
def zO (cc : Int) : Int := if cc < 1 ∨ 15 ≤ cc then -1 else [(-52 : Int), 2, 1, 4, 3, 6, 5, 8, 7, 10, 9, 12, 11, 14, 13].getD cc.toNat 0
theorem GV {cc : Int} (h : 1 ≤ cc ∧ cc < 15) : zO cc = [(-52 : Int), 2, 1, 4, 3, 6, 5, 8, 7, 10, 9, 12, 11, 14, 13].getD cc.toNat 0 := by
 unfold zO; rw [if_neg (by omega)]
theorem Fy {cc : Int} (h : 1 ≤ cc ∧ cc < 15) : (((({ data := #[45, 99, 98, 101, 100, 103, 102, 105, 104, 107, 106, 109, 108, 111, 110] } : ByteArray).data.toList.getD cc.toNat 0 - 97 : UInt8).toNat : Nat) : Int) = [(-52 : Int), 2, 1, 4, 3, 6, 5, 8, 7, 10, 9, 12, 11, 14, 13].getD cc.toNat 0 := by
 have hk : cc.toNat - 1 < 14 := by omega
 have e : cc.toNat = (cc.toNat - 1) + 1 := by omega
 rw [e]
 generalize cc.toNat - 1 = n at hk
 rcases n with _ | _ | _ | _ | _ | _ | _ | _ | _ | _ | _ | _ | _ | _ | n
 all_goals first | rfl | omega
theorem FW {i : Ins} (h : Ag i = true) : iM i = 0 := by unfold Ag at h; simp at h; exact h.2
theorem Fc {cc : Int} (h : 3 ≤ cc ∧ cc ≤ 6) {o : Nat} (ho : o = (cc - 3).toNat) : ([.int .i64 7, .int .i64 8, .int .i64 9, .int .i64 10] : List Value)[o]? = some (.int .i64 (cc + 4)) := by
 subst ho
 obtain ⟨h1, h2⟩ := h
 rcases (show cc = 3 ∨ cc = 4 ∨ cc = 5 ∨ cc = 6 by omega) with rfl | rfl | rfl | rfl <;> rfl
def fC (cc : Int) (a : VSet) (n : UInt32) : VSet :=
 if cc = 1 then lz a (gP n) else if cc = 2 then mP a n
 else if cc = 7 then (if n = 0 then emptyS else lz a (db 0 (n - 1) 1))
 else if cc = 9 then lz a (db 0 n 1)
 else if cc = 8 then lz a (db n 4294967295 1)
 else if cc = 10 then (if n = 4294967295 then emptyS else lz a (db (n + 1) 4294967295 1))
 else a
def nB (cc : Int) (i : Ins) (s : StV) : StV :=
 if 3 ≤ cc ∧ cc ≤ 6 then (if (w9 (s.get i.a) = false ∨ 2147483648 ≤ (s.get i.a).hi) ∨ 2147483648 ≤ i.imm then s else s.set i.a (fC (cc + 4) (s.get i.a) i.imm))
 else s.set i.a (fC cc (s.get i.a) i.imm)
def qJ (cc : Int) (i : Ins) (s : StV) (taken : Bool) : StV :=
 if Ag i = false then s else nB (if taken = true then cc else zO cc) i s
end Go.HL
namespace Go.Proofs.YtiajjbhcpeadfaaGreat
open Go Go.HL Go.RowKit
theorem om (w : World) :
  Cr Tryz.prog 162 #[] w (.agg (cF.enc (wn 8)).toArray) := by
 refine enter Tryz.func162 rfl Tryz.ntmps162 rfl ?_
 refine ah ?_
 refine dC cR rfl (fun b1 => ?_)
 refine aI ?_
 refine dC cR rfl (fun b2 => ?_)
 refine ad (an (ah (zz0 (aa rfl) (ad (aF ?_)))))
 refine bL (ι := Nat) (fun k => k ≤ 8) (fun _ => _) (fun k => [cellE b2 (cF.enc (wn k)) 37, cellE b1 (cF.enc gk) 37]) (fun k => [(3, .int .i64 (k : Nat))]) (fun k => 8 - k) 0 (Nat.zero_le _) (Front.c Front.nil) (by repeat' constructor) rfl (fun k hi m hm => ?_)
 replace hi : k ≤ 8 := hi
 replace hm : m = 8 - k := hm
 change Tr _ _ [cellE b2 (cF.enc (wn k)) 37, cellE b1 (cF.enc gk) 37] ([(3, .int .i64 (k : Nat))] ++ _) _
 refine ah (zz0 (bT rfl rfl) (ad (an ?_)))
 refine au rfl ?_ ?_ <;> intro h3 <;> try simp only [bs] at h3
 ·refine bC (an (aF (ah (zz0 (aa rfl) (zz0 (ab rfl) (ad (ar (zz0 (aa rfl) (zz0 (az rfl fO (fun w hw => jP w)) ?_)))))))))
  refine zz0 (zz2 (off := 0) (ft := 26) rfl cj rfl di) ?_
  refine zz0 (dH rfl rfl cm ak (by omega)) ?_
  refine fP rfl rfl ak (by repeat constructor) ((kJ (k := (k : Int)) ⟨by omega, by omega⟩ (by simp) _).trans (congrArg cF.enc (C4 (by omega)))) (by rfl) (kL (k := (k : Int)) ⟨by omega, by omega⟩ (by simp)) (by first | exact Enc.one bO _ | exact List.all_eq_true.1 rfl) rfl ?_
  refine aD (aY (ac (ar (zz0 (cB rfl rfl) ?_))))
  refine zz0 (aa rfl) (ad ?_)
  refine cK (k + 1) (Front.c Front.nil) (zz8 10 rfl) (o := (by show k + 1 ≤ _; omega))
 refine bJ (aG (aG (bj (ac (an ?_)))))
 obtain rfl : k = 8 := by omega
 refine ar (zz0 (bG rfl bQ aR) ?_)
 refine aB cF rfl rfl aR ?_
 refine ad (aC ?_)
 refine eO Tryz.results162 rfl bQ aR (fun w' hw => ?_)
 exact ⟨rfl, hw.b0⟩
theorem vL (w : World) :
  Cr Tryz.prog 160 #[] w (.agg (cF.enc (iE 8)).toArray) := by
 refine enter Tryz.func160 rfl Tryz.ntmps160 rfl ?_
 refine ah ?_
 refine dC cR rfl (fun b1 => ?_)
 refine aI ?_
 refine dC cR rfl (fun b2 => ?_)
 refine ad (an (ah (zz0 (aa rfl) (ad (aF ?_)))))
 refine bL (ι := Nat) (fun k => k ≤ 8) (fun _ => _) (fun k => [cellE b2 (cF.enc (iE k)) 37, cellE b1 (cF.enc gk) 37]) (fun k => [(3, .int .i64 (k : Nat))]) (fun k => 8 - k) 0 (Nat.zero_le _) (Front.c Front.nil) (by repeat' constructor) rfl (fun k hi m hm => ?_)
 replace hi : k ≤ 8 := hi
 replace hm : m = 8 - k := hm
 change Tr _ _ [cellE b2 (cF.enc (iE k)) 37, cellE b1 (cF.enc gk) 37] ([(3, .int .i64 (k : Nat))] ++ _) _
 refine ah (zz0 (bT rfl rfl) (ad (an ?_)))
 refine au rfl ?_ ?_ <;> intro h3 <;> try simp only [bs] at h3
 ·refine bC (an (aF (ah (zz0 (aa rfl) (zz0 (ab rfl) (ad (ar (zz0 (aa rfl) (zz0 (az rfl je (fun w hw => jR w)) ?_)))))))))
  refine zz0 (zz2 (off := 0) (ft := 26) rfl cj rfl di) ?_
  refine zz0 (dH rfl rfl cm ak (by omega)) ?_
  refine fP rfl rfl ak (by repeat constructor) ((kJ (k := (k : Int)) ⟨by omega, by omega⟩ (by simp) _).trans (congrArg cF.enc (Er (by omega)))) (by rfl) (kL (k := (k : Int)) ⟨by omega, by omega⟩ (by simp)) (by first | exact Enc.one bO _ | exact List.all_eq_true.1 rfl) rfl ?_
  refine aD (aY (ac (ar (zz0 (cB rfl rfl) ?_))))
  refine zz0 (aa rfl) (ad ?_)
  refine cK (k + 1) (Front.c Front.nil) (zz8 10 rfl) (o := (by show k + 1 ≤ _; omega))
 refine bJ (aG (aG (bj (ac (an ?_)))))
 obtain rfl : k = 8 := by omega
 refine ar (zz0 (bG rfl bQ aR) ?_)
 refine aB cF rfl rfl aR ?_
 refine ad (aC ?_)
 refine eO Tryz.results160 rfl bQ aR (fun w' hw => ?_)
 exact ⟨rfl, hw.b0⟩
theorem tH (s : StV) (i : Ins) (w : World) (hB : 0 ≤ i.b ∧ i.b < 8) :
  Cr Tryz.prog 302 #[.agg (cF.enc s).toArray, .agg (aM.enc i).toArray] w (.agg (bO.enc (BO s i)).toArray) := by
 refine enter Tryz.func302 rfl Tryz.ntmps302 rfl ?_
 refine ah ?_
 refine dG rfl rfl (fun b1 => ?_)
 refine dG rfl rfl (fun b2 => ?_)
 refine dC cG rfl (fun b3 => ?_)
 refine ad (an (ah (zz0 (zz2 (off := 3) (ft := 3) rfl aj rfl aA) ?_)))
 refine zz0 (aH rfl aO) ?_
 refine zz0 (bA rfl rfl) (ad ?_)
 refine au rfl ?_ ?_ <;> intro h4 <;> try simp only [bs] at h4
 ·refine ah (zz0 (zz2 (off := 7) (ft := 3) rfl aj rfl aA) ?_)
  refine zz0 (aH rfl aO) ?_
  refine zz0 (zz2 (off := 0) (ft := 26) rfl cj rfl di) ?_
  refine zz0 (dH rfl rfl cm ak (by omega)) ?_
  refine zz0 (gi (vs := bO.enc (s.get i.b)) rfl (by repeat constructor) aJ ak (kK hB (by simp)) rfl) ?_
  refine aB bO rfl rfl ak ?_
  refine ad (aC (ay ?_))
  refine eO Tryz.results302 rfl aJ ak (fun w' hw => ?_)
  refine ⟨?_, hw.b0⟩
  unfold BO
  repeat' (first | rfl | (exfalso; first | (simp_all; done) | grind) | split)
 refine dz (zz0 (zz2 (off := 1) (ft := 23) rfl aj rfl ae) ?_)
 refine zz0 (aH rfl am) ?_
 refine zz0 (az rfl ix (fun w hw => jv _ w)) ?_
 refine aB bO rfl rfl ak ?_
 refine ad (aC ?_)
 refine eO Tryz.results302 rfl aJ ak (fun w' hw => ?_)
 refine ⟨?_, hw.b0⟩
 unfold BO
 repeat' (first | rfl | (exfalso; first | (simp_all; done) | grind) | split)
theorem Ce (a : VSet) (n : UInt32) (w : World) :
  Cr Tryz.prog 304 #[.agg (bO.enc a).toArray, .int .u32 n.toNat] w (.agg (bO.enc (wE a n)).toArray) := by
 refine enter Tryz.func304 rfl Tryz.ntmps304 rfl ?_
 refine ah ?_
 refine dG rfl rfl (fun b1 => ?_)
 refine dC cG rfl (fun b2 => ?_)
 refine ad (an (ah (zz0 (aa rfl) (zz0 (iu (n := 2147483648) rfl rfl) ?_))))
 refine ad ?_
 refine au rfl ?_ ?_ <;> intro h3 <;> try simp only [bs] at h3
 ·refine an (fy 0 4 aP ?_)
  refine bE ?_
  refine aw (bG rfl aJ ak) ?_
  refine aw (aa rfl) (aw (az rfl ix (fun w hw => jv _ w)) ?_)
  refine aw (az rfl lL (fun w hw => oR 3 _ _ w)) ?_
  refine bH ?_
  refine aB bO rfl rfl ak ?_
  refine ad (aC (ay ?_))
  refine eO Tryz.results304 rfl aJ ak (fun w' hw => ?_)
  refine ⟨?_, hw.b0⟩
  unfold wE
  repeat' (first | rfl | (exfalso; first | (simp_all; done) | grind) | split)
 refine bC (an (fy 0 5 aP ?_))
 refine bE ?_
 refine aw (bG rfl aJ ak) ?_
 refine aw (aa rfl) (aw (uH rfl) ?_)
 refine aw (az rfl ix (fun w hw => jv _ w)) ?_
 refine aw (az rfl lL (fun w hw => oR 4 _ _ w)) ?_
 refine bH ?_
 refine aB bO rfl rfl ak ?_
 refine ad (aC ?_)
 refine eO Tryz.results304 rfl aJ ak (fun w' hw => ?_)
 refine ⟨?_, hw.b0⟩
 unfold wE
 repeat' (first | rfl | (exfalso; first | (simp_all; done) | grind) | split)
theorem sH (a : VSet) (w : World) :
  Cr Tryz.prog 299 #[.agg (bO.enc a).toArray] w (.bool (w9 a)) := by
 refine enter Tryz.func299 rfl Tryz.ntmps299 rfl ?_
 refine ah ?_
 refine dG rfl rfl (fun b1 => ?_)
 refine zz0 (ab rfl) (aI (zz0 (bG rfl aJ ak) ?_))
 refine zz0 (az rfl Tryz.call40 (fun w hw => tC _ w)) ?_
 refine zz0 (aa rfl) ?_
 apply cH
 ·exact (rfl : _ = (4, 5, 9))
 ·exact rfl
 ·intro hT2; have hT2' := hT2
  try simp only [bs] at hT2'
  refine zz6 hT2 (zz2 (off := 1) (ft := 4) rfl ao rfl bS) ?_
  refine zz6 hT2 (aH rfl cE) ?_
  refine zz6 hT2 (cP rfl) (zz0 (aV rfl hT2 rfl) ?_)
  refine aD (ac ?_)
  exact aK (Sub.cons rfl (bD 4 rfl))
 ·intro hF2
  refine zz9 hF2 (zz9 hF2 (zz9 hF2 (zz0 (aU rfl hF2 rfl) ?_)))
  refine aD (ac ?_)
  exact aK (Sub.cons rfl (bD 4 rfl))
 refine zz0 (aa rfl) ?_
 apply cH
 ·exact (rfl : _ = (4, 10, 14))
 ·exact rfl
 ·intro hT3; have hT3' := hT3
  try simp only [bs] at hT3'
  refine zz6 hT3 (zz2 (off := 0) (ft := 4) rfl ao rfl bS) ?_
  refine zz6 hT3 (aH rfl cE) ?_
  refine zz6 hT3 (cP rfl) (zz0 (aV rfl hT3 rfl) ?_)
  refine aD (ac ?_)
  exact aK (Sub.cons rfl (bD 4 rfl))
 ·intro hF3
  refine zz9 hF3 (zz9 hF3 (zz9 hF3 (zz0 (aU rfl hF3 rfl) ?_)))
  refine aD (ac ?_)
  exact aK (Sub.cons rfl (bD 4 rfl))
 refine zz0 (ab rfl) (ad (aC ?_))
 refine aX Tryz.results299 rfl (fun w' hw => ?_)
 refine ⟨?_, hw.b0⟩
 unfold w9
 repeat' (first | rfl | (exfalso; first | (simp_all; done) | grind) | split)
theorem xC (a : VSet) (n : UInt32) (w : World) :
  Cr Tryz.prog 301 #[.agg (bO.enc a).toArray, .int .u32 n.toNat] w (.agg (bO.enc (mP a n)).toArray) := by
 refine enter Tryz.func301 rfl Tryz.ntmps301 rfl ?_
 refine ah ?_
 refine dG rfl rfl (fun b1 => ?_)
 refine dC cG rfl (fun b2 => ?_)
 refine ad (an (aF (ah (zz0 (bG rfl aJ ak) ?_))))
 refine zz0 (az rfl Tryz.call299 (fun w hw => sH _ w)) ?_
 refine zz0 (cP rfl) (zz0 (aa rfl) ?_)
 apply dV
 ·exact (rfl : _ = (11, 9, 20))
 ·exact rfl
 ·intro hF3; have hF3' := hF3
  try simp only [bs] at hF3'
  refine zz6 hF3 (aa rfl) (zz6 hF3 (zz2 (off := 2) (ft := 23) rfl ao rfl ae) ?_)
  refine zz6 hF3 (aH rfl am) ?_
  refine zz6 hF3 (iU rfl rfl) ?_
  refine zz6 hF3 (aa rfl) ?_
  apply cH
  ·exact (rfl : _ = (5, 14, 19))
  ·exact rfl
  ·intro hT4; have hT4' := hT4
   try simp only [bs] at hT4'
   refine zz6 hT4 (aa rfl) (zz6 hT4 (zz2 (off := 3) (ft := 23) rfl ao rfl ae) ?_)
   refine zz6 hT4 (aH rfl am) ?_
   refine zz6 hT4 (iU rfl rfl) ?_
   refine zz6 hF3 (aV rfl hT4 rfl) ?_
   refine aD (ac ?_)
   exact aK (Sub.cons rfl (bD 5 rfl))
  ·intro hF4
   refine zz9 hF4 (zz9 hF4 (zz9 hF4 (zz9 hF4 (zz6 hF3 (aU rfl hF4 rfl) ?_))))
   refine aD (ac ?_)
   exact aK (Sub.cons rfl (bD 5 rfl))
  refine zz0 (aU rfl hF3 rfl) ?_
  refine aD (ac ?_)
  exact aK (Sub.cons rfl (bD 7 rfl))
 ·intro hT3
  refine zz9 hT3 (zz9 hT3 (zz9 hT3 (zz9 hT3 (zz9 hT3 (gw ?_)))))
  refine gw ?_
  refine gw ?_
  refine gw ?_
  refine zz9 hT3 (zz0 (aV rfl hT3 rfl) ?_)
  refine aD (ac ?_)
  exact aK (Sub.cons rfl (bD 11 rfl))
 refine zz0 (ab rfl) (ad ?_)
 refine au rfl ?_ ?_ <;> intro h5 <;> try simp only [bs] at h5
 ·refine ah (zz0 (bG rfl aJ ak) ?_)
  refine aB bO rfl rfl ak ?_
  refine ad (aC (bv (ay ?_)))
  refine eO kf rfl aJ ak (fun w' hw => ?_)
  refine ⟨?_, hw.b0⟩
  unfold mP
  repeat' (first | rfl | (exfalso; first | (simp_all; done) | grind) | split)
 refine ah (zz0 (zz2 (off := 4) (ft := 23) rfl ao rfl ae) ?_)
 refine zz0 (aH rfl am) ?_
 refine zz0 (eE (n := 0) rfl rfl) ?_
 refine zz0 (ab rfl) (ad ?_)
 refine au rfl ?_ ?_ <;> intro h6 <;> try simp only [bs] at h6
 ·refine ah (zz0 (az rfl je (fun w hw => jR w)) ?_)
  refine aB bO rfl rfl ak ?_
  refine ad (aC (bv (ay ?_)))
  refine eO kf rfl aJ ak (fun w' hw => ?_)
  refine ⟨?_, hw.b0⟩
  unfold mP
  repeat' (first | rfl | (exfalso; first | (simp_all; done) | grind) | split)
 refine ah (zz0 (aa rfl) (zz0 (zz2 (off := 2) (ft := 23) rfl ao rfl ae) ?_))
 refine zz0 (aH rfl am) ?_
 refine zz0 (eE rfl rfl) ?_
 refine zz0 (ab rfl) (ad ?_)
 refine au rfl ?_ ?_ <;> intro h7 <;> try simp only [bs] at h7
 ·refine ah (zz0 (zz2 (off := 2) (ft := 23) rfl ao rfl ae) ?_)
  refine zz0 (aH rfl am) ?_
  refine zz0 (zz2 (off := 4) (ft := 23) rfl ao rfl ae) ?_
  refine zz0 (aH rfl am) ?_
  refine zz0 (gJ rfl rfl) ?_
  refine zz0 (zz2 (off := 3) (ft := 23) rfl ao rfl ae) ?_
  refine zz0 (aH rfl am) ?_
  refine zz0 (zz2 (off := 4) (ft := 23) rfl ao rfl ae) ?_
  refine zz0 (aH rfl am) ?_
  refine zz0 (az rfl eA (fun w hw => dK _ _ _ w)) ?_
  refine aB bO rfl rfl ak ?_
  refine ad (aC (bv (ay ?_)))
  refine eO kf rfl aJ ak (fun w' hw => ?_)
  refine ⟨?_, hw.b0⟩
  unfold mP
  repeat' (first | rfl | (exfalso; first | (simp_all; done) | grind) | split)
 refine cd (aY (ac (ah (zz0 (zz2 (off := 2) (ft := 23) rfl ao rfl ae) ?_))))
 refine zz0 (aH rfl am) ?_
 refine zz0 (zz2 (off := 3) (ft := 23) rfl ao rfl ae) ?_
 refine zz0 (aH rfl am) ?_
 refine zz0 (zz2 (off := 4) (ft := 23) rfl ao rfl ae) ?_
 refine zz0 (aH rfl am) ?_
 refine zz0 (fk rfl rfl) ?_
 refine zz0 (zz2 (off := 4) (ft := 23) rfl ao rfl ae) ?_
 refine zz0 (aH rfl am) ?_
 refine zz0 (az rfl eA (fun w hw => dK _ _ _ w)) ?_
 refine aB bO rfl rfl ak ?_
 refine ad (aC ?_)
 refine eO kf rfl aJ ak (fun w' hw => ?_)
 refine ⟨?_, hw.b0⟩
 unfold mP
 repeat' (first | rfl | (exfalso; first | (simp_all; done) | grind) | split)
theorem sG (i : Ins) (w : World) (hI : InsOK i) :
  Cr Tryz.prog 225 #[.agg (aM.enc i).toArray] w (.bool (Ag i)) := by
 refine enter Tryz.func225 rfl Tryz.ntmps225 rfl ?_
 refine ah ?_
 refine dG rfl rfl (fun b1 => ?_)
 refine zz0 (ab rfl) (aI (zz0 (zz2 (off := 2) (ft := 3) rfl aj rfl aA) ?_))
 refine zz0 (aH rfl aO) ?_
 refine zz0 (bA rfl rfl) (zz0 (aa rfl) ?_)
 apply cH
 ·exact (rfl : _ = (4, 6, 10))
 ·exact rfl
 ·intro hT2; have hT2' := hT2
  try simp only [bs] at hT2'
  refine zz6 hT2 (zz2 (off := 3) (ft := 3) rfl aj rfl aA) ?_
  refine zz6 hT2 (aH rfl aO) ?_
  refine zz6 hT2 (fH rfl rfl) (zz0 (aV rfl hT2 rfl) ?_)
  refine aD (ac ?_)
  exact aK (Sub.cons rfl (bD 4 rfl))
 ·intro hF2
  refine zz9 hF2 (zz9 hF2 (zz9 hF2 (zz0 (aU rfl hF2 rfl) ?_)))
  refine aD (ac ?_)
  exact aK (Sub.cons rfl (bD 4 rfl))
 refine zz0 (aa rfl) ?_
 apply cH
 ·exact (rfl : _ = (3, 11, 14))
 ·exact rfl
 ·intro hT3; have hT3' := hT3
  try simp only [bs] at hT3'
  refine zz6 hT3 (bG rfl aQ ax) ?_
  refine zz6 hT3 (az rfl j4 (fun w hw => jY i w hI)) ?_
  refine zz0 (aV rfl hT3 rfl) ?_
  refine aD (ac ?_)
  exact aK (Sub.cons rfl (bD 3 rfl))
 ·intro hF3
  refine zz9 hF3 (zz9 hF3 (zz0 (aU rfl hF3 rfl) ?_))
  refine aD (ac ?_)
  exact aK (Sub.cons rfl (bD 3 rfl))
 refine zz0 (ab rfl) (ad (aC ?_))
 refine aX Tryz.results225 rfl (fun w' hw => ?_)
 refine ⟨?_, hw.b0⟩
 unfold Ag
 repeat' (first | rfl | (exfalso; first | (simp_all; done) | grind) | split)
theorem wC (cc : Int) (w : World) :
  Cr Tryz.prog 298 #[.int .i64 cc] w (.int .i64 (zO cc)) := by
 refine enter Tryz.func298 rfl Tryz.ntmps298 rfl ?_
 refine ah (zz0 (ab rfl) (ad (an (ah (zz0 (aa rfl) (zz0 (bT rfl rfl) (zz0 (aa rfl) ?_)))))))
 apply dV
 ·exact (rfl : _ = (3, 5, 8))
 ·exact rfl
 ·intro hF1; have hF1' := hF1
  try simp only [bs] at hF1'
  refine zz6 hF1 (aa rfl) (zz6 hF1 (eM rfl rfl) (zz0 (aU rfl hF1 rfl) ?_))
  refine aD (ac ?_)
  exact aK (Sub.cons rfl (bD 3 rfl))
 ·intro hT1
  refine zz9 hT1 (zz9 hT1 (zz0 (aV rfl hT1 rfl) ?_))
  refine aD (ac ?_)
  exact aK (Sub.cons rfl (bD 3 rfl))
 refine ad ?_
 refine au rfl ?_ ?_ <;> intro h2 <;> try simp only [bs] at h2
 ·refine ah (zz0 (ab rfl) (ad (aC (ay ?_))))
  refine aX Tryz.results298 rfl (fun w' hw => ?_)
  exact ⟨by unfold zO; rw [if_pos (by omega)], hw.b0⟩
 refine bC (an ?_)
 have hsz : ({ data := #[45, 99, 98, 101, 100, 103, 102, 105, 104, 107, 106, 109, 108, 111, 110] } : ByteArray).size = 15 := rfl
 refine ar (zz0 (aa rfl) (zz0 (si rfl rfl g5 (by omega)) ?_))
 refine zz0 (Bv (n := 97) rfl rfl) ?_
 refine zz0 (gV rfl bU ba) (zz0 (ab rfl) (ad (aC ?_)))
 refine aX Tryz.results298 rfl (fun w' hw => ?_)
 exact ⟨by rw [GV (by omega), ← Fy (by omega)], hw.b0⟩
theorem nH (a b : StV) (w : World) :
  Cr Tryz.prog 110 #[.agg (cF.enc a).toArray, .agg (cF.enc b).toArray] w (.agg (cF.enc (iF a b 8)).toArray) := by
 refine enter Tryz.func110 rfl Tryz.ntmps110 rfl ?_
 refine ah ?_
 refine dG rfl rfl (fun b1 => ?_)
 refine dG rfl rfl (fun b2 => ?_)
 refine dC cR rfl (fun b3 => ?_)
 refine ad (an (ah (zz0 (aa rfl) (ad (aF ?_)))))
 refine bL (ι := Nat) (fun k => k ≤ 8) (fun _ => _) (fun k => [cellE b3 (cF.enc gk) 37, cellE b2 (cF.enc b) 37, cellE b1 (cF.enc (iF a b k)) 37]) (fun k => [(6, .int .i64 (k : Nat))]) (fun k => 8 - k) 0 (Nat.zero_le _) (Front.c Front.nil) (by repeat' constructor) rfl (fun k hi m hm => ?_)
 replace hi : k ≤ 8 := hi
 replace hm : m = 8 - k := hm
 change Tr _ _ [cellE b3 (cF.enc gk) 37, cellE b2 (cF.enc b) 37, cellE b1 (cF.enc (iF a b k)) 37] ([(6, .int .i64 (k : Nat))] ++ _) _
 have hgk := vF a b k hi k (Nat.le_refl k)
 refine ah (zz0 (bT rfl rfl) (ad (an ?_)))
 refine au rfl ?_ ?_ <;> intro h4 <;> try simp only [bs] at h4
 ·refine bC (an (aF (ah (zz0 (aa rfl) (zz0 (ab rfl) (ad ?_))))))
  replace hgk := hgk (by omega)
  refine fy 0 12 aP ?_
  refine bE ?_
  refine aw (aa rfl) (aw (aa rfl) (aw (zz2 (off := 0) (ft := 26) rfl cj rfl di) ?_))
  refine aw (dH rfl rfl cm ak (by omega)) ?_
  refine aw (gi (vs := bO.enc ((iF a b k).get (k : Int))) rfl (by repeat constructor) aJ ak (kK ⟨by omega, by omega⟩ (by simp)) rfl) ?_
  refine aw (aa rfl) (aw (zz2 (off := 0) (ft := 26) rfl cj rfl di) ?_)
  refine aw (dH rfl rfl cm ak (by omega)) ?_
  refine aw (gi (vs := bO.enc (b.get (k : Int))) rfl (by repeat constructor) aJ ak (kK ⟨by omega, by omega⟩ (by simp)) rfl) ?_
  refine aw (az rfl Tryz.call166 (fun w hw => wL _ _ w)) ?_
  refine aw (zz2 (off := 0) (ft := 26) rfl cj rfl di) ?_
  refine aw (dH rfl rfl cm ak (by omega)) ?_
  refine bH ?_
  refine fP rfl rfl ak (by repeat constructor) ((kJ (s := iF a b k) (k := (k : Int)) ⟨by omega, by omega⟩ (by simp) (gA ((iF a b k).get (k : Int)) (b.get (k : Int)))).trans (congrArg cF.enc (show _ = iF a b (k + 1) by rw [hgk]; rfl))) (by rfl) (kL (k := (k : Int)) ⟨by omega, by omega⟩ (by simp)) (by first | exact Enc.one bO _ | exact List.all_eq_true.1 rfl) rfl ?_
  refine aD (aY (ac (ar (zz0 (cB rfl rfl) ?_))))
  refine zz0 (aa rfl) (ad ?_)
  refine cK (k + 1) (Front.c Front.nil) (zz8 18 rfl) (o := (by show k + 1 ≤ _; omega))
 refine bJ (aG (aG (bj (ac (an ?_)))))
 obtain rfl : k = 8 := by omega
 refine ar (zz0 (bG rfl bQ aR) ?_)
 refine aB cF rfl rfl aR ?_
 refine ad (aC ?_)
 refine eO Tryz.results110 rfl bQ aR (fun w' hw => ?_)
 exact ⟨rfl, hw.b0⟩
end Go.Proofs.YtiajjbhcpeadfaaGreat
namespace Go.Proofs.YtiajjbhcpeadfaaGreat
open Go Go.HL Go.RowKit
theorem wo (i : Ins) (s : StV) (w : World) (hI : InsOK i) :
  Cr Tryz.prog 270 #[.agg (aM.enc i).toArray, .agg (cF.enc s).toArray] w (.agg (cF.enc (iJ i s)).toArray) := by
 refine enter Tryz.func270 rfl Tryz.ntmps270 rfl ?_
 refine ah ?_
 refine dG rfl rfl (fun b1 => ?_)
 refine dG rfl rfl (fun b2 => ?_)
 refine dC cR rfl (fun b3 => ?_)
 refine ad (an (ah (zz0 (bG rfl aQ ax) ?_)))
 refine zz0 (az rfl j4 (fun w hw => jY i w hI)) ?_
 refine zz0 (cP rfl) (ad ?_)
 refine au rfl ?_ ?_ <;> intro h4 <;> try simp only [bs] at h4
 ·refine ah (zz0 (bG rfl bQ aR) ?_)
  refine aB cF rfl rfl aR ?_
  refine ad (aC (ay ?_))
  refine eO gQ rfl bQ aR (fun w' hw => ?_)
  refine ⟨?_, hw.b0⟩
  first | (rw [hi]; rfl) | (unfold iJ; (repeat' split) <;> first | (exfalso; first | (simp_all; done) | grind) | rfl)
 refine bC (an ?_)
 have he : iM i = 0 := by simp_all
 obtain ⟨_, hA, hB, _⟩ := pd he
 refine ar (zz0 (zz2 (off := 6) (ft := 3) rfl aj rfl aA) ?_)
 refine zz0 (aH rfl aO) ?_
 refine zz0 (zz2 (off := 0) (ft := 26) rfl cj rfl di) ?_
 refine zz0 (dH rfl rfl cm ak (by omega)) ?_
 refine zz0 (gi (vs := bO.enc (s.get i.a)) rfl (by repeat constructor) aJ ak (kK hA (by simp)) rfl) ?_
 refine dC cG rfl (fun b5 => ?_)
 refine aB bO rfl rfl ak ?_
 refine ad ?_
 refine cZ (ι := VSet) (fun a1 => iJ i s = s.set i.a a1) (fun _ => Bg.of w) (fun a1 => [cellE b5 (bO.enc a1) 25, cellE b3 (cF.enc gk) 37, cellE b2 (cF.enc s) 37, cellE b1 (aM.enc i) 36]) (fun a1 => []) ?_ (fun a1 hi => ?_)
 ·skip
  refine aF (ah (zz0 (zz2 (off := 2) (ft := 3) rfl aj rfl aA) ?_))
  refine zz0 (aH rfl aO) ?_
  refine zz0 (bA rfl rfl) (zz0 (ab rfl) (ad ?_))
  refine au rfl ?_ ?_ <;> intro h6 <;> try simp only [bs] at h6
  ·refine ar (zz0 (bG rfl bQ aR) ?_)
   refine zz0 (bG rfl aQ ax) ?_
   refine zz0 (az rfl Tryz.call302 (fun w hw => tH s i w hB)) ?_
   refine aB bO rfl rfl ak ?_
   refine aD (aY (ac ?_))
   refine co _ Front.nil (zz8 7 rfl) (o := (by show _ = _; unfold iJ; rw [if_pos he]; (repeat' split) <;> first | (exfalso; first | (simp_all; done) | grind) | rfl))
  refine ah (zz0 (zz2 (off := 2) (ft := 3) rfl aj rfl aA) ?_)
  refine zz0 (aH rfl aO) ?_
  refine zz0 (eM rfl rfl) (zz0 (aa rfl) ?_)
  apply cH
  ·exact (rfl : _ = (4, 28, 32))
  ·exact rfl
  ·intro hT7; have hT7' := hT7
   try simp only [bs] at hT7'
   refine zz6 hT7 (zz2 (off := 2) (ft := 3) rfl aj rfl aA) ?_
   refine zz6 hT7 (aH rfl aO) ?_
   refine zz6 hT7 (fX rfl rfl) (zz0 (aV rfl hT7 rfl) ?_)
   refine aD (ac ?_)
   exact aK (Sub.cons rfl (bD 4 rfl))
  ·intro hF7
   refine zz9 hF7 (zz9 hF7 (zz9 hF7 (zz0 (aU rfl hF7 rfl) ?_)))
   refine aD (ac ?_)
   exact aK (Sub.cons rfl (bD 4 rfl))
  refine zz0 (ab rfl) (ad ?_)
  refine au rfl ?_ ?_ <;> intro h8 <;> try simp only [bs] at h8
  ·refine ah (zz0 (bK (vs := [(0, _), (1, _), (2, _), (3, _), (4, _), (5, _), (6, _), (7, _), (8, _)]) rfl rfl (j9 _ _ _ _ _ _ _ _ _)) ?_)
   refine dC Tryz.zeroValue321 rfl (fun b9 => ?_)
   refine zz5 rfl rfl Tryz.sizeOf321 ?_
   refine ad (fy 0 10 aP ?_)
   refine bE ?_
   refine aw (zz2 (off := 2) (ft := 3) rfl aj rfl aA) ?_
   refine aw (aH rfl aO) ?_
   refine aw (ei rfl rfl) ?_
   refine aw (dH rfl rfl Tryz.underlying321 aA (by omega)) ?_
   refine aw (oW (v := .int .i64 (yh i.op)) rfl (by repeat constructor) aO (DR (by assumption) (by simp))) ?_
   refine aw (bG rfl aJ ak) ?_
   refine aw (bG rfl bQ aR) ?_
   refine aw (bG rfl aQ ax) ?_
   refine aw (az rfl Tryz.call302 (fun w hw => tH s i w hB)) ?_
   refine aw (az rfl lL (fun w hw => oR (yh i.op) (s.get i.a) (BO s i) w)) ?_
   refine bH ?_
   refine aB bO rfl rfl ak ?_
   refine aD (aY (ac ?_))
   refine co _ Front.nil (zz8 22 rfl) (o := (by show _ = _; unfold iJ; rw [if_pos he]; (repeat' split) <;> first | (exfalso; first | (simp_all; done) | grind) | rfl))
  refine ah (zz0 (zz2 (off := 2) (ft := 3) rfl aj rfl aA) ?_)
  refine zz0 (aH rfl aO) ?_
  refine zz0 (bA rfl rfl) (zz0 (aa rfl) ?_)
  apply cH
  ·exact (rfl : _ = (4, 48, 52))
  ·exact rfl
  ·intro hT10; have hT10' := hT10
   try simp only [bs] at hT10'
   refine zz6 hT10 (zz2 (off := 4) (ft := 3) rfl aj rfl aA) ?_
   refine zz6 hT10 (aH rfl aO) ?_
   refine zz6 hT10 (bT rfl rfl) (zz0 (aV rfl hT10 rfl) ?_)
   refine aD (ac ?_)
   exact aK (Sub.cons rfl (bD 4 rfl))
  ·intro hF10
   refine zz9 hF10 (zz9 hF10 (zz9 hF10 (zz0 (aU rfl hF10 rfl) ?_)))
   refine aD (ac ?_)
   exact aK (Sub.cons rfl (bD 4 rfl))
  refine zz0 (ab rfl) (ad ?_)
  refine au rfl ?_ ?_ <;> intro h11 <;> try simp only [bs] at h11
  ·have hwd := G0 he (by omega)
   refine ar (zz0 (zz2 (off := 4) (ft := 3) rfl aj rfl aA) ?_)
   refine zz0 (aH rfl aO) ?_
   refine zz0 (ko rfl rfl (by omega)) ?_
   refine zz0 (nc (m := 1) rfl rfl (by omega)) ?_
   refine zz0 (fk (n := 1) rfl rfl) ?_
   refine zz0 (az rfl eA (fun w hw => dK 0 (mT 1 (8 * i.width).toNat - 1) 1 w)) ?_
   refine aB bO rfl rfl ak ?_
   refine aD (aY (ac ?_))
   refine co _ Front.nil (zz8 22 rfl) (o := (by show _ = _; unfold iJ; rw [if_pos he]; (repeat' split) <;> first | (exfalso; first | (simp_all; done) | grind) | rfl))
  refine an (ah (zz0 (zz2 (off := 2) (ft := 3) rfl aj rfl aA) ?_))
  refine zz0 (aH rfl aO) ?_
  refine zz0 (bA rfl rfl) (zz0 (ab rfl) (ad ?_))
  apply dP
  ·exact rfl
  ·intro hO12
   try simp only [bs] at hO12
   refine ah (zz0 (zz2 (off := 2) (ft := 3) rfl aj rfl aA) ?_)
   refine zz0 (aH rfl aO) ?_
   refine zz0 (bA rfl rfl) (zz0 (ab rfl) (ad ?_))
   apply dP
   ·exact rfl
   ·intro hO13
    try simp only [bs] at hO13
    refine ar (zz0 (zz2 (off := 2) (ft := 3) rfl aj rfl aA) ?_)
    refine zz0 (aH rfl aO) ?_
    refine zz0 (bA rfl rfl) (zz0 (ab rfl) (ad ?_))
    exact eD rfl (zz8 4 rfl)
   refine ac ?_
   exact eD rfl (zz8 5 rfl)
  refine ac ?_
  refine au rfl ?_ ?_ <;> intro h14 <;> try simp only [bs] at h14
  ·refine ar (zz0 (az rfl fO (fun w hw => jP w)) ?_)
   refine aB bO rfl rfl ak ?_
   refine aD (aY (ac ?_))
   refine co _ Front.nil (zz8 22 rfl) (o := (by show _ = _; unfold iJ; rw [if_pos he]; (repeat' split) <;> first | (exfalso; first | (simp_all; done) | grind) | rfl))
  refine ah (zz0 (zz2 (off := 2) (ft := 3) rfl aj rfl aA) ?_)
  refine zz0 (aH rfl aO) ?_
  refine zz0 (bA rfl rfl) (zz0 (ab rfl) (ad ?_))
  refine au rfl ?_ ?_ <;> intro h15 <;> try simp only [bs] at h15
  ·refine fy 0 8 aP ?_
   refine bE ?_
   refine aw (zz2 (off := 7) (ft := 3) rfl aj rfl aA) ?_
   refine aw (aH rfl aO) ?_
   refine aw (zz2 (off := 0) (ft := 26) rfl cj rfl di) ?_
   refine aw (dH rfl rfl cm ak (by omega)) ?_
   refine aw (gi (vs := bO.enc (s.get i.b)) rfl (by repeat constructor) aJ ak (kK hB (by simp)) rfl) ?_
   refine aw (zz2 (off := 1) (ft := 23) rfl aj rfl ae) ?_
   refine aw (aH rfl am) ?_
   refine aw (az rfl Tryz.call304 (fun w hw => Ce (s.get i.b) i.imm w)) ?_
   refine bH ?_
   refine aB bO rfl rfl ak ?_
   refine aD (aY (ac ?_))
   refine co _ Front.nil (zz8 33 rfl) (o := (by show _ = _; unfold iJ; rw [if_pos he]; (repeat' split) <;> first | (exfalso; first | (simp_all; done) | grind) | rfl))
  refine ah (zz0 (zz2 (off := 2) (ft := 3) rfl aj rfl aA) ?_)
  refine zz0 (aH rfl aO) ?_
  refine zz0 (bA rfl rfl) (zz0 (ab rfl) (ad ?_))
  refine au rfl ?_ ?_ <;> intro h16 <;> try simp only [bs] at h16
  ·refine ar (zz0 (az rfl eA (fun w hw => dK 0 1 1 w)) ?_)
   refine aB bO rfl rfl ak ?_
   refine aD (aY (ac ?_))
   refine co _ Front.nil (zz8 30 rfl) (o := (by show _ = _; unfold iJ; rw [if_pos he]; (repeat' split) <;> first | (exfalso; first | (simp_all; done) | grind) | rfl))
  refine ah (zz0 (zz2 (off := 2) (ft := 3) rfl aj rfl aA) ?_)
  refine zz0 (aH rfl aO) ?_
  refine zz0 (bA rfl rfl) (zz0 (ab rfl) (ad ?_))
  refine au rfl ?_ ?_ <;> intro h17 <;> try simp only [bs] at h17
  ·refine an (fy 0 7 aP ?_)
   refine bE ?_
   refine aw (zz2 (off := 0) (ft := 26) rfl cj rfl di) ?_
   refine aw (dH rfl rfl cm ak (by omega)) ?_
   refine aw (gi (vs := bO.enc (s.get (7 : Int))) rfl (by repeat constructor) aJ ak (kK ⟨by omega, by omega⟩ (by simp)) rfl) ?_
   refine aw (az rfl ix (fun w hw => jv 4 w)) ?_
   refine aw (az rfl lL (fun w hw => oR 4 (s.get 7) (gP 4) w)) ?_
   refine aw (zz2 (off := 0) (ft := 26) rfl cj rfl di) ?_
   refine aw (dH rfl rfl cm ak (by omega)) ?_
   refine bH ?_
   refine fP rfl rfl ak (by repeat constructor) (kJ (k := 7) ⟨by omega, by omega⟩ (by simp) _) (by rfl) (kL (k := 7) ⟨by omega, by omega⟩ (by simp)) (by first | exact Enc.one bO _ | exact List.all_eq_true.1 rfl) rfl ?_
   refine aI (zz0 (bG rfl bQ aR) ?_)
   refine aB cF rfl rfl aR ?_
   refine ad (aC (bv (ay ?_)))
   refine eO gQ rfl bQ aR (fun w' hw => ?_)
   refine ⟨?_, hw.b0⟩
   first | (rw [hi]; rfl) | (unfold iJ; (repeat' split) <;> first | (exfalso; first | (simp_all; done) | grind) | rfl)
  refine an (ah (zz0 (zz2 (off := 2) (ft := 3) rfl aj rfl aA) ?_))
  refine zz0 (aH rfl aO) ?_
  refine zz0 (bA rfl rfl) (zz0 (ab rfl) (ad ?_))
  apply dP
  ·exact rfl
  ·intro hO18
   try simp only [bs] at hO18
   refine ar (zz0 (zz2 (off := 2) (ft := 3) rfl aj rfl aA) ?_)
   refine zz0 (aH rfl aO) ?_
   refine zz0 (bA rfl rfl) (zz0 (ab rfl) (ad ?_))
   exact eD rfl (zz8 4 rfl)
  refine ac ?_
  refine au rfl ?_ ?_ <;> intro h19 <;> try simp only [bs] at h19
  ·refine an (fy 0 7 aP ?_)
   refine bE ?_
   refine aw (zz2 (off := 0) (ft := 26) rfl cj rfl di) ?_
   refine aw (dH rfl rfl cm ak (by omega)) ?_
   refine aw (gi (vs := bO.enc (s.get (7 : Int))) rfl (by repeat constructor) aJ ak (kK ⟨by omega, by omega⟩ (by simp)) rfl) ?_
   refine aw (az rfl ix (fun w hw => jv 4 w)) ?_
   refine aw (az rfl lL (fun w hw => oR 3 (s.get 7) (gP 4) w)) ?_
   refine aw (zz2 (off := 0) (ft := 26) rfl cj rfl di) ?_
   refine aw (dH rfl rfl cm ak (by omega)) ?_
   refine bH ?_
   refine fP rfl rfl ak (by repeat constructor) (kJ (k := 7) ⟨by omega, by omega⟩ (by simp) _) (by rfl) (kL (k := 7) ⟨by omega, by omega⟩ (by simp)) (by first | exact Enc.one bO _ | exact List.all_eq_true.1 rfl) rfl ?_
   refine ad (an (ah (zz0 (zz2 (off := 2) (ft := 3) rfl aj rfl aA) ?_)))
   refine zz0 (aH rfl aO) ?_
   refine zz0 (bA rfl rfl) (ad ?_)
   refine au rfl ?_ ?_ <;> intro h20 <;> try simp only [bs] at h20
   ·refine fy 0 5 aP ?_
    refine bE ?_
    refine aw (zz2 (off := 6) (ft := 3) rfl aj rfl aA) ?_
    refine aw (aH rfl aO) ?_
    refine aw (az rfl fO (fun w hw => jP w)) ?_
    refine aw (zz2 (off := 0) (ft := 26) rfl cj rfl di) ?_
    refine aw (dH rfl rfl cm ak (by omega)) ?_
    refine bH ?_
    refine fP rfl rfl ak (by repeat constructor) (kJ hA (by simp) _) (by rfl) (kL hA (by simp)) (by first | exact Enc.one bO _ | exact List.all_eq_true.1 rfl) rfl ?_
    refine aI (zz0 (bG rfl bQ aR) ?_)
    refine aB cF rfl rfl aR ?_
    refine ad (aC (bv (ay ?_)))
    refine eO gQ rfl bQ aR (fun w' hw => ?_)
    refine ⟨?_, hw.b0⟩
    first | (rw [hi]; rfl) | (unfold iJ; (repeat' split) <;> first | (exfalso; first | (simp_all; done) | grind) | rfl)
   refine dz (zz0 (bG rfl bQ aR) ?_)
   refine aB cF rfl rfl aR ?_
   refine ad (aC (bv (ay ?_)))
   refine eO gQ rfl bQ aR (fun w' hw => ?_)
   refine ⟨?_, hw.b0⟩
   first | (rw [hi]; rfl) | (unfold iJ; (repeat' split) <;> first | (exfalso; first | (simp_all; done) | grind) | rfl)
  refine an (ah (zz0 (zz2 (off := 2) (ft := 3) rfl aj rfl aA) ?_))
  refine zz0 (aH rfl aO) ?_
  refine zz0 (bA rfl rfl) (zz0 (ab rfl) (ad ?_))
  apply dP
  ·exact rfl
  ·intro hO21
   try simp only [bs] at hO21
   refine ar (zz0 (zz2 (off := 2) (ft := 3) rfl aj rfl aA) ?_)
   refine zz0 (aH rfl aO) ?_
   refine zz0 (bA rfl rfl) (zz0 (ab rfl) (ad ?_))
   exact eD rfl (zz8 4 rfl)
  refine ac ?_
  refine au rfl ?_ ?_ <;> intro h22 <;> try simp only [bs] at h22
  ·refine ah (zz0 (az rfl Tryz.call162 (fun w hw => om w)) ?_)
   refine aB cF rfl rfl aR ?_
   refine ad (aC (bv (ay ?_)))
   refine eO gQ rfl bQ aR (fun w' hw => ?_)
   refine ⟨?_, hw.b0⟩
   first | (rw [hi]; rfl) | (unfold iJ; (repeat' split) <;> first | (exfalso; first | (simp_all; done) | grind) | rfl)
  refine ah (zz0 (bG rfl bQ aR) ?_)
  refine aB cF rfl rfl aR ?_
  refine ad (aC (bv (ay ?_)))
  refine eO gQ rfl bQ aR (fun w' hw => ?_)
  refine ⟨?_, hw.b0⟩
  first | (rw [hi]; rfl) | (unfold iJ; (repeat' split) <;> first | (exfalso; first | (simp_all; done) | grind) | rfl)
 skip
 replace hi : iJ i s = s.set i.a a1 := hi
 change Tr _ _ [cellE b5 (bO.enc a1) 25, cellE b3 (cF.enc gk) 37, cellE b2 (cF.enc s) 37, cellE b1 (aM.enc i) 36] ([] ++ _) _
 refine ah (zz0 (zz2 (off := 6) (ft := 3) rfl aj rfl aA) ?_)
 refine zz0 (aH rfl aO) ?_
 refine zz0 (bG rfl aJ ak) ?_
 refine zz0 (zz2 (off := 0) (ft := 26) rfl cj rfl di) ?_
 refine zz0 (dH rfl rfl cm ak (by omega)) ?_
 refine fP rfl rfl ak (by repeat constructor) (kJ hA (by simp) _) (by rfl) (kL hA (by simp)) (by first | exact Enc.one bO _ | exact List.all_eq_true.1 rfl) rfl ?_
 refine aI (zz0 (bG rfl bQ aR) ?_)
 refine aB cF rfl rfl aR ?_
 refine ad (aC ?_)
 refine eO gQ rfl bQ aR (fun w' hw => ?_)
 refine ⟨?_, hw.b0⟩
 first | (rw [hi]; rfl) | (unfold iJ; (repeat' split) <;> first | (exfalso; first | (simp_all; done) | grind) | rfl)
theorem zJ (cc : Int) (i : Ins) (s : StV) (tk : Bool) (w : World) (hI : InsOK i) :
  Cr Tryz.prog 269 #[.int .i64 cc, .agg (aM.enc i).toArray, .agg (cF.enc s).toArray, .bool tk] w (.agg (cF.enc (qJ cc i s tk)).toArray) := by
 refine enter Tryz.func269 rfl Tryz.ntmps269 rfl ?_
 refine ah ?_
 refine dG rfl rfl (fun b1 => ?_)
 refine dG rfl rfl (fun b2 => ?_)
 refine dC cR rfl (fun b3 => ?_)
 refine ad (an (ah (zz0 (bG rfl aQ ax) ?_)))
 refine zz0 (az rfl Tryz.call225 (fun w hw => sG i w hI)) ?_
 refine zz0 (cP rfl) (ad ?_)
 refine au rfl ?_ ?_ <;> intro h4 <;> try simp only [bs] at h4
 ·refine ah (zz0 (bG rfl bQ aR) ?_)
  refine aB cF rfl rfl aR ?_
  refine ad (aC (ay ?_))
  refine eO mz rfl bQ aR (fun w' hw => ?_)
  refine ⟨?_, hw.b0⟩
  unfold qJ
  rw [if_pos (by simp_all)]
  rfl
 refine bC (an ?_)
 have hcm : Ag i = true := by simp_all
 obtain ⟨_, hA, hB, _⟩ := pd (FW hcm)
 refine dU ([cellE b3 (cF.enc gk) 37, cellE b2 (cF.enc s) 37, cellE b1 (aM.enc i) 36]) 10 rfl aP ?_
 refine zz4 0 rfl (zz2 (off := 6) (ft := 3) rfl aj rfl aA) ?_
 refine zz4 1 rfl (aH rfl aO) ?_
 refine zz4 2 rfl (zz2 (off := 0) (ft := 26) rfl cj rfl di) ?_
 refine jk 3 rfl (by kernel_rfl) (aT cL) (dH rfl rfl cm ak (by omega)) ?_
 refine jk 4 rfl (by kernel_rfl) (aT cL) (gi (vs := bO.enc (s.get i.a)) rfl (by repeat constructor) aJ ak (kK hA (by simp)) rfl) ?_
 refine zz4 5 rfl (zz2 (off := 1) (ft := 23) rfl aj rfl ae) ?_
 refine zz4 6 rfl (aH rfl am) ?_
 refine dw [7] (fun iq hq => ?_)
 obtain rfl := List.mem_singleton.1 hq
 refine bF rfl ?_
 refine dC cG rfl (fun b5 => ?_)
 refine bV ?_
 refine dw [8] (fun iq hq => ?_)
 obtain rfl := List.mem_singleton.1 hq
 refine bF rfl ?_
 refine aB bO rfl rfl ak ?_
 refine bV ?_
 refine zz4 9 rfl (ab rfl) ?_
 refine iz ?_
 refine ac ?_
 refine cZ (ι := Int) (fun c1 => c1 = (if tk = true then cc else zO cc)) (fun _ => Bg.of w) (fun c1 => [cellE b5 (bO.enc (s.get i.a)) 25, cellE b3 (cF.enc gk) 37, cellE b2 (cF.enc s) 37, cellE b1 (aM.enc i) 36]) (fun c1 => [(0, .int .i64 c1)]) ?_ (fun c1 hi => ?_)
 ·skip
  refine ah (zz0 (aa rfl) (zz0 (cP rfl) (ad ?_)))
  refine au rfl ?_ ?_ <;> intro h6 <;> try simp only [bs] at h6
  ·refine ar (zz0 (aa rfl) (zz0 (az rfl Tryz.call298 (fun w hw => wC cc w)) ?_))
   refine zz0 (ab rfl) (ad ?_)
   refine co _ (Front.c Front.nil) (zz8 5 rfl) (o := (by show _ = _; rw [if_neg (by simp_all)]))
  refine bC ?_
  refine co _ (Front.c Front.nil) (zz8 2 rfl) (o := (by show _ = _; rw [if_pos (by simp_all)]))
 skip
 replace hi : c1 = (if tk = true then cc else zO cc) := hi
 change Tr _ _ [cellE b5 (bO.enc (s.get i.a)) 25, cellE b3 (cF.enc gk) 37, cellE b2 (cF.enc s) 37, cellE b1 (aM.enc i) 36] ([(0, .int .i64 c1)] ++ _) _
 have hrf : qJ cc i s tk = nB c1 i s := by unfold qJ; rw [if_neg (by rw [hcm]; simp), hi]
 refine cZ (ι := Int) (fun c2 => nB c1 i s = s.set i.a (fC c2 (s.get i.a) i.imm)) (fun _ => Bg.of w) (fun c2 => [cellE b5 (bO.enc (s.get i.a)) 25, cellE b3 (cF.enc gk) 37, cellE b2 (cF.enc s) 37, cellE b1 (aM.enc i) 36]) (fun c2 => [(0, .int .i64 c2)]) ?_ (fun c2 hi => ?_)
 ·skip
  refine ah (zz0 (aa rfl) (zz0 (eM rfl rfl) (zz0 (aa rfl) ?_)))
  apply cH
  ·exact (rfl : _ = (3, 29, 32))
  ·exact rfl
  ·intro hT7; have hT7' := hT7
   try simp only [bs] at hT7'
   refine zz6 hT7 (aa rfl) (zz6 hT7 (fX rfl rfl) (zz0 (aV rfl hT7 rfl) ?_))
   refine aD (ac ?_)
   exact aK (Sub.cons rfl (bD 3 rfl))
  ·intro hF7
   refine zz9 hF7 (zz9 hF7 (zz0 (aU rfl hF7 rfl) ?_))
   refine aD (ac ?_)
   exact aK (Sub.cons rfl (bD 3 rfl))
  refine ad ?_
  refine au rfl ?_ ?_ <;> intro h8 <;> try simp only [bs] at h8
  ·refine an (ah (zz0 (bG rfl aJ ak) ?_))
   refine zz0 (az rfl Tryz.call299 (fun w hw => sH _ w)) ?_
   refine zz0 (cP rfl) (zz0 (aa rfl) ?_)
   apply dV
   ·exact (rfl : _ = (4, 36, 40))
   ·exact rfl
   ·intro hF9; have hF9' := hF9
    try simp only [bs] at hF9'
    refine zz6 hF9 (zz2 (off := 3) (ft := 23) rfl ao rfl ae) ?_
    refine zz6 hF9 (aH rfl am) ?_
    refine zz6 hF9 (nj (n := 2147483648) rfl rfl) ?_
    refine zz0 (aU rfl hF9 rfl) ?_
    refine aD (ac ?_)
    exact aK (Sub.cons rfl (bD 4 rfl))
   ·intro hT9
    refine zz9 hT9 (zz9 hT9 (zz9 hT9 (zz0 (aV rfl hT9 rfl) ?_)))
    refine aD (ac ?_)
    exact aK (Sub.cons rfl (bD 4 rfl))
   refine zz0 (aa rfl) ?_
   apply dV
   ·exact (rfl : _ = (3, 41, 44))
   ·exact rfl
   ·intro hF10; have hF10' := hF10
    try simp only [bs] at hF10'
    refine zz6 hF10 (aa rfl) (zz6 hF10 (nj (n := 2147483648) rfl rfl) ?_)
    refine zz0 (aU rfl hF10 rfl) ?_
    refine aD (ac ?_)
    exact aK (Sub.cons rfl (bD 3 rfl))
   ·intro hT10
    refine zz9 hT10 (zz9 hT10 (zz0 (aV rfl hT10 rfl) ?_))
    refine aD (ac ?_)
    exact aK (Sub.cons rfl (bD 3 rfl))
   refine ad ?_
   refine au rfl ?_ ?_ <;> intro h11 <;> try simp only [bs] at h11
   ·refine ah (zz0 (bG rfl bQ aR) ?_)
    refine aB cF rfl rfl aR ?_
    refine ad (aC (ay (ay ?_)))
    refine eO mz rfl bQ aR (fun w' hw => ?_)
    refine ⟨?_, hw.b0⟩
    rw [hrf]
    unfold nB
    (repeat' split) <;> first | (exfalso; first | (simp_all; done) | grind) | rfl
   refine dz (zz0 (bK (vs := [(0, _), (1, _), (2, _), (3, _)]) rfl rfl (o4 _ _ _ _)) ?_)
   refine dC Tryz.zeroValue319 rfl (fun b12 => ?_)
   refine zz5 rfl rfl Tryz.sizeOf319 ?_
   refine ad (ar (zz0 (aa rfl) (zz0 (ei rfl rfl) ?_)))
   refine zz0 (dH rfl rfl Tryz.underlying319 aA (by omega)) ?_
   refine zz0 (oW (v := .int .i64 (c1 + 4)) rfl (by repeat constructor) aO (Fc (by assumption) (by simp))) ?_
   refine zz0 (ab rfl) (ad ?_)
   refine co _ (Front.c Front.nil) (zz8 18 rfl) (o := (by show _ = _; unfold nB; (repeat' split) <;> first | (exfalso; first | (simp_all; done) | grind) | rfl))
  refine bC ?_
  refine co _ (Front.c Front.nil) (zz8 4 rfl) (o := (by show _ = _; unfold nB; (repeat' split) <;> first | (exfalso; first | (simp_all; done) | grind) | rfl))
 skip
 replace hi : nB c1 i s = s.set i.a (fC c2 (s.get i.a) i.imm) := hi
 change Tr _ _ [cellE b5 (bO.enc (s.get i.a)) 25, cellE b3 (cF.enc gk) 37, cellE b2 (cF.enc s) 37, cellE b1 (aM.enc i) 36] ([(0, .int .i64 c2)] ++ _) _
 have hi2 := hi
 refine cZ (ι := VSet) (fun a1 => fC c2 (s.get i.a) i.imm = a1) (fun _ => Bg.of w) (fun a1 => [cellE b5 (bO.enc a1) 25, cellE b3 (cF.enc gk) 37, cellE b2 (cF.enc s) 37, cellE b1 (aM.enc i) 36]) (fun a1 => []) ?_ (fun a1 hi => ?_)
 ·skip
  refine ah (zz0 (aa rfl) (ad (aF (ah (zz0 (bA rfl rfl) (zz0 (ab rfl) (ad ?_)))))))
  refine au rfl ?_ ?_ <;> intro h13 <;> try simp only [bs] at h13
  ·refine fy 0 4 aP ?_
   refine bE ?_
   refine aw (bG rfl aJ ak) ?_
   refine aw (aa rfl) (aw (az rfl ix (fun w hw => jv i.imm w)) ?_)
   refine aw (az rfl lM (fun w hw => qP (s.get i.a) _ w)) ?_
   refine bH ?_
   refine aB bO rfl rfl ak ?_
   refine aD (aY (ac ?_))
   refine co _ Front.nil (zz8 7 rfl) (o := (by show _ = _; unfold fC; (repeat' split) <;> first | (exfalso; first | (simp_all; done) | grind) | rfl))
  refine ah (zz0 (bA rfl rfl) (zz0 (ab rfl) (ad ?_)))
  refine au rfl ?_ ?_ <;> intro h14 <;> try simp only [bs] at h14
  ·refine ar (zz0 (bG rfl aJ ak) ?_)
   refine zz0 (aa rfl) (zz0 (az rfl Tryz.call301 (fun w hw => xC (s.get i.a) i.imm w)) ?_)
   refine aB bO rfl rfl ak ?_
   refine aD (aY (ac ?_))
   refine co _ Front.nil (zz8 8 rfl) (o := (by show _ = _; unfold fC; (repeat' split) <;> first | (exfalso; first | (simp_all; done) | grind) | rfl))
  refine ah (zz0 (bA rfl rfl) (zz0 (ab rfl) (ad ?_)))
  refine au rfl ?_ ?_ <;> intro h15 <;> try simp only [bs] at h15
  ·refine an (fy 0 5 aP ?_)
   refine bE ?_
   refine aw (bG rfl aJ ak) ?_
   refine aw (aa rfl) (aw (fk (n := 1) rfl rfl) ?_)
   refine aw (az rfl eA (fun w hw => dK 0 (i.imm - 1) 1 w)) ?_
   refine aw (az rfl lM (fun w hw => qP (s.get i.a) _ w)) ?_
   refine bH ?_
   refine aB bO rfl rfl ak ?_
   refine aI (zz0 (aa rfl) (zz0 (eE (n := 0) rfl rfl) ?_))
   refine ad ?_
   refine au rfl ?_ ?_ <;> intro h16 <;> try simp only [bs] at h16
   ·refine ar (zz0 (az rfl je (fun w hw => jR w)) ?_)
    refine aB bO rfl rfl ak ?_
    refine aD (aY (ac ?_))
    refine co _ Front.nil (zz8 15 rfl) (o := (by show _ = _; unfold fC; (repeat' split) <;> first | (exfalso; first | (simp_all; done) | grind) | rfl))
   refine cd (aY (ac ?_))
   refine co _ Front.nil (zz8 14 rfl) (o := (by show _ = _; unfold fC; (repeat' split) <;> first | (exfalso; first | (simp_all; done) | grind) | rfl))
  refine ah (zz0 (bA rfl rfl) (zz0 (ab rfl) (ad ?_)))
  refine au rfl ?_ ?_ <;> intro h17 <;> try simp only [bs] at h17
  ·refine fy 0 4 aP ?_
   refine bE ?_
   refine aw (bG rfl aJ ak) ?_
   refine aw (aa rfl) (aw (az rfl eA (fun w hw => dK 0 i.imm 1 w)) ?_)
   refine aw (az rfl lM (fun w hw => qP (s.get i.a) _ w)) ?_
   refine bH ?_
   refine aB bO rfl rfl ak ?_
   refine aD (aY (ac ?_))
   refine co _ Front.nil (zz8 13 rfl) (o := (by show _ = _; unfold fC; (repeat' split) <;> first | (exfalso; first | (simp_all; done) | grind) | rfl))
  refine ah (zz0 (bA rfl rfl) (zz0 (ab rfl) (ad ?_)))
  refine au rfl ?_ ?_ <;> intro h18 <;> try simp only [bs] at h18
  ·refine fy 0 4 aP ?_
   refine bE ?_
   refine aw (bG rfl aJ ak) ?_
   refine aw (aa rfl) (aw (az rfl eA (fun w hw => dK i.imm 4294967295 1 w)) ?_)
   refine aw (az rfl lM (fun w hw => qP (s.get i.a) _ w)) ?_
   refine bH ?_
   refine aB bO rfl rfl ak ?_
   refine aD (aY (ac ?_))
   refine co _ Front.nil (zz8 15 rfl) (o := (by show _ = _; unfold fC; (repeat' split) <;> first | (exfalso; first | (simp_all; done) | grind) | rfl))
  refine ah (zz0 (bA rfl rfl) (zz0 (ab rfl) (ad ?_)))
  refine au rfl ?_ ?_ <;> intro h19 <;> try simp only [bs] at h19
  ·refine an (fy 0 5 aP ?_)
   refine bE ?_
   refine aw (bG rfl aJ ak) ?_
   refine aw (aa rfl) (aw (gJ (n := 1) rfl rfl) ?_)
   refine aw (az rfl eA (fun w hw => dK (i.imm + 1) 4294967295 1 w)) ?_
   refine aw (az rfl lM (fun w hw => qP (s.get i.a) _ w)) ?_
   refine bH ?_
   refine aB bO rfl rfl ak ?_
   refine aI (zz0 (aa rfl) (zz0 (eE (n := 4294967295) rfl rfl) ?_))
   refine ad ?_
   refine au rfl ?_ ?_ <;> intro h20 <;> try simp only [bs] at h20
   ·refine ar (zz0 (az rfl je (fun w hw => jR w)) ?_)
    refine aB bO rfl rfl ak ?_
    refine aD (aY (ac ?_))
    refine co _ Front.nil (zz8 21 rfl) (o := (by show _ = _; unfold fC; (repeat' split) <;> first | (exfalso; first | (simp_all; done) | grind) | rfl))
   refine cd (aY (ac ?_))
   refine co _ Front.nil (zz8 20 rfl) (o := (by show _ = _; unfold fC; (repeat' split) <;> first | (exfalso; first | (simp_all; done) | grind) | rfl))
  refine cd (aY (ac ?_))
  refine co _ Front.nil (zz8 13 rfl) (o := (by show _ = _; unfold fC; (repeat' split) <;> first | (exfalso; first | (simp_all; done) | grind) | rfl))
 skip
 replace hi : fC c2 (s.get i.a) i.imm = a1 := hi
 change Tr _ _ [cellE b5 (bO.enc a1) 25, cellE b3 (cF.enc gk) 37, cellE b2 (cF.enc s) 37, cellE b1 (aM.enc i) 36] ([] ++ _) _
 have hi3 := hi
 refine ah (zz0 (zz2 (off := 6) (ft := 3) rfl aj rfl aA) ?_)
 refine zz0 (aH rfl aO) ?_
 refine zz0 (bG rfl aJ ak) ?_
 refine zz0 (zz2 (off := 0) (ft := 26) rfl cj rfl di) ?_
 refine zz0 (dH rfl rfl cm ak (by omega)) ?_
 refine fP rfl rfl ak (by repeat constructor) (kJ hA (by simp) _) (by rfl) (kL hA (by simp)) (by first | exact Enc.one bO _ | exact List.all_eq_true.1 rfl) rfl ?_
 refine aI (zz0 (bG rfl bQ aR) ?_)
 refine aB cF rfl rfl aR ?_
 refine ad (aC ?_)
 refine eO mz rfl bQ aR (fun w' hw => ?_)
 refine ⟨?_, hw.b0⟩
 rw [hrf, hi2, hi3]
 rfl
end Go.Proofs.YtiajjbhcpeadfaaGreat
namespace Go.HL
open Go Go.Sort
def ltW (x y : UInt32) : Bool := decide (x < y)
theorem wq : SWO ltW where
 irrefl x := by simp [ltW]
 trans x y z h1 h2 := by simp only [ltW, decide_eq_true_eq, UInt32.lt_iff_toNat_lt] at *; omega
 ntrans x y z h1 h2 := by simp only [ltW, decide_eq_false_iff_not, UInt32.lt_iff_toNat_lt] at *; omega
theorem dM {d : Array UInt32} {i : Nat} : d.toList.getD i default = d[i]! := by
 rw [List.getD_eq_getElem?_getD, Array.getElem?_toList, Array.getElem!_eq_getD, Array.getD_eq_getD_getElem?]
theorem ie {d : Array UInt32} {i j : Nat} : (d.toList.set i d[j]!).set j d[i]! = (swp d i j).toList := by
 simp [swp, Array.toList_setIfInBounds]
theorem nw {d : Array UInt32} {i j : Nat} : (swp d i j).size = d.size := by simp [swp]
theorem yy {a b i : Nat} {d : Array UInt32} (h : b ≤ i) : insOuter ltW a b i d = d := by rw [insOuter, if_neg (by omega)]
theorem yx {a b i : Nat} {d : Array UInt32} (h : i < b) : insOuter ltW a b i d = insOuter ltW a b (i + 1) (insInner ltW a i d) := by rw [insOuter, if_pos h]
theorem sV {a j : Nat} {d : Array UInt32} (h : a < j) (h2 : ltW d[j]! d[j - 1]! = true) : insInner ltW a j d = insInner ltW a (j - 1) (swp d j (j - 1)) := by
 cases j with
 | zero => omega
 | succ j => rw [insInner, if_pos (by simp only [Bool.and_eq_true, decide_eq_true_eq]; exact ⟨h, h2⟩)]; rfl
theorem qK {a j : Nat} {d : Array UInt32} (h : j ≤ a ∨ ltW d[j]! d[j - 1]! = false) : insInner ltW a j d = d := by
 cases j with
 | zero => rfl
 | succ j =>
  rw [insInner, if_neg]
  simp only [Bool.and_eq_true, decide_eq_true_eq]
  rintro ⟨h1, h2⟩
  rcases h with h | h
  ·omega
  ·rw [show j + 1 - 1 = j from rfl, h2] at h; cases h
theorem xW {hi f r : Nat} {d : Array UInt32} (h : hi ≤ 2 * r + 1) : siftDown ltW hi f r d = d := by rw [siftDown, dif_pos h]
theorem Df {hi f r : Nat} {d : Array UInt32} (h : 2 * r + 2 < hi) (hl : ltW d[f + (2 * r + 1)]! d[f + (2 * r + 1) + 1]! = true) :
  siftDown ltW hi f r d = if ltW d[f + r]! d[f + (2 * r + 2)]! = true then siftDown ltW hi f (2 * r + 2) (swp d (f + r) (f + (2 * r + 2))) else d := by
 rw [siftDown, dif_neg (by omega), if_pos (by simp only [Bool.and_eq_true, decide_eq_true_eq]; exact ⟨by omega, hl⟩), dif_pos h]
 cases ltW d[f + r]! d[f + (2 * r + 2)]! <;> rfl
theorem Dg {hi f r : Nat} {d : Array UInt32} (h : 2 * r + 1 < hi) (hl : hi ≤ 2 * r + 2 ∨ ltW d[f + (2 * r + 1)]! d[f + (2 * r + 1) + 1]! = false) :
  siftDown ltW hi f r d = if ltW d[f + r]! d[f + (2 * r + 1)]! = true then siftDown ltW hi f (2 * r + 1) (swp d (f + r) (f + (2 * r + 1))) else d := by
 rw [siftDown, dif_neg (by omega), if_neg]
 ·cases ltW d[f + r]! d[f + (2 * r + 1)]! <;> rfl
 ·simp only [Bool.and_eq_true, decide_eq_true_eq]
  rintro ⟨q1, q2⟩
  rcases hl with hl | hl
  ·omega
  ·rw [q2] at hl; cases hl
theorem sift_size {hi f : Nat} : ∀ (n r : Nat) (d : Array UInt32), hi - r ≤ n → (siftDown ltW hi f r d).size = d.size
 | n, r, d, h => by
  by_cases c1 : hi ≤ 2 * r + 1
  ·rw [xW c1]
  ·cases n with
   | zero => omega
   | succ n =>
    by_cases c2 : 2 * r + 2 < hi ∧ ltW d[f + (2 * r + 1)]! d[f + (2 * r + 1) + 1]! = true
    ·rw [Df c2.1 c2.2]
     split
     ·rw [sift_size n (2 * r + 2) _ (by omega), nw]
     ·rfl
    ·rw [Dg (by omega) (by
      by_cases q : 2 * r + 2 < hi
      ·refine .inr ?_
       cases e : ltW d[f + (2 * r + 1)]! d[f + (2 * r + 1) + 1]!
       ·rfl
       ·exact absurd ⟨q, e⟩ c2
      ·exact .inl (by omega))]
     split
     ·rw [sift_size n (2 * r + 1) _ (by omega), nw]
     ·rfl
theorem Gy {hi f r : Nat} {d : Array UInt32} : (siftDown ltW hi f r d).size = d.size := sift_size _ _ _ (Nat.le_refl _)
theorem Dt {i j : Nat} {d : Array UInt32} (h : ¬ i < j) : reverseLoop i j d = d := by rw [reverseLoop, if_neg h]
theorem GO {i j : Nat} {d : Array UInt32} (h : i < j) : reverseLoop i j d = reverseLoop (i + 1) (j - 1) (swp d i j) := by rw [reverseLoop, if_pos h]
theorem C3 {p : UInt32 → Bool} {d : Array UInt32} {i j : Nat} (h : i ≤ j) (hp : p d[i]! = true) : scanUp p d j i = scanUp p d j (i + 1) := by
 rw [scanUp, if_pos (by simp only [Bool.and_eq_true, decide_eq_true_eq]; exact ⟨h, hp⟩)]
theorem wm {p : UInt32 → Bool} {d : Array UInt32} {i j : Nat} (h : j < i ∨ p d[i]! = false) : scanUp p d j i = i := by
 rw [scanUp, if_neg]
 simp only [Bool.and_eq_true, decide_eq_true_eq]
 rintro ⟨q1, q2⟩
 rcases h with h | h
 ·omega
 ·rw [q2] at h; cases h
theorem wU {p : UInt32 → Bool} {d : Array UInt32} {i j : Nat} (h : i ≤ j) (h0 : 0 < j) (hp : p d[j]! = true) : scanDown p d i j = scanDown p d i (j - 1) := by
 obtain ⟨k, rfl⟩ : ∃ k, j = k + 1 := ⟨j - 1, by omega⟩
 rw [scanDown, if_pos (by simp only [Bool.and_eq_true, decide_eq_true_eq]; exact ⟨h, hp⟩)]; rfl
theorem rY {p : UInt32 → Bool} {d : Array UInt32} {i j : Nat} (h : j < i ∨ p d[j]! = false) : scanDown p d i j = j := by
 cases j with
 | zero => rfl
 | succ k =>
  rw [scanDown, if_neg]
  simp only [Bool.and_eq_true, decide_eq_true_eq]
  rintro ⟨q1, q2⟩
  rcases h with h | h
  ·omega
  ·rw [q2] at h; cases h
theorem DN {a i j I J : Nat} {d : Array UInt32} (hI : scanUp (fun x => ltW x d[a]!) d j i = I) (hJ : scanDown (fun x => !ltW x d[a]!) d I j = J) (h : J < I) : partLoop ltW a i j d = (J, d) := by
 rw [partLoop]; simp only [hI, hJ]; rw [if_pos h]
theorem yg {a i j I J : Nat} {d : Array UInt32} (hI : scanUp (fun x => ltW x d[a]!) d j i = I) (hJ : scanDown (fun x => !ltW x d[a]!) d I j = J) (h : I < J) (h1 : i ≤ I) (h2 : J ≤ j) :
  partLoop ltW a i j d = partLoop ltW a (I + 1) (J - 1) (swp d I J) := by
 rw [partLoop]; simp only [hI, hJ]; rw [if_neg (by omega), dif_pos (by omega)]
theorem zL {a i j I J : Nat} {d : Array UInt32} (hI : scanUp (fun x => !ltW d[a]! x) d j i = I) (hJ : scanDown (fun x => ltW d[a]! x) d I j = J) (h : J < I) : partEqLoop ltW a i j d = (I, d) := by
 rw [partEqLoop]; simp only [hI, hJ]; rw [if_pos h]
theorem B8 {a i j I J : Nat} {d : Array UInt32} (hI : scanUp (fun x => !ltW d[a]! x) d j i = I) (hJ : scanDown (fun x => ltW d[a]! x) d I j = J) (h : I < J) (h1 : i ≤ I) (h2 : J ≤ j) :
  partEqLoop ltW a i j d = partEqLoop ltW a (I + 1) (J - 1) (swp d I J) := by
 rw [partEqLoop]; simp only [hI, hJ]; rw [if_neg (by omega), dif_pos (by omega)]
theorem HC {b i : Nat} {d : Array UInt32} (h : i < b) (hl : ltW d[i]! d[i - 1]! = false) : scanSorted ltW d b i = scanSorted ltW d b (i + 1) := by
 rw [scanSorted, if_pos (by simp only [Bool.and_eq_true, decide_eq_true_eq, Bool.not_eq_true']; exact ⟨h, hl⟩)]
theorem Fj {b i : Nat} {d : Array UInt32} (h : b ≤ i ∨ ltW d[i]! d[i - 1]! = true) : scanSorted ltW d b i = i := by
 rw [scanSorted, if_neg]
 simp only [Bool.and_eq_true, decide_eq_true_eq, Bool.not_eq_true']
 rintro ⟨q1, q2⟩
 rcases h with h | h
 ·omega
 ·rw [q2] at h; cases h
theorem HD {j : Nat} {d : Array UInt32} (h : 0 < j) (hl : ltW d[j]! d[j - 1]! = true) : shiftDown ltW j d = shiftDown ltW (j - 1) (swp d j (j - 1)) := by
 obtain ⟨k, rfl⟩ : ∃ k, j = k + 1 := ⟨j - 1, by omega⟩
 rw [shiftDown, if_neg (by rw [show k + 1 - 1 = k from rfl] at hl; simp [hl])]; rfl
theorem AV {j : Nat} {d : Array UInt32} (h : j = 0 ∨ ltW d[j]! d[j - 1]! = false) : shiftDown ltW j d = d := by
 cases j with
 | zero => rfl
 | succ k =>
  rcases h with h | h
  ·omega
  ·rw [shiftDown, if_pos (by rw [show k + 1 - 1 = k from rfl] at h; simp [h])]
theorem HB {b j : Nat} {d : Array UInt32} (h : j < b) (hl : ltW d[j]! d[j - 1]! = true) : shiftUp ltW b j d = shiftUp ltW b (j + 1) (swp d j (j - 1)) := by
 rw [shiftUp, if_pos h, if_neg (by simp [hl])]
theorem AQ {b j : Nat} {d : Array UInt32} (h : b ≤ j ∨ ltW d[j]! d[j - 1]! = false) : shiftUp ltW b j d = d := by
 rw [shiftUp]
 rcases h with h | h
 ·rw [if_neg (by omega)]
 ·split
  ·rw [if_pos (by simp [h])]
  ·rfl
theorem zN {a b k i x : Nat} {d : Array UInt32} (hX : scanSorted ltW d b i = x) (h : x = b) : partialIns ltW a b (k + 1) i d = (d, true) := by
 rw [partialIns]; simp only [hX]; rw [if_pos h]
theorem GT {a b k i x : Nat} {d : Array UInt32} (hX : scanSorted ltW d b i = x) (h : x ≠ b) (h2 : b - a < 50) : partialIns ltW a b (k + 1) i d = (d, false) := by
 rw [partialIns]; simp only [hX]; rw [if_neg h, if_pos h2]
theorem rH {a b k i x : Nat} {d d3 d4 : Array UInt32} (hX : scanSorted ltW d b i = x) (h : x ≠ b) (h2 : ¬ b - a < 50) (h3 : d3 = if x - a ≥ 2 then shiftDown ltW (x - 1) (swp d x (x - 1)) else swp d x (x - 1)) (h4 : d4 = if b - x ≥ 2 then shiftUp ltW b (x + 1) d3 else d3) :
  partialIns ltW a b (k + 1) i d = partialIns ltW a b k x d4 := by
 rw [partialIns]; simp only [hX]; rw [if_neg h, if_neg h2, ← h3, ← h4]
end Go.HL
namespace Go.Proofs.YtiajjbhcpeadfaaGreat
open Go Go.HL Go.RowKit Go.Sort
theorem qN (a : UInt32) (w : World) :
  Cr Tryz.prog 151 #[.int .u32 a.toNat] w (.bool false) := by
 refine enter Tryz.func151 rfl Tryz.ntmps151 rfl ?_
 refine ah (zz0 (ab rfl) (aI (zz0 (aa rfl) (zz0 (aa rfl) (zz0 (iU rfl rfl) ?_)))))
 refine zz0 (ab rfl) (ad (aC ?_))
 refine aX Tryz.results151 rfl (fun w' hw => ?_)
 exact ⟨by simp, hw.b0⟩
theorem gz (a b : UInt32) (w : World) :
  Cr Tryz.prog 260 #[.int .u32 a.toNat, .int .u32 b.toNat] w (.bool (ltW a b)) := by
 refine enter Tryz.func260 rfl Tryz.ntmps260 rfl ?_
 refine ah (zz0 (ab rfl) (aI (zz0 (aa rfl) (zz0 (az rfl nO (fun w hw => qN a w)) ?_))))
 refine zz0 (aa rfl) ?_
 apply cH
 ·exact (rfl : _ = (4, 7, 11))
 ·exact rfl
 ·intro hT1; have hT1' := hT1
  try simp only [bs] at hT1'
  refine zz6 hT1 (aa rfl) (zz6 hT1 (az rfl nO (fun w hw => qN b w)) ?_)
  refine zz6 hT1 (cP rfl) (zz0 (aV rfl hT1 rfl) ?_)
  refine aD (ac ?_)
  exact aK (Sub.cons rfl (bD 4 rfl))
 ·intro hF1
  refine zz9 hF1 (zz9 hF1 (zz9 hF1 (zz0 (aU rfl hF1 rfl) ?_)))
  refine aD (ac ?_)
  exact aK (Sub.cons rfl (bD 4 rfl))
 refine zz0 (aa rfl) ?_
 apply dV
 ·exact (rfl : _ = (4, 12, 16))
 ·exact rfl
 ·intro hF2; have hF2' := hF2
  try simp only [bs] at hF2'
  refine zz6 hF2 (aa rfl) (zz6 hF2 (aa rfl) (zz6 hF2 (iu rfl rfl) ?_))
  refine zz0 (aU rfl hF2 rfl) ?_
  refine aD (ac ?_)
  exact aK (Sub.cons rfl (bD 4 rfl))
 ·intro hT2
  refine zz9 hT2 (zz9 hT2 (zz9 hT2 (zz0 (aV rfl hT2 rfl) ?_)))
  refine aD (ac ?_)
  exact aK (Sub.cons rfl (bD 4 rfl))
 refine zz0 (ab rfl) (ad (aC ?_))
 refine aX Tryz.results260 rfl (fun w' hw => ?_)
 exact ⟨by simp [ltW], hw.b0⟩
theorem uZ (d : Array UInt32) (V : Value) (a : Nat) (b : Nat) (ai : Int) (bi : Int) (ea : ai = ((a : Nat) : Int)) (eb : bi = ((b : Nat) : Int)) (w : World) (hr : (rowE V 23 al d.toList).holds w) (hd : d.size ≤ 1000000) (hab : a ≤ b) (hb : b ≤ d.size) :
  Calls Tryz.prog 254 #[V, .int .i64 ai, .int .i64 bi] w (fun e w' => e = .returned (.tuple #[]) ∧ Mut w w' V ∧ (rowE V 23 al (insertionSort ltW d a b).toList).holds w') := by
 subst ea eb
 refine fw (l := d.toList) (E := al) (T := 23) hr Tryz.func254 rfl Tryz.ntmps254 rfl ?_
 refine ah (zz0 (aa rfl) (zz0 (cB rfl rfl) ?_))
 refine zz0 (ab rfl) (ad (aF ?_))
 refine bL (ι := Nat × Array UInt32) (fun ⟨i, cur⟩ => a + 1 ≤ i ∧ cur.size = d.size ∧ insOuter ltW a b i cur = insertionSort ltW d a b) (fun _ => _) (fun ⟨i, cur⟩ => [rowE V 23 al cur.toList]) (fun ⟨i, cur⟩ => [(6, .int .i64 (i : Nat))]) (fun ⟨i, cur⟩ => b - i) (a + 1, d) ⟨Nat.le_refl _, rfl, rfl⟩ (Front.c Front.nil) (by repeat' constructor) rfl (fun i hi m hm => ?_)
 obtain ⟨i, cur⟩ := i
 replace hi : a + 1 ≤ i ∧ cur.size = d.size ∧ insOuter ltW a b i cur = insertionSort ltW d a b := hi
 replace hm : m = b - i := hm
 change Tr _ _ [rowE V 23 al cur.toList] ([(6, .int .i64 (i : Nat))] ++ _) _
 obtain ⟨hi1, hi2, hi3⟩ := hi
 have hcl : cur.toList.length = d.size := by rw [Array.length_toList]; exact hi2
 refine an (ah (zz0 (aa rfl) (zz0 (aa rfl) (zz0 (bT rfl rfl) (ad ?_)))))
 refine au rfl ?_ ?_ <;> intro h1 <;> try simp only [bs] at h1
 ·refine bC (an (aF (ah (zz0 (aa rfl) (zz0 (ab rfl) (ad (aF ?_)))))))
  refine bL (ι := Nat × Array UInt32) (fun ⟨j, c2⟩ => j ≤ i ∧ c2.size = d.size ∧ insInner ltW a j c2 = insInner ltW a i cur) (fun _ => _) (fun ⟨j, c2⟩ => [rowE V 23 al c2.toList]) (fun ⟨j, c2⟩ => [(7, .int .i64 (j : Nat))]) (fun ⟨j, c2⟩ => j) (i, cur) ⟨Nat.le_refl _, hi2, rfl⟩ (Front.c Front.nil) (by repeat' constructor) rfl (fun i hi m hm => ?_)
  obtain ⟨j, c2⟩ := i
  replace hi : j ≤ i ∧ c2.size = d.size ∧ insInner ltW a j c2 = insInner ltW a i cur := hi
  replace hm : m = j := hm
  change Tr _ _ [rowE V 23 al c2.toList] ([(7, .int .i64 (j : Nat))] ++ _) _
  obtain ⟨hj1, hj2, hj3⟩ := hi
  have ej : ((j : Int) - 1).toNat = j - 1 := by omega
  have hc2 : c2.toList.length = d.size := by rw [Array.length_toList]; exact hj2
  refine an (an (gZ aP ?_))
  refine aw (aa rfl) (aw (aa rfl) (aw (fg rfl rfl) (aw (aa rfl) ?_)))
  apply fx
  ·exact (rfl : _ = (11, 19, 30))
  ·exact rfl
  ·intro hT2; have hT2' := hT2
   try simp only [bs] at hT2'
   refine bX hT2 (aa rfl) (bX hT2 (aa rfl) (bX hT2 (zz7 rfl rfl af ae) ?_))
   refine bX hT2 (er rfl am) ?_
   refine bX hT2 (aa rfl) (bX hT2 (aa rfl) (bX hT2 (ei rfl rfl) ?_))
   refine bX hT2 (jm rfl rfl af ae) ?_
   refine bX hT2 (er rfl am) ?_
   refine bX hT2 (az rfl fj (fun w hw => gz (c2.toList.getD (j) default) (c2.toList.getD (((j : Int) - 1).toNat) default) w)) ?_
   refine aw (aV rfl hT2 rfl) ?_
   exact dj (Sub.cons rfl (bD 11 rfl))
  ·intro hF2
   refine bW hF2 (bW hF2 (bW hF2 (bW hF2 (bW hF2 (bW hF2 (bW hF2 (bW hF2 (bW hF2 (bW hF2 (aw (aU rfl hF2 rfl) ?_))))))))))
   exact dj (Sub.cons rfl (bD 11 rfl))
  refine bH ?_
  refine ac ?_
  refine au rfl ?_ ?_ <;> intro h3 <;> try simp only [bs] at h3
  ·refine bC (an (aF (fy 5 15 aP ?_)))
   refine eh rfl ?_
   refine eh rfl ?_
   refine eh rfl ?_
   refine eh rfl ?_
   refine gh (fun _ => ei rfl rfl) (by rfl) rfl ?_
   refine bE ?_
   refine aw (aa rfl) (aw (aa rfl) (aw (ei rfl rfl) ?_))
   refine aw (jm rfl rfl af ae) ?_
   refine aw (er rfl am) ?_
   refine aw (aa rfl) (aw (aa rfl) (aw (zz7 rfl rfl af ae) ?_))
   refine aw (er rfl am) ?_
   refine aw (zz7 rfl rfl af ae) ?_
   refine bH ?_
   refine fV (l := c2.toList) (i := j) (c2.toList.getD (((j : Int) - 1).toNat) default) rfl rfl ae ?_
   have hls4 : (List.set c2.toList (j) (c2.toList.getD (((j : Int) - 1).toNat) default)).length = (c2.toList).length := List.length_set
   refine zz0 (jm rfl rfl af ae) ?_
   refine fV (l := (c2.toList.set (j) (c2.toList.getD (((j : Int) - 1).toNat) default))) (i := ((j : Int) - 1).toNat) (c2.toList.getD (j) default) rfl rfl ae ?_
   have hls5 : (List.set (c2.toList.set (j) (c2.toList.getD (((j : Int) - 1).toNat) default)) (((j : Int) - 1).toNat) (c2.toList.getD (j) default)).length = ((c2.toList.set (j) (c2.toList.getD (((j : Int) - 1).toNat) default))).length := List.length_set
   refine aD (aY (ac (ar (zz0 (aa rfl) (zz0 (ei rfl rfl) ?_)))))
   refine zz0 (ab rfl) (ad ?_)
   rw [ej, dM, dM, ie]
   refine cK (j - 1, _) (Front.c Front.nil) (zz8 25 rfl) (o := ⟨by omega, by rw [nw]; exact hj2, by rw [← hj3]; exact (sV (d := c2) (a := a) (j := j) (by omega) (by have q := h3.2; rw [dM, dM, ej] at q; exact q)).symm⟩)
  refine bJ (aG (aG (bj (aY (ac (ar (zz0 (aa rfl) (zz0 (cB rfl rfl) ?_))))))))
  refine zz0 (ab rfl) (ad ?_)
  have hst : insInner ltW a j c2 = c2 := qK (by
   rcases h3 with q | q
   ·exact .inl (by omega)
   ·rw [dM, dM, ej] at q; exact .inr q)
  rw [hst] at hj3
  refine cK (i + 1, c2) (Front.c Front.nil) (zz8 15 rfl) (o := ⟨by omega, hj2, by rw [hj3, ← yx (by omega)]; exact hi3⟩)
 refine bJ (aG (aG (bj ?_)))
 refine fc Tryz.results254 (fun w' hw => ?_)
 rw [yy (by omega)] at hi3
 exact ⟨rfl, by rw [← hi3]; exact HpOK.mutOwn hw (.head _) rfl⟩
theorem xU (d : Array UInt32) (V : Value) (lo : Nat) (top : Nat) (f : Nat) (loi : Int) (topi : Int) (fi : Int) (elo : loi = ((lo : Nat) : Int)) (etop : topi = ((top : Nat) : Int)) (ef : fi = ((f : Nat) : Int)) (w : World) (hr : (rowE V 23 al d.toList).holds w) (hd : d.size ≤ 1000000) (hlo : lo ≤ 1000000) (hb : f + top ≤ d.size) :
  Calls Tryz.prog 293 #[V, .int .i64 loi, .int .i64 topi, .int .i64 fi] w (fun e w' => e = .returned (.tuple #[]) ∧ Mut w w' V ∧ (rowE V 23 al (siftDown ltW top f lo d).toList).holds w') := by
 subst elo etop ef
 refine fw (l := d.toList) (E := al) (T := 23) hr Tryz.func293 rfl Tryz.ntmps293 rfl ?_
 refine ah (zz0 (aa rfl) (zz0 (ab rfl) (ad (aF ?_))))
 refine bL (ι := Nat × Array UInt32) (fun ⟨r, cur⟩ => r ≤ 1000000 ∧ cur.size = d.size ∧ siftDown ltW top f r cur = siftDown ltW top f lo d) (fun _ => _) (fun ⟨r, cur⟩ => [rowE V 23 al cur.toList]) (fun ⟨r, cur⟩ => [(8, .int .i64 (r : Nat))]) (fun ⟨r, cur⟩ => top - r) (lo, d) ⟨hlo, rfl, rfl⟩ (Front.c Front.nil) (by repeat' constructor) rfl (fun i hi m hm => ?_)
 obtain ⟨r, cur⟩ := i
 replace hi : r ≤ 1000000 ∧ cur.size = d.size ∧ siftDown ltW top f r cur = siftDown ltW top f lo d := hi
 replace hm : m = top - r := hm
 change Tr _ _ [rowE V 23 al cur.toList] ([(8, .int .i64 (r : Nat))] ++ _) _
 obtain ⟨hr1, hr2, hr3⟩ := hi
 have hcl : cur.toList.length = d.size := by rw [Array.length_toList]; exact hr2
 refine aF (ah (zz0 (aa rfl) (zz0 (ko rfl rfl (by omega)) ?_)))
 refine zz0 (cB rfl rfl) ?_
 refine zz0 (ab rfl) (ad (an (ah (zz0 (aa rfl) (zz0 (aa rfl) (zz0 (eM rfl rfl) (ad ?_)))))))
 refine au rfl ?_ ?_ <;> intro h1 <;> try simp only [bs] at h1
 ·refine bJ (aG (jh rfl ?_))
  refine aG (bj ?_)
  refine fc Tryz.results293 (fun w' hw => ?_)
  rw [xW (by omega)] at hr3
  exact ⟨rfl, by rw [← hr3]; exact HpOK.mutOwn hw (.head _) rfl⟩
 refine bC ?_
 refine cZ (ι := Nat) (fun c => (2 * r + 1 ≤ c ∧ c < top) ∧ siftDown ltW top f r cur = if ltW cur[f + r]! cur[f + c]! = true then siftDown ltW top f c (swp cur (f + r) (f + c)) else cur) (fun _ => Bg.less w V) (fun c => [rowE V 23 al cur.toList]) (fun c => [(9, .int .i64 (c : Nat))]) ?_ (fun c hi => ?_)
 ·skip
  refine an (gZ aP ?_)
  refine aw (aa rfl) (aw (cB rfl rfl) ?_)
  refine aw (aa rfl) (aw (bT rfl rfl) (aw (aa rfl) ?_))
  apply fx
  ·exact (rfl : _ = (15, 21, 36))
  ·exact rfl
  ·intro hT2; have hT2' := hT2
   try simp only [bs] at hT2'
   refine bX hT2 (aa rfl) (bX hT2 (aa rfl) (bX hT2 (aa rfl) (bX hT2 (cB rfl rfl) ?_)))
   refine bX hT2 (jm rfl rfl af ae) ?_
   refine bX hT2 (er rfl am) ?_
   refine bX hT2 (aa rfl) (bX hT2 (aa rfl) (bX hT2 (aa rfl) (bX hT2 (cB rfl rfl) ?_)))
   refine bX hT2 (cB rfl rfl) ?_
   refine bX hT2 (jm rfl rfl af ae) ?_
   refine bX hT2 (er rfl am) ?_
   refine bX hT2 (az rfl fj (fun w hw => gz (cur.toList.getD (f + (2 * r + 1)) default) (cur.toList.getD (f + (2 * r + 1) + 1) default) w)) ?_
   refine aw (aV rfl hT2 rfl) ?_
   exact dj (Sub.cons rfl (bD 15 rfl))
  ·intro hF2
   refine bW hF2 (bW hF2 (bW hF2 (bW hF2 (bW hF2 (bW hF2 (bW hF2 (bW hF2 (bW hF2 (bW hF2 (bW hF2 (bW hF2 (bW hF2 (bW hF2 ?_)))))))))))))
   refine aw (aU rfl hF2 rfl) ?_
   exact dj (Sub.cons rfl (bD 15 rfl))
  refine bH ?_
  refine ac ?_
  refine au rfl ?_ ?_ <;> intro h3 <;> try simp only [bs] at h3
  ·refine ar (zz0 (aa rfl) (zz0 (cB rfl rfl) ?_))
   refine zz0 (ab rfl) (ad ?_)
   refine co (2 * r + 2) (Front.c Front.nil) (zz8 9 rfl) (o := ⟨by omega, Df (by omega) (by rw [← dM, ← dM]; exact h3.2)⟩)
  refine bC ?_
  apply ed (2 * r + 1)
  ·exact rfl
  ·exact (Front.c Front.nil)
  ·exact zz8 6 rfl
  ·exact (by repeat' constructor)
  exact ⟨by omega, Dg (by omega) (by
   rcases h3 with q | q
   ·exact .inl (by omega)
   ·exact .inr (by rw [← dM, ← dM]; exact q))⟩
 skip
 replace hi : (2 * r + 1 ≤ c ∧ c < top) ∧ siftDown ltW top f r cur = if ltW cur[f + r]! cur[f + c]! = true then siftDown ltW top f c (swp cur (f + r) (f + c)) else cur := hi
 change Tr _ _ [rowE V 23 al cur.toList] ([(9, .int .i64 (c : Nat))] ++ _) _
 obtain ⟨hc1, hc2⟩ := hi
 refine an (an (gZ aP ?_))
 refine aw (aa rfl) (aw (aa rfl) (aw (aa rfl) (aw (cB rfl rfl) ?_)))
 refine aw (zz7 rfl rfl af ae) ?_
 refine aw (er rfl am) ?_
 refine aw (aa rfl) (aw (aa rfl) (aw (aa rfl) (aw (cB rfl rfl) ?_)))
 refine aw (zz7 rfl rfl af ae) ?_
 refine aw (er rfl am) ?_
 refine aw (az rfl fj (fun w hw => gz (cur.toList.getD (f + r) default) (cur.toList.getD (f + c) default) w)) ?_
 refine aw (cP rfl) (bH ?_)
 refine ac ?_
 refine au rfl ?_ ?_ <;> intro h4 <;> try simp only [bs] at h4
 ·refine aC (ay (bv (ay (bv ?_))))
  refine lk Tryz.results293 (fun w' hw => ?_)
  rw [if_neg (by rw [← dM, ← dM]; simp_all)] at hc2
  exact ⟨rfl, by rw [← hr3, hc2]; exact HpOK.mutOwn hw (.head _) rfl⟩
 refine bC (an (fy 8 21 aP ?_))
 refine eh rfl ?_
 refine eh rfl ?_
 refine eh rfl ?_
 refine gh (fun _ => cB rfl rfl) (by rfl) rfl ?_
 refine eh rfl ?_
 refine eh rfl ?_
 refine eh rfl ?_
 refine gh (fun _ => cB rfl rfl) (by rfl) rfl ?_
 refine bE ?_
 refine aw (aa rfl) (aw (aa rfl) (aw (aa rfl) (aw (cB rfl rfl) ?_)))
 refine aw (zz7 rfl rfl af ae) ?_
 refine aw (er rfl am) ?_
 refine aw (aa rfl) (aw (aa rfl) (aw (aa rfl) (aw (cB rfl rfl) ?_)))
 refine aw (zz7 rfl rfl af ae) ?_
 refine aw (er rfl am) ?_
 refine aw (zz7 rfl rfl af ae) ?_
 refine bH ?_
 refine fV (l := cur.toList) (i := f + r) (cur.toList.getD (f + c) default) rfl rfl ae ?_
 have hls5 : (List.set cur.toList (f + r) (cur.toList.getD (f + c) default)).length = (cur.toList).length := List.length_set
 refine zz0 (zz7 rfl rfl af ae) ?_
 refine fV (l := (cur.toList.set (f + r) (cur.toList.getD (f + c) default))) (i := f + c) (cur.toList.getD (f + r) default) rfl rfl ae ?_
 have hls6 : (List.set (cur.toList.set (f + r) (cur.toList.getD (f + c) default)) (f + c) (cur.toList.getD (f + r) default)).length = ((cur.toList.set (f + r) (cur.toList.getD (f + c) default))).length := List.length_set
 refine ad (ar (zz0 (aa rfl) (zz0 (ab rfl) (aD (aY (ac ?_))))))
 rw [dM, dM, ie]
 have hst := hc2
 rw [if_pos (by rw [← dM, ← dM]; simp_all)] at hst
 refine cK (c, _) (Front.c Front.nil) (zz8 47 rfl) (o := ⟨by omega, by rw [nw]; exact hr2, by rw [← hr3]; exact hst.symm⟩)
theorem D9 (d : Array UInt32) (V : Value) (a : Nat) (b : Nat) (ai : Int) (bi : Int) (ea : ai = ((a : Nat) : Int)) (eb : bi = ((b : Nat) : Int)) (w : World) (hr : (rowE V 23 al d.toList).holds w) (hd : d.size ≤ 1000000) (hab : a < b) (hb : b ≤ d.size) :
  Calls Tryz.prog 255 #[V, .int .i64 ai, .int .i64 bi] w (fun e w' => e = .returned (.tuple #[]) ∧ Mut w w' V ∧ (rowE V 23 al (heapSort ltW d a b).toList).holds w') := by
 subst ea eb
 obtain ⟨n, hn⟩ : ∃ n, n = b - a := ⟨_, rfl⟩
 obtain ⟨d0, hd0⟩ : ∃ x, x = heapBuild ltW n a ((n - 1) / 2 + 1) d := ⟨_, rfl⟩
 have hhs : heapSort ltW d a b = heapPop ltW a n d0 := by rw [hd0, hn]; rfl
 refine fw (l := d.toList) (E := al) (T := 23) hr Tryz.func255 rfl Tryz.ntmps255 rfl ?_
 refine ah (zz0 (aa rfl) (zz0 (ab rfl) (aI (zz0 (ab rfl) (aI (zz0 (aa rfl) ?_))))))
 refine zz0 (aa rfl) (zz0 (ei rfl rfl) ?_)
 refine zz0 (ab rfl) (ad (an (an ?_)))
 rw [show ((b : Nat) : Int) - ((a : Nat) : Int) = ((n : Nat) : Int) by omega]
 refine ar (zz0 (aa rfl) (zz0 (ei rfl rfl) ?_))
 refine zz0 (nW rfl rfl (by omega)) ?_
 refine zz0 (ab rfl) (ad (aF ?_))
 refine bL (ι := Nat × Array UInt32) (fun ⟨k, cur⟩ => k ≤ (n - 1) / 2 + 1 ∧ cur.size = d.size ∧ heapBuild ltW n a k cur = d0) (fun _ => _) (fun ⟨k, cur⟩ => [rowE V 23 al cur.toList]) (fun ⟨k, cur⟩ => [(9, .int .i64 ((k : Int) - 1))]) (fun ⟨k, cur⟩ => k) ((n - 1) / 2 + 1, d) ⟨Nat.le_refl _, rfl, hd0.symm⟩ (Front.c Front.nil) (by repeat' constructor) rfl (fun i hi m hm => ?_)
 obtain ⟨k, cur⟩ := i
 replace hi : k ≤ (n - 1) / 2 + 1 ∧ cur.size = d.size ∧ heapBuild ltW n a k cur = d0 := hi
 replace hm : m = k := hm
 change Tr _ _ [rowE V 23 al cur.toList] ([(9, .int .i64 ((k : Int) - 1))] ++ _) _
 obtain ⟨hk1, hk2, hk3⟩ := hi
 have hcl : cur.toList.length = d.size := by rw [Array.length_toList]; exact hk2
 refine an (ah (zz0 (aa rfl) (zz0 (eM rfl rfl) (ad ?_))))
 refine au rfl ?_ ?_ <;> intro h1 <;> try simp only [bs] at h1
 ·refine bC (an (aF (ar (zz0 (aa rfl) (zz0 (aa rfl) (zz0 (aa rfl) (zz0 (aa rfl) (dW rfl Tryz.call293 (by repeat constructor) (fun w hw => xU cur V (k - 1) n a _ _ _ (by omega) (by omega) (by omega) w (hw.ent _ (.head _)) (by omega) (by omega) (by omega)) rfl ?_))))))))
  refine aD (aY (ac (ar (zz0 (aa rfl) (zz0 (ei rfl rfl) ?_)))))
  refine zz0 (ab rfl) (ad ?_)
  have hst : heapBuild ltW n a (k - 1) (siftDown ltW n a (k - 1) cur) = d0 := by
   obtain ⟨q, rfl⟩ : ∃ q, k = q + 1 := ⟨k - 1, by omega⟩
   exact hk3
  refine cK (k - 1, _) (Front.c Front.nil) (zz8 11 rfl) (o := ⟨by omega, by rw [Gy]; exact hk2, hst⟩)
 refine bJ (aG (aG (bj (ac (an ?_)))))
 obtain rfl : k = 0 := by omega
 have hd1 : cur = d0 := hk3
 subst hd1
 refine ar (zz0 (aa rfl) (zz0 (ei rfl rfl) ?_))
 refine zz0 (ab rfl) (ad (aF ?_))
 refine bL (ι := Nat × Array UInt32) (fun ⟨k, cur⟩ => k ≤ n ∧ cur.size = d.size ∧ heapPop ltW a k cur = heapSort ltW d a b) (fun _ => _) (fun ⟨k, cur⟩ => [rowE V 23 al cur.toList]) (fun ⟨k, cur⟩ => [(10, .int .i64 ((k : Int) - 1))]) (fun ⟨k, cur⟩ => k) (n, _) ⟨Nat.le_refl _, hk2, hhs.symm⟩ (Front.c Front.nil) (by repeat' constructor) rfl (fun i hi m hm => ?_)
 obtain ⟨k, cur⟩ := i
 replace hi : k ≤ n ∧ cur.size = d.size ∧ heapPop ltW a k cur = heapSort ltW d a b := hi
 replace hm : m = k := hm
 change Tr _ _ [rowE V 23 al cur.toList] ([(10, .int .i64 ((k : Int) - 1))] ++ _) _
 obtain ⟨hk1, hk2, hk3⟩ := hi
 have hcl : cur.toList.length = d.size := by rw [Array.length_toList]; exact hk2
 have ek : ((a : Int) + ((k : Int) - 1)).toNat = a + (k - 1) ∨ k = 0 := by omega
 refine an (ah (zz0 (aa rfl) (zz0 (eM rfl rfl) (ad ?_))))
 refine au rfl ?_ ?_ <;> intro h2 <;> try simp only [bs] at h2
 ·refine bC (an (aF (an (fy 6 17 aP ?_))))
  refine eh rfl ?_
  refine eh rfl ?_
  refine eh rfl ?_
  refine eh rfl ?_
  refine eh rfl ?_
  refine gh (fun _ => cB rfl rfl) (by rfl) rfl ?_
  refine bE ?_
  refine aw (aa rfl) (aw (aa rfl) (aw (aa rfl) (aw (cB rfl rfl) ?_)))
  refine aw (jm rfl rfl af ae) ?_
  refine aw (er rfl am) ?_
  refine aw (aa rfl) (aw (aa rfl) (aw (zz7 rfl rfl af ae) ?_))
  refine aw (er rfl am) ?_
  refine aw (zz7 rfl rfl af ae) ?_
  refine bH ?_
  refine fV (l := cur.toList) (i := a) (cur.toList.getD (((a : Int) + ((k : Int) - 1)).toNat) default) rfl rfl ae ?_
  have hls3 : (List.set cur.toList (a) (cur.toList.getD (((a : Int) + ((k : Int) - 1)).toNat) default)).length = (cur.toList).length := List.length_set
  refine zz0 (jm rfl rfl af ae) ?_
  refine fV (l := (cur.toList.set (a) (cur.toList.getD (((a : Int) + ((k : Int) - 1)).toNat) default))) (i := ((a : Int) + ((k : Int) - 1)).toNat) (cur.toList.getD (a) default) rfl rfl ae ?_
  have hls4 : (List.set (cur.toList.set (a) (cur.toList.getD (((a : Int) + ((k : Int) - 1)).toNat) default)) (((a : Int) + ((k : Int) - 1)).toNat) (cur.toList.getD (a) default)).length = ((cur.toList.set (a) (cur.toList.getD (((a : Int) + ((k : Int) - 1)).toNat) default))).length := List.length_set
  rw [ek.resolve_right (by omega), dM, dM, ie]
  refine ad (ar (zz0 (aa rfl) (zz0 (aa rfl) (zz0 (aa rfl) (zz0 (aa rfl) (dW rfl Tryz.call293 (by repeat constructor) (fun w hw => xU (swp cur a (a + (k - 1))) V 0 (k - 1) a _ _ _ (by omega) (by omega) (by omega) w (hw.ent _ (.head _)) (by rw [nw]; omega) (by omega) (by rw [nw]; omega)) rfl ?_))))))
  refine aD (aY (ac (ar (zz0 (aa rfl) (zz0 (ei rfl rfl) ?_)))))
  refine zz0 (ab rfl) (ad ?_)
  have hst : heapPop ltW a (k - 1) (siftDown ltW (k - 1) a 0 (swp cur a (a + (k - 1)))) = heapSort ltW d a b := by
   obtain ⟨q, rfl⟩ : ∃ q, k = q + 1 := ⟨k - 1, by omega⟩
   exact hk3
  refine cK (k - 1, _) (Front.c Front.nil) (zz8 29 rfl) (o := ⟨by omega, by rw [Gy, nw]; exact hk2, hst⟩)
 refine bJ (aG (aG (bj ?_)))
 refine fc Tryz.results255 (fun w' hw => ?_)
 obtain rfl : k = 0 := by omega
 exact ⟨rfl, by rw [← hk3]; exact HpOK.mutOwn hw (.head _) rfl⟩
theorem yb (d : Array UInt32) (V : Value) (a : Nat) (b : Nat) (ai : Int) (bi : Int) (ea : ai = ((a : Nat) : Int)) (eb : bi = ((b : Nat) : Int)) (w : World) (hr : (rowE V 23 al d.toList).holds w) (hd : d.size ≤ 1000000) (hab : a < b) (hb : b ≤ d.size) :
  Calls Tryz.prog 258 #[V, .int .i64 ai, .int .i64 bi] w (fun e w' => e = .returned (.tuple #[]) ∧ Mut w w' V ∧ (rowE V 23 al (reverseRange d a b).toList).holds w') := by
 subst ea eb
 refine fw (l := d.toList) (E := al) (T := 23) hr Tryz.func258 rfl Tryz.ntmps258 rfl ?_
 refine ah (zz0 (aa rfl) (zz0 (ab rfl) (aI (zz0 (aa rfl) (zz0 (ei rfl rfl) ?_)))))
 refine zz0 (ab rfl) (ad (aF ?_))
 refine bL (ι := Nat × Nat × Array UInt32) (fun ⟨i, j, cur⟩ => (a ≤ i ∧ j < b) ∧ cur.size = d.size ∧ reverseLoop i j cur = reverseRange d a b) (fun _ => _) (fun ⟨i, j, cur⟩ => [rowE V 23 al cur.toList]) (fun ⟨i, j, cur⟩ => [(6, .int .i64 (i : Nat)), (7, .int .i64 (j : Nat))]) (fun ⟨i, j, cur⟩ => j - i) (a, b - 1, d) ⟨⟨Nat.le_refl _, by omega⟩, rfl, rfl⟩ (Front.c (Front.c Front.nil)) (by repeat' constructor) rfl (fun i hi m hm => ?_)
 obtain ⟨i, j, cur⟩ := i
 replace hi : (a ≤ i ∧ j < b) ∧ cur.size = d.size ∧ reverseLoop i j cur = reverseRange d a b := hi
 replace hm : m = j - i := hm
 change Tr _ _ [rowE V 23 al cur.toList] ([(6, .int .i64 (i : Nat)), (7, .int .i64 (j : Nat))] ++ _) _
 obtain ⟨hi1, hi2, hi3⟩ := hi
 have hcl : cur.toList.length = d.size := by rw [Array.length_toList]; exact hi2
 refine an (ah (zz0 (aa rfl) (zz0 (aa rfl) (zz0 (bT rfl rfl) (ad ?_)))))
 refine au rfl ?_ ?_ <;> intro h1 <;> try simp only [bs] at h1
 ·refine bC (aF (an (fy 4 13 aP ?_)))
  refine eh rfl ?_
  refine eh rfl ?_
  refine eh rfl ?_
  refine eh rfl ?_
  refine bE ?_
  refine aw (aa rfl) (aw (aa rfl) (aw (zz7 rfl rfl af ae) ?_))
  refine aw (er rfl am) ?_
  refine aw (aa rfl) (aw (aa rfl) (aw (zz7 rfl rfl af ae) ?_))
  refine aw (er rfl am) ?_
  refine aw (zz7 rfl rfl af ae) ?_
  refine bH ?_
  refine fV (l := cur.toList) (i := i) (cur.toList.getD (j) default) rfl rfl ae ?_
  have hls2 : (List.set cur.toList (i) (cur.toList.getD (j) default)).length = (cur.toList).length := List.length_set
  refine zz0 (zz7 rfl rfl af ae) ?_
  refine fV (l := (cur.toList.set (i) (cur.toList.getD (j) default))) (i := j) (cur.toList.getD (i) default) rfl rfl ae ?_
  have hls3 : (List.set (cur.toList.set (i) (cur.toList.getD (j) default)) (j) (cur.toList.getD (i) default)).length = ((cur.toList.set (i) (cur.toList.getD (j) default))).length := List.length_set
  refine aI (zz0 (aa rfl) (zz0 (cB rfl rfl) ?_))
  refine zz0 (ab rfl) (ad (ar (zz0 (aa rfl) (zz0 (ei rfl rfl) ?_))))
  refine zz0 (ab rfl) (aD (aY (ac ?_)))
  rw [dM, dM, ie]
  refine cK (i + 1, j - 1, _) (Front.c (Front.c Front.nil)) (zz8 25 rfl) (o := ⟨⟨by omega, by omega⟩, by rw [nw]; exact hi2, by rw [← GO (by omega)]; exact hi3⟩)
 refine bJ (aG (aG (bj ?_)))
 refine fc Tryz.results258 (fun w' hw => ?_)
 rw [Dt (by omega)] at hi3
 exact ⟨rfl, by rw [← hi3]; exact HpOK.mutOwn hw (.head _) rfl⟩
theorem uV (d : Array UInt32) (V : Value) (a : Nat) (b : Nat) (p : Nat) (ai : Int) (bi : Int) (pi : Int) (ea : ai = ((a : Nat) : Int)) (eb : bi = ((b : Nat) : Int)) (ep : pi = ((p : Nat) : Int)) (w : World) (hr : (rowE V 23 al d.toList).holds w) (hd : d.size ≤ 1000000) (hab : a + 1 < b) (hb : b ≤ d.size) (hp : p < b) :
  Calls Tryz.prog 262 #[V, .int .i64 ai, .int .i64 bi, .int .i64 pi] w (fun e w' => e = .returned (.tuple #[.int .i64 ((partition ltW d a b p).1 : Nat), .bool (partition ltW d a b p).2.1]) ∧ Mut w w' V ∧ (rowE V 23 al (partition ltW d a b p).2.2.toList).holds w') := by
 subst ea eb ep
 obtain ⟨d1, hd1⟩ : ∃ x, x = swp d a p := ⟨_, rfl⟩
 have hs1 : d1.size = d.size := by rw [hd1, nw]
 have hl0 : d.toList.length = d.size := Array.length_toList
 have hl1 : d1.toList.length = d.size := by rw [Array.length_toList]; exact hs1
 obtain ⟨P, hP⟩ : ∃ P : UInt32 → Bool, P = fun x => ltW x d1[a]! := ⟨_, rfl⟩
 refine fw (l := d.toList) (E := al) (T := 23) hr Tryz.func262 rfl Tryz.ntmps262 rfl ?_
 refine ah (zz0 (ab rfl) (zz0 (ab rfl) (ad (an (fy 4 13 aP ?_)))))
 refine eh rfl ?_
 refine eh rfl ?_
 refine eh rfl ?_
 refine eh rfl ?_
 refine bE ?_
 refine aw (aa rfl) (aw (aa rfl) (aw (zz7 rfl rfl af ae) ?_))
 refine aw (er rfl am) ?_
 refine aw (aa rfl) (aw (aa rfl) (aw (zz7 rfl rfl af ae) ?_))
 refine aw (er rfl am) ?_
 refine aw (zz7 rfl rfl af ae) ?_
 refine bH ?_
 refine fV (l := d.toList) (i := a) (d.toList.getD (p) default) rfl rfl ae ?_
 have hls1 : (List.set d.toList (a) (d.toList.getD (p) default)).length = (d.toList).length := List.length_set
 refine zz0 (zz7 rfl rfl af ae) ?_
 refine fV (l := (d.toList.set (a) (d.toList.getD (p) default))) (i := p) (d.toList.getD (a) default) rfl rfl ae ?_
 have hls2 : (List.set (d.toList.set (a) (d.toList.getD (p) default)) (p) (d.toList.getD (a) default)).length = ((d.toList.set (a) (d.toList.getD (p) default))).length := List.length_set
 rw [dM, dM, ie, ← hd1]
 refine aI (zz0 (aa rfl) (zz0 (cB rfl rfl) ?_))
 refine zz0 (aa rfl) (zz0 (ei rfl rfl) ?_)
 refine zz0 (ab rfl) (zz0 (ab rfl) (ad (an (aF ?_))))
 refine bL (ι := Nat) (fun i => a + 1 ≤ i ∧ i ≤ b ∧ scanUp (fun x => ltW x d1[a]!) d1 (b - 1) i = scanUp (fun x => ltW x d1[a]!) d1 (b - 1) (a + 1)) (fun _ => _) (fun i => [rowE V 23 al d1.toList]) (fun i => [(10, .int .i64 (i : Nat)), (11, .int .i64 ((b : Int) - 1))]) (fun i => b - i) (a + 1) ⟨Nat.le_refl _, by omega, rfl⟩ (Front.c (Front.c Front.nil)) (by repeat' constructor) rfl (fun i hi m hm => ?_)
 replace hi : a + 1 ≤ i ∧ i ≤ b ∧ scanUp (fun x => ltW x d1[a]!) d1 (b - 1) i = scanUp (fun x => ltW x d1[a]!) d1 (b - 1) (a + 1) := hi
 replace hm : m = b - i := hm
 change Tr _ _ [rowE V 23 al d1.toList] ([(10, .int .i64 (i : Nat)), (11, .int .i64 ((b : Int) - 1))] ++ _) _
 obtain ⟨hi1, hi2, hi3⟩ := hi
 refine an (an (gZ aP ?_))
 refine aw (aa rfl) (aw (aa rfl) (aw (fX rfl rfl) (aw (aa rfl) ?_)))
 apply fx
 ·exact (rfl : _ = (10, 33, 43))
 ·exact rfl
 ·intro hT3; have hT3' := hT3
  try simp only [bs] at hT3'
  refine bX hT3 (aa rfl) (bX hT3 (aa rfl) (bX hT3 (zz7 rfl rfl af ae) ?_))
  refine bX hT3 (er rfl am) ?_
  refine bX hT3 (aa rfl) (bX hT3 (aa rfl) (bX hT3 (zz7 rfl rfl af ae) ?_))
  refine bX hT3 (er rfl am) ?_
  refine bX hT3 (az rfl fj (fun w hw => gz (d1.toList.getD (i) default) (d1.toList.getD (a) default) w)) ?_
  refine aw (aV rfl hT3 rfl) ?_
  exact dj (Sub.cons rfl (bD 10 rfl))
 ·intro hF3
  refine bW hF3 (bW hF3 (bW hF3 (bW hF3 (bW hF3 (bW hF3 (bW hF3 (bW hF3 (bW hF3 (aw (aU rfl hF3 rfl) ?_)))))))))
  exact dj (Sub.cons rfl (bD 10 rfl))
 refine bH ?_
 refine ac ?_
 refine au rfl ?_ ?_ <;> intro h4 <;> try simp only [bs] at h4
 ·refine bC (aF (ar (zz0 (aa rfl) (zz0 (cB rfl rfl) ?_))))
  refine zz0 (ab rfl) (aD (aY (ac ?_)))
  refine cK (i + 1) (Front.c (Front.c Front.nil)) (zz8 10 rfl) (o := ⟨by omega, by omega, by rw [← hi3]; exact (C3 (by omega) (by rw [← dM, ← dM]; exact h4.2)).symm⟩)
 refine bJ (aG (aG (bj (ac (an (aF ?_))))))
 refine bL (ι := Nat) (fun j => j < b ∧ i ≤ j + 1 ∧ scanDown (fun x => !ltW x d1[a]!) d1 i j = scanDown (fun x => !ltW x d1[a]!) d1 i (b - 1)) (fun _ => _) (fun j => [rowE V 23 al d1.toList]) (fun j => [(10, .int .i64 (i : Nat)), (11, .int .i64 (j : Nat))]) (fun j => j) (b - 1) ⟨by omega, by omega, rfl⟩ (Front.c (Front.c Front.nil)) (by repeat' constructor) rfl (fun j hi m hm => ?_)
 replace hi : j < b ∧ i ≤ j + 1 ∧ scanDown (fun x => !ltW x d1[a]!) d1 i j = scanDown (fun x => !ltW x d1[a]!) d1 i (b - 1) := hi
 replace hm : m = j := hm
 change Tr _ _ [rowE V 23 al d1.toList] ([(10, .int .i64 (i : Nat)), (11, .int .i64 (j : Nat))] ++ _) _
 obtain ⟨hj1, hj2, hj3⟩ := hi
 refine an (an (gZ aP ?_))
 refine aw (aa rfl) (aw (aa rfl) (aw (fX rfl rfl) (aw (aa rfl) ?_)))
 apply fx
 ·exact (rfl : _ = (11, 49, 60))
 ·exact rfl
 ·intro hT5; have hT5' := hT5
  try simp only [bs] at hT5'
  refine bX hT5 (aa rfl) (bX hT5 (aa rfl) (bX hT5 (zz7 rfl rfl af ae) ?_))
  refine bX hT5 (er rfl am) ?_
  refine bX hT5 (aa rfl) (bX hT5 (aa rfl) (bX hT5 (zz7 rfl rfl af ae) ?_))
  refine bX hT5 (er rfl am) ?_
  refine bX hT5 (az rfl fj (fun w hw => gz (d1.toList.getD (j) default) (d1.toList.getD (a) default) w)) ?_
  refine bX hT5 (cP rfl) (aw (aV rfl hT5 rfl) ?_)
  exact dj (Sub.cons rfl (bD 11 rfl))
 ·intro hF5
  refine bW hF5 (bW hF5 (bW hF5 (bW hF5 (bW hF5 (bW hF5 (bW hF5 (bW hF5 (bW hF5 (bW hF5 (aw (aU rfl hF5 rfl) ?_))))))))))
  exact dj (Sub.cons rfl (bD 11 rfl))
 refine bH ?_
 refine ac ?_
 refine au rfl ?_ ?_ <;> intro h6 <;> try simp only [bs] at h6
 ·refine bC (aF (ar (zz0 (aa rfl) (zz0 (ei rfl rfl) ?_))))
  refine zz0 (ab rfl) (aD (aY (ac ?_)))
  refine cK (j - 1) (Front.c (Front.c Front.nil)) (zz8 10 rfl) (o := ⟨by omega, by omega, by rw [← hj3]; exact (wU (by omega) (by omega) (by rw [← dM, ← dM]; simp_all)).symm⟩)
 refine bJ (aG (aG (bj (ac (an (an ?_))))))
 have hI : scanUp (fun x => ltW x d1[a]!) d1 (b - 1) (a + 1) = i := by
  rw [← hi3]; exact wm (by
   rcases h4 with q | q
   ·exact .inl (by omega)
   ·exact .inr (by rw [← dM, ← dM]; exact q))
 have hJ : scanDown (fun x => !ltW x d1[a]!) d1 i (b - 1) = j := by
  rw [← hj3]; exact rY (by
   rcases h6 with q | q
   ·exact .inl (by omega)
   ·exact .inr (by rw [← dM, ← dM, q]; rfl))
 refine ar (zz0 (aa rfl) (zz0 (aa rfl) (zz0 (fg rfl rfl) (ad ?_))))
 refine au rfl ?_ ?_ <;> intro h7 <;> try simp only [bs] at h7
 ·refine an (fy 4 13 aP ?_)
  refine eh rfl ?_
  refine eh rfl ?_
  refine eh rfl ?_
  refine eh rfl ?_
  refine bE ?_
  refine aw (aa rfl) (aw (aa rfl) (aw (zz7 rfl rfl af ae) ?_))
  refine aw (er rfl am) ?_
  refine aw (aa rfl) (aw (aa rfl) (aw (zz7 rfl rfl af ae) ?_))
  refine aw (er rfl am) ?_
  refine aw (zz7 rfl rfl af ae) ?_
  refine bH ?_
  refine fV (l := d1.toList) (i := j) (d1.toList.getD (a) default) rfl rfl ae ?_
  have hls8 : (List.set d1.toList (j) (d1.toList.getD (a) default)).length = (d1.toList).length := List.length_set
  refine zz0 (zz7 rfl rfl af ae) ?_
  refine fV (l := (d1.toList.set (j) (d1.toList.getD (a) default))) (i := a) (d1.toList.getD (j) default) rfl rfl ae ?_
  have hls9 : (List.set (d1.toList.set (j) (d1.toList.getD (a) default)) (a) (d1.toList.getD (j) default)).length = ((d1.toList.set (j) (d1.toList.getD (a) default))).length := List.length_set
  rw [dM, dM, ie]
  refine aI (zz0 (aa rfl) (zz0 (ab rfl) (zz0 (ab rfl) (ad (aC (ay ?_))))))
  refine dE Tryz.results262 rfl rfl (fun w' hw => ?_)
  have hpt : partition ltW d a b p = (j, true, swp d1 j a) := by
   unfold partition; simp only [← hd1, hI, hJ]; rw [if_pos (by omega)]
  exact ⟨by rw [hpt], by rw [hpt]; exact HpOK.mutOwn hw (.head _) rfl⟩
 refine bC (an ?_)
 have hij : i < j := by
  rcases Nat.lt_or_ge i j with q | q
  ·exact q
  ·exfalso
   have e : i = j := by omega
   rcases h4 with g1 | g1
   ·omega
   ·rcases h6 with g2 | g2
    ·omega
    ·rw [e, g2] at g1; cases g1
 refine fy 4 13 aP ?_
 refine eh rfl ?_
 refine eh rfl ?_
 refine eh rfl ?_
 refine eh rfl ?_
 refine bE ?_
 refine aw (aa rfl) (aw (aa rfl) (aw (zz7 rfl rfl af ae) ?_))
 refine aw (er rfl am) ?_
 refine aw (aa rfl) (aw (aa rfl) (aw (zz7 rfl rfl af ae) ?_))
 refine aw (er rfl am) ?_
 refine aw (zz7 rfl rfl af ae) ?_
 refine bH ?_
 refine fV (l := d1.toList) (i := i) (d1.toList.getD (j) default) rfl rfl ae ?_
 have hls10 : (List.set d1.toList (i) (d1.toList.getD (j) default)).length = (d1.toList).length := List.length_set
 refine zz0 (zz7 rfl rfl af ae) ?_
 refine fV (l := (d1.toList.set (i) (d1.toList.getD (j) default))) (i := j) (d1.toList.getD (i) default) rfl rfl ae ?_
 have hls11 : (List.set (d1.toList.set (i) (d1.toList.getD (j) default)) (j) (d1.toList.getD (i) default)).length = ((d1.toList.set (i) (d1.toList.getD (j) default))).length := List.length_set
 rw [dM, dM, ie]
 refine aI (zz0 (aa rfl) (zz0 (cB rfl rfl) ?_))
 refine zz0 (ab rfl) (aI (zz0 (aa rfl) (zz0 (ei rfl rfl) ?_)))
 refine zz0 (ab rfl) (ad (an (aF ?_)))
 refine bL (ι := Nat × Nat × Array UInt32) (fun ⟨i3, j3, cur⟩ => (a + 1 ≤ i3 ∧ i3 ≤ j3 + 1 ∧ j3 < b) ∧ cur.size = d.size ∧ partLoop ltW a i3 j3 cur = partLoop ltW a (i + 1) (j - 1) (swp d1 i j)) (fun _ => _) (fun ⟨i3, j3, cur⟩ => [rowE V 23 al cur.toList]) (fun ⟨i3, j3, cur⟩ => [(10, .int .i64 (i3 : Nat)), (11, .int .i64 (j3 : Nat))]) (fun ⟨i3, j3, cur⟩ => j3 + 1 - i3) (i + 1, j - 1, swp d1 i j) ⟨by omega, by rw [nw]; exact hs1, rfl⟩ (Front.c (Front.c Front.nil)) (by repeat' constructor) rfl (fun i hi m hm => ?_)
 obtain ⟨i3, j3, cur⟩ := i
 replace hi : (a + 1 ≤ i3 ∧ i3 ≤ j3 + 1 ∧ j3 < b) ∧ cur.size = d.size ∧ partLoop ltW a i3 j3 cur = partLoop ltW a (i + 1) (j - 1) (swp d1 i j) := hi
 replace hm : m = j3 + 1 - i3 := hm
 change Tr _ _ [rowE V 23 al cur.toList] ([(10, .int .i64 (i3 : Nat)), (11, .int .i64 (j3 : Nat))] ++ _) _
 obtain ⟨hk1, hk2, hk3⟩ := hi
 have hcl : cur.toList.length = d.size := by rw [Array.length_toList]; exact hk2
 refine aF (an (aF ?_))
 refine bL (ι := Nat) (fun x => i3 ≤ x ∧ x ≤ j3 + 1 ∧ scanUp (fun z => ltW z cur[a]!) cur j3 x = scanUp (fun z => ltW z cur[a]!) cur j3 i3) (fun _ => _) (fun x => [rowE V 23 al cur.toList]) (fun x => [(10, .int .i64 (x : Nat)), (11, .int .i64 (j3 : Nat))]) (fun x => j3 + 1 - x) i3 ⟨Nat.le_refl _, by omega, rfl⟩ (Front.c (Front.c Front.nil)) (by repeat' constructor) rfl (fun x hi m hm => ?_)
 replace hi : i3 ≤ x ∧ x ≤ j3 + 1 ∧ scanUp (fun z => ltW z cur[a]!) cur j3 x = scanUp (fun z => ltW z cur[a]!) cur j3 i3 := hi
 replace hm : m = j3 + 1 - x := hm
 change Tr _ _ [rowE V 23 al cur.toList] ([(10, .int .i64 (x : Nat)), (11, .int .i64 (j3 : Nat))] ++ _) _
 obtain ⟨hx1, hx2, hx3⟩ := hi
 refine an (an (gZ aP ?_))
 refine aw (aa rfl) (aw (aa rfl) (aw (fX rfl rfl) (aw (aa rfl) ?_)))
 apply fx
 ·exact (rfl : _ = (10, 102, 112))
 ·exact rfl
 ·intro hT12; have hT12' := hT12
  try simp only [bs] at hT12'
  refine bX hT12 (aa rfl) (bX hT12 (aa rfl) (bX hT12 (zz7 rfl rfl af ae) ?_))
  refine bX hT12 (er rfl am) ?_
  refine bX hT12 (aa rfl) (bX hT12 (aa rfl) (bX hT12 (zz7 rfl rfl af ae) ?_))
  refine bX hT12 (er rfl am) ?_
  refine bX hT12 (az rfl fj (fun w hw => gz (cur.toList.getD (x) default) (cur.toList.getD (a) default) w)) ?_
  refine aw (aV rfl hT12 rfl) ?_
  exact dj (Sub.cons rfl (bD 10 rfl))
 ·intro hF12
  refine bW hF12 (bW hF12 (bW hF12 (bW hF12 (bW hF12 (bW hF12 (bW hF12 (bW hF12 (bW hF12 (aw (aU rfl hF12 rfl) ?_)))))))))
  exact dj (Sub.cons rfl (bD 10 rfl))
 refine bH ?_
 refine ac ?_
 refine au rfl ?_ ?_ <;> intro h13 <;> try simp only [bs] at h13
 ·refine bC (aF (ar (zz0 (aa rfl) (zz0 (cB rfl rfl) ?_))))
  refine zz0 (ab rfl) (aD (aY (ac ?_)))
  refine cK (x + 1) (Front.c (Front.c Front.nil)) (zz8 10 rfl) (o := ⟨by omega, by omega, by rw [← hx3]; exact (C3 (by omega) (by rw [← dM, ← dM]; simp_all)).symm⟩)
 refine bJ (aG (aG (bj (ac (an (aF ?_))))))
 refine bL (ι := Nat) (fun y => y ≤ j3 ∧ x ≤ y + 1 ∧ scanDown (fun z => !ltW z cur[a]!) cur x y = scanDown (fun z => !ltW z cur[a]!) cur x j3) (fun _ => _) (fun y => [rowE V 23 al cur.toList]) (fun y => [(10, .int .i64 (x : Nat)), (11, .int .i64 (y : Nat))]) (fun y => y) j3 ⟨Nat.le_refl _, by omega, rfl⟩ (Front.c (Front.c Front.nil)) (by repeat' constructor) rfl (fun y hi m hm => ?_)
 replace hi : y ≤ j3 ∧ x ≤ y + 1 ∧ scanDown (fun z => !ltW z cur[a]!) cur x y = scanDown (fun z => !ltW z cur[a]!) cur x j3 := hi
 replace hm : m = y := hm
 change Tr _ _ [rowE V 23 al cur.toList] ([(10, .int .i64 (x : Nat)), (11, .int .i64 (y : Nat))] ++ _) _
 obtain ⟨hy1, hy2, hy3⟩ := hi
 refine an (an (gZ aP ?_))
 refine aw (aa rfl) (aw (aa rfl) (aw (fX rfl rfl) (aw (aa rfl) ?_)))
 apply fx
 ·exact (rfl : _ = (11, 118, 129))
 ·exact rfl
 ·intro hT14; have hT14' := hT14
  try simp only [bs] at hT14'
  refine bX hT14 (aa rfl) (bX hT14 (aa rfl) (bX hT14 (zz7 rfl rfl af ae) ?_))
  refine bX hT14 (er rfl am) ?_
  refine bX hT14 (aa rfl) (bX hT14 (aa rfl) (bX hT14 (zz7 rfl rfl af ae) ?_))
  refine bX hT14 (er rfl am) ?_
  refine bX hT14 (az rfl fj (fun w hw => gz (cur.toList.getD (y) default) (cur.toList.getD (a) default) w)) ?_
  refine bX hT14 (cP rfl) (aw (aV rfl hT14 rfl) ?_)
  exact dj (Sub.cons rfl (bD 11 rfl))
 ·intro hF14
  refine bW hF14 (bW hF14 (bW hF14 (bW hF14 (bW hF14 (bW hF14 (bW hF14 (bW hF14 (bW hF14 (bW hF14 (aw (aU rfl hF14 rfl) ?_))))))))))
  exact dj (Sub.cons rfl (bD 11 rfl))
 refine bH ?_
 refine ac ?_
 refine au rfl ?_ ?_ <;> intro h15 <;> try simp only [bs] at h15
 ·refine bC (aF (ar (zz0 (aa rfl) (zz0 (ei rfl rfl) ?_))))
  refine zz0 (ab rfl) (aD (aY (ac ?_)))
  refine cK (y - 1) (Front.c (Front.c Front.nil)) (zz8 10 rfl) (o := ⟨by omega, by omega, by rw [← hy3]; exact (wU (by omega) (by omega) (by rw [← dM, ← dM]; simp_all)).symm⟩)
 refine bJ (aG (aG (bj (ac (an (an ?_))))))
 have hX : scanUp (fun z => ltW z cur[a]!) cur j3 i3 = x := by
  rw [← hx3]; exact wm (by
   rcases h13 with q | q
   ·exact .inl (by omega)
   ·exact .inr (by rw [← dM, ← dM]; exact q))
 have hY : scanDown (fun z => !ltW z cur[a]!) cur x j3 = y := by
  rw [← hy3]; exact rY (by
   rcases h15 with q | q
   ·exact .inl (by omega)
   ·exact .inr (by rw [← dM, ← dM, q]; rfl))
 refine ar (zz0 (aa rfl) (zz0 (aa rfl) (zz0 (fg rfl rfl) (ad ?_))))
 refine au rfl ?_ ?_ <;> intro h16 <;> try simp only [bs] at h16
 ·refine bJ (aG (jh rfl ?_))
  refine aG (bj (ac (an (fy 4 13 aP ?_))))
  refine eh rfl ?_
  refine eh rfl ?_
  refine eh rfl ?_
  refine eh rfl ?_
  refine bE ?_
  refine aw (aa rfl) (aw (aa rfl) (aw (zz7 rfl rfl af ae) ?_))
  refine aw (er rfl am) ?_
  refine aw (aa rfl) (aw (aa rfl) (aw (zz7 rfl rfl af ae) ?_))
  refine aw (er rfl am) ?_
  refine aw (zz7 rfl rfl af ae) ?_
  refine bH ?_
  refine fV (l := cur.toList) (i := y) (cur.toList.getD (a) default) rfl rfl ae ?_
  have hls17 : (List.set cur.toList (y) (cur.toList.getD (a) default)).length = (cur.toList).length := List.length_set
  refine zz0 (zz7 rfl rfl af ae) ?_
  refine fV (l := (cur.toList.set (y) (cur.toList.getD (a) default))) (i := a) (cur.toList.getD (y) default) rfl rfl ae ?_
  have hls18 : (List.set (cur.toList.set (y) (cur.toList.getD (a) default)) (a) (cur.toList.getD (y) default)).length = ((cur.toList.set (y) (cur.toList.getD (a) default))).length := List.length_set
  rw [dM, dM, ie]
  refine aI (zz0 (aa rfl) (zz0 (ab rfl) (zz0 (ab rfl) (ad (aC ?_)))))
  refine dE Tryz.results262 rfl rfl (fun w' hw => ?_)
  have he := DN hX hY (by omega)
  have hpt : partition ltW d a b p = (y, false, swp cur y a) := by
   unfold partition; simp only [← hd1, hI, hJ]; rw [if_neg (by omega), ← hk3, he]
  exact ⟨by rw [hpt], by rw [hpt]; exact HpOK.mutOwn hw (.head _) rfl⟩
 refine bC (an ?_)
 have hxy : x < y := by
  rcases Nat.lt_or_ge x y with q | q
  ·exact q
  ·exfalso
   have e : x = y := by omega
   rcases h13 with g1 | g1
   ·omega
   ·rcases h15 with g2 | g2
    ·omega
    ·rw [e, g2] at g1; cases g1
 refine fy 4 13 aP ?_
 refine eh rfl ?_
 refine eh rfl ?_
 refine eh rfl ?_
 refine eh rfl ?_
 refine bE ?_
 refine aw (aa rfl) (aw (aa rfl) (aw (zz7 rfl rfl af ae) ?_))
 refine aw (er rfl am) ?_
 refine aw (aa rfl) (aw (aa rfl) (aw (zz7 rfl rfl af ae) ?_))
 refine aw (er rfl am) ?_
 refine aw (zz7 rfl rfl af ae) ?_
 refine bH ?_
 refine fV (l := cur.toList) (i := x) (cur.toList.getD (y) default) rfl rfl ae ?_
 have hls19 : (List.set cur.toList (x) (cur.toList.getD (y) default)).length = (cur.toList).length := List.length_set
 refine zz0 (zz7 rfl rfl af ae) ?_
 refine fV (l := (cur.toList.set (x) (cur.toList.getD (y) default))) (i := y) (cur.toList.getD (x) default) rfl rfl ae ?_
 have hls20 : (List.set (cur.toList.set (x) (cur.toList.getD (y) default)) (y) (cur.toList.getD (x) default)).length = ((cur.toList.set (x) (cur.toList.getD (y) default))).length := List.length_set
 refine aI (zz0 (aa rfl) (zz0 (cB rfl rfl) ?_))
 refine zz0 (ab rfl) (ad (ar (zz0 (aa rfl) (zz0 (ei rfl rfl) ?_))))
 refine zz0 (ab rfl) (aD (aY (ac ?_)))
 rw [dM, dM, ie]
 refine cK (x + 1, y - 1, _) (Front.c (Front.c Front.nil)) (zz8 39 rfl) (o := ⟨by omega, by rw [nw]; exact hk2, by rw [← hk3]; exact (yg hX hY hxy hx1 hy1).symm⟩)
theorem sU (d : Array UInt32) (V : Value) (a : Nat) (b : Nat) (p : Nat) (ai : Int) (bi : Int) (pi : Int) (ea : ai = ((a : Nat) : Int)) (eb : bi = ((b : Nat) : Int)) (ep : pi = ((p : Nat) : Int)) (w : World) (hr : (rowE V 23 al d.toList).holds w) (hd : d.size ≤ 1000000) (hab : a + 1 < b) (hb : b ≤ d.size) (hp : p < b) :
  Calls Tryz.prog 261 #[V, .int .i64 ai, .int .i64 bi, .int .i64 pi] w (fun e w' => e = .returned (.int .i64 ((partitionEqual ltW d a b p).1 : Nat)) ∧ Mut w w' V ∧ (rowE V 23 al (partitionEqual ltW d a b p).2.toList).holds w') := by
 subst ea eb ep
 obtain ⟨d1, hd1⟩ : ∃ x, x = swp d a p := ⟨_, rfl⟩
 have hs1 : d1.size = d.size := by rw [hd1, nw]
 have hl0 : d.toList.length = d.size := Array.length_toList
 have hl1 : d1.toList.length = d.size := by rw [Array.length_toList]; exact hs1
 refine fw (l := d.toList) (E := al) (T := 23) hr Tryz.func261 rfl Tryz.ntmps261 rfl ?_
 refine ah (zz0 (ab rfl) (ad (an (fy 4 13 aP ?_))))
 refine eh rfl ?_
 refine eh rfl ?_
 refine eh rfl ?_
 refine eh rfl ?_
 refine bE ?_
 refine aw (aa rfl) (aw (aa rfl) (aw (zz7 rfl rfl af ae) ?_))
 refine aw (er rfl am) ?_
 refine aw (aa rfl) (aw (aa rfl) (aw (zz7 rfl rfl af ae) ?_))
 refine aw (er rfl am) ?_
 refine aw (zz7 rfl rfl af ae) ?_
 refine bH ?_
 refine fV (l := d.toList) (i := a) (d.toList.getD (p) default) rfl rfl ae ?_
 have hls1 : (List.set d.toList (a) (d.toList.getD (p) default)).length = (d.toList).length := List.length_set
 refine zz0 (zz7 rfl rfl af ae) ?_
 refine fV (l := (d.toList.set (a) (d.toList.getD (p) default))) (i := p) (d.toList.getD (a) default) rfl rfl ae ?_
 have hls2 : (List.set (d.toList.set (a) (d.toList.getD (p) default)) (p) (d.toList.getD (a) default)).length = ((d.toList.set (a) (d.toList.getD (p) default))).length := List.length_set
 rw [dM, dM, ie, ← hd1]
 refine aI (zz0 (aa rfl) (zz0 (cB rfl rfl) ?_))
 refine zz0 (aa rfl) (zz0 (ei rfl rfl) ?_)
 refine zz0 (ab rfl) (zz0 (ab rfl) (ad (an (aF ?_))))
 refine bL (ι := Nat × Nat × Array UInt32) (fun ⟨i3, j3, cur⟩ => (a + 1 ≤ i3 ∧ i3 ≤ j3 + 1 ∧ j3 < b) ∧ cur.size = d.size ∧ partEqLoop ltW a i3 j3 cur = partitionEqual ltW d a b p) (fun _ => _) (fun ⟨i3, j3, cur⟩ => [rowE V 23 al cur.toList]) (fun ⟨i3, j3, cur⟩ => [(9, .int .i64 (i3 : Nat)), (10, .int .i64 (j3 : Nat))]) (fun ⟨i3, j3, cur⟩ => j3 + 1 - i3) (a + 1, b - 1, d1) ⟨by omega, hs1, by rw [hd1]; rfl⟩ (Front.c (Front.c Front.nil)) (by repeat' constructor) rfl (fun i hi m hm => ?_)
 obtain ⟨i3, j3, cur⟩ := i
 replace hi : (a + 1 ≤ i3 ∧ i3 ≤ j3 + 1 ∧ j3 < b) ∧ cur.size = d.size ∧ partEqLoop ltW a i3 j3 cur = partitionEqual ltW d a b p := hi
 replace hm : m = j3 + 1 - i3 := hm
 change Tr _ _ [rowE V 23 al cur.toList] ([(9, .int .i64 (i3 : Nat)), (10, .int .i64 (j3 : Nat))] ++ _) _
 obtain ⟨hk1, hk2, hk3⟩ := hi
 have hcl : cur.toList.length = d.size := by rw [Array.length_toList]; exact hk2
 refine aF (an (aF ?_))
 refine bL (ι := Nat) (fun x => i3 ≤ x ∧ x ≤ j3 + 1 ∧ scanUp (fun z => !ltW cur[a]! z) cur j3 x = scanUp (fun z => !ltW cur[a]! z) cur j3 i3) (fun _ => _) (fun x => [rowE V 23 al cur.toList]) (fun x => [(9, .int .i64 (x : Nat)), (10, .int .i64 (j3 : Nat))]) (fun x => j3 + 1 - x) i3 ⟨Nat.le_refl _, by omega, rfl⟩ (Front.c (Front.c Front.nil)) (by repeat' constructor) rfl (fun x hi m hm => ?_)
 replace hi : i3 ≤ x ∧ x ≤ j3 + 1 ∧ scanUp (fun z => !ltW cur[a]! z) cur j3 x = scanUp (fun z => !ltW cur[a]! z) cur j3 i3 := hi
 replace hm : m = j3 + 1 - x := hm
 change Tr _ _ [rowE V 23 al cur.toList] ([(9, .int .i64 (x : Nat)), (10, .int .i64 (j3 : Nat))] ++ _) _
 obtain ⟨hx1, hx2, hx3⟩ := hi
 refine an (an (gZ aP ?_))
 refine aw (aa rfl) (aw (aa rfl) (aw (fX rfl rfl) (aw (aa rfl) ?_)))
 apply fx
 ·exact (rfl : _ = (11, 32, 43))
 ·exact rfl
 ·intro hT3; have hT3' := hT3
  try simp only [bs] at hT3'
  refine bX hT3 (aa rfl) (bX hT3 (aa rfl) (bX hT3 (zz7 rfl rfl af ae) ?_))
  refine bX hT3 (er rfl am) ?_
  refine bX hT3 (aa rfl) (bX hT3 (aa rfl) (bX hT3 (zz7 rfl rfl af ae) ?_))
  refine bX hT3 (er rfl am) ?_
  refine bX hT3 (az rfl fj (fun w hw => gz (cur.toList.getD (a) default) (cur.toList.getD (x) default) w)) ?_
  refine bX hT3 (cP rfl) (aw (aV rfl hT3 rfl) ?_)
  exact dj (Sub.cons rfl (bD 11 rfl))
 ·intro hF3
  refine bW hF3 (bW hF3 (bW hF3 (bW hF3 (bW hF3 (bW hF3 (bW hF3 (bW hF3 (bW hF3 (bW hF3 (aw (aU rfl hF3 rfl) ?_))))))))))
  exact dj (Sub.cons rfl (bD 11 rfl))
 refine bH ?_
 refine ac ?_
 refine au rfl ?_ ?_ <;> intro h4 <;> try simp only [bs] at h4
 ·refine bC (aF (ar (zz0 (aa rfl) (zz0 (cB rfl rfl) ?_))))
  refine zz0 (ab rfl) (aD (aY (ac ?_)))
  refine cK (x + 1) (Front.c (Front.c Front.nil)) (zz8 10 rfl) (o := ⟨by omega, by omega, by rw [← hx3]; exact (C3 (by omega) (by rw [← dM, ← dM]; simp_all)).symm⟩)
 refine bJ (aG (aG (bj (ac (an (aF ?_))))))
 refine bL (ι := Nat) (fun y => y ≤ j3 ∧ x ≤ y + 1 ∧ scanDown (fun z => ltW cur[a]! z) cur x y = scanDown (fun z => ltW cur[a]! z) cur x j3) (fun _ => _) (fun y => [rowE V 23 al cur.toList]) (fun y => [(9, .int .i64 (x : Nat)), (10, .int .i64 (y : Nat))]) (fun y => y) j3 ⟨Nat.le_refl _, by omega, rfl⟩ (Front.c (Front.c Front.nil)) (by repeat' constructor) rfl (fun y hi m hm => ?_)
 replace hi : y ≤ j3 ∧ x ≤ y + 1 ∧ scanDown (fun z => ltW cur[a]! z) cur x y = scanDown (fun z => ltW cur[a]! z) cur x j3 := hi
 replace hm : m = y := hm
 change Tr _ _ [rowE V 23 al cur.toList] ([(9, .int .i64 (x : Nat)), (10, .int .i64 (y : Nat))] ++ _) _
 obtain ⟨hy1, hy2, hy3⟩ := hi
 refine an (an (gZ aP ?_))
 refine aw (aa rfl) (aw (aa rfl) (aw (fX rfl rfl) (aw (aa rfl) ?_)))
 apply fx
 ·exact (rfl : _ = (10, 49, 59))
 ·exact rfl
 ·intro hT5; have hT5' := hT5
  try simp only [bs] at hT5'
  refine bX hT5 (aa rfl) (bX hT5 (aa rfl) (bX hT5 (zz7 rfl rfl af ae) ?_))
  refine bX hT5 (er rfl am) ?_
  refine bX hT5 (aa rfl) (bX hT5 (aa rfl) (bX hT5 (zz7 rfl rfl af ae) ?_))
  refine bX hT5 (er rfl am) ?_
  refine bX hT5 (az rfl fj (fun w hw => gz (cur.toList.getD (a) default) (cur.toList.getD (y) default) w)) ?_
  refine aw (aV rfl hT5 rfl) ?_
  exact dj (Sub.cons rfl (bD 10 rfl))
 ·intro hF5
  refine bW hF5 (bW hF5 (bW hF5 (bW hF5 (bW hF5 (bW hF5 (bW hF5 (bW hF5 (bW hF5 (aw (aU rfl hF5 rfl) ?_)))))))))
  exact dj (Sub.cons rfl (bD 10 rfl))
 refine bH ?_
 refine ac ?_
 refine au rfl ?_ ?_ <;> intro h6 <;> try simp only [bs] at h6
 ·refine bC (aF (ar (zz0 (aa rfl) (zz0 (ei rfl rfl) ?_))))
  refine zz0 (ab rfl) (aD (aY (ac ?_)))
  refine cK (y - 1) (Front.c (Front.c Front.nil)) (zz8 10 rfl) (o := ⟨by omega, by omega, by rw [← hy3]; exact (wU (by omega) (by omega) (by rw [← dM, ← dM]; simp_all)).symm⟩)
 refine bJ (aG (aG (bj (ac (an (an ?_))))))
 have hX : scanUp (fun z => !ltW cur[a]! z) cur j3 i3 = x := by
  rw [← hx3]; exact wm (by
   rcases h4 with q | q
   ·exact .inl (by omega)
   ·exact .inr (by rw [← dM, ← dM, q]; rfl))
 have hY : scanDown (fun z => ltW cur[a]! z) cur x j3 = y := by
  rw [← hy3]; exact rY (by
   rcases h6 with q | q
   ·exact .inl (by omega)
   ·exact .inr (by rw [← dM, ← dM]; exact q))
 refine ar (zz0 (aa rfl) (zz0 (aa rfl) (zz0 (fg rfl rfl) (ad ?_))))
 refine au rfl ?_ ?_ <;> intro h7 <;> try simp only [bs] at h7
 ·refine bJ (aG (jh rfl ?_))
  refine aG (bj (ac (ah (zz0 (aa rfl) (zz0 (ab rfl) (ad (aC ?_)))))))
  refine aX Tryz.results261 rfl (fun w' hw => ?_)
  have he := zL hX hY (by omega)
  rw [he] at hk3
  exact ⟨by rw [← hk3], by rw [← hk3]; exact HpOK.mutOwn hw (.head _) rfl⟩
 refine bC (an ?_)
 have hxy : x < y := by
  rcases Nat.lt_or_ge x y with q | q
  ·exact q
  ·exfalso
   have e : x = y := by omega
   rcases h4 with g1 | g1
   ·omega
   ·rcases h6 with g2 | g2
    ·omega
    ·rw [e, g2] at g1; cases g1
 refine fy 4 13 aP ?_
 refine eh rfl ?_
 refine eh rfl ?_
 refine eh rfl ?_
 refine eh rfl ?_
 refine bE ?_
 refine aw (aa rfl) (aw (aa rfl) (aw (zz7 rfl rfl af ae) ?_))
 refine aw (er rfl am) ?_
 refine aw (aa rfl) (aw (aa rfl) (aw (zz7 rfl rfl af ae) ?_))
 refine aw (er rfl am) ?_
 refine aw (zz7 rfl rfl af ae) ?_
 refine bH ?_
 refine fV (l := cur.toList) (i := x) (cur.toList.getD (y) default) rfl rfl ae ?_
 have hls8 : (List.set cur.toList (x) (cur.toList.getD (y) default)).length = (cur.toList).length := List.length_set
 refine zz0 (zz7 rfl rfl af ae) ?_
 refine fV (l := (cur.toList.set (x) (cur.toList.getD (y) default))) (i := y) (cur.toList.getD (x) default) rfl rfl ae ?_
 have hls9 : (List.set (cur.toList.set (x) (cur.toList.getD (y) default)) (y) (cur.toList.getD (x) default)).length = ((cur.toList.set (x) (cur.toList.getD (y) default))).length := List.length_set
 refine aI (zz0 (aa rfl) (zz0 (cB rfl rfl) ?_))
 refine zz0 (ab rfl) (ad (ar (zz0 (aa rfl) (zz0 (ei rfl rfl) ?_))))
 refine zz0 (ab rfl) (aD (aY (ac ?_)))
 rw [dM, dM, ie]
 refine cK (x + 1, y - 1, _) (Front.c (Front.c Front.nil)) (zz8 39 rfl) (o := ⟨by omega, by rw [nw]; exact hk2, by rw [← hk3]; exact (B8 hX hY hxy hx1 hy1).symm⟩)
theorem tR (d : Array UInt32) (V : Value) (a : Nat) (b : Nat) (ai : Int) (bi : Int) (ea : ai = ((a : Nat) : Int)) (eb : bi = ((b : Nat) : Int)) (w : World) (hr : (rowE V 23 al d.toList).holds w) (hd : d.size ≤ 1000000) (hab : a + 1 < b) (hb : b ≤ d.size) :
  Calls Tryz.prog 259 #[V, .int .i64 ai, .int .i64 bi] w (fun e w' => e = .returned (.bool (partialInsertionSort ltW d a b).2) ∧ Mut w w' V ∧ (rowE V 23 al (partialInsertionSort ltW d a b).1.toList).holds w') := by
 subst ea eb
 refine fw (l := d.toList) (E := al) (T := 23) hr Tryz.func259 rfl Tryz.ntmps259 rfl ?_
 refine ah (zz0 (ab rfl) (aI (zz0 (aa rfl) (zz0 (cB rfl rfl) ?_))))
 refine zz0 (ab rfl) (ad (an (ah (zz0 (ab rfl) (ad (aF ?_))))))
 refine bL (ι := Nat × Nat × Array UInt32) (fun ⟨s, i, cur⟩ => (s ≤ 5 ∧ a + 1 ≤ i ∧ i ≤ b) ∧ cur.size = d.size ∧ partialIns ltW a b (5 - s) i cur = partialInsertionSort ltW d a b) (fun _ => _) (fun ⟨s, i, cur⟩ => [rowE V 23 al cur.toList]) (fun ⟨s, i, cur⟩ => [(8, .int .i64 (s : Nat)), (7, .int .i64 (i : Nat))]) (fun ⟨s, i, cur⟩ => 5 - s) (0, a + 1, d) ⟨by omega, rfl, rfl⟩ (Front.c (Front.c Front.nil)) (by repeat' constructor) rfl (fun i hi m hm => ?_)
 obtain ⟨s, i, cur⟩ := i
 replace hi : (s ≤ 5 ∧ a + 1 ≤ i ∧ i ≤ b) ∧ cur.size = d.size ∧ partialIns ltW a b (5 - s) i cur = partialInsertionSort ltW d a b := hi
 replace hm : m = 5 - s := hm
 change Tr _ _ [rowE V 23 al cur.toList] ([(8, .int .i64 (s : Nat)), (7, .int .i64 (i : Nat))] ++ _) _
 obtain ⟨hk1, hk2, hk3⟩ := hi
 have hcl : cur.toList.length = d.size := by rw [Array.length_toList]; exact hk2
 refine an (ah (zz0 (aa rfl) (zz0 (bT rfl rfl) (ad ?_))))
 refine au rfl ?_ ?_ <;> intro h1 <;> try simp only [bs] at h1
 ·refine bC (an (aF (an (aF ?_))))
  refine bL (ι := Nat) (fun x => i ≤ x ∧ x ≤ b ∧ scanSorted ltW cur b x = scanSorted ltW cur b i) (fun _ => _) (fun x => [rowE V 23 al cur.toList]) (fun x => [(7, .int .i64 (x : Nat)), (8, .int .i64 (s : Nat))]) (fun x => b - x) i ⟨Nat.le_refl _, by omega, rfl⟩ (Front.c (Front.c Front.nil)) (by repeat' constructor) rfl (fun x hi m hm => ?_)
  replace hi : i ≤ x ∧ x ≤ b ∧ scanSorted ltW cur b x = scanSorted ltW cur b i := hi
  replace hm : m = b - x := hm
  change Tr _ _ [rowE V 23 al cur.toList] ([(7, .int .i64 (x : Nat)), (8, .int .i64 (s : Nat))] ++ _) _
  obtain ⟨hx1, hx2, hx3⟩ := hi
  have ex : ((x : Int) - 1).toNat = x - 1 := by omega
  refine an (an (gZ aP ?_))
  refine aw (aa rfl) (aw (aa rfl) (aw (bT rfl rfl) (aw (aa rfl) ?_)))
  apply fx
  ·exact (rfl : _ = (12, 20, 32))
  ·exact rfl
  ·intro hT2; have hT2' := hT2
   try simp only [bs] at hT2'
   refine bX hT2 (aa rfl) (bX hT2 (aa rfl) (bX hT2 (zz7 rfl rfl af ae) ?_))
   refine bX hT2 (er rfl am) ?_
   refine bX hT2 (aa rfl) (bX hT2 (aa rfl) (bX hT2 (ei rfl rfl) ?_))
   refine bX hT2 (jm rfl rfl af ae) ?_
   refine bX hT2 (er rfl am) ?_
   refine bX hT2 (az rfl fj (fun w hw => gz (cur.toList.getD (x) default) (cur.toList.getD (((x : Int) - 1).toNat) default) w)) ?_
   refine bX hT2 (cP rfl) (aw (aV rfl hT2 rfl) ?_)
   exact dj (Sub.cons rfl (bD 12 rfl))
  ·intro hF2
   refine bW hF2 (bW hF2 (bW hF2 (bW hF2 (bW hF2 (bW hF2 (bW hF2 (bW hF2 (bW hF2 (bW hF2 (bW hF2 (aw (aU rfl hF2 rfl) ?_)))))))))))
   exact dj (Sub.cons rfl (bD 12 rfl))
  refine bH ?_
  refine ac ?_
  refine au rfl ?_ ?_ <;> intro h3 <;> try simp only [bs] at h3
  ·refine bC (aF (ar (zz0 (aa rfl) (zz0 (cB rfl rfl) ?_))))
   refine zz0 (ab rfl) (aD (aY (ac ?_)))
   refine cK (x + 1) (Front.c (Front.c Front.nil)) (zz8 10 rfl) (o := ⟨by omega, by omega, by rw [← hx3]; exact (HC (by omega) (by rw [← dM, ← dM, ← ex]; simp_all)).symm⟩)
  refine bJ (aG (aG (bj (ac (an (an ?_))))))
  have hX : scanSorted ltW cur b i = x := by
   rw [← hx3]; exact Fj (by
    rcases h3 with q | q
    ·exact .inl (by omega)
    ·exact .inr (by rw [← dM, ← dM, ← ex]; exact q))
  refine ar (zz0 (aa rfl) (zz0 (aa rfl) (zz0 (bA rfl rfl) (ad ?_))))
  refine au rfl ?_ ?_ <;> intro h4 <;> try simp only [bs] at h4
  ·refine ah (zz0 (ab rfl) (ad (aC (ay (bv (ay (ay (bv (ay ?_)))))))))
   refine aX mA rfl (fun w' hw => ?_)
   rw [show 5 - s = (4 - s) + 1 by omega, zN hX (by omega)] at hk3
   exact ⟨by rw [← hk3], by rw [← hk3]; exact HpOK.mutOwn hw (.head _) rfl⟩
  refine bC (an (ah (zz0 (aa rfl) (zz0 (aa rfl) (zz0 (ei rfl rfl) ?_)))))
  refine zz0 (bT rfl rfl) (ad ?_)
  refine au rfl ?_ ?_ <;> intro h5 <;> try simp only [bs] at h5
  ·refine ah (zz0 (ab rfl) (ad (aC (ay (bv (ay (ay (bv (ay ?_)))))))))
   refine aX mA rfl (fun w' hw => ?_)
   rw [show 5 - s = (4 - s) + 1 by omega, GT hX (by omega) (by omega)] at hk3
   exact ⟨by rw [← hk3], by rw [← hk3]; exact HpOK.mutOwn hw (.head _) rfl⟩
  refine bC (an (fy 5 15 aP ?_))
  refine eh rfl ?_
  refine eh rfl ?_
  refine eh rfl ?_
  refine eh rfl ?_
  refine gh (fun _ => ei rfl rfl) (by rfl) rfl ?_
  refine bE ?_
  refine aw (aa rfl) (aw (aa rfl) (aw (ei rfl rfl) ?_))
  refine aw (jm rfl rfl af ae) ?_
  refine aw (er rfl am) ?_
  refine aw (aa rfl) (aw (aa rfl) (aw (zz7 rfl rfl af ae) ?_))
  refine aw (er rfl am) ?_
  refine aw (zz7 rfl rfl af ae) ?_
  refine bH ?_
  refine fV (l := cur.toList) (i := x) (cur.toList.getD (((x : Int) - 1).toNat) default) rfl rfl ae ?_
  have hls6 : (List.set cur.toList (x) (cur.toList.getD (((x : Int) - 1).toNat) default)).length = (cur.toList).length := List.length_set
  refine zz0 (jm rfl rfl af ae) ?_
  refine fV (l := (cur.toList.set (x) (cur.toList.getD (((x : Int) - 1).toNat) default))) (i := ((x : Int) - 1).toNat) (cur.toList.getD (x) default) rfl rfl ae ?_
  have hls7 : (List.set (cur.toList.set (x) (cur.toList.getD (((x : Int) - 1).toNat) default)) (((x : Int) - 1).toNat) (cur.toList.getD (x) default)).length = ((cur.toList.set (x) (cur.toList.getD (((x : Int) - 1).toNat) default))).length := List.length_set
  rw [ex, dM, dM, ie]
  refine ad ?_
  refine cZ (ι := Array UInt32) (fun d3 => d3.size = d.size ∧ d3 = if x - a ≥ 2 then shiftDown ltW (x - 1) (swp cur x (x - 1)) else swp cur x (x - 1)) (fun _ => Bg.less w V) (fun d3 => [rowE V 23 al d3.toList]) (fun d3 => []) ?_ (fun d3 hi => ?_)
  ·skip
   refine ah (zz0 (aa rfl) (zz0 (aa rfl) (zz0 (ei rfl rfl) ?_)))
   refine zz0 (eM rfl rfl) (ad ?_)
   refine au rfl ?_ ?_ <;> intro h8 <;> try simp only [bs] at h8
   ·refine ah (zz0 (aa rfl) (zz0 (ei rfl rfl) ?_))
    refine zz0 (ab rfl) (ad (aF ?_))
    refine bL (ι := Nat × Array UInt32) (fun ⟨y, c3⟩ => y < x ∧ c3.size = d.size ∧ shiftDown ltW y c3 = shiftDown ltW (x - 1) (swp cur x (x - 1))) (fun _ => _) (fun ⟨y, c3⟩ => [rowE V 23 al c3.toList]) (fun ⟨y, c3⟩ => [(9, .int .i64 (y : Nat))]) (fun ⟨y, c3⟩ => y) (x - 1, _) ⟨by omega, by rw [nw]; exact hk2, rfl⟩ (Front.c Front.nil) (by repeat' constructor) rfl (fun i hi m hm => ?_)
    obtain ⟨y, c3⟩ := i
    replace hi : y < x ∧ c3.size = d.size ∧ shiftDown ltW y c3 = shiftDown ltW (x - 1) (swp cur x (x - 1)) := hi
    replace hm : m = y := hm
    change Tr _ _ [rowE V 23 al c3.toList] ([(9, .int .i64 (y : Nat))] ++ _) _
    obtain ⟨hy1, hy2, hy3⟩ := hi
    have ey : ((y : Int) - 1).toNat = y - 1 ∨ y = 0 := by omega
    have hc3 : c3.toList.length = d.size := by rw [Array.length_toList]; exact hy2
    refine an (ah (zz0 (aa rfl) (zz0 (eM rfl rfl) (ad ?_))))
    refine au rfl ?_ ?_ <;> intro h9 <;> try simp only [bs] at h9
    ·refine bC (an (aF (an (an (gZ aP ?_)))))
     refine aw (aa rfl) (aw (aa rfl) (aw (zz7 rfl rfl af ae) ?_))
     refine aw (er rfl am) ?_
     refine aw (aa rfl) (aw (aa rfl) (aw (ei rfl rfl) ?_))
     refine aw (jm rfl rfl af ae) ?_
     refine aw (er rfl am) ?_
     refine aw (az rfl fj (fun w hw => gz (c3.toList.getD (y) default) (c3.toList.getD (((y : Int) - 1).toNat) default) w)) ?_
     refine aw (cP rfl) (bH ?_)
     refine ac ?_
     refine au rfl ?_ ?_ <;> intro h10 <;> try simp only [bs] at h10
     ·refine bJ (aG (jh rfl ?_))
      refine aG (aG (bj (ac ?_)))
      refine co c3 Front.nil (zz8 21 rfl) (o := ⟨hy2, by rw [if_pos (by omega), ← hy3]; exact (AV (by first | exact .inl (by omega) | exact .inr (by have e := ey.resolve_right (by omega); rw [← dM, ← dM, ← e]; assumption))).symm⟩)
     refine bC (fy 5 15 aP ?_)
     refine eh rfl ?_
     refine eh rfl ?_
     refine eh rfl ?_
     refine eh rfl ?_
     refine gh (fun _ => ei rfl rfl) (by rfl) rfl ?_
     refine bE ?_
     refine aw (aa rfl) (aw (aa rfl) (aw (ei rfl rfl) ?_))
     refine aw (jm rfl rfl af ae) ?_
     refine aw (er rfl am) ?_
     refine aw (aa rfl) (aw (aa rfl) (aw (zz7 rfl rfl af ae) ?_))
     refine aw (er rfl am) ?_
     refine aw (zz7 rfl rfl af ae) ?_
     refine bH ?_
     refine fV (l := c3.toList) (i := y) (c3.toList.getD (((y : Int) - 1).toNat) default) rfl rfl ae ?_
     have hls11 : (List.set c3.toList (y) (c3.toList.getD (((y : Int) - 1).toNat) default)).length = (c3.toList).length := List.length_set
     refine zz0 (jm rfl rfl af ae) ?_
     refine fV (l := (c3.toList.set (y) (c3.toList.getD (((y : Int) - 1).toNat) default))) (i := ((y : Int) - 1).toNat) (c3.toList.getD (y) default) rfl rfl ae ?_
     have hls12 : (List.set (c3.toList.set (y) (c3.toList.getD (((y : Int) - 1).toNat) default)) (((y : Int) - 1).toNat) (c3.toList.getD (y) default)).length = ((c3.toList.set (y) (c3.toList.getD (((y : Int) - 1).toNat) default))).length := List.length_set
     refine aD (aY (ac (ar (zz0 (aa rfl) (zz0 (ei rfl rfl) ?_)))))
     refine zz0 (ab rfl) (ad ?_)
     rw [ey.resolve_right (by omega), dM, dM, ie]
     refine cK (y - 1, _) (Front.c Front.nil) (zz8 33 rfl) (o := ⟨by omega, by rw [nw]; exact hy2, by rw [← hy3]; exact (HD (by omega) (by have e := ey.resolve_right (by omega); rw [← dM, ← dM, ← e]; assumption)).symm⟩)
    refine bJ (aG (aG (bj (ac ?_))))
    refine co c3 Front.nil (zz8 10 rfl) (o := ⟨hy2, by rw [if_pos (by omega), ← hy3]; exact (AV (by first | exact .inl (by omega) | exact .inr (by have e := ey.resolve_right (by omega); rw [← dM, ← dM, ← e]; assumption))).symm⟩)
   refine bC ?_
   refine co _ Front.nil (zz8 4 rfl) (o := ⟨by rw [nw]; exact hk2, by rw [if_neg (by omega)]⟩)
  skip
  replace hi : d3.size = d.size ∧ d3 = if x - a ≥ 2 then shiftDown ltW (x - 1) (swp cur x (x - 1)) else swp cur x (x - 1) := hi
  change Tr _ _ [rowE V 23 al d3.toList] ([] ++ _) _
  have hd3 := hi
  have hl3 : d3.toList.length = d.size := by rw [Array.length_toList]; exact hi.1
  refine ah (zz0 (aa rfl) (zz0 (aa rfl) (zz0 (ei rfl rfl) ?_)))
  refine zz0 (eM rfl rfl) (ad ?_)
  refine au rfl ?_ ?_ <;> intro h13 <;> try simp only [bs] at h13
  ·refine ah (zz0 (aa rfl) (zz0 (cB rfl rfl) ?_))
   refine zz0 (ab rfl) (ad (aF ?_))
   refine bL (ι := Nat × Array UInt32) (fun ⟨z, c4⟩ => x < z ∧ c4.size = d.size ∧ shiftUp ltW b z c4 = shiftUp ltW b (x + 1) d3) (fun _ => _) (fun ⟨z, c4⟩ => [rowE V 23 al c4.toList]) (fun ⟨z, c4⟩ => [(10, .int .i64 (z : Nat))]) (fun ⟨z, c4⟩ => b - z) (x + 1, d3) ⟨by omega, hd3.1, rfl⟩ (Front.c Front.nil) (by repeat' constructor) rfl (fun i hi m hm => ?_)
   obtain ⟨z, c4⟩ := i
   replace hi : x < z ∧ c4.size = d.size ∧ shiftUp ltW b z c4 = shiftUp ltW b (x + 1) d3 := hi
   replace hm : m = b - z := hm
   change Tr _ _ [rowE V 23 al c4.toList] ([(10, .int .i64 (z : Nat))] ++ _) _
   obtain ⟨hz1, hz2, hz3⟩ := hi
   have ez : ((z : Int) - 1).toNat = z - 1 := by omega
   have hc4 : c4.toList.length = d.size := by rw [Array.length_toList]; exact hz2
   refine an (ah (zz0 (aa rfl) (zz0 (aa rfl) (zz0 (bT rfl rfl) (ad ?_)))))
   refine au rfl ?_ ?_ <;> intro h14 <;> try simp only [bs] at h14
   ·refine bC (an (aF (an (an (gZ aP ?_)))))
    refine aw (aa rfl) (aw (aa rfl) (aw (zz7 rfl rfl af ae) ?_))
    refine aw (er rfl am) ?_
    refine aw (aa rfl) (aw (aa rfl) (aw (ei rfl rfl) ?_))
    refine aw (jm rfl rfl af ae) ?_
    refine aw (er rfl am) ?_
    refine aw (az rfl fj (fun w hw => gz (c4.toList.getD (z) default) (c4.toList.getD (((z : Int) - 1).toNat) default) w)) ?_
    refine aw (cP rfl) (bH ?_)
    refine ac ?_
    refine au rfl ?_ ?_ <;> intro h15 <;> try simp only [bs] at h15
    ·refine bJ (aG (jh rfl ?_))
     refine aG (aG (bj (aY (ac (ar (zz0 (aa rfl) (zz0 (cB rfl rfl) ?_)))))))
     refine zz0 (ab rfl) (ad ?_)
     refine cK (s + 1, x, c4) (Front.c (Front.c Front.nil)) (zz8 59 rfl) (o := ⟨by omega, hz2, by rw [← hk3, show 5 - s = (5 - (s + 1)) + 1 by omega]; exact (rH hX (by omega) (by omega) hd3.2 (by rw [if_pos (by omega), ← hz3]; exact (AQ (by first | exact .inl (by omega) | exact .inr (by rw [← dM, ← dM, ← ez]; assumption))).symm)).symm⟩)
    refine bC (fy 5 15 aP ?_)
    refine eh rfl ?_
    refine eh rfl ?_
    refine eh rfl ?_
    refine eh rfl ?_
    refine gh (fun _ => ei rfl rfl) (by rfl) rfl ?_
    refine bE ?_
    refine aw (aa rfl) (aw (aa rfl) (aw (ei rfl rfl) ?_))
    refine aw (jm rfl rfl af ae) ?_
    refine aw (er rfl am) ?_
    refine aw (aa rfl) (aw (aa rfl) (aw (zz7 rfl rfl af ae) ?_))
    refine aw (er rfl am) ?_
    refine aw (zz7 rfl rfl af ae) ?_
    refine bH ?_
    refine fV (l := c4.toList) (i := z) (c4.toList.getD (((z : Int) - 1).toNat) default) rfl rfl ae ?_
    have hls16 : (List.set c4.toList (z) (c4.toList.getD (((z : Int) - 1).toNat) default)).length = (c4.toList).length := List.length_set
    refine zz0 (jm rfl rfl af ae) ?_
    refine fV (l := (c4.toList.set (z) (c4.toList.getD (((z : Int) - 1).toNat) default))) (i := ((z : Int) - 1).toNat) (c4.toList.getD (z) default) rfl rfl ae ?_
    have hls17 : (List.set (c4.toList.set (z) (c4.toList.getD (((z : Int) - 1).toNat) default)) (((z : Int) - 1).toNat) (c4.toList.getD (z) default)).length = ((c4.toList.set (z) (c4.toList.getD (((z : Int) - 1).toNat) default))).length := List.length_set
    refine aD (aY (ac (ar (zz0 (aa rfl) (zz0 (cB rfl rfl) ?_)))))
    refine zz0 (ab rfl) (ad ?_)
    rw [ez, dM, dM, ie]
    refine cK (z + 1, _) (Front.c Front.nil) (zz8 34 rfl) (o := ⟨by omega, by rw [nw]; exact hz2, by rw [← hz3]; exact (HB (by omega) (by rw [← dM, ← dM, ← ez]; assumption)).symm⟩)
   refine bJ (aG (aG (bj (aY (ac (ar (zz0 (aa rfl) (zz0 (cB rfl rfl) ?_))))))))
   refine zz0 (ab rfl) (ad ?_)
   refine cK (s + 1, x, c4) (Front.c (Front.c Front.nil)) (zz8 48 rfl) (o := ⟨by omega, hz2, by rw [← hk3, show 5 - s = (5 - (s + 1)) + 1 by omega]; exact (rH hX (by omega) (by omega) hd3.2 (by rw [if_pos (by omega), ← hz3]; exact (AQ (by first | exact .inl (by omega) | exact .inr (by rw [← dM, ← dM, ← ez]; assumption))).symm)).symm⟩)
  refine cd (aY (ac (ar (zz0 (aa rfl) (zz0 (cB rfl rfl) ?_)))))
  refine zz0 (ab rfl) (ad ?_)
  refine cK (s + 1, x, d3) (Front.c (Front.c Front.nil)) (zz8 41 rfl) (o := ⟨by omega, hd3.1, by rw [← hk3, show 5 - s = (5 - (s + 1)) + 1 by omega]; exact (rH hX (by omega) (by omega) hd3.2 (by rw [if_neg (by omega)])).symm⟩)
 refine bJ (aG (aG (bj (ac (ah (zz0 (ab rfl) (ad (aC ?_))))))))
 refine aX mA rfl (fun w' hw => ?_)
 obtain rfl : s = 5 := by omega
 have hk4 : (cur, false) = partialInsertionSort ltW d a b := hk3
 exact ⟨by rw [← hk4], by rw [← hk4]; exact HpOK.mutOwn hw (.head _) rfl⟩
end Go.Proofs.YtiajjbhcpeadfaaGreat
namespace Go.HL
open Go Go.RowKit Go.Sort
section
variable {P : Program} {N : Nat} {F : Bg} {L : List Ent} {M : Fr} {dst : Option Tmp} {ty : TypeId} {pos : String} {after : Array Edge} {g : Option (Nat × Bool)}
theorem bh {x : Operand} {a : Addr} (hx : opv M x = some (.pointer (some a))) : QS P N F L M ⟨dst, .nilCheck x, ty, pos, after, g⟩ (.pointer (some a)) :=
 cx fun A w ha _ => by simp [execOp, ha.eval hx]
theorem uG {m n : UInt64} {x y : Operand} {t u : TypeId} (hx : opv M x = some (.int .u64 m.toNat)) (hy : opv M y = some (.int .u64 n.toNat)) : QS P N F L M ⟨dst, .binOp .xor t x y u, ty, pos, after, g⟩ (.int .u64 (m ^^^ n).toNat) := by
 have := EY (P := P) (N := N) (F := F) (L := L) (dst := dst) (ty := ty) (pos := pos) (after := after) (g := g) (t := t) (u := u) hx hy
 have e : IntKind.u64.wrap ((BitVec.ofInt IntKind.u64.bits m.toNat ^^^ BitVec.ofInt IntKind.u64.bits n.toNat).toNat : Int) = ((m ^^^ n).toNat : Int) := by
  have h1 : BitVec.ofInt 64 (m.toNat : Int) = m.toBitVec := by simp
  have h2 : BitVec.ofInt 64 (n.toNat : Int) = n.toBitVec := by simp
  show IntKind.u64.wrap ((BitVec.ofInt 64 m.toNat ^^^ BitVec.ofInt 64 n.toNat).toNat : Int) = _
  rw [h1, h2, IntWalk.u64_in]
  ·rfl
  ·have := (m ^^^ n).toNat_lt
   show 0 ≤ ((m ^^^ n).toNat : Int) ∧ ((m ^^^ n).toNat : Int) ≤ _
   omega
 rwa [e] at this
theorem zl {m : UInt64} {x y : Operand} {t u : TypeId} {k' : IntKind} (c : UInt64) (hx : opv M x = some (.int .u64 m.toNat)) (hy : opv M y = some (.int k' (c.toNat : Int))) (hc : c.toNat < 64) : QS P N F L M ⟨dst, .binOp .shl t x y u, ty, pos, after, g⟩ (.int .u64 (m <<< c).toNat) := by
 have := AI (P := P) (N := N) (F := F) (L := L) (dst := dst) (ty := ty) (pos := pos) (after := after) (g := g) (t := t) (u := u) hx hy (by omega)
 have e : IntKind.u64.wrap ((m.toNat : Int) * 2 ^ (min (c.toNat : Int).toNat IntKind.u64.bits)) = ((m <<< c).toNat : Int) := by
  rw [IntKind.wrap_u64, UInt64.toNat_shiftLeft, Int.toNat_natCast, Nat.min_eq_left (by show c.toNat ≤ 64; omega), Nat.mod_eq_of_lt hc, Nat.shiftLeft_eq, Int.natCast_emod, Int.natCast_mul, Int.natCast_pow]
  rfl
 rwa [e] at this
theorem E2 {m : UInt64} {x y : Operand} {t u : TypeId} {k' : IntKind} (c : UInt64) (hx : opv M x = some (.int .u64 m.toNat)) (hy : opv M y = some (.int k' (c.toNat : Int))) (hc : c.toNat < 64) : QS P N F L M ⟨dst, .binOp .shr t x y u, ty, pos, after, g⟩ (.int .u64 (m >>> c).toNat) := by
 have := sj (P := P) (N := N) (F := F) (L := L) (dst := dst) (ty := ty) (pos := pos) (after := after) (g := g) (t := t) (u := u) hx hy (by omega)
 have e : (m.toNat : Int).fdiv (2 ^ (min (c.toNat : Int).toNat IntKind.u64.bits)) = ((m >>> c).toNat : Int) := by
  rw [UInt64.toNat_shiftRight, Int.toNat_natCast, Nat.min_eq_left (by show c.toNat ≤ 64; omega), Nat.mod_eq_of_lt hc, Nat.shiftRight_eq_div_pow, Int.fdiv_eq_ediv_of_nonneg _ (by
   have : (0 : Int) < 2 ^ c.toNat := Int.pow_pos (by decide)
   omega)]
  rw [Int.natCast_ediv, Int.natCast_pow]; rfl
 rwa [e] at this
theorem Bw {m : Nat} {x y : Operand} {t u : TypeId} {k' : IntKind} (c : Nat) (hx : opv M x = some (.int .u64 (m : Int))) (hy : opv M y = some (.int k' (c : Int))) (hc : c ≤ 64) : QS P N F L M ⟨dst, .binOp .shr t x y u, ty, pos, after, g⟩ (.int .u64 ((m / 2 ^ c : Nat) : Int)) := by
 have := sj (P := P) (N := N) (F := F) (L := L) (dst := dst) (ty := ty) (pos := pos) (after := after) (g := g) (t := t) (u := u) hx hy (by omega)
 have e : (m : Int).fdiv (2 ^ (min (c : Int).toNat IntKind.u64.bits)) = ((m / 2 ^ c : Nat) : Int) := by
  rw [Int.toNat_natCast, Nat.min_eq_left (show c ≤ IntKind.u64.bits from hc), Int.fdiv_eq_ediv_of_nonneg _ (by
   have : (0 : Int) < 2 ^ c := Int.pow_pos (by decide)
   omega), Int.natCast_ediv, Int.natCast_pow]; rfl
 rwa [e] at this
theorem CE {x y : Operand} {t u : TypeId} {k' : IntKind} {c : Nat} (hx : opv M x = some (.int .u64 1)) (hy : opv M y = some (.int k' (c : Int))) (hc : c < 64) : QS P N F L M ⟨dst, .binOp .shl t x y u, ty, pos, after, g⟩ (.int .u64 ((1 <<< c : Nat) : Int)) := by
 have := AI (P := P) (N := N) (F := F) (L := L) (dst := dst) (ty := ty) (pos := pos) (after := after) (g := g) (t := t) (u := u) hx hy (by omega)
 have e : IntKind.u64.wrap ((1 : Int) * 2 ^ (min (c : Int).toNat IntKind.u64.bits)) = ((1 <<< c : Nat) : Int) := by
  have h1 : 2 ^ c < 2 ^ 64 := Nat.pow_lt_pow_right (by decide) hc
  rw [Int.toNat_natCast, Nat.min_eq_left (by show c ≤ 64; omega), Int.one_mul, Nat.one_shiftLeft, IntWalk.u64_in]
  ·rw [Int.natCast_pow]; rfl
  ·have h2 : ((2 : Int) ^ c) = ((2 ^ c : Nat) : Int) := by rw [Int.natCast_pow]; rfl
   rw [h2]
   generalize 2 ^ c = z at h1
   have h1' : z < 18446744073709551616 := h1
   omega
 rwa [e] at this
theorem E8 {m n : Nat} {x y : Operand} {t u : TypeId} (hx : opv M x = some (.int .u64 (m : Int))) (hy : opv M y = some (.int .u64 (n : Int))) (hm : m < 18446744073709551616) (hn : n < 18446744073709551616) : QS P N F L M ⟨dst, .binOp .and t x y u, ty, pos, after, g⟩ (.int .u64 ((m &&& n : Nat) : Int)) := by
 have := xA (P := P) (N := N) (F := F) (L := L) (dst := dst) (ty := ty) (pos := pos) (after := after) (g := g) (t := t) (u := u) hx hy
 have e : IntKind.u64.wrap ((BitVec.ofInt IntKind.u64.bits (m : Int) &&& BitVec.ofInt IntKind.u64.bits (n : Int)).toNat : Int) = ((m &&& n : Nat) : Int) := by
  have h1 : (BitVec.ofInt 64 (m : Int)).toNat = m := by rw [BitVec.toNat_ofInt]; omega
  have h2 : (BitVec.ofInt 64 (n : Int)).toNat = n := by rw [BitVec.toNat_ofInt]; omega
  show IntKind.u64.wrap ((BitVec.ofInt 64 (m : Int) &&& BitVec.ofInt 64 (n : Int)).toNat : Int) = _
  rw [BitVec.toNat_and, h1, h2, IntWalk.u64_in]
  have : m &&& n ≤ n := Nat.and_le_right
  omega
 rwa [e] at this
theorem AN {x : Operand} {s d : TypeId} {ds : TypeDesc} {k : IntKind} {m : Int} (n : Nat) (hx : opv M x = some (.int k m)) (hs : P.underlying s = some ds) (hd : P.underlying d = some (.int .u64)) (hm : m = (n : Int)) (hn : n < 18446744073709551616) :
  QS P N F L M ⟨dst, .convert s d x, ty, pos, after, g⟩ (.int .u64 ((UInt64.ofNat n).toNat : Int)) := by
 have h := mN (N := N) (F := F) (L := L) (dst := dst) (ty := ty) (pos := pos) (after := after) (g := g) hx hs hd
 rw [hm, IntWalk.u64_in _ (by omega)] at h
 rwa [UInt64.toNat_ofNat', Nat.mod_eq_of_lt hn]
theorem EZ {m n : Nat} {x y : Operand} {t u : TypeId} (hx : opv M x = some (.int .u64 (m : Int))) (hy : opv M y = some (.int .u64 (n : Int))) (h : n ≤ m) (hm : m < 18446744073709551616) : QS P N F L M ⟨dst, .binOp .sub t x y u, ty, pos, after, g⟩ (.int .u64 ((m - n : Nat) : Int)) := by
 have := Bu (P := P) (N := N) (F := F) (L := L) (dst := dst) (ty := ty) (pos := pos) (after := after) (g := g) (t := t) (u := u) hx hy (by omega)
 rwa [show (m : Int) - (n : Int) = ((m - n : Nat) : Int) by omega] at this
def GI : List UInt8 := (List.range 256).map fun i => UInt8.ofNat (bitsLen i)
theorem vU {i : Nat} (h : i < 256) : bitsLen i ≤ 8 := (bitsLen_le_iff i 8).2 h
theorem CM {x y : Operand} {t : TypeId} {s : ByteArray} {i : Nat} (hx : opv M x = some (.string s)) (hy : opv M y = some (.int .u8 (i : Int))) (ht : P.underlying t = some .string) (hs : s.data.toList = GI) (hi : i < 256) :
  QS P N F L M ⟨dst, .index t x y, ty, pos, after, g⟩ (.int .u8 ((bitsLen i : Nat) : Int)) := by
 have hz : s.size = 256 := by
  have : s.data.toList.length = 256 := by rw [hs]; simp [GI]
  rw [← this, Array.length_toList]; rfl
 have := si (P := P) (N := N) (F := F) (L := L) (dst := dst) (ty := ty) (pos := pos) (after := after) (g := g) hx hy ht (by omega)
 have e : (s.data.toList.getD (i : Int).toNat 0).toNat = bitsLen i := by
  rw [hs, Int.toNat_natCast, List.getD_eq_getElem?_getD]
  have h8 := vU hi
  simp [GI, hi]
  omega
 rwa [e] at this
end
theorem rowE.len {α β : Type} {V : Value} {T T' : TypeId} {E : Enc α} {G : Enc β} {l : List α} {l' : List β} {w w' : World} (h : (rowE V T E l).holds w) (h' : (rowE V T' G l').holds w') : l'.length = l.length := by
 obtain ⟨a, c, e, _⟩ := (rowE.sl h).shape
 obtain ⟨a', c', e', _⟩ := (rowE.sl h').shape
 rw [e] at e'
 injection e' with _ e2
 exact e2.symm
theorem j5 {α β : Type} {N : Nat} {F : Bg} {L : List Ent} {M : Fr} {V : Value} {T T' : TypeId} {E : Enc α} {G : Enc β} {l0 : List α} {l : List β} {w : World} {X : Act → World → Prop} (h : (rowE V T E l0).holds w) (hm : rowE V T' G l ∈ L) (K : l.length = l0.length → Tr N F L M X) : Tr N F L M X :=
 fun a w' ha hw => K (rowE.len h (hw.ent _ hm)) a w' ha hw
theorem HpOK.own {F : Bg} {L Lo R : List Ent} {w : World} (h : HpOK F L w) (hs : Split L Lo R) : OwnAt w Lo := (h.perm hs.perm.symm).ownAt.left
theorem sJ {x c : Nat} (h : 2 ^ c ≤ x) : bitsLen x = c + bitsLen (x / 2 ^ c) := by
 have key : ∀ k, bitsLen x ≤ k ↔ c + bitsLen (x / 2 ^ c) ≤ k := fun k => by
  rw [bitsLen_le_iff]
  rcases Nat.lt_or_ge k c with hk | hk
  ·have : 2 ^ k < 2 ^ c := Nat.pow_lt_pow_right (by decide) hk
   constructor <;> intro h' <;> omega
  ·obtain ⟨j, rfl⟩ : ∃ j, k = c + j := ⟨k - c, by omega⟩
   rw [show (c + bitsLen (x / 2 ^ c) ≤ c + j) ↔ bitsLen (x / 2 ^ c) ≤ j by omega, bitsLen_le_iff, Nat.div_lt_iff_lt_mul (Nat.two_pow_pos _), Nat.pow_add, Nat.mul_comm]
 exact Nat.le_antisymm ((key _).2 (Nat.le_refl _)) ((key _).1 (Nat.le_refl _))
theorem HJ {x : Nat} (h : 65536 ≤ x) : bitsLen x = 16 + bitsLen (x / 2 ^ 16) := sJ h
theorem len8 {x : Nat} (h : 256 ≤ x) : bitsLen x = 8 + bitsLen (x / 2 ^ 8) := sJ h
theorem rI {d : Array UInt32} {a b s : Nat} {i : Nat × Nat × Nat} (hi : i = order2 ltW d a b s) {n : Nat} (ha : a < n) (hb : b < n) : i.1 < n ∧ i.2.1 < n ∧ i.2.2 ≤ s + 1 := by
 subst hi
 refine ⟨?_, ?_, order2_count ltW d a b s⟩ <;> unfold order2 <;> split <;> assumption
theorem vz {d : Array UInt32} {a b c s : Nat} {i : Nat × Nat} (hi : i = median ltW d a b c s) {n : Nat} (ha : a < n) (hb : b < n) (hc : c < n) : i.1 < n ∧ i.2 ≤ s + 3 := by
 subst hi
 refine ⟨?_, median_count ltW d a b c s⟩
 rcases median_mem ltW d a b c s with h | h | h <;> rw [h] <;> assumption
theorem As {d : Array UInt32} {a s : Nat} {i : Nat × Nat} (hi : i = medianAdjacent ltW d a s) {n : Nat} (ha : a + 1 < n) : i.1 < n ∧ i.2 ≤ s + 3 := vz hi (by omega) (by omega) ha
theorem Fw {d : Array UInt32} {a b : Nat} {i1 i2 i3 i4 : Nat × Nat} (h : 50 ≤ b - a) (e1 : i1 = medianAdjacent ltW d (a + (b - a) / 4 * 1) 0) (e2 : i2 = medianAdjacent ltW d (a + (b - a) / 4 * 2) i1.2) (e3 : i3 = medianAdjacent ltW d (a + (b - a) / 4 * 3) i2.2)
  (e4 : i4 = median ltW d i1.1 i2.1 i3.1 i3.2) : i4 = rawPivot ltW d a b := by
 subst e1 e2 e3 e4
 unfold rawPivot
 rw [if_pos (by omega), if_pos (by omega)]
theorem Fv {d : Array UInt32} {a b : Nat} {i4 : Nat × Nat} (h8 : 8 ≤ b - a) (h : b - a < 50) (e4 : i4 = median ltW d (a + (b - a) / 4 * 1) (a + (b - a) / 4 * 2) (a + (b - a) / 4 * 3) 0) : i4 = rawPivot ltW d a b := by
 subst e4
 unfold rawPivot
 rw [if_pos (by omega), if_neg (by omega)]
theorem DC {d : Array UInt32} {a b : Nat} (h8 : b - a < 8) : ((a + (b - a) / 4 * 2, 0) : Nat × Nat) = rawPivot ltW d a b := by
 unfold rawPivot
 rw [if_neg (by omega)]
def qf (a len m i0 : Nat) : Nat → UInt64 × Array UInt32 → UInt64 × Array UInt32
 | 0, st => st
 | t + 1, st => breakStep a len m (qf a len m i0 t st) (i0 + t)
theorem EH {d : Array UInt32} {a b : Nat} (h : 8 ≤ b - a) : breakPatterns d a b = (qf a (b - a) (1 <<< bitsLen (b - a)) (a + (b - a) / 4 * 2 - 1) 3 (UInt64.ofNat (b - a), d)).2 := by
 unfold breakPatterns
 simp only []
 rw [if_pos h]; rfl
theorem EG {d : Array UInt32} {a b : Nat} (h : b - a < 8) : breakPatterns d a b = d := by
 unfold breakPatterns
 simp only []
 rw [if_neg (by omega)]
theorem EF {a len m i0 t : Nat} {st : UInt64 × Array UInt32} {r : UInt64} {cur : Array UInt32} {o : Nat} (h : qf a len m i0 t st = (r, cur)) (ho : o = if len ≤ ((xorNext r).toNat &&& (m - 1)) then ((xorNext r).toNat &&& (m - 1)) - len else ((xorNext r).toNat &&& (m - 1))) :
  qf a len m i0 (t + 1) st = (xorNext r, swp cur (i0 + t) (a + o)) := by
 subst ho
 show breakStep a len m (qf a len m i0 t st) (i0 + t) = _
 rw [h]; rfl
theorem GY {n : Nat} (h : 0 < n) : 1 ≤ 1 <<< bitsLen n ∧ 1 <<< bitsLen n ≤ 2 * n := by
 rw [Nat.one_shiftLeft]
 exact ⟨Nat.two_pow_pos _, two_pow_bitsLen_le h⟩
section
variable {d : Array UInt32} {a b limit : Nat} {wb wp : Bool}
theorem uW (h : b - a ≤ 12) : pdq ltW d a b limit wb wp = insertionSort ltW d a b := by rw [pdq, if_pos h]
theorem wy (h : ¬ b - a ≤ 12) (h0 : limit = 0) : pdq ltW d a b limit wb wp = heapSort ltW d a b := by rw [pdq, if_neg h, if_pos h0]
structure Rnd (d : Array UInt32) (a b limit : Nat) (wb wp : Bool) (l1 pv : Nat) (d3 : Array UInt32) : Prop where
 done : ∃ (d1 d2 : Array UInt32) (c : Nat × Hint) (hint : Hint), d1 = (if !wb then breakPatterns d a b else d) ∧ l1 = (if !wb then limit - 1 else limit) ∧ c = choosePivot ltW d1 a b ∧
  d2 = (if c.2 = .decreasing then reverseRange d1 a b else d1) ∧ pv = (if c.2 = .decreasing then (b - 1) - (c.1 - a) else c.1) ∧ hint = (if c.2 = .decreasing then Hint.increasing else c.2) ∧
  (if wb && wp && hint = .increasing then partialInsertionSort ltW d2 a b else (d2, false)) = (d3, false)
theorem wz {d1 d2 d3 : Array UInt32} {c : Nat × Hint} {hint : Hint} (h : ¬ b - a ≤ 12) (h0 : ¬ limit = 0) (e1 : d1 = (if !wb then breakPatterns d a b else d)) (ec : c = choosePivot ltW d1 a b)
  (e3 : d2 = (if c.2 = .decreasing then reverseRange d1 a b else d1)) (e5 : hint = (if c.2 = .decreasing then Hint.increasing else c.2)) (e6 : (if wb && wp && hint = .increasing then partialInsertionSort ltW d2 a b else (d2, false)) = (d3, true)) :
  pdq ltW d a b limit wb wp = d3 := by
 subst e1 ec e3 e5
 rw [pdq, if_neg h, if_neg h0]
 simp only [e6, if_true]
theorem tQ {l1 pv : Nat} {d3 : Array UInt32} (h : ¬ b - a ≤ 12) (h0 : ¬ limit = 0) (r : Rnd d a b limit wb wp l1 pv d3) :
  pdq ltW d a b limit wb wp = if a > 0 && !ltW d3[a - 1]! d3[pv]! then
   (match partitionEqual ltW d3 a b pv with | (mid, d4) => if _h : a < mid ∧ mid ≤ b then pdq ltW d4 mid b l1 wb wp else d4)
  else
   (match partition ltW d3 a b pv with
   | (mid, ap, d4) =>
    if _h : a ≤ mid ∧ mid < b then
     if mid - a < b - mid then pdq ltW (pdq ltW d4 a mid l1 true true) (mid + 1) b l1 (decide (mid - a ≥ (b - a) / 8)) ap
     else pdq ltW (pdq ltW d4 (mid + 1) b l1 true true) a mid l1 (decide (b - mid ≥ (b - a) / 8)) ap
    else d4) := by
 obtain ⟨d1, d2, c, hint, e1, e2, ec, e3, e4, e5, e6⟩ := r.done
 subst e1 ec e3 e5 e2 e4
 rw [pdq, if_neg h, if_neg h0]
 simp only [e6, Bool.false_eq_true, if_false]
theorem Fx {l1 pv mid : Nat} {d3 d4 : Array UInt32} (h : ¬ b - a ≤ 12) (h0 : ¬ limit = 0) (r : Rnd d a b limit wb wp l1 pv d3) (ha : 0 < a) (hl : ltW d3[a - 1]! d3[pv]! = false) (he : partitionEqual ltW d3 a b pv = (mid, d4)) (hm : a < mid ∧ mid ≤ b) :
  pdq ltW d a b limit wb wp = pdq ltW d4 mid b l1 wb wp := by
 rw [tQ h h0 r, if_pos (by simp [ha, hl]), he]
 simp only []
 rw [dif_pos hm]
theorem wx {l1 pv mid : Nat} {d3 d4 : Array UInt32} {ap : Bool} (h : ¬ b - a ≤ 12) (h0 : ¬ limit = 0) (r : Rnd d a b limit wb wp l1 pv d3) (hl : a = 0 ∨ ltW d3[a - 1]! d3[pv]! = true) (he : partition ltW d3 a b pv = (mid, ap, d4)) (hm : a ≤ mid ∧ mid < b) (hs : mid - a < b - mid) :
  pdq ltW d a b limit wb wp = pdq ltW (pdq ltW d4 a mid l1 true true) (mid + 1) b l1 (decide (mid - a ≥ (b - a) / 8)) ap := by
 rw [tQ h h0 r, if_neg (by simp only [Bool.and_eq_true, decide_eq_true_eq, Bool.not_eq_true']; rintro ⟨q1, q2⟩; rcases hl with q | q; omega; rw [q] at q2; cases q2), he]
 simp only []
 rw [dif_pos hm, if_pos hs]
theorem uX {l1 pv mid : Nat} {d3 d4 : Array UInt32} {ap : Bool} (h : ¬ b - a ≤ 12) (h0 : ¬ limit = 0) (r : Rnd d a b limit wb wp l1 pv d3) (hl : a = 0 ∨ ltW d3[a - 1]! d3[pv]! = true) (he : partition ltW d3 a b pv = (mid, ap, d4)) (hm : a ≤ mid ∧ mid < b) (hs : ¬ mid - a < b - mid) :
  pdq ltW d a b limit wb wp = pdq ltW (pdq ltW d4 (mid + 1) b l1 true true) a mid l1 (decide (b - mid ≥ (b - a) / 8)) ap := by
 rw [tQ h h0 r, if_neg (by simp only [Bool.and_eq_true, decide_eq_true_eq, Bool.not_eq_true']; rintro ⟨q1, q2⟩; rcases hl with q | q; omega; rw [q] at q2; cases q2), he]
 simp only []
 rw [dif_pos hm, if_neg hs]
end
theorem zM {d : Array UInt32} {a b pv : Nat} (h : a + 1 < b) (hb : b ≤ d.size) : a < (partitionEqual ltW d a b pv).1 ∧ (partitionEqual ltW d a b pv).1 ≤ b := by
 have := partEqLoop_spec (lt := ltW) a b _ (a + 1) (b - 1) (swp d a pv) (Nat.le_refl _) (by omega) (by omega) (by omega) (by rw [nw]; exact hb) (fun t _ _ => by omega) (fun t _ _ => by omega)
 exact ⟨this.1, this.2.1⟩
theorem DL {d : Array UInt32} {a b pv : Nat} (h1 : a ≤ pv) (h2 : pv < b) (hb : b ≤ d.size) : a ≤ (partition ltW d a b pv).1 ∧ (partition ltW d a b pv).1 < b := by
 have := partition_holds (lt := ltW) wq d a b pv h1 h2 hb
 exact ⟨this.1, this.2.1⟩
theorem qY (h : Hint) : hintCode h = 2 ↔ h = .decreasing := by cases h <;> simp [hintCode]
theorem qX (h : Hint) : hintCode h = 1 ↔ h = .increasing := by cases h <;> simp [hintCode]
theorem DJ {wb wp : Bool} {hint : Hint} (h : (wb = true ∧ wp = true) ∧ hintCode hint = 1) : (wb && wp && decide (hint = .increasing)) = true := by
 rw [h.1.1, h.1.2, (qX hint).1 h.2]; rfl
theorem HF {wb wp : Bool} {hint : Hint} (h : (wb = false ∨ wp = false) ∨ ¬ hintCode hint = 1) : ¬ (wb && wp && decide (hint = .increasing)) = true := by
 simp only [Bool.and_eq_true, decide_eq_true_eq]
 rintro ⟨⟨q1, q2⟩, q3⟩
 rcases h with (q | q) | q
 ·rw [q1] at q; cases q
 ·rw [q2] at q; cases q
 ·exact q ((qX hint).2 q3)
theorem De (d : Array UInt32) : (sort ltW d).toList = d.toList.mergeSort (fun x y => !ltW y x) := by
 have h := sort_sorts ltW wq d
 exact sorted_unique_holds (lt := ltW) wq (fun x y h1 h2 => by
  simp only [ltW, decide_eq_false_iff_not, UInt32.lt_iff_toNat_lt] at h1 h2
  exact UInt32.toNat_inj.1 (by omega)) d _ h.1 h.2
end Go.HL
namespace Go.Proofs.YtiajjbhcpeadfaaGreat
open Go Go.HL Go.RowKit Go.Sort
theorem FD (x : Nat) (hx : x < 4294967296) (w : World) :
  Cr Tryz.prog 209 #[.int .u64 (x : Nat)] w (.int .i64 (bitsLen x : Nat)) := by
 refine enter Tryz.func209 rfl Tryz.ntmps209 rfl ?_
 refine ah (zz0 (ab rfl) (ad (an (ah (zz0 (aa rfl) (zz0 (eM rfl rfl) (ad ?_)))))))
 refine au rfl ?_ ?_ <;> intro h1 <;> try simp only [bs] at h1
 ·first | contradiction | (exfalso; omega) | simp_all
 refine bC ?_
 refine cZ (ι := Nat × Nat) (fun ⟨y, n⟩ => y < 65536 ∧ n ≤ 16 ∧ bitsLen x = n + bitsLen y) (fun _ => Bg.of w) (fun ⟨y, n⟩ => []) (fun ⟨y, n⟩ => [(0, .int .u64 (y : Nat)), (2, .int .i64 (n : Nat))]) ?_ (fun i hi => ?_)
 ·skip
  refine ah (zz0 (aa rfl) (zz0 (eM rfl rfl) (ad ?_)))
  refine au rfl ?_ ?_ <;> intro h2 <;> try simp only [bs] at h2
  ·refine ah (zz0 (aa rfl) (zz0 (Bw 16 rfl rfl (by decide)) ?_))
   refine zz0 (ab rfl) (ad (ar (zz0 (aa rfl) (zz0 (cB rfl rfl) ?_))))
   refine zz0 (ab rfl) (ad ?_)
   refine co (x / 2 ^ 16, 16) (Front.c (Front.c Front.nil)) (zz8 8 rfl) (o := ⟨by omega, by omega, HJ (by omega)⟩)
  refine bC ?_
  refine co (x, 0) (Front.c (Front.c Front.nil)) (zz8 2 rfl) (o := ⟨by omega, by omega, by omega⟩)
 obtain ⟨y, n⟩ := i
 replace hi : y < 65536 ∧ n ≤ 16 ∧ bitsLen x = n + bitsLen y := hi
 change Tr _ _ [] ([(0, .int .u64 (y : Nat)), (2, .int .i64 (n : Nat))] ++ _) _
 obtain ⟨hy1, hy2, hy3⟩ := hi
 refine cZ (ι := Nat × Nat) (fun ⟨z, k⟩ => z < 256 ∧ k ≤ 24 ∧ bitsLen x = k + bitsLen z) (fun _ => Bg.of w) (fun ⟨z, k⟩ => []) (fun ⟨z, k⟩ => [(0, .int .u64 (z : Nat)), (2, .int .i64 (k : Nat))]) ?_ (fun i hi => ?_)
 ·skip
  refine ah (zz0 (aa rfl) (zz0 (eM rfl rfl) (ad ?_)))
  refine au rfl ?_ ?_ <;> intro h3 <;> try simp only [bs] at h3
  ·refine ah (zz0 (aa rfl) (zz0 (Bw 8 rfl rfl (by decide)) ?_))
   refine zz0 (ab rfl) (ad (ar (zz0 (aa rfl) (zz0 (cB rfl rfl) ?_))))
   refine zz0 (ab rfl) (ad ?_)
   refine co (y / 2 ^ 8, n + 8) (Front.c (Front.c Front.nil)) (zz8 8 rfl) (o := ⟨by omega, by omega, by have := len8 (x := y) (by omega); omega⟩)
  refine bC ?_
  refine co (y, n) (Front.c (Front.c Front.nil)) (zz8 2 rfl) (o := ⟨by omega, by omega, by omega⟩)
 obtain ⟨z, k⟩ := i
 replace hi : z < 256 ∧ k ≤ 24 ∧ bitsLen x = k + bitsLen z := hi
 change Tr _ _ [] ([(0, .int .u64 (z : Nat)), (2, .int .i64 (k : Nat))] ++ _) _
 obtain ⟨hz1, hz2, hz3⟩ := hi
 have hz8 := vU hz1
 refine ah (zz0 (aa rfl) (zz0 (aa rfl) (zz0 (eW rfl cD bU (by rw [IntKind.wrap_u8]; omega)) ?_)))
 refine zz0 (CM rfl rfl g5 (by kernel_rfl) (by omega)) ?_
 refine zz0 (eW rfl bU ba (IntWalk.i64_in _ (by omega))) ?_
 refine zz0 (cB rfl rfl) ?_
 refine zz0 (ab rfl) (ad (aC ?_))
 refine aX Tryz.results209 rfl (fun w' hw => ?_)
 exact ⟨by rw [hz3]; simp, hw.b0⟩
theorem HI (x : Nat) (xi : Int) (ex : xi = ((x : Nat) : Int)) (hx : x < 4294967296) (w : World) :
  Cr Tryz.prog 150 #[.int .u64 xi] w (.int .i64 (bitsLen x : Nat)) := by
 subst ex
 refine enter Tryz.func150 rfl Tryz.ntmps150 rfl ?_
 refine ah (zz0 (ab rfl) (ad (an ?_)))
 refine au rfl ?_ ?_ <;> intro h1 <;> try simp only [bs] at h1
 ·first | contradiction | (exfalso; omega) | simp_all
 refine dz (zz0 (aa rfl) (zz0 (az rfl Tryz.call209 (fun w hw => FD x hx w)) ?_))
 refine zz0 (ab rfl) (ad (aC ?_))
 refine aX Tryz.results150 rfl (fun w' hw => ?_)
 exact ⟨rfl, hw.b0⟩
theorem Cb (n : Nat) (ni : Int) (en : ni = ((n : Nat) : Int)) (hn : n ≤ 1000000) (w : World) :
  Cr Tryz.prog 265 #[.int .i64 ni] w (.int .u64 ((1 <<< bitsLen n : Nat) : Int)) := by
 subst en
 have hb : bitsLen n ≤ 20 := (bitsLen_le_iff n 20).2 (by omega)
 refine enter Tryz.func265 rfl Tryz.ntmps265 rfl ?_
 refine ah (zz0 (ab rfl) (aI (zz0 (aa rfl) (zz0 (eW rfl ba dN (IntWalk.u64_in _ (by omega))) ?_))))
 refine zz0 (az rfl Tryz.call150 (fun w hw => HI n _ rfl (by omega) w)) ?_
 refine zz0 (CE rfl rfl (by omega)) ?_
 refine zz0 (ab rfl) (ad (aC ?_))
 refine aX Tryz.results265 rfl (fun w' hw => ?_)
 exact ⟨rfl, hw.b0⟩
theorem GX (r : UInt64) (bs : Nat) (w : World) (ho : OwnAt w [cellE bs [.int .u64 ((r).toNat : Int)] 292]) :
  Calls Tryz.prog 266 #[.pointer (some ⟨bs, 0, none⟩)] w (fun e w' => ∃ i : Unit, e = .returned (.int .u64 ((xorNext r).toNat : Nat)) ∧ Upd w.drawn w w' (cT [cellE bs [.int .u64 ((r).toNat : Int)] 292]) ([cellE bs [.int .u64 ((xorNext r).toNat : Int)] 292]) ∧ True) := by
 refine pZ (L := [cellE bs [.int .u64 ((r).toNat : Int)] 292]) ho rfl (Nat.le_refl _) Tryz.func266 rfl Tryz.ntmps266 rfl ?_
 refine ah (zz0 (ab rfl) (ad (an (fy 0 9 aP ?_))))
 refine bE ?_
 refine aw (aa rfl) (aw (bh rfl) ?_)
 refine aw (jW rfl iQ) ?_
 refine aw (aa rfl) (aw (bh rfl) ?_)
 refine aw (jW rfl iQ) ?_
 refine aw (zl 13 rfl rfl (by decide)) ?_
 refine aw (uG rfl rfl) ?_
 refine aw (bh rfl) ?_
 refine bH ?_
 refine zz5 rfl rfl lg ?_
 refine ad (an (fy 0 9 aP ?_))
 refine bE ?_
 refine aw (aa rfl) (aw (bh rfl) ?_)
 refine aw (jW rfl iQ) ?_
 refine aw (aa rfl) (aw (bh rfl) ?_)
 refine aw (jW rfl iQ) ?_
 refine aw (E2 7 rfl rfl (by decide)) ?_
 refine aw (uG rfl rfl) ?_
 refine aw (bh rfl) ?_
 refine bH ?_
 refine zz5 rfl rfl lg ?_
 refine ad (an (fy 0 9 aP ?_))
 refine bE ?_
 refine aw (aa rfl) (aw (bh rfl) ?_)
 refine aw (jW rfl iQ) ?_
 refine aw (aa rfl) (aw (bh rfl) ?_)
 refine aw (jW rfl iQ) ?_
 refine aw (zl 17 rfl rfl (by decide)) ?_
 refine aw (uG rfl rfl) ?_
 refine aw (bh rfl) ?_
 refine bH ?_
 refine zz5 rfl rfl lg ?_
 refine aI (zz0 (aa rfl) (zz0 (bh rfl) ?_))
 refine zz0 (jW rfl iQ) ?_
 refine zz0 (ab rfl) (ad (aC ?_))
 refine aX Tryz.results266 rfl (fun w' hw => ?_)
 exact ⟨(), rfl, hw.upd (Bg.le.refl _) (by repeat' constructor), trivial⟩
theorem pU (d : Array UInt32) (V : Value) (bs : Nat) (a b s : Nat) (ai bi : Int) (ea : ai = ((a : Nat) : Int)) (eb : bi = ((b : Nat) : Int)) (w : World) (ho : OwnAt w [rowE V 23 al d.toList, cellE bs [.int .i64 ((s : Nat) : Int)] 3]) (hd : d.size ≤ 1000000) (ha : a < d.size) (hb : b < d.size) (hs : s ≤ 100 := by omega) :
  Calls Tryz.prog 323 #[V, .int .i64 ai, .int .i64 bi, .pointer (some ⟨bs, 0, none⟩)] w (fun e w' => ∃ i : Nat × Nat × Nat, e = .returned ((fun i : Nat × Nat × Nat => .tuple #[.int .i64 (i.1 : Nat), .int .i64 (i.2.1 : Nat)]) i) ∧ Upd w.drawn w w' (cT [rowE V 23 al d.toList, cellE bs [.int .i64 ((s : Nat) : Int)] 3]) ([rowE V 23 al d.toList, cellE bs [.int .i64 (i.2.2 : Nat)] 3]) ∧ i = order2 ltW d a b s) := by
 subst ea eb
 have hdl : d.toList.length = d.size := Array.length_toList
 refine pZ (L := [rowE V 23 al d.toList, cellE bs [.int .i64 ((s : Nat) : Int)] 3]) ho rfl (Nat.le_refl _) Tryz.func323 rfl Tryz.ntmps323 rfl ?_
 refine ah (zz0 (ab rfl) (zz0 (ab rfl) (ad (an (an (gZ aP ?_))))))
 refine aw (aa rfl) (aw (aa rfl) (aw (zz7 rfl rfl af ae) ?_))
 refine aw (er rfl am) ?_
 refine aw (aa rfl) (aw (aa rfl) (aw (zz7 rfl rfl af ae) ?_))
 refine aw (er rfl am) ?_
 refine aw (az rfl fj (fun w hw => gz (d.toList.getD (b) default) (d.toList.getD (a) default) w)) ?_
 refine bH ?_
 refine ac ?_
 refine au rfl ?_ ?_ <;> intro h1 <;> try simp only [bs] at h1
 ·refine ah (zz0 (aa rfl) (zz0 (bh rfl) ?_))
  refine zz0 (jW rfl aO) ?_
  refine zz0 (cB rfl rfl) ?_
  refine zz0 (bh rfl) ?_
  refine jf rfl rfl aA (by repeat constructor) (by rfl) (by rfl) (by first | exact List.all_eq_true.1 rfl | exact Enc.one _ _ | exact Enc.one bN _ | (intro u hu; simp [Value.cells] at hu; simp_all [Value.oneCell'])) rfl ?_
  refine aI (zz0 (aa rfl) (zz0 (aa rfl) (zz0 (ab rfl) (zz0 (ab rfl) (ad (aC (ay ?_)))))))
  refine dE Tryz.results323 rfl rfl (fun w' hw => ?_)
  refine ⟨(b, a, s + 1), rfl, hw.upd (Bg.le.refl _) (by repeat' constructor), ?_⟩
  unfold order2
  rw [if_pos (by rw [← dM, ← dM]; simp_all)]
 refine dz (zz0 (aa rfl) (zz0 (aa rfl) (zz0 (ab rfl) (zz0 (ab rfl) (ad (aC ?_))))))
 refine dE Tryz.results323 rfl rfl (fun w' hw => ?_)
 refine ⟨(a, b, s), rfl, hw.upd (Bg.le.refl _) (by repeat' constructor), ?_⟩
 unfold order2
 rw [if_neg (by rw [← dM, ← dM]; simp_all)]
theorem ug (d : Array UInt32) (V : Value) (bs : Nat) (a b c s : Nat) (ai bi ci : Int) (ea : ai = ((a : Nat) : Int)) (eb : bi = ((b : Nat) : Int)) (ec : ci = ((c : Nat) : Int)) (w : World) (ho : OwnAt w [rowE V 23 al d.toList, cellE bs [.int .i64 ((s : Nat) : Int)] 3]) (hd : d.size ≤ 1000000) (ha : a < d.size) (hb : b < d.size) (hc : c < d.size) (hs : s ≤ 90 := by omega) :
  Calls Tryz.prog 295 #[V, .int .i64 ai, .int .i64 bi, .int .i64 ci, .pointer (some ⟨bs, 0, none⟩)] w (fun e w' => ∃ i : Nat × Nat, e = .returned ((fun i : Nat × Nat => .int .i64 (i.1 : Nat)) i) ∧ Upd w.drawn w w' (cT [rowE V 23 al d.toList, cellE bs [.int .i64 ((s : Nat) : Int)] 3]) ([rowE V 23 al d.toList, cellE bs [.int .i64 (i.2 : Nat)] 3]) ∧ i = median ltW d a b c s) := by
 subst ea eb ec
 refine pZ (L := [rowE V 23 al d.toList, cellE bs [.int .i64 ((s : Nat) : Int)] 3]) ho rfl (Nat.le_refl _) Tryz.func295 rfl Tryz.ntmps295 rfl ?_
 refine ah (zz0 (ab rfl) (aI (zz0 (aa rfl) (zz0 (aa rfl) (zz0 (aa rfl) (zz0 (aa rfl) ?_))))))
 refine ir (fun i : Nat × Nat × Nat => .tuple #[.int .i64 (i.1 : Nat), .int .i64 (i.2.1 : Nat)]) [rowE V 23 al d.toList, cellE bs [.int .i64 ((s : Nat) : Int)] 3] (fun i : Nat × Nat × Nat => [rowE V 23 al d.toList, cellE bs [.int .i64 (i.2.2 : Nat)] 3]) (ok := fun i => i = order2 ltW d a b s) (dd := fun w => w.drawn) rfl Tryz.call323 (by repeat' constructor) (fun w hw => hw.dr) (fun w hw => pU d V bs a b s _ _ rfl rfl w (hw.own (by repeat' constructor)) hd (by omega) (by omega)) rfl (fun p hp => ?_)
 obtain ⟨bp1, bp2, bp3⟩ := rI hp (n := d.size) (by omega) (by omega)
 obtain ⟨x1, y1, s1⟩ := p
 dsimp only at bp1 bp2 bp3
 change Tr _ _ [rowE V 23 al d.toList, cellE bs [.int .i64 ((s1 : Nat) : Int)] 3] _ _
 refine zz0 (aa rfl) (zz0 (aN rfl rfl) (zz0 (aN rfl rfl) (zz0 (ab rfl) (zz0 (ab rfl) (aI (zz0 (aa rfl) (zz0 (aa rfl) (zz0 (aa rfl) (zz0 (aa rfl) ?_)))))))))
 refine ir (fun i : Nat × Nat × Nat => .tuple #[.int .i64 (i.1 : Nat), .int .i64 (i.2.1 : Nat)]) [rowE V 23 al d.toList, cellE bs [.int .i64 ((s1 : Nat) : Int)] 3] (fun i : Nat × Nat × Nat => [rowE V 23 al d.toList, cellE bs [.int .i64 (i.2.2 : Nat)] 3]) (ok := fun i => i = order2 ltW d y1 c s1) (dd := fun w => w.drawn) rfl Tryz.call323 (by repeat' constructor) (fun w hw => hw.dr) (fun w hw => pU d V bs y1 c s1 _ _ rfl rfl w (hw.own (by repeat' constructor)) hd (by omega) (by omega)) rfl (fun q hq => ?_)
 obtain ⟨bq1, bq2, bq3⟩ := rI hq (n := d.size) (by omega) (by omega)
 obtain ⟨x2, y2, s2⟩ := q
 dsimp only at bq1 bq2 bq3
 change Tr _ _ [rowE V 23 al d.toList, cellE bs [.int .i64 ((s2 : Nat) : Int)] 3] _ _
 refine zz0 (aa rfl) (zz0 (aN rfl rfl) (zz0 (aN rfl rfl) (zz0 (ab rfl) (zz0 (ab rfl) (aI (zz0 (aa rfl) (zz0 (aa rfl) (zz0 (aa rfl) (zz0 (aa rfl) ?_)))))))))
 refine ir (fun i : Nat × Nat × Nat => .tuple #[.int .i64 (i.1 : Nat), .int .i64 (i.2.1 : Nat)]) [rowE V 23 al d.toList, cellE bs [.int .i64 ((s2 : Nat) : Int)] 3] (fun i : Nat × Nat × Nat => [rowE V 23 al d.toList, cellE bs [.int .i64 (i.2.2 : Nat)] 3]) (ok := fun i => i = order2 ltW d x1 x2 s2) (dd := fun w => w.drawn) rfl Tryz.call323 (by repeat' constructor) (fun w hw => hw.dr) (fun w hw => pU d V bs x1 x2 s2 _ _ rfl rfl w (hw.own (by repeat' constructor)) hd (by omega) (by omega)) rfl (fun r hr => ?_)
 obtain ⟨br1, br2, br3⟩ := rI hr (n := d.size) (by omega) (by omega)
 obtain ⟨x3, y3, s3⟩ := r
 dsimp only at br1 br2 br3
 change Tr _ _ [rowE V 23 al d.toList, cellE bs [.int .i64 ((s3 : Nat) : Int)] 3] _ _
 refine zz0 (aa rfl) (zz0 (aN rfl rfl) (zz0 (aN rfl rfl) (zz0 (ab rfl) (zz0 (ab rfl) (aI (zz0 (aa rfl) (zz0 (ab rfl) (ad (aC ?_)))))))))
 refine aX Tryz.results295 rfl (fun w' hw => ?_)
 exact ⟨(y3, s3), rfl, hw.upd (Bg.le.refl _) (by repeat' constructor), by unfold median; simp only []; rw [← hp]; dsimp only; rw [← hq]; dsimp only; rw [← hr]⟩
theorem xk (d : Array UInt32) (V : Value) (bs : Nat) (a s : Nat) (ai : Int) (ea : ai = ((a : Nat) : Int)) (w : World) (ho : OwnAt w [rowE V 23 al d.toList, cellE bs [.int .i64 ((s : Nat) : Int)] 3]) (hd : d.size ≤ 1000000) (ha : a + 1 < d.size) (h1 : 1 ≤ a) (hs : s ≤ 80 := by omega) :
  Calls Tryz.prog 294 #[V, .int .i64 ai, .pointer (some ⟨bs, 0, none⟩)] w (fun e w' => ∃ i : Nat × Nat, e = .returned ((fun i : Nat × Nat => .int .i64 (i.1 : Nat)) i) ∧ Upd w.drawn w w' (cT [rowE V 23 al d.toList, cellE bs [.int .i64 ((s : Nat) : Int)] 3]) ([rowE V 23 al d.toList, cellE bs [.int .i64 (i.2 : Nat)] 3]) ∧ i = medianAdjacent ltW d a s) := by
 subst ea
 refine pZ (L := [rowE V 23 al d.toList, cellE bs [.int .i64 ((s : Nat) : Int)] 3]) ho rfl (Nat.le_refl _) Tryz.func294 rfl Tryz.ntmps294 rfl ?_
 refine ah (zz0 (ab rfl) (aI (zz0 (aa rfl) (zz0 (aa rfl) (zz0 (ei rfl rfl) ?_)))))
 refine zz0 (aa rfl) (zz0 (aa rfl) (zz0 (cB rfl rfl) ?_))
 refine zz0 (aa rfl) ?_
 refine ir (fun i : Nat × Nat => .int .i64 (i.1 : Nat)) [rowE V 23 al d.toList, cellE bs [.int .i64 ((s : Nat) : Int)] 3] (fun i : Nat × Nat => [rowE V 23 al d.toList, cellE bs [.int .i64 (i.2 : Nat)] 3]) (ok := fun zz => zz = median ltW d (a - 1) a (a + 1) s) (dd := fun w => w.drawn) rfl Tryz.call295 (by repeat' constructor) (fun w hw => hw.dr) (fun w hw => ug d V bs (a - 1) a (a + 1) s _ _ _ (by omega) (by omega) (by omega) w (hw.own (by repeat' constructor)) hd (by omega) (by omega) (by omega)) rfl (fun p hp => ?_)
 obtain ⟨x, s1⟩ := p
 change Tr _ _ [rowE V 23 al d.toList, cellE bs [.int .i64 ((s1 : Nat) : Int)] 3] _ _
 refine zz0 (ab rfl) (ad (aC ?_))
 refine aX Tryz.results294 rfl (fun w' hw => ?_)
 exact ⟨(x, s1), rfl, hw.upd (Bg.le.refl _) (by repeat' constructor), hp⟩
theorem sZ (d : Array UInt32) (V : Value) (a : Nat) (b : Nat) (ai : Int) (bi : Int) (ea : ai = ((a : Nat) : Int)) (eb : bi = ((b : Nat) : Int)) (w : World) (hr : (rowE V 23 al d.toList).holds w) (hd : d.size ≤ 1000000) (hab : a < b) (hb : b ≤ d.size) :
  Calls Tryz.prog 257 #[V, .int .i64 ai, .int .i64 bi] w (fun e w' => e = .returned (.tuple #[.int .i64 ((choosePivot ltW d a b).1 : Nat), .int .i64 (hintCode (choosePivot ltW d a b).2)]) ∧ Mut w w' V ∧ (rowE V 23 al d.toList).holds w') := by
 subst ea eb
 refine fw (l := d.toList) (E := al) (T := 23) hr Tryz.func257 rfl Tryz.ntmps257 rfl ?_
 refine ah (zz0 (ab rfl) (zz0 (ab rfl) (aI (zz0 (aa rfl) (zz0 (aa rfl) (zz0 (ei rfl rfl) ?_))))))
 refine zz0 (ab rfl) (aI ?_)
 refine dC iw rfl (fun b1 => ?_)
 refine aI (zz0 (aa rfl) (zz0 (aa rfl) (zz0 (nW rfl rfl (by omega)) ?_)))
 refine zz0 (ko rfl rfl (by omega)) ?_
 refine zz0 (cB rfl rfl) ?_
 refine zz0 (ab rfl) (aI (zz0 (aa rfl) (zz0 (aa rfl) (zz0 (nW rfl rfl (by omega)) ?_))))
 refine zz0 (ko rfl rfl (by omega)) ?_
 refine zz0 (cB rfl rfl) ?_
 refine zz0 (ab rfl) (aI (zz0 (aa rfl) (zz0 (aa rfl) (zz0 (nW rfl rfl (by omega)) ?_))))
 refine zz0 (ko rfl rfl (by omega)) ?_
 refine zz0 (cB rfl rfl) ?_
 refine zz0 (ab rfl) (ad ?_)
 refine cZ (ι := Nat × Nat × Nat × Nat) (fun ⟨i, j, k, s⟩ => (j < d.size ∧ s ≤ 12) ∧ (j, s) = rawPivot ltW d a b) (fun _ => Bg.less w V) (fun ⟨i, j, k, s⟩ => [rowE V 23 al d.toList, cellE b1 [.int .i64 ((s : Nat) : Int)] 3]) (fun ⟨i, j, k, s⟩ => [(10, .int .i64 (i : Nat)), (11, .int .i64 (j : Nat)), (12, .int .i64 (k : Nat))]) ?_ (fun i hi => ?_)
 ·skip
  refine ah (zz0 (aa rfl) (zz0 (eM rfl rfl) (ad ?_)))
  refine au rfl ?_ ?_ <;> intro h2 <;> try simp only [bs] at h2
  ·refine cZ (ι := Nat × Nat × Nat × Nat) (fun ⟨i, j, k, s⟩ => (i < d.size ∧ j < d.size ∧ k < d.size ∧ s ≤ 9) ∧ median ltW d i j k s = rawPivot ltW d a b) (fun _ => Bg.less w V) (fun ⟨i, j, k, s⟩ => [rowE V 23 al d.toList, cellE b1 [.int .i64 ((s : Nat) : Int)] 3]) (fun ⟨i, j, k, s⟩ => [(10, .int .i64 (i : Nat)), (11, .int .i64 (j : Nat)), (12, .int .i64 (k : Nat))]) ?_ (fun i hi => ?_)
   ·skip
    refine ah (zz0 (aa rfl) (zz0 (eM rfl rfl) (ad ?_)))
    refine au rfl ?_ ?_ <;> intro h3 <;> try simp only [bs] at h3
    ·refine ah (zz0 (aa rfl) (zz0 (aa rfl) ?_))
     refine ir (fun i : Nat × Nat => .int .i64 (i.1 : Nat)) [rowE V 23 al d.toList, cellE b1 [.int .i64 ((0 : Nat) : Int)] 3] (fun i : Nat × Nat => [rowE V 23 al d.toList, cellE b1 [.int .i64 (i.2 : Nat)] 3]) (ok := fun zz => zz = medianAdjacent ltW d (a + (b - a) / 4 * 1) 0) (dd := fun w => w.drawn) rfl Tryz.call294 (by repeat' constructor) (fun w hw => hw.dr) (fun w hw => xk d V b1 (a + (b - a) / 4 * 1) 0 _ (by omega) w (hw.own (by repeat' constructor)) hd (by omega) (by omega)) rfl (fun p hp => ?_)
     have bp := As hp (n := d.size) (by omega)
     obtain ⟨x1, s1⟩ := p
     dsimp only at bp
     change Tr _ _ [rowE V 23 al d.toList, cellE b1 [.int .i64 ((s1 : Nat) : Int)] 3] _ _
     refine zz0 (ab rfl) (aI (zz0 (aa rfl) (zz0 (aa rfl) ?_)))
     refine ir (fun i : Nat × Nat => .int .i64 (i.1 : Nat)) [rowE V 23 al d.toList, cellE b1 [.int .i64 ((s1 : Nat) : Int)] 3] (fun i : Nat × Nat => [rowE V 23 al d.toList, cellE b1 [.int .i64 (i.2 : Nat)] 3]) (ok := fun zz => zz = medianAdjacent ltW d (a + (b - a) / 4 * 2) s1) (dd := fun w => w.drawn) rfl Tryz.call294 (by repeat' constructor) (fun w hw => hw.dr) (fun w hw => xk d V b1 (a + (b - a) / 4 * 2) s1 _ (by omega) w (hw.own (by repeat' constructor)) hd (by omega) (by omega)) rfl (fun q hq => ?_)
     have bq := As hq (n := d.size) (by omega)
     obtain ⟨x2, s2⟩ := q
     dsimp only at bq
     change Tr _ _ [rowE V 23 al d.toList, cellE b1 [.int .i64 ((s2 : Nat) : Int)] 3] _ _
     refine zz0 (ab rfl) (ad (ar (zz0 (aa rfl) (zz0 (aa rfl) ?_))))
     refine ir (fun i : Nat × Nat => .int .i64 (i.1 : Nat)) [rowE V 23 al d.toList, cellE b1 [.int .i64 ((s2 : Nat) : Int)] 3] (fun i : Nat × Nat => [rowE V 23 al d.toList, cellE b1 [.int .i64 (i.2 : Nat)] 3]) (ok := fun zz => zz = medianAdjacent ltW d (a + (b - a) / 4 * 3) s2) (dd := fun w => w.drawn) rfl Tryz.call294 (by repeat' constructor) (fun w hw => hw.dr) (fun w hw => xk d V b1 (a + (b - a) / 4 * 3) s2 _ (by omega) w (hw.own (by repeat' constructor)) hd (by omega) (by omega)) rfl (fun r hr => ?_)
     have br := As hr (n := d.size) (by omega)
     obtain ⟨x3, s3⟩ := r
     dsimp only at br
     change Tr _ _ [rowE V 23 al d.toList, cellE b1 [.int .i64 ((s3 : Nat) : Int)] 3] _ _
     refine zz0 (ab rfl) (ad ?_)
     refine co (x1, x2, x3, s3) (Front.c (Front.c (Front.c Front.nil))) (zz8 14 rfl) (o := ⟨by omega, Fw (by omega) hp hq hr rfl⟩)
    refine bC ?_
    refine co (a + (b - a) / 4 * 1, a + (b - a) / 4 * 2, a + (b - a) / 4 * 3, 0) (Front.c (Front.c (Front.c Front.nil))) (zz8 2 rfl) (o := ⟨by omega, Fv (by omega) (by omega) rfl⟩)
   obtain ⟨i, j, k, s⟩ := i
   replace hi : (i < d.size ∧ j < d.size ∧ k < d.size ∧ s ≤ 9) ∧ median ltW d i j k s = rawPivot ltW d a b := hi
   change Tr _ _ [rowE V 23 al d.toList, cellE b1 [.int .i64 ((s : Nat) : Int)] 3] ([(10, .int .i64 (i : Nat)), (11, .int .i64 (j : Nat)), (12, .int .i64 (k : Nat))] ++ _) _
   obtain ⟨hi1, hi2⟩ := hi
   refine ar (zz0 (aa rfl) (zz0 (aa rfl) (zz0 (aa rfl) (zz0 (aa rfl) ?_))))
   refine ir (fun i : Nat × Nat => .int .i64 (i.1 : Nat)) [rowE V 23 al d.toList, cellE b1 [.int .i64 ((s : Nat) : Int)] 3] (fun i : Nat × Nat => [rowE V 23 al d.toList, cellE b1 [.int .i64 (i.2 : Nat)] 3]) (ok := fun zz => zz = median ltW d i j k s) (dd := fun w => w.drawn) rfl Tryz.call295 (by repeat' constructor) (fun w hw => hw.dr) (fun w hw => ug d V b1 i j k s _ _ _ rfl rfl rfl w (hw.own (by repeat' constructor)) hd (by omega) (by omega) (by omega)) rfl (fun z hz => ?_)
   have bz := vz hz (n := d.size) (by omega) (by omega) (by omega)
   obtain ⟨x4, s4⟩ := z
   dsimp only at bz
   change Tr _ _ [rowE V 23 al d.toList, cellE b1 [.int .i64 ((s4 : Nat) : Int)] 3] _ _
   refine zz0 (ab rfl) (ad ?_)
   refine co (i, x4, k, s4) (Front.c (Front.c (Front.c Front.nil))) (zz8 11 rfl) (o := ⟨by omega, by rw [← hi2]; exact hz⟩)
  refine bC ?_
  refine co (a + (b - a) / 4 * 1, a + (b - a) / 4 * 2, a + (b - a) / 4 * 3, 0) (Front.c (Front.c (Front.c Front.nil))) (zz8 2 rfl) (o := ⟨by omega, DC (by omega)⟩)
 obtain ⟨i, j, k, s⟩ := i
 replace hi : (j < d.size ∧ s ≤ 12) ∧ (j, s) = rawPivot ltW d a b := hi
 change Tr _ _ [rowE V 23 al d.toList, cellE b1 [.int .i64 ((s : Nat) : Int)] 3] ([(10, .int .i64 (i : Nat)), (11, .int .i64 (j : Nat)), (12, .int .i64 (k : Nat))] ++ _) _
 obtain ⟨hj1, hj2⟩ := hi
 refine ah (zz0 (aH rfl aO) ?_)
 refine ad (aF (ah (zz0 (bA rfl rfl) (zz0 (ab rfl) (ad ?_)))))
 refine au rfl ?_ ?_ <;> intro h4 <;> try simp only [bs] at h4
 ·refine ah (zz0 (aa rfl) (zz0 (ab rfl) (zz0 (ab rfl) (ad (aC (bv ?_))))))
  refine dE mB rfl rfl (fun w' hw => ?_)
  obtain rfl : s = 0 := by omega
  exact ⟨by rw [choosePivot_eq, ← hj2]; rfl, HpOK.mutOwn hw (.head _) rfl⟩
 refine ah (zz0 (bA rfl rfl) (zz0 (ab rfl) (ad ?_)))
 refine au rfl ?_ ?_ <;> intro h5 <;> try simp only [bs] at h5
 ·refine ah (zz0 (aa rfl) (zz0 (ab rfl) (zz0 (ab rfl) (ad (aC (bv ?_))))))
  refine dE mB rfl rfl (fun w' hw => ?_)
  obtain rfl : s = 12 := by omega
  exact ⟨by rw [choosePivot_eq, ← hj2]; rfl, HpOK.mutOwn hw (.head _) rfl⟩
 refine ah (zz0 (aa rfl) (zz0 (ab rfl) (zz0 (ab rfl) (ad (aC (bv ?_))))))
 refine dE mB rfl rfl (fun w' hw => ?_)
 exact ⟨by rw [choosePivot_eq, ← hj2]; simp only [hintOf]; rw [if_neg (by omega), if_neg (by omega)]; rfl, HpOK.mutOwn hw (.head _) rfl⟩
theorem Cv (d : Array UInt32) (V : Value) (a : Nat) (b : Nat) (ai : Int) (bi : Int) (ea : ai = ((a : Nat) : Int)) (eb : bi = ((b : Nat) : Int)) (w : World) (hr : (rowE V 23 al d.toList).holds w) (hd : d.size ≤ 1000000) (hab : a ≤ b) (hb : b ≤ d.size) :
  Calls Tryz.prog 256 #[V, .int .i64 ai, .int .i64 bi] w (fun e w' => e = .returned (.tuple #[]) ∧ Mut w w' V ∧ (rowE V 23 al (breakPatterns d a b).toList).holds w') := by
 subst ea eb
 obtain ⟨md, hmd⟩ : ∃ md, md = 1 <<< bitsLen (b - a) := ⟨_, rfl⟩
 obtain ⟨i0, hi0⟩ : ∃ i, i = a + (b - a) / 4 * 2 - 1 := ⟨_, rfl⟩
 refine fw (l := d.toList) (E := al) (T := 23) hr Tryz.func256 rfl Tryz.ntmps256 rfl ?_
 refine ah (zz0 (aa rfl) (zz0 (aa rfl) (zz0 (ei rfl rfl) ?_)))
 refine zz0 (ab rfl) (aI (zz0 (aa rfl) (zz0 (eM rfl rfl) (ad ?_))))
 refine au rfl ?_ ?_ <;> intro h1 <;> try simp only [bs] at h1
 ·refine ah (zz0 (aa rfl) (zz0 (AN (b - a) rfl ba Tryz.underlying292 (by omega) (by omega)) ?_))
  refine dC Tryz.zeroValue292 rfl (fun b2 => ?_)
  refine jf rfl rfl lg (by repeat constructor) (by rfl) (by rfl) (by first | exact List.all_eq_true.1 rfl | exact Enc.one _ _) rfl ?_
  refine aI (zz0 (aa rfl) (zz0 (az rfl Tryz.call265 (fun w hw => Cb (b - a) _ (by omega) (by omega) w)) ?_))
  rw [← hmd]
  have hmb := GY (n := b - a) (by omega)
  rw [← hmd] at hmb
  refine zz0 (ab rfl) (aI (zz0 (aa rfl) (zz0 (aa rfl) (zz0 (nW rfl rfl (by omega)) ?_))))
  refine zz0 (ko rfl rfl (by omega)) ?_
  refine zz0 (cB rfl rfl) ?_
  refine zz0 (ei rfl rfl) ?_
  refine zz0 (ab rfl) (ad (aF ?_))
  refine bL (ι := Nat × UInt64 × Array UInt32) (fun ⟨t, r, cur⟩ => t ≤ 3 ∧ cur.size = d.size ∧ qf a (b - a) md i0 t (UInt64.ofNat (b - a), d) = (r, cur)) (fun _ => _) (fun ⟨t, r, cur⟩ => [rowE V 23 al cur.toList, cellE b2 [.int .u64 (r.toNat : Int)] 292]) (fun ⟨t, r, cur⟩ => [(9, .int .i64 ((i0 + t : Nat) : Int))]) (fun ⟨t, r, cur⟩ => 3 - t) (0, UInt64.ofNat (b - a), d) ⟨by omega, rfl, rfl⟩ (Front.c Front.nil) (by repeat' constructor) rfl (fun i hi m hm => ?_)
  obtain ⟨t, r, cur⟩ := i
  replace hi : t ≤ 3 ∧ cur.size = d.size ∧ qf a (b - a) md i0 t (UInt64.ofNat (b - a), d) = (r, cur) := hi
  replace hm : m = 3 - t := hm
  change Tr _ _ [rowE V 23 al cur.toList, cellE b2 [.int .u64 (r.toNat : Int)] 292] ([(9, .int .i64 ((i0 + t : Nat) : Int))] ++ _) _
  obtain ⟨hk1, hk2, hk3⟩ := hi
  have hcl : cur.toList.length = d.size := by rw [Array.length_toList]; exact hk2
  refine an (ah (zz0 (aa rfl) (zz0 (aa rfl) (zz0 (aa rfl) (zz0 (nW rfl rfl (by omega)) ?_)))))
  refine zz0 (ko rfl rfl (by omega)) ?_
  refine zz0 (cB rfl rfl) ?_
  refine zz0 (cB rfl rfl) ?_
  refine zz0 (fX rfl rfl) (ad ?_)
  refine au rfl ?_ ?_ <;> intro h3 <;> try simp only [bs] at h3
  ·refine bC (an (aF (ah ?_)))
   refine ir (fun _ : Unit => .int .u64 ((xorNext r).toNat : Nat)) [cellE b2 [.int .u64 ((r).toNat : Int)] 292] (fun _ => [cellE b2 [.int .u64 ((xorNext r).toNat : Int)] 292]) (ok := fun _ => True) (dd := fun w => w.drawn) rfl Tryz.call266 (by repeat' constructor) (fun w hw => hw.dr) (fun w hw => GX r b2 w (hw.own (by repeat' constructor))) rfl (fun i hi => ?_)
   refine zz0 (aa rfl) (zz0 (EZ (n := 1) rfl rfl (by omega) (by omega)) ?_)
   refine zz0 (E8 rfl rfl (by have := (xorNext r).toNat_lt; omega) (by omega)) ?_
   have hand : (xorNext r).toNat &&& (md - 1) ≤ md - 1 := Nat.and_le_right
   change Tr _ _ [cellE b2 [.int .u64 ((xorNext r).toNat : Int)] 292, rowE V 23 al cur.toList] _ _
   refine zz0 (eW rfl dN ba (IntWalk.i64_in _ (by omega))) ?_
   refine zz0 (ab rfl) (ad ?_)
   refine cZ (ι := Nat) (fun o => o < b - a ∧ o = if b - a ≤ ((xorNext r).toNat &&& (md - 1)) then ((xorNext r).toNat &&& (md - 1)) - (b - a) else ((xorNext r).toNat &&& (md - 1))) (fun _ => Bg.less w V) (fun o => [rowE V 23 al cur.toList, cellE b2 [.int .u64 ((xorNext r).toNat : Int)] 292]) (fun o => [(10, .int .i64 (o : Nat))]) ?_ (fun o hi => ?_)
   ·skip
    refine ah (zz0 (aa rfl) (zz0 (aa rfl) (zz0 (eM rfl rfl) (ad ?_))))
    refine au rfl ?_ ?_ <;> intro h4 <;> try simp only [bs] at h4
    ·refine ar (zz0 (aa rfl) (zz0 (aa rfl) (zz0 (ei rfl rfl) ?_)))
     refine zz0 (ab rfl) (ad ?_)
     refine co (((xorNext r).toNat &&& (md - 1)) - (b - a)) (Front.c Front.nil) (zz8 7 rfl) (o := ⟨by omega, by rw [if_pos (by omega)]⟩)
    refine bC ?_
    refine co ((xorNext r).toNat &&& (md - 1)) (Front.c Front.nil) (zz8 3 rfl) (o := ⟨by omega, by rw [if_neg (by omega)]⟩)
   skip
   replace hi : o < b - a ∧ o = if b - a ≤ ((xorNext r).toNat &&& (md - 1)) then ((xorNext r).toNat &&& (md - 1)) - (b - a) else ((xorNext r).toNat &&& (md - 1)) := hi
   change Tr _ _ [rowE V 23 al cur.toList, cellE b2 [.int .u64 ((xorNext r).toNat : Int)] 292] ([(10, .int .i64 (o : Nat))] ++ _) _
   obtain ⟨ho1, ho2⟩ := hi
   refine fy 6 17 aP ?_
   refine eh rfl ?_
   refine eh rfl ?_
   refine eh rfl ?_
   refine eh rfl ?_
   refine eh rfl ?_
   refine gh (fun _ => cB rfl rfl) (by rfl) rfl ?_
   refine bE ?_
   refine aw (aa rfl) (aw (aa rfl) (aw (aa rfl) (aw (cB rfl rfl) ?_)))
   refine aw (zz7 rfl rfl af ae) ?_
   refine aw (er rfl am) ?_
   refine aw (aa rfl) (aw (aa rfl) (aw (zz7 rfl rfl af ae) ?_))
   refine aw (er rfl am) ?_
   refine aw (zz7 rfl rfl af ae) ?_
   refine bH ?_
   refine fV (l := cur.toList) (i := (i0 + t)) (cur.toList.getD ((a + o)) default) rfl rfl ae ?_
   have hls5 : (List.set cur.toList ((i0 + t)) (cur.toList.getD ((a + o)) default)).length = (cur.toList).length := List.length_set
   refine zz0 (zz7 rfl rfl af ae) ?_
   refine fV (l := (cur.toList.set ((i0 + t)) (cur.toList.getD ((a + o)) default))) (i := (a + o)) (cur.toList.getD ((i0 + t)) default) rfl rfl ae ?_
   have hls6 : (List.set (cur.toList.set ((i0 + t)) (cur.toList.getD ((a + o)) default)) ((a + o)) (cur.toList.getD ((i0 + t)) default)).length = ((cur.toList.set ((i0 + t)) (cur.toList.getD ((a + o)) default))).length := List.length_set
   rw [dM, dM, ie]
   refine aD (aY (ac (ar (zz0 (aa rfl) (zz0 (cB rfl rfl) ?_)))))
   refine zz0 (ab rfl) (ad ?_)
   refine cK (t + 1, xorNext r, _) (Front.c Front.nil) (zz8 37 rfl) (o := ⟨by omega, by rw [nw]; exact hk2, EF hk3 ho2⟩)
  refine bJ (aG (aG (bj ?_)))
  refine fc Tryz.results256 (fun w' hw => ?_)
  obtain rfl : t = 3 := by omega
  have hq : breakPatterns d a b = cur := by rw [EH (by omega), ← hmd, ← hi0, hk3]
  exact ⟨rfl, by rw [hq]; exact HpOK.mutOwn hw (.head _) rfl⟩
 refine cd ?_
 refine fc Tryz.results256 (fun w' hw => ?_)
 exact ⟨rfl, by rw [EG (by omega)]; exact HpOK.mutOwn hw (.head _) rfl⟩
theorem DK (V : Value) (n : Nat) (ih : ∀ (d : Array UInt32) (a b limit : Nat) (ai bi li : Int) (w : World), ai = ((a : Nat) : Int) → bi = ((b : Nat) : Int) → li = ((limit : Nat) : Int) → (rowE V 23 al d.toList).holds w → d.size ≤ 1000000 → a ≤ b → b ≤ d.size → limit ≤ 64 → b - a < n → Calls Tryz.prog 198 #[V, .int .i64 ai, .int .i64 bi, .int .i64 li] w (fun e w' => e = .returned (.tuple #[]) ∧ Mut w w' V ∧ (rowE V 23 al (pdq ltW d a b limit true true).toList).holds w')) (d : Array UInt32) (a : Nat) (b : Nat) (limit : Nat) (ai : Int) (bi : Int) (limiti : Int) (ea : ai = ((a : Nat) : Int)) (eb : bi = ((b : Nat) : Int)) (elimit : limiti = ((limit : Nat) : Int)) (w : World) (hr : (rowE V 23 al d.toList).holds w) (hd : d.size ≤ 1000000) (hab : a ≤ b) (hb : b ≤ d.size) (hl : limit ≤ 64) (hn : b - a ≤ n) :
  Calls Tryz.prog 198 #[V, .int .i64 ai, .int .i64 bi, .int .i64 limiti] w (fun e w' => e = .returned (.tuple #[]) ∧ Mut w w' V ∧ (rowE V 23 al (pdq ltW d a b limit true true).toList).holds w') := by
 subst ea eb elimit
 refine fw (l := d.toList) (E := al) (T := 23) hr Tryz.func198 rfl Tryz.ntmps198 rfl ?_
 refine ah (zz0 (ab rfl) (aI (zz0 (ab rfl) (ad (aF ?_)))))
 refine bL (ι := Nat × Nat × Nat × Bool × Bool × Array UInt32) (fun ⟨a1, b1, l1, wb, wp, cur⟩ => (a ≤ a1 ∧ a1 ≤ b1 ∧ b1 ≤ b ∧ l1 ≤ 64) ∧ cur.size = d.size ∧ pdq ltW cur a1 b1 l1 wb wp = pdq ltW d a b limit true true) (fun _ => _) (fun ⟨a1, b1, l1, wb, wp, cur⟩ => [rowE V 23 al cur.toList]) (fun ⟨a1, b1, l1, wb, wp, cur⟩ => [(1, .int .i64 (a1 : Nat)), (2, .int .i64 (b1 : Nat)), (3, .int .i64 (l1 : Nat)), (8, .bool wb), (9, .bool wp)]) (fun ⟨a1, b1, l1, wb, wp, cur⟩ => b1 - a1) (a, b, limit, true, true, d) ⟨⟨Nat.le_refl _, hab, Nat.le_refl _, hl⟩, rfl, rfl⟩ (.cons (by first | rfl | exact eo rfl (by omega) | exact eu rfl (decide_eq_decide.2 (by omega)) | exact eo rfl (by simp) | exact eu rfl (by simp)) (.cons (by first | rfl | exact eo rfl (by omega) | exact eu rfl (decide_eq_decide.2 (by omega)) | exact eo rfl (by simp) | exact eu rfl (by simp)) (.cons (by first | rfl | exact eo rfl (by omega) | exact eu rfl (decide_eq_decide.2 (by omega)) | exact eo rfl (by simp) | exact eu rfl (by simp)) (.cons (by first | rfl | exact eo rfl (by omega) | exact eu rfl (decide_eq_decide.2 (by omega)) | exact eo rfl (by simp) | exact eu rfl (by simp)) (.cons (by first | rfl | exact eo rfl (by omega) | exact eu rfl (decide_eq_decide.2 (by omega)) | exact eo rfl (by simp) | exact eu rfl (by simp)) Front.nil))))) (by repeat' constructor) rfl (fun i hi m hm => ?_)
 obtain ⟨a1, b1, l1, wb, wp, cur⟩ := i
 replace hi : (a ≤ a1 ∧ a1 ≤ b1 ∧ b1 ≤ b ∧ l1 ≤ 64) ∧ cur.size = d.size ∧ pdq ltW cur a1 b1 l1 wb wp = pdq ltW d a b limit true true := hi
 replace hm : m = b1 - a1 := hm
 change Tr _ _ [rowE V 23 al cur.toList] ([(1, .int .i64 (a1 : Nat)), (2, .int .i64 (b1 : Nat)), (3, .int .i64 (l1 : Nat)), (8, .bool wb), (9, .bool wp)] ++ _) _
 obtain ⟨hk1, hk2, hk3⟩ := hi
 have hcl : cur.toList.length = d.size := by rw [Array.length_toList]; exact hk2
 refine aF (ah (zz0 (aa rfl) (zz0 (aa rfl) (zz0 (ei rfl rfl) ?_))))
 refine zz0 (ab rfl) (ad (an (ah (zz0 (aa rfl) (zz0 (fX rfl rfl) (ad ?_))))))
 refine au rfl ?_ ?_ <;> intro h1 <;> try simp only [bs] at h1
 ·refine ah (zz0 (aa rfl) (zz0 (aa rfl) (zz0 (aa rfl) (dW rfl Tryz.call254 (by repeat constructor) (fun w hw => uZ cur V a1 b1 _ _ rfl rfl w (hw.ent _ (.head _)) (by omega) (by omega) (by omega)) rfl ?_))))
  refine ad (aC (ay (bv (ay (bv ?_)))))
  refine lk mE (fun w' hw => ?_)
  exact ⟨rfl, by rw [← hk3, uW (by omega)]; exact HpOK.mutOwn hw (.head _) rfl⟩
 refine bC (an (ah (zz0 (aa rfl) (zz0 (bA rfl rfl) (ad ?_)))))
 refine au rfl ?_ ?_ <;> intro h2 <;> try simp only [bs] at h2
 ·refine ah (zz0 (aa rfl) (zz0 (aa rfl) (zz0 (aa rfl) (dW rfl Tryz.call255 (by repeat constructor) (fun w hw => D9 cur V a1 b1 _ _ rfl rfl w (hw.ent _ (.head _)) (by omega) (by omega) (by omega)) rfl ?_))))
  refine ad (aC (ay (bv (ay (bv ?_)))))
  refine lk mE (fun w' hw => ?_)
  exact ⟨rfl, by rw [← hk3, wy (by omega) (by omega)]; exact HpOK.mutOwn hw (.head _) rfl⟩
 refine bC ?_
 refine cZ (ι := Nat × Array UInt32) (fun ⟨l2, d1⟩ => (d1.size = d.size ∧ l2 ≤ 64) ∧ l2 = (if !wb then l1 - 1 else l1) ∧ d1 = (if !wb then breakPatterns cur a1 b1 else cur)) (fun _ => Bg.less w V) (fun ⟨l2, d1⟩ => [rowE V 23 al d1.toList]) (fun ⟨l2, d1⟩ => [(3, .int .i64 (l2 : Nat))]) ?_ (fun i hi => ?_)
 ·skip
  refine ah (zz0 (aa rfl) (zz0 (cP rfl) (ad ?_)))
  refine au rfl ?_ ?_ <;> intro h3 <;> try simp only [bs] at h3
  ·refine ah (zz0 (aa rfl) (zz0 (aa rfl) (zz0 (aa rfl) (dW rfl Tryz.call256 (by repeat constructor) (fun w hw => Cv cur V a1 b1 _ _ rfl rfl w (hw.ent _ (.head _)) (by omega) (by omega) (by omega)) rfl ?_))))
   refine j5 hr (.head _) (fun hq => ?_)
   have hz1 : (breakPatterns cur a1 b1).size = d.size := by rw [← Array.length_toList, ← Array.length_toList]; exact hq
   refine ad (ar (zz0 (aa rfl) (zz0 (ei rfl rfl) ?_)))
   refine zz0 (ab rfl) (ad ?_)
   refine co (l1 - 1, breakPatterns cur a1 b1) (.cons (by first | rfl | exact eo rfl (by omega) | exact eu rfl (decide_eq_decide.2 (by omega)) | exact eo rfl (by simp) | exact eu rfl (by simp)) Front.nil) (zz8 9 rfl) (o := ⟨⟨hz1, by omega⟩, by simp_all, by simp_all⟩)
  refine bC ?_
  refine co (l1, cur) (.cons (by first | rfl | exact eo rfl (by omega) | exact eu rfl (decide_eq_decide.2 (by omega)) | exact eo rfl (by simp) | exact eu rfl (by simp)) Front.nil) (zz8 2 rfl) (o := ⟨⟨hk2, by omega⟩, by simp_all, by simp_all⟩)
 obtain ⟨l2, d1⟩ := i
 replace hi : (d1.size = d.size ∧ l2 ≤ 64) ∧ l2 = (if !wb then l1 - 1 else l1) ∧ d1 = (if !wb then breakPatterns cur a1 b1 else cur) := hi
 change Tr _ _ [rowE V 23 al d1.toList] ([(3, .int .i64 (l2 : Nat))] ++ _) _
 obtain ⟨hd1, hl2, hd1e⟩ := hi
 refine ah (zz0 (aa rfl) (zz0 (aa rfl) (zz0 (aa rfl) (dW rfl Tryz.call257 (by repeat constructor) (fun w hw => sZ d1 V a1 b1 _ _ rfl rfl w (hw.ent _ (.head _)) (by omega) (by omega) (by omega)) rfl ?_))))
 obtain ⟨c, hc⟩ : ∃ c, c = choosePivot ltW d1 a1 b1 := ⟨_, rfl⟩
 rw [← hc]
 have hcr := choosePivot_holds ltW d1 a1 b1 (by omega)
 rw [← hc] at hcr
 refine zz0 (aa rfl) (zz0 (aN rfl rfl) (zz0 (aN rfl rfl) (zz0 (ab rfl) (zz0 (ab rfl) (ad ?_)))))
 refine cZ (ι := Nat × Hint × Array UInt32) (fun ⟨pv, hint, d2⟩ => (a1 ≤ pv ∧ pv < b1 ∧ d2.size = d.size) ∧ d2 = (if c.2 = .decreasing then reverseRange d1 a1 b1 else d1) ∧ pv = (if c.2 = .decreasing then (b1 - 1) - (c.1 - a1) else c.1) ∧ hint = (if c.2 = .decreasing then Hint.increasing else c.2)) (fun _ => Bg.less w V) (fun ⟨pv, hint, d2⟩ => [rowE V 23 al d2.toList]) (fun ⟨pv, hint, d2⟩ => [(11, .int .i64 (pv : Nat)), (12, .int .i64 (hintCode hint))]) ?_ (fun i hi => ?_)
 ·skip
  refine ah (zz0 (aa rfl) (zz0 (bA rfl rfl) (ad ?_)))
  refine au rfl ?_ ?_ <;> intro h4 <;> try simp only [bs] at h4
  ·refine ah (zz0 (aa rfl) (zz0 (aa rfl) (zz0 (aa rfl) (dW rfl Tryz.call258 (by repeat constructor) (fun w hw => yb d1 V a1 b1 _ _ rfl rfl w (hw.ent _ (.head _)) (by omega) (by omega) (by omega)) rfl ?_))))
   refine j5 hr (.head _) (fun hq => ?_)
   have hz2 : (reverseRange d1 a1 b1).size = d.size := by rw [← Array.length_toList, ← Array.length_toList]; exact hq
   refine aI (zz0 (aa rfl) (zz0 (ei rfl rfl) ?_))
   refine zz0 (aa rfl) (zz0 (aa rfl) (zz0 (ei rfl rfl) ?_))
   refine zz0 (ei rfl rfl) ?_
   refine zz0 (ab rfl) (ad (ar (zz0 (ab rfl) (ad ?_))))
   have hx : c.2 = .decreasing := (qY c.2).1 (by assumption)
   refine co (b1 - 1 - (c.1 - a1), .increasing, reverseRange d1 a1 b1) (.cons (by first | rfl | exact eo rfl (by omega) | exact eu rfl (decide_eq_decide.2 (by omega)) | exact eo rfl (by simp) | exact eu rfl (by simp)) (.cons (by first | rfl | exact eo rfl (by omega) | exact eu rfl (decide_eq_decide.2 (by omega)) | exact eo rfl (by simp) | exact eu rfl (by simp)) Front.nil)) (zz8 14 rfl) (o := ⟨⟨by omega, by omega, hz2⟩, by rw [if_pos hx], by rw [if_pos hx], by rw [if_pos hx]⟩)
  refine bC ?_
  have hx : ¬ c.2 = .decreasing := fun e => absurd ((qY c.2).2 e) (by assumption)
  refine co (c.1, c.2, d1) (.cons (by first | rfl | exact eo rfl (by omega) | exact eu rfl (decide_eq_decide.2 (by omega)) | exact eo rfl (by simp) | exact eu rfl (by simp)) (.cons (by first | rfl | exact eo rfl (by omega) | exact eu rfl (decide_eq_decide.2 (by omega)) | exact eo rfl (by simp) | exact eu rfl (by simp)) Front.nil)) (zz8 2 rfl) (o := ⟨⟨by omega, by omega, hd1.1⟩, by rw [if_neg hx], by rw [if_neg hx], by rw [if_neg hx]⟩)
 obtain ⟨pv, hint, d2⟩ := i
 replace hi : (a1 ≤ pv ∧ pv < b1 ∧ d2.size = d.size) ∧ d2 = (if c.2 = .decreasing then reverseRange d1 a1 b1 else d1) ∧ pv = (if c.2 = .decreasing then (b1 - 1) - (c.1 - a1) else c.1) ∧ hint = (if c.2 = .decreasing then Hint.increasing else c.2) := hi
 change Tr _ _ [rowE V 23 al d2.toList] ([(11, .int .i64 (pv : Nat)), (12, .int .i64 (hintCode hint))] ++ _) _
 obtain ⟨hpv, hd2, hpve, hhint⟩ := hi
 have hdl2 : d2.toList.length = d.size := by rw [Array.length_toList]; exact hpv.2.2
 refine cZ (ι := Array UInt32) (fun d3 => d3.size = d.size ∧ (if wb && wp && hint = .increasing then partialInsertionSort ltW d2 a1 b1 else (d2, false)) = (d3, false)) (fun _ => Bg.less w V) (fun d3 => [rowE V 23 al d3.toList]) (fun d3 => []) ?_ (fun d3 hi => ?_)
 ·skip
  refine ah (zz0 (aa rfl) (zz0 (aa rfl) ?_))
  apply cH
  ·exact (rfl : _ = (2, 62, 64))
  ·exact rfl
  ·intro hT5; have hT5' := hT5
   try simp only [bs] at hT5'
   refine zz6 hT5 (aa rfl) (zz0 (aV rfl hT5 rfl) ?_)
   refine aD (ac ?_)
   exact aK (Sub.cons rfl (bD 2 rfl))
  ·intro hF5
   refine zz9 hF5 (zz0 (aU rfl hF5 rfl) ?_)
   refine aD (ac ?_)
   exact aK (Sub.cons rfl (bD 2 rfl))
  refine zz0 (aa rfl) ?_
  apply cH
  ·exact (rfl : _ = (3, 65, 68))
  ·exact rfl
  ·intro hT6; have hT6' := hT6
   try simp only [bs] at hT6'
   refine zz6 hT6 (aa rfl) (zz6 hT6 (bA rfl rfl) (zz0 (aV rfl hT6 rfl) ?_))
   refine aD (ac ?_)
   exact aK (Sub.cons rfl (bD 3 rfl))
  ·intro hF6
   refine zz9 hF6 (zz9 hF6 (zz0 (aU rfl hF6 rfl) ?_))
   refine aD (ac ?_)
   exact aK (Sub.cons rfl (bD 3 rfl))
  refine ad ?_
  refine au rfl ?_ ?_ <;> intro h7 <;> try simp only [bs] at h7
  ·refine ah (zz0 (aa rfl) (zz0 (aa rfl) (zz0 (aa rfl) (dW rfl Tryz.call259 (by repeat constructor) (fun w hw => tR d2 V a1 b1 _ _ rfl rfl w (hw.ent _ (.head _)) (by omega) (by omega) (by omega)) rfl ?_))))
   obtain ⟨p, hp⟩ : ∃ p, p = partialInsertionSort ltW d2 a1 b1 := ⟨_, rfl⟩
   rw [← hp]
   refine j5 hr (.head _) (fun hq => ?_)
   have hz3 : p.1.size = d.size := by rw [← Array.length_toList, ← Array.length_toList]; exact hq
   refine ad ?_
   refine au rfl ?_ ?_ <;> intro h8 <;> try simp only [bs] at h8
   ·refine aC (ay (bv (ay (bv ?_))))
    refine lk mE (fun w' hw => ?_)
    have hfin : pdq ltW cur a1 b1 l1 wb wp = p.1 := wz (by omega) (by omega) hd1e hc hd2 hhint (by rw [if_pos (DJ h7), ← hp]; exact Prod.ext rfl (by assumption))
    exact ⟨rfl, by rw [← hk3, hfin]; exact HpOK.mutOwn hw (.head _) rfl⟩
   refine bC ?_
   refine co p.1 Front.nil (zz8 9 rfl) (o := ⟨hz3, by rw [if_pos (DJ h7)]; exact Prod.ext rfl (by assumption)⟩)
  refine bC ?_
  refine co d2 Front.nil (zz8 5 rfl) (o := ⟨hpv.2.2, by rw [if_neg (HF h7)]⟩)
 skip
 replace hi : d3.size = d.size ∧ (if wb && wp && hint = .increasing then partialInsertionSort ltW d2 a1 b1 else (d2, false)) = (d3, false) := hi
 change Tr _ _ [rowE V 23 al d3.toList] ([] ++ _) _
 obtain ⟨hd3, hd3e⟩ := hi
 have hdl3 : d3.toList.length = d.size := by rw [Array.length_toList]; exact hd3
 have hR : Rnd cur a1 b1 l1 wb wp l2 pv d3 := ⟨d1, d2, c, hint, hd1e, hl2, hc, hd2, hpve, hhint, hd3e⟩
 have ea1 : ((a1 : Int) - 1).toNat = a1 - 1 ∨ a1 = 0 := by omega
 refine an (an (gZ aP ?_))
 refine aw (aa rfl) (aw (fg rfl rfl) (aw (aa rfl) ?_))
 apply fx
 ·exact (rfl : _ = (12, 75, 87))
 ·exact rfl
 ·intro hT9; have hT9' := hT9
  try simp only [bs] at hT9'
  refine bX hT9 (aa rfl) (bX hT9 (aa rfl) (bX hT9 (ei rfl rfl) ?_))
  refine bX hT9 (jm rfl rfl af ae) ?_
  refine bX hT9 (er rfl am) ?_
  refine bX hT9 (aa rfl) (bX hT9 (aa rfl) (bX hT9 (zz7 rfl rfl af ae) ?_))
  refine bX hT9 (er rfl am) ?_
  refine bX hT9 (az rfl fj (fun w hw => gz (d3.toList.getD (((a1 : Int) - 1).toNat) default) (d3.toList.getD (pv) default) w)) ?_
  refine bX hT9 (cP rfl) (aw (aV rfl hT9 rfl) ?_)
  exact dj (Sub.cons rfl (bD 12 rfl))
 ·intro hF9
  refine bW hF9 (bW hF9 (bW hF9 (bW hF9 (bW hF9 (bW hF9 (bW hF9 (bW hF9 (bW hF9 (bW hF9 (bW hF9 (aw (aU rfl hF9 rfl) ?_)))))))))))
  exact dj (Sub.cons rfl (bD 12 rfl))
 refine bH ?_
 refine ac ?_
 refine au rfl ?_ ?_ <;> intro h10 <;> try simp only [bs] at h10
 ·refine ah (zz0 (aa rfl) (zz0 (aa rfl) (zz0 (aa rfl) (zz0 (aa rfl) (dW rfl Tryz.call261 (by repeat constructor) (fun w hw => sU d3 V a1 b1 pv _ _ _ rfl rfl rfl w (hw.ent _ (.head _)) (by omega) (by omega) (by omega) (by omega)) rfl ?_)))))
  obtain ⟨p, hpe⟩ : ∃ p, p = partitionEqual ltW d3 a1 b1 pv := ⟨_, rfl⟩
  have hpr := zM (d := d3) (pv := pv) (show a1 + 1 < b1 by omega) (by omega)
  rw [← hpe] at hpr
  rw [← hpe]
  obtain ⟨mid, d4⟩ := p
  dsimp only at hpr ⊢
  refine j5 hr (.head _) (fun hq => ?_)
  have hz4 : d4.size = d.size := by rw [← Array.length_toList, ← Array.length_toList]; exact hq
  refine zz0 (ab rfl) (aI (zz0 (aa rfl) (zz0 (ab rfl) (ad (bJ (aG (bj (ac ?_))))))))
  apply g9 (mid, b1, l2, wb, wp, d4)
  ·exact rfl
  ·exact (.cons (by first | rfl | exact eo rfl (by omega) | exact eu rfl (decide_eq_decide.2 (by omega)) | exact eo rfl (by simp) | exact eu rfl (by simp)) (.cons (by first | rfl | exact eo rfl (by omega) | exact eu rfl (decide_eq_decide.2 (by omega)) | exact eo rfl (by simp) | exact eu rfl (by simp)) (.cons (by first | rfl | exact eo rfl (by omega) | exact eu rfl (decide_eq_decide.2 (by omega)) | exact eo rfl (by simp) | exact eu rfl (by simp)) (.cons (by first | rfl | exact eo rfl (by omega) | exact eu rfl (decide_eq_decide.2 (by omega)) | exact eo rfl (by simp) | exact eu rfl (by simp)) (.cons (by first | rfl | exact eo rfl (by omega) | exact eu rfl (decide_eq_decide.2 (by omega)) | exact eo rfl (by simp) | exact eu rfl (by simp)) Front.nil)))))
  ·exact zz8 37 rfl
  ·exact (by repeat' constructor)
  ·exact ⟨by show a ≤ mid ∧ mid ≤ b1 ∧ b1 ≤ b ∧ l2 ≤ 64; omega, hz4, by rw [← hk3]; exact (Fx (by omega) (by omega) hR (by omega) (by rw [← dM, ← dM, ← ea1.resolve_right (by omega)]; simp_all) hpe.symm (by omega)).symm⟩
  exact (by show b1 - mid < m; omega)
 refine bC (an ?_)
 have hcond : a1 = 0 ∨ ltW d3[a1 - 1]! d3[pv]! = true := by
  rcases Nat.eq_zero_or_pos a1 with q | q
  ·exact .inl q
  ·right
   rw [← dM, ← dM, ← ea1.resolve_right (by omega)]
   simp_all
 refine ar (zz0 (aa rfl) (zz0 (aa rfl) (zz0 (aa rfl) (zz0 (aa rfl) (dW rfl Tryz.call262 (by repeat constructor) (fun w hw => uV d3 V a1 b1 pv _ _ _ rfl rfl rfl w (hw.ent _ (.head _)) (by omega) (by omega) (by omega) (by omega)) rfl ?_)))))
 obtain ⟨p, hpt⟩ : ∃ p, p = partition ltW d3 a1 b1 pv := ⟨_, rfl⟩
 have hpr := DL (d := d3) (a := a1) (b := b1) (pv := pv) (by omega) (by omega) (by omega)
 rw [← hpt] at hpr
 rw [← hpt]
 obtain ⟨mid, ap, d4⟩ := p
 dsimp only at hpr ⊢
 refine j5 hr (.head _) (fun hq => ?_)
 have hz4 : d4.size = d.size := by rw [← Array.length_toList, ← Array.length_toList]; exact hq
 refine zz0 (aa rfl) (zz0 (aN rfl rfl) (zz0 (aN rfl rfl) (zz0 (ab rfl) (zz0 (ab rfl) (aI (zz0 (aa rfl) (zz0 (ab rfl) (ad (an ?_)))))))))
 refine ar (zz0 (aa rfl) (zz0 (aa rfl) (zz0 (ei rfl rfl) ?_)))
 refine zz0 (aa rfl) (zz0 (aa rfl) (zz0 (ei rfl rfl) ?_))
 refine zz0 (ab rfl) (zz0 (ab rfl) (aI (zz0 (aa rfl) (zz0 (nW rfl rfl (by omega)) ?_))))
 refine zz0 (ab rfl) (aI (zz0 (aa rfl) (zz0 (aa rfl) (zz0 (bT rfl rfl) (ad ?_)))))
 refine au rfl ?_ ?_ <;> intro h11 <;> try simp only [bs] at h11
 ·refine ah (zz0 (aa rfl) (zz0 (aa rfl) (zz0 (eM rfl rfl) (zz0 (ab rfl) (aI (zz0 (aa rfl) (zz0 (aa rfl) (zz0 (aa rfl) (zz0 (aa rfl) ?_)))))))))
  refine dW rfl Tryz.call198 (by repeat constructor) (fun w hw => ih d4 a1 mid l2 _ _ _ w rfl rfl rfl (hw.ent _ (.head _)) (by omega) (by omega) (by omega) (by omega) (by omega)) rfl ?_
  refine j5 hr (.head _) (fun hq => ?_)
  have hz5 : (pdq ltW d4 a1 mid l2 true true).size = d.size := by rw [← Array.length_toList, ← Array.length_toList]; exact hq
  refine ad (ar (zz0 (aa rfl) (zz0 (cB rfl rfl) ?_)))
  refine zz0 (ab rfl) (aD (aY (ac ?_)))
  apply g9 (mid + 1, b1, l2, decide (mid - a1 ≥ (b1 - a1) / 8), ap, pdq ltW d4 a1 mid l2 true true)
  ·exact rfl
  ·exact (.cons (by first | rfl | exact eo rfl (by omega) | exact eu rfl (decide_eq_decide.2 (by omega)) | exact eo rfl (by simp) | exact eu rfl (by simp)) (.cons (by first | rfl | exact eo rfl (by omega) | exact eu rfl (decide_eq_decide.2 (by omega)) | exact eo rfl (by simp) | exact eu rfl (by simp)) (.cons (by first | rfl | exact eo rfl (by omega) | exact eu rfl (decide_eq_decide.2 (by omega)) | exact eo rfl (by simp) | exact eu rfl (by simp)) (.cons (by first | rfl | exact eo rfl (by omega) | exact eu rfl (decide_eq_decide.2 (by omega)) | exact eo rfl (by simp) | exact eu rfl (by simp)) (.cons (by first | rfl | exact eo rfl (by omega) | exact eu rfl (decide_eq_decide.2 (by omega)) | exact eo rfl (by simp) | exact eu rfl (by simp)) Front.nil)))))
  ·exact zz8 67 rfl
  ·exact (by repeat' constructor)
  ·exact ⟨by show a ≤ mid + 1 ∧ mid + 1 ≤ b1 ∧ b1 ≤ b ∧ l2 ≤ 64; omega, hz5, by rw [← hk3]; exact (wx (by omega) (by omega) hR hcond hpt.symm (by omega) (by omega)).symm⟩
  exact (by show b1 - (mid + 1) < m; omega)
 refine ah (zz0 (aa rfl) (zz0 (aa rfl) (zz0 (eM rfl rfl) (zz0 (ab rfl) (aI (zz0 (aa rfl) (zz0 (aa rfl) (zz0 (cB rfl rfl) ?_))))))))
 refine zz0 (aa rfl) (zz0 (aa rfl) (dW rfl Tryz.call198 (by repeat constructor) (fun w hw => ih d4 (mid + 1) b1 l2 _ _ _ w (by omega) rfl rfl (hw.ent _ (.head _)) (by omega) (by omega) (by omega) (by omega) (by omega)) rfl ?_))
 refine j5 hr (.head _) (fun hq => ?_)
 have hz5 : (pdq ltW d4 (mid + 1) b1 l2 true true).size = d.size := by rw [← Array.length_toList, ← Array.length_toList]; exact hq
 refine ad (ar (zz0 (aa rfl) (zz0 (ab rfl) (aD (aY (ac ?_))))))
 apply g9 (a1, mid, l2, decide (b1 - mid ≥ (b1 - a1) / 8), ap, pdq ltW d4 (mid + 1) b1 l2 true true)
 ·exact rfl
 ·exact (.cons (by first | rfl | exact eo rfl (by omega) | exact eu rfl (decide_eq_decide.2 (by omega)) | exact eo rfl (by simp) | exact eu rfl (by simp)) (.cons (by first | rfl | exact eo rfl (by omega) | exact eu rfl (decide_eq_decide.2 (by omega)) | exact eo rfl (by simp) | exact eu rfl (by simp)) (.cons (by first | rfl | exact eo rfl (by omega) | exact eu rfl (decide_eq_decide.2 (by omega)) | exact eo rfl (by simp) | exact eu rfl (by simp)) (.cons (by first | rfl | exact eo rfl (by omega) | exact eu rfl (decide_eq_decide.2 (by omega)) | exact eo rfl (by simp) | exact eu rfl (by simp)) (.cons (by first | rfl | exact eo rfl (by omega) | exact eu rfl (decide_eq_decide.2 (by omega)) | exact eo rfl (by simp) | exact eu rfl (by simp)) Front.nil)))))
 ·exact zz8 67 rfl
 ·exact (by repeat' constructor)
 ·exact ⟨by show a ≤ a1 ∧ a1 ≤ mid ∧ mid ≤ b ∧ l2 ≤ 64; omega, hz5, by rw [← hk3]; exact (uX (by omega) (by omega) hR hcond hpt.symm (by omega) (by omega)).symm⟩
 exact (by show mid - a1 < m; omega)
theorem AZ (V : Value) : ∀ (n : Nat) (d : Array UInt32) (a b limit : Nat) (ai bi li : Int) (w : World), ai = ((a : Nat) : Int) → bi = ((b : Nat) : Int) → li = ((limit : Nat) : Int) → (rowE V 23 al d.toList).holds w → d.size ≤ 1000000 → a ≤ b → b ≤ d.size → limit ≤ 64 → b - a < n → Calls Tryz.prog 198 #[V, .int .i64 ai, .int .i64 bi, .int .i64 li] w (fun e w' => e = .returned (.tuple #[]) ∧ Mut w w' V ∧ (rowE V 23 al (pdq ltW d a b limit true true).toList).holds w')
 | 0, _, _, _, _, _, _, _, _, _, _, _, _, _, _, _, _, h => absurd h (Nat.not_lt_zero _)
 | n + 1, d, a, b, limit, ai, bi, li, w, e1, e2, e3, hr, hd, hab, hb, hl, h => DK V n (AZ V n) d a b limit ai bi li e1 e2 e3 w hr hd hab hb hl (Nat.le_of_lt_succ h)
theorem vn (d : Array UInt32) (V : Value) (w : World) (hr : (rowE V 23 al d.toList).holds w) (hd : d.size ≤ 1000000) :
  Calls Tryz.prog 141 #[V] w (fun e w' => e = .returned (.tuple #[]) ∧ Mut w w' V ∧ (rowE V 23 al (sort ltW d).toList).holds w') := by
 have hdl : d.toList.length = d.size := Array.length_toList
 have hb20 : bitsLen d.size ≤ 20 := (bitsLen_le_iff _ 20).2 (by omega)
 refine fw (l := d.toList) (E := al) (T := 23) hr Tryz.func141 rfl Tryz.ntmps141 rfl ?_
 refine ah (zz0 (aa rfl) (zz0 (lQ rfl af) ?_))
 refine zz0 (ab rfl) (ad (ar (zz0 (aa rfl) (zz0 (aa rfl) (zz0 (aa rfl) (zz0 (eW rfl ba dN (IntWalk.u64_in _ (by omega))) ?_))))))
 refine zz0 (az rfl Tryz.call150 (fun w hw => HI d.size _ (by omega) (by omega) w)) ?_
 refine dW rfl Tryz.call198 (by repeat constructor) (fun w hw => AZ V _ d 0 d.size (bitsLen d.size) _ _ _ w rfl (by omega) rfl (hw.ent _ (.head _)) hd (by omega) (by omega) (by omega) (Nat.lt_succ_self _)) rfl ?_
 refine aD ?_
 refine fc Tryz.results141 (fun w' hw => ?_)
 exact ⟨rfl, HpOK.mutOwn hw (.head _) rfl⟩
end Go.Proofs.YtiajjbhcpeadfaaGreat
namespace Go.Proofs.YtiajjbhcpeadfaaGreat
open Go Go.HL Go.RowKit
theorem xR (l : List UInt32) : (Go.Sort.sort ltW l.toArray).toList = fQ l := by
 rw [De, List.toList_toArray]
 unfold fQ
 congr 1
 funext x y
 simp only [ltW]
 by_cases h : x ≤ y
 ·rw [decide_eq_true h, decide_eq_false (by rw [UInt32.lt_iff_toNat_lt]; rw [UInt32.le_iff_toNat_le] at h; omega)]; rfl
 rw [decide_eq_false h, decide_eq_true (by rw [UInt32.lt_iff_toNat_lt]; rw [UInt32.le_iff_toNat_le] at h; omega)]; rfl
theorem Cj (b : Nat) (w : World) :
  Calls Tryz.prog 139 #[.map (some b)] w (fun e w' => ∃ i : Nat, e = .returned (.func (.func 196) #[] #[.pointer (some ⟨i, 0, none⟩)]) ∧ Ext w w' ∧ CellsIn (vt w w') i [.map (some b)]) := by
 refine enter Tryz.func139 rfl Tryz.ntmps139 rfl ?_
 refine ah ?_
 refine dG rfl rfl (fun b1 => ?_)
 refine zz0 (ab rfl) (aI (zz0 (eU rfl rfl) ?_))
 refine zz0 (ab rfl) (ad (aC ?_))
 refine aX Tryz.results139 rfl (fun w' hw => ?_)
 exact ⟨b1, rfl, hw.b0, hw.cellNew rfl (by repeat constructor)⟩
theorem zT {α : Type} {f : α → Value} {l : List (UInt32 × α)} (b Bm : Nat) (es : Array MapEntry) (ck : Nat) (hmI : MapIs f l es ck) (w : World) (c1 : CellsIn (hp w) Bm [.map (some b)]) (hb : w.heap[b]? = some (.map es ck)) (lv B : Nat) (hB : B ≤ w.heap.size) (J Jx : List UInt32 → World → Prop) (hJ : AbidesFrom B J) (hJx : AbidesFrom B Jx) (hY : ∀ pre x W1, J pre W1 → pre.length < l.length → YieldAt Fence.wide 1 Tryz.prog lv #[.int .u32 x.toNat] W1 fun e W' => (e = .returned (.bool true) ∧ J (pre ++ [x]) W' ∧ KeepsWalks W1 W') ∨ (e = .returned (.bool false) ∧ Jx (pre ++ [x]) W')) (h0 : J [] w) :
  Calls Tryz.prog 196 #[.func (.yield lv) #[] #[], .pointer (some ⟨Bm, 0, none⟩)] w (fun e W' => (∃ v, e = .returned v) ∧ ((∃ xs, xs.Perm (l.map (·.1)) ∧ J xs W') ∨ (∃ pre, True ∧ Jx pre W'))) := by
 have c1' : CellsIn (Bg.of0 w).blk Bm [.map (some b)] := c1
 refine lE Tryz.func196 rfl Tryz.ntmps196 rfl ?_
 refine ah (zz0 (eQ rfl c1' fM (by rfl)) ?_)
 refine vZ rfl hmI hb d6 rfl (fun W1 r hg1 hr1 hI1 => ?_)
 refine ad (aF ?_)
 refine bL (ι := World × List UInt32) (fun ⟨Ws, done⟩ => IterAt Ws b r es ck done ∧ done.Nodup ∧ (∀ k ∈ done, k ∈ l.map (·.1)) ∧ J done Ws) (fun ⟨Ws, done⟩ => Bg.of0 Ws) (fun ⟨Ws, done⟩ => []) (fun ⟨Ws, done⟩ => []) (fun ⟨Ws, done⟩ => l.length - done.length) (W1, []) ⟨hI1, List.nodup_nil, fun k h => (by cases h), hJ [] w W1 none h0 hg1 (fun r e => by cases e)⟩ Front.nil (by repeat' constructor) rfl (fun i hi m hm => ?_)
 obtain ⟨Ws, done⟩ := i
 replace hi : IterAt Ws b r es ck done ∧ done.Nodup ∧ (∀ k ∈ done, k ∈ l.map (·.1)) ∧ J done Ws := hi
 replace hm : m = l.length - done.length := hm
 change Tr _ (Bg.of0 Ws) [] ([] ++ _) _
 obtain ⟨q1, q2, q3, q4⟩ := hi
 refine an ?_
 refine zh (l := l) rfl hmI q1 rfl rfl (fun k x W2 W3 hx2 hk1 hk2 g1 g2 i1 i2 => ?_) (fun hall => ?_)
 ·skip
  have hlen : done.length < l.length := A6 q2 q3 hk1 hk2
  have hJ3 : J done W3 := hJ done W2 W3 (some r) (hJ done Ws W2 none q4 g1 (fun r e => by cases e)) g2 (fun r' e => by cases e; exact ⟨by omega, i1.walk⟩)
  refine ac (an ?_)
  refine au rfl ?_ ?_ <;> intro h1 <;> try simp only [bs] at h1
  ·refine bC (aF (ah (zz0 (wh rfl hmI i2 (by simp) hx2) ?_)))
   refine zz0 (aN rfl rfl) (zz0 (ab rfl) (ad (an ?_)))
   refine zc (x := k) (fun x : UInt32 => .int .u32 x.toNat) rfl rfl rfl rfl hJ3 hJ (fun W4 h => hY done k W4 h hlen) rfl rfl rfl rfl (fun W4 W' y1 y2 y3 => ?_) (fun W' y1 => ?_)
   ·skip
    refine ac ?_
    refine au rfl ?_ ?_ <;> intro h2 <;> try simp only [bs] at h2
    ·first | contradiction | (exfalso; omega) | simp_all
    refine cd (aY (ac ?_))
    have hdl : (done ++ [k]).length = done.length + 1 := by simp
    apply g9 (W', done ++ [k])
    ·exact rfl
    ·exact Front.nil
    ·exact zz8 9 rfl
    ·exact (by repeat' constructor)
    ·exact ⟨(i2.grown y1.grown).keeps y2, tY q2 hk2, fun j hj => (List.mem_append.1 hj).elim (q3 j) (fun h => (List.mem_singleton.1 h) ▸ hk1), y3⟩
    exact (by show l.length - (done ++ [k]).length < m; omega)
   skip
   refine ac ?_
   refine au rfl ?_ ?_ <;> intro h3 <;> try simp only [bs] at h3
   ·refine aC (bv (ay (bv ?_)))
    refine lk Tryz.results196 (fun w' hw => ?_)
    exact ⟨⟨_, rfl⟩, .inr ⟨_, trivial, hJx _ W' _ none y1 hw.grown (fun r e => by cases e)⟩⟩
   first | contradiction | (exfalso; omega) | simp_all
  first | contradiction | (exfalso; omega) | simp_all
 skip
 refine ac (an ?_)
 refine au rfl ?_ ?_ <;> intro h4 <;> try simp only [bs] at h4
 ·first | contradiction | (exfalso; omega) | simp_all
 refine bJ (aG (aG (bj ?_)))
 refine fc Tryz.results196 (fun w' hw => ?_)
 exact ⟨⟨_, rfl⟩, .inl ⟨done, yq hmI.nodup q2 q3 hall, hJ done Ws _ none q4 hw.grown (fun r e => by cases e)⟩⟩
theorem sW {α : Type} {f : α → Value} {l : List (UInt32 × α)} (b Bm : Nat) (w : World) (hm : MapIn (hp w) b f l) (c1 : CellsIn (hp w) Bm [.map (some b)]) :
  SeqStopsK Fence.wide 2 Tryz.prog 196 [.pointer (some ⟨Bm, 0, none⟩)].toArray (fun x : UInt32 => #[.int .u32 x.toNat]) KeepsWalks (fun xs => xs.Perm (l.map (·.1))) (fun _ => True) l.length w := by
 obtain ⟨es, ck, hb, hm⟩ := hm
 intro lv J Jx W hBel hJ hJx hY h0
 have hle : Hp.le (hp w) (hp W) := fun k o e => (hBel.block k (Array.getElem?_eq_some_iff.1 (show w.heap[k]? = some o from e)).1).trans e
 exact callsIn_wide.2 (zT b Bm es ck hm W (c1.mono hle) (hle b _ hb) lv W.heap.size (Nat.le_refl _) J Jx hJ hJx hY h0)
theorem D5 (b : Nat) (w : World) :
  Calls Tryz.prog 72 #[.map (some b)] w (fun e w' => ∃ i : Nat, e = .returned (.func (.func 142) #[] #[.pointer (some ⟨i, 0, none⟩)]) ∧ Ext w w' ∧ CellsIn (vt w w') i [.map (some b)]) := by
 refine enter Tryz.func72 rfl Tryz.ntmps72 rfl ?_
 refine ah ?_
 refine dG rfl rfl (fun b1 => ?_)
 refine zz0 (ab rfl) (aI (zz0 (eU rfl rfl) ?_))
 refine zz0 (ab rfl) (ad (aC ?_))
 refine aX Tryz.results72 rfl (fun w' hw => ?_)
 exact ⟨b1, rfl, hw.b0, hw.cellNew rfl (by repeat constructor)⟩
theorem Ck {α : Type} {f : α → Value} {l : List (UInt32 × α)} (b Bm : Nat) (es : Array MapEntry) (ck : Nat) (hmI : MapIs f l es ck) (w : World) (c1 : CellsIn (hp w) Bm [.map (some b)]) (hb : w.heap[b]? = some (.map es ck)) (lv B : Nat) (hB : B ≤ w.heap.size) (J Jx : List UInt32 → World → Prop) (hJ : AbidesFrom B J) (hJx : AbidesFrom B Jx) (hY : ∀ pre x W1, J pre W1 → pre.length < l.length → YieldAt Fence.wide 1 Tryz.prog lv #[.int .u32 x.toNat] W1 fun e W' => (e = .returned (.bool true) ∧ J (pre ++ [x]) W' ∧ KeepsWalks W1 W') ∨ (e = .returned (.bool false) ∧ Jx (pre ++ [x]) W')) (h0 : J [] w) :
  Calls Tryz.prog 142 #[.func (.yield lv) #[] #[], .pointer (some ⟨Bm, 0, none⟩)] w (fun e W' => (∃ v, e = .returned v) ∧ ((∃ xs, xs.Perm (l.map (·.1)) ∧ J xs W') ∨ (∃ pre, True ∧ Jx pre W'))) := by
 have c1' : CellsIn (Bg.of0 w).blk Bm [.map (some b)] := c1
 refine lE Tryz.func142 rfl Tryz.ntmps142 rfl ?_
 refine ah (zz0 (eQ rfl c1' iS (by rfl)) ?_)
 refine vZ rfl hmI hb fE rfl (fun W1 r hg1 hr1 hI1 => ?_)
 refine ad (aF ?_)
 refine bL (ι := World × List UInt32) (fun ⟨Ws, done⟩ => IterAt Ws b r es ck done ∧ done.Nodup ∧ (∀ k ∈ done, k ∈ l.map (·.1)) ∧ J done Ws) (fun ⟨Ws, done⟩ => Bg.of0 Ws) (fun ⟨Ws, done⟩ => []) (fun ⟨Ws, done⟩ => []) (fun ⟨Ws, done⟩ => l.length - done.length) (W1, []) ⟨hI1, List.nodup_nil, fun k h => (by cases h), hJ [] w W1 none h0 hg1 (fun r e => by cases e)⟩ Front.nil (by repeat' constructor) rfl (fun i hi m hm => ?_)
 obtain ⟨Ws, done⟩ := i
 replace hi : IterAt Ws b r es ck done ∧ done.Nodup ∧ (∀ k ∈ done, k ∈ l.map (·.1)) ∧ J done Ws := hi
 replace hm : m = l.length - done.length := hm
 change Tr _ (Bg.of0 Ws) [] ([] ++ _) _
 obtain ⟨q1, q2, q3, q4⟩ := hi
 refine an ?_
 refine zh (l := l) rfl hmI q1 rfl rfl (fun k x W2 W3 hx2 hk1 hk2 g1 g2 i1 i2 => ?_) (fun hall => ?_)
 ·skip
  have hlen : done.length < l.length := A6 q2 q3 hk1 hk2
  have hJ3 : J done W3 := hJ done W2 W3 (some r) (hJ done Ws W2 none q4 g1 (fun r e => by cases e)) g2 (fun r' e => by cases e; exact ⟨by omega, i1.walk⟩)
  refine ac (an ?_)
  refine au rfl ?_ ?_ <;> intro h1 <;> try simp only [bs] at h1
  ·refine bC (aF (ah (zz0 (wh rfl hmI i2 (by simp) hx2) ?_)))
   refine zz0 (aN rfl rfl) (zz0 (ab rfl) (ad (an ?_)))
   refine zc (x := k) (fun x : UInt32 => .int .u32 x.toNat) rfl rfl rfl rfl hJ3 hJ (fun W4 h => hY done k W4 h hlen) rfl rfl rfl rfl (fun W4 W' y1 y2 y3 => ?_) (fun W' y1 => ?_)
   ·skip
    refine ac ?_
    refine au rfl ?_ ?_ <;> intro h2 <;> try simp only [bs] at h2
    ·first | contradiction | (exfalso; omega) | simp_all
    refine cd (aY (ac ?_))
    have hdl : (done ++ [k]).length = done.length + 1 := by simp
    apply g9 (W', done ++ [k])
    ·exact rfl
    ·exact Front.nil
    ·exact zz8 9 rfl
    ·exact (by repeat' constructor)
    ·exact ⟨(i2.grown y1.grown).keeps y2, tY q2 hk2, fun j hj => (List.mem_append.1 hj).elim (q3 j) (fun h => (List.mem_singleton.1 h) ▸ hk1), y3⟩
    exact (by show l.length - (done ++ [k]).length < m; omega)
   skip
   refine ac ?_
   refine au rfl ?_ ?_ <;> intro h3 <;> try simp only [bs] at h3
   ·refine aC (bv (ay (bv ?_)))
    refine lk Tryz.results142 (fun w' hw => ?_)
    exact ⟨⟨_, rfl⟩, .inr ⟨_, trivial, hJx _ W' _ none y1 hw.grown (fun r e => by cases e)⟩⟩
   first | contradiction | (exfalso; omega) | simp_all
  first | contradiction | (exfalso; omega) | simp_all
 skip
 refine ac (an ?_)
 refine au rfl ?_ ?_ <;> intro h4 <;> try simp only [bs] at h4
 ·first | contradiction | (exfalso; omega) | simp_all
 refine bJ (aG (aG (bj ?_)))
 refine fc Tryz.results142 (fun w' hw => ?_)
 exact ⟨⟨_, rfl⟩, .inl ⟨done, yq hmI.nodup q2 q3 hall, hJ done Ws _ none q4 hw.grown (fun r e => by cases e)⟩⟩
theorem uk {α : Type} {f : α → Value} {l : List (UInt32 × α)} (b Bm : Nat) (w : World) (hm : MapIn (hp w) b f l) (c1 : CellsIn (hp w) Bm [.map (some b)]) :
  SeqStopsK Fence.wide 2 Tryz.prog 142 [.pointer (some ⟨Bm, 0, none⟩)].toArray (fun x : UInt32 => #[.int .u32 x.toNat]) KeepsWalks (fun xs => xs.Perm (l.map (·.1))) (fun _ => True) l.length w := by
 obtain ⟨es, ck, hb, hm⟩ := hm
 intro lv J Jx W hBel hJ hJx hY h0
 have hle : Hp.le (hp w) (hp W) := fun k o e => (hBel.block k (Array.getElem?_eq_some_iff.1 (show w.heap[k]? = some o from e)).1).trans e
 exact callsIn_wide.2 (Ck b Bm es ck hm W (c1.mono hle) (hle b _ hb) lv W.heap.size (Nat.le_refl _) J Jx hJ hJx hY h0)
theorem va (g : Nat) (lb : List Value) (keys : List UInt32) (Nm : Nat) (hN : Nm ≤ 1000000) (eg : ∀ (args : Array Value) (w : World), (callFunc g args).run Tryz.prog w = .ok (.enter g args) w) (w : World) (hseq : SeqStopsK Fence.wide 2 Tryz.prog g lb.toArray (fun x : UInt32 => #[.int .u32 x.toNat]) KeepsWalks (fun xs => xs.Perm keys) (fun _ => True) Nm w) :
  Calls Tryz.prog 197 #[.slice none 0 0, .func (.func g) #[] lb.toArray] w (fun e w' => ∃ i : Value × List UInt32, e = .returned i.1 ∧ Below w.heap.size w w' ∧ NewEnts w w' [rowE i.1 23 al i.2] ∧ i.2.Perm keys) := by
 refine G8 Tryz.func197 rfl Tryz.ntmps197 rfl ?_
 refine ah ?_
 refine dG rfl rfl (fun b1 => ?_)
 refine zz0 (ab rfl) (ad (an (ah (zz0 (aa rfl) (ad (aF (bZ 23 al ?_)))))))
 refine AA (α := UInt32) (ι := Value × List UInt32) (lb := lb) (fun x => .int .u32 x.toNat) (fun xs => xs.Perm keys) (fun pre j => j.2 = pre) (fun j => [cellE b1 [j.1] 31, rowE j.1 23 al j.2]) Nm (.slice none 0 0, []) rfl rfl rfl eg rfl rfl (by repeat' constructor) rfl (fun j => .cell (.row .nil)) ?_ ?_ ?_
 ·exact fun w2 F1 hf h1 => SeqStopsK.later hseq (h1.below0 hf)
 ·intro pre x j l0 F1 hF1 hok hlen
  obtain ⟨V, xs⟩ := j
  replace hok : xs = pre := hok
  subst hok
  change Tr _ _ [cellE b1 [V] 31, rowE V 23 al xs] _ _
  refine AD ?_
  refine Az (H7 DU) rfl ?_
  refine zz0 (aH rfl dl) ?_
  refine zz0 (aa rfl) ?_
  refine iG (E := al) x rfl rfl af ae cC (fun V2 => ?_)
  refine zz1 rfl rfl af eS (fun V3 => ?_)
  refine du (.head _) (fun pa pc hpv => ?_)
  subst hpv
  refine jf rfl rfl cg (by repeat constructor) (by rfl) (by rfl) (by first | exact List.all_eq_true.1 rfl | exact Enc.one _ _) rfl ?_
  refine aD (aY ?_)
  exact fun a w ha hw => ⟨rfl, (.slice pa (xs ++ [x]).length pc, xs ++ [x]), rfl, Pick.heap (L' := [cellE b1 [.slice pa (xs ++ [x]).length pc] 31, rowE (.slice pa (xs ++ [x]).length pc) 23 al (xs ++ [x])]) (by repeat' constructor) hw⟩
 intro xs j D F1 hF1 hS hok
 obtain ⟨V, ys⟩ := j
 replace hok : ys = xs := hok
 subst hok
 change Tr _ _ [D1 D, cellE b1 [V] 31, rowE V 23 al ys] _ _
 refine aY (ac (ah (zz0 (aH rfl dl) ?_)))
 refine zz0 (ab rfl) (ad (aC ?_))
 refine EN (D := D) Tryz.results197 rfl (by (repeat rw [dm, if_neg (by unfold mk0; omega)]); exact Ch) (by repeat constructor) (fun w' hw => ?_)
 exact ⟨(V, ys), rfl, hw.below0 hF1, hw.ents0 hF1.lo (by repeat' constructor), hS⟩
theorem yT (g : Nat) (lb : List Value) (keys : List UInt32) (Nm : Nat) (hN : Nm ≤ 1000000) (eg : ∀ (args : Array Value) (w : World), (callFunc g args).run Tryz.prog w = .ok (.enter g args) w) (w : World) (hseq : SeqStopsK Fence.wide 2 Tryz.prog g lb.toArray (fun x : UInt32 => #[.int .u32 x.toNat]) KeepsWalks (fun xs => xs.Perm keys) (fun _ => True) Nm w) :
  Calls Tryz.prog 140 #[.func (.func g) #[] lb.toArray] w (fun e w' => ∃ i : Value × List UInt32, e = .returned i.1 ∧ Below w.heap.size w w' ∧ NewEnts w w' [rowE i.1 23 al i.2] ∧ i.2.Perm keys) := by
 refine lE Tryz.func140 rfl Tryz.ntmps140 rfl ?_
 refine ah (zz0 (ab rfl) (aI (zz0 (aa rfl) ?_)))
 refine eB (fun i : Value × List UInt32 => i.1) (fun i => [rowE i.1 23 al i.2]) (ok := fun i => i.2.Perm keys) rfl rfl Tryz.call197 (fun w hw => va g lb keys Nm hN eg w (SeqStopsK.later hseq (hw.below0 (Bg.le.refl _)))) rfl (fun i hi => ?_)
 obtain ⟨V, ys⟩ := i
 change Tr _ _ [rowE V 23 al ys] _ _
 refine zz0 (ab rfl) (ad (aC ?_))
 refine aX Tryz.results140 rfl (fun w' hw => ?_)
 exact ⟨(V, ys), rfl, hw.below0 (Bg.le.refl _), hw.ents0 rfl (by repeat' constructor), hi⟩
theorem tI (g : Nat) (lb : List Value) (keys : List UInt32) (Nm : Nat) (hN : Nm ≤ 1000000) (eg : ∀ (args : Array Value) (w : World), (callFunc g args).run Tryz.prog w = .ok (.enter g args) w) (hK : keys.length ≤ 1000000) (w : World) (hseq : SeqStopsK Fence.wide 2 Tryz.prog g lb.toArray (fun x : UInt32 => #[.int .u32 x.toNat]) KeepsWalks (fun xs => xs.Perm keys) (fun _ => True) Nm w) :
  Calls Tryz.prog 71 #[.func (.func g) #[] lb.toArray] w (fun e w' => ∃ V : Value, e = .returned V ∧ Below w.heap.size w w' ∧ NewEnts w w' [rowE V 23 al (fQ keys)] ∧ True) := by
 refine lE Tryz.func71 rfl Tryz.ntmps71 rfl ?_
 refine ah (zz0 (ab rfl) (aI (zz0 (aa rfl) ?_)))
 refine eB (fun i : Value × List UInt32 => i.1) (fun i => [rowE i.1 23 al i.2]) (ok := fun i => i.2.Perm keys) rfl rfl Tryz.call140 (fun w hw => yT g lb keys Nm hN eg w (SeqStopsK.later hseq (hw.below0 (Bg.le.refl _)))) rfl (fun i hi => ?_)
 obtain ⟨V, ys⟩ := i
 replace hi : ys.Perm keys := hi
 have hyl := hi.length_eq
 change Tr _ _ [rowE V 23 al ys] _ _
 refine zz0 (ab rfl) (aI (zz0 (aa rfl) (dW rfl Tryz.call141 (by repeat constructor) (fun w hw => vn ys.toArray V w (hw.ent _ (.head _)) (by rw [List.size_toArray]; omega)) rfl ?_)))
 rw [xR, qw hi]
 refine aI (zz0 (aa rfl) (zz0 (ab rfl) (ad (aC ?_))))
 refine aX Tryz.results71 rfl (fun w' hw => ?_)
 exact ⟨V, rfl, hw.below0 (Bg.le.refl _), hw.ents0 rfl (by repeat' constructor), trivial⟩
theorem jM (l : List (UInt32 × Bool)) (b : Nat) (w : World) (hm : MapIn (hp w) b cX l) (hl : l.length ≤ 1000000) :
  Calls Tryz.prog 70 #[.map (some b)] w (fun e w' => ∃ V : Value, e = .returned V ∧ Below w.heap.size w w' ∧ NewEnts w w' [rowE V 23 al (fQ (l.map (·.1)))] ∧ True) := by
 have hm' : MapIn (Bg.of0 w).blk b cX l := hm
 refine lE Tryz.func70 rfl Tryz.ntmps70 rfl ?_
 refine ah (zz0 (ab rfl) (aI (zz0 (aa rfl) ?_)))
 refine v7 (fun i : Nat => .func (.func 196) #[] #[.pointer (some ⟨i, 0, none⟩)]) (R := fun h i => CellsIn h i [.map (some b)]) (fun h h' i hh r => r.mono hh) rfl Tryz.call139 (fun w hw => Cj b w) rfl (fun i7 F7 hF7 hR7 => ?_)
 refine eB (fun V : Value => V) (fun V => [rowE V 23 al (fQ (l.map (·.1)))]) (ok := fun _ => True) (hF7.dr) rfl Tryz.call71 (fun w hw => tI _ _ (l.map (·.1)) l.length hl Tryz.call196 (by rw [List.length_map]; exact hl) w (sW b i7 w ((hm'.mono hF7.blk).mono hw.bg) (hR7.mono hw.bg))) rfl (fun V7 _ => ?_)
 refine zz0 (ab rfl) (ad (aC ?_))
 refine aX Tryz.results70 rfl (fun w' hw => ?_)
 exact ⟨V7, rfl, hw.below0 hF7, hw.ents0 hF7.lo (by repeat' constructor), trivial⟩
end Go.Proofs.YtiajjbhcpeadfaaGreat
namespace Go.HL
open Go
theorem Al (k : Ins) (s : Int) (b : List UInt8) (addr : UInt32) : (vT k s b addr).size = eZ s ∧ (vT k s b addr).addr = addr := by
 unfold vT lG
 repeat' split
 all_goals exact ⟨rfl, rfl⟩
theorem BP (s : Int) : 1 ≤ eZ s ∧ eZ s ≤ 6 := by unfold eZ; repeat' split <;> omega
theorem Eu {b : List UInt8} {addr : UInt32} (h : (m5 b addr).2 = 0) : 1 ≤ (m5 b addr).1.size ∧ (m5 b addr).1.size ≤ b.length ∧ (m5 b addr).1.addr = addr := by
 unfold m5 at h ⊢
 split at h
 ·simp at h
 ·rename_i h1
  rw [if_neg h1]
  split at h
  ·simp at h
  ·rename_i h2
   rw [if_neg h2]
   split at h
   ·simp at h
   ·rename_i h3
    rw [if_neg h3]
    dsimp only at h ⊢
    split at h
    ·simp at h
    ·rename_i h4
     rw [if_neg h4]
     obtain ⟨q1, q2⟩ := Al (rowP (b.getD 0 default)).1 (bP (rowP (b.getD 0 default)).1).2.1 b addr
     have := BP (bP (rowP (b.getD 0 default)).1).2.1
     refine ⟨?_, ?_, q2⟩
     ·rw [q1]; omega
     ·rw [q1]; omega
end Go.HL
namespace Go.HL
open Go Go.RowKit
def rR (i : Ins) : Value := .agg (aM.enc i).toArray
theorem t8 {z : Value} (hz : z = rR cp) (o : Option Ins) : ua rR z o = .agg (aM.enc (o.getD cp)).toArray := by
 subst hz
 cases o <;> rfl
section
variable {P : Program} {ops : Array Oper} {Q : Exit → Act → World → Prop} {N : Nat} {F : Bg} {L : List Ent} {M : Fr} {dst : Option Tmp} {ty : TypeId} {pos : String} {after : Array Edge} {g : Option (Nat × Bool)} {rest : List Oper} {d : Nat}
theorem wc {l : List (UInt32 × Ins)} {x y : Operand} {t K e : TypeId} {z : Value} {b : Nat} {k : UInt32} (hx : opv M x = some (.map (some b))) (hy : opv M y = some (.int .u32 k.toNat)) (hm : MapIn F.blk b rR l)
  (ht : P.underlying t = some (.map K e)) (hK : P.underlying K = some (.int .u32)) (hz : ∀ w, (zeroValue e).run P w = .ok z w) (hzz : z = rR cp) : QS P N F L M ⟨dst, .lookup t x y false, ty, pos, after, g⟩ (.agg (aM.enc ((dI l k).getD cp)).toArray) := by
 have h := uK (P := P) (N := N) (F := F) (L := L) (M := M) (dst := dst) (ty := ty) (pos := pos) (after := after) (g := g) hx hy hm ht hK hz
 rw [t8 hzz] at h; exact h
theorem AL {l : List (UInt32 × Ins)} {x y : Operand} {t K e : TypeId} {z : Value} {b : Nat} {k : UInt32} (hx : opv M x = some (.map (some b))) (hy : opv M y = some (.int .u32 k.toNat)) (hm : mapE b rR l ∈ L)
  (ht : P.underlying t = some (.map K e)) (hK : P.underlying K = some (.int .u32)) (hz : ∀ w, (zeroValue e).run P w = .ok z w) (hzz : z = rR cp) : QS P N F L M ⟨dst, .lookup t x y true, ty, pos, after, g⟩ (.tuple #[.agg (aM.enc ((dI l k).getD cp)).toArray, .bool (dI l k).isSome]) := by
 have h := wa (P := P) (N := N) (F := F) (L := L) (M := M) (dst := dst) (ty := ty) (pos := pos) (after := after) (g := g) hx hy hm ht hK hz
 rw [t8 hzz] at h; exact h
theorem zo {l : List (UInt32 × Ins)} {x y : Operand} {t K e : TypeId} {z : Value} {b : Nat} {k : UInt32} (hx : opv M x = some (.map (some b))) (hy : opv M y = some (.int .u32 k.toNat)) (hm : MapIn F.blk b rR l)
  (ht : P.underlying t = some (.map K e)) (hK : P.underlying K = some (.int .u32)) (hz : ∀ w, (zeroValue e).run P w = .ok z w) (hzz : z = rR cp) : QS P N F L M ⟨dst, .lookup t x y true, ty, pos, after, g⟩ (.tuple #[.agg (aM.enc ((dI l k).getD cp)).toArray, .bool (dI l k).isSome]) := by
 have h := uJ (P := P) (N := N) (F := F) (L := L) (M := M) (dst := dst) (ty := ty) (pos := pos) (after := after) (g := g) hx hy hm ht hK hz
 rw [t8 hzz] at h; exact h
theorem Cz {α : Type} {E : Enc α} {xs : List α} {x hi : Operand} {t e T : TypeId} {V : Value} {k : Nat} {kk : IntKind} {n : Int} {L1 : List Ent} (hx : opv M x = some V) (hV : Del (rowE V T E xs) L L1) (hhi : opv M hi = some (.int kk n))
  (ht : P.underlying t = some (.slice e)) (hz : ∀ w, (sizeOf e).run P w = .ok k w) (hn : 0 ≤ n ∧ n ≤ xs.length) (hd : Nat.ble (d + 1) N = true)
  (K : ∀ V', Tr N F (rowE V' T E (xs.take n.toNat) :: L1) ((d, V') :: M) (wpList P ops Q rest)) : Tr N F L M (wpList P ops Q (⟨some d, .slice t x none (some hi) none, ty, pos, after, none⟩ :: rest)) := by
 intro a w ha hw
 refine wpList_plain rfl fun K' hK => ?_
 have hf := hw.front hV
 have hrow : RowOK V T E xs (V.ownBlock.bind (w.heap[·]?)) := hf.ent _ (.head _)
 obtain ⟨m, rfl⟩ : ∃ m : Nat, n = (m : Int) := ⟨n.toNat, by omega⟩
 have hm : m ≤ xs.length := by omega
 obtain ⟨av, cv, hV', hle⟩ : ∃ av cv, V = .slice av xs.length cv ∧ xs.length ≤ cv := by
  rcases hrow with ⟨rfl, rfl⟩ | ⟨gb, cap, cur, rfl, _, h1, _⟩
  ·exact ⟨none, 0, rfl, Nat.le_refl _⟩
  ·exact ⟨_, _, rfl, h1⟩
 have hb : ∀ w, (Instr.sliceBounds true xs.length cv none (some (.int kk (m : Int))) none).run P w = .ok (0, m, cv) w := by
  intro w
  have := sf (P := P) (n := xs.length) (c := cv) (lo := none) (hi := some (kk, (m : Int))) w (by simp [kw]) (by simp [kw, jU]) (by simp only [jU]; omega) hle
  simpa [kw, jU] using this
 have hr := qB (P := P) ht hz w (a := av) hb
 have hv : (if cv = 0 then av else av.map (·.add (0 * k))) = av := by
  split
  ·rfl
  ·cases av with
   | none => rfl
   | some a0 => simp [Addr.add]
 rw [hv] at hr
 simp only [Nat.sub_zero] at hr
 unfold Oper.wp
 simp only [execOp, ha.eval hx, ha.eval hhi, Option.map_none, Option.map_some, Sem.run_bind, hV', hr, Result.andThen_ok, Sem.run_pure, Oper.upon]
 refine hK _ _ (K _ _ _ (ha.put (Nat.le_of_ble_eq_true hd)) ?_)
 subst hV'
 have hL1 : HpOK F (rowE (.slice av xs.length cv) T E xs :: L1) w := hf
 have htk : (xs.take ((m : Int)).toNat).length = m := by rw [List.length_take, Int.toNat_natCast]; omega
 rcases hrow with ⟨h1, h2⟩ | ⟨gb, cap, cur, h1, ho, hc1, hc2, hc3, hc4⟩
 ·subst h2
  simp only [Value.slice.injEq] at h1
  obtain ⟨rfl, _, rfl⟩ := h1
  have hm0 : m = 0 := by simpa using hm
  subst hm0
  exact hL1
 ·simp only [Value.slice.injEq] at h1
  obtain ⟨rfl, _, rfl⟩ := h1
  have e1 : rowE (.slice (some ⟨gb, 0, none⟩) xs.length cv) T E xs = ⟨some gb, RowOK (.slice (some ⟨gb, 0, none⟩) xs.length cv) T E xs⟩ := rfl
  have e2 : rowE (.slice (some ⟨gb, 0, none⟩) m cv) T E (xs.take ((m : Int)).toNat) = ⟨some gb, RowOK (.slice (some ⟨gb, 0, none⟩) m cv) T E (xs.take ((m : Int)).toNat)⟩ := rfl
  rw [e1] at hL1
  rw [e2]
  refine HpOK.set hL1 (.here _) rfl rfl rfl (Nat.le_refl _) (Nat.le_refl _) (fun _ _ _ => rfl) ?_
  refine .inr ⟨gb, cv, cur, by rw [htk], ho, by rw [htk]; omega, hc2, hc3, ?_⟩
  rw [htk, Int.toNat_natCast]
  have hle2 : m * E.k ≤ xs.length * E.k := Nat.mul_le_mul_right _ hm
  have h3 : cur.toList.take (m * E.k) = (cur.toList.take (xs.length * E.k)).take (m * E.k) := by rw [List.take_take, Nat.min_eq_left hle2]
  rw [h3, hc4]
  have h4 : xs.flatMap E.enc = (xs.take m).flatMap E.enc ++ (xs.drop m).flatMap E.enc := by rw [← List.flatMap_append, List.take_append_drop]
  have h5 : ((xs.take m).flatMap E.enc).length = m * E.k := by rw [dA, List.length_take, Nat.min_eq_left hm]
  rw [h4, ← h5, List.take_left]
end
end Go.HL
namespace Go.HL
open Go
structure TabV where
 data : List UInt32
 dp : Option Addr
 dc : Nat
 deriving Inhabited
def fR : Enc TabV := ⟨1, fun t => [.slice t.dp t.data.length t.dc], fun _ => rfl, fun x v h => by simp at h; subst h; rfl⟩
def TabIn (h : Hp) (l : List TabV) : Prop := ∀ t ∈ l, Sl h al t.data (.slice t.dp t.data.length t.dc)
theorem TabIn.mono {h h' : Hp} {l : List TabV} (d : TabIn h l) (hh : Hp.le h h') : TabIn h' l := fun s hs => (d s hs).mono hh
def oe (ts : List TabV) : Prop := ts.length ≤ 700 ∧ ∀ t ∈ ts, t.data.length ≤ 64
def BG (l : List SecV) (a : UInt32) : List UInt8 := ((l.getD (dS l a).toNat default).data.drop (a - (l.getD (dS l a).toNat default).addr).toNat).take 6
def B9 (l : List SecV) (a : UInt32) : Bool := decide (dS l a < 0) || !(l.getD (dS l a).toNat default).ex
def atP (l : List SecV) (a : UInt32) : Ins × Bool := if B9 l a = true then (cp, false) else ((m5 (BG l a) a).1, decide ((m5 (BG l a) a).2 = 0))
def ul (op : Int) : Bool := decide (op = 21 ∨ op = 22 ∨ op = 24)
def dQ (ts : List TabV) (at_ : List UInt32) (a : UInt32) : Option (List UInt32) :=
 if dY (fun x => decide (a = x)) 0 at_ < 0 then none else some (ts.getD (dY (fun x => decide (a = x)) 0 at_).toNat default).data
def dL (i : Ins) : List UInt32 := if iM i = 0 then (if (c9 i).2 = true then [(c9 i).1] else []) ++ (if kU i = true then [] else [nY i]) else []
def jt (ts : List TabV) (at_ : List UInt32) (i : Ins) : List UInt32 := dL i ++ (if ul i.op = true then (dQ ts at_ i.addr).getD [] else [])
def jj (ts : List TabV) (at_ : List UInt32) (i : Ins) : List UInt32 := if i.op = 23 then [i.imm] else if i.op = 24 then (dQ ts at_ i.addr).getD [] else []
def ns (ts : List TabV) (at_ : List UInt32) (i : Ins) : Bool := ul i.op && (dQ ts at_ i.addr).isNone
def rO (ts : List TabV) (at_ : List UInt32) (a : UInt32) : Value :=
 if dY (fun x => decide (a = x)) 0 at_ < 0 then .slice none 0 0 else
  .slice (ts.getD (dY (fun x => decide (a = x)) 0 at_).toNat default).dp (ts.getD (dY (fun x => decide (a = x)) 0 at_).toNat default).data.length (ts.getD (dY (fun x => decide (a = x)) 0 at_).toNat default).dc
section
variable {ts : List TabV} {at_ : List UInt32} {a : UInt32}
theorem vA (h : dY (fun x => decide (a = x)) 0 at_ < 0) : rO ts at_ a = .slice none 0 0 := by unfold rO; rw [if_pos h]
theorem vB (h : dY (fun x => decide (a = x)) 0 at_ < 0) : dQ ts at_ a = none := by unfold dQ; rw [if_pos h]
theorem ui (h : ¬ dY (fun x => decide (a = x)) 0 at_ < 0) : rO ts at_ a = .slice (ts.getD (dY (fun x => decide (a = x)) 0 at_).toNat default).dp (ts.getD (dY (fun x => decide (a = x)) 0 at_).toNat default).data.length (ts.getD (dY (fun x => decide (a = x)) 0 at_).toNat default).dc := by unfold rO; rw [if_neg h]
theorem uj (h : ¬ dY (fun x => decide (a = x)) 0 at_ < 0) : dQ ts at_ a = some (ts.getD (dY (fun x => decide (a = x)) 0 at_).toNat default).data := by unfold dQ; rw [if_neg h]
theorem D4 {H : Hp} (hTI : TabIn H ts) (hTB : oe ts) (hl : ts.length = at_.length) : Sl H al ((dQ ts at_ a).getD []) (rO ts at_ a) := by
 by_cases h : dY (fun x => decide (a = x)) 0 at_ < 0
 ·rw [vB h, vA h]; exact Sl.nil _ _
 ·rw [uj h, ui h]
  have := jH (fun x => decide (a = x)) at_ 0
  exact hTI _ (df (by omega))
end
theorem jQ (i : Ins) : (dL i).length ≤ 2 := by
 unfold dL
 repeat' split
 all_goals simp
theorem rN {ts : List TabV} (hT : oe ts) (at_ : List UInt32) (a : UInt32) : ((dQ ts at_ a).getD []).length ≤ 64 := by
 unfold dQ
 split
 ·simp
 ·simp only [Option.getD_some]
  by_cases h : (dY (fun x => decide (a = x)) 0 at_).toNat < ts.length
  ·exact hT.2 _ (df h)
  ·rw [List.getD_eq_getElem?_getD, List.getElem?_eq_none (by omega)]; exact Nat.zero_le _
theorem uh {ts : List TabV} (hT : oe ts) (at_ : List UInt32) (i : Ins) : (jt ts at_ i).length ≤ 66 := by
 have h1 := jQ i
 have h2 := rN hT at_ i.addr
 unfold jt
 rw [List.length_append]
 split
 ·omega
 ·simp; omega
theorem Bq {l : List SecV} {a : UInt32} (h : (atP l a).2 = true) : (atP l a).1.addr = a ∧ B9 l a = false ∧ (m5 (BG l a) a).2 = 0 := by
 unfold atP at h ⊢
 split at h
 ·cases h
 ·rename_i hn
  rw [if_neg hn]
  have h' := of_decide_eq_true h
  exact ⟨(Eu h').2.2, by simpa using hn, h'⟩
inductive Reach (l : List SecV) (ts : List TabV) (at_ es : List UInt32) : UInt32 → Prop
 | ent (a : UInt32) (h : a ∈ es) : Reach l ts at_ es a
 | step (b a : UInt32) (h : Reach l ts at_ es b) (hf : (atP l b).2 = true) (ha : a ∈ jt ts at_ (atP l b).1) : Reach l ts at_ es a
structure CodeP where
 ins : List Ins
 ents : List UInt32
 unk : List UInt32
 bad : List UInt32
structure IsCode (l : List SecV) (ts : List TabV) (at_ es : List UInt32) (c : CodeP) : Prop where
 ins : ∃ ks : List UInt32, ks.Pairwise (· < ·) ∧ (∀ a, a ∈ ks ↔ Reach l ts at_ es a ∧ (atP l a).2 = true) ∧ c.ins = ks.map fun a => (atP l a).1
 bad : c.bad.Pairwise (· < ·) ∧ ∀ a, a ∈ c.bad ↔ Reach l ts at_ es a ∧ (atP l a).2 = false
 ents : c.ents.Pairwise (· < ·) ∧ ∀ a, a ∈ c.ents ↔ (Reach l ts at_ es a ∧ (atP l a).2 = true) ∧ (a ∈ es ∨ ∃ b, (Reach l ts at_ es b ∧ (atP l b).2 = true) ∧ a ∈ jj ts at_ (atP l b).1)
 unk : c.unk.Pairwise (· < ·) ∧ ∀ a, a ∈ c.unk ↔ (Reach l ts at_ es a ∧ (atP l a).2 = true) ∧ ns ts at_ (atP l a).1 = true
inductive WalkIs (l : List SecV) (ts : List TabV) (at_ es : List UInt32) (c : CodeP) (e : Int) : Prop
 | arg (h : ts.length ≠ at_.length) (he : e = 2) (hc : c = ⟨[], [], [], []⟩) : WalkIs l ts at_ es c e
 | chk (h : ts.length = at_.length) (h1 : fS l ≠ 0) (he : e = fS l) (hc : c = ⟨[], [], [], []⟩) : WalkIs l ts at_ es c e
 | ok (h : ts.length = at_.length) (h1 : fS l = 0) (he : e = 0) (hc : IsCode l ts at_ es c) : WalkIs l ts at_ es c e
theorem GA {l : List UInt32} (h : l.Pairwise (· < ·)) : l.Pairwise (fun x y => x ≤ y) := h.imp fun h => by rw [UInt32.lt_iff_toNat_lt] at h; rw [UInt32.le_iff_toNat_le]; omega
theorem qR {l : List UInt32} (h : l.Pairwise (· < ·)) : l.Nodup := h.imp fun h e => by subst e; simp at h
theorem xe {l l' : List UInt32} (h : l.Pairwise (· < ·)) (h' : l'.Pairwise (· < ·)) (hm : ∀ a, a ∈ l ↔ a ∈ l') : l = l' :=
 rD ((List.perm_ext_iff_of_nodup (qR h) (qR h')).2 hm) (GA h) (GA h')
theorem qy {l : List UInt32} (h : l.Nodup) : (fQ l).Pairwise (· < ·) := by
 have h1 := lS l
 have h2 : (fQ l).Nodup := (lm l).nodup_iff.2 h
 exact (List.pairwise_and_iff.2 ⟨h1, h2⟩).imp fun ⟨a, b⟩ => by
  rw [UInt32.le_iff_toNat_le] at a
  rw [UInt32.lt_iff_toNat_lt]
  have : ¬ (_ : UInt32).toNat = (_ : UInt32).toNat := fun e => b (UInt32.toNat_inj.1 e)
  omega
theorem mX {l : List UInt32} {a : UInt32} : a ∈ fQ l ↔ a ∈ l := (lm l).mem_iff
theorem IsCode.eq {l : List SecV} {ts : List TabV} {at_ es es' : List UInt32} {c c' : CodeP} (h : IsCode l ts at_ es c) (h' : IsCode l ts at_ es' c') (hr : ∀ a, Reach l ts at_ es a ↔ Reach l ts at_ es' a) (he : ∀ a, a ∈ es ↔ a ∈ es') : c = c' := by
 obtain ⟨ks, k1, k2, k3⟩ := h.ins
 obtain ⟨ks', k1', k2', k3'⟩ := h'.ins
 have e1 : ks = ks' := xe k1 k1' fun a => by rw [k2, k2', hr]
 have e2 : c.bad = c'.bad := xe h.bad.1 h'.bad.1 fun a => by rw [h.bad.2, h'.bad.2, hr]
 have e3 : c.unk = c'.unk := xe h.unk.1 h'.unk.1 fun a => by rw [h.unk.2, h'.unk.2, hr]
 have e4 : c.ents = c'.ents := xe h.ents.1 h'.ents.1 fun a => by rw [h.ents.2, h'.ents.2, hr, he]; simp only [hr]
 cases c; cases c'
 simp only at *
 rw [k3, k3', e1, e2, e3, e4]
theorem iK {α : Type} {m : List (UInt32 × α)} {k j : UInt32} {x : α} : j ∈ (e8 m k x).map (·.1) ↔ j = k ∨ j ∈ m.map (·.1) := by
 rw [rK]
 split
 ·rename_i h
  constructor
  ·exact .inr
  ·rintro (rfl | h')
   ·exact ku.1 h
   ·exact h'
 ·simp only [List.mem_append, List.mem_singleton]
  exact ⟨fun h => h.symm, fun h => h.symm⟩
def gm (m : List (UInt32 × Bool)) (ks : List UInt32) : List (UInt32 × Bool) := ks.foldl (fun m k => e8 m k true) m
theorem rL : ∀ (ks : List UInt32) (m : List (UInt32 × Bool)) {j : UInt32}, j ∈ (gm m ks).map (·.1) ↔ j ∈ ks ∨ j ∈ m.map (·.1)
 | [], m, j => by simp [gm]
 | k :: ks, m, j => by
  have ih := rL ks (e8 m k true) (j := j)
  show j ∈ (gm (e8 m k true) ks).map (·.1) ↔ _
  rw [ih, iK, List.mem_cons]
  constructor
  ·rintro (h | h | h)
   ·exact .inl (.inr h)
   ·exact .inl (.inl h)
   ·exact .inr h
  ·rintro ((h | h) | h)
   ·exact .inr (.inl h)
   ·exact .inl h
   ·exact .inr (.inr h)
theorem ub (m : List (UInt32 × Bool)) (ks : List UInt32) (k : UInt32) : gm m (ks ++ [k]) = e8 (gm m ks) k true := by simp [gm]
theorem Ak {ts : List TabV} {at_ : List UInt32} {i : Ins} {ents m1 : List (UInt32 × Bool)} (h : m1 = if i.op = 23 then e8 ents i.imm true else ents) (hn : ul i.op = false) : gm ents (jj ts at_ i) = m1 := by
 have hq : ¬ i.op = 24 := fun e => by unfold ul at hn; rw [e] at hn; exact absurd hn (by decide)
 subst h
 unfold jj
 rw [if_neg hq]
 split <;> rfl
theorem EE {ts : List TabV} {at_ : List UInt32} {i : Ins} {ents m1 m2 : List (UInt32 × Bool)} (h : m1 = if i.op = 23 then e8 ents i.imm true else ents) (h2 : m2 = if i.op = 24 then gm m1 ((dQ ts at_ i.addr).getD []) else m1) (hn : ul i.op = true) : gm ents (jj ts at_ i) = m2 := by
 have hq : ¬ i.op = 23 := fun e => by unfold ul at hn; rw [e] at hn; exact absurd hn (by decide)
 rw [if_neg hq] at h
 subst h
 subst h2
 unfold jj
 rw [if_neg hq]
 split <;> rfl
theorem Ff {ts : List TabV} {at_ : List UInt32} {i : Ins} {unk u1 : List (UInt32 × Bool)} (h : u1 = if (dQ ts at_ i.addr).isSome = true then unk else e8 unk i.addr true) (hn : ul i.op = true) : (if ns ts at_ i = true then e8 unk i.addr true else unk) = u1 := by
 subst h
 unfold ns
 rw [hn, Bool.true_and]
 cases dQ ts at_ i.addr <;> rfl
theorem rJ : ∀ (ks : List UInt32) (m : List (UInt32 × Bool)), (gm m ks).length ≤ m.length + ks.length
 | [], m => by simp [gm]
 | k :: ks, m => by
  have ih := rJ ks (e8 m k true)
  have := uc m k true
  show (gm (e8 m k true) ks).length ≤ _
  rw [List.length_cons]; omega
structure DSt where
 ins : List (UInt32 × Ins)
 bad : List (UInt32 × Bool)
 ents : List (UInt32 × Bool)
 unk : List (UInt32 × Bool)
 rest : List UInt32
def stepD (l : List SecV) (ts : List TabV) (at_ : List UInt32) (a : UInt32) (s : DSt) (r : List UInt32) : DSt :=
 ⟨e8 s.ins a (atP l a).1, s.bad, gm s.ents (jj ts at_ (atP l a).1), if ns ts at_ (atP l a).1 = true then e8 s.unk (atP l a).1.addr true else s.unk, r ++ jt ts at_ (atP l a).1⟩
structure DInv (l : List SecV) (ts : List TabV) (at_ es : List UInt32) (s : DSt) : Prop where
 nIns : (s.ins.map (·.1)).Nodup
 nBad : (s.bad.map (·.1)).Nodup
 nEnts : (s.ents.map (·.1)).Nodup
 nUnk : (s.unk.map (·.1)).Nodup
 ins : ∀ k x, dI s.ins k = some x → Reach l ts at_ es k ∧ (atP l k).2 = true ∧ x = (atP l k).1
 bad : ∀ k x, dI s.bad k = some x → Reach l ts at_ es k ∧ (atP l k).2 = false ∧ x = true
 rest : ∀ a ∈ s.rest, Reach l ts at_ es a
 start : ∀ a ∈ es, a ∈ s.ins.map (·.1) ∨ a ∈ s.bad.map (·.1) ∨ a ∈ s.rest
 close : ∀ k ∈ s.ins.map (·.1), ∀ a ∈ jt ts at_ (atP l k).1, a ∈ s.ins.map (·.1) ∨ a ∈ s.bad.map (·.1) ∨ a ∈ s.rest
 ents : ∀ a, a ∈ s.ents.map (·.1) ↔ a ∈ es ∨ ∃ k ∈ s.ins.map (·.1), a ∈ jj ts at_ (atP l k).1
 unk : ∀ a, a ∈ s.unk.map (·.1) ↔ a ∈ s.ins.map (·.1) ∧ ns ts at_ (atP l a).1 = true
 lRest : s.rest.length + s.bad.length ≤ es.length + 66 * s.ins.length
 lEnts : s.ents.length ≤ es.length + 66 * s.ins.length
 lUnk : s.unk.length ≤ s.ins.length
section
variable {l : List SecV} {ts : List TabV} {at_ es : List UInt32} {s : DSt} {r : List UInt32} {a : UInt32}
theorem nD {α : Type} {m : List (UInt32 × α)} {k : UInt32} (h : k ∈ m.map (·.1)) : ∃ x, dI m k = some x := Option.isSome_iff_exists.1 (ku.2 h)
theorem wK {α : Type} {m : List (UInt32 × α)} {k : UInt32} {x : α} (h : dI m k = some x) : k ∈ m.map (·.1) := ku.1 (by rw [h]; rfl)
theorem DInv.begin : DInv l ts at_ es ⟨[], [], gm [] es, [], es⟩ := by
 refine ⟨List.nodup_nil, List.nodup_nil, ?_, List.nodup_nil, fun k x h => by simp [dI] at h, fun k x h => by simp [dI] at h, fun a h => .ent a h, fun a h => .inr (.inr h), fun k h => by simp at h, fun a => ?_, fun a => by simp, by simp, ?_, by simp⟩
 ·have : ∀ (ks : List UInt32) (m : List (UInt32 × Bool)), (m.map (·.1)).Nodup → ((gm m ks).map (·.1)).Nodup := by
   intro ks
   induction ks with
   | nil => intro m h; exact h
   | cons k ks ih => intro m h; exact ih _ (ly k true h)
  exact this es [] List.nodup_nil
 ·show a ∈ (gm [] es).map (·.1) ↔ _
  rw [rL]; simp
 ·have := rJ es []
  simpa using this
theorem DInv.skip (h : DInv l ts at_ es s) (hr : s.rest = r ++ [a]) (hk : a ∈ s.ins.map (·.1) ∨ a ∈ s.bad.map (·.1)) : DInv l ts at_ es { s with rest := r } := by
 have mv : ∀ b, b ∈ s.ins.map (·.1) ∨ b ∈ s.bad.map (·.1) ∨ b ∈ s.rest → b ∈ s.ins.map (·.1) ∨ b ∈ s.bad.map (·.1) ∨ b ∈ r := by
  rintro b (h1 | h1 | h1)
  ·exact .inl h1
  ·exact .inr (.inl h1)
  ·rw [hr] at h1
   rcases List.mem_append.1 h1 with h2 | h2
   ·exact .inr (.inr h2)
   ·rw [List.mem_singleton.1 h2]
    rcases hk with hk | hk
    ·exact .inl hk
    ·exact .inr (.inl hk)
 refine ⟨h.nIns, h.nBad, h.nEnts, h.nUnk, h.ins, h.bad, fun b hb => h.rest b (by rw [hr]; exact List.mem_append_left _ hb), fun b hb => mv b (h.start b hb), fun k hk b hb => mv b (h.close k hk b hb), h.ents, h.unk, ?_, h.lEnts, h.lUnk⟩
 have := h.lRest
 rw [hr, List.length_append, List.length_singleton] at this
 show r.length + s.bad.length ≤ es.length + 66 * s.ins.length
 omega
theorem DInv.isBad (h : DInv l ts at_ es s) (hr : s.rest = r ++ [a]) (hf : (atP l a).2 = false) : DInv l ts at_ es { s with rest := r, bad := e8 s.bad a true } := by
 have mv : ∀ b, b ∈ s.ins.map (·.1) ∨ b ∈ s.bad.map (·.1) ∨ b ∈ s.rest → b ∈ s.ins.map (·.1) ∨ b ∈ (e8 s.bad a true).map (·.1) ∨ b ∈ r := by
  rintro b (h1 | h1 | h1)
  ·exact .inl h1
  ·exact .inr (.inl (iK.2 (.inr h1)))
  ·rw [hr] at h1
   rcases List.mem_append.1 h1 with h2 | h2
   ·exact .inr (.inr h2)
   ·exact .inr (.inl (iK.2 (.inl (List.mem_singleton.1 h2))))
 refine ⟨h.nIns, ly a true h.nBad, h.nEnts, h.nUnk, h.ins, fun k x hx => ?_, fun b hb => h.rest b (by rw [hr]; exact List.mem_append_left _ hb), fun b hb => mv b (h.start b hb), fun k hk b hb => mv b (h.close k hk b hb), h.ents, h.unk, ?_, h.lEnts, h.lUnk⟩
 ·have hx' : dI (e8 s.bad a true) k = some x := hx
  rw [ue] at hx'
  split at hx'
  ·rename_i e
   subst e
   cases hx'
   exact ⟨h.rest k (by rw [hr]; simp), hf, rfl⟩
  ·exact h.bad k x hx'
 ·have := h.lRest
  have h2 := uc s.bad a true
  rw [hr, List.length_append, List.length_singleton] at this
  show r.length + (e8 s.bad a true).length ≤ es.length + 66 * s.ins.length
  omega
theorem DInv.found (hT : oe ts) (h : DInv l ts at_ es s) (hr : s.rest = r ++ [a]) (hf : (atP l a).2 = true) (hn : a ∉ s.ins.map (·.1)) : DInv l ts at_ es (stepD l ts at_ a s r) := by
 have ha := (Bq hf).1
 have hra : Reach l ts at_ es a := h.rest a (by rw [hr]; simp)
 have mv : ∀ b, b ∈ s.ins.map (·.1) ∨ b ∈ s.bad.map (·.1) ∨ b ∈ s.rest → b ∈ (e8 s.ins a (atP l a).1).map (·.1) ∨ b ∈ s.bad.map (·.1) ∨ b ∈ r ++ jt ts at_ (atP l a).1 := by
  rintro b (h1 | h1 | h1)
  ·exact .inl (iK.2 (.inr h1))
  ·exact .inr (.inl h1)
  ·rw [hr] at h1
   rcases List.mem_append.1 h1 with h2 | h2
   ·exact .inr (.inr (List.mem_append_left _ h2))
   ·exact .inl (iK.2 (.inl (List.mem_singleton.1 h2)))
 have hlen : (e8 s.ins a (atP l a).1).length = s.ins.length + 1 := by
  rw [qO]
  ·simp
  ·cases hq : dI s.ins a with
   | none => rfl
   | some x => exact absurd (wK hq) hn
 have hl := uh hT at_ (atP l a).1
 have hcl : (jj ts at_ (atP l a).1).length ≤ 66 := by
  have := rN hT at_ (atP l a).1.addr
  unfold jj
  repeat' split
  all_goals simp <;> omega
 refine ⟨ly a _ h.nIns, h.nBad, ?_, ?_, fun k x hx => ?_, h.bad, fun b hb => ?_, fun b hb => mv b (h.start b hb), fun k hk b hb => ?_, fun b => ?_, fun b => ?_, ?_, ?_, ?_⟩
 ·have : ∀ (ks : List UInt32) (m : List (UInt32 × Bool)), (m.map (·.1)).Nodup → ((gm m ks).map (·.1)).Nodup := by
   intro ks
   induction ks with
   | nil => intro m h; exact h
   | cons k ks ih => intro m h; exact ih _ (ly k true h)
  exact this _ _ h.nEnts
 ·show ((if ns ts at_ (atP l a).1 = true then e8 s.unk (atP l a).1.addr true else s.unk).map (·.1)).Nodup
  split
  ·exact ly _ _ h.nUnk
  ·exact h.nUnk
 ·have hx' : dI (e8 s.ins a (atP l a).1) k = some x := hx
  rw [ue] at hx'
  split at hx'
  ·rename_i e
   subst e
   cases hx'
   exact ⟨hra, hf, rfl⟩
  ·exact h.ins k x hx'
 ·rcases List.mem_append.1 (show b ∈ r ++ jt ts at_ (atP l a).1 from hb) with h1 | h1
  ·exact h.rest b (by rw [hr]; exact List.mem_append_left _ h1)
  ·exact .step a b hra hf h1
 ·rcases iK.1 (show k ∈ (e8 s.ins a (atP l a).1).map (·.1) from hk) with rfl | hk
  ·exact .inr (.inr (List.mem_append_right _ hb))
  ·exact mv b (h.close k hk b hb)
 ·show b ∈ (gm s.ents (jj ts at_ (atP l a).1)).map (·.1) ↔ b ∈ es ∨ ∃ k ∈ (e8 s.ins a (atP l a).1).map (·.1), _
  rw [rL, h.ents]
  constructor
  ·rintro (h1 | h1 | ⟨k, h1, h2⟩)
   ·exact .inr ⟨a, iK.2 (.inl rfl), h1⟩
   ·exact .inl h1
   ·exact .inr ⟨k, iK.2 (.inr h1), h2⟩
  ·rintro (h1 | ⟨k, h1, h2⟩)
   ·exact .inr (.inl h1)
   ·rcases iK.1 h1 with rfl | h1
    ·exact .inl h2
    ·exact .inr (.inr ⟨k, h1, h2⟩)
 ·show b ∈ (if ns ts at_ (atP l a).1 = true then e8 s.unk (atP l a).1.addr true else s.unk).map (·.1) ↔ b ∈ (e8 s.ins a (atP l a).1).map (·.1) ∧ _
  rw [iK]
  split
  ·rename_i hu
   rw [iK, h.unk, ha]
   constructor
   ·rintro (rfl | ⟨h1, h2⟩)
    ·exact ⟨.inl rfl, hu⟩
    ·exact ⟨.inr h1, h2⟩
   ·rintro ⟨h1 | h1, h2⟩
    ·exact .inl h1
    ·exact .inr ⟨h1, h2⟩
  ·rename_i hu
   rw [h.unk]
   constructor
   ·rintro ⟨h1, h2⟩
    exact ⟨.inr h1, h2⟩
   ·rintro ⟨h1 | h1, h2⟩
    ·subst h1; exact absurd h2 hu
    ·exact ⟨h1, h2⟩
 ·have := h.lRest
  rw [hr, List.length_append, List.length_singleton] at this
  show (r ++ jt ts at_ (atP l a).1).length + s.bad.length ≤ es.length + 66 * (e8 s.ins a (atP l a).1).length
  rw [hlen, List.length_append]
  omega
 ·have := h.lEnts
  have h2 := rJ (jj ts at_ (atP l a).1) s.ents
  show (gm s.ents (jj ts at_ (atP l a).1)).length ≤ es.length + 66 * (e8 s.ins a (atP l a).1).length
  rw [hlen]; omega
 ·have := h.lUnk
  show (if ns ts at_ (atP l a).1 = true then e8 s.unk (atP l a).1.addr true else s.unk).length ≤ (e8 s.ins a (atP l a).1).length
  rw [hlen]
  split
  ·have := uc s.unk (atP l a).1.addr true; omega
  ·omega
theorem DInv.all (h : DInv l ts at_ es s) (hr : s.rest = []) : ∀ b, Reach l ts at_ es b → b ∈ s.ins.map (·.1) ∨ b ∈ s.bad.map (·.1) := by
 intro b hb
 have cut : ∀ c, c ∈ s.ins.map (·.1) ∨ c ∈ s.bad.map (·.1) ∨ c ∈ s.rest → c ∈ s.ins.map (·.1) ∨ c ∈ s.bad.map (·.1) := by
  rintro c (h1 | h1 | h1)
  ·exact .inl h1
  ·exact .inr h1
  ·rw [hr] at h1; cases h1
 induction hb with
 | ent a ha => exact cut a (h.start a ha)
 | step b a hb hf ha ih =>
  rcases ih with h1 | h1
  ·exact cut a (h.close b h1 a ha)
  ·obtain ⟨x, hx⟩ := nD h1
   have := (h.bad b x hx).2.1
   rw [hf] at this; cases this
theorem DInv.insKeys (h : DInv l ts at_ es s) (hr : s.rest = []) (b : UInt32) : b ∈ s.ins.map (·.1) ↔ Reach l ts at_ es b ∧ (atP l b).2 = true := by
 constructor
 ·intro h1
  obtain ⟨x, hx⟩ := nD h1
  exact ⟨(h.ins b x hx).1, (h.ins b x hx).2.1⟩
 ·rintro ⟨h1, h2⟩
  rcases h.all hr b h1 with h3 | h3
  ·exact h3
  ·obtain ⟨x, hx⟩ := nD h3
   have := (h.bad b x hx).2.1
   rw [h2] at this; cases this
theorem DInv.code (h : DInv l ts at_ es s) (hr : s.rest = []) : IsCode l ts at_ es ⟨(fQ (s.ins.map (·.1))).map fun a => (atP l a).1, (fQ (s.ents.map (·.1))).filter fun a => (dI s.ins a).isSome, fQ (s.unk.map (·.1)), fQ (s.bad.map (·.1))⟩ := by
 refine ⟨⟨_, qy h.nIns, fun a => by rw [mX]; exact h.insKeys hr a, rfl⟩, ⟨qy h.nBad, fun a => ?_⟩, ⟨(qy h.nEnts).filter _, fun a => ?_⟩, ⟨qy h.nUnk, fun a => ?_⟩⟩
 ·show a ∈ fQ _ ↔ _
  rw [mX]
  constructor
  ·intro h1
   obtain ⟨x, hx⟩ := nD h1
   exact ⟨(h.bad a x hx).1, (h.bad a x hx).2.1⟩
  ·rintro ⟨h1, h2⟩
   rcases h.all hr a h1 with h3 | h3
   ·have := ((h.insKeys hr a).1 h3).2
    rw [h2] at this; cases this
   ·exact h3
 ·show a ∈ (fQ _).filter _ ↔ _
  rw [List.mem_filter, mX, h.ents, ku, h.insKeys hr]
  constructor
  ·rintro ⟨h1 | ⟨k, h1, h2⟩, h3⟩
   ·exact ⟨h3, .inl h1⟩
   ·exact ⟨h3, .inr ⟨k, (h.insKeys hr k).1 h1, h2⟩⟩
  ·rintro ⟨h3, h1 | ⟨k, h1, h2⟩⟩
   ·exact ⟨.inl h1, h3⟩
   ·exact ⟨.inr ⟨k, (h.insKeys hr k).2 h1, h2⟩, h3⟩
 ·show a ∈ fQ _ ↔ _
  rw [mX, h.unk, h.insKeys hr]
end
theorem zS {α : Type} [Inhabited α] {xs : List α} (h : 0 < xs.length) : xs = xs.take ((xs.length : Int) - 1).toNat ++ [xs.getD ((xs.length : Int) - 1).toNat default] := by
 obtain ⟨n, hn⟩ : ∃ n, ((xs.length : Int) - 1).toNat = n := ⟨_, rfl⟩
 rw [hn]
 have h1 : n + 1 = xs.length := by omega
 have := dB (l := xs) (k := n) (by omega)
 rw [← this, h1, List.take_length]
theorem xT {ins : List (UInt32 × Ins)} {bad : List (UInt32 × Bool)} {a : UInt32} (h : (dI ins a).isSome = true ∨ (dI bad a).getD false = true) : a ∈ ins.map (·.1) ∨ a ∈ bad.map (·.1) := by
 rcases h with h | h
 ·exact .inl (ku.1 h)
 ·right
  cases hq : dI bad a with
  | none => rw [hq] at h; cases h
  | some x => exact wK hq
theorem AT {ins : List (UInt32 × Ins)} {bad : List (UInt32 × Bool)} {a : UInt32} (h : (dI ins a).isSome = false ∧ (dI bad a).getD false = false) : a ∉ ins.map (·.1) := fun hq => by
 have := ku.2 hq
 rw [h.1] at this; cases this
theorem G3 {l : List SecV} {ts : List TabV} {at_ es : List UInt32} {s : DSt} (h : DInv l ts at_ es s) {k : UInt32} (hk : k ∈ s.ins.map (·.1)) : (dI s.ins k).getD cp = (atP l k).1 := by
 obtain ⟨x, hx⟩ := nD hk
 rw [hx]; exact (h.ins k x hx).2.2
theorem mn {α β : Type} [Inhabited α] (f : α → β) {l : List α} {k : Nat} (h : k < l.length) : (l.take k).map f ++ [f (l.getD k default)] = (l.take (k + 1)).map f := by
 rw [dB h, List.map_append]; rfl
theorem sX {α : Type} [Inhabited α] {p : α → Bool} {l : List α} {k : Nat} (h : k < l.length) (hp : p (l.getD k default) = true) : (l.take k).filter p ++ [l.getD k default] = (l.take (k + 1)).filter p := by
 rw [dB h, List.filter_append, List.filter_cons_of_pos hp]; rfl
theorem uo {α : Type} [Inhabited α] {p : α → Bool} {l : List α} {k : Nat} (h : k < l.length) (hp : p (l.getD k default) = false) : (l.take k).filter p = (l.take (k + 1)).filter p := by
 rw [dB h, List.filter_append, List.filter_cons_of_neg (by rw [hp]; simp)]; simp
theorem GE (l : List SecV) (a : UInt32) : InsOK (atP l a).1 := by
 unfold atP
 split
 ·constructor <;> exact ⟨by decide, by decide⟩
 ·exact Hd
def vm (l : List SecV) : List UInt32 := l.flatMap fun s => (List.range s.data.length).map fun i => s.addr + UInt32.ofNat i
def totD (l : List SecV) : Nat := (l.map fun s => s.data.length).sum
theorem tG (l : List SecV) : (vm l).length = totD l := by
 induction l with
 | nil => rfl
 | cons s l ih =>
  show (((List.range s.data.length).map fun i => s.addr + UInt32.ofNat i) ++ vm l).length = _
  rw [List.length_append, List.length_map, List.length_range, ih]
  simp [totD]
theorem xc {l : List SecV} {a : UInt32} (h : (atP l a).2 = true) : a ∈ vm l := by
 obtain ⟨_, h1, _⟩ := Bq h
 unfold B9 at h1
 simp only [Bool.or_eq_false_iff, decide_eq_false_iff_not] at h1
 have hf : 0 ≤ dS l a := by omega
 have hlt := m3 (l := l) (a := a)
 have hin := qV.1 (oM (l := l) (a := a) hf)
 refine List.mem_flatMap.2 ⟨l.getD (dS l a).toNat default, df (by omega), ?_⟩
 obtain ⟨s, hs⟩ : ∃ s, s = l.getD (dS l a).toNat default := ⟨_, rfl⟩
 rw [← hs] at hin ⊢
 have hen : qb s ≤ (s.addr.toNat : Int) + s.data.length := by unfold qb; omega
 have ha := a.toNat_lt
 refine List.mem_map.2 ⟨a.toNat - s.addr.toNat, List.mem_range.2 (by omega), ?_⟩
 rw [← UInt32.toNat_inj, UInt32.toNat_add, UInt32.toNat_ofNat']
 omega
theorem DInv.count {l : List SecV} {ts : List TabV} {at_ es : List UInt32} {s : DSt} (h : DInv l ts at_ es s) : s.ins.length ≤ totD l := by
 have := mW (l := s.ins.map (·.1)) (l' := vm l) h.nIns fun k hk => by
  obtain ⟨x, hx⟩ := nD hk
  exact xc (h.ins k x hx).2.1
 rw [List.length_map, tG] at this
 exact this
end Go.HL
