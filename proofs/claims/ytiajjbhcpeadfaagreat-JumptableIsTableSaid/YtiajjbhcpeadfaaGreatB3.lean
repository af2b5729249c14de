/- Own rules and walks, part 3. -/
import Derived.Test.YtiajjbhcpeadfaaGreatB2
set_option linter.unusedSimpArgs false
set_option linter.unusedVariables false
set_option linter.unusedSectionVars false
set_option maxRecDepth 100000
set_option maxHeartbeats 16000000
namespace Go.Proofs.YtiajjbhcpeadfaaGreat
open Go Go.HL Go.RowKit
theorem sO (a : VSet) (w : World) :
  Calls Tryz.prog 41 #[.agg (bU.enc a).toArray] w (fun e w' => ∃ V', e = .returned (.tuple #[V', .int .i64 (fc a).2]) ∧ Ext w w' ∧ je w w' 23 ar ((fc a).1) V') := by
 refine enter Tryz.func41 rfl Tryz.ntmps41 rfl ?_
 refine af ?_
 refine dJ rfl rfl (fun b1 => ?_)
 refine zz0 (ab rfl) (zz0 (ab rfl) (aI (zz0 (bI rfl aK ak) ?_)))
 refine zz0 (aA rfl gu (fun w hw => ie a w)) ?_
 refine aF bU rfl rfl ak ?_
 refine aI (zz0 (bI rfl aK ak) ?_)
 refine zz0 (aA rfl Tryz.call100 (fun w hw => zo (ba a) w)) ?_
 refine zz0 (ab rfl) (ad (al (al ?_)))
 have hcc : fx (ba a) = fx a := by unfold fx; rw [jU]
 rw [hcc]
 have hc0 := EO a
 have hc1 := count_le a
 refine ao (zz0 (aa rfl) (zz0 (eo rfl rfl) (ad ?_)))
 refine an rfl ?_ ?_ <;> intro h2 <;> try simp only [bs] at h2
 ·refine af (zz0 (ab rfl) (zz0 (ab rfl) (ad (az (ay ?_)))))
  refine df Tryz.results41 rfl rfl (fun w' hw => ?_)
  exact ⟨_, by unfold fc; rw [if_pos (by assumption)], hw.b0, by unfold fc; rw [if_pos (by assumption)]; exact eW rfl⟩
 ·refine dh (zz0 (ab rfl) (ad (al (af (zz0 (aa rfl) (zz0 (aa rfl) (ad ?_)))))))
  refine aD (cj 23 ar ?_)
  refine bK (ι := Nat × Value) (fun ⟨k, V⟩ => k ≤ (fx a).toNat) (fun _ => _) (fun ⟨k, V⟩ => [rowE V 23 ar (elK (ba a) k), cellE b1 (bU.enc (ba a)) 25]) (fun ⟨k, V⟩ => [(5, V), (14, .int .i64 (k : Nat))]) (fun ⟨k, V⟩ => (fx a).toNat - k) (0, _) (Nat.zero_le _) (Front.c (Front.c Front.nil)) (by repeat' constructor) rfl (fun i hi m hm => ?_)
  obtain ⟨k, V⟩ := i
  replace hi : k ≤ (fx a).toNat := hi
  replace hm : m = (fx a).toNat - k := hm
  change Tr _ _ [rowE V 23 ar (elK (ba a) k), cellE b1 (bU.enc (ba a)) 25] ([(5, V), (14, .int .i64 (k : Nat))] ++ _) _
  have hel := BL (ba a) k
  refine af (zz0 (bP rfl rfl) (ad (al ?_)))
  refine an rfl ?_ ?_ <;> intro h3 <;> try simp only [bs] at h3
  ·refine bA (al (aD (af (zz0 (aa rfl) (zz0 (ab rfl) (ad (ao (zz0 (aa rfl) (zz0 (zz2 (off := 2) (ft := 23) rfl au rfl ae) ?_)))))))))
   refine zz0 (aJ rfl am) ?_
   refine zz0 (aa rfl) (zz0 (g8 rfl aY aL) (zz0 (zz2 (off := 4) (ft := 23) rfl au rfl ae) ?_))
   refine zz0 (aJ rfl am) ?_
   refine zz0 (ma rfl rfl) ?_
   refine zz0 (fY rfl rfl) ?_
   refine js (E := ar) _ rfl rfl ah ae cU (fun V4 => ?_)
   refine zz1 rfl rfl ah eX (fun V5 => ?_)
   refine zz0 (ab rfl) (aB (aX (ac (ao (zz0 (cp rfl rfl) ?_)))))
   refine zz0 (aa rfl) (ad ?_)
   rw [← EL]
   refine cC (k + 1, _) (Front.c (Front.c Front.nil)) (bB 19 rfl) (o := (by show k + 1 ≤ _; omega))
  ·refine bF (aG (aG (bj (ac (al ?_)))))
   obtain rfl : k = (fx a).toNat := by omega
   refine ao (zz0 (aa rfl) (zz0 (ab rfl) (zz0 (ab rfl) (ad (az ?_)))))
   refine df Tryz.results41 rfl rfl (fun w' hw => ?_)
   exact ⟨_, by unfold fc; rw [if_neg (by omega)], hw.b0, by unfold fc xB; rw [if_neg (by omega), hcc]; exact hw.new (.head _)⟩
theorem B8 (a b : VSet) (w : World) :
  Calls Tryz.prog 271 #[.agg (bU.enc a).toArray, .agg (bU.enc b).toArray] w (fun e w' => e = .returned (.bool (nF a b)) ∧ Ext w w') := by
 refine enter Tryz.func271 rfl Tryz.ntmps271 rfl ?_
 refine af ?_
 refine dJ rfl rfl (fun b1 => ?_)
 refine dJ rfl rfl (fun b2 => ?_)
 refine zz0 (ab rfl) (ad (al (fG 0 4 aS ?_)))
 refine bG ?_
 refine aw (bI rfl aK ak) ?_
 refine aw (aA rfl gu (fun w hw => ie a w)) ?_
 refine aw (bI rfl aK ak) ?_
 refine aw (aA rfl gu (fun w hw => ie b w)) ?_
 refine bH ?_
 refine aF bU rfl rfl ak ?_
 refine aF bU rfl rfl ak ?_
 refine ad (al (aD (af (zz0 (zz2 (off := 0) (ft := 4) rfl au rfl bW) ?_))))
 refine zz0 (aJ rfl cB) ?_
 refine zz0 (aa rfl) ?_
 apply dB
 ·exact (rfl : _ = (3, 12, 15))
 ·exact rfl
 ·intro hF3; have hF3' := hF3
  try simp only [bs] at hF3'
  refine zz5 hF3 (zz2 (off := 1) (ft := 4) rfl au rfl bW) ?_
  refine zz5 hF3 (aJ rfl cB) ?_
  refine zz0 (aR rfl hF3 rfl) ?_
  refine aB (ac ?_)
  exact aH (Sub.cons rfl (zz9 3 rfl))
 ·intro hT3
  refine zz8 hT3 (zz8 hT3 (zz0 (aQ rfl hT3 rfl) ?_))
  refine aB (ac ?_)
  exact aH (Sub.cons rfl (zz9 3 rfl))
 refine zz0 (ab rfl) (ad ?_)
 refine an rfl ?_ ?_ <;> intro h4 <;> try simp only [bs] at h4
 ·refine af (zz0 (ab rfl) (ad (az (bh (ay ?_)))))
  refine aT mO rfl (fun w' hw => ?_)
  refine ⟨?_, hw.b0⟩
  unfold nF oH
  repeat' (first | rfl | (exfalso; first | (simp_all; done) | grind) | split)
 ·refine af (zz0 (zz2 (off := 1) (ft := 4) rfl au rfl bW) ?_)
  refine zz0 (aJ rfl cB) ?_
  refine zz0 (aa rfl) ?_
  apply dB
  ·exact (rfl : _ = (3, 19, 22))
  ·exact rfl
  ·intro hF5; have hF5' := hF5
   try simp only [bs] at hF5'
   refine zz5 hF5 (zz2 (off := 0) (ft := 4) rfl au rfl bW) ?_
   refine zz5 hF5 (aJ rfl cB) ?_
   refine zz0 (aR rfl hF5 rfl) ?_
   refine aB (ac ?_)
   exact aH (Sub.cons rfl (zz9 3 rfl))
  ·intro hT5
   refine zz8 hT5 (zz8 hT5 (zz0 (aQ rfl hT5 rfl) ?_))
   refine aB (ac ?_)
   exact aH (Sub.cons rfl (zz9 3 rfl))
  refine zz0 (ab rfl) (ad ?_)
  refine an rfl ?_ ?_ <;> intro h6 <;> try simp only [bs] at h6
  ·refine af (zz0 (ab rfl) (ad (az (bh (ay ?_)))))
   refine aT mO rfl (fun w' hw => ?_)
   refine ⟨?_, hw.b0⟩
   unfold nF oH
   repeat' (first | rfl | (exfalso; first | (simp_all; done) | grind) | split)
  ·refine cd (aX (ac (af (zz0 (bI rfl aK ak) ?_))))
   refine zz0 (zz2 (off := 2) (ft := 23) rfl au rfl ae) ?_
   refine zz0 (aJ rfl am) ?_
   refine zz0 (aA rfl pO (fun w hw => my _ _ w)) ?_
   refine zz0 (aa rfl) ?_
   apply cm
   ·exact (rfl : _ = (5, 27, 32))
   ·exact rfl
   ·intro hT7; have hT7' := hT7
    try simp only [bs] at hT7'
    refine zz5 hT7 (bI rfl aK ak) ?_
    refine zz5 hT7 (zz2 (off := 3) (ft := 23) rfl au rfl ae) ?_
    refine zz5 hT7 (aJ rfl am) ?_
    refine zz5 hT7 (aA rfl pO (fun w hw => my _ _ w)) ?_
    refine zz0 (aQ rfl hT7 rfl) ?_
    refine aB (ac ?_)
    exact aH (Sub.cons rfl (zz9 5 rfl))
   ·intro hF7
    refine zz8 hF7 (zz8 hF7 (zz8 hF7 (zz8 hF7 (zz0 (aR rfl hF7 rfl) ?_))))
    refine aB (ac ?_)
    exact aH (Sub.cons rfl (zz9 5 rfl))
   refine zz0 (aa rfl) ?_
   apply cm
   ·exact (rfl : _ = (17, 33, 50))
   ·exact rfl
   ·intro hT8; have hT8' := hT8
    try simp only [bs] at hT8'
    refine zz5 hT8 (zz2 (off := 4) (ft := 23) rfl au rfl ae) ?_
    refine zz5 hT8 (aJ rfl am) ?_
    refine zz5 hT8 (eN (n := 0) rfl rfl) ?_
    refine zz5 hT8 (aa rfl) ?_
    apply dB
    ·exact (rfl : _ = (12, 37, 49))
    ·exact rfl
    ·intro hF9; have hF9' := hF9
     try simp only [bs] at hF9'
     refine zz5 hF9 (zz2 (off := 4) (ft := 23) rfl au rfl ae) ?_
     refine zz5 hF9 (aJ rfl am) ?_
     refine zz5 hF9 (kP (n := 0) rfl rfl) ?_
     refine zz5 hF9 (aa rfl) ?_
     apply cm
     ·exact (rfl : _ = (7, 41, 48))
     ·exact rfl
     ·intro hT10; have hT10' := hT10
      try simp only [bs] at hT10'
      have hb0 := Ha (by assumption : 0 < (ba b).st)
      refine zz5 hT10 (zz2 (off := 4) (ft := 23) rfl au rfl ae) ?_
      refine zz5 hT10 (aJ rfl am) ?_
      refine zz5 hT10 (zz2 (off := 4) (ft := 23) rfl au rfl ae) ?_
      refine zz5 hT10 (aJ rfl am) ?_
      refine zz5 hT10 (nv rfl rfl (by first | decide | assumption)) ?_
      refine zz5 hT10 (eN (n := 0) rfl rfl) ?_
      refine zz5 hF9 (aQ rfl hT10 rfl) ?_
      refine aB (ac ?_)
      exact aH (Sub.cons rfl (zz9 7 rfl))
     ·intro hF10
      refine zz8 hF10 (zz8 hF10 (zz8 hF10 (zz8 hF10 (zz8 hF10 (zz8 hF10 (zz5 hF9 (aR rfl hF10 rfl) ?_))))))
      refine aB (ac ?_)
      exact aH (Sub.cons rfl (zz9 7 rfl))
     refine zz5 hT8 (aR rfl hF9 rfl) ?_
     refine aB (ac ?_)
     exact aH (Sub.cons rfl (zz9 6 rfl))
    ·intro hT9
     refine zz8 hT9 (zz8 hT9 (zz8 hT9 (zz8 hT9 (gi ?_))))
     refine gi ?_
     refine gi ?_
     refine gi ?_
     refine gi ?_
     refine gi ?_
     refine zz8 hT9 (zz5 hT8 (aQ rfl hT9 rfl) ?_)
     refine aB (ac ?_)
     exact aH (Sub.cons rfl (zz9 12 rfl))
    refine zz0 (aQ rfl hT8 rfl) ?_
    refine aB (ac ?_)
    exact aH (Sub.cons rfl (zz9 6 rfl))
   ·intro hF8
    refine zz8 hF8 (zz8 hF8 (zz8 hF8 (zz8 hF8 (gi ?_))))
    refine gi ?_
    refine gi ?_
    refine gi ?_
    refine gi ?_
    refine gi ?_
    refine gi ?_
    refine gi ?_
    refine gi ?_
    refine gi ?_
    refine gi ?_
    refine zz8 hF8 (zz0 (aR rfl hF8 rfl) ?_)
    refine aB (ac ?_)
    exact aH (Sub.cons rfl (zz9 17 rfl))
   refine zz0 (ab rfl) (ad (az ?_))
   refine aT mO rfl (fun w' hw => ?_)
   refine ⟨?_, hw.b0⟩
   unfold nF oH
   repeat' (first | rfl | (exfalso; first | (simp_all; done) | grind) | split)
theorem vL (a : VSet) (k : UInt32) (w : World) :
  Calls Tryz.prog 325 #[.agg (bU.enc a).toArray, .int .u32 k.toNat] w (fun e w' => e = .returned (.agg (bU.enc (qN a k)).toArray) ∧ Ext w w') := by
 have hmul := HV a.hi k
 refine enter Tryz.func325 rfl Tryz.ntmps325 rfl ?_
 refine af ?_
 refine dJ rfl rfl (fun b1 => ?_)
 refine dD cK rfl (fun b2 => ?_)
 refine ad (al (af (zz0 (zz2 (off := 1) (ft := 4) rfl au rfl bW) ?_)))
 refine zz0 (aJ rfl cB) ?_
 refine zz0 (aa rfl) ?_
 apply dB
 ·exact (rfl : _ = (8, 7, 15))
 ·exact rfl
 ·intro hF3; have hF3' := hF3
  try simp only [bs] at hF3'
  refine zz5 hF3 (zz2 (off := 3) (ft := 23) rfl au rfl ae) ?_
  refine zz5 hF3 (aJ rfl am) ?_
  refine zz5 hF3 (eS rfl aL cG) (zz5 hF3 (aa rfl) (zz5 hF3 (eS rfl aL cG) (zz5 hF3 (B0 rfl rfl (by omega)) ?_)))
  refine zz5 hF3 (eo rfl rfl) (zz0 (aR rfl hF3 rfl) ?_)
  refine aB (ac ?_)
  exact aH (Sub.cons rfl (zz9 8 rfl))
 ·intro hT3
  refine zz8 hT3 (zz8 hT3 (zz8 hT3 (zz8 hT3 (zz8 hT3 (zz8 hT3 (zz8 hT3 (zz0 (aQ rfl hT3 rfl) ?_)))))))
  refine aB (ac ?_)
  exact aH (Sub.cons rfl (zz9 8 rfl))
 refine ad ?_
 refine an rfl ?_ ?_ <;> intro h4 <;> try simp only [bs] at h4
 ·refine af (zz0 (aA rfl f5 (fun w hw => jY w)) ?_)
  refine aF bU rfl rfl ak ?_
  refine ad (az (ay ?_))
  refine eT Tryz.results325 rfl aK ak (fun w' hw => ?_)
  refine ⟨?_, hw.b0⟩
  unfold qN
  repeat' (first | rfl | (exfalso; first | (simp_all; done) | grind) | split)
 ·refine dh (zz0 (zz2 (off := 2) (ft := 23) rfl au rfl ae) ?_)
  refine zz0 (aJ rfl am) ?_
  refine zz0 (aa rfl) (zz0 (ma rfl rfl) ?_)
  refine zz0 (zz2 (off := 3) (ft := 23) rfl au rfl ae) ?_
  refine zz0 (aJ rfl am) ?_
  refine zz0 (aa rfl) (zz0 (ma rfl rfl) ?_)
  refine zz0 (zz2 (off := 4) (ft := 23) rfl au rfl ae) ?_
  refine zz0 (aJ rfl am) ?_
  refine zz0 (aa rfl) (zz0 (ma rfl rfl) ?_)
  refine zz0 (aA rfl eB (fun w hw => dL _ _ _ w)) ?_
  refine aF bU rfl rfl ak ?_
  refine ad (az ?_)
  refine eT Tryz.results325 rfl aK ak (fun w' hw => ?_)
  refine ⟨?_, hw.b0⟩
  unfold qN
  repeat' (first | rfl | (exfalso; first | (simp_all; done) | grind) | split)
theorem CG (a : VSet) (n : UInt32) (w : World) :
  Calls Tryz.prog 326 #[.agg (bU.enc a).toArray, .int .u32 n.toNat] w (fun e w' => e = .returned (.agg (bU.enc (tq a n)).toArray) ∧ Ext w w') := by
 refine enter Tryz.func326 rfl Tryz.ntmps326 rfl ?_
 refine af ?_
 refine dJ rfl rfl (fun b1 => ?_)
 refine dD cK rfl (fun b2 => ?_)
 refine aI (zz0 (aa rfl) (zz0 (ab rfl) (ad (al (af (zz0 (zz2 (off := 1) (ft := 4) rfl au rfl bW) ?_))))))
 refine zz0 (aJ rfl cB) ?_
 refine zz0 (cN rfl) (ad ?_)
 refine an rfl ?_ ?_ <;> intro h3 <;> try simp only [bs] at h3
 ·refine ao (zz0 (aa rfl) (zz0 (zz2 (off := 3) (ft := 23) rfl au rfl ae) ?_))
  refine zz0 (aJ rfl am) ?_
  refine zz0 (pj rfl rfl) ?_
  refine zz0 (ab rfl) (aI (zz0 (aa rfl) (zz0 (aa rfl) (zz0 (aa rfl) (zz0 (uZ rfl) ?_)))))
  refine zz0 (nB rfl rfl) ?_
  refine zz0 (aA rfl eB (fun w hw => dL 0 _ (n &&& (0 - n)) w)) ?_
  refine aF bU rfl rfl ak ?_
  refine ad (az ?_)
  refine eT Tryz.results326 rfl aK ak (fun w' hw => ?_)
  refine ⟨?_, hw.b0⟩
  unfold tq
  rw [if_pos (show a.top = false by simp_all)]
  rfl
 ·refine dh (zz0 (aa rfl) (zz0 (aa rfl) (zz0 (aa rfl) (zz0 (uZ rfl) ?_))))
  refine zz0 (nB rfl rfl) ?_
  refine zz0 (aA rfl eB (fun w hw => dL 0 _ (n &&& (0 - n)) w)) ?_
  refine aF bU rfl rfl ak ?_
  refine ad (az ?_)
  refine eT Tryz.results326 rfl aK ak (fun w' hw => ?_)
  refine ⟨?_, hw.b0⟩
  unfold tq
  rw [if_neg (show ¬a.top = false by simp_all)]
  rfl
theorem pd (op : Int) (a b : VSet) (w : World) :
  Calls Tryz.prog 303 #[.int .i64 op, .agg (bU.enc a).toArray, .agg (bU.enc b).toArray] w (fun e w' => e = .returned (.agg (bU.enc (ga op a b)).toArray) ∧ Ext w w') := by
 have hb1 := (ba a).hi.toNat_lt
 have hb2 := (ba b).hi.toNat_lt
 refine enter Tryz.func303 rfl Tryz.ntmps303 rfl ?_
 refine af ?_
 refine dJ rfl rfl (fun b1 => ?_)
 refine dJ rfl rfl (fun b2 => ?_)
 refine dD cK rfl (fun b3 => ?_)
 refine ad (al (fG 0 4 aS ?_))
 refine bG ?_
 refine aw (bI rfl aK ak) ?_
 refine aw (aA rfl gu (fun w hw => ie a w)) ?_
 refine aw (bI rfl aK ak) ?_
 refine aw (aA rfl gu (fun w hw => ie b w)) ?_
 refine bH ?_
 refine aF bU rfl rfl ak ?_
 refine aF bU rfl rfl ak ?_
 refine ad ?_
 refine db (ι := Unit) (fun u => ga op a b = iv op (ba a) (ba b)) (fun _ => Bg.of w) (fun u => [cellE b3 (bU.enc zeroS) 25, cellE b2 (bU.enc (ba b)) 25, cellE b1 (bU.enc (ba a)) 25]) (fun u => []) ?_ (fun u hi => ?_)
 ·skip
  refine aD (af (zz0 (aa rfl) (zz0 (bP rfl rfl) (zz0 (aa rfl) ?_))))
  apply dB
  ·exact (rfl : _ = (3, 16, 19))
  ·exact rfl
  ·intro hF4; have hF4' := hF4
   try simp only [bs] at hF4'
   refine zz5 hF4 (aa rfl) (zz5 hF4 (eo rfl rfl) (zz0 (aR rfl hF4 rfl) ?_))
   refine aB (ac ?_)
   exact aH (Sub.cons rfl (zz9 3 rfl))
  ·intro hT4
   refine zz8 hT4 (zz8 hT4 (zz0 (aQ rfl hT4 rfl) ?_))
   refine aB (ac ?_)
   exact aH (Sub.cons rfl (zz9 3 rfl))
  refine zz0 (ab rfl) (ad ?_)
  refine an rfl ?_ ?_ <;> intro h5 <;> try simp only [bs] at h5
  ·refine af (zz0 (aA rfl f5 (fun w hw => jY w)) ?_)
   refine aF bU rfl rfl ak ?_
   refine ad (az (bh (ay ?_)))
   refine eT eG rfl aK ak (fun w' hw => ?_)
   try rw [hi]
   refine ⟨?_, hw.b0⟩
   (first | unfold jw | unfold iv | unfold ga iw)
   repeat' (first | rfl | (exfalso; first | (simp_all; done) | grind) | split)
  ·refine af (zz0 (zz2 (off := 0) (ft := 4) rfl au rfl bW) ?_)
   refine zz0 (aJ rfl cB) ?_
   refine zz0 (aa rfl) ?_
   apply dB
   ·exact (rfl : _ = (3, 24, 27))
   ·exact rfl
   ·intro hF6; have hF6' := hF6
    try simp only [bs] at hF6'
    refine zz5 hF6 (zz2 (off := 0) (ft := 4) rfl au rfl bW) ?_
    refine zz5 hF6 (aJ rfl cB) ?_
    refine zz0 (aR rfl hF6 rfl) ?_
    refine aB (ac ?_)
    exact aH (Sub.cons rfl (zz9 3 rfl))
   ·intro hT6
    refine zz8 hT6 (zz8 hT6 (zz0 (aQ rfl hT6 rfl) ?_))
    refine aB (ac ?_)
    exact aH (Sub.cons rfl (zz9 3 rfl))
   refine zz0 (ab rfl) (ad ?_)
   refine an rfl ?_ ?_ <;> intro h7 <;> try simp only [bs] at h7
   ·refine af (zz0 (aA rfl jm (fun w hw => j1 w)) ?_)
    refine aF bU rfl rfl ak ?_
    refine ad (az (bh (ay ?_)))
    refine eT eG rfl aK ak (fun w' hw => ?_)
    try rw [hi]
    refine ⟨?_, hw.b0⟩
    (first | unfold jw | unfold iv | unfold ga iw)
    repeat' (first | rfl | (exfalso; first | (simp_all; done) | grind) | split)
   ·refine af (zz0 (bI rfl aK ak) ?_)
    refine zz0 (aA rfl Tryz.call324 (fun w hw => rN _ w)) ?_
    refine zz0 (aa rfl) ?_
    apply cm
    ·exact (rfl : _ = (3, 32, 35))
    ·exact rfl
    ·intro hT8; have hT8' := hT8
     try simp only [bs] at hT8'
     refine zz5 hT8 (bI rfl aK ak) ?_
     refine zz5 hT8 (aA rfl Tryz.call324 (fun w hw => rN _ w)) ?_
     refine zz0 (aQ rfl hT8 rfl) ?_
     refine aB (ac ?_)
     exact aH (Sub.cons rfl (zz9 3 rfl))
    ·intro hF8
     refine zz8 hF8 (zz8 hF8 (zz0 (aR rfl hF8 rfl) ?_))
     refine aB (ac ?_)
     exact aH (Sub.cons rfl (zz9 3 rfl))
    refine zz0 (ab rfl) (ad ?_)
    refine an rfl ?_ ?_ <;> intro h9 <;> try simp only [bs] at h9
    ·refine af (zz0 (aa rfl) (zz0 (zz2 (off := 2) (ft := 23) rfl au rfl ae) ?_))
     refine zz0 (aJ rfl am) ?_
     refine zz0 (zz2 (off := 2) (ft := 23) rfl au rfl ae) ?_
     refine zz0 (aJ rfl am) ?_
     refine zz0 (aA rfl Tryz.call277 (fun w hw => AW op (ba a).lo (ba b).lo w)) ?_
     refine zz0 (aa rfl) (zz0 (aO rfl rfl) (zz0 (aO rfl rfl) (zz0 (ab rfl) (zz0 (ab rfl) (aI (zz0 (aa rfl) (zz0 (aA rfl iL (fun w hw => jz _ w)) ?_)))))))
     refine aF bU rfl rfl ak ?_
     refine ad (az (bh (ay ?_)))
     refine eT eG rfl aK ak (fun w' hw => ?_)
     try rw [hi]
     refine ⟨?_, hw.b0⟩
     (first | unfold jw | unfold iv | unfold ga iw)
     repeat' (first | rfl | (exfalso; first | (simp_all; done) | grind) | split)
    ·refine cd (aX (ac ?_))
     refine cw () Front.nil (bB 15 rfl) (o := (by show _ = _; unfold ga iw; repeat' (first | rfl | (exfalso; first | (simp_all; done) | grind) | split)))
 ·skip
  replace hi : ga op a b = iv op (ba a) (ba b) := hi
  change Tr _ _ [cellE b3 (bU.enc zeroS) 25, cellE b2 (bU.enc (ba b)) 25, cellE b1 (bU.enc (ba a)) 25] ([] ++ _) _
  refine db (ι := Unit) (fun u => ga op a b = jw op (ba a) (ba b)) (fun _ => Bg.of w) (fun u => [cellE b3 (bU.enc zeroS) 25, cellE b2 (bU.enc (ba b)) 25, cellE b1 (bU.enc (ba a)) 25]) (fun u => []) ?_ (fun u hi => ?_)
  ·skip
   refine af (zz0 (aa rfl) (ad (aD (al (af (zz0 (bD rfl rfl) (zz0 (ab rfl) (ad ?_))))))))
   apply dS
   ·exact rfl
   ·intro hO10
    try simp only [bs] at hO10
    refine af (zz0 (bD rfl rfl) (zz0 (ab rfl) (ad ?_)))
    apply dS
    ·exact rfl
    ·intro hO11
     try simp only [bs] at hO11
     refine af (zz0 (bD rfl rfl) (zz0 (ab rfl) (ad ?_)))
     apply dS
     ·exact rfl
     ·intro hO12
      try simp only [bs] at hO12
      refine ao (zz0 (bD rfl rfl) (zz0 (ab rfl) (ad ?_)))
      exact eD rfl (bB 2 rfl)
     refine ac ?_
     exact eD rfl (bB 3 rfl)
    refine ac ?_
    exact eD rfl (bB 3 rfl)
   refine ac ?_
   refine an rfl ?_ ?_ <;> intro h13 <;> try simp only [bs] at h13
   ·refine af (zz0 (aA rfl eB (fun w hw => dL 0 1 1 w)) ?_)
    refine aF bU rfl rfl ak ?_
    refine ad (az (bh (ay ?_)))
    refine eT eG rfl aK ak (fun w' hw => ?_)
    try rw [hi]
    refine ⟨?_, hw.b0⟩
    (first | unfold jw | unfold iv | unfold ga iw)
    repeat' (first | rfl | (exfalso; first | (simp_all; done) | grind) | split)
   ·refine af (zz0 (bD rfl rfl) (zz0 (ab rfl) (ad ?_)))
    refine an rfl ?_ ?_ <;> intro h14 <;> try simp only [bs] at h14
    ·refine af (zz0 (zz2 (off := 1) (ft := 4) rfl au rfl bW) ?_)
     refine zz0 (aJ rfl cB) ?_
     refine zz0 (cN rfl) (zz0 (aa rfl) ?_)
     apply cm
     ·exact (rfl : _ = (4, 59, 63))
     ·exact rfl
     ·intro hT15; have hT15' := hT15
      try simp only [bs] at hT15'
      refine zz5 hT15 (zz2 (off := 1) (ft := 4) rfl au rfl bW) ?_
      refine zz5 hT15 (aJ rfl cB) ?_
      refine zz5 hT15 (cN rfl) (zz0 (aQ rfl hT15 rfl) ?_)
      refine aB (ac ?_)
      exact aH (Sub.cons rfl (zz9 4 rfl))
     ·intro hF15
      refine zz8 hF15 (zz8 hF15 (zz8 hF15 (zz0 (aR rfl hF15 rfl) ?_)))
      refine aB (ac ?_)
      exact aH (Sub.cons rfl (zz9 4 rfl))
     refine zz0 (aa rfl) ?_
     apply cm
     ·exact (rfl : _ = (9, 64, 73))
     ·exact rfl
     ·intro hT16; have hT16' := hT16
      try simp only [bs] at hT16'
      refine zz5 hT16 (zz2 (off := 3) (ft := 23) rfl au rfl ae) ?_
      refine zz5 hT16 (aJ rfl am) ?_
      refine zz5 hT16 (eS rfl aL cG) (zz5 hT16 (zz2 (off := 3) (ft := 23) rfl au rfl ae) ?_)
      refine zz5 hT16 (aJ rfl am) ?_
      refine zz5 hT16 (eS rfl aL cG) (zz5 hT16 (pS rfl rfl (by omega)) ?_)
      refine zz5 hT16 (fV rfl rfl) (zz0 (aQ rfl hT16 rfl) ?_)
      refine aB (ac ?_)
      exact aH (Sub.cons rfl (zz9 9 rfl))
     ·intro hF16
      refine zz8 hF16 (zz8 hF16 (zz8 hF16 (zz8 hF16 (zz8 hF16 (zz8 hF16 (zz8 hF16 (zz8 hF16 (zz0 (aR rfl hF16 rfl) ?_))))))))
      refine aB (ac ?_)
      exact aH (Sub.cons rfl (zz9 9 rfl))
     refine ad ?_
     refine an rfl ?_ ?_ <;> intro h17 <;> try simp only [bs] at h17
     ·refine al (fG 0 16 aS ?_)
      refine bG ?_
      refine aw (zz2 (off := 2) (ft := 23) rfl au rfl ae) ?_
      refine aw (aJ rfl am) ?_
      refine aw (zz2 (off := 2) (ft := 23) rfl au rfl ae) ?_
      refine aw (aJ rfl am) ?_
      refine aw (fY rfl rfl) ?_
      refine aw (zz2 (off := 3) (ft := 23) rfl au rfl ae) ?_
      refine aw (aJ rfl am) ?_
      refine aw (zz2 (off := 3) (ft := 23) rfl au rfl ae) ?_
      refine aw (aJ rfl am) ?_
      refine aw (fY rfl rfl) ?_
      refine aw (zz2 (off := 4) (ft := 23) rfl au rfl ae) ?_
      refine aw (aJ rfl am) ?_
      refine aw (zz2 (off := 4) (ft := 23) rfl au rfl ae) ?_
      refine aw (aJ rfl am) ?_
      refine aw (aA rfl oa (fun w hw => xz _ _ w)) ?_
      refine aw (aA rfl eB (fun w hw => dL _ _ _ w)) ?_
      refine bH ?_
      refine aF bU rfl rfl ak ?_
      refine ad (az (bh (ay ?_)))
      refine eT eG rfl aK ak (fun w' hw => ?_)
      try rw [hi]
      refine ⟨?_, hw.b0⟩
      (first | unfold jw | unfold iv | unfold ga iw)
      repeat' (first | rfl | (exfalso; first | (simp_all; done) | grind) | split)
     ·refine cd (aX (ac ?_))
      refine cw () Front.nil (bB 13 rfl) (o := (by show _ = _; rw [hi]; unfold iv; repeat' (first | rfl | (exfalso; first | (simp_all; done) | grind) | split)))
    ·refine af (zz0 (bD rfl rfl) (zz0 (ab rfl) (ad ?_)))
     refine an rfl ?_ ?_ <;> intro h18 <;> try simp only [bs] at h18
     ·refine af (zz0 (zz2 (off := 1) (ft := 4) rfl au rfl bW) ?_)
      refine zz0 (aJ rfl cB) ?_
      refine zz0 (cN rfl) (zz0 (aa rfl) ?_)
      apply cm
      ·exact (rfl : _ = (4, 95, 99))
      ·exact rfl
      ·intro hT19; have hT19' := hT19
       try simp only [bs] at hT19'
       refine zz5 hT19 (zz2 (off := 1) (ft := 4) rfl au rfl bW) ?_
       refine zz5 hT19 (aJ rfl cB) ?_
       refine zz5 hT19 (cN rfl) (zz0 (aQ rfl hT19 rfl) ?_)
       refine aB (ac ?_)
       exact aH (Sub.cons rfl (zz9 4 rfl))
      ·intro hF19
       refine zz8 hF19 (zz8 hF19 (zz8 hF19 (zz0 (aR rfl hF19 rfl) ?_)))
       refine aB (ac ?_)
       exact aH (Sub.cons rfl (zz9 4 rfl))
      refine zz0 (aa rfl) ?_
      apply cm
      ·exact (rfl : _ = (6, 100, 106))
      ·exact rfl
      ·intro hT20; have hT20' := hT20
       try simp only [bs] at hT20'
       refine zz5 hT20 (zz2 (off := 2) (ft := 23) rfl au rfl ae) ?_
       refine zz5 hT20 (aJ rfl am) ?_
       refine zz5 hT20 (zz2 (off := 3) (ft := 23) rfl au rfl ae) ?_
       refine zz5 hT20 (aJ rfl am) ?_
       refine zz5 hT20 (nA rfl rfl) ?_
       refine zz0 (aQ rfl hT20 rfl) ?_
       refine aB (ac ?_)
       exact aH (Sub.cons rfl (zz9 6 rfl))
      ·intro hF20
       refine zz8 hF20 (zz8 hF20 (zz8 hF20 (zz8 hF20 (zz8 hF20 (zz0 (aR rfl hF20 rfl) ?_)))))
       refine aB (ac ?_)
       exact aH (Sub.cons rfl (zz9 6 rfl))
      refine ad ?_
      refine an rfl ?_ ?_ <;> intro h21 <;> try simp only [bs] at h21
      ·refine al (fG 0 16 aS ?_)
       refine bG ?_
       refine aw (zz2 (off := 2) (ft := 23) rfl au rfl ae) ?_
       refine aw (aJ rfl am) ?_
       refine aw (zz2 (off := 3) (ft := 23) rfl au rfl ae) ?_
       refine aw (aJ rfl am) ?_
       refine aw (fD rfl rfl) ?_
       refine aw (zz2 (off := 3) (ft := 23) rfl au rfl ae) ?_
       refine aw (aJ rfl am) ?_
       refine aw (zz2 (off := 2) (ft := 23) rfl au rfl ae) ?_
       refine aw (aJ rfl am) ?_
       refine aw (fD rfl rfl) ?_
       refine aw (zz2 (off := 4) (ft := 23) rfl au rfl ae) ?_
       refine aw (aJ rfl am) ?_
       refine aw (zz2 (off := 4) (ft := 23) rfl au rfl ae) ?_
       refine aw (aJ rfl am) ?_
       refine aw (aA rfl oa (fun w hw => xz _ _ w)) ?_
       refine aw (aA rfl eB (fun w hw => dL _ _ _ w)) ?_
       refine bH ?_
       refine aF bU rfl rfl ak ?_
       refine ad (az (bh (ay ?_)))
       refine eT eG rfl aK ak (fun w' hw => ?_)
       try rw [hi]
       refine ⟨?_, hw.b0⟩
       (first | unfold jw | unfold iv | unfold ga iw)
       repeat' (first | rfl | (exfalso; first | (simp_all; done) | grind) | split)
      ·refine cd (aX (ac ?_))
       refine cw () Front.nil (bB 15 rfl) (o := (by show _ = _; rw [hi]; unfold iv; repeat' (first | rfl | (exfalso; first | (simp_all; done) | grind) | split)))
     ·refine cd (aX (ac ?_))
      refine cw () Front.nil (bB 8 rfl) (o := (by show _ = _; rw [hi]; unfold iv; repeat' (first | rfl | (exfalso; first | (simp_all; done) | grind) | split)))
  ·skip
   replace hi : ga op a b = jw op (ba a) (ba b) := hi
   change Tr _ _ [cellE b3 (bU.enc zeroS) 25, cellE b2 (bU.enc (ba b)) 25, cellE b1 (bU.enc (ba a)) 25] ([] ++ _) _
   refine al (af (zz0 (bI rfl aK ak) ?_))
   refine zz0 (aA rfl Tryz.call324 (fun w hw => rN _ w)) ?_
   refine zz0 (cN rfl) (ad ?_)
   refine an rfl ?_ ?_ <;> intro h22 <;> try simp only [bs] at h22
   ·refine af (zz0 (aA rfl f5 (fun w hw => jY w)) ?_)
    refine aF bU rfl rfl ak ?_
    refine ad (az (ay ?_))
    refine eT eG rfl aK ak (fun w' hw => ?_)
    try rw [hi]
    refine ⟨?_, hw.b0⟩
    (first | unfold jw | unfold iv | unfold ga iw)
    repeat' (first | rfl | (exfalso; first | (simp_all; done) | grind) | split)
   ·refine bA (al (af (zz0 (aa rfl) (ad (aD (af (zz0 (bD rfl rfl) (zz0 (ab rfl) (aB ?_)))))))))
    refine ac ?_
    refine an rfl ?_ ?_ <;> intro h23 <;> try simp only [bs] at h23
    ·refine af (zz0 (bI rfl aK ak) ?_)
     refine zz0 (zz2 (off := 2) (ft := 23) rfl au rfl ae) ?_
     refine zz0 (aJ rfl am) ?_
     refine zz0 (aA rfl Tryz.call325 (fun w hw => vL _ _ w)) ?_
     refine aF bU rfl rfl ak ?_
     refine ad (az (bh (ay ?_)))
     refine eT eG rfl aK ak (fun w' hw => ?_)
     try rw [hi]
     refine ⟨?_, hw.b0⟩
     (first | unfold jw | unfold iv | unfold ga iw)
     repeat' (first | rfl | (exfalso; first | (simp_all; done) | grind) | split)
    ·refine af (zz0 (bD rfl rfl) (zz0 (ab rfl) (ad ?_)))
     refine an rfl ?_ ?_ <;> intro h24 <;> try simp only [bs] at h24
     ·refine al (fG 0 5 aS ?_)
      refine bG ?_
      refine aw (bI rfl aK ak) ?_
      refine aw (zz2 (off := 2) (ft := 23) rfl au rfl ae) ?_
      refine aw (aJ rfl am) ?_
      refine aw (aA rfl Tryz.call306 (fun w hw => yA 1 _ w)) ?_
      refine aw (aA rfl Tryz.call325 (fun w hw => vL _ _ w)) ?_
      refine bH ?_
      refine aF bU rfl rfl ak ?_
      refine ad (az (bh (ay ?_)))
      refine eT eG rfl aK ak (fun w' hw => ?_)
      try rw [hi]
      refine ⟨?_, hw.b0⟩
      (first | unfold jw | unfold iv | unfold ga iw)
      repeat' (first | rfl | (exfalso; first | (simp_all; done) | grind) | split)
     ·refine af (zz0 (bD rfl rfl) (zz0 (ab rfl) (ad ?_)))
      refine an rfl ?_ ?_ <;> intro h25 <;> try simp only [bs] at h25
      ·refine af (zz0 (bI rfl aK ak) ?_)
       refine zz0 (zz2 (off := 2) (ft := 23) rfl au rfl ae) ?_
       refine zz0 (aJ rfl am) ?_
       refine zz0 (aA rfl Tryz.call326 (fun w hw => CG _ _ w)) ?_
       refine aF bU rfl rfl ak ?_
       refine ad (az (bh (ay ?_)))
       refine eT eG rfl aK ak (fun w' hw => ?_)
       try rw [hi]
       refine ⟨?_, hw.b0⟩
       (first | unfold jw | unfold iv | unfold ga iw)
       repeat' (first | rfl | (exfalso; first | (simp_all; done) | grind) | split)
      ·refine af (zz0 (bD rfl rfl) (zz0 (ab rfl) (ad ?_)))
       refine an rfl ?_ ?_ <;> intro h26 <;> try simp only [bs] at h26
       ·refine af (zz0 (zz2 (off := 1) (ft := 4) rfl au rfl bW) ?_)
        refine zz0 (aJ rfl cB) ?_
        refine zz0 (cN rfl) (ad ?_)
        refine an rfl ?_ ?_ <;> intro h27 <;> try simp only [bs] at h27
        ·refine al (fG 0 11 aS ?_)
         refine bG ?_
         refine aw (zz2 (off := 2) (ft := 23) rfl au rfl ae) ?_
         refine aw (aJ rfl am) ?_
         refine aw (zz2 (off := 2) (ft := 23) rfl au rfl ae) ?_
         refine aw (aJ rfl am) ?_
         refine aw (aA rfl Tryz.call307 (fun w hw => tX _ _ w)) ?_
         refine aw (zz2 (off := 3) (ft := 23) rfl au rfl ae) ?_
         refine aw (aJ rfl am) ?_
         refine aw (zz2 (off := 2) (ft := 23) rfl au rfl ae) ?_
         refine aw (aJ rfl am) ?_
         refine aw (aA rfl Tryz.call307 (fun w hw => tX _ _ w)) ?_
         refine aw (aA rfl eB (fun w hw => dL (qM (ba a).lo (oD (ba b).lo)) (qM (ba a).hi (oD (ba b).lo)) 1 w)) ?_
         refine bH ?_
         refine aF bU rfl rfl ak ?_
         refine ad (az (bh (ay ?_)))
         refine eT eG rfl aK ak (fun w' hw => ?_)
         try rw [hi]
         refine ⟨?_, hw.b0⟩
         (first | unfold jw | unfold iv | unfold ga iw)
         repeat' (first | rfl | (exfalso; first | (simp_all; done) | grind) | split)
        ·refine cd (aX (ac (af (zz0 (aA rfl f5 (fun w hw => jY w)) ?_))))
         refine aF bU rfl rfl ak ?_
         refine ad (az ?_)
         refine eT eG rfl aK ak (fun w' hw => ?_)
         try rw [hi]
         refine ⟨?_, hw.b0⟩
         (first | unfold jw | unfold iv | unfold ga iw)
         repeat' (first | rfl | (exfalso; first | (simp_all; done) | grind) | split)
       ·refine cd (aX (ac (af (zz0 (aA rfl f5 (fun w hw => jY w)) ?_))))
        refine aF bU rfl rfl ak ?_
        refine ad (az ?_)
        refine eT eG rfl aK ak (fun w' hw => ?_)
        try rw [hi]
        refine ⟨?_, hw.b0⟩
        (first | unfold jw | unfold iv | unfold ga iw)
        repeat' (first | rfl | (exfalso; first | (simp_all; done) | grind) | split)
theorem qY (a b : VSet) (w : World) :
  Calls Tryz.prog 300 #[.agg (bU.enc a).toArray, .agg (bU.enc b).toArray] w (fun e w' => e = .returned (.agg (bU.enc (lS a b)).toArray) ∧ Ext w w') := by
 refine enter Tryz.func300 rfl Tryz.ntmps300 rfl ?_
 refine af ?_
 refine dJ rfl rfl (fun b1 => ?_)
 refine dJ rfl rfl (fun b2 => ?_)
 refine dD cK rfl (fun b3 => ?_)
 refine ad (al (fG 0 4 aS ?_))
 refine bG ?_
 refine aw (bI rfl aK ak) ?_
 refine aw (aA rfl gu (fun w hw => ie a w)) ?_
 refine aw (bI rfl aK ak) ?_
 refine aw (aA rfl gu (fun w hw => ie b w)) ?_
 refine bH ?_
 refine aF bU rfl rfl ak ?_
 refine aF bU rfl rfl ak ?_
 refine ad (al (aD (af (zz0 (zz2 (off := 1) (ft := 4) rfl au rfl bW) ?_))))
 refine zz0 (aJ rfl cB) ?_
 refine zz0 (ab rfl) (ad ?_)
 refine an rfl ?_ ?_ <;> intro h4 <;> try simp only [bs] at h4
 ·refine af (zz0 (bI rfl aK ak) ?_)
  refine aF bU rfl rfl ak ?_
  refine ad (az (bh (ay ?_)))
  refine eT jD rfl aK ak (fun w' hw => ?_)
  try rw [hme]
  refine ⟨?_, hw.b0⟩
  (first | unfold qZ vW | unfold lS oR)
  repeat' (first | rfl | (exfalso; first | (simp_all; done) | grind) | split)
 ·refine af (zz0 (zz2 (off := 1) (ft := 4) rfl au rfl bW) ?_)
  refine zz0 (aJ rfl cB) ?_
  refine zz0 (ab rfl) (ad ?_)
  refine an rfl ?_ ?_ <;> intro h5 <;> try simp only [bs] at h5
  ·refine af (zz0 (bI rfl aK ak) ?_)
   refine aF bU rfl rfl ak ?_
   refine ad (az (bh (ay ?_)))
   refine eT jD rfl aK ak (fun w' hw => ?_)
   try rw [hme]
   refine ⟨?_, hw.b0⟩
   (first | unfold qZ vW | unfold lS oR)
   repeat' (first | rfl | (exfalso; first | (simp_all; done) | grind) | split)
  ·refine cd (aX (ac ?_))
   refine db (ι := Nat × Nat) (fun ⟨p, q⟩ => True) (fun _ => Bg.of w) (fun ⟨p, q⟩ => [cellE q (bU.enc (ba b)) 25, cellE p (bU.enc (ba a)) 25, cellE b3 (bU.enc zeroS) 25, cellE b2 (bU.enc (ba b)) 25, cellE b1 (bU.enc (ba a)) 25]) (fun ⟨p, q⟩ => [(6, .pointer (some ⟨q, 0, none⟩)), (5, .pointer (some ⟨p, 0, none⟩))]) ?_ (fun i hi => ?_)
   ·skip
    refine d6 ([cellE b3 (bU.enc zeroS) 25, cellE b2 (bU.enc (ba b)) 25, cellE b1 (bU.enc (ba a)) 25]) 6 rfl aS ?_
    refine zz4 0 rfl (bI rfl aK ak) ?_
    refine zz4 1 rfl (bI rfl aK ak) ?_
    refine dx [2, 3] (fun iq hq => ?_)
    rcases List.mem_cons.1 hq with rfl | hq
    ·skip
     refine bJ rfl ?_
     refine dD cK rfl (fun b6 => ?_)
     refine cg ?_
     refine dx [3] (fun iq hq => ?_)
     obtain rfl := List.mem_singleton.1 hq
     refine bJ rfl ?_
     refine dD cK rfl (fun b7 => ?_)
     refine cg ?_
     refine dx [4] (fun iq hq => ?_)
     obtain rfl := List.mem_singleton.1 hq
     refine bJ rfl ?_
     refine aF bU rfl rfl ak ?_
     refine cg ?_
     refine dx [5] (fun iq hq => ?_)
     obtain rfl := List.mem_singleton.1 hq
     refine bJ rfl ?_
     refine aF bU rfl rfl ak ?_
     refine cg ?_
     refine iT ?_
     refine ac ?_
     refine cw (_, _) (Front.c (Front.c Front.nil)) (bB 4 rfl) (o := trivial)
    obtain rfl := List.mem_singleton.1 hq
    refine bJ rfl ?_
    refine dD cK rfl (fun b8 => ?_)
    refine cg ?_
    refine dx [2] (fun iq hq => ?_)
    obtain rfl := List.mem_singleton.1 hq
    refine bJ rfl ?_
    refine dD cK rfl (fun b9 => ?_)
    refine cg ?_
    refine dx [4] (fun iq hq => ?_)
    obtain rfl := List.mem_singleton.1 hq
    refine bJ rfl ?_
    refine aF bU rfl rfl ak ?_
    refine cg ?_
    refine dx [5] (fun iq hq => ?_)
    obtain rfl := List.mem_singleton.1 hq
    refine bJ rfl ?_
    refine aF bU rfl rfl ak ?_
    refine cg ?_
    refine iT ?_
    refine ac ?_
    refine cw (_, _) (Front.c (Front.c Front.nil)) (bB 4 rfl) (o := trivial)
   ·obtain ⟨p, q⟩ := i
    replace hi : True := hi
    change Tr _ _ [cellE q (bU.enc (ba b)) 25, cellE p (bU.enc (ba a)) 25, cellE b3 (bU.enc zeroS) 25, cellE b2 (bU.enc (ba b)) 25, cellE b1 (bU.enc (ba a)) 25] ([(6, .pointer (some ⟨q, 0, none⟩)), (5, .pointer (some ⟨p, 0, none⟩))] ++ _) _
    refine db (ι := VSet × VSet) (fun ⟨fe, ot⟩ => (ba a).top = false ∧ lS a b = qZ (ba a) (ba b) fe ot ∧ (64 < fx (ba a) ∨ fe = ba a)) (fun _ => Bg.of w) (fun ⟨fe, ot⟩ => [cellE q (bU.enc ot) 25, cellE p (bU.enc fe) 25, cellE b3 (bU.enc zeroS) 25, cellE b2 (bU.enc (ba b)) 25, cellE b1 (bU.enc (ba a)) 25]) (fun ⟨fe, ot⟩ => []) ?_ (fun i hi => ?_)
    ·skip
     refine af (zz0 (bI rfl aK ak) ?_)
     refine zz0 (aA rfl Tryz.call100 (fun w hw => zo _ w)) ?_
     refine zz0 (eo rfl rfl) (ad ?_)
     refine an rfl ?_ ?_ <;> intro h10 <;> try simp only [bs] at h10
     ·refine d6 ([cellE b3 (bU.enc zeroS) 25, cellE b2 (bU.enc (ba b)) 25, cellE b1 (bU.enc (ba a)) 25]) 4 rfl aS ?_
      refine zz4 0 rfl (bI rfl aK ak) ?_
      refine zz4 1 rfl (bI rfl aK ak) ?_
      refine dx [2] (fun iq hq => ?_)
      obtain rfl := List.mem_singleton.1 hq
      refine bJ rfl ?_
      refine aF bU rfl rfl ak ?_
      refine cg ?_
      refine dx [3] (fun iq hq => ?_)
      obtain rfl := List.mem_singleton.1 hq
      refine bJ rfl ?_
      refine aF bU rfl rfl ak ?_
      refine cg ?_
      refine iT ?_
      refine ac ?_
      refine cw (ba b, ba a) Front.nil (bB 5 rfl) (o := ⟨by simp_all, by unfold lS oR; (repeat' (first | rfl | (exfalso; first | (simp_all; done) | grind) | split)), .inl (by assumption)⟩)
     ·refine bA ?_
      refine cw (ba a, ba b) Front.nil (bB 3 rfl) (o := ⟨by simp_all, by unfold lS oR; (repeat' (first | rfl | (exfalso; first | (simp_all; done) | grind) | split)), .inr rfl⟩)
    ·obtain ⟨fe, ot⟩ := i
     replace hi : (ba a).top = false ∧ lS a b = qZ (ba a) (ba b) fe ot ∧ (64 < fx (ba a) ∨ fe = ba a) := hi
     change Tr _ _ [cellE q (bU.enc ot) 25, cellE p (bU.enc fe) 25, cellE b3 (bU.enc zeroS) 25, cellE b2 (bU.enc (ba b)) 25, cellE b1 (bU.enc (ba a)) 25] ([] ++ _) _
     obtain ⟨hat, hme, hfe⟩ := hi
     refine al (af (zz0 (bI rfl aK ak) ?_))
     refine gX (fun V => .tuple #[V, .int .i64 (fc fe).2]) rfl Tryz.call41 (fun w hw => sO fe w) rfl (fun VE => ?_)
     refine zz0 (aa rfl) (zz0 (aO rfl rfl) (zz0 (aO rfl rfl) (zz0 (ab rfl) (zz0 (ab rfl) (ad (al ?_))))))
     have hel : (fc fe).2 = 0 → (fc fe).1.length ≤ 64 := wn
     refine ao (zz0 (aa rfl) (zz0 (bD rfl rfl) (ad ?_)))
     refine an rfl ?_ ?_ <;> intro h11 <;> try simp only [bs] at h11
     ·refine af (zz0 (aA rfl jm (fun w hw => j1 w)) ?_)
      refine dD cK rfl (fun b12 => ?_)
      refine aF bU rfl rfl ak ?_
      refine ad (al (al ?_))
      have hel2 := hel (by assumption)
      refine ao (zz0 (aa rfl) (zz0 (lI rfl ah) ?_))
      refine zz0 (aa rfl) (ad (aD ?_))
      refine bK (ι := Nat) (fun k => k ≤ (fc fe).1.length) (fun _ => _) (fun k => [cellE b12 (bU.enc (mj ot ((fc fe).1.take k) emptyS)) 25, rowE VE 23 ar (fc fe).1, cellE q (bU.enc ot) 25, cellE p (bU.enc fe) 25, cellE b3 (bU.enc zeroS) 25, cellE b2 (bU.enc (ba b)) 25, cellE b1 (bU.enc (ba a)) 25]) (fun k => [(44, .int .i64 (k : Nat))]) (fun k => (fc fe).1.length - k) 0 (Nat.zero_le _) (Front.c Front.nil) (by repeat' constructor) rfl (fun k hi m hm => ?_)
      replace hi : k ≤ (fc fe).1.length := hi
      replace hm : m = (fc fe).1.length - k := hm
      change Tr _ _ [cellE b12 (bU.enc (mj ot ((fc fe).1.take k) emptyS)) 25, rowE VE 23 ar (fc fe).1, cellE q (bU.enc ot) 25, cellE p (bU.enc fe) 25, cellE b3 (bU.enc zeroS) 25, cellE b2 (bU.enc (ba b)) 25, cellE b1 (bU.enc (ba a)) 25] ([(44, .int .i64 (k : Nat))] ++ _) _
      refine af (zz0 (bP rfl rfl) (ad (al ?_)))
      refine an rfl ?_ ?_ <;> intro h13 <;> try simp only [bs] at h13
      ·refine bA (al (aD (af (zz0 (zz7 rfl rfl ah ae) ?_))))
       refine zz0 (dY rfl am) ?_
       refine zz0 (ab rfl) (aI (zz0 (bI rfl aK ak) ?_))
       refine zz0 (aa rfl) (zz0 (aA rfl pO (fun w hw => my ot _ w)) ?_)
       refine ad ?_
       refine an rfl ?_ ?_ <;> intro h14 <;> try simp only [bs] at h14
       ·refine fG 0 4 aS ?_
        refine bG ?_
        refine aw (bI rfl aK ak) ?_
        refine aw (aa rfl) (aw (aA rfl iL (fun w hw => jz _ w)) ?_)
        refine aw (aA rfl Tryz.call166 (fun w hw => xp _ _ w)) ?_
        refine bH ?_
        refine aF bU rfl rfl ak ?_
        refine aB (aX (ac (ao (zz0 (cp rfl rfl) ?_))))
        refine zz0 (aa rfl) (ad ?_)
        rw [Ef (by omega) (by assumption)]
        refine cC (k + 1) (Front.c Front.nil) (bB 14 rfl) (o := (by show k + 1 ≤ _; omega))
       ·refine cd (aX (ac (ao (zz0 (cp rfl rfl) ?_))))
        refine zz0 (aa rfl) (ad ?_)
        rw [FW (o := ot) (k := k) (by omega) (by assumption)]
        refine cC (k + 1) (Front.c Front.nil) (bB 10 rfl) (o := (by show k + 1 ≤ _; omega))
      ·refine bF (aG (aG (bj (ac (al ?_)))))
       obtain rfl : k = (fc fe).1.length := by omega
       rw [List.take_length]
       refine ao (zz0 (bI rfl aK ak) ?_)
       refine aF bU rfl rfl ak ?_
       refine ad (az (ay ?_))
       refine eT jD rfl aK ak (fun w' hw => ?_)
       try rw [hme]
       refine ⟨?_, hw.b0⟩
       (first | unfold qZ vW | unfold lS oR)
       repeat' (first | rfl | (exfalso; first | (simp_all; done) | grind) | split)
     ·refine bA (al ?_)
      have hst0 : (ba a).st ≠ 0 := Hn (jU a) (hfe.elim id (fun e => e ▸ EK (by assumption))) hat
      have hfb := Gd (ba a) (lq (ba a).lo (ba b).lo) hst0
      have hz1 := uk hst0
      have hz2 := (ba a).st.toNat_lt
      have hz3 := (lq (ba a).lo (ba b).lo - (ba a).lo).toNat_lt
      have hz4 := (ba a).lo.toNat_lt
      refine gQ aS ?_
      refine aw (zz2 (off := 2) (ft := 23) rfl au rfl ae) ?_
      refine aw (aJ rfl am) ?_
      refine aw (zz2 (off := 2) (ft := 23) rfl au rfl ae) ?_
      refine aw (aJ rfl am) ?_
      refine aw (pm rfl rfl) ?_
      refine aw (zz2 (off := 3) (ft := 23) rfl au rfl ae) ?_
      refine aw (aJ rfl am) ?_
      refine aw (zz2 (off := 3) (ft := 23) rfl au rfl ae) ?_
      refine aw (aJ rfl am) ?_
      refine aw (pj rfl rfl) ?_
      refine aw (ab rfl) (aw (ab rfl) (bH ?_))
      refine ac (al ?_)
      simp only [oQ, oS]
      refine gQ aS ?_
      refine aw (zz2 (off := 2) (ft := 23) rfl au rfl ae) ?_
      refine aw (aJ rfl am) ?_
      refine aw (eS rfl aL cG) (aw (aa rfl) (aw (zz2 (off := 2) (ft := 23) rfl au rfl ae) ?_))
      refine aw (aJ rfl am) ?_
      refine aw (fD rfl rfl) ?_
      refine aw (eS rfl aL cG) (aw (zz2 (off := 4) (ft := 23) rfl au rfl ae) ?_)
      refine aw (aJ rfl am) ?_
      refine aw (eS rfl aL cG) (aw (pS rfl rfl (by omega)) ?_)
      refine aw (BX rfl rfl (by omega)) ?_
      refine aw (zz2 (off := 4) (ft := 23) rfl au rfl ae) ?_
      refine aw (aJ rfl am) ?_
      refine aw (eS rfl aL cG) (aw (GG rfl rfl (by omega)) ?_)
      refine aw (zz2 (off := 4) (ft := 23) rfl au rfl ae) ?_
      refine aw (aJ rfl am) ?_
      refine aw (eS rfl aL cG) (aw (B0 rfl rfl (by omega)) ?_)
      refine aw (pS rfl rfl (by omega)) ?_
      refine aw (ab rfl) (bH ?_)
      refine ac (al (al ?_))
      have hfe1 : (ba a).lo.toNat + (((lq (ba a).lo (ba b).lo - (ba a).lo).toNat : Int) + (ba a).st.toNat - 1) / ((ba a).st.toNat : Int) * (ba a).st.toNat = sd (ba a) (lq (ba a).lo (ba b).lo) := rfl
      rw [hfe1]
      refine ao (zz0 (aa rfl) (zz0 (aa rfl) (zz0 (eS rfl aL cG) (zz0 (eo rfl rfl) (ad ?_)))))
      refine an rfl ?_ ?_ <;> intro h15 <;> try simp only [bs] at h15
      ·refine af (zz0 (aA rfl jm (fun w hw => j1 w)) ?_)
       refine aF bU rfl rfl ak ?_
       refine ad (az (ay ?_))
       refine eT jD rfl aK ak (fun w' hw => ?_)
       try rw [hme]
       refine ⟨?_, hw.b0⟩
       (first | unfold qZ vW | unfold lS oR)
       repeat' (first | rfl | (exfalso; first | (simp_all; done) | grind) | split)
      ·refine dh (zz0 (aa rfl) (zz0 (g8 rfl cG aL) (zz0 (aa rfl) (zz0 (zz2 (off := 4) (ft := 23) rfl au rfl ae) ?_))))
       refine zz0 (aJ rfl am) ?_
       refine zz0 (aA rfl eB (fun w hw => dL _ _ _ w)) ?_
       refine aF bU rfl rfl ak ?_
       refine ad (az ?_)
       refine eT jD rfl aK ak (fun w' hw => ?_)
       try rw [hme]
       refine ⟨?_, hw.b0⟩
       (first | unfold qZ vW | unfold lS oR)
       repeat' (first | rfl | (exfalso; first | (simp_all; done) | grind) | split)
theorem Dm (a b : VSet) (w : World) :
  Calls Tryz.prog 227 #[.agg (bU.enc a).toArray, .agg (bU.enc b).toArray] w (fun e w' => e = .returned (.agg (bU.enc (lL a b)).toArray) ∧ Ext w w') := by
 refine enter Tryz.func227 rfl Tryz.ntmps227 rfl ?_
 refine af ?_
 refine dJ rfl rfl (fun b1 => ?_)
 refine dJ rfl rfl (fun b2 => ?_)
 refine dD cK rfl (fun b3 => ?_)
 refine ad (al (fG 0 4 aS ?_))
 refine bG ?_
 refine aw (bI rfl aK ak) ?_
 refine aw (aA rfl gu (fun w hw => ie a w)) ?_
 refine aw (bI rfl aK ak) ?_
 refine aw (aA rfl gu (fun w hw => ie b w)) ?_
 refine bH ?_
 refine aF bU rfl rfl ak ?_
 refine aF bU rfl rfl ak ?_
 refine ad (al (aD (af (zz0 (bI rfl aK ak) ?_))))
 refine zz0 (bI rfl aK ak) ?_
 refine zz0 (aA rfl Tryz.call271 (fun w hw => B8 _ _ w)) ?_
 refine zz0 (ab rfl) (ad ?_)
 refine an rfl ?_ ?_ <;> intro h4 <;> try simp only [bs] at h4
 ·refine af (zz0 (bI rfl aK ak) ?_)
  refine aF bU rfl rfl ak ?_
  refine ad (az (bh (ay ?_)))
  refine eT gl rfl aK ak (fun w' hw => ?_)
  refine ⟨?_, hw.b0⟩
  unfold lL lm nH
  repeat' (first | rfl | (exfalso; first | (simp_all; done) | grind) | split)
 ·refine af (zz0 (zz2 (off := 0) (ft := 4) rfl au rfl bW) ?_)
  refine zz0 (aJ rfl cB) ?_
  refine zz0 (ab rfl) (ad ?_)
  refine an rfl ?_ ?_ <;> intro h5 <;> try simp only [bs] at h5
  ·refine af (zz0 (bI rfl aK ak) ?_)
   refine aF bU rfl rfl ak ?_
   refine ad (az (bh (ay ?_)))
   refine eT gl rfl aK ak (fun w' hw => ?_)
   refine ⟨?_, hw.b0⟩
   unfold lL lm nH
   repeat' (first | rfl | (exfalso; first | (simp_all; done) | grind) | split)
  ·refine af (zz0 (zz2 (off := 1) (ft := 4) rfl au rfl bW) ?_)
   refine zz0 (aJ rfl cB) ?_
   refine zz0 (aa rfl) ?_
   apply dB
   ·exact (rfl : _ = (3, 24, 27))
   ·exact rfl
   ·intro hF6; have hF6' := hF6
    try simp only [bs] at hF6'
    refine zz5 hF6 (zz2 (off := 1) (ft := 4) rfl au rfl bW) ?_
    refine zz5 hF6 (aJ rfl cB) ?_
    refine zz0 (aR rfl hF6 rfl) ?_
    refine aB (ac ?_)
    exact aH (Sub.cons rfl (zz9 3 rfl))
   ·intro hT6
    refine zz8 hT6 (zz8 hT6 (zz0 (aQ rfl hT6 rfl) ?_))
    refine aB (ac ?_)
    exact aH (Sub.cons rfl (zz9 3 rfl))
   refine zz0 (ab rfl) (ad ?_)
   refine an rfl ?_ ?_ <;> intro h7 <;> try simp only [bs] at h7
   ·refine af (zz0 (aA rfl f5 (fun w hw => jY w)) ?_)
    refine aF bU rfl rfl ak ?_
    refine ad (az (bh (ay ?_)))
    refine eT gl rfl aK ak (fun w' hw => ?_)
    refine ⟨?_, hw.b0⟩
    unfold lL lm nH
    repeat' (first | rfl | (exfalso; first | (simp_all; done) | grind) | split)
   ·refine cd (aX (ac (af (zz0 (bI rfl aK ak) ?_))))
    refine zz0 (bI rfl aK ak) ?_
    refine zz0 (aA rfl Tryz.call166 (fun w hw => xp _ _ w)) ?_
    refine dD cK rfl (fun b8 => ?_)
    refine aF bU rfl rfl ak ?_
    refine ad (al (af (zz0 (zz2 (off := 1) (ft := 4) rfl au rfl bW) ?_)))
    refine zz0 (aJ rfl cB) ?_
    refine ad ?_
    refine an rfl ?_ ?_ <;> intro h9 <;> try simp only [bs] at h9
    ·refine af (zz0 (bI rfl aK ak) ?_)
     refine aF bU rfl rfl ak ?_
     refine ad (az (ay ?_))
     refine eT gl rfl aK ak (fun w' hw => ?_)
     refine ⟨?_, hw.b0⟩
     unfold lL lm nH
     repeat' (first | rfl | (exfalso; first | (simp_all; done) | grind) | split)
    ·refine bA (al (gQ aS ?_))
     refine aw (zz2 (off := 2) (ft := 23) rfl au rfl ae) ?_
     refine aw (aJ rfl am) ?_
     refine aw (zz2 (off := 3) (ft := 23) rfl au rfl ae) ?_
     refine aw (aJ rfl am) ?_
     refine aw (ab rfl) (aw (ab rfl) (bH ?_))
     refine ac (al (af (zz0 (aa rfl) (zz0 (zz2 (off := 2) (ft := 23) rfl au rfl ae) ?_))))
     refine zz0 (aJ rfl am) ?_
     refine zz0 (iH rfl rfl) ?_
     refine ad ?_
     refine an rfl ?_ ?_ <;> intro h10 <;> try simp only [bs] at h10
     ·have hst0 := Dn (by assumption) (by assumption) (by simp_all) (by simp_all) (by assumption) (by assumption)
      refine ao (zz0 (aa rfl) (zz0 (zz2 (off := 4) (ft := 23) rfl au rfl ae) ?_))
      refine zz0 (aJ rfl am) ?_
      refine zz0 (nv rfl rfl (by first | decide | assumption)) ?_
      refine zz0 (ab rfl) (ad (al (af (zz0 (aa rfl) (zz0 (zz2 (off := 3) (ft := 23) rfl au rfl ae) ?_)))))
      refine zz0 (aJ rfl am) ?_
      refine zz0 (kP rfl rfl) ?_
      refine ad ?_
      refine an rfl ?_ ?_ <;> intro h11 <;> try simp only [bs] at h11
      ·refine ao (zz0 (ab rfl) (aI (zz0 (aa rfl) (zz0 (aa rfl) (zz0 (zz2 (off := 4) (ft := 23) rfl au rfl ae) ?_)))))
       refine zz0 (aJ rfl am) ?_
       refine zz0 (aA rfl eB (fun w hw => dL ((gU (ba a) (ba b)).lo % (gU (ba a) (ba b)).st) 4294967295 (gU (ba a) (ba b)).st w)) ?_
       refine aF bU rfl rfl ak ?_
       refine ad (az ?_)
       refine eT gl rfl aK ak (fun w' hw => ?_)
       refine ⟨?_, hw.b0⟩
       unfold lL lm nH
       repeat' (first | rfl | (exfalso; first | (simp_all; done) | grind) | split)
      ·refine dh (zz0 (aa rfl) (zz0 (aa rfl) (zz0 (zz2 (off := 4) (ft := 23) rfl au rfl ae) ?_)))
       refine zz0 (aJ rfl am) ?_
       refine zz0 (aA rfl eB (fun w hw => dL ((gU (ba a) (ba b)).lo % (gU (ba a) (ba b)).st) (gU (ba a) (ba b)).hi (gU (ba a) (ba b)).st w)) ?_
       refine aF bU rfl rfl ak ?_
       refine ad (az ?_)
       refine eT gl rfl aK ak (fun w' hw => ?_)
       refine ⟨?_, hw.b0⟩
       unfold lL lm nH
       repeat' (first | rfl | (exfalso; first | (simp_all; done) | grind) | split)
     ·refine bA (al (af (zz0 (aa rfl) (zz0 (zz2 (off := 3) (ft := 23) rfl au rfl ae) ?_))))
      refine zz0 (aJ rfl am) ?_
      refine zz0 (kP rfl rfl) ?_
      refine ad ?_
      refine an rfl ?_ ?_ <;> intro h12 <;> try simp only [bs] at h12
      ·refine ao (zz0 (ab rfl) (aI (zz0 (aa rfl) (zz0 (aa rfl) (zz0 (zz2 (off := 4) (ft := 23) rfl au rfl ae) ?_)))))
       refine zz0 (aJ rfl am) ?_
       refine zz0 (aA rfl eB (fun w hw => dL (gU (ba a) (ba b)).lo 4294967295 (gU (ba a) (ba b)).st w)) ?_
       refine aF bU rfl rfl ak ?_
       refine ad (az ?_)
       refine eT gl rfl aK ak (fun w' hw => ?_)
       refine ⟨?_, hw.b0⟩
       unfold lL lm nH
       repeat' (first | rfl | (exfalso; first | (simp_all; done) | grind) | split)
      ·refine dh (zz0 (aa rfl) (zz0 (aa rfl) (zz0 (zz2 (off := 4) (ft := 23) rfl au rfl ae) ?_)))
       refine zz0 (aJ rfl am) ?_
       refine zz0 (aA rfl eB (fun w hw => dL (gU (ba a) (ba b)).lo (gU (ba a) (ba b)).hi (gU (ba a) (ba b)).st w)) ?_
       refine aF bU rfl rfl ak ?_
       refine ad (az ?_)
       refine eT gl rfl aK ak (fun w' hw => ?_)
       refine ⟨?_, hw.b0⟩
       unfold lL lm nH
       repeat' (first | rfl | (exfalso; first | (simp_all; done) | grind) | split)
end Go.Proofs.YtiajjbhcpeadfaaGreat
namespace Go.HL
open Go
structure StV where
 r0 : VSet
 r1 : VSet
 r2 : VSet
 r3 : VSet
 r4 : VSet
 r5 : VSet
 r6 : VSet
 r7 : VSet
 deriving DecidableEq, Inhabited
def StV.l (s : StV) : List VSet := [s.r0, s.r1, s.r2, s.r3, s.r4, s.r5, s.r6, s.r7]
def gy : StV := ⟨zeroS, zeroS, zeroS, zeroS, zeroS, zeroS, zeroS, zeroS⟩
def cH : Enc StV := ⟨40, fun s => s.l.flatMap bU.enc, fun s => rfl, fun s v h => by
 obtain ⟨x, _, hx⟩ := List.mem_flatMap.1 h
 exact bU.one x v hx⟩
def StV.getN (s : StV) : Nat → VSet
 | 0 => s.r0
 | 1 => s.r1
 | 2 => s.r2
 | 3 => s.r3
 | 4 => s.r4
 | 5 => s.r5
 | 6 => s.r6
 | 7 => s.r7
 | _ => zeroS
def StV.setN (s : StV) (v : VSet) : Nat → StV
 | 0 => { s with r0 := v }
 | 1 => { s with r1 := v }
 | 2 => { s with r2 := v }
 | 3 => { s with r3 := v }
 | 4 => { s with r4 := v }
 | 5 => { s with r5 := v }
 | 6 => { s with r6 := v }
 | 7 => { s with r7 := v }
 | _ => s
def StV.get (s : StV) (k : Int) : VSet := s.getN k.toNat
def StV.set (s : StV) (k : Int) (v : VSet) : StV := s.setN v k.toNat
theorem eight {X : Nat → Prop} (h0 : X 0) (h1 : X 1) (h2 : X 2) (h3 : X 3) (h4 : X 4) (h5 : X 5) (h6 : X 6) (h7 : X 7) : ∀ {n : Nat}, n < 8 → X n
 | 0, _ => h0
 | 1, _ => h1
 | 2, _ => h2
 | 3, _ => h3
 | 4, _ => h4
 | 5, _ => h5
 | 6, _ => h6
 | 7, _ => h7
 | n + 8, h => absurd h (by omega)
theorem kV {s : StV} {k : Int} (hk : 0 ≤ k ∧ k < 8) {o : Nat} (ho : o = k.toNat * 5) : ((cH.enc s).drop o).take 5 = bU.enc (s.get k) := by
 subst ho
 exact eight (X := fun n => ((cH.enc s).drop (n * 5)).take 5 = bU.enc (s.getN n)) rfl rfl rfl rfl rfl rfl rfl rfl (show k.toNat < 8 by omega)
theorem kU {s : StV} {k : Int} (hk : 0 ≤ k ∧ k < 8) {o : Nat} (ho : o = k.toNat * 5) (v : VSet) : splice (cH.enc s) o (bU.enc v) = cH.enc (s.set k v) := by
 subst ho
 exact eight (X := fun n => splice (cH.enc s) (n * 5) (bU.enc v) = cH.enc (s.setN v n)) rfl rfl rfl rfl rfl rfl rfl rfl (show k.toNat < 8 by omega)
theorem kW {s : StV} {k : Int} (hk : 0 ≤ k ∧ k < 8) {o : Nat} (ho : o = k.toNat * 5) : o + 5 ≤ (cH.enc s).length := by
 rw [cH.len]; show o + 5 ≤ 40; omega
theorem Es (s : StV) (v : VSet) {k : Nat} (hk : k < 8) {j : Nat} (hj : j < 8) : (s.setN v k).getN j = if j = k then v else s.getN j := by
 revert hk
 refine eight (X := fun j => k < 8 → (s.setN v k).getN j = if j = k then v else s.getN j) ?_ ?_ ?_ ?_ ?_ ?_ ?_ ?_ hj
 all_goals intro hk
 all_goals exact eight (X := fun k => (s.setN v k).getN _ = if _ = k then v else s.getN _) rfl rfl rfl rfl rfl rfl rfl rfl hk
theorem BG {s : StV} {k : Int} (hk : 0 ≤ k ∧ k < 8) (v : VSet) (j : Int) (hj : 0 ≤ j ∧ j < 8) : (s.set k v).get j = if j = k then v else s.get j := by
 have h := Es s v (k := k.toNat) (by omega) (j := j.toNat) (by omega)
 by_cases e : j = k
 ·rw [if_pos e]; rw [if_pos (by omega)] at h; exact h
 ·rw [if_neg e]; rw [if_neg (by omega)] at h; exact h
def wj (v : VSet) (k : Nat) : StV :=
 ⟨if 0 < k then v else zeroS, if 1 < k then v else zeroS, if 2 < k then v else zeroS, if 3 < k then v else zeroS, if 4 < k then v else zeroS, if 5 < k then v else zeroS, if 6 < k then v else zeroS, if 7 < k then v else zeroS⟩
theorem wh {v : VSet} {k : Nat} (hk : k < 8) : (wj v k).set (k : Int) v = wj v (k + 1) :=
 eight (X := fun k => (wj v k).set (k : Int) v = wj v (k + 1)) rfl rfl rfl rfl rfl rfl rfl rfl hk
def wP (k : Nat) : StV := wj oz k
def ym : StV := wP 8
def iQ (k : Nat) : StV := wj emptyS k
theorem Dq {k : Nat} (hk : k < 8) : (wP k).set (k : Int) oz = wP (k + 1) := wh hk
theorem EJ {k : Nat} (hk : k < 8) : (iQ k).set (k : Int) emptyS = iQ (k + 1) := wh hk
def iS (a b : StV) : Nat → StV
 | 0 => a
 | k + 1 => (iS a b k).set (k : Int) (gU (a.get k) (b.get k))
def va (a b : StV) : Nat → StV
 | 0 => b
 | k + 1 => (va a b k).set (k : Int) (lL (a.get k) (b.get k))
theorem wc (a b : StV) : ∀ k : Nat, k ≤ 8 → ∀ j : Nat, k ≤ j → j < 8 → (iS a b k).get (j : Int) = a.get j
 | 0, _, _, _, _ => rfl
 | k + 1, hk, j, h, hj => by
  show ((iS a b k).set (k : Int) _).get _ = _
  rw [BG (by omega) _ _ (by omega), if_neg (by omega)]
  exact wc a b k (by omega) j (by omega) hj
theorem yl (a b : StV) : ∀ k : Nat, k ≤ 8 → ∀ j : Nat, k ≤ j → j < 8 → (va a b k).get (j : Int) = b.get j
 | 0, _, _, _, _ => rfl
 | k + 1, hk, j, h, hj => by
  show ((va a b k).set (k : Int) _).get _ = _
  rw [BG (by omega) _ _ (by omega), if_neg (by omega)]
  exact yl a b k (by omega) j (by omega) hj
def Cj (s : StV) (i : Ins) : VSet := if i.form = 0 then s.get i.b else g5 i.imm
def xh (a : VSet) (n : UInt32) : VSet := if n < 2147483648 then ga 3 a (g5 n) else ga 4 a (g5 (0 - n))
def yN (op : Int) : Int := [3, 4, 6, 7, 8, 5, 9, 10, 11].getD (op - 6).toNat 0
theorem D9 {op : Int} (h : 6 ≤ op ∧ op ≤ 14) {o : Nat} (ho : o = (op - 6).toNat) : ([.int .i64 3, .int .i64 4, .int .i64 6, .int .i64 7, .int .i64 8, .int .i64 5, .int .i64 9, .int .i64 10, .int .i64 11] : List Value)[o]? = some (.int .i64 (yN op)) := by
 subst ho
 unfold yN
 have hk : (op - 6).toNat < 9 := by omega
 generalize (op - 6).toNat = n at hk
 rcases n with _ | _ | _ | _ | _ | _ | _ | _ | _ | n
 all_goals first | rfl | omega
theorem Hj {i : Ins} (he : iZ i = 0) (h : i.op = 16) : i.width = 1 ∨ i.width = 2 ∨ i.width = 4 := by
 have h1 := (pL he).1
 by_cases a : i.width = 1
 ·exact .inl a
 by_cases b : i.width = 2
 ·exact .inr (.inl b)
 by_cases c : i.width = 4
 ·exact .inr (.inr c)
 unfold bV hZ at h1
 simp [h, a, b, c] at h1
def iV (i : Ins) (s : StV) : StV :=
 if iZ i = 0 then
  if i.op = 5 then s.set i.a (Cj s i)
  else if 6 ≤ i.op ∧ i.op ≤ 14 then s.set i.a (ga (yN i.op) (s.get i.a) (Cj s i))
  else if i.op = 16 ∧ i.width < 4 then s.set i.a (eC 0 (lg 1 (8 * i.width).toNat - 1) 1)
  else if i.op = 16 ∨ i.op = 17 ∨ i.op = 26 then s.set i.a oz
  else if i.op = 19 then s.set i.a (xh (s.get i.b) i.imm)
  else if i.op = 25 then s.set i.a (eC 0 1 1)
  else if i.op = 3 then s.set 7 (ga 4 (s.get 7) (g5 4))
  else if i.op = 4 then (s.set 7 (ga 3 (s.get 7) (g5 4))).set i.a oz
  else if i.op = 2 then s.set 7 (ga 3 (s.get 7) (g5 4))
  else if i.op = 23 ∨ i.op = 24 then ym
  else s
 else s
def AN (i : Ins) : Bool := decide (i.op = 15) && decide (i.form ≠ 0) && decide (iZ i = 0)
def xK (a : VSet) : Bool := iU a && !a.top && !a.em
def m7 (a : VSet) (n : UInt32) : VSet :=
 if xK a = false ∨ n ≠ a.lo ∧ n ≠ a.hi then a else if a.st = 0 then emptyS else if n = a.lo then eC (a.lo + a.st) a.hi a.st else eC a.lo (a.hi - a.st) a.st
def As (cc : Int) : Int := if cc < 1 ∨ 15 ≤ cc then -1 else [(-52 : Int), 2, 1, 4, 3, 6, 5, 8, 7, 10, 9, 12, 11, 14, 13].getD cc.toNat 0
theorem He {cc : Int} (h : 1 ≤ cc ∧ cc < 15) : As cc = [(-52 : Int), 2, 1, 4, 3, 6, 5, 8, 7, 10, 9, 12, 11, 14, 13].getD cc.toNat 0 := by
 unfold As; rw [if_neg (by omega)]
theorem FS {cc : Int} (h : 1 ≤ cc ∧ cc < 15) : (((({ data := #[45, 99, 98, 101, 100, 103, 102, 105, 104, 107, 106, 109, 108, 111, 110] } : ByteArray).data.toList.getD cc.toNat 0 - 97 : UInt8).toNat : Nat) : Int) = [(-52 : Int), 2, 1, 4, 3, 6, 5, 8, 7, 10, 9, 12, 11, 14, 13].getD cc.toNat 0 := by
 have hk : cc.toNat - 1 < 14 := by omega
 have e : cc.toNat = (cc.toNat - 1) + 1 := by omega
 rw [e]
 generalize cc.toNat - 1 = n at hk
 rcases n with _ | _ | _ | _ | _ | _ | _ | _ | _ | _ | _ | _ | _ | _ | n
 all_goals first | rfl | omega
theorem Gq {i : Ins} (h : AN i = true) : iZ i = 0 := by unfold AN at h; simp at h; exact h.2
theorem Fy {cc : Int} (h : 3 ≤ cc ∧ cc ≤ 6) {o : Nat} (ho : o = (cc - 3).toNat) : ([.int .i64 7, .int .i64 8, .int .i64 9, .int .i64 10] : List Value)[o]? = some (.int .i64 (cc + 4)) := by
 subst ho
 obtain ⟨h1, h2⟩ := h
 rcases (show cc = 3 ∨ cc = 4 ∨ cc = 5 ∨ cc = 6 by omega) with rfl | rfl | rfl | rfl <;> rfl
def fM (cc : Int) (a : VSet) (n : UInt32) : VSet :=
 if cc = 1 then lS a (g5 n) else if cc = 2 then m7 a n
 else if cc = 7 then (if n = 0 then emptyS else lS a (eC 0 (n - 1) 1))
 else if cc = 9 then lS a (eC 0 n 1)
 else if cc = 8 then lS a (eC n 4294967295 1)
 else if cc = 10 then (if n = 4294967295 then emptyS else lS a (eC (n + 1) 4294967295 1))
 else a
def nO (cc : Int) (i : Ins) (s : StV) : StV :=
 if 3 ≤ cc ∧ cc ≤ 6 then (if (xK (s.get i.a) = false ∨ 2147483648 ≤ (s.get i.a).hi) ∨ 2147483648 ≤ i.imm then s else s.set i.a (fM (cc + 4) (s.get i.a) i.imm))
 else s.set i.a (fM cc (s.get i.a) i.imm)
def qS (cc : Int) (i : Ins) (s : StV) (taken : Bool) : StV :=
 if AN i = false then s else nO (if taken = true then cc else As cc) i s
end Go.HL
namespace Go.Proofs.YtiajjbhcpeadfaaGreat
open Go Go.HL Go.RowKit
theorem oI (w : World) :
  Calls Tryz.prog 162 #[] w (fun e w' => e = .returned (.agg (cH.enc (wP 8)).toArray) ∧ Ext w w') := by
 refine enter Tryz.func162 rfl Tryz.ntmps162 rfl ?_
 refine af ?_
 refine dD cS rfl (fun b1 => ?_)
 refine aI ?_
 refine dD cS rfl (fun b2 => ?_)
 refine ad (al (af (zz0 (aa rfl) (ad (aD ?_)))))
 refine bK (ι := Nat) (fun k => k ≤ 8) (fun _ => _) (fun k => [cellE b2 (cH.enc (wP k)) 37, cellE b1 (cH.enc gy) 37]) (fun k => [(3, .int .i64 (k : Nat))]) (fun k => 8 - k) 0 (Nat.zero_le _) (Front.c Front.nil) (by repeat' constructor) rfl (fun k hi m hm => ?_)
 replace hi : k ≤ 8 := hi
 replace hm : m = 8 - k := hm
 change Tr _ _ [cellE b2 (cH.enc (wP k)) 37, cellE b1 (cH.enc gy) 37] ([(3, .int .i64 (k : Nat))] ++ _) _
 refine af (zz0 (bP rfl rfl) (ad (al ?_)))
 refine an rfl ?_ ?_ <;> intro h3 <;> try simp only [bs] at h3
 ·refine bA (al (aD (af (zz0 (aa rfl) (zz0 (ab rfl) (ad (ao (zz0 (aa rfl) (zz0 (aA rfl f5 (fun w hw => jY w)) ?_)))))))))
  refine zz0 (zz2 (off := 0) (ft := 26) rfl cn rfl dj) ?_
  refine zz0 (dI rfl rfl co ak (by omega)) ?_
  refine f7 rfl rfl ak (by repeat constructor) ((kU (k := (k : Int)) ⟨by omega, by omega⟩ (by simp) _).trans (congrArg cH.enc (Dq (by omega)))) (by rfl) (kW (k := (k : Int)) ⟨by omega, by omega⟩ (by simp)) (by first | exact Enc.one bU _ | exact List.all_eq_true.1 rfl) rfl ?_
  refine aB (aX (ac (ao (zz0 (cp rfl rfl) ?_))))
  refine zz0 (aa rfl) (ad ?_)
  refine cC (k + 1) (Front.c Front.nil) (bB 10 rfl) (o := (by show k + 1 ≤ _; omega))
 ·refine bF (aG (aG (bj (ac (al ?_)))))
  obtain rfl : k = 8 := by omega
  refine ao (zz0 (bI rfl bX aV) ?_)
  refine aF cH rfl rfl aV ?_
  refine ad (az ?_)
  refine eT Tryz.results162 rfl bX aV (fun w' hw => ?_)
  exact ⟨rfl, hw.b0⟩
theorem wm (w : World) :
  Calls Tryz.prog 160 #[] w (fun e w' => e = .returned (.agg (cH.enc (iQ 8)).toArray) ∧ Ext w w') := by
 refine enter Tryz.func160 rfl Tryz.ntmps160 rfl ?_
 refine af ?_
 refine dD cS rfl (fun b1 => ?_)
 refine aI ?_
 refine dD cS rfl (fun b2 => ?_)
 refine ad (al (af (zz0 (aa rfl) (ad (aD ?_)))))
 refine bK (ι := Nat) (fun k => k ≤ 8) (fun _ => _) (fun k => [cellE b2 (cH.enc (iQ k)) 37, cellE b1 (cH.enc gy) 37]) (fun k => [(3, .int .i64 (k : Nat))]) (fun k => 8 - k) 0 (Nat.zero_le _) (Front.c Front.nil) (by repeat' constructor) rfl (fun k hi m hm => ?_)
 replace hi : k ≤ 8 := hi
 replace hm : m = 8 - k := hm
 change Tr _ _ [cellE b2 (cH.enc (iQ k)) 37, cellE b1 (cH.enc gy) 37] ([(3, .int .i64 (k : Nat))] ++ _) _
 refine af (zz0 (bP rfl rfl) (ad (al ?_)))
 refine an rfl ?_ ?_ <;> intro h3 <;> try simp only [bs] at h3
 ·refine bA (al (aD (af (zz0 (aa rfl) (zz0 (ab rfl) (ad (ao (zz0 (aa rfl) (zz0 (aA rfl jm (fun w hw => j1 w)) ?_)))))))))
  refine zz0 (zz2 (off := 0) (ft := 26) rfl cn rfl dj) ?_
  refine zz0 (dI rfl rfl co ak (by omega)) ?_
  refine f7 rfl rfl ak (by repeat constructor) ((kU (k := (k : Int)) ⟨by omega, by omega⟩ (by simp) _).trans (congrArg cH.enc (EJ (by omega)))) (by rfl) (kW (k := (k : Int)) ⟨by omega, by omega⟩ (by simp)) (by first | exact Enc.one bU _ | exact List.all_eq_true.1 rfl) rfl ?_
  refine aB (aX (ac (ao (zz0 (cp rfl rfl) ?_))))
  refine zz0 (aa rfl) (ad ?_)
  refine cC (k + 1) (Front.c Front.nil) (bB 10 rfl) (o := (by show k + 1 ≤ _; omega))
 ·refine bF (aG (aG (bj (ac (al ?_)))))
  obtain rfl : k = 8 := by omega
  refine ao (zz0 (bI rfl bX aV) ?_)
  refine aF cH rfl rfl aV ?_
  refine ad (az ?_)
  refine eT Tryz.results160 rfl bX aV (fun w' hw => ?_)
  exact ⟨rfl, hw.b0⟩
theorem tR (s : StV) (i : Ins) (w : World) (hB : 0 ≤ i.b ∧ i.b < 8) :
  Calls Tryz.prog 302 #[.agg (cH.enc s).toArray, .agg (aP.enc i).toArray] w (fun e w' => e = .returned (.agg (bU.enc (Cj s i)).toArray) ∧ Ext w w') := by
 refine enter Tryz.func302 rfl Tryz.ntmps302 rfl ?_
 refine af ?_
 refine dJ rfl rfl (fun b1 => ?_)
 refine dJ rfl rfl (fun b2 => ?_)
 refine dD cK rfl (fun b3 => ?_)
 refine ad (al (af (zz0 (zz2 (off := 3) (ft := 3) rfl aj rfl aC) ?_)))
 refine zz0 (aJ rfl aN) ?_
 refine zz0 (bD rfl rfl) (ad ?_)
 refine an rfl ?_ ?_ <;> intro h4 <;> try simp only [bs] at h4
 ·refine af (zz0 (zz2 (off := 7) (ft := 3) rfl aj rfl aC) ?_)
  refine zz0 (aJ rfl aN) ?_
  refine zz0 (zz2 (off := 0) (ft := 26) rfl cn rfl dj) ?_
  refine zz0 (dI rfl rfl co ak (by omega)) ?_
  refine zz0 (gw (vs := bU.enc (s.get i.b)) rfl (by repeat constructor) aK ak (kV hB (by simp)) rfl) ?_
  refine aF bU rfl rfl ak ?_
  refine ad (az (ay ?_))
  refine eT Tryz.results302 rfl aK ak (fun w' hw => ?_)
  refine ⟨?_, hw.b0⟩
  unfold Cj
  repeat' (first | rfl | (exfalso; first | (simp_all; done) | grind) | split)
 ·refine dh (zz0 (zz2 (off := 1) (ft := 23) rfl aj rfl ae) ?_)
  refine zz0 (aJ rfl am) ?_
  refine zz0 (aA rfl iL (fun w hw => jz _ w)) ?_
  refine aF bU rfl rfl ak ?_
  refine ad (az ?_)
  refine eT Tryz.results302 rfl aK ak (fun w' hw => ?_)
  refine ⟨?_, hw.b0⟩
  unfold Cj
  repeat' (first | rfl | (exfalso; first | (simp_all; done) | grind) | split)
theorem CE (a : VSet) (n : UInt32) (w : World) :
  Calls Tryz.prog 304 #[.agg (bU.enc a).toArray, .int .u32 n.toNat] w (fun e w' => e = .returned (.agg (bU.enc (xh a n)).toArray) ∧ Ext w w') := by
 refine enter Tryz.func304 rfl Tryz.ntmps304 rfl ?_
 refine af ?_
 refine dJ rfl rfl (fun b1 => ?_)
 refine dD cK rfl (fun b2 => ?_)
 refine ad (al (af (zz0 (aa rfl) (zz0 (iH (n := 2147483648) rfl rfl) ?_))))
 refine ad ?_
 refine an rfl ?_ ?_ <;> intro h3 <;> try simp only [bs] at h3
 ·refine al (fG 0 4 aS ?_)
  refine bG ?_
  refine aw (bI rfl aK ak) ?_
  refine aw (aa rfl) (aw (aA rfl iL (fun w hw => jz _ w)) ?_)
  refine aw (aA rfl l6 (fun w hw => pd 3 _ _ w)) ?_
  refine bH ?_
  refine aF bU rfl rfl ak ?_
  refine ad (az (ay ?_))
  refine eT Tryz.results304 rfl aK ak (fun w' hw => ?_)
  refine ⟨?_, hw.b0⟩
  unfold xh
  repeat' (first | rfl | (exfalso; first | (simp_all; done) | grind) | split)
 ·refine bA (al (fG 0 5 aS ?_))
  refine bG ?_
  refine aw (bI rfl aK ak) ?_
  refine aw (aa rfl) (aw (uZ rfl) ?_)
  refine aw (aA rfl iL (fun w hw => jz _ w)) ?_
  refine aw (aA rfl l6 (fun w hw => pd 4 _ _ w)) ?_
  refine bH ?_
  refine aF bU rfl rfl ak ?_
  refine ad (az ?_)
  refine eT Tryz.results304 rfl aK ak (fun w' hw => ?_)
  refine ⟨?_, hw.b0⟩
  unfold xh
  repeat' (first | rfl | (exfalso; first | (simp_all; done) | grind) | split)
theorem sQ (a : VSet) (w : World) :
  Calls Tryz.prog 299 #[.agg (bU.enc a).toArray] w (fun e w' => e = .returned (.bool (xK a)) ∧ Ext w w') := by
 refine enter Tryz.func299 rfl Tryz.ntmps299 rfl ?_
 refine af ?_
 refine dJ rfl rfl (fun b1 => ?_)
 refine zz0 (ab rfl) (aI (zz0 (bI rfl aK ak) ?_))
 refine zz0 (aA rfl Tryz.call40 (fun w hw => tN _ w)) ?_
 refine zz0 (aa rfl) ?_
 apply cm
 ·exact (rfl : _ = (4, 5, 9))
 ·exact rfl
 ·intro hT2; have hT2' := hT2
  try simp only [bs] at hT2'
  refine zz5 hT2 (zz2 (off := 1) (ft := 4) rfl au rfl bW) ?_
  refine zz5 hT2 (aJ rfl cB) ?_
  refine zz5 hT2 (cN rfl) (zz0 (aQ rfl hT2 rfl) ?_)
  refine aB (ac ?_)
  exact aH (Sub.cons rfl (zz9 4 rfl))
 ·intro hF2
  refine zz8 hF2 (zz8 hF2 (zz8 hF2 (zz0 (aR rfl hF2 rfl) ?_)))
  refine aB (ac ?_)
  exact aH (Sub.cons rfl (zz9 4 rfl))
 refine zz0 (aa rfl) ?_
 apply cm
 ·exact (rfl : _ = (4, 10, 14))
 ·exact rfl
 ·intro hT3; have hT3' := hT3
  try simp only [bs] at hT3'
  refine zz5 hT3 (zz2 (off := 0) (ft := 4) rfl au rfl bW) ?_
  refine zz5 hT3 (aJ rfl cB) ?_
  refine zz5 hT3 (cN rfl) (zz0 (aQ rfl hT3 rfl) ?_)
  refine aB (ac ?_)
  exact aH (Sub.cons rfl (zz9 4 rfl))
 ·intro hF3
  refine zz8 hF3 (zz8 hF3 (zz8 hF3 (zz0 (aR rfl hF3 rfl) ?_)))
  refine aB (ac ?_)
  exact aH (Sub.cons rfl (zz9 4 rfl))
 refine zz0 (ab rfl) (ad (az ?_))
 refine aT Tryz.results299 rfl (fun w' hw => ?_)
 refine ⟨?_, hw.b0⟩
 unfold xK
 repeat' (first | rfl | (exfalso; first | (simp_all; done) | grind) | split)
theorem yj (a : VSet) (n : UInt32) (w : World) :
  Calls Tryz.prog 301 #[.agg (bU.enc a).toArray, .int .u32 n.toNat] w (fun e w' => e = .returned (.agg (bU.enc (m7 a n)).toArray) ∧ Ext w w') := by
 refine enter Tryz.func301 rfl Tryz.ntmps301 rfl ?_
 refine af ?_
 refine dJ rfl rfl (fun b1 => ?_)
 refine dD cK rfl (fun b2 => ?_)
 refine ad (al (aD (af (zz0 (bI rfl aK ak) ?_))))
 refine zz0 (aA rfl Tryz.call299 (fun w hw => sQ _ w)) ?_
 refine zz0 (cN rfl) (zz0 (aa rfl) ?_)
 apply dB
 ·exact (rfl : _ = (11, 9, 20))
 ·exact rfl
 ·intro hF3; have hF3' := hF3
  try simp only [bs] at hF3'
  refine zz5 hF3 (aa rfl) (zz5 hF3 (zz2 (off := 2) (ft := 23) rfl au rfl ae) ?_)
  refine zz5 hF3 (aJ rfl am) ?_
  refine zz5 hF3 (jG rfl rfl) ?_
  refine zz5 hF3 (aa rfl) ?_
  apply cm
  ·exact (rfl : _ = (5, 14, 19))
  ·exact rfl
  ·intro hT4; have hT4' := hT4
   try simp only [bs] at hT4'
   refine zz5 hT4 (aa rfl) (zz5 hT4 (zz2 (off := 3) (ft := 23) rfl au rfl ae) ?_)
   refine zz5 hT4 (aJ rfl am) ?_
   refine zz5 hT4 (jG rfl rfl) ?_
   refine zz5 hF3 (aQ rfl hT4 rfl) ?_
   refine aB (ac ?_)
   exact aH (Sub.cons rfl (zz9 5 rfl))
  ·intro hF4
   refine zz8 hF4 (zz8 hF4 (zz8 hF4 (zz8 hF4 (zz5 hF3 (aR rfl hF4 rfl) ?_))))
   refine aB (ac ?_)
   exact aH (Sub.cons rfl (zz9 5 rfl))
  refine zz0 (aR rfl hF3 rfl) ?_
  refine aB (ac ?_)
  exact aH (Sub.cons rfl (zz9 7 rfl))
 ·intro hT3
  refine zz8 hT3 (zz8 hT3 (zz8 hT3 (zz8 hT3 (zz8 hT3 (gi ?_)))))
  refine gi ?_
  refine gi ?_
  refine gi ?_
  refine zz8 hT3 (zz0 (aQ rfl hT3 rfl) ?_)
  refine aB (ac ?_)
  exact aH (Sub.cons rfl (zz9 11 rfl))
 refine zz0 (ab rfl) (ad ?_)
 refine an rfl ?_ ?_ <;> intro h5 <;> try simp only [bs] at h5
 ·refine af (zz0 (bI rfl aK ak) ?_)
  refine aF bU rfl rfl ak ?_
  refine ad (az (bh (ay ?_)))
  refine eT kw rfl aK ak (fun w' hw => ?_)
  refine ⟨?_, hw.b0⟩
  unfold m7
  repeat' (first | rfl | (exfalso; first | (simp_all; done) | grind) | split)
 ·refine af (zz0 (zz2 (off := 4) (ft := 23) rfl au rfl ae) ?_)
  refine zz0 (aJ rfl am) ?_
  refine zz0 (eN (n := 0) rfl rfl) ?_
  refine zz0 (ab rfl) (ad ?_)
  refine an rfl ?_ ?_ <;> intro h6 <;> try simp only [bs] at h6
  ·refine af (zz0 (aA rfl jm (fun w hw => j1 w)) ?_)
   refine aF bU rfl rfl ak ?_
   refine ad (az (bh (ay ?_)))
   refine eT kw rfl aK ak (fun w' hw => ?_)
   refine ⟨?_, hw.b0⟩
   unfold m7
   repeat' (first | rfl | (exfalso; first | (simp_all; done) | grind) | split)
  ·refine af (zz0 (aa rfl) (zz0 (zz2 (off := 2) (ft := 23) rfl au rfl ae) ?_))
   refine zz0 (aJ rfl am) ?_
   refine zz0 (eN rfl rfl) ?_
   refine zz0 (ab rfl) (ad ?_)
   refine an rfl ?_ ?_ <;> intro h7 <;> try simp only [bs] at h7
   ·refine af (zz0 (zz2 (off := 2) (ft := 23) rfl au rfl ae) ?_)
    refine zz0 (aJ rfl am) ?_
    refine zz0 (zz2 (off := 4) (ft := 23) rfl au rfl ae) ?_
    refine zz0 (aJ rfl am) ?_
    refine zz0 (fY rfl rfl) ?_
    refine zz0 (zz2 (off := 3) (ft := 23) rfl au rfl ae) ?_
    refine zz0 (aJ rfl am) ?_
    refine zz0 (zz2 (off := 4) (ft := 23) rfl au rfl ae) ?_
    refine zz0 (aJ rfl am) ?_
    refine zz0 (aA rfl eB (fun w hw => dL _ _ _ w)) ?_
    refine aF bU rfl rfl ak ?_
    refine ad (az (bh (ay ?_)))
    refine eT kw rfl aK ak (fun w' hw => ?_)
    refine ⟨?_, hw.b0⟩
    unfold m7
    repeat' (first | rfl | (exfalso; first | (simp_all; done) | grind) | split)
   ·refine cd (aX (ac (af (zz0 (zz2 (off := 2) (ft := 23) rfl au rfl ae) ?_))))
    refine zz0 (aJ rfl am) ?_
    refine zz0 (zz2 (off := 3) (ft := 23) rfl au rfl ae) ?_
    refine zz0 (aJ rfl am) ?_
    refine zz0 (zz2 (off := 4) (ft := 23) rfl au rfl ae) ?_
    refine zz0 (aJ rfl am) ?_
    refine zz0 (fD rfl rfl) ?_
    refine zz0 (zz2 (off := 4) (ft := 23) rfl au rfl ae) ?_
    refine zz0 (aJ rfl am) ?_
    refine zz0 (aA rfl eB (fun w hw => dL _ _ _ w)) ?_
    refine aF bU rfl rfl ak ?_
    refine ad (az ?_)
    refine eT kw rfl aK ak (fun w' hw => ?_)
    refine ⟨?_, hw.b0⟩
    unfold m7
    repeat' (first | rfl | (exfalso; first | (simp_all; done) | grind) | split)
theorem sP (i : Ins) (w : World) (hI : InsOK i) :
  Calls Tryz.prog 225 #[.agg (aP.enc i).toArray] w (fun e w' => e = .returned (.bool (AN i)) ∧ Ext w w') := by
 refine enter Tryz.func225 rfl Tryz.ntmps225 rfl ?_
 refine af ?_
 refine dJ rfl rfl (fun b1 => ?_)
 refine zz0 (ab rfl) (aI (zz0 (zz2 (off := 2) (ft := 3) rfl aj rfl aC) ?_))
 refine zz0 (aJ rfl aN) ?_
 refine zz0 (bD rfl rfl) (zz0 (aa rfl) ?_)
 apply cm
 ·exact (rfl : _ = (4, 6, 10))
 ·exact rfl
 ·intro hT2; have hT2' := hT2
  try simp only [bs] at hT2'
  refine zz5 hT2 (zz2 (off := 3) (ft := 3) rfl aj rfl aC) ?_
  refine zz5 hT2 (aJ rfl aN) ?_
  refine zz5 hT2 (fU rfl rfl) (zz0 (aQ rfl hT2 rfl) ?_)
  refine aB (ac ?_)
  exact aH (Sub.cons rfl (zz9 4 rfl))
 ·intro hF2
  refine zz8 hF2 (zz8 hF2 (zz8 hF2 (zz0 (aR rfl hF2 rfl) ?_)))
  refine aB (ac ?_)
  exact aH (Sub.cons rfl (zz9 4 rfl))
 refine zz0 (aa rfl) ?_
 apply cm
 ·exact (rfl : _ = (3, 11, 14))
 ·exact rfl
 ·intro hT3; have hT3' := hT3
  try simp only [bs] at hT3'
  refine zz5 hT3 (bI rfl aU ax) ?_
  refine zz5 hT3 (aA rfl kg (fun w hw => kc i w hI)) ?_
  refine zz0 (aQ rfl hT3 rfl) ?_
  refine aB (ac ?_)
  exact aH (Sub.cons rfl (zz9 3 rfl))
 ·intro hF3
  refine zz8 hF3 (zz8 hF3 (zz0 (aR rfl hF3 rfl) ?_))
  refine aB (ac ?_)
  exact aH (Sub.cons rfl (zz9 3 rfl))
 refine zz0 (ab rfl) (ad (az ?_))
 refine aT Tryz.results225 rfl (fun w' hw => ?_)
 refine ⟨?_, hw.b0⟩
 unfold AN
 repeat' (first | rfl | (exfalso; first | (simp_all; done) | grind) | split)
theorem xg (cc : Int) (w : World) :
  Calls Tryz.prog 298 #[.int .i64 cc] w (fun e w' => e = .returned (.int .i64 (As cc)) ∧ Ext w w') := by
 refine enter Tryz.func298 rfl Tryz.ntmps298 rfl ?_
 refine af (zz0 (ab rfl) (ad (al (af (zz0 (aa rfl) (zz0 (bP rfl rfl) (zz0 (aa rfl) ?_)))))))
 apply dB
 ·exact (rfl : _ = (3, 5, 8))
 ·exact rfl
 ·intro hF1; have hF1' := hF1
  try simp only [bs] at hF1'
  refine zz5 hF1 (aa rfl) (zz5 hF1 (eE rfl rfl) (zz0 (aR rfl hF1 rfl) ?_))
  refine aB (ac ?_)
  exact aH (Sub.cons rfl (zz9 3 rfl))
 ·intro hT1
  refine zz8 hT1 (zz8 hT1 (zz0 (aQ rfl hT1 rfl) ?_))
  refine aB (ac ?_)
  exact aH (Sub.cons rfl (zz9 3 rfl))
 refine ad ?_
 refine an rfl ?_ ?_ <;> intro h2 <;> try simp only [bs] at h2
 ·refine af (zz0 (ab rfl) (ad (az (ay ?_))))
  refine aT Tryz.results298 rfl (fun w' hw => ?_)
  exact ⟨by unfold As; rw [if_pos (by omega)], hw.b0⟩
 ·refine bA (al ?_)
  have hsz : ({ data := #[45, 99, 98, 101, 100, 103, 102, 105, 104, 107, 106, 109, 108, 111, 110] } : ByteArray).size = 15 := rfl
  refine ao (zz0 (aa rfl) (zz0 (pQ rfl rfl eZ (by omega)) ?_))
  refine zz0 (BY (n := 97) rfl rfl) ?_
  refine zz0 (jc rfl bZ aY) (zz0 (ab rfl) (ad (az ?_)))
  refine aT Tryz.results298 rfl (fun w' hw => ?_)
  exact ⟨by rw [He (by omega), ← FS (by omega)], hw.b0⟩
theorem nU (a b : StV) (w : World) :
  Calls Tryz.prog 110 #[.agg (cH.enc a).toArray, .agg (cH.enc b).toArray] w (fun e w' => e = .returned (.agg (cH.enc (iS a b 8)).toArray) ∧ Ext w w') := by
 refine enter Tryz.func110 rfl Tryz.ntmps110 rfl ?_
 refine af ?_
 refine dJ rfl rfl (fun b1 => ?_)
 refine dJ rfl rfl (fun b2 => ?_)
 refine dD cS rfl (fun b3 => ?_)
 refine ad (al (af (zz0 (aa rfl) (ad (aD ?_)))))
 refine bK (ι := Nat) (fun k => k ≤ 8) (fun _ => _) (fun k => [cellE b3 (cH.enc gy) 37, cellE b2 (cH.enc b) 37, cellE b1 (cH.enc (iS a b k)) 37]) (fun k => [(6, .int .i64 (k : Nat))]) (fun k => 8 - k) 0 (Nat.zero_le _) (Front.c Front.nil) (by repeat' constructor) rfl (fun k hi m hm => ?_)
 replace hi : k ≤ 8 := hi
 replace hm : m = 8 - k := hm
 change Tr _ _ [cellE b3 (cH.enc gy) 37, cellE b2 (cH.enc b) 37, cellE b1 (cH.enc (iS a b k)) 37] ([(6, .int .i64 (k : Nat))] ++ _) _
 have hgk := wc a b k hi k (Nat.le_refl k)
 refine af (zz0 (bP rfl rfl) (ad (al ?_)))
 refine an rfl ?_ ?_ <;> intro h4 <;> try simp only [bs] at h4
 ·refine bA (al (aD (af (zz0 (aa rfl) (zz0 (ab rfl) (ad ?_))))))
  replace hgk := hgk (by omega)
  refine fG 0 12 aS ?_
  refine bG ?_
  refine aw (aa rfl) (aw (aa rfl) (aw (zz2 (off := 0) (ft := 26) rfl cn rfl dj) ?_))
  refine aw (dI rfl rfl co ak (by omega)) ?_
  refine aw (gw (vs := bU.enc ((iS a b k).get (k : Int))) rfl (by repeat constructor) aK ak (kV ⟨by omega, by omega⟩ (by simp)) rfl) ?_
  refine aw (aa rfl) (aw (zz2 (off := 0) (ft := 26) rfl cn rfl dj) ?_)
  refine aw (dI rfl rfl co ak (by omega)) ?_
  refine aw (gw (vs := bU.enc (b.get (k : Int))) rfl (by repeat constructor) aK ak (kV ⟨by omega, by omega⟩ (by simp)) rfl) ?_
  refine aw (aA rfl Tryz.call166 (fun w hw => xp _ _ w)) ?_
  refine aw (zz2 (off := 0) (ft := 26) rfl cn rfl dj) ?_
  refine aw (dI rfl rfl co ak (by omega)) ?_
  refine bH ?_
  refine f7 rfl rfl ak (by repeat constructor) ((kU (s := iS a b k) (k := (k : Int)) ⟨by omega, by omega⟩ (by simp) (gU ((iS a b k).get (k : Int)) (b.get (k : Int)))).trans (congrArg cH.enc (show _ = iS a b (k + 1) by rw [hgk]; rfl))) (by rfl) (kW (k := (k : Int)) ⟨by omega, by omega⟩ (by simp)) (by first | exact Enc.one bU _ | exact List.all_eq_true.1 rfl) rfl ?_
  refine aB (aX (ac (ao (zz0 (cp rfl rfl) ?_))))
  refine zz0 (aa rfl) (ad ?_)
  refine cC (k + 1) (Front.c Front.nil) (bB 18 rfl) (o := (by show k + 1 ≤ _; omega))
 ·refine bF (aG (aG (bj (ac (al ?_)))))
  obtain rfl : k = 8 := by omega
  refine ao (zz0 (bI rfl bX aV) ?_)
  refine aF cH rfl rfl aV ?_
  refine ad (az ?_)
  refine eT Tryz.results110 rfl bX aV (fun w' hw => ?_)
  exact ⟨rfl, hw.b0⟩
end Go.Proofs.YtiajjbhcpeadfaaGreat
namespace Go.Proofs.YtiajjbhcpeadfaaGreat
open Go Go.HL Go.RowKit
theorem wQ (i : Ins) (s : StV) (w : World) (hI : InsOK i) :
  Calls Tryz.prog 270 #[.agg (aP.enc i).toArray, .agg (cH.enc s).toArray] w (fun e w' => e = .returned (.agg (cH.enc (iV i s)).toArray) ∧ Ext w w') := by
 refine enter Tryz.func270 rfl Tryz.ntmps270 rfl ?_
 refine af ?_
 refine dJ rfl rfl (fun b1 => ?_)
 refine dJ rfl rfl (fun b2 => ?_)
 refine dD cS rfl (fun b3 => ?_)
 refine ad (al (af (zz0 (bI rfl aU ax) ?_)))
 refine zz0 (aA rfl kg (fun w hw => kc i w hI)) ?_
 refine zz0 (cN rfl) (ad ?_)
 refine an rfl ?_ ?_ <;> intro h4 <;> try simp only [bs] at h4
 ·refine af (zz0 (bI rfl bX aV) ?_)
  refine aF cH rfl rfl aV ?_
  refine ad (az (ay ?_))
  refine eT g6 rfl bX aV (fun w' hw => ?_)
  refine ⟨?_, hw.b0⟩
  first | (rw [hi]; rfl) | (unfold iV; (repeat' split) <;> first | (exfalso; first | (simp_all; done) | grind) | rfl)
 ·refine bA (al ?_)
  have he : iZ i = 0 := by simp_all
  obtain ⟨_, hA, hB, _⟩ := pL he
  refine ao (zz0 (zz2 (off := 6) (ft := 3) rfl aj rfl aC) ?_)
  refine zz0 (aJ rfl aN) ?_
  refine zz0 (zz2 (off := 0) (ft := 26) rfl cn rfl dj) ?_
  refine zz0 (dI rfl rfl co ak (by omega)) ?_
  refine zz0 (gw (vs := bU.enc (s.get i.a)) rfl (by repeat constructor) aK ak (kV hA (by simp)) rfl) ?_
  refine dD cK rfl (fun b5 => ?_)
  refine aF bU rfl rfl ak ?_
  refine ad ?_
  refine db (ι := VSet) (fun a1 => iV i s = s.set i.a a1) (fun _ => Bg.of w) (fun a1 => [cellE b5 (bU.enc a1) 25, cellE b3 (cH.enc gy) 37, cellE b2 (cH.enc s) 37, cellE b1 (aP.enc i) 36]) (fun a1 => []) ?_ (fun a1 hi => ?_)
  ·skip
   refine aD (af (zz0 (zz2 (off := 2) (ft := 3) rfl aj rfl aC) ?_))
   refine zz0 (aJ rfl aN) ?_
   refine zz0 (bD rfl rfl) (zz0 (ab rfl) (ad ?_))
   refine an rfl ?_ ?_ <;> intro h6 <;> try simp only [bs] at h6
   ·refine ao (zz0 (bI rfl bX aV) ?_)
    refine zz0 (bI rfl aU ax) ?_
    refine zz0 (aA rfl Tryz.call302 (fun w hw => tR s i w hB)) ?_
    refine aF bU rfl rfl ak ?_
    refine aB (aX (ac ?_))
    refine cw _ Front.nil (bB 7 rfl) (o := (by show _ = _; unfold iV; rw [if_pos he]; (repeat' split) <;> first | (exfalso; first | (simp_all; done) | grind) | rfl))
   ·refine af (zz0 (zz2 (off := 2) (ft := 3) rfl aj rfl aC) ?_)
    refine zz0 (aJ rfl aN) ?_
    refine zz0 (eE rfl rfl) (zz0 (aa rfl) ?_)
    apply cm
    ·exact (rfl : _ = (4, 28, 32))
    ·exact rfl
    ·intro hT7; have hT7' := hT7
     try simp only [bs] at hT7'
     refine zz5 hT7 (zz2 (off := 2) (ft := 3) rfl aj rfl aC) ?_
     refine zz5 hT7 (aJ rfl aN) ?_
     refine zz5 hT7 (fV rfl rfl) (zz0 (aQ rfl hT7 rfl) ?_)
     refine aB (ac ?_)
     exact aH (Sub.cons rfl (zz9 4 rfl))
    ·intro hF7
     refine zz8 hF7 (zz8 hF7 (zz8 hF7 (zz0 (aR rfl hF7 rfl) ?_)))
     refine aB (ac ?_)
     exact aH (Sub.cons rfl (zz9 4 rfl))
    refine zz0 (ab rfl) (ad ?_)
    refine an rfl ?_ ?_ <;> intro h8 <;> try simp only [bs] at h8
    ·refine af (zz0 (bO (vs := [(0, _), (1, _), (2, _), (3, _), (4, _), (5, _), (6, _), (7, _), (8, _)]) rfl rfl (ko _ _ _ _ _ _ _ _ _)) ?_)
     refine dD Tryz.zeroValue321 rfl (fun b9 => ?_)
     refine zz6 rfl rfl Tryz.sizeOf321 ?_
     refine ad (fG 0 10 aS ?_)
     refine bG ?_
     refine aw (zz2 (off := 2) (ft := 3) rfl aj rfl aC) ?_
     refine aw (aJ rfl aN) ?_
     refine aw (dX rfl rfl) ?_
     refine aw (dI rfl rfl Tryz.underlying321 aC (by omega)) ?_
     refine aw (pn (v := .int .i64 (yN i.op)) rfl (by repeat constructor) aN (D9 (by assumption) (by simp))) ?_
     refine aw (bI rfl aK ak) ?_
     refine aw (bI rfl bX aV) ?_
     refine aw (bI rfl aU ax) ?_
     refine aw (aA rfl Tryz.call302 (fun w hw => tR s i w hB)) ?_
     refine aw (aA rfl l6 (fun w hw => pd (yN i.op) (s.get i.a) (Cj s i) w)) ?_
     refine bH ?_
     refine aF bU rfl rfl ak ?_
     refine aB (aX (ac ?_))
     refine cw _ Front.nil (bB 22 rfl) (o := (by show _ = _; unfold iV; rw [if_pos he]; (repeat' split) <;> first | (exfalso; first | (simp_all; done) | grind) | rfl))
    ·refine af (zz0 (zz2 (off := 2) (ft := 3) rfl aj rfl aC) ?_)
     refine zz0 (aJ rfl aN) ?_
     refine zz0 (bD rfl rfl) (zz0 (aa rfl) ?_)
     apply cm
     ·exact (rfl : _ = (4, 48, 52))
     ·exact rfl
     ·intro hT10; have hT10' := hT10
      try simp only [bs] at hT10'
      refine zz5 hT10 (zz2 (off := 4) (ft := 3) rfl aj rfl aC) ?_
      refine zz5 hT10 (aJ rfl aN) ?_
      refine zz5 hT10 (bP rfl rfl) (zz0 (aQ rfl hT10 rfl) ?_)
      refine aB (ac ?_)
      exact aH (Sub.cons rfl (zz9 4 rfl))
     ·intro hF10
      refine zz8 hF10 (zz8 hF10 (zz8 hF10 (zz0 (aR rfl hF10 rfl) ?_)))
      refine aB (ac ?_)
      exact aH (Sub.cons rfl (zz9 4 rfl))
     refine zz0 (ab rfl) (ad ?_)
     refine an rfl ?_ ?_ <;> intro h11 <;> try simp only [bs] at h11
     ·have hwd := Hj he (by omega)
      refine ao (zz0 (zz2 (off := 4) (ft := 3) rfl aj rfl aC) ?_)
      refine zz0 (aJ rfl aN) ?_
      refine zz0 (kE rfl rfl (by omega)) ?_
      refine zz0 (j8 (m := 1) rfl rfl (by omega)) ?_
      refine zz0 (fD (n := 1) rfl rfl) ?_
      refine zz0 (aA rfl eB (fun w hw => dL 0 (lg 1 (8 * i.width).toNat - 1) 1 w)) ?_
      refine aF bU rfl rfl ak ?_
      refine aB (aX (ac ?_))
      refine cw _ Front.nil (bB 22 rfl) (o := (by show _ = _; unfold iV; rw [if_pos he]; (repeat' split) <;> first | (exfalso; first | (simp_all; done) | grind) | rfl))
     ·refine al (af (zz0 (zz2 (off := 2) (ft := 3) rfl aj rfl aC) ?_))
      refine zz0 (aJ rfl aN) ?_
      refine zz0 (bD rfl rfl) (zz0 (ab rfl) (ad ?_))
      apply dS
      ·exact rfl
      ·intro hO12
       try simp only [bs] at hO12
       refine af (zz0 (zz2 (off := 2) (ft := 3) rfl aj rfl aC) ?_)
       refine zz0 (aJ rfl aN) ?_
       refine zz0 (bD rfl rfl) (zz0 (ab rfl) (ad ?_))
       apply dS
       ·exact rfl
       ·intro hO13
        try simp only [bs] at hO13
        refine ao (zz0 (zz2 (off := 2) (ft := 3) rfl aj rfl aC) ?_)
        refine zz0 (aJ rfl aN) ?_
        refine zz0 (bD rfl rfl) (zz0 (ab rfl) (ad ?_))
        exact eD rfl (bB 4 rfl)
       refine ac ?_
       exact eD rfl (bB 5 rfl)
      refine ac ?_
      refine an rfl ?_ ?_ <;> intro h14 <;> try simp only [bs] at h14
      ·refine ao (zz0 (aA rfl f5 (fun w hw => jY w)) ?_)
       refine aF bU rfl rfl ak ?_
       refine aB (aX (ac ?_))
       refine cw _ Front.nil (bB 22 rfl) (o := (by show _ = _; unfold iV; rw [if_pos he]; (repeat' split) <;> first | (exfalso; first | (simp_all; done) | grind) | rfl))
      ·refine af (zz0 (zz2 (off := 2) (ft := 3) rfl aj rfl aC) ?_)
       refine zz0 (aJ rfl aN) ?_
       refine zz0 (bD rfl rfl) (zz0 (ab rfl) (ad ?_))
       refine an rfl ?_ ?_ <;> intro h15 <;> try simp only [bs] at h15
       ·refine fG 0 8 aS ?_
        refine bG ?_
        refine aw (zz2 (off := 7) (ft := 3) rfl aj rfl aC) ?_
        refine aw (aJ rfl aN) ?_
        refine aw (zz2 (off := 0) (ft := 26) rfl cn rfl dj) ?_
        refine aw (dI rfl rfl co ak (by omega)) ?_
        refine aw (gw (vs := bU.enc (s.get i.b)) rfl (by repeat constructor) aK ak (kV hB (by simp)) rfl) ?_
        refine aw (zz2 (off := 1) (ft := 23) rfl aj rfl ae) ?_
        refine aw (aJ rfl am) ?_
        refine aw (aA rfl Tryz.call304 (fun w hw => CE (s.get i.b) i.imm w)) ?_
        refine bH ?_
        refine aF bU rfl rfl ak ?_
        refine aB (aX (ac ?_))
        refine cw _ Front.nil (bB 33 rfl) (o := (by show _ = _; unfold iV; rw [if_pos he]; (repeat' split) <;> first | (exfalso; first | (simp_all; done) | grind) | rfl))
       ·refine af (zz0 (zz2 (off := 2) (ft := 3) rfl aj rfl aC) ?_)
        refine zz0 (aJ rfl aN) ?_
        refine zz0 (bD rfl rfl) (zz0 (ab rfl) (ad ?_))
        refine an rfl ?_ ?_ <;> intro h16 <;> try simp only [bs] at h16
        ·refine ao (zz0 (aA rfl eB (fun w hw => dL 0 1 1 w)) ?_)
         refine aF bU rfl rfl ak ?_
         refine aB (aX (ac ?_))
         refine cw _ Front.nil (bB 30 rfl) (o := (by show _ = _; unfold iV; rw [if_pos he]; (repeat' split) <;> first | (exfalso; first | (simp_all; done) | grind) | rfl))
        ·refine af (zz0 (zz2 (off := 2) (ft := 3) rfl aj rfl aC) ?_)
         refine zz0 (aJ rfl aN) ?_
         refine zz0 (bD rfl rfl) (zz0 (ab rfl) (ad ?_))
         refine an rfl ?_ ?_ <;> intro h17 <;> try simp only [bs] at h17
         ·refine al (fG 0 7 aS ?_)
          refine bG ?_
          refine aw (zz2 (off := 0) (ft := 26) rfl cn rfl dj) ?_
          refine aw (dI rfl rfl co ak (by omega)) ?_
          refine aw (gw (vs := bU.enc (s.get (7 : Int))) rfl (by repeat constructor) aK ak (kV ⟨by omega, by omega⟩ (by simp)) rfl) ?_
          refine aw (aA rfl iL (fun w hw => jz 4 w)) ?_
          refine aw (aA rfl l6 (fun w hw => pd 4 (s.get 7) (g5 4) w)) ?_
          refine aw (zz2 (off := 0) (ft := 26) rfl cn rfl dj) ?_
          refine aw (dI rfl rfl co ak (by omega)) ?_
          refine bH ?_
          refine f7 rfl rfl ak (by repeat constructor) (kU (k := 7) ⟨by omega, by omega⟩ (by simp) _) (by rfl) (kW (k := 7) ⟨by omega, by omega⟩ (by simp)) (by first | exact Enc.one bU _ | exact List.all_eq_true.1 rfl) rfl ?_
          refine aI (zz0 (bI rfl bX aV) ?_)
          refine aF cH rfl rfl aV ?_
          refine ad (az (bh (ay ?_)))
          refine eT g6 rfl bX aV (fun w' hw => ?_)
          refine ⟨?_, hw.b0⟩
          first | (rw [hi]; rfl) | (unfold iV; (repeat' split) <;> first | (exfalso; first | (simp_all; done) | grind) | rfl)
         ·refine al (af (zz0 (zz2 (off := 2) (ft := 3) rfl aj rfl aC) ?_))
          refine zz0 (aJ rfl aN) ?_
          refine zz0 (bD rfl rfl) (zz0 (ab rfl) (ad ?_))
          apply dS
          ·exact rfl
          ·intro hO18
           try simp only [bs] at hO18
           refine ao (zz0 (zz2 (off := 2) (ft := 3) rfl aj rfl aC) ?_)
           refine zz0 (aJ rfl aN) ?_
           refine zz0 (bD rfl rfl) (zz0 (ab rfl) (ad ?_))
           exact eD rfl (bB 4 rfl)
          refine ac ?_
          refine an rfl ?_ ?_ <;> intro h19 <;> try simp only [bs] at h19
          ·refine al (fG 0 7 aS ?_)
           refine bG ?_
           refine aw (zz2 (off := 0) (ft := 26) rfl cn rfl dj) ?_
           refine aw (dI rfl rfl co ak (by omega)) ?_
           refine aw (gw (vs := bU.enc (s.get (7 : Int))) rfl (by repeat constructor) aK ak (kV ⟨by omega, by omega⟩ (by simp)) rfl) ?_
           refine aw (aA rfl iL (fun w hw => jz 4 w)) ?_
           refine aw (aA rfl l6 (fun w hw => pd 3 (s.get 7) (g5 4) w)) ?_
           refine aw (zz2 (off := 0) (ft := 26) rfl cn rfl dj) ?_
           refine aw (dI rfl rfl co ak (by omega)) ?_
           refine bH ?_
           refine f7 rfl rfl ak (by repeat constructor) (kU (k := 7) ⟨by omega, by omega⟩ (by simp) _) (by rfl) (kW (k := 7) ⟨by omega, by omega⟩ (by simp)) (by first | exact Enc.one bU _ | exact List.all_eq_true.1 rfl) rfl ?_
           refine ad (al (af (zz0 (zz2 (off := 2) (ft := 3) rfl aj rfl aC) ?_)))
           refine zz0 (aJ rfl aN) ?_
           refine zz0 (bD rfl rfl) (ad ?_)
           refine an rfl ?_ ?_ <;> intro h20 <;> try simp only [bs] at h20
           ·refine fG 0 5 aS ?_
            refine bG ?_
            refine aw (zz2 (off := 6) (ft := 3) rfl aj rfl aC) ?_
            refine aw (aJ rfl aN) ?_
            refine aw (aA rfl f5 (fun w hw => jY w)) ?_
            refine aw (zz2 (off := 0) (ft := 26) rfl cn rfl dj) ?_
            refine aw (dI rfl rfl co ak (by omega)) ?_
            refine bH ?_
            refine f7 rfl rfl ak (by repeat constructor) (kU hA (by simp) _) (by rfl) (kW hA (by simp)) (by first | exact Enc.one bU _ | exact List.all_eq_true.1 rfl) rfl ?_
            refine aI (zz0 (bI rfl bX aV) ?_)
            refine aF cH rfl rfl aV ?_
            refine ad (az (bh (ay ?_)))
            refine eT g6 rfl bX aV (fun w' hw => ?_)
            refine ⟨?_, hw.b0⟩
            first | (rw [hi]; rfl) | (unfold iV; (repeat' split) <;> first | (exfalso; first | (simp_all; done) | grind) | rfl)
           ·refine dh (zz0 (bI rfl bX aV) ?_)
            refine aF cH rfl rfl aV ?_
            refine ad (az (bh (ay ?_)))
            refine eT g6 rfl bX aV (fun w' hw => ?_)
            refine ⟨?_, hw.b0⟩
            first | (rw [hi]; rfl) | (unfold iV; (repeat' split) <;> first | (exfalso; first | (simp_all; done) | grind) | rfl)
          ·refine al (af (zz0 (zz2 (off := 2) (ft := 3) rfl aj rfl aC) ?_))
           refine zz0 (aJ rfl aN) ?_
           refine zz0 (bD rfl rfl) (zz0 (ab rfl) (ad ?_))
           apply dS
           ·exact rfl
           ·intro hO21
            try simp only [bs] at hO21
            refine ao (zz0 (zz2 (off := 2) (ft := 3) rfl aj rfl aC) ?_)
            refine zz0 (aJ rfl aN) ?_
            refine zz0 (bD rfl rfl) (zz0 (ab rfl) (ad ?_))
            exact eD rfl (bB 4 rfl)
           refine ac ?_
           refine an rfl ?_ ?_ <;> intro h22 <;> try simp only [bs] at h22
           ·refine af (zz0 (aA rfl Tryz.call162 (fun w hw => oI w)) ?_)
            refine aF cH rfl rfl aV ?_
            refine ad (az (bh (ay ?_)))
            refine eT g6 rfl bX aV (fun w' hw => ?_)
            refine ⟨?_, hw.b0⟩
            first | (rw [hi]; rfl) | (unfold iV; (repeat' split) <;> first | (exfalso; first | (simp_all; done) | grind) | rfl)
           ·refine af (zz0 (bI rfl bX aV) ?_)
            refine aF cH rfl rfl aV ?_
            refine ad (az (bh (ay ?_)))
            refine eT g6 rfl bX aV (fun w' hw => ?_)
            refine ⟨?_, hw.b0⟩
            first | (rw [hi]; rfl) | (unfold iV; (repeat' split) <;> first | (exfalso; first | (simp_all; done) | grind) | rfl)
  ·skip
   replace hi : iV i s = s.set i.a a1 := hi
   change Tr _ _ [cellE b5 (bU.enc a1) 25, cellE b3 (cH.enc gy) 37, cellE b2 (cH.enc s) 37, cellE b1 (aP.enc i) 36] ([] ++ _) _
   refine af (zz0 (zz2 (off := 6) (ft := 3) rfl aj rfl aC) ?_)
   refine zz0 (aJ rfl aN) ?_
   refine zz0 (bI rfl aK ak) ?_
   refine zz0 (zz2 (off := 0) (ft := 26) rfl cn rfl dj) ?_
   refine zz0 (dI rfl rfl co ak (by omega)) ?_
   refine f7 rfl rfl ak (by repeat constructor) (kU hA (by simp) _) (by rfl) (kW hA (by simp)) (by first | exact Enc.one bU _ | exact List.all_eq_true.1 rfl) rfl ?_
   refine aI (zz0 (bI rfl bX aV) ?_)
   refine aF cH rfl rfl aV ?_
   refine ad (az ?_)
   refine eT g6 rfl bX aV (fun w' hw => ?_)
   refine ⟨?_, hw.b0⟩
   first | (rw [hi]; rfl) | (unfold iV; (repeat' split) <;> first | (exfalso; first | (simp_all; done) | grind) | rfl)
theorem Am (cc : Int) (i : Ins) (s : StV) (tk : Bool) (w : World) (hI : InsOK i) :
  Calls Tryz.prog 269 #[.int .i64 cc, .agg (aP.enc i).toArray, .agg (cH.enc s).toArray, .bool tk] w (fun e w' => e = .returned (.agg (cH.enc (qS cc i s tk)).toArray) ∧ Ext w w') := by
 refine enter Tryz.func269 rfl Tryz.ntmps269 rfl ?_
 refine af ?_
 refine dJ rfl rfl (fun b1 => ?_)
 refine dJ rfl rfl (fun b2 => ?_)
 refine dD cS rfl (fun b3 => ?_)
 refine ad (al (af (zz0 (bI rfl aU ax) ?_)))
 refine zz0 (aA rfl Tryz.call225 (fun w hw => sP i w hI)) ?_
 refine zz0 (cN rfl) (ad ?_)
 refine an rfl ?_ ?_ <;> intro h4 <;> try simp only [bs] at h4
 ·refine af (zz0 (bI rfl bX aV) ?_)
  refine aF cH rfl rfl aV ?_
  refine ad (az (ay ?_))
  refine eT mP rfl bX aV (fun w' hw => ?_)
  refine ⟨?_, hw.b0⟩
  unfold qS
  rw [if_pos (by simp_all)]
  rfl
 ·refine bA (al ?_)
  have hcm : AN i = true := by simp_all
  obtain ⟨_, hA, hB, _⟩ := pL (Gq hcm)
  refine d6 ([cellE b3 (cH.enc gy) 37, cellE b2 (cH.enc s) 37, cellE b1 (aP.enc i) 36]) 10 rfl aS ?_
  refine zz4 0 rfl (zz2 (off := 6) (ft := 3) rfl aj rfl aC) ?_
  refine zz4 1 rfl (aJ rfl aN) ?_
  refine zz4 2 rfl (zz2 (off := 0) (ft := 26) rfl cn rfl dj) ?_
  refine j7 3 rfl (by kernel_rfl) (bN dC) (dI rfl rfl co ak (by omega)) ?_
  refine j7 4 rfl (by kernel_rfl) (bN dC) (gw (vs := bU.enc (s.get i.a)) rfl (by repeat constructor) aK ak (kV hA (by simp)) rfl) ?_
  refine zz4 5 rfl (zz2 (off := 1) (ft := 23) rfl aj rfl ae) ?_
  refine zz4 6 rfl (aJ rfl am) ?_
  refine dx [7] (fun iq hq => ?_)
  obtain rfl := List.mem_singleton.1 hq
  refine bJ rfl ?_
  refine dD cK rfl (fun b5 => ?_)
  refine cg ?_
  refine dx [8] (fun iq hq => ?_)
  obtain rfl := List.mem_singleton.1 hq
  refine bJ rfl ?_
  refine aF bU rfl rfl ak ?_
  refine cg ?_
  refine zz4 9 rfl (ab rfl) ?_
  refine iT ?_
  refine ac ?_
  refine db (ι := Int) (fun c1 => c1 = (if tk = true then cc else As cc)) (fun _ => Bg.of w) (fun c1 => [cellE b5 (bU.enc (s.get i.a)) 25, cellE b3 (cH.enc gy) 37, cellE b2 (cH.enc s) 37, cellE b1 (aP.enc i) 36]) (fun c1 => [(0, .int .i64 c1)]) ?_ (fun c1 hi => ?_)
  ·skip
   refine af (zz0 (aa rfl) (zz0 (cN rfl) (ad ?_)))
   refine an rfl ?_ ?_ <;> intro h6 <;> try simp only [bs] at h6
   ·refine ao (zz0 (aa rfl) (zz0 (aA rfl Tryz.call298 (fun w hw => xg cc w)) ?_))
    refine zz0 (ab rfl) (ad ?_)
    refine cw _ (Front.c Front.nil) (bB 5 rfl) (o := (by show _ = _; rw [if_neg (by simp_all)]))
   ·refine bA ?_
    refine cw _ (Front.c Front.nil) (bB 2 rfl) (o := (by show _ = _; rw [if_pos (by simp_all)]))
  ·skip
   replace hi : c1 = (if tk = true then cc else As cc) := hi
   change Tr _ _ [cellE b5 (bU.enc (s.get i.a)) 25, cellE b3 (cH.enc gy) 37, cellE b2 (cH.enc s) 37, cellE b1 (aP.enc i) 36] ([(0, .int .i64 c1)] ++ _) _
   have hrf : qS cc i s tk = nO c1 i s := by unfold qS; rw [if_neg (by rw [hcm]; simp), hi]
   refine db (ι := Int) (fun c2 => nO c1 i s = s.set i.a (fM c2 (s.get i.a) i.imm)) (fun _ => Bg.of w) (fun c2 => [cellE b5 (bU.enc (s.get i.a)) 25, cellE b3 (cH.enc gy) 37, cellE b2 (cH.enc s) 37, cellE b1 (aP.enc i) 36]) (fun c2 => [(0, .int .i64 c2)]) ?_ (fun c2 hi => ?_)
   ·skip
    refine af (zz0 (aa rfl) (zz0 (eE rfl rfl) (zz0 (aa rfl) ?_)))
    apply cm
    ·exact (rfl : _ = (3, 29, 32))
    ·exact rfl
    ·intro hT7; have hT7' := hT7
     try simp only [bs] at hT7'
     refine zz5 hT7 (aa rfl) (zz5 hT7 (fV rfl rfl) (zz0 (aQ rfl hT7 rfl) ?_))
     refine aB (ac ?_)
     exact aH (Sub.cons rfl (zz9 3 rfl))
    ·intro hF7
     refine zz8 hF7 (zz8 hF7 (zz0 (aR rfl hF7 rfl) ?_))
     refine aB (ac ?_)
     exact aH (Sub.cons rfl (zz9 3 rfl))
    refine ad ?_
    refine an rfl ?_ ?_ <;> intro h8 <;> try simp only [bs] at h8
    ·refine al (af (zz0 (bI rfl aK ak) ?_))
     refine zz0 (aA rfl Tryz.call299 (fun w hw => sQ _ w)) ?_
     refine zz0 (cN rfl) (zz0 (aa rfl) ?_)
     apply dB
     ·exact (rfl : _ = (4, 36, 40))
     ·exact rfl
     ·intro hF9; have hF9' := hF9
      try simp only [bs] at hF9'
      refine zz5 hF9 (zz2 (off := 3) (ft := 23) rfl au rfl ae) ?_
      refine zz5 hF9 (aJ rfl am) ?_
      refine zz5 hF9 (nA (n := 2147483648) rfl rfl) ?_
      refine zz0 (aR rfl hF9 rfl) ?_
      refine aB (ac ?_)
      exact aH (Sub.cons rfl (zz9 4 rfl))
     ·intro hT9
      refine zz8 hT9 (zz8 hT9 (zz8 hT9 (zz0 (aQ rfl hT9 rfl) ?_)))
      refine aB (ac ?_)
      exact aH (Sub.cons rfl (zz9 4 rfl))
     refine zz0 (aa rfl) ?_
     apply dB
     ·exact (rfl : _ = (3, 41, 44))
     ·exact rfl
     ·intro hF10; have hF10' := hF10
      try simp only [bs] at hF10'
      refine zz5 hF10 (aa rfl) (zz5 hF10 (nA (n := 2147483648) rfl rfl) ?_)
      refine zz0 (aR rfl hF10 rfl) ?_
      refine aB (ac ?_)
      exact aH (Sub.cons rfl (zz9 3 rfl))
     ·intro hT10
      refine zz8 hT10 (zz8 hT10 (zz0 (aQ rfl hT10 rfl) ?_))
      refine aB (ac ?_)
      exact aH (Sub.cons rfl (zz9 3 rfl))
     refine ad ?_
     refine an rfl ?_ ?_ <;> intro h11 <;> try simp only [bs] at h11
     ·refine af (zz0 (bI rfl bX aV) ?_)
      refine aF cH rfl rfl aV ?_
      refine ad (az (ay (ay ?_)))
      refine eT mP rfl bX aV (fun w' hw => ?_)
      refine ⟨?_, hw.b0⟩
      rw [hrf]
      unfold nO
      (repeat' split) <;> first | (exfalso; first | (simp_all; done) | grind) | rfl
     ·refine dh (zz0 (bO (vs := [(0, _), (1, _), (2, _), (3, _)]) rfl rfl (pB _ _ _ _)) ?_)
      refine dD Tryz.zeroValue319 rfl (fun b12 => ?_)
      refine zz6 rfl rfl Tryz.sizeOf319 ?_
      refine ad (ao (zz0 (aa rfl) (zz0 (dX rfl rfl) ?_)))
      refine zz0 (dI rfl rfl Tryz.underlying319 aC (by omega)) ?_
      refine zz0 (pn (v := .int .i64 (c1 + 4)) rfl (by repeat constructor) aN (Fy (by assumption) (by simp))) ?_
      refine zz0 (ab rfl) (ad ?_)
      refine cw _ (Front.c Front.nil) (bB 18 rfl) (o := (by show _ = _; unfold nO; (repeat' split) <;> first | (exfalso; first | (simp_all; done) | grind) | rfl))
    ·refine bA ?_
     refine cw _ (Front.c Front.nil) (bB 4 rfl) (o := (by show _ = _; unfold nO; (repeat' split) <;> first | (exfalso; first | (simp_all; done) | grind) | rfl))
   ·skip
    replace hi : nO c1 i s = s.set i.a (fM c2 (s.get i.a) i.imm) := hi
    change Tr _ _ [cellE b5 (bU.enc (s.get i.a)) 25, cellE b3 (cH.enc gy) 37, cellE b2 (cH.enc s) 37, cellE b1 (aP.enc i) 36] ([(0, .int .i64 c2)] ++ _) _
    have hi2 := hi
    refine db (ι := VSet) (fun a1 => fM c2 (s.get i.a) i.imm = a1) (fun _ => Bg.of w) (fun a1 => [cellE b5 (bU.enc a1) 25, cellE b3 (cH.enc gy) 37, cellE b2 (cH.enc s) 37, cellE b1 (aP.enc i) 36]) (fun a1 => []) ?_ (fun a1 hi => ?_)
    ·skip
     refine af (zz0 (aa rfl) (ad (aD (af (zz0 (bD rfl rfl) (zz0 (ab rfl) (ad ?_)))))))
     refine an rfl ?_ ?_ <;> intro h13 <;> try simp only [bs] at h13
     ·refine fG 0 4 aS ?_
      refine bG ?_
      refine aw (bI rfl aK ak) ?_
      refine aw (aa rfl) (aw (aA rfl iL (fun w hw => jz i.imm w)) ?_)
      refine aw (aA rfl l7 (fun w hw => qY (s.get i.a) _ w)) ?_
      refine bH ?_
      refine aF bU rfl rfl ak ?_
      refine aB (aX (ac ?_))
      refine cw _ Front.nil (bB 7 rfl) (o := (by show _ = _; unfold fM; (repeat' split) <;> first | (exfalso; first | (simp_all; done) | grind) | rfl))
     ·refine af (zz0 (bD rfl rfl) (zz0 (ab rfl) (ad ?_)))
      refine an rfl ?_ ?_ <;> intro h14 <;> try simp only [bs] at h14
      ·refine ao (zz0 (bI rfl aK ak) ?_)
       refine zz0 (aa rfl) (zz0 (aA rfl Tryz.call301 (fun w hw => yj (s.get i.a) i.imm w)) ?_)
       refine aF bU rfl rfl ak ?_
       refine aB (aX (ac ?_))
       refine cw _ Front.nil (bB 8 rfl) (o := (by show _ = _; unfold fM; (repeat' split) <;> first | (exfalso; first | (simp_all; done) | grind) | rfl))
      ·refine af (zz0 (bD rfl rfl) (zz0 (ab rfl) (ad ?_)))
       refine an rfl ?_ ?_ <;> intro h15 <;> try simp only [bs] at h15
       ·refine al (fG 0 5 aS ?_)
        refine bG ?_
        refine aw (bI rfl aK ak) ?_
        refine aw (aa rfl) (aw (fD (n := 1) rfl rfl) ?_)
        refine aw (aA rfl eB (fun w hw => dL 0 (i.imm - 1) 1 w)) ?_
        refine aw (aA rfl l7 (fun w hw => qY (s.get i.a) _ w)) ?_
        refine bH ?_
        refine aF bU rfl rfl ak ?_
        refine aI (zz0 (aa rfl) (zz0 (eN (n := 0) rfl rfl) ?_))
        refine ad ?_
        refine an rfl ?_ ?_ <;> intro h16 <;> try simp only [bs] at h16
        ·refine ao (zz0 (aA rfl jm (fun w hw => j1 w)) ?_)
         refine aF bU rfl rfl ak ?_
         refine aB (aX (ac ?_))
         refine cw _ Front.nil (bB 15 rfl) (o := (by show _ = _; unfold fM; (repeat' split) <;> first | (exfalso; first | (simp_all; done) | grind) | rfl))
        ·refine cd (aX (ac ?_))
         refine cw _ Front.nil (bB 14 rfl) (o := (by show _ = _; unfold fM; (repeat' split) <;> first | (exfalso; first | (simp_all; done) | grind) | rfl))
       ·refine af (zz0 (bD rfl rfl) (zz0 (ab rfl) (ad ?_)))
        refine an rfl ?_ ?_ <;> intro h17 <;> try simp only [bs] at h17
        ·refine fG 0 4 aS ?_
         refine bG ?_
         refine aw (bI rfl aK ak) ?_
         refine aw (aa rfl) (aw (aA rfl eB (fun w hw => dL 0 i.imm 1 w)) ?_)
         refine aw (aA rfl l7 (fun w hw => qY (s.get i.a) _ w)) ?_
         refine bH ?_
         refine aF bU rfl rfl ak ?_
         refine aB (aX (ac ?_))
         refine cw _ Front.nil (bB 13 rfl) (o := (by show _ = _; unfold fM; (repeat' split) <;> first | (exfalso; first | (simp_all; done) | grind) | rfl))
        ·refine af (zz0 (bD rfl rfl) (zz0 (ab rfl) (ad ?_)))
         refine an rfl ?_ ?_ <;> intro h18 <;> try simp only [bs] at h18
         ·refine fG 0 4 aS ?_
          refine bG ?_
          refine aw (bI rfl aK ak) ?_
          refine aw (aa rfl) (aw (aA rfl eB (fun w hw => dL i.imm 4294967295 1 w)) ?_)
          refine aw (aA rfl l7 (fun w hw => qY (s.get i.a) _ w)) ?_
          refine bH ?_
          refine aF bU rfl rfl ak ?_
          refine aB (aX (ac ?_))
          refine cw _ Front.nil (bB 15 rfl) (o := (by show _ = _; unfold fM; (repeat' split) <;> first | (exfalso; first | (simp_all; done) | grind) | rfl))
         ·refine af (zz0 (bD rfl rfl) (zz0 (ab rfl) (ad ?_)))
          refine an rfl ?_ ?_ <;> intro h19 <;> try simp only [bs] at h19
          ·refine al (fG 0 5 aS ?_)
           refine bG ?_
           refine aw (bI rfl aK ak) ?_
           refine aw (aa rfl) (aw (fY (n := 1) rfl rfl) ?_)
           refine aw (aA rfl eB (fun w hw => dL (i.imm + 1) 4294967295 1 w)) ?_
           refine aw (aA rfl l7 (fun w hw => qY (s.get i.a) _ w)) ?_
           refine bH ?_
           refine aF bU rfl rfl ak ?_
           refine aI (zz0 (aa rfl) (zz0 (eN (n := 4294967295) rfl rfl) ?_))
           refine ad ?_
           refine an rfl ?_ ?_ <;> intro h20 <;> try simp only [bs] at h20
           ·refine ao (zz0 (aA rfl jm (fun w hw => j1 w)) ?_)
            refine aF bU rfl rfl ak ?_
            refine aB (aX (ac ?_))
            refine cw _ Front.nil (bB 21 rfl) (o := (by show _ = _; unfold fM; (repeat' split) <;> first | (exfalso; first | (simp_all; done) | grind) | rfl))
           ·refine cd (aX (ac ?_))
            refine cw _ Front.nil (bB 20 rfl) (o := (by show _ = _; unfold fM; (repeat' split) <;> first | (exfalso; first | (simp_all; done) | grind) | rfl))
          ·refine cd (aX (ac ?_))
           refine cw _ Front.nil (bB 13 rfl) (o := (by show _ = _; unfold fM; (repeat' split) <;> first | (exfalso; first | (simp_all; done) | grind) | rfl))
    ·skip
     replace hi : fM c2 (s.get i.a) i.imm = a1 := hi
     change Tr _ _ [cellE b5 (bU.enc a1) 25, cellE b3 (cH.enc gy) 37, cellE b2 (cH.enc s) 37, cellE b1 (aP.enc i) 36] ([] ++ _) _
     have hi3 := hi
     refine af (zz0 (zz2 (off := 6) (ft := 3) rfl aj rfl aC) ?_)
     refine zz0 (aJ rfl aN) ?_
     refine zz0 (bI rfl aK ak) ?_
     refine zz0 (zz2 (off := 0) (ft := 26) rfl cn rfl dj) ?_
     refine zz0 (dI rfl rfl co ak (by omega)) ?_
     refine f7 rfl rfl ak (by repeat constructor) (kU hA (by simp) _) (by rfl) (kW hA (by simp)) (by first | exact Enc.one bU _ | exact List.all_eq_true.1 rfl) rfl ?_
     refine aI (zz0 (bI rfl bX aV) ?_)
     refine aF cH rfl rfl aV ?_
     refine ad (az ?_)
     refine eT mP rfl bX aV (fun w' hw => ?_)
     refine ⟨?_, hw.b0⟩
     rw [hrf, hi2, hi3]
     rfl
end Go.Proofs.YtiajjbhcpeadfaaGreat
namespace Go.HL
open Go Go.Sort
def ltW (x y : UInt32) : Bool := decide (x < y)
theorem wT : SWO ltW where
 irrefl x := by simp [ltW]
 trans x y z h1 h2 := by simp only [ltW, decide_eq_true_eq, UInt32.lt_iff_toNat_lt] at *; omega
 ntrans x y z h1 h2 := by simp only [ltW, decide_eq_false_iff_not, UInt32.lt_iff_toNat_lt] at *; omega
theorem dP {d : Array UInt32} {i : Nat} : d.toList.getD i default = d[i]! := by
 rw [List.getD_eq_getElem?_getD, Array.getElem?_toList, Array.getElem!_eq_getD, Array.getD_eq_getD_getElem?]
theorem ir {d : Array UInt32} {i j : Nat} : (d.toList.set i d[j]!).set j d[i]! = (swp d i j).toList := by
 simp [swp, Array.toList_setIfInBounds]
theorem nK {d : Array UInt32} {i j : Nat} : (swp d i j).size = d.size := by simp [swp]
theorem za {a b i : Nat} {d : Array UInt32} (h : b ≤ i) : insOuter ltW a b i d = d := by rw [insOuter, if_neg (by omega)]
theorem y9 {a b i : Nat} {d : Array UInt32} (h : i < b) : insOuter ltW a b i d = insOuter ltW a b (i + 1) (insInner ltW a i d) := by rw [insOuter, if_pos h]
theorem s7 {a j : Nat} {d : Array UInt32} (h : a < j) (h2 : ltW d[j]! d[j - 1]! = true) : insInner ltW a j d = insInner ltW a (j - 1) (swp d j (j - 1)) := by
 cases j with
 | zero => omega
 | succ j => rw [insInner, if_pos (by simp only [Bool.and_eq_true, decide_eq_true_eq]; exact ⟨h, h2⟩)]; rfl
theorem qT {a j : Nat} {d : Array UInt32} (h : j ≤ a ∨ ltW d[j]! d[j - 1]! = false) : insInner ltW a j d = d := by
 cases j with
 | zero => rfl
 | succ j =>
  rw [insInner, if_neg]
  simp only [Bool.and_eq_true, decide_eq_true_eq]
  rintro ⟨h1, h2⟩
  rcases h with h | h
  ·omega
  ·rw [show j + 1 - 1 = j from rfl, h2] at h; cases h
theorem yy {hi f r : Nat} {d : Array UInt32} (h : hi ≤ 2 * r + 1) : siftDown ltW hi f r d = d := by rw [siftDown, dif_pos h]
theorem DF {hi f r : Nat} {d : Array UInt32} (h : 2 * r + 2 < hi) (hl : ltW d[f + (2 * r + 1)]! d[f + (2 * r + 1) + 1]! = true) :
  siftDown ltW hi f r d = if ltW d[f + r]! d[f + (2 * r + 2)]! = true then siftDown ltW hi f (2 * r + 2) (swp d (f + r) (f + (2 * r + 2))) else d := by
 rw [siftDown, dif_neg (by omega), if_pos (by simp only [Bool.and_eq_true, decide_eq_true_eq]; exact ⟨by omega, hl⟩), dif_pos h]
 cases ltW d[f + r]! d[f + (2 * r + 2)]! <;> rfl
theorem DG {hi f r : Nat} {d : Array UInt32} (h : 2 * r + 1 < hi) (hl : hi ≤ 2 * r + 2 ∨ ltW d[f + (2 * r + 1)]! d[f + (2 * r + 1) + 1]! = false) :
  siftDown ltW hi f r d = if ltW d[f + r]! d[f + (2 * r + 1)]! = true then siftDown ltW hi f (2 * r + 1) (swp d (f + r) (f + (2 * r + 1))) else d := by
 rw [siftDown, dif_neg (by omega), if_neg]
 ·cases ltW d[f + r]! d[f + (2 * r + 1)]! <;> rfl
 ·simp only [Bool.and_eq_true, decide_eq_true_eq]
  rintro ⟨q1, q2⟩
  rcases hl with hl | hl
  ·omega
  ·rw [q2] at hl; cases hl
theorem sift_size {hi f : Nat} : ∀ (n r : Nat) (d : Array UInt32), hi - r ≤ n → (siftDown ltW hi f r d).size = d.size
 | n, r, d, h => by
  by_cases c1 : hi ≤ 2 * r + 1
  ·rw [yy c1]
  ·cases n with
   | zero => omega
   | succ n =>
    by_cases c2 : 2 * r + 2 < hi ∧ ltW d[f + (2 * r + 1)]! d[f + (2 * r + 1) + 1]! = true
    ·rw [DF c2.1 c2.2]
     split
     ·rw [sift_size n (2 * r + 2) _ (by omega), nK]
     ·rfl
    ·rw [DG (by omega) (by
      by_cases q : 2 * r + 2 < hi
      ·refine .inr ?_
       cases e : ltW d[f + (2 * r + 1)]! d[f + (2 * r + 1) + 1]!
       ·rfl
       ·exact absurd ⟨q, e⟩ c2
      ·exact .inl (by omega))]
     split
     ·rw [sift_size n (2 * r + 1) _ (by omega), nK]
     ·rfl
theorem GQ {hi f r : Nat} {d : Array UInt32} : (siftDown ltW hi f r d).size = d.size := sift_size _ _ _ (Nat.le_refl _)
theorem DU {i j : Nat} {d : Array UInt32} (h : ¬ i < j) : reverseLoop i j d = d := by rw [reverseLoop, if_neg h]
theorem G6 {i j : Nat} {d : Array UInt32} (h : i < j) : reverseLoop i j d = reverseLoop (i + 1) (j - 1) (swp d i j) := by rw [reverseLoop, if_pos h]
theorem Dp {p : UInt32 → Bool} {d : Array UInt32} {i j : Nat} (h : i ≤ j) (hp : p d[i]! = true) : scanUp p d j i = scanUp p d j (i + 1) := by
 rw [scanUp, if_pos (by simp only [Bool.and_eq_true, decide_eq_true_eq]; exact ⟨h, hp⟩)]
theorem wO {p : UInt32 → Bool} {d : Array UInt32} {i j : Nat} (h : j < i ∨ p d[i]! = false) : scanUp p d j i = i := by
 rw [scanUp, if_neg]
 simp only [Bool.and_eq_true, decide_eq_true_eq]
 rintro ⟨q1, q2⟩
 rcases h with h | h
 ·omega
 ·rw [q2] at h; cases h
theorem xC {p : UInt32 → Bool} {d : Array UInt32} {i j : Nat} (h : i ≤ j) (h0 : 0 < j) (hp : p d[j]! = true) : scanDown p d i j = scanDown p d i (j - 1) := by
 obtain ⟨k, rfl⟩ : ∃ k, j = k + 1 := ⟨j - 1, by omega⟩
 rw [scanDown, if_pos (by simp only [Bool.and_eq_true, decide_eq_true_eq]; exact ⟨h, hp⟩)]; rfl
theorem sh {p : UInt32 → Bool} {d : Array UInt32} {i j : Nat} (h : j < i ∨ p d[j]! = false) : scanDown p d i j = j := by
 cases j with
 | zero => rfl
 | succ k =>
  rw [scanDown, if_neg]
  simp only [Bool.and_eq_true, decide_eq_true_eq]
  rintro ⟨q1, q2⟩
  rcases h with h | h
  ·omega
  ·rw [q2] at h; cases h
theorem D7 {a i j I J : Nat} {d : Array UInt32} (hI : scanUp (fun x => ltW x d[a]!) d j i = I) (hJ : scanDown (fun x => !ltW x d[a]!) d I j = J) (h : J < I) : partLoop ltW a i j d = (J, d) := by
 rw [partLoop]; simp only [hI, hJ]; rw [if_pos h]
theorem yM {a i j I J : Nat} {d : Array UInt32} (hI : scanUp (fun x => ltW x d[a]!) d j i = I) (hJ : scanDown (fun x => !ltW x d[a]!) d I j = J) (h : I < J) (h1 : i ≤ I) (h2 : J ≤ j) :
  partLoop ltW a i j d = partLoop ltW a (I + 1) (J - 1) (swp d I J) := by
 rw [partLoop]; simp only [hI, hJ]; rw [if_neg (by omega), dif_pos (by omega)]
theorem Ap {a i j I J : Nat} {d : Array UInt32} (hI : scanUp (fun x => !ltW d[a]! x) d j i = I) (hJ : scanDown (fun x => ltW d[a]! x) d I j = J) (h : J < I) : partEqLoop ltW a i j d = (I, d) := by
 rw [partEqLoop]; simp only [hI, hJ]; rw [if_pos h]
theorem Cy {a i j I J : Nat} {d : Array UInt32} (hI : scanUp (fun x => !ltW d[a]! x) d j i = I) (hJ : scanDown (fun x => ltW d[a]! x) d I j = J) (h : I < J) (h1 : i ≤ I) (h2 : J ≤ j) :
  partEqLoop ltW a i j d = partEqLoop ltW a (I + 1) (J - 1) (swp d I J) := by
 rw [partEqLoop]; simp only [hI, hJ]; rw [if_neg (by omega), dif_pos (by omega)]
theorem HQ {b i : Nat} {d : Array UInt32} (h : i < b) (hl : ltW d[i]! d[i - 1]! = false) : scanSorted ltW d b i = scanSorted ltW d b (i + 1) := by
 rw [scanSorted, if_pos (by simp only [Bool.and_eq_true, decide_eq_true_eq, Bool.not_eq_true']; exact ⟨h, hl⟩)]
theorem FD {b i : Nat} {d : Array UInt32} (h : b ≤ i ∨ ltW d[i]! d[i - 1]! = true) : scanSorted ltW d b i = i := by
 rw [scanSorted, if_neg]
 simp only [Bool.and_eq_true, decide_eq_true_eq, Bool.not_eq_true']
 rintro ⟨q1, q2⟩
 rcases h with h | h
 ·omega
 ·rw [q2] at h; cases h
theorem HS {j : Nat} {d : Array UInt32} (h : 0 < j) (hl : ltW d[j]! d[j - 1]! = true) : shiftDown ltW j d = shiftDown ltW (j - 1) (swp d j (j - 1)) := by
 obtain ⟨k, rfl⟩ : ∃ k, j = k + 1 := ⟨j - 1, by omega⟩
 rw [shiftDown, if_neg (by rw [show k + 1 - 1 = k from rfl] at hl; simp [hl])]; rfl
theorem Bq {j : Nat} {d : Array UInt32} (h : j = 0 ∨ ltW d[j]! d[j - 1]! = false) : shiftDown ltW j d = d := by
 cases j with
 | zero => rfl
 | succ k =>
  rcases h with h | h
  ·omega
  ·rw [shiftDown, if_pos (by rw [show k + 1 - 1 = k from rfl] at h; simp [h])]
theorem HO {b j : Nat} {d : Array UInt32} (h : j < b) (hl : ltW d[j]! d[j - 1]! = true) : shiftUp ltW b j d = shiftUp ltW b (j + 1) (swp d j (j - 1)) := by
 rw [shiftUp, if_pos h, if_neg (by simp [hl])]
theorem Bl {b j : Nat} {d : Array UInt32} (h : b ≤ j ∨ ltW d[j]! d[j - 1]! = false) : shiftUp ltW b j d = d := by
 rw [shiftUp]
 rcases h with h | h
 ·rw [if_neg (by omega)]
 ·split
  ·rw [if_pos (by simp [h])]
  ·rfl
theorem Ar {a b k i x : Nat} {d : Array UInt32} (hX : scanSorted ltW d b i = x) (h : x = b) : partialIns ltW a b (k + 1) i d = (d, true) := by
 rw [partialIns]; simp only [hX]; rw [if_pos h]
theorem Hb {a b k i x : Nat} {d : Array UInt32} (hX : scanSorted ltW d b i = x) (h : x ≠ b) (h2 : b - a < 50) : partialIns ltW a b (k + 1) i d = (d, false) := by
 rw [partialIns]; simp only [hX]; rw [if_neg h, if_pos h2]
theorem rQ {a b k i x : Nat} {d d3 d4 : Array UInt32} (hX : scanSorted ltW d b i = x) (h : x ≠ b) (h2 : ¬ b - a < 50) (h3 : d3 = if x - a ≥ 2 then shiftDown ltW (x - 1) (swp d x (x - 1)) else swp d x (x - 1)) (h4 : d4 = if b - x ≥ 2 then shiftUp ltW b (x + 1) d3 else d3) :
  partialIns ltW a b (k + 1) i d = partialIns ltW a b k x d4 := by
 rw [partialIns]; simp only [hX]; rw [if_neg h, if_neg h2, ← h3, ← h4]
end Go.HL
namespace Go.Proofs.YtiajjbhcpeadfaaGreat
open Go Go.HL Go.RowKit Go.Sort
theorem qW (a : UInt32) (w : World) :
  Calls Tryz.prog 151 #[.int .u32 a.toNat] w (fun e w' => e = .returned (.bool false) ∧ Ext w w') := by
 refine enter Tryz.func151 rfl Tryz.ntmps151 rfl ?_
 refine af (zz0 (ab rfl) (aI (zz0 (aa rfl) (zz0 (aa rfl) (zz0 (jG rfl rfl) ?_)))))
 refine zz0 (ab rfl) (ad (az ?_))
 refine aT Tryz.results151 rfl (fun w' hw => ?_)
 exact ⟨by simp, hw.b0⟩
theorem gR (a b : UInt32) (w : World) :
  Calls Tryz.prog 260 #[.int .u32 a.toNat, .int .u32 b.toNat] w (fun e w' => e = .returned (.bool (ltW a b)) ∧ Ext w w') := by
 refine enter Tryz.func260 rfl Tryz.ntmps260 rfl ?_
 refine af (zz0 (ab rfl) (aI (zz0 (aa rfl) (zz0 (aA rfl od (fun w hw => qW a w)) ?_))))
 refine zz0 (aa rfl) ?_
 apply cm
 ·exact (rfl : _ = (4, 7, 11))
 ·exact rfl
 ·intro hT1; have hT1' := hT1
  try simp only [bs] at hT1'
  refine zz5 hT1 (aa rfl) (zz5 hT1 (aA rfl od (fun w hw => qW b w)) ?_)
  refine zz5 hT1 (cN rfl) (zz0 (aQ rfl hT1 rfl) ?_)
  refine aB (ac ?_)
  exact aH (Sub.cons rfl (zz9 4 rfl))
 ·intro hF1
  refine zz8 hF1 (zz8 hF1 (zz8 hF1 (zz0 (aR rfl hF1 rfl) ?_)))
  refine aB (ac ?_)
  exact aH (Sub.cons rfl (zz9 4 rfl))
 refine zz0 (aa rfl) ?_
 apply dB
 ·exact (rfl : _ = (4, 12, 16))
 ·exact rfl
 ·intro hF2; have hF2' := hF2
  try simp only [bs] at hF2'
  refine zz5 hF2 (aa rfl) (zz5 hF2 (aa rfl) (zz5 hF2 (iH rfl rfl) ?_))
  refine zz0 (aR rfl hF2 rfl) ?_
  refine aB (ac ?_)
  exact aH (Sub.cons rfl (zz9 4 rfl))
 ·intro hT2
  refine zz8 hT2 (zz8 hT2 (zz8 hT2 (zz0 (aQ rfl hT2 rfl) ?_)))
  refine aB (ac ?_)
  exact aH (Sub.cons rfl (zz9 4 rfl))
 refine zz0 (ab rfl) (ad (az ?_))
 refine aT Tryz.results260 rfl (fun w' hw => ?_)
 exact ⟨by simp [ltW], hw.b0⟩
theorem vl (d : Array UInt32) (V : Value) (a : Nat) (b : Nat) (ai : Int) (bi : Int) (ea : ai = ((a : Nat) : Int)) (eb : bi = ((b : Nat) : Int)) (w : World) (hr : (rowE V 23 ar d.toList).holds w) (hd : d.size ≤ 1000000) (hab : a ≤ b) (hb : b ≤ d.size) :
  Calls Tryz.prog 254 #[V, .int .i64 ai, .int .i64 bi] w (fun e w' => e = .returned (.tuple #[]) ∧ Mut w w' V ∧ (rowE V 23 ar (insertionSort ltW d a b).toList).holds w') := by
 subst ea eb
 refine fH (l := d.toList) (E := ar) (T := 23) hr Tryz.func254 rfl Tryz.ntmps254 rfl ?_
 refine af (zz0 (aa rfl) (zz0 (cp rfl rfl) ?_))
 refine zz0 (ab rfl) (ad (aD ?_))
 refine bK (ι := Nat × Array UInt32) (fun ⟨i, cur⟩ => a + 1 ≤ i ∧ cur.size = d.size ∧ insOuter ltW a b i cur = insertionSort ltW d a b) (fun _ => _) (fun ⟨i, cur⟩ => [rowE V 23 ar cur.toList]) (fun ⟨i, cur⟩ => [(6, .int .i64 (i : Nat))]) (fun ⟨i, cur⟩ => b - i) (a + 1, d) ⟨Nat.le_refl _, rfl, rfl⟩ (Front.c Front.nil) (by repeat' constructor) rfl (fun i hi m hm => ?_)
 obtain ⟨i, cur⟩ := i
 replace hi : a + 1 ≤ i ∧ cur.size = d.size ∧ insOuter ltW a b i cur = insertionSort ltW d a b := hi
 replace hm : m = b - i := hm
 change Tr _ _ [rowE V 23 ar cur.toList] ([(6, .int .i64 (i : Nat))] ++ _) _
 obtain ⟨hi1, hi2, hi3⟩ := hi
 have hcl : cur.toList.length = d.size := by rw [Array.length_toList]; exact hi2
 refine al (af (zz0 (aa rfl) (zz0 (aa rfl) (zz0 (bP rfl rfl) (ad ?_)))))
 refine an rfl ?_ ?_ <;> intro h1 <;> try simp only [bs] at h1
 ·refine bA (al (aD (af (zz0 (aa rfl) (zz0 (ab rfl) (ad (aD ?_)))))))
  refine bK (ι := Nat × Array UInt32) (fun ⟨j, c2⟩ => j ≤ i ∧ c2.size = d.size ∧ insInner ltW a j c2 = insInner ltW a i cur) (fun _ => _) (fun ⟨j, c2⟩ => [rowE V 23 ar c2.toList]) (fun ⟨j, c2⟩ => [(7, .int .i64 (j : Nat))]) (fun ⟨j, c2⟩ => j) (i, cur) ⟨Nat.le_refl _, hi2, rfl⟩ (Front.c Front.nil) (by repeat' constructor) rfl (fun i hi m hm => ?_)
  obtain ⟨j, c2⟩ := i
  replace hi : j ≤ i ∧ c2.size = d.size ∧ insInner ltW a j c2 = insInner ltW a i cur := hi
  replace hm : m = j := hm
  change Tr _ _ [rowE V 23 ar c2.toList] ([(7, .int .i64 (j : Nat))] ++ _) _
  obtain ⟨hj1, hj2, hj3⟩ := hi
  have ej : ((j : Int) - 1).toNat = j - 1 := by omega
  have hc2 : c2.toList.length = d.size := by rw [Array.length_toList]; exact hj2
  refine al (al (gQ aS ?_))
  refine aw (aa rfl) (aw (aa rfl) (aw (eo rfl rfl) (aw (aa rfl) ?_)))
  apply e8
  ·exact (rfl : _ = (11, 19, 30))
  ·exact rfl
  ·intro hT2; have hT2' := hT2
   try simp only [bs] at hT2'
   refine bS hT2 (aa rfl) (bS hT2 (aa rfl) (bS hT2 (zz7 rfl rfl ah ae) ?_))
   refine bS hT2 (dY rfl am) ?_
   refine bS hT2 (aa rfl) (bS hT2 (aa rfl) (bS hT2 (dX rfl rfl) ?_))
   refine bS hT2 (jt rfl rfl ah ae) ?_
   refine bS hT2 (dY rfl am) ?_
   refine bS hT2 (aA rfl fC (fun w hw => gR (c2.toList.getD (j) default) (c2.toList.getD (((j : Int) - 1).toNat) default) w)) ?_
   refine aw (aQ rfl hT2 rfl) ?_
   exact cT (Sub.cons rfl (zz9 11 rfl))
  ·intro hF2
   refine bR hF2 (bR hF2 (bR hF2 (bR hF2 (bR hF2 (bR hF2 (bR hF2 (bR hF2 (bR hF2 (bR hF2 (aw (aR rfl hF2 rfl) ?_))))))))))
   exact cT (Sub.cons rfl (zz9 11 rfl))
  refine bH ?_
  refine ac ?_
  refine an rfl ?_ ?_ <;> intro h3 <;> try simp only [bs] at h3
  ·refine bA (al (aD (fG 5 15 aS ?_)))
   refine dZ rfl ?_
   refine dZ rfl ?_
   refine dZ rfl ?_
   refine dZ rfl ?_
   refine gv (fun _ => dX rfl rfl) (by rfl) rfl ?_
   refine bG ?_
   refine aw (aa rfl) (aw (aa rfl) (aw (dX rfl rfl) ?_))
   refine aw (jt rfl rfl ah ae) ?_
   refine aw (dY rfl am) ?_
   refine aw (aa rfl) (aw (aa rfl) (aw (zz7 rfl rfl ah ae) ?_))
   refine aw (dY rfl am) ?_
   refine aw (zz7 rfl rfl ah ae) ?_
   refine bH ?_
   refine gh (l := c2.toList) (i := j) (c2.toList.getD (((j : Int) - 1).toNat) default) rfl rfl ae ?_
   have hls4 : (List.set c2.toList (j) (c2.toList.getD (((j : Int) - 1).toNat) default)).length = (c2.toList).length := List.length_set
   refine zz0 (jt rfl rfl ah ae) ?_
   refine gh (l := (c2.toList.set (j) (c2.toList.getD (((j : Int) - 1).toNat) default))) (i := ((j : Int) - 1).toNat) (c2.toList.getD (j) default) rfl rfl ae ?_
   have hls5 : (List.set (c2.toList.set (j) (c2.toList.getD (((j : Int) - 1).toNat) default)) (((j : Int) - 1).toNat) (c2.toList.getD (j) default)).length = ((c2.toList.set (j) (c2.toList.getD (((j : Int) - 1).toNat) default))).length := List.length_set
   refine aB (aX (ac (ao (zz0 (aa rfl) (zz0 (dX rfl rfl) ?_)))))
   refine zz0 (ab rfl) (ad ?_)
   rw [ej, dP, dP, ir]
   refine cC (j - 1, _) (Front.c Front.nil) (bB 25 rfl) (o := ⟨by omega, by rw [nK]; exact hj2, by rw [← hj3]; exact (s7 (d := c2) (a := a) (j := j) (by omega) (by have q := h3.2; rw [dP, dP, ej] at q; exact q)).symm⟩)
  ·refine bF (aG (aG (bj (aX (ac (ao (zz0 (aa rfl) (zz0 (cp rfl rfl) ?_))))))))
   refine zz0 (ab rfl) (ad ?_)
   have hst : insInner ltW a j c2 = c2 := qT (by
    rcases h3 with q | q
    ·exact .inl (by omega)
    ·rw [dP, dP, ej] at q; exact .inr q)
   rw [hst] at hj3
   refine cC (i + 1, c2) (Front.c Front.nil) (bB 15 rfl) (o := ⟨by omega, hj2, by rw [hj3, ← y9 (by omega)]; exact hi3⟩)
 ·refine bF (aG (aG (bj ?_)))
  refine fq Tryz.results254 (fun w' hw => ?_)
  rw [za (by omega)] at hi3
  exact ⟨rfl, by rw [← hi3]; exact HpOK.mutOwn hw (.head _) rfl⟩
theorem yx (d : Array UInt32) (V : Value) (lo : Nat) (top : Nat) (f : Nat) (loi : Int) (topi : Int) (fi : Int) (elo : loi = ((lo : Nat) : Int)) (etop : topi = ((top : Nat) : Int)) (ef : fi = ((f : Nat) : Int)) (w : World) (hr : (rowE V 23 ar d.toList).holds w) (hd : d.size ≤ 1000000) (hlo : lo ≤ 1000000) (hb : f + top ≤ d.size) :
  Calls Tryz.prog 293 #[V, .int .i64 loi, .int .i64 topi, .int .i64 fi] w (fun e w' => e = .returned (.tuple #[]) ∧ Mut w w' V ∧ (rowE V 23 ar (siftDown ltW top f lo d).toList).holds w') := by
 subst elo etop ef
 refine fH (l := d.toList) (E := ar) (T := 23) hr Tryz.func293 rfl Tryz.ntmps293 rfl ?_
 refine af (zz0 (aa rfl) (zz0 (ab rfl) (ad (aD ?_))))
 refine bK (ι := Nat × Array UInt32) (fun ⟨r, cur⟩ => r ≤ 1000000 ∧ cur.size = d.size ∧ siftDown ltW top f r cur = siftDown ltW top f lo d) (fun _ => _) (fun ⟨r, cur⟩ => [rowE V 23 ar cur.toList]) (fun ⟨r, cur⟩ => [(8, .int .i64 (r : Nat))]) (fun ⟨r, cur⟩ => top - r) (lo, d) ⟨hlo, rfl, rfl⟩ (Front.c Front.nil) (by repeat' constructor) rfl (fun i hi m hm => ?_)
 obtain ⟨r, cur⟩ := i
 replace hi : r ≤ 1000000 ∧ cur.size = d.size ∧ siftDown ltW top f r cur = siftDown ltW top f lo d := hi
 replace hm : m = top - r := hm
 change Tr _ _ [rowE V 23 ar cur.toList] ([(8, .int .i64 (r : Nat))] ++ _) _
 obtain ⟨hr1, hr2, hr3⟩ := hi
 have hcl : cur.toList.length = d.size := by rw [Array.length_toList]; exact hr2
 refine aD (af (zz0 (aa rfl) (zz0 (kE rfl rfl (by omega)) ?_)))
 refine zz0 (cp rfl rfl) ?_
 refine zz0 (ab rfl) (ad (al (af (zz0 (aa rfl) (zz0 (aa rfl) (zz0 (eE rfl rfl) (ad ?_)))))))
 refine an rfl ?_ ?_ <;> intro h1 <;> try simp only [bs] at h1
 ·refine bF (aG (jp rfl ?_))
  refine aG (bj ?_)
  refine fq Tryz.results293 (fun w' hw => ?_)
  rw [yy (by omega)] at hr3
  exact ⟨rfl, by rw [← hr3]; exact HpOK.mutOwn hw (.head _) rfl⟩
 ·refine bA ?_
  refine db (ι := Nat) (fun c => (2 * r + 1 ≤ c ∧ c < top) ∧ siftDown ltW top f r cur = if ltW cur[f + r]! cur[f + c]! = true then siftDown ltW top f c (swp cur (f + r) (f + c)) else cur) (fun _ => Bg.less w V) (fun c => [rowE V 23 ar cur.toList]) (fun c => [(9, .int .i64 (c : Nat))]) ?_ (fun c hi => ?_)
  ·skip
   refine al (gQ aS ?_)
   refine aw (aa rfl) (aw (cp rfl rfl) ?_)
   refine aw (aa rfl) (aw (bP rfl rfl) (aw (aa rfl) ?_))
   apply e8
   ·exact (rfl : _ = (15, 21, 36))
   ·exact rfl
   ·intro hT2; have hT2' := hT2
    try simp only [bs] at hT2'
    refine bS hT2 (aa rfl) (bS hT2 (aa rfl) (bS hT2 (aa rfl) (bS hT2 (cp rfl rfl) ?_)))
    refine bS hT2 (jt rfl rfl ah ae) ?_
    refine bS hT2 (dY rfl am) ?_
    refine bS hT2 (aa rfl) (bS hT2 (aa rfl) (bS hT2 (aa rfl) (bS hT2 (cp rfl rfl) ?_)))
    refine bS hT2 (cp rfl rfl) ?_
    refine bS hT2 (jt rfl rfl ah ae) ?_
    refine bS hT2 (dY rfl am) ?_
    refine bS hT2 (aA rfl fC (fun w hw => gR (cur.toList.getD (f + (2 * r + 1)) default) (cur.toList.getD (f + (2 * r + 1) + 1) default) w)) ?_
    refine aw (aQ rfl hT2 rfl) ?_
    exact cT (Sub.cons rfl (zz9 15 rfl))
   ·intro hF2
    refine bR hF2 (bR hF2 (bR hF2 (bR hF2 (bR hF2 (bR hF2 (bR hF2 (bR hF2 (bR hF2 (bR hF2 (bR hF2 (bR hF2 (bR hF2 (bR hF2 ?_)))))))))))))
    refine aw (aR rfl hF2 rfl) ?_
    exact cT (Sub.cons rfl (zz9 15 rfl))
   refine bH ?_
   refine ac ?_
   refine an rfl ?_ ?_ <;> intro h3 <;> try simp only [bs] at h3
   ·refine ao (zz0 (aa rfl) (zz0 (cp rfl rfl) ?_))
    refine zz0 (ab rfl) (ad ?_)
    refine cw (2 * r + 2) (Front.c Front.nil) (bB 9 rfl) (o := ⟨by omega, DF (by omega) (by rw [← dP, ← dP]; exact h3.2)⟩)
   ·refine bA ?_
    apply ed (2 * r + 1)
    ·exact rfl
    ·exact (Front.c Front.nil)
    ·exact bB 6 rfl
    ·exact (by repeat' constructor)
    ·exact ⟨by omega, DG (by omega) (by
      rcases h3 with q | q
      ·exact .inl (by omega)
      ·exact .inr (by rw [← dP, ← dP]; exact q))⟩
  ·skip
   replace hi : (2 * r + 1 ≤ c ∧ c < top) ∧ siftDown ltW top f r cur = if ltW cur[f + r]! cur[f + c]! = true then siftDown ltW top f c (swp cur (f + r) (f + c)) else cur := hi
   change Tr _ _ [rowE V 23 ar cur.toList] ([(9, .int .i64 (c : Nat))] ++ _) _
   obtain ⟨hc1, hc2⟩ := hi
   refine al (al (gQ aS ?_))
   refine aw (aa rfl) (aw (aa rfl) (aw (aa rfl) (aw (cp rfl rfl) ?_)))
   refine aw (zz7 rfl rfl ah ae) ?_
   refine aw (dY rfl am) ?_
   refine aw (aa rfl) (aw (aa rfl) (aw (aa rfl) (aw (cp rfl rfl) ?_)))
   refine aw (zz7 rfl rfl ah ae) ?_
   refine aw (dY rfl am) ?_
   refine aw (aA rfl fC (fun w hw => gR (cur.toList.getD (f + r) default) (cur.toList.getD (f + c) default) w)) ?_
   refine aw (cN rfl) (bH ?_)
   refine ac ?_
   refine an rfl ?_ ?_ <;> intro h4 <;> try simp only [bs] at h4
   ·refine az (ay (bh (ay (bh ?_))))
    refine lC Tryz.results293 (fun w' hw => ?_)
    rw [if_neg (by rw [← dP, ← dP]; simp_all)] at hc2
    exact ⟨rfl, by rw [← hr3, hc2]; exact HpOK.mutOwn hw (.head _) rfl⟩
   ·refine bA (al (fG 8 21 aS ?_))
    refine dZ rfl ?_
    refine dZ rfl ?_
    refine dZ rfl ?_
    refine gv (fun _ => cp rfl rfl) (by rfl) rfl ?_
    refine dZ rfl ?_
    refine dZ rfl ?_
    refine dZ rfl ?_
    refine gv (fun _ => cp rfl rfl) (by rfl) rfl ?_
    refine bG ?_
    refine aw (aa rfl) (aw (aa rfl) (aw (aa rfl) (aw (cp rfl rfl) ?_)))
    refine aw (zz7 rfl rfl ah ae) ?_
    refine aw (dY rfl am) ?_
    refine aw (aa rfl) (aw (aa rfl) (aw (aa rfl) (aw (cp rfl rfl) ?_)))
    refine aw (zz7 rfl rfl ah ae) ?_
    refine aw (dY rfl am) ?_
    refine aw (zz7 rfl rfl ah ae) ?_
    refine bH ?_
    refine gh (l := cur.toList) (i := f + r) (cur.toList.getD (f + c) default) rfl rfl ae ?_
    have hls5 : (List.set cur.toList (f + r) (cur.toList.getD (f + c) default)).length = (cur.toList).length := List.length_set
    refine zz0 (zz7 rfl rfl ah ae) ?_
    refine gh (l := (cur.toList.set (f + r) (cur.toList.getD (f + c) default))) (i := f + c) (cur.toList.getD (f + r) default) rfl rfl ae ?_
    have hls6 : (List.set (cur.toList.set (f + r) (cur.toList.getD (f + c) default)) (f + c) (cur.toList.getD (f + r) default)).length = ((cur.toList.set (f + r) (cur.toList.getD (f + c) default))).length := List.length_set
    refine ad (ao (zz0 (aa rfl) (zz0 (ab rfl) (aB (aX (ac ?_))))))
    rw [dP, dP, ir]
    have hst := hc2
    rw [if_pos (by rw [← dP, ← dP]; simp_all)] at hst
    refine cC (c, _) (Front.c Front.nil) (bB 47 rfl) (o := ⟨by omega, by rw [nK]; exact hr2, by rw [← hr3]; exact hst.symm⟩)
theorem Ep (d : Array UInt32) (V : Value) (a : Nat) (b : Nat) (ai : Int) (bi : Int) (ea : ai = ((a : Nat) : Int)) (eb : bi = ((b : Nat) : Int)) (w : World) (hr : (rowE V 23 ar d.toList).holds w) (hd : d.size ≤ 1000000) (hab : a < b) (hb : b ≤ d.size) :
  Calls Tryz.prog 255 #[V, .int .i64 ai, .int .i64 bi] w (fun e w' => e = .returned (.tuple #[]) ∧ Mut w w' V ∧ (rowE V 23 ar (heapSort ltW d a b).toList).holds w') := by
 subst ea eb
 obtain ⟨n, hn⟩ : ∃ n, n = b - a := ⟨_, rfl⟩
 obtain ⟨d0, hd0⟩ : ∃ x, x = heapBuild ltW n a ((n - 1) / 2 + 1) d := ⟨_, rfl⟩
 have hhs : heapSort ltW d a b = heapPop ltW a n d0 := by rw [hd0, hn]; rfl
 refine fH (l := d.toList) (E := ar) (T := 23) hr Tryz.func255 rfl Tryz.ntmps255 rfl ?_
 refine af (zz0 (aa rfl) (zz0 (ab rfl) (aI (zz0 (ab rfl) (aI (zz0 (aa rfl) ?_))))))
 refine zz0 (aa rfl) (zz0 (dX rfl rfl) ?_)
 refine zz0 (ab rfl) (ad (al (al ?_)))
 rw [show ((b : Nat) : Int) - ((a : Nat) : Int) = ((n : Nat) : Int) by omega]
 refine ao (zz0 (aa rfl) (zz0 (dX rfl rfl) ?_))
 refine zz0 (ou rfl rfl (by omega)) ?_
 refine zz0 (ab rfl) (ad (aD ?_))
 refine bK (ι := Nat × Array UInt32) (fun ⟨k, cur⟩ => k ≤ (n - 1) / 2 + 1 ∧ cur.size = d.size ∧ heapBuild ltW n a k cur = d0) (fun _ => _) (fun ⟨k, cur⟩ => [rowE V 23 ar cur.toList]) (fun ⟨k, cur⟩ => [(9, .int .i64 ((k : Int) - 1))]) (fun ⟨k, cur⟩ => k) ((n - 1) / 2 + 1, d) ⟨Nat.le_refl _, rfl, hd0.symm⟩ (Front.c Front.nil) (by repeat' constructor) rfl (fun i hi m hm => ?_)
 obtain ⟨k, cur⟩ := i
 replace hi : k ≤ (n - 1) / 2 + 1 ∧ cur.size = d.size ∧ heapBuild ltW n a k cur = d0 := hi
 replace hm : m = k := hm
 change Tr _ _ [rowE V 23 ar cur.toList] ([(9, .int .i64 ((k : Int) - 1))] ++ _) _
 obtain ⟨hk1, hk2, hk3⟩ := hi
 have hcl : cur.toList.length = d.size := by rw [Array.length_toList]; exact hk2
 refine al (af (zz0 (aa rfl) (zz0 (eE rfl rfl) (ad ?_))))
 refine an rfl ?_ ?_ <;> intro h1 <;> try simp only [bs] at h1
 ·refine bA (al (aD (ao (zz0 (aa rfl) (zz0 (aa rfl) (zz0 (aa rfl) (zz0 (aa rfl) (dU rfl Tryz.call293 (by repeat constructor) (fun w hw => yx cur V (k - 1) n a _ _ _ (by omega) (by omega) (by omega) w (hw.ent _ (.head _)) (by omega) (by omega) (by omega)) rfl ?_))))))))
  refine aB (aX (ac (ao (zz0 (aa rfl) (zz0 (dX rfl rfl) ?_)))))
  refine zz0 (ab rfl) (ad ?_)
  have hst : heapBuild ltW n a (k - 1) (siftDown ltW n a (k - 1) cur) = d0 := by
   obtain ⟨q, rfl⟩ : ∃ q, k = q + 1 := ⟨k - 1, by omega⟩
   exact hk3
  refine cC (k - 1, _) (Front.c Front.nil) (bB 11 rfl) (o := ⟨by omega, by rw [GQ]; exact hk2, hst⟩)
 ·refine bF (aG (aG (bj (ac (al ?_)))))
  obtain rfl : k = 0 := by omega
  have hd1 : cur = d0 := hk3
  subst hd1
  refine ao (zz0 (aa rfl) (zz0 (dX rfl rfl) ?_))
  refine zz0 (ab rfl) (ad (aD ?_))
  refine bK (ι := Nat × Array UInt32) (fun ⟨k, cur⟩ => k ≤ n ∧ cur.size = d.size ∧ heapPop ltW a k cur = heapSort ltW d a b) (fun _ => _) (fun ⟨k, cur⟩ => [rowE V 23 ar cur.toList]) (fun ⟨k, cur⟩ => [(10, .int .i64 ((k : Int) - 1))]) (fun ⟨k, cur⟩ => k) (n, _) ⟨Nat.le_refl _, hk2, hhs.symm⟩ (Front.c Front.nil) (by repeat' constructor) rfl (fun i hi m hm => ?_)
  obtain ⟨k, cur⟩ := i
  replace hi : k ≤ n ∧ cur.size = d.size ∧ heapPop ltW a k cur = heapSort ltW d a b := hi
  replace hm : m = k := hm
  change Tr _ _ [rowE V 23 ar cur.toList] ([(10, .int .i64 ((k : Int) - 1))] ++ _) _
  obtain ⟨hk1, hk2, hk3⟩ := hi
  have hcl : cur.toList.length = d.size := by rw [Array.length_toList]; exact hk2
  have ek : ((a : Int) + ((k : Int) - 1)).toNat = a + (k - 1) ∨ k = 0 := by omega
  refine al (af (zz0 (aa rfl) (zz0 (eE rfl rfl) (ad ?_))))
  refine an rfl ?_ ?_ <;> intro h2 <;> try simp only [bs] at h2
  ·refine bA (al (aD (al (fG 6 17 aS ?_))))
   refine dZ rfl ?_
   refine dZ rfl ?_
   refine dZ rfl ?_
   refine dZ rfl ?_
   refine dZ rfl ?_
   refine gv (fun _ => cp rfl rfl) (by rfl) rfl ?_
   refine bG ?_
   refine aw (aa rfl) (aw (aa rfl) (aw (aa rfl) (aw (cp rfl rfl) ?_)))
   refine aw (jt rfl rfl ah ae) ?_
   refine aw (dY rfl am) ?_
   refine aw (aa rfl) (aw (aa rfl) (aw (zz7 rfl rfl ah ae) ?_))
   refine aw (dY rfl am) ?_
   refine aw (zz7 rfl rfl ah ae) ?_
   refine bH ?_
   refine gh (l := cur.toList) (i := a) (cur.toList.getD (((a : Int) + ((k : Int) - 1)).toNat) default) rfl rfl ae ?_
   have hls3 : (List.set cur.toList (a) (cur.toList.getD (((a : Int) + ((k : Int) - 1)).toNat) default)).length = (cur.toList).length := List.length_set
   refine zz0 (jt rfl rfl ah ae) ?_
   refine gh (l := (cur.toList.set (a) (cur.toList.getD (((a : Int) + ((k : Int) - 1)).toNat) default))) (i := ((a : Int) + ((k : Int) - 1)).toNat) (cur.toList.getD (a) default) rfl rfl ae ?_
   have hls4 : (List.set (cur.toList.set (a) (cur.toList.getD (((a : Int) + ((k : Int) - 1)).toNat) default)) (((a : Int) + ((k : Int) - 1)).toNat) (cur.toList.getD (a) default)).length = ((cur.toList.set (a) (cur.toList.getD (((a : Int) + ((k : Int) - 1)).toNat) default))).length := List.length_set
   rw [ek.resolve_right (by omega), dP, dP, ir]
   refine ad (ao (zz0 (aa rfl) (zz0 (aa rfl) (zz0 (aa rfl) (zz0 (aa rfl) (dU rfl Tryz.call293 (by repeat constructor) (fun w hw => yx (swp cur a (a + (k - 1))) V 0 (k - 1) a _ _ _ (by omega) (by omega) (by omega) w (hw.ent _ (.head _)) (by rw [nK]; omega) (by omega) (by rw [nK]; omega)) rfl ?_))))))
   refine aB (aX (ac (ao (zz0 (aa rfl) (zz0 (dX rfl rfl) ?_)))))
   refine zz0 (ab rfl) (ad ?_)
   have hst : heapPop ltW a (k - 1) (siftDown ltW (k - 1) a 0 (swp cur a (a + (k - 1)))) = heapSort ltW d a b := by
    obtain ⟨q, rfl⟩ : ∃ q, k = q + 1 := ⟨k - 1, by omega⟩
    exact hk3
   refine cC (k - 1, _) (Front.c Front.nil) (bB 29 rfl) (o := ⟨by omega, by rw [GQ, nK]; exact hk2, hst⟩)
  ·refine bF (aG (aG (bj ?_)))
   refine fq Tryz.results255 (fun w' hw => ?_)
   obtain rfl : k = 0 := by omega
   exact ⟨rfl, by rw [← hk3]; exact HpOK.mutOwn hw (.head _) rfl⟩
theorem yD (d : Array UInt32) (V : Value) (a : Nat) (b : Nat) (ai : Int) (bi : Int) (ea : ai = ((a : Nat) : Int)) (eb : bi = ((b : Nat) : Int)) (w : World) (hr : (rowE V 23 ar d.toList).holds w) (hd : d.size ≤ 1000000) (hab : a < b) (hb : b ≤ d.size) :
  Calls Tryz.prog 258 #[V, .int .i64 ai, .int .i64 bi] w (fun e w' => e = .returned (.tuple #[]) ∧ Mut w w' V ∧ (rowE V 23 ar (reverseRange d a b).toList).holds w') := by
 subst ea eb
 refine fH (l := d.toList) (E := ar) (T := 23) hr Tryz.func258 rfl Tryz.ntmps258 rfl ?_
 refine af (zz0 (aa rfl) (zz0 (ab rfl) (aI (zz0 (aa rfl) (zz0 (dX rfl rfl) ?_)))))
 refine zz0 (ab rfl) (ad (aD ?_))
 refine bK (ι := Nat × Nat × Array UInt32) (fun ⟨i, j, cur⟩ => (a ≤ i ∧ j < b) ∧ cur.size = d.size ∧ reverseLoop i j cur = reverseRange d a b) (fun _ => _) (fun ⟨i, j, cur⟩ => [rowE V 23 ar cur.toList]) (fun ⟨i, j, cur⟩ => [(6, .int .i64 (i : Nat)), (7, .int .i64 (j : Nat))]) (fun ⟨i, j, cur⟩ => j - i) (a, b - 1, d) ⟨⟨Nat.le_refl _, by omega⟩, rfl, rfl⟩ (Front.c (Front.c Front.nil)) (by repeat' constructor) rfl (fun i hi m hm => ?_)
 obtain ⟨i, j, cur⟩ := i
 replace hi : (a ≤ i ∧ j < b) ∧ cur.size = d.size ∧ reverseLoop i j cur = reverseRange d a b := hi
 replace hm : m = j - i := hm
 change Tr _ _ [rowE V 23 ar cur.toList] ([(6, .int .i64 (i : Nat)), (7, .int .i64 (j : Nat))] ++ _) _
 obtain ⟨hi1, hi2, hi3⟩ := hi
 have hcl : cur.toList.length = d.size := by rw [Array.length_toList]; exact hi2
 refine al (af (zz0 (aa rfl) (zz0 (aa rfl) (zz0 (bP rfl rfl) (ad ?_)))))
 refine an rfl ?_ ?_ <;> intro h1 <;> try simp only [bs] at h1
 ·refine bA (aD (al (fG 4 13 aS ?_)))
  refine dZ rfl ?_
  refine dZ rfl ?_
  refine dZ rfl ?_
  refine dZ rfl ?_
  refine bG ?_
  refine aw (aa rfl) (aw (aa rfl) (aw (zz7 rfl rfl ah ae) ?_))
  refine aw (dY rfl am) ?_
  refine aw (aa rfl) (aw (aa rfl) (aw (zz7 rfl rfl ah ae) ?_))
  refine aw (dY rfl am) ?_
  refine aw (zz7 rfl rfl ah ae) ?_
  refine bH ?_
  refine gh (l := cur.toList) (i := i) (cur.toList.getD (j) default) rfl rfl ae ?_
  have hls2 : (List.set cur.toList (i) (cur.toList.getD (j) default)).length = (cur.toList).length := List.length_set
  refine zz0 (zz7 rfl rfl ah ae) ?_
  refine gh (l := (cur.toList.set (i) (cur.toList.getD (j) default))) (i := j) (cur.toList.getD (i) default) rfl rfl ae ?_
  have hls3 : (List.set (cur.toList.set (i) (cur.toList.getD (j) default)) (j) (cur.toList.getD (i) default)).length = ((cur.toList.set (i) (cur.toList.getD (j) default))).length := List.length_set
  refine aI (zz0 (aa rfl) (zz0 (cp rfl rfl) ?_))
  refine zz0 (ab rfl) (ad (ao (zz0 (aa rfl) (zz0 (dX rfl rfl) ?_))))
  refine zz0 (ab rfl) (aB (aX (ac ?_)))
  rw [dP, dP, ir]
  refine cC (i + 1, j - 1, _) (Front.c (Front.c Front.nil)) (bB 25 rfl) (o := ⟨⟨by omega, by omega⟩, by rw [nK]; exact hi2, by rw [← G6 (by omega)]; exact hi3⟩)
 ·refine bF (aG (aG (bj ?_)))
  refine fq Tryz.results258 (fun w' hw => ?_)
  rw [DU (by omega)] at hi3
  exact ⟨rfl, by rw [← hi3]; exact HpOK.mutOwn hw (.head _) rfl⟩
theorem vg (d : Array UInt32) (V : Value) (a : Nat) (b : Nat) (p : Nat) (ai : Int) (bi : Int) (pi : Int) (ea : ai = ((a : Nat) : Int)) (eb : bi = ((b : Nat) : Int)) (ep : pi = ((p : Nat) : Int)) (w : World) (hr : (rowE V 23 ar d.toList).holds w) (hd : d.size ≤ 1000000) (hab : a + 1 < b) (hb : b ≤ d.size) (hp : p < b) :
  Calls Tryz.prog 262 #[V, .int .i64 ai, .int .i64 bi, .int .i64 pi] w (fun e w' => e = .returned (.tuple #[.int .i64 ((partition ltW d a b p).1 : Nat), .bool (partition ltW d a b p).2.1]) ∧ Mut w w' V ∧ (rowE V 23 ar (partition ltW d a b p).2.2.toList).holds w') := by
 subst ea eb ep
 obtain ⟨d1, hd1⟩ : ∃ x, x = swp d a p := ⟨_, rfl⟩
 have hs1 : d1.size = d.size := by rw [hd1, nK]
 have hl0 : d.toList.length = d.size := Array.length_toList
 have hl1 : d1.toList.length = d.size := by rw [Array.length_toList]; exact hs1
 obtain ⟨P, hP⟩ : ∃ P : UInt32 → Bool, P = fun x => ltW x d1[a]! := ⟨_, rfl⟩
 refine fH (l := d.toList) (E := ar) (T := 23) hr Tryz.func262 rfl Tryz.ntmps262 rfl ?_
 refine af (zz0 (ab rfl) (zz0 (ab rfl) (ad (al (fG 4 13 aS ?_)))))
 refine dZ rfl ?_
 refine dZ rfl ?_
 refine dZ rfl ?_
 refine dZ rfl ?_
 refine bG ?_
 refine aw (aa rfl) (aw (aa rfl) (aw (zz7 rfl rfl ah ae) ?_))
 refine aw (dY rfl am) ?_
 refine aw (aa rfl) (aw (aa rfl) (aw (zz7 rfl rfl ah ae) ?_))
 refine aw (dY rfl am) ?_
 refine aw (zz7 rfl rfl ah ae) ?_
 refine bH ?_
 refine gh (l := d.toList) (i := a) (d.toList.getD (p) default) rfl rfl ae ?_
 have hls1 : (List.set d.toList (a) (d.toList.getD (p) default)).length = (d.toList).length := List.length_set
 refine zz0 (zz7 rfl rfl ah ae) ?_
 refine gh (l := (d.toList.set (a) (d.toList.getD (p) default))) (i := p) (d.toList.getD (a) default) rfl rfl ae ?_
 have hls2 : (List.set (d.toList.set (a) (d.toList.getD (p) default)) (p) (d.toList.getD (a) default)).length = ((d.toList.set (a) (d.toList.getD (p) default))).length := List.length_set
 rw [dP, dP, ir, ← hd1]
 refine aI (zz0 (aa rfl) (zz0 (cp rfl rfl) ?_))
 refine zz0 (aa rfl) (zz0 (dX rfl rfl) ?_)
 refine zz0 (ab rfl) (zz0 (ab rfl) (ad (al (aD ?_))))
 refine bK (ι := Nat) (fun i => a + 1 ≤ i ∧ i ≤ b ∧ scanUp (fun x => ltW x d1[a]!) d1 (b - 1) i = scanUp (fun x => ltW x d1[a]!) d1 (b - 1) (a + 1)) (fun _ => _) (fun i => [rowE V 23 ar d1.toList]) (fun i => [(10, .int .i64 (i : Nat)), (11, .int .i64 ((b : Int) - 1))]) (fun i => b - i) (a + 1) ⟨Nat.le_refl _, by omega, rfl⟩ (Front.c (Front.c Front.nil)) (by repeat' constructor) rfl (fun i hi m hm => ?_)
 replace hi : a + 1 ≤ i ∧ i ≤ b ∧ scanUp (fun x => ltW x d1[a]!) d1 (b - 1) i = scanUp (fun x => ltW x d1[a]!) d1 (b - 1) (a + 1) := hi
 replace hm : m = b - i := hm
 change Tr _ _ [rowE V 23 ar d1.toList] ([(10, .int .i64 (i : Nat)), (11, .int .i64 ((b : Int) - 1))] ++ _) _
 obtain ⟨hi1, hi2, hi3⟩ := hi
 refine al (al (gQ aS ?_))
 refine aw (aa rfl) (aw (aa rfl) (aw (fV rfl rfl) (aw (aa rfl) ?_)))
 apply e8
 ·exact (rfl : _ = (10, 33, 43))
 ·exact rfl
 ·intro hT3; have hT3' := hT3
  try simp only [bs] at hT3'
  refine bS hT3 (aa rfl) (bS hT3 (aa rfl) (bS hT3 (zz7 rfl rfl ah ae) ?_))
  refine bS hT3 (dY rfl am) ?_
  refine bS hT3 (aa rfl) (bS hT3 (aa rfl) (bS hT3 (zz7 rfl rfl ah ae) ?_))
  refine bS hT3 (dY rfl am) ?_
  refine bS hT3 (aA rfl fC (fun w hw => gR (d1.toList.getD (i) default) (d1.toList.getD (a) default) w)) ?_
  refine aw (aQ rfl hT3 rfl) ?_
  exact cT (Sub.cons rfl (zz9 10 rfl))
 ·intro hF3
  refine bR hF3 (bR hF3 (bR hF3 (bR hF3 (bR hF3 (bR hF3 (bR hF3 (bR hF3 (bR hF3 (aw (aR rfl hF3 rfl) ?_)))))))))
  exact cT (Sub.cons rfl (zz9 10 rfl))
 refine bH ?_
 refine ac ?_
 refine an rfl ?_ ?_ <;> intro h4 <;> try simp only [bs] at h4
 ·refine bA (aD (ao (zz0 (aa rfl) (zz0 (cp rfl rfl) ?_))))
  refine zz0 (ab rfl) (aB (aX (ac ?_)))
  refine cC (i + 1) (Front.c (Front.c Front.nil)) (bB 10 rfl) (o := ⟨by omega, by omega, by rw [← hi3]; exact (Dp (by omega) (by rw [← dP, ← dP]; exact h4.2)).symm⟩)
 ·refine bF (aG (aG (bj (ac (al (aD ?_))))))
  refine bK (ι := Nat) (fun j => j < b ∧ i ≤ j + 1 ∧ scanDown (fun x => !ltW x d1[a]!) d1 i j = scanDown (fun x => !ltW x d1[a]!) d1 i (b - 1)) (fun _ => _) (fun j => [rowE V 23 ar d1.toList]) (fun j => [(10, .int .i64 (i : Nat)), (11, .int .i64 (j : Nat))]) (fun j => j) (b - 1) ⟨by omega, by omega, rfl⟩ (Front.c (Front.c Front.nil)) (by repeat' constructor) rfl (fun j hi m hm => ?_)
  replace hi : j < b ∧ i ≤ j + 1 ∧ scanDown (fun x => !ltW x d1[a]!) d1 i j = scanDown (fun x => !ltW x d1[a]!) d1 i (b - 1) := hi
  replace hm : m = j := hm
  change Tr _ _ [rowE V 23 ar d1.toList] ([(10, .int .i64 (i : Nat)), (11, .int .i64 (j : Nat))] ++ _) _
  obtain ⟨hj1, hj2, hj3⟩ := hi
  refine al (al (gQ aS ?_))
  refine aw (aa rfl) (aw (aa rfl) (aw (fV rfl rfl) (aw (aa rfl) ?_)))
  apply e8
  ·exact (rfl : _ = (11, 49, 60))
  ·exact rfl
  ·intro hT5; have hT5' := hT5
   try simp only [bs] at hT5'
   refine bS hT5 (aa rfl) (bS hT5 (aa rfl) (bS hT5 (zz7 rfl rfl ah ae) ?_))
   refine bS hT5 (dY rfl am) ?_
   refine bS hT5 (aa rfl) (bS hT5 (aa rfl) (bS hT5 (zz7 rfl rfl ah ae) ?_))
   refine bS hT5 (dY rfl am) ?_
   refine bS hT5 (aA rfl fC (fun w hw => gR (d1.toList.getD (j) default) (d1.toList.getD (a) default) w)) ?_
   refine bS hT5 (cN rfl) (aw (aQ rfl hT5 rfl) ?_)
   exact cT (Sub.cons rfl (zz9 11 rfl))
  ·intro hF5
   refine bR hF5 (bR hF5 (bR hF5 (bR hF5 (bR hF5 (bR hF5 (bR hF5 (bR hF5 (bR hF5 (bR hF5 (aw (aR rfl hF5 rfl) ?_))))))))))
   exact cT (Sub.cons rfl (zz9 11 rfl))
  refine bH ?_
  refine ac ?_
  refine an rfl ?_ ?_ <;> intro h6 <;> try simp only [bs] at h6
  ·refine bA (aD (ao (zz0 (aa rfl) (zz0 (dX rfl rfl) ?_))))
   refine zz0 (ab rfl) (aB (aX (ac ?_)))
   refine cC (j - 1) (Front.c (Front.c Front.nil)) (bB 10 rfl) (o := ⟨by omega, by omega, by rw [← hj3]; exact (xC (by omega) (by omega) (by rw [← dP, ← dP]; simp_all)).symm⟩)
  ·refine bF (aG (aG (bj (ac (al (al ?_))))))
   have hI : scanUp (fun x => ltW x d1[a]!) d1 (b - 1) (a + 1) = i := by
    rw [← hi3]; exact wO (by
     rcases h4 with q | q
     ·exact .inl (by omega)
     ·exact .inr (by rw [← dP, ← dP]; exact q))
   have hJ : scanDown (fun x => !ltW x d1[a]!) d1 i (b - 1) = j := by
    rw [← hj3]; exact sh (by
     rcases h6 with q | q
     ·exact .inl (by omega)
     ·exact .inr (by rw [← dP, ← dP, q]; rfl))
   refine ao (zz0 (aa rfl) (zz0 (aa rfl) (zz0 (eo rfl rfl) (ad ?_))))
   refine an rfl ?_ ?_ <;> intro h7 <;> try simp only [bs] at h7
   ·refine al (fG 4 13 aS ?_)
    refine dZ rfl ?_
    refine dZ rfl ?_
    refine dZ rfl ?_
    refine dZ rfl ?_
    refine bG ?_
    refine aw (aa rfl) (aw (aa rfl) (aw (zz7 rfl rfl ah ae) ?_))
    refine aw (dY rfl am) ?_
    refine aw (aa rfl) (aw (aa rfl) (aw (zz7 rfl rfl ah ae) ?_))
    refine aw (dY rfl am) ?_
    refine aw (zz7 rfl rfl ah ae) ?_
    refine bH ?_
    refine gh (l := d1.toList) (i := j) (d1.toList.getD (a) default) rfl rfl ae ?_
    have hls8 : (List.set d1.toList (j) (d1.toList.getD (a) default)).length = (d1.toList).length := List.length_set
    refine zz0 (zz7 rfl rfl ah ae) ?_
    refine gh (l := (d1.toList.set (j) (d1.toList.getD (a) default))) (i := a) (d1.toList.getD (j) default) rfl rfl ae ?_
    have hls9 : (List.set (d1.toList.set (j) (d1.toList.getD (a) default)) (a) (d1.toList.getD (j) default)).length = ((d1.toList.set (j) (d1.toList.getD (a) default))).length := List.length_set
    rw [dP, dP, ir]
    refine aI (zz0 (aa rfl) (zz0 (ab rfl) (zz0 (ab rfl) (ad (az (ay ?_))))))
    refine df Tryz.results262 rfl rfl (fun w' hw => ?_)
    have hpt : partition ltW d a b p = (j, true, swp d1 j a) := by
     unfold partition; simp only [← hd1, hI, hJ]; rw [if_pos (by omega)]
    exact ⟨by rw [hpt], by rw [hpt]; exact HpOK.mutOwn hw (.head _) rfl⟩
   ·refine bA (al ?_)
    have hij : i < j := by
     rcases Nat.lt_or_ge i j with q | q
     ·exact q
     ·exfalso
      have e : i = j := by omega
      rcases h4 with g1 | g1
      ·omega
      ·rcases h6 with g2 | g2
       ·omega
       ·rw [e, g2] at g1; cases g1
    refine fG 4 13 aS ?_
    refine dZ rfl ?_
    refine dZ rfl ?_
    refine dZ rfl ?_
    refine dZ rfl ?_
    refine bG ?_
    refine aw (aa rfl) (aw (aa rfl) (aw (zz7 rfl rfl ah ae) ?_))
    refine aw (dY rfl am) ?_
    refine aw (aa rfl) (aw (aa rfl) (aw (zz7 rfl rfl ah ae) ?_))
    refine aw (dY rfl am) ?_
    refine aw (zz7 rfl rfl ah ae) ?_
    refine bH ?_
    refine gh (l := d1.toList) (i := i) (d1.toList.getD (j) default) rfl rfl ae ?_
    have hls10 : (List.set d1.toList (i) (d1.toList.getD (j) default)).length = (d1.toList).length := List.length_set
    refine zz0 (zz7 rfl rfl ah ae) ?_
    refine gh (l := (d1.toList.set (i) (d1.toList.getD (j) default))) (i := j) (d1.toList.getD (i) default) rfl rfl ae ?_
    have hls11 : (List.set (d1.toList.set (i) (d1.toList.getD (j) default)) (j) (d1.toList.getD (i) default)).length = ((d1.toList.set (i) (d1.toList.getD (j) default))).length := List.length_set
    rw [dP, dP, ir]
    refine aI (zz0 (aa rfl) (zz0 (cp rfl rfl) ?_))
    refine zz0 (ab rfl) (aI (zz0 (aa rfl) (zz0 (dX rfl rfl) ?_)))
    refine zz0 (ab rfl) (ad (al (aD ?_)))
    refine bK (ι := Nat × Nat × Array UInt32) (fun ⟨i3, j3, cur⟩ => (a + 1 ≤ i3 ∧ i3 ≤ j3 + 1 ∧ j3 < b) ∧ cur.size = d.size ∧ partLoop ltW a i3 j3 cur = partLoop ltW a (i + 1) (j - 1) (swp d1 i j)) (fun _ => _) (fun ⟨i3, j3, cur⟩ => [rowE V 23 ar cur.toList]) (fun ⟨i3, j3, cur⟩ => [(10, .int .i64 (i3 : Nat)), (11, .int .i64 (j3 : Nat))]) (fun ⟨i3, j3, cur⟩ => j3 + 1 - i3) (i + 1, j - 1, swp d1 i j) ⟨by omega, by rw [nK]; exact hs1, rfl⟩ (Front.c (Front.c Front.nil)) (by repeat' constructor) rfl (fun i hi m hm => ?_)
    obtain ⟨i3, j3, cur⟩ := i
    replace hi : (a + 1 ≤ i3 ∧ i3 ≤ j3 + 1 ∧ j3 < b) ∧ cur.size = d.size ∧ partLoop ltW a i3 j3 cur = partLoop ltW a (i + 1) (j - 1) (swp d1 i j) := hi
    replace hm : m = j3 + 1 - i3 := hm
    change Tr _ _ [rowE V 23 ar cur.toList] ([(10, .int .i64 (i3 : Nat)), (11, .int .i64 (j3 : Nat))] ++ _) _
    obtain ⟨hk1, hk2, hk3⟩ := hi
    have hcl : cur.toList.length = d.size := by rw [Array.length_toList]; exact hk2
    refine aD (al (aD ?_))
    refine bK (ι := Nat) (fun x => i3 ≤ x ∧ x ≤ j3 + 1 ∧ scanUp (fun z => ltW z cur[a]!) cur j3 x = scanUp (fun z => ltW z cur[a]!) cur j3 i3) (fun _ => _) (fun x => [rowE V 23 ar cur.toList]) (fun x => [(10, .int .i64 (x : Nat)), (11, .int .i64 (j3 : Nat))]) (fun x => j3 + 1 - x) i3 ⟨Nat.le_refl _, by omega, rfl⟩ (Front.c (Front.c Front.nil)) (by repeat' constructor) rfl (fun x hi m hm => ?_)
    replace hi : i3 ≤ x ∧ x ≤ j3 + 1 ∧ scanUp (fun z => ltW z cur[a]!) cur j3 x = scanUp (fun z => ltW z cur[a]!) cur j3 i3 := hi
    replace hm : m = j3 + 1 - x := hm
    change Tr _ _ [rowE V 23 ar cur.toList] ([(10, .int .i64 (x : Nat)), (11, .int .i64 (j3 : Nat))] ++ _) _
    obtain ⟨hx1, hx2, hx3⟩ := hi
    refine al (al (gQ aS ?_))
    refine aw (aa rfl) (aw (aa rfl) (aw (fV rfl rfl) (aw (aa rfl) ?_)))
    apply e8
    ·exact (rfl : _ = (10, 102, 112))
    ·exact rfl
    ·intro hT12; have hT12' := hT12
     try simp only [bs] at hT12'
     refine bS hT12 (aa rfl) (bS hT12 (aa rfl) (bS hT12 (zz7 rfl rfl ah ae) ?_))
     refine bS hT12 (dY rfl am) ?_
     refine bS hT12 (aa rfl) (bS hT12 (aa rfl) (bS hT12 (zz7 rfl rfl ah ae) ?_))
     refine bS hT12 (dY rfl am) ?_
     refine bS hT12 (aA rfl fC (fun w hw => gR (cur.toList.getD (x) default) (cur.toList.getD (a) default) w)) ?_
     refine aw (aQ rfl hT12 rfl) ?_
     exact cT (Sub.cons rfl (zz9 10 rfl))
    ·intro hF12
     refine bR hF12 (bR hF12 (bR hF12 (bR hF12 (bR hF12 (bR hF12 (bR hF12 (bR hF12 (bR hF12 (aw (aR rfl hF12 rfl) ?_)))))))))
     exact cT (Sub.cons rfl (zz9 10 rfl))
    refine bH ?_
    refine ac ?_
    refine an rfl ?_ ?_ <;> intro h13 <;> try simp only [bs] at h13
    ·refine bA (aD (ao (zz0 (aa rfl) (zz0 (cp rfl rfl) ?_))))
     refine zz0 (ab rfl) (aB (aX (ac ?_)))
     refine cC (x + 1) (Front.c (Front.c Front.nil)) (bB 10 rfl) (o := ⟨by omega, by omega, by rw [← hx3]; exact (Dp (by omega) (by rw [← dP, ← dP]; simp_all)).symm⟩)
    ·refine bF (aG (aG (bj (ac (al (aD ?_))))))
     refine bK (ι := Nat) (fun y => y ≤ j3 ∧ x ≤ y + 1 ∧ scanDown (fun z => !ltW z cur[a]!) cur x y = scanDown (fun z => !ltW z cur[a]!) cur x j3) (fun _ => _) (fun y => [rowE V 23 ar cur.toList]) (fun y => [(10, .int .i64 (x : Nat)), (11, .int .i64 (y : Nat))]) (fun y => y) j3 ⟨Nat.le_refl _, by omega, rfl⟩ (Front.c (Front.c Front.nil)) (by repeat' constructor) rfl (fun y hi m hm => ?_)
     replace hi : y ≤ j3 ∧ x ≤ y + 1 ∧ scanDown (fun z => !ltW z cur[a]!) cur x y = scanDown (fun z => !ltW z cur[a]!) cur x j3 := hi
     replace hm : m = y := hm
     change Tr _ _ [rowE V 23 ar cur.toList] ([(10, .int .i64 (x : Nat)), (11, .int .i64 (y : Nat))] ++ _) _
     obtain ⟨hy1, hy2, hy3⟩ := hi
     refine al (al (gQ aS ?_))
     refine aw (aa rfl) (aw (aa rfl) (aw (fV rfl rfl) (aw (aa rfl) ?_)))
     apply e8
     ·exact (rfl : _ = (11, 118, 129))
     ·exact rfl
     ·intro hT14; have hT14' := hT14
      try simp only [bs] at hT14'
      refine bS hT14 (aa rfl) (bS hT14 (aa rfl) (bS hT14 (zz7 rfl rfl ah ae) ?_))
      refine bS hT14 (dY rfl am) ?_
      refine bS hT14 (aa rfl) (bS hT14 (aa rfl) (bS hT14 (zz7 rfl rfl ah ae) ?_))
      refine bS hT14 (dY rfl am) ?_
      refine bS hT14 (aA rfl fC (fun w hw => gR (cur.toList.getD (y) default) (cur.toList.getD (a) default) w)) ?_
      refine bS hT14 (cN rfl) (aw (aQ rfl hT14 rfl) ?_)
      exact cT (Sub.cons rfl (zz9 11 rfl))
     ·intro hF14
      refine bR hF14 (bR hF14 (bR hF14 (bR hF14 (bR hF14 (bR hF14 (bR hF14 (bR hF14 (bR hF14 (bR hF14 (aw (aR rfl hF14 rfl) ?_))))))))))
      exact cT (Sub.cons rfl (zz9 11 rfl))
     refine bH ?_
     refine ac ?_
     refine an rfl ?_ ?_ <;> intro h15 <;> try simp only [bs] at h15
     ·refine bA (aD (ao (zz0 (aa rfl) (zz0 (dX rfl rfl) ?_))))
      refine zz0 (ab rfl) (aB (aX (ac ?_)))
      refine cC (y - 1) (Front.c (Front.c Front.nil)) (bB 10 rfl) (o := ⟨by omega, by omega, by rw [← hy3]; exact (xC (by omega) (by omega) (by rw [← dP, ← dP]; simp_all)).symm⟩)
     ·refine bF (aG (aG (bj (ac (al (al ?_))))))
      have hX : scanUp (fun z => ltW z cur[a]!) cur j3 i3 = x := by
       rw [← hx3]; exact wO (by
        rcases h13 with q | q
        ·exact .inl (by omega)
        ·exact .inr (by rw [← dP, ← dP]; exact q))
      have hY : scanDown (fun z => !ltW z cur[a]!) cur x j3 = y := by
       rw [← hy3]; exact sh (by
        rcases h15 with q | q
        ·exact .inl (by omega)
        ·exact .inr (by rw [← dP, ← dP, q]; rfl))
      refine ao (zz0 (aa rfl) (zz0 (aa rfl) (zz0 (eo rfl rfl) (ad ?_))))
      refine an rfl ?_ ?_ <;> intro h16 <;> try simp only [bs] at h16
      ·refine bF (aG (jp rfl ?_))
       refine aG (bj (ac (al (fG 4 13 aS ?_))))
       refine dZ rfl ?_
       refine dZ rfl ?_
       refine dZ rfl ?_
       refine dZ rfl ?_
       refine bG ?_
       refine aw (aa rfl) (aw (aa rfl) (aw (zz7 rfl rfl ah ae) ?_))
       refine aw (dY rfl am) ?_
       refine aw (aa rfl) (aw (aa rfl) (aw (zz7 rfl rfl ah ae) ?_))
       refine aw (dY rfl am) ?_
       refine aw (zz7 rfl rfl ah ae) ?_
       refine bH ?_
       refine gh (l := cur.toList) (i := y) (cur.toList.getD (a) default) rfl rfl ae ?_
       have hls17 : (List.set cur.toList (y) (cur.toList.getD (a) default)).length = (cur.toList).length := List.length_set
       refine zz0 (zz7 rfl rfl ah ae) ?_
       refine gh (l := (cur.toList.set (y) (cur.toList.getD (a) default))) (i := a) (cur.toList.getD (y) default) rfl rfl ae ?_
       have hls18 : (List.set (cur.toList.set (y) (cur.toList.getD (a) default)) (a) (cur.toList.getD (y) default)).length = ((cur.toList.set (y) (cur.toList.getD (a) default))).length := List.length_set
       rw [dP, dP, ir]
       refine aI (zz0 (aa rfl) (zz0 (ab rfl) (zz0 (ab rfl) (ad (az ?_)))))
       refine df Tryz.results262 rfl rfl (fun w' hw => ?_)
       have he := D7 hX hY (by omega)
       have hpt : partition ltW d a b p = (y, false, swp cur y a) := by
        unfold partition; simp only [← hd1, hI, hJ]; rw [if_neg (by omega), ← hk3, he]
       exact ⟨by rw [hpt], by rw [hpt]; exact HpOK.mutOwn hw (.head _) rfl⟩
      ·refine bA (al ?_)
       have hxy : x < y := by
        rcases Nat.lt_or_ge x y with q | q
        ·exact q
        ·exfalso
         have e : x = y := by omega
         rcases h13 with g1 | g1
         ·omega
         ·rcases h15 with g2 | g2
          ·omega
          ·rw [e, g2] at g1; cases g1
       refine fG 4 13 aS ?_
       refine dZ rfl ?_
       refine dZ rfl ?_
       refine dZ rfl ?_
       refine dZ rfl ?_
       refine bG ?_
       refine aw (aa rfl) (aw (aa rfl) (aw (zz7 rfl rfl ah ae) ?_))
       refine aw (dY rfl am) ?_
       refine aw (aa rfl) (aw (aa rfl) (aw (zz7 rfl rfl ah ae) ?_))
       refine aw (dY rfl am) ?_
       refine aw (zz7 rfl rfl ah ae) ?_
       refine bH ?_
       refine gh (l := cur.toList) (i := x) (cur.toList.getD (y) default) rfl rfl ae ?_
       have hls19 : (List.set cur.toList (x) (cur.toList.getD (y) default)).length = (cur.toList).length := List.length_set
       refine zz0 (zz7 rfl rfl ah ae) ?_
       refine gh (l := (cur.toList.set (x) (cur.toList.getD (y) default))) (i := y) (cur.toList.getD (x) default) rfl rfl ae ?_
       have hls20 : (List.set (cur.toList.set (x) (cur.toList.getD (y) default)) (y) (cur.toList.getD (x) default)).length = ((cur.toList.set (x) (cur.toList.getD (y) default))).length := List.length_set
       refine aI (zz0 (aa rfl) (zz0 (cp rfl rfl) ?_))
       refine zz0 (ab rfl) (ad (ao (zz0 (aa rfl) (zz0 (dX rfl rfl) ?_))))
       refine zz0 (ab rfl) (aB (aX (ac ?_)))
       rw [dP, dP, ir]
       refine cC (x + 1, y - 1, _) (Front.c (Front.c Front.nil)) (bB 39 rfl) (o := ⟨by omega, by rw [nK]; exact hk2, by rw [← hk3]; exact (yM hX hY hxy hx1 hy1).symm⟩)
theorem s6 (d : Array UInt32) (V : Value) (a : Nat) (b : Nat) (p : Nat) (ai : Int) (bi : Int) (pi : Int) (ea : ai = ((a : Nat) : Int)) (eb : bi = ((b : Nat) : Int)) (ep : pi = ((p : Nat) : Int)) (w : World) (hr : (rowE V 23 ar d.toList).holds w) (hd : d.size ≤ 1000000) (hab : a + 1 < b) (hb : b ≤ d.size) (hp : p < b) :
  Calls Tryz.prog 261 #[V, .int .i64 ai, .int .i64 bi, .int .i64 pi] w (fun e w' => e = .returned (.int .i64 ((partitionEqual ltW d a b p).1 : Nat)) ∧ Mut w w' V ∧ (rowE V 23 ar (partitionEqual ltW d a b p).2.toList).holds w') := by
 subst ea eb ep
 obtain ⟨d1, hd1⟩ : ∃ x, x = swp d a p := ⟨_, rfl⟩
 have hs1 : d1.size = d.size := by rw [hd1, nK]
 have hl0 : d.toList.length = d.size := Array.length_toList
 have hl1 : d1.toList.length = d.size := by rw [Array.length_toList]; exact hs1
 refine fH (l := d.toList) (E := ar) (T := 23) hr Tryz.func261 rfl Tryz.ntmps261 rfl ?_
 refine af (zz0 (ab rfl) (ad (al (fG 4 13 aS ?_))))
 refine dZ rfl ?_
 refine dZ rfl ?_
 refine dZ rfl ?_
 refine dZ rfl ?_
 refine bG ?_
 refine aw (aa rfl) (aw (aa rfl) (aw (zz7 rfl rfl ah ae) ?_))
 refine aw (dY rfl am) ?_
 refine aw (aa rfl) (aw (aa rfl) (aw (zz7 rfl rfl ah ae) ?_))
 refine aw (dY rfl am) ?_
 refine aw (zz7 rfl rfl ah ae) ?_
 refine bH ?_
 refine gh (l := d.toList) (i := a) (d.toList.getD (p) default) rfl rfl ae ?_
 have hls1 : (List.set d.toList (a) (d.toList.getD (p) default)).length = (d.toList).length := List.length_set
 refine zz0 (zz7 rfl rfl ah ae) ?_
 refine gh (l := (d.toList.set (a) (d.toList.getD (p) default))) (i := p) (d.toList.getD (a) default) rfl rfl ae ?_
 have hls2 : (List.set (d.toList.set (a) (d.toList.getD (p) default)) (p) (d.toList.getD (a) default)).length = ((d.toList.set (a) (d.toList.getD (p) default))).length := List.length_set
 rw [dP, dP, ir, ← hd1]
 refine aI (zz0 (aa rfl) (zz0 (cp rfl rfl) ?_))
 refine zz0 (aa rfl) (zz0 (dX rfl rfl) ?_)
 refine zz0 (ab rfl) (zz0 (ab rfl) (ad (al (aD ?_))))
 refine bK (ι := Nat × Nat × Array UInt32) (fun ⟨i3, j3, cur⟩ => (a + 1 ≤ i3 ∧ i3 ≤ j3 + 1 ∧ j3 < b) ∧ cur.size = d.size ∧ partEqLoop ltW a i3 j3 cur = partitionEqual ltW d a b p) (fun _ => _) (fun ⟨i3, j3, cur⟩ => [rowE V 23 ar cur.toList]) (fun ⟨i3, j3, cur⟩ => [(9, .int .i64 (i3 : Nat)), (10, .int .i64 (j3 : Nat))]) (fun ⟨i3, j3, cur⟩ => j3 + 1 - i3) (a + 1, b - 1, d1) ⟨by omega, hs1, by rw [hd1]; rfl⟩ (Front.c (Front.c Front.nil)) (by repeat' constructor) rfl (fun i hi m hm => ?_)
 obtain ⟨i3, j3, cur⟩ := i
 replace hi : (a + 1 ≤ i3 ∧ i3 ≤ j3 + 1 ∧ j3 < b) ∧ cur.size = d.size ∧ partEqLoop ltW a i3 j3 cur = partitionEqual ltW d a b p := hi
 replace hm : m = j3 + 1 - i3 := hm
 change Tr _ _ [rowE V 23 ar cur.toList] ([(9, .int .i64 (i3 : Nat)), (10, .int .i64 (j3 : Nat))] ++ _) _
 obtain ⟨hk1, hk2, hk3⟩ := hi
 have hcl : cur.toList.length = d.size := by rw [Array.length_toList]; exact hk2
 refine aD (al (aD ?_))
 refine bK (ι := Nat) (fun x => i3 ≤ x ∧ x ≤ j3 + 1 ∧ scanUp (fun z => !ltW cur[a]! z) cur j3 x = scanUp (fun z => !ltW cur[a]! z) cur j3 i3) (fun _ => _) (fun x => [rowE V 23 ar cur.toList]) (fun x => [(9, .int .i64 (x : Nat)), (10, .int .i64 (j3 : Nat))]) (fun x => j3 + 1 - x) i3 ⟨Nat.le_refl _, by omega, rfl⟩ (Front.c (Front.c Front.nil)) (by repeat' constructor) rfl (fun x hi m hm => ?_)
 replace hi : i3 ≤ x ∧ x ≤ j3 + 1 ∧ scanUp (fun z => !ltW cur[a]! z) cur j3 x = scanUp (fun z => !ltW cur[a]! z) cur j3 i3 := hi
 replace hm : m = j3 + 1 - x := hm
 change Tr _ _ [rowE V 23 ar cur.toList] ([(9, .int .i64 (x : Nat)), (10, .int .i64 (j3 : Nat))] ++ _) _
 obtain ⟨hx1, hx2, hx3⟩ := hi
 refine al (al (gQ aS ?_))
 refine aw (aa rfl) (aw (aa rfl) (aw (fV rfl rfl) (aw (aa rfl) ?_)))
 apply e8
 ·exact (rfl : _ = (11, 32, 43))
 ·exact rfl
 ·intro hT3; have hT3' := hT3
  try simp only [bs] at hT3'
  refine bS hT3 (aa rfl) (bS hT3 (aa rfl) (bS hT3 (zz7 rfl rfl ah ae) ?_))
  refine bS hT3 (dY rfl am) ?_
  refine bS hT3 (aa rfl) (bS hT3 (aa rfl) (bS hT3 (zz7 rfl rfl ah ae) ?_))
  refine bS hT3 (dY rfl am) ?_
  refine bS hT3 (aA rfl fC (fun w hw => gR (cur.toList.getD (a) default) (cur.toList.getD (x) default) w)) ?_
  refine bS hT3 (cN rfl) (aw (aQ rfl hT3 rfl) ?_)
  exact cT (Sub.cons rfl (zz9 11 rfl))
 ·intro hF3
  refine bR hF3 (bR hF3 (bR hF3 (bR hF3 (bR hF3 (bR hF3 (bR hF3 (bR hF3 (bR hF3 (bR hF3 (aw (aR rfl hF3 rfl) ?_))))))))))
  exact cT (Sub.cons rfl (zz9 11 rfl))
 refine bH ?_
 refine ac ?_
 refine an rfl ?_ ?_ <;> intro h4 <;> try simp only [bs] at h4
 ·refine bA (aD (ao (zz0 (aa rfl) (zz0 (cp rfl rfl) ?_))))
  refine zz0 (ab rfl) (aB (aX (ac ?_)))
  refine cC (x + 1) (Front.c (Front.c Front.nil)) (bB 10 rfl) (o := ⟨by omega, by omega, by rw [← hx3]; exact (Dp (by omega) (by rw [← dP, ← dP]; simp_all)).symm⟩)
 ·refine bF (aG (aG (bj (ac (al (aD ?_))))))
  refine bK (ι := Nat) (fun y => y ≤ j3 ∧ x ≤ y + 1 ∧ scanDown (fun z => ltW cur[a]! z) cur x y = scanDown (fun z => ltW cur[a]! z) cur x j3) (fun _ => _) (fun y => [rowE V 23 ar cur.toList]) (fun y => [(9, .int .i64 (x : Nat)), (10, .int .i64 (y : Nat))]) (fun y => y) j3 ⟨Nat.le_refl _, by omega, rfl⟩ (Front.c (Front.c Front.nil)) (by repeat' constructor) rfl (fun y hi m hm => ?_)
  replace hi : y ≤ j3 ∧ x ≤ y + 1 ∧ scanDown (fun z => ltW cur[a]! z) cur x y = scanDown (fun z => ltW cur[a]! z) cur x j3 := hi
  replace hm : m = y := hm
  change Tr _ _ [rowE V 23 ar cur.toList] ([(9, .int .i64 (x : Nat)), (10, .int .i64 (y : Nat))] ++ _) _
  obtain ⟨hy1, hy2, hy3⟩ := hi
  refine al (al (gQ aS ?_))
  refine aw (aa rfl) (aw (aa rfl) (aw (fV rfl rfl) (aw (aa rfl) ?_)))
  apply e8
  ·exact (rfl : _ = (10, 49, 59))
  ·exact rfl
  ·intro hT5; have hT5' := hT5
   try simp only [bs] at hT5'
   refine bS hT5 (aa rfl) (bS hT5 (aa rfl) (bS hT5 (zz7 rfl rfl ah ae) ?_))
   refine bS hT5 (dY rfl am) ?_
   refine bS hT5 (aa rfl) (bS hT5 (aa rfl) (bS hT5 (zz7 rfl rfl ah ae) ?_))
   refine bS hT5 (dY rfl am) ?_
   refine bS hT5 (aA rfl fC (fun w hw => gR (cur.toList.getD (a) default) (cur.toList.getD (y) default) w)) ?_
   refine aw (aQ rfl hT5 rfl) ?_
   exact cT (Sub.cons rfl (zz9 10 rfl))
  ·intro hF5
   refine bR hF5 (bR hF5 (bR hF5 (bR hF5 (bR hF5 (bR hF5 (bR hF5 (bR hF5 (bR hF5 (aw (aR rfl hF5 rfl) ?_)))))))))
   exact cT (Sub.cons rfl (zz9 10 rfl))
  refine bH ?_
  refine ac ?_
  refine an rfl ?_ ?_ <;> intro h6 <;> try simp only [bs] at h6
  ·refine bA (aD (ao (zz0 (aa rfl) (zz0 (dX rfl rfl) ?_))))
   refine zz0 (ab rfl) (aB (aX (ac ?_)))
   refine cC (y - 1) (Front.c (Front.c Front.nil)) (bB 10 rfl) (o := ⟨by omega, by omega, by rw [← hy3]; exact (xC (by omega) (by omega) (by rw [← dP, ← dP]; simp_all)).symm⟩)
  ·refine bF (aG (aG (bj (ac (al (al ?_))))))
   have hX : scanUp (fun z => !ltW cur[a]! z) cur j3 i3 = x := by
    rw [← hx3]; exact wO (by
     rcases h4 with q | q
     ·exact .inl (by omega)
     ·exact .inr (by rw [← dP, ← dP, q]; rfl))
   have hY : scanDown (fun z => ltW cur[a]! z) cur x j3 = y := by
    rw [← hy3]; exact sh (by
     rcases h6 with q | q
     ·exact .inl (by omega)
     ·exact .inr (by rw [← dP, ← dP]; exact q))
   refine ao (zz0 (aa rfl) (zz0 (aa rfl) (zz0 (eo rfl rfl) (ad ?_))))
   refine an rfl ?_ ?_ <;> intro h7 <;> try simp only [bs] at h7
   ·refine bF (aG (jp rfl ?_))
    refine aG (bj (ac (af (zz0 (aa rfl) (zz0 (ab rfl) (ad (az ?_)))))))
    refine aT Tryz.results261 rfl (fun w' hw => ?_)
    have he := Ap hX hY (by omega)
    rw [he] at hk3
    exact ⟨by rw [← hk3], by rw [← hk3]; exact HpOK.mutOwn hw (.head _) rfl⟩
   ·refine bA (al ?_)
    have hxy : x < y := by
     rcases Nat.lt_or_ge x y with q | q
     ·exact q
     ·exfalso
      have e : x = y := by omega
      rcases h4 with g1 | g1
      ·omega
      ·rcases h6 with g2 | g2
       ·omega
       ·rw [e, g2] at g1; cases g1
    refine fG 4 13 aS ?_
    refine dZ rfl ?_
    refine dZ rfl ?_
    refine dZ rfl ?_
    refine dZ rfl ?_
    refine bG ?_
    refine aw (aa rfl) (aw (aa rfl) (aw (zz7 rfl rfl ah ae) ?_))
    refine aw (dY rfl am) ?_
    refine aw (aa rfl) (aw (aa rfl) (aw (zz7 rfl rfl ah ae) ?_))
    refine aw (dY rfl am) ?_
    refine aw (zz7 rfl rfl ah ae) ?_
    refine bH ?_
    refine gh (l := cur.toList) (i := x) (cur.toList.getD (y) default) rfl rfl ae ?_
    have hls8 : (List.set cur.toList (x) (cur.toList.getD (y) default)).length = (cur.toList).length := List.length_set
    refine zz0 (zz7 rfl rfl ah ae) ?_
    refine gh (l := (cur.toList.set (x) (cur.toList.getD (y) default))) (i := y) (cur.toList.getD (x) default) rfl rfl ae ?_
    have hls9 : (List.set (cur.toList.set (x) (cur.toList.getD (y) default)) (y) (cur.toList.getD (x) default)).length = ((cur.toList.set (x) (cur.toList.getD (y) default))).length := List.length_set
    refine aI (zz0 (aa rfl) (zz0 (cp rfl rfl) ?_))
    refine zz0 (ab rfl) (ad (ao (zz0 (aa rfl) (zz0 (dX rfl rfl) ?_))))
    refine zz0 (ab rfl) (aB (aX (ac ?_)))
    rw [dP, dP, ir]
    refine cC (x + 1, y - 1, _) (Front.c (Front.c Front.nil)) (bB 39 rfl) (o := ⟨by omega, by rw [nK]; exact hk2, by rw [← hk3]; exact (Cy hX hY hxy hx1 hy1).symm⟩)
theorem ud (d : Array UInt32) (V : Value) (a : Nat) (b : Nat) (ai : Int) (bi : Int) (ea : ai = ((a : Nat) : Int)) (eb : bi = ((b : Nat) : Int)) (w : World) (hr : (rowE V 23 ar d.toList).holds w) (hd : d.size ≤ 1000000) (hab : a + 1 < b) (hb : b ≤ d.size) :
  Calls Tryz.prog 259 #[V, .int .i64 ai, .int .i64 bi] w (fun e w' => e = .returned (.bool (partialInsertionSort ltW d a b).2) ∧ Mut w w' V ∧ (rowE V 23 ar (partialInsertionSort ltW d a b).1.toList).holds w') := by
 subst ea eb
 refine fH (l := d.toList) (E := ar) (T := 23) hr Tryz.func259 rfl Tryz.ntmps259 rfl ?_
 refine af (zz0 (ab rfl) (aI (zz0 (aa rfl) (zz0 (cp rfl rfl) ?_))))
 refine zz0 (ab rfl) (ad (al (af (zz0 (ab rfl) (ad (aD ?_))))))
 refine bK (ι := Nat × Nat × Array UInt32) (fun ⟨s, i, cur⟩ => (s ≤ 5 ∧ a + 1 ≤ i ∧ i ≤ b) ∧ cur.size = d.size ∧ partialIns ltW a b (5 - s) i cur = partialInsertionSort ltW d a b) (fun _ => _) (fun ⟨s, i, cur⟩ => [rowE V 23 ar cur.toList]) (fun ⟨s, i, cur⟩ => [(8, .int .i64 (s : Nat)), (7, .int .i64 (i : Nat))]) (fun ⟨s, i, cur⟩ => 5 - s) (0, a + 1, d) ⟨by omega, rfl, rfl⟩ (Front.c (Front.c Front.nil)) (by repeat' constructor) rfl (fun i hi m hm => ?_)
 obtain ⟨s, i, cur⟩ := i
 replace hi : (s ≤ 5 ∧ a + 1 ≤ i ∧ i ≤ b) ∧ cur.size = d.size ∧ partialIns ltW a b (5 - s) i cur = partialInsertionSort ltW d a b := hi
 replace hm : m = 5 - s := hm
 change Tr _ _ [rowE V 23 ar cur.toList] ([(8, .int .i64 (s : Nat)), (7, .int .i64 (i : Nat))] ++ _) _
 obtain ⟨hk1, hk2, hk3⟩ := hi
 have hcl : cur.toList.length = d.size := by rw [Array.length_toList]; exact hk2
 refine al (af (zz0 (aa rfl) (zz0 (bP rfl rfl) (ad ?_))))
 refine an rfl ?_ ?_ <;> intro h1 <;> try simp only [bs] at h1
 ·refine bA (al (aD (al (aD ?_))))
  refine bK (ι := Nat) (fun x => i ≤ x ∧ x ≤ b ∧ scanSorted ltW cur b x = scanSorted ltW cur b i) (fun _ => _) (fun x => [rowE V 23 ar cur.toList]) (fun x => [(7, .int .i64 (x : Nat)), (8, .int .i64 (s : Nat))]) (fun x => b - x) i ⟨Nat.le_refl _, by omega, rfl⟩ (Front.c (Front.c Front.nil)) (by repeat' constructor) rfl (fun x hi m hm => ?_)
  replace hi : i ≤ x ∧ x ≤ b ∧ scanSorted ltW cur b x = scanSorted ltW cur b i := hi
  replace hm : m = b - x := hm
  change Tr _ _ [rowE V 23 ar cur.toList] ([(7, .int .i64 (x : Nat)), (8, .int .i64 (s : Nat))] ++ _) _
  obtain ⟨hx1, hx2, hx3⟩ := hi
  have ex : ((x : Int) - 1).toNat = x - 1 := by omega
  refine al (al (gQ aS ?_))
  refine aw (aa rfl) (aw (aa rfl) (aw (bP rfl rfl) (aw (aa rfl) ?_)))
  apply e8
  ·exact (rfl : _ = (12, 20, 32))
  ·exact rfl
  ·intro hT2; have hT2' := hT2
   try simp only [bs] at hT2'
   refine bS hT2 (aa rfl) (bS hT2 (aa rfl) (bS hT2 (zz7 rfl rfl ah ae) ?_))
   refine bS hT2 (dY rfl am) ?_
   refine bS hT2 (aa rfl) (bS hT2 (aa rfl) (bS hT2 (dX rfl rfl) ?_))
   refine bS hT2 (jt rfl rfl ah ae) ?_
   refine bS hT2 (dY rfl am) ?_
   refine bS hT2 (aA rfl fC (fun w hw => gR (cur.toList.getD (x) default) (cur.toList.getD (((x : Int) - 1).toNat) default) w)) ?_
   refine bS hT2 (cN rfl) (aw (aQ rfl hT2 rfl) ?_)
   exact cT (Sub.cons rfl (zz9 12 rfl))
  ·intro hF2
   refine bR hF2 (bR hF2 (bR hF2 (bR hF2 (bR hF2 (bR hF2 (bR hF2 (bR hF2 (bR hF2 (bR hF2 (bR hF2 (aw (aR rfl hF2 rfl) ?_)))))))))))
   exact cT (Sub.cons rfl (zz9 12 rfl))
  refine bH ?_
  refine ac ?_
  refine an rfl ?_ ?_ <;> intro h3 <;> try simp only [bs] at h3
  ·refine bA (aD (ao (zz0 (aa rfl) (zz0 (cp rfl rfl) ?_))))
   refine zz0 (ab rfl) (aB (aX (ac ?_)))
   refine cC (x + 1) (Front.c (Front.c Front.nil)) (bB 10 rfl) (o := ⟨by omega, by omega, by rw [← hx3]; exact (HQ (by omega) (by rw [← dP, ← dP, ← ex]; simp_all)).symm⟩)
  ·refine bF (aG (aG (bj (ac (al (al ?_))))))
   have hX : scanSorted ltW cur b i = x := by
    rw [← hx3]; exact FD (by
     rcases h3 with q | q
     ·exact .inl (by omega)
     ·exact .inr (by rw [← dP, ← dP, ← ex]; exact q))
   refine ao (zz0 (aa rfl) (zz0 (aa rfl) (zz0 (bD rfl rfl) (ad ?_))))
   refine an rfl ?_ ?_ <;> intro h4 <;> try simp only [bs] at h4
   ·refine af (zz0 (ab rfl) (ad (az (ay (bh (ay (ay (bh (ay ?_)))))))))
    refine aT mQ rfl (fun w' hw => ?_)
    rw [show 5 - s = (4 - s) + 1 by omega, Ar hX (by omega)] at hk3
    exact ⟨by rw [← hk3], by rw [← hk3]; exact HpOK.mutOwn hw (.head _) rfl⟩
   ·refine bA (al (af (zz0 (aa rfl) (zz0 (aa rfl) (zz0 (dX rfl rfl) ?_)))))
    refine zz0 (bP rfl rfl) (ad ?_)
    refine an rfl ?_ ?_ <;> intro h5 <;> try simp only [bs] at h5
    ·refine af (zz0 (ab rfl) (ad (az (ay (bh (ay (ay (bh (ay ?_)))))))))
     refine aT mQ rfl (fun w' hw => ?_)
     rw [show 5 - s = (4 - s) + 1 by omega, Hb hX (by omega) (by omega)] at hk3
     exact ⟨by rw [← hk3], by rw [← hk3]; exact HpOK.mutOwn hw (.head _) rfl⟩
    ·refine bA (al (fG 5 15 aS ?_))
     refine dZ rfl ?_
     refine dZ rfl ?_
     refine dZ rfl ?_
     refine dZ rfl ?_
     refine gv (fun _ => dX rfl rfl) (by rfl) rfl ?_
     refine bG ?_
     refine aw (aa rfl) (aw (aa rfl) (aw (dX rfl rfl) ?_))
     refine aw (jt rfl rfl ah ae) ?_
     refine aw (dY rfl am) ?_
     refine aw (aa rfl) (aw (aa rfl) (aw (zz7 rfl rfl ah ae) ?_))
     refine aw (dY rfl am) ?_
     refine aw (zz7 rfl rfl ah ae) ?_
     refine bH ?_
     refine gh (l := cur.toList) (i := x) (cur.toList.getD (((x : Int) - 1).toNat) default) rfl rfl ae ?_
     have hls6 : (List.set cur.toList (x) (cur.toList.getD (((x : Int) - 1).toNat) default)).length = (cur.toList).length := List.length_set
     refine zz0 (jt rfl rfl ah ae) ?_
     refine gh (l := (cur.toList.set (x) (cur.toList.getD (((x : Int) - 1).toNat) default))) (i := ((x : Int) - 1).toNat) (cur.toList.getD (x) default) rfl rfl ae ?_
     have hls7 : (List.set (cur.toList.set (x) (cur.toList.getD (((x : Int) - 1).toNat) default)) (((x : Int) - 1).toNat) (cur.toList.getD (x) default)).length = ((cur.toList.set (x) (cur.toList.getD (((x : Int) - 1).toNat) default))).length := List.length_set
     rw [ex, dP, dP, ir]
     refine ad ?_
     refine db (ι := Array UInt32) (fun d3 => d3.size = d.size ∧ d3 = if x - a ≥ 2 then shiftDown ltW (x - 1) (swp cur x (x - 1)) else swp cur x (x - 1)) (fun _ => Bg.less w V) (fun d3 => [rowE V 23 ar d3.toList]) (fun d3 => []) ?_ (fun d3 hi => ?_)
     ·skip
      refine af (zz0 (aa rfl) (zz0 (aa rfl) (zz0 (dX rfl rfl) ?_)))
      refine zz0 (eE rfl rfl) (ad ?_)
      refine an rfl ?_ ?_ <;> intro h8 <;> try simp only [bs] at h8
      ·refine af (zz0 (aa rfl) (zz0 (dX rfl rfl) ?_))
       refine zz0 (ab rfl) (ad (aD ?_))
       refine bK (ι := Nat × Array UInt32) (fun ⟨y, c3⟩ => y < x ∧ c3.size = d.size ∧ shiftDown ltW y c3 = shiftDown ltW (x - 1) (swp cur x (x - 1))) (fun _ => _) (fun ⟨y, c3⟩ => [rowE V 23 ar c3.toList]) (fun ⟨y, c3⟩ => [(9, .int .i64 (y : Nat))]) (fun ⟨y, c3⟩ => y) (x - 1, _) ⟨by omega, by rw [nK]; exact hk2, rfl⟩ (Front.c Front.nil) (by repeat' constructor) rfl (fun i hi m hm => ?_)
       obtain ⟨y, c3⟩ := i
       replace hi : y < x ∧ c3.size = d.size ∧ shiftDown ltW y c3 = shiftDown ltW (x - 1) (swp cur x (x - 1)) := hi
       replace hm : m = y := hm
       change Tr _ _ [rowE V 23 ar c3.toList] ([(9, .int .i64 (y : Nat))] ++ _) _
       obtain ⟨hy1, hy2, hy3⟩ := hi
       have ey : ((y : Int) - 1).toNat = y - 1 ∨ y = 0 := by omega
       have hc3 : c3.toList.length = d.size := by rw [Array.length_toList]; exact hy2
       refine al (af (zz0 (aa rfl) (zz0 (eE rfl rfl) (ad ?_))))
       refine an rfl ?_ ?_ <;> intro h9 <;> try simp only [bs] at h9
       ·refine bA (al (aD (al (al (gQ aS ?_)))))
        refine aw (aa rfl) (aw (aa rfl) (aw (zz7 rfl rfl ah ae) ?_))
        refine aw (dY rfl am) ?_
        refine aw (aa rfl) (aw (aa rfl) (aw (dX rfl rfl) ?_))
        refine aw (jt rfl rfl ah ae) ?_
        refine aw (dY rfl am) ?_
        refine aw (aA rfl fC (fun w hw => gR (c3.toList.getD (y) default) (c3.toList.getD (((y : Int) - 1).toNat) default) w)) ?_
        refine aw (cN rfl) (bH ?_)
        refine ac ?_
        refine an rfl ?_ ?_ <;> intro h10 <;> try simp only [bs] at h10
        ·refine bF (aG (jp rfl ?_))
         refine aG (aG (bj (ac ?_)))
         refine cw c3 Front.nil (bB 21 rfl) (o := ⟨hy2, by rw [if_pos (by omega), ← hy3]; exact (Bq (by first | exact .inl (by omega) | exact .inr (by have e := ey.resolve_right (by omega); rw [← dP, ← dP, ← e]; assumption))).symm⟩)
        ·refine bA (fG 5 15 aS ?_)
         refine dZ rfl ?_
         refine dZ rfl ?_
         refine dZ rfl ?_
         refine dZ rfl ?_
         refine gv (fun _ => dX rfl rfl) (by rfl) rfl ?_
         refine bG ?_
         refine aw (aa rfl) (aw (aa rfl) (aw (dX rfl rfl) ?_))
         refine aw (jt rfl rfl ah ae) ?_
         refine aw (dY rfl am) ?_
         refine aw (aa rfl) (aw (aa rfl) (aw (zz7 rfl rfl ah ae) ?_))
         refine aw (dY rfl am) ?_
         refine aw (zz7 rfl rfl ah ae) ?_
         refine bH ?_
         refine gh (l := c3.toList) (i := y) (c3.toList.getD (((y : Int) - 1).toNat) default) rfl rfl ae ?_
         have hls11 : (List.set c3.toList (y) (c3.toList.getD (((y : Int) - 1).toNat) default)).length = (c3.toList).length := List.length_set
         refine zz0 (jt rfl rfl ah ae) ?_
         refine gh (l := (c3.toList.set (y) (c3.toList.getD (((y : Int) - 1).toNat) default))) (i := ((y : Int) - 1).toNat) (c3.toList.getD (y) default) rfl rfl ae ?_
         have hls12 : (List.set (c3.toList.set (y) (c3.toList.getD (((y : Int) - 1).toNat) default)) (((y : Int) - 1).toNat) (c3.toList.getD (y) default)).length = ((c3.toList.set (y) (c3.toList.getD (((y : Int) - 1).toNat) default))).length := List.length_set
         refine aB (aX (ac (ao (zz0 (aa rfl) (zz0 (dX rfl rfl) ?_)))))
         refine zz0 (ab rfl) (ad ?_)
         rw [ey.resolve_right (by omega), dP, dP, ir]
         refine cC (y - 1, _) (Front.c Front.nil) (bB 33 rfl) (o := ⟨by omega, by rw [nK]; exact hy2, by rw [← hy3]; exact (HS (by omega) (by have e := ey.resolve_right (by omega); rw [← dP, ← dP, ← e]; assumption)).symm⟩)
       ·refine bF (aG (aG (bj (ac ?_))))
        refine cw c3 Front.nil (bB 10 rfl) (o := ⟨hy2, by rw [if_pos (by omega), ← hy3]; exact (Bq (by first | exact .inl (by omega) | exact .inr (by have e := ey.resolve_right (by omega); rw [← dP, ← dP, ← e]; assumption))).symm⟩)
      ·refine bA ?_
       refine cw _ Front.nil (bB 4 rfl) (o := ⟨by rw [nK]; exact hk2, by rw [if_neg (by omega)]⟩)
     ·skip
      replace hi : d3.size = d.size ∧ d3 = if x - a ≥ 2 then shiftDown ltW (x - 1) (swp cur x (x - 1)) else swp cur x (x - 1) := hi
      change Tr _ _ [rowE V 23 ar d3.toList] ([] ++ _) _
      have hd3 := hi
      have hl3 : d3.toList.length = d.size := by rw [Array.length_toList]; exact hi.1
      refine af (zz0 (aa rfl) (zz0 (aa rfl) (zz0 (dX rfl rfl) ?_)))
      refine zz0 (eE rfl rfl) (ad ?_)
      refine an rfl ?_ ?_ <;> intro h13 <;> try simp only [bs] at h13
      ·refine af (zz0 (aa rfl) (zz0 (cp rfl rfl) ?_))
       refine zz0 (ab rfl) (ad (aD ?_))
       refine bK (ι := Nat × Array UInt32) (fun ⟨z, c4⟩ => x < z ∧ c4.size = d.size ∧ shiftUp ltW b z c4 = shiftUp ltW b (x + 1) d3) (fun _ => _) (fun ⟨z, c4⟩ => [rowE V 23 ar c4.toList]) (fun ⟨z, c4⟩ => [(10, .int .i64 (z : Nat))]) (fun ⟨z, c4⟩ => b - z) (x + 1, d3) ⟨by omega, hd3.1, rfl⟩ (Front.c Front.nil) (by repeat' constructor) rfl (fun i hi m hm => ?_)
       obtain ⟨z, c4⟩ := i
       replace hi : x < z ∧ c4.size = d.size ∧ shiftUp ltW b z c4 = shiftUp ltW b (x + 1) d3 := hi
       replace hm : m = b - z := hm
       change Tr _ _ [rowE V 23 ar c4.toList] ([(10, .int .i64 (z : Nat))] ++ _) _
       obtain ⟨hz1, hz2, hz3⟩ := hi
       have ez : ((z : Int) - 1).toNat = z - 1 := by omega
       have hc4 : c4.toList.length = d.size := by rw [Array.length_toList]; exact hz2
       refine al (af (zz0 (aa rfl) (zz0 (aa rfl) (zz0 (bP rfl rfl) (ad ?_)))))
       refine an rfl ?_ ?_ <;> intro h14 <;> try simp only [bs] at h14
       ·refine bA (al (aD (al (al (gQ aS ?_)))))
        refine aw (aa rfl) (aw (aa rfl) (aw (zz7 rfl rfl ah ae) ?_))
        refine aw (dY rfl am) ?_
        refine aw (aa rfl) (aw (aa rfl) (aw (dX rfl rfl) ?_))
        refine aw (jt rfl rfl ah ae) ?_
        refine aw (dY rfl am) ?_
        refine aw (aA rfl fC (fun w hw => gR (c4.toList.getD (z) default) (c4.toList.getD (((z : Int) - 1).toNat) default) w)) ?_
        refine aw (cN rfl) (bH ?_)
        refine ac ?_
        refine an rfl ?_ ?_ <;> intro h15 <;> try simp only [bs] at h15
        ·refine bF (aG (jp rfl ?_))
         refine aG (aG (bj (aX (ac (ao (zz0 (aa rfl) (zz0 (cp rfl rfl) ?_)))))))
         refine zz0 (ab rfl) (ad ?_)
         refine cC (s + 1, x, c4) (Front.c (Front.c Front.nil)) (bB 59 rfl) (o := ⟨by omega, hz2, by rw [← hk3, show 5 - s = (5 - (s + 1)) + 1 by omega]; exact (rQ hX (by omega) (by omega) hd3.2 (by rw [if_pos (by omega), ← hz3]; exact (Bl (by first | exact .inl (by omega) | exact .inr (by rw [← dP, ← dP, ← ez]; assumption))).symm)).symm⟩)
        ·refine bA (fG 5 15 aS ?_)
         refine dZ rfl ?_
         refine dZ rfl ?_
         refine dZ rfl ?_
         refine dZ rfl ?_
         refine gv (fun _ => dX rfl rfl) (by rfl) rfl ?_
         refine bG ?_
         refine aw (aa rfl) (aw (aa rfl) (aw (dX rfl rfl) ?_))
         refine aw (jt rfl rfl ah ae) ?_
         refine aw (dY rfl am) ?_
         refine aw (aa rfl) (aw (aa rfl) (aw (zz7 rfl rfl ah ae) ?_))
         refine aw (dY rfl am) ?_
         refine aw (zz7 rfl rfl ah ae) ?_
         refine bH ?_
         refine gh (l := c4.toList) (i := z) (c4.toList.getD (((z : Int) - 1).toNat) default) rfl rfl ae ?_
         have hls16 : (List.set c4.toList (z) (c4.toList.getD (((z : Int) - 1).toNat) default)).length = (c4.toList).length := List.length_set
         refine zz0 (jt rfl rfl ah ae) ?_
         refine gh (l := (c4.toList.set (z) (c4.toList.getD (((z : Int) - 1).toNat) default))) (i := ((z : Int) - 1).toNat) (c4.toList.getD (z) default) rfl rfl ae ?_
         have hls17 : (List.set (c4.toList.set (z) (c4.toList.getD (((z : Int) - 1).toNat) default)) (((z : Int) - 1).toNat) (c4.toList.getD (z) default)).length = ((c4.toList.set (z) (c4.toList.getD (((z : Int) - 1).toNat) default))).length := List.length_set
         refine aB (aX (ac (ao (zz0 (aa rfl) (zz0 (cp rfl rfl) ?_)))))
         refine zz0 (ab rfl) (ad ?_)
         rw [ez, dP, dP, ir]
         refine cC (z + 1, _) (Front.c Front.nil) (bB 34 rfl) (o := ⟨by omega, by rw [nK]; exact hz2, by rw [← hz3]; exact (HO (by omega) (by rw [← dP, ← dP, ← ez]; assumption)).symm⟩)
       ·refine bF (aG (aG (bj (aX (ac (ao (zz0 (aa rfl) (zz0 (cp rfl rfl) ?_))))))))
        refine zz0 (ab rfl) (ad ?_)
        refine cC (s + 1, x, c4) (Front.c (Front.c Front.nil)) (bB 48 rfl) (o := ⟨by omega, hz2, by rw [← hk3, show 5 - s = (5 - (s + 1)) + 1 by omega]; exact (rQ hX (by omega) (by omega) hd3.2 (by rw [if_pos (by omega), ← hz3]; exact (Bl (by first | exact .inl (by omega) | exact .inr (by rw [← dP, ← dP, ← ez]; assumption))).symm)).symm⟩)
      ·refine cd (aX (ac (ao (zz0 (aa rfl) (zz0 (cp rfl rfl) ?_)))))
       refine zz0 (ab rfl) (ad ?_)
       refine cC (s + 1, x, d3) (Front.c (Front.c Front.nil)) (bB 41 rfl) (o := ⟨by omega, hd3.1, by rw [← hk3, show 5 - s = (5 - (s + 1)) + 1 by omega]; exact (rQ hX (by omega) (by omega) hd3.2 (by rw [if_neg (by omega)])).symm⟩)
 ·refine bF (aG (aG (bj (ac (af (zz0 (ab rfl) (ad (az ?_))))))))
  refine aT mQ rfl (fun w' hw => ?_)
  obtain rfl : s = 5 := by omega
  have hk4 : (cur, false) = partialInsertionSort ltW d a b := hk3
  exact ⟨by rw [← hk4], by rw [← hk4]; exact HpOK.mutOwn hw (.head _) rfl⟩
end Go.Proofs.YtiajjbhcpeadfaaGreat
namespace Go.HL
open Go Go.RowKit Go.Sort
section
variable {P : Program} {N : Nat} {F : Bg} {L : List Ent} {M : Fr} {dst : Option Tmp} {ty : TypeId} {pos : String} {after : Array Edge} {g : Option (Nat × Bool)}
theorem bv {x : Operand} {a : Addr} (hx : opv M x = some (.pointer (some a))) : QS P N F L M ⟨dst, .nilCheck x, ty, pos, after, g⟩ (.pointer (some a)) :=
 cE fun A w ha _ => by simp [execOp, ha.eval hx]
theorem uX {m n : UInt64} {x y : Operand} {t u : TypeId} (hx : opv M x = some (.int .u64 m.toNat)) (hy : opv M y = some (.int .u64 n.toNat)) : QS P N F L M ⟨dst, .binOp .xor t x y u, ty, pos, after, g⟩ (.int .u64 (m ^^^ n).toNat) := by
 have := Ff (P := P) (N := N) (F := F) (L := L) (dst := dst) (ty := ty) (pos := pos) (after := after) (g := g) (t := t) (u := u) hx hy
 have e : IntKind.u64.wrap ((BitVec.ofInt IntKind.u64.bits m.toNat ^^^ BitVec.ofInt IntKind.u64.bits n.toNat).toNat : Int) = ((m ^^^ n).toNat : Int) := by
  have h1 : BitVec.ofInt 64 (m.toNat : Int) = m.toBitVec := by simp
  have h2 : BitVec.ofInt 64 (n.toNat : Int) = n.toBitVec := by simp
  show IntKind.u64.wrap ((BitVec.ofInt 64 m.toNat ^^^ BitVec.ofInt 64 n.toNat).toNat : Int) = _
  rw [h1, h2, IntWalk.u64_in]
  ·rfl
  ·have := (m ^^^ n).toNat_lt
   show 0 ≤ ((m ^^^ n).toNat : Int) ∧ ((m ^^^ n).toNat : Int) ≤ _
   omega
 rwa [e] at this
theorem zR {m : UInt64} {x y : Operand} {t u : TypeId} {k' : IntKind} (c : UInt64) (hx : opv M x = some (.int .u64 m.toNat)) (hy : opv M y = some (.int k' (c.toNat : Int))) (hc : c.toNat < 64) : QS P N F L M ⟨dst, .binOp .shl t x y u, ty, pos, after, g⟩ (.int .u64 (m <<< c).toNat) := by
 have := Bc (P := P) (N := N) (F := F) (L := L) (dst := dst) (ty := ty) (pos := pos) (after := after) (g := g) (t := t) (u := u) hx hy (by omega)
 have e : IntKind.u64.wrap ((m.toNat : Int) * 2 ^ (min (c.toNat : Int).toNat IntKind.u64.bits)) = ((m <<< c).toNat : Int) := by
  rw [IntKind.wrap_u64, UInt64.toNat_shiftLeft, Int.toNat_natCast, Nat.min_eq_left (by show c.toNat ≤ 64; omega), Nat.mod_eq_of_lt hc, Nat.shiftLeft_eq, Int.natCast_emod, Int.natCast_mul, Int.natCast_pow]
  rfl
 rwa [e] at this
theorem Fj {m : UInt64} {x y : Operand} {t u : TypeId} {k' : IntKind} (c : UInt64) (hx : opv M x = some (.int .u64 m.toNat)) (hy : opv M y = some (.int k' (c.toNat : Int))) (hc : c.toNat < 64) : QS P N F L M ⟨dst, .binOp .shr t x y u, ty, pos, after, g⟩ (.int .u64 (m >>> c).toNat) := by
 have := sy (P := P) (N := N) (F := F) (L := L) (dst := dst) (ty := ty) (pos := pos) (after := after) (g := g) (t := t) (u := u) hx hy (by omega)
 have e : (m.toNat : Int).fdiv (2 ^ (min (c.toNat : Int).toNat IntKind.u64.bits)) = ((m >>> c).toNat : Int) := by
  rw [UInt64.toNat_shiftRight, Int.toNat_natCast, Nat.min_eq_left (by show c.toNat ≤ 64; omega), Nat.mod_eq_of_lt hc, Nat.shiftRight_eq_div_pow, Int.fdiv_eq_ediv_of_nonneg _ (by
   have : (0 : Int) < 2 ^ c.toNat := Int.pow_pos (by decide)
   omega)]
  rw [Int.natCast_ediv, Int.natCast_pow]; rfl
 rwa [e] at this
theorem BZ {m : Nat} {x y : Operand} {t u : TypeId} {k' : IntKind} (c : Nat) (hx : opv M x = some (.int .u64 (m : Int))) (hy : opv M y = some (.int k' (c : Int))) (hc : c ≤ 64) : QS P N F L M ⟨dst, .binOp .shr t x y u, ty, pos, after, g⟩ (.int .u64 ((m / 2 ^ c : Nat) : Int)) := by
 have := sy (P := P) (N := N) (F := F) (L := L) (dst := dst) (ty := ty) (pos := pos) (after := after) (g := g) (t := t) (u := u) hx hy (by omega)
 have e : (m : Int).fdiv (2 ^ (min (c : Int).toNat IntKind.u64.bits)) = ((m / 2 ^ c : Nat) : Int) := by
  rw [Int.toNat_natCast, Nat.min_eq_left (show c ≤ IntKind.u64.bits from hc), Int.fdiv_eq_ediv_of_nonneg _ (by
   have : (0 : Int) < 2 ^ c := Int.pow_pos (by decide)
   omega), Int.natCast_ediv, Int.natCast_pow]; rfl
 rwa [e] at this
theorem C3 {x y : Operand} {t u : TypeId} {k' : IntKind} {c : Nat} (hx : opv M x = some (.int .u64 1)) (hy : opv M y = some (.int k' (c : Int))) (hc : c < 64) : QS P N F L M ⟨dst, .binOp .shl t x y u, ty, pos, after, g⟩ (.int .u64 ((1 <<< c : Nat) : Int)) := by
 have := Bc (P := P) (N := N) (F := F) (L := L) (dst := dst) (ty := ty) (pos := pos) (after := after) (g := g) (t := t) (u := u) hx hy (by omega)
 have e : IntKind.u64.wrap ((1 : Int) * 2 ^ (min (c : Int).toNat IntKind.u64.bits)) = ((1 <<< c : Nat) : Int) := by
  have h1 : 2 ^ c < 2 ^ 64 := Nat.pow_lt_pow_right (by decide) hc
  rw [Int.toNat_natCast, Nat.min_eq_left (by show c ≤ 64; omega), Int.one_mul, Nat.one_shiftLeft, IntWalk.u64_in]
  ·rw [Int.natCast_pow]; rfl
  ·have h2 : ((2 : Int) ^ c) = ((2 ^ c : Nat) : Int) := by rw [Int.natCast_pow]; rfl
   rw [h2]
   generalize 2 ^ c = z at h1
   have h1' : z < 18446744073709551616 := h1
   omega
 rwa [e] at this
theorem Ft {m n : Nat} {x y : Operand} {t u : TypeId} (hx : opv M x = some (.int .u64 (m : Int))) (hy : opv M y = some (.int .u64 (n : Int))) (hm : m < 18446744073709551616) (hn : n < 18446744073709551616) : QS P N F L M ⟨dst, .binOp .and t x y u, ty, pos, after, g⟩ (.int .u64 ((m &&& n : Nat) : Int)) := by
 have := yh (P := P) (N := N) (F := F) (L := L) (dst := dst) (ty := ty) (pos := pos) (after := after) (g := g) (t := t) (u := u) hx hy
 have e : IntKind.u64.wrap ((BitVec.ofInt IntKind.u64.bits (m : Int) &&& BitVec.ofInt IntKind.u64.bits (n : Int)).toNat : Int) = ((m &&& n : Nat) : Int) := by
  have h1 : (BitVec.ofInt 64 (m : Int)).toNat = m := by rw [BitVec.toNat_ofInt]; omega
  have h2 : (BitVec.ofInt 64 (n : Int)).toNat = n := by rw [BitVec.toNat_ofInt]; omega
  show IntKind.u64.wrap ((BitVec.ofInt 64 (m : Int) &&& BitVec.ofInt 64 (n : Int)).toNat : Int) = _
  rw [BitVec.toNat_and, h1, h2, IntWalk.u64_in]
  have : m &&& n ≤ n := Nat.and_le_right
  omega
 rwa [e] at this
theorem Bh {x : Operand} {s d : TypeId} {ds : TypeDesc} {k : IntKind} {m : Int} (n : Nat) (hx : opv M x = some (.int k m)) (hs : P.underlying s = some ds) (hd : P.underlying d = some (.int .u64)) (hm : m = (n : Int)) (hn : n < 18446744073709551616) :
  QS P N F L M ⟨dst, .convert s d x, ty, pos, after, g⟩ (.int .u64 ((UInt64.ofNat n).toNat : Int)) := by
 have h := m5 (N := N) (F := F) (L := L) (dst := dst) (ty := ty) (pos := pos) (after := after) (g := g) hx hs hd
 rw [hm, IntWalk.u64_in _ (by omega)] at h
 rwa [UInt64.toNat_ofNat', Nat.mod_eq_of_lt hn]
theorem Fg {m n : Nat} {x y : Operand} {t u : TypeId} (hx : opv M x = some (.int .u64 (m : Int))) (hy : opv M y = some (.int .u64 (n : Int))) (h : n ≤ m) (hm : m < 18446744073709551616) : QS P N F L M ⟨dst, .binOp .sub t x y u, ty, pos, after, g⟩ (.int .u64 ((m - n : Nat) : Int)) := by
 have := BX (P := P) (N := N) (F := F) (L := L) (dst := dst) (ty := ty) (pos := pos) (after := after) (g := g) (t := t) (u := u) hx hy (by omega)
 rwa [show (m : Int) - (n : Int) = ((m - n : Nat) : Int) by omega] at this
def G0 : List UInt8 := (List.range 256).map fun i => UInt8.ofNat (bitsLen i)
theorem wy {i : Nat} (h : i < 256) : bitsLen i ≤ 8 := (bitsLen_le_iff i 8).2 h
theorem C9 {x y : Operand} {t : TypeId} {s : ByteArray} {i : Nat} (hx : opv M x = some (.string s)) (hy : opv M y = some (.int .u8 (i : Int))) (ht : P.underlying t = some .string) (hs : s.data.toList = G0) (hi : i < 256) :
  QS P N F L M ⟨dst, .index t x y, ty, pos, after, g⟩ (.int .u8 ((bitsLen i : Nat) : Int)) := by
 have hz : s.size = 256 := by
  have : s.data.toList.length = 256 := by rw [hs]; simp [G0]
  rw [← this, Array.length_toList]; rfl
 have := pQ (P := P) (N := N) (F := F) (L := L) (dst := dst) (ty := ty) (pos := pos) (after := after) (g := g) hx hy ht (by omega)
 have e : (s.data.toList.getD (i : Int).toNat 0).toNat = bitsLen i := by
  rw [hs, Int.toNat_natCast, List.getD_eq_getElem?_getD]
  have h8 := wy hi
  simp [G0, hi]
  omega
 rwa [e] at this
end
theorem rowE.len {α β : Type} {V : Value} {T T' : TypeId} {E : Enc α} {G : Enc β} {l : List α} {l' : List β} {w w' : World} (h : (rowE V T E l).holds w) (h' : (rowE V T' G l').holds w') : l'.length = l.length := by
 obtain ⟨a, c, e, _⟩ := (rowE.sl h).shape
 obtain ⟨a', c', e', _⟩ := (rowE.sl h').shape
 rw [e] at e'
 injection e' with _ e2
 exact e2.symm
theorem kh {α β : Type} {N : Nat} {F : Bg} {L : List Ent} {M : Fr} {V : Value} {T T' : TypeId} {E : Enc α} {G : Enc β} {l0 : List α} {l : List β} {w : World} {X : Act → World → Prop} (h : (rowE V T E l0).holds w) (hm : rowE V T' G l ∈ L) (K : l.length = l0.length → Tr N F L M X) : Tr N F L M X :=
 fun a w' ha hw => K (rowE.len h (hw.ent _ hm)) a w' ha hw
theorem HpOK.own {F : Bg} {L Lo R : List Ent} {w : World} (h : HpOK F L w) (hs : Split L Lo R) : OwnAt w Lo := (h.perm hs.perm.symm).ownAt.left
theorem sR {x c : Nat} (h : 2 ^ c ≤ x) : bitsLen x = c + bitsLen (x / 2 ^ c) := by
 have key : ∀ k, bitsLen x ≤ k ↔ c + bitsLen (x / 2 ^ c) ≤ k := fun k => by
  rw [bitsLen_le_iff]
  rcases Nat.lt_or_ge k c with hk | hk
  ·have : 2 ^ k < 2 ^ c := Nat.pow_lt_pow_right (by decide) hk
   constructor <;> intro h' <;> omega
  ·obtain ⟨j, rfl⟩ : ∃ j, k = c + j := ⟨k - c, by omega⟩
   rw [show (c + bitsLen (x / 2 ^ c) ≤ c + j) ↔ bitsLen (x / 2 ^ c) ≤ j by omega, bitsLen_le_iff, Nat.div_lt_iff_lt_mul (Nat.two_pow_pos _), Nat.pow_add, Nat.mul_comm]
 exact Nat.le_antisymm ((key _).2 (Nat.le_refl _)) ((key _).1 (Nat.le_refl _))
theorem HZ {x : Nat} (h : 65536 ≤ x) : bitsLen x = 16 + bitsLen (x / 2 ^ 16) := sR h
theorem len8 {x : Nat} (h : 256 ≤ x) : bitsLen x = 8 + bitsLen (x / 2 ^ 8) := sR h
theorem rR {d : Array UInt32} {a b s : Nat} {i : Nat × Nat × Nat} (hi : i = order2 ltW d a b s) {n : Nat} (ha : a < n) (hb : b < n) : i.1 < n ∧ i.2.1 < n ∧ i.2.2 ≤ s + 1 := by
 subst hi
 refine ⟨?_, ?_, order2_count ltW d a b s⟩ <;> unfold order2 <;> split <;> assumption
theorem vX {d : Array UInt32} {a b c s : Nat} {i : Nat × Nat} (hi : i = median ltW d a b c s) {n : Nat} (ha : a < n) (hb : b < n) (hc : c < n) : i.1 < n ∧ i.2 ≤ s + 3 := by
 subst hi
 refine ⟨?_, median_count ltW d a b c s⟩
 rcases median_mem ltW d a b c s with h | h | h <;> rw [h] <;> assumption
theorem AZ {d : Array UInt32} {a s : Nat} {i : Nat × Nat} (hi : i = medianAdjacent ltW d a s) {n : Nat} (ha : a + 1 < n) : i.1 < n ∧ i.2 ≤ s + 3 := vX hi (by omega) (by omega) ha
theorem FQ {d : Array UInt32} {a b : Nat} {i1 i2 i3 i4 : Nat × Nat} (h : 50 ≤ b - a) (e1 : i1 = medianAdjacent ltW d (a + (b - a) / 4 * 1) 0) (e2 : i2 = medianAdjacent ltW d (a + (b - a) / 4 * 2) i1.2) (e3 : i3 = medianAdjacent ltW d (a + (b - a) / 4 * 3) i2.2)
  (e4 : i4 = median ltW d i1.1 i2.1 i3.1 i3.2) : i4 = rawPivot ltW d a b := by
 subst e1 e2 e3 e4
 unfold rawPivot
 rw [if_pos (by omega), if_pos (by omega)]
theorem FP {d : Array UInt32} {a b : Nat} {i4 : Nat × Nat} (h8 : 8 ≤ b - a) (h : b - a < 50) (e4 : i4 = median ltW d (a + (b - a) / 4 * 1) (a + (b - a) / 4 * 2) (a + (b - a) / 4 * 3) 0) : i4 = rawPivot ltW d a b := by
 subst e4
 unfold rawPivot
 rw [if_pos (by omega), if_neg (by omega)]
theorem D2 {d : Array UInt32} {a b : Nat} (h8 : b - a < 8) : ((a + (b - a) / 4 * 2, 0) : Nat × Nat) = rawPivot ltW d a b := by
 unfold rawPivot
 rw [if_neg (by omega)]
def qw (a len m i0 : Nat) : Nat → UInt64 × Array UInt32 → UInt64 × Array UInt32
 | 0, st => st
 | t + 1, st => breakStep a len m (qw a len m i0 t st) (i0 + t)
theorem E0 {d : Array UInt32} {a b : Nat} (h : 8 ≤ b - a) : breakPatterns d a b = (qw a (b - a) (1 <<< bitsLen (b - a)) (a + (b - a) / 4 * 2 - 1) 3 (UInt64.ofNat (b - a), d)).2 := by
 unfold breakPatterns
 simp only []
 rw [if_pos h]; rfl
theorem EZ {d : Array UInt32} {a b : Nat} (h : b - a < 8) : breakPatterns d a b = d := by
 unfold breakPatterns
 simp only []
 rw [if_neg (by omega)]
theorem EY {a len m i0 t : Nat} {st : UInt64 × Array UInt32} {r : UInt64} {cur : Array UInt32} {o : Nat} (h : qw a len m i0 t st = (r, cur)) (ho : o = if len ≤ ((xorNext r).toNat &&& (m - 1)) then ((xorNext r).toNat &&& (m - 1)) - len else ((xorNext r).toNat &&& (m - 1))) :
  qw a len m i0 (t + 1) st = (xorNext r, swp cur (i0 + t) (a + o)) := by
 subst ho
 show breakStep a len m (qw a len m i0 t st) (i0 + t) = _
 rw [h]; rfl
theorem Hi {n : Nat} (h : 0 < n) : 1 ≤ 1 <<< bitsLen n ∧ 1 <<< bitsLen n ≤ 2 * n := by
 rw [Nat.one_shiftLeft]
 exact ⟨Nat.two_pow_pos _, two_pow_bitsLen_le h⟩
section
variable {d : Array UInt32} {a b limit : Nat} {wb wp : Bool}
theorem vh (h : b - a ≤ 12) : pdq ltW d a b limit wb wp = insertionSort ltW d a b := by rw [pdq, if_pos h]
theorem xc (h : ¬ b - a ≤ 12) (h0 : limit = 0) : pdq ltW d a b limit wb wp = heapSort ltW d a b := by rw [pdq, if_neg h, if_pos h0]
structure Rnd (d : Array UInt32) (a b limit : Nat) (wb wp : Bool) (l1 pv : Nat) (d3 : Array UInt32) : Prop where
 done : ∃ (d1 d2 : Array UInt32) (c : Nat × Hint) (hint : Hint), d1 = (if !wb then breakPatterns d a b else d) ∧ l1 = (if !wb then limit - 1 else limit) ∧ c = choosePivot ltW d1 a b ∧
  d2 = (if c.2 = .decreasing then reverseRange d1 a b else d1) ∧ pv = (if c.2 = .decreasing then (b - 1) - (c.1 - a) else c.1) ∧ hint = (if c.2 = .decreasing then Hint.increasing else c.2) ∧
  (if wb && wp && hint = .increasing then partialInsertionSort ltW d2 a b else (d2, false)) = (d3, false)
theorem xd {d1 d2 d3 : Array UInt32} {c : Nat × Hint} {hint : Hint} (h : ¬ b - a ≤ 12) (h0 : ¬ limit = 0) (e1 : d1 = (if !wb then breakPatterns d a b else d)) (ec : c = choosePivot ltW d1 a b)
  (e3 : d2 = (if c.2 = .decreasing then reverseRange d1 a b else d1)) (e5 : hint = (if c.2 = .decreasing then Hint.increasing else c.2)) (e6 : (if wb && wp && hint = .increasing then partialInsertionSort ltW d2 a b else (d2, false)) = (d3, true)) :
  pdq ltW d a b limit wb wp = d3 := by
 subst e1 ec e3 e5
 rw [pdq, if_neg h, if_neg h0]
 simp only [e6, if_true]
theorem uc {l1 pv : Nat} {d3 : Array UInt32} (h : ¬ b - a ≤ 12) (h0 : ¬ limit = 0) (r : Rnd d a b limit wb wp l1 pv d3) :
  pdq ltW d a b limit wb wp = if a > 0 && !ltW d3[a - 1]! d3[pv]! then
   (match partitionEqual ltW d3 a b pv with | (mid, d4) => if _h : a < mid ∧ mid ≤ b then pdq ltW d4 mid b l1 wb wp else d4)
  else
   (match partition ltW d3 a b pv with
   | (mid, ap, d4) =>
    if _h : a ≤ mid ∧ mid < b then
     if mid - a < b - mid then pdq ltW (pdq ltW d4 a mid l1 true true) (mid + 1) b l1 (decide (mid - a ≥ (b - a) / 8)) ap
     else pdq ltW (pdq ltW d4 (mid + 1) b l1 true true) a mid l1 (decide (b - mid ≥ (b - a) / 8)) ap
    else d4) := by
 obtain ⟨d1, d2, c, hint, e1, e2, ec, e3, e4, e5, e6⟩ := r.done
 subst e1 ec e3 e5 e2 e4
 rw [pdq, if_neg h, if_neg h0]
 simp only [e6, Bool.false_eq_true, if_false]
theorem FR {l1 pv mid : Nat} {d3 d4 : Array UInt32} (h : ¬ b - a ≤ 12) (h0 : ¬ limit = 0) (r : Rnd d a b limit wb wp l1 pv d3) (ha : 0 < a) (hl : ltW d3[a - 1]! d3[pv]! = false) (he : partitionEqual ltW d3 a b pv = (mid, d4)) (hm : a < mid ∧ mid ≤ b) :
  pdq ltW d a b limit wb wp = pdq ltW d4 mid b l1 wb wp := by
 rw [uc h h0 r, if_pos (by simp [ha, hl]), he]
 simp only []
 rw [dif_pos hm]
theorem w9 {l1 pv mid : Nat} {d3 d4 : Array UInt32} {ap : Bool} (h : ¬ b - a ≤ 12) (h0 : ¬ limit = 0) (r : Rnd d a b limit wb wp l1 pv d3) (hl : a = 0 ∨ ltW d3[a - 1]! d3[pv]! = true) (he : partition ltW d3 a b pv = (mid, ap, d4)) (hm : a ≤ mid ∧ mid < b) (hs : mid - a < b - mid) :
  pdq ltW d a b limit wb wp = pdq ltW (pdq ltW d4 a mid l1 true true) (mid + 1) b l1 (decide (mid - a ≥ (b - a) / 8)) ap := by
 rw [uc h h0 r, if_neg (by simp only [Bool.and_eq_true, decide_eq_true_eq, Bool.not_eq_true']; rintro ⟨q1, q2⟩; rcases hl with q | q; omega; rw [q] at q2; cases q2), he]
 simp only []
 rw [dif_pos hm, if_pos hs]
theorem vj {l1 pv mid : Nat} {d3 d4 : Array UInt32} {ap : Bool} (h : ¬ b - a ≤ 12) (h0 : ¬ limit = 0) (r : Rnd d a b limit wb wp l1 pv d3) (hl : a = 0 ∨ ltW d3[a - 1]! d3[pv]! = true) (he : partition ltW d3 a b pv = (mid, ap, d4)) (hm : a ≤ mid ∧ mid < b) (hs : ¬ mid - a < b - mid) :
  pdq ltW d a b limit wb wp = pdq ltW (pdq ltW d4 (mid + 1) b l1 true true) a mid l1 (decide (b - mid ≥ (b - a) / 8)) ap := by
 rw [uc h h0 r, if_neg (by simp only [Bool.and_eq_true, decide_eq_true_eq, Bool.not_eq_true']; rintro ⟨q1, q2⟩; rcases hl with q | q; omega; rw [q] at q2; cases q2), he]
 simp only []
 rw [dif_pos hm, if_neg hs]
end
theorem Aq {d : Array UInt32} {a b pv : Nat} (h : a + 1 < b) (hb : b ≤ d.size) : a < (partitionEqual ltW d a b pv).1 ∧ (partitionEqual ltW d a b pv).1 ≤ b := by
 have := partEqLoop_spec (lt := ltW) a b _ (a + 1) (b - 1) (swp d a pv) (Nat.le_refl _) (by omega) (by omega) (by omega) (by rw [nK]; exact hb) (fun t _ _ => by omega) (fun t _ _ => by omega)
 exact ⟨this.1, this.2.1⟩
theorem D6 {d : Array UInt32} {a b pv : Nat} (h1 : a ≤ pv) (h2 : pv < b) (hb : b ≤ d.size) : a ≤ (partition ltW d a b pv).1 ∧ (partition ltW d a b pv).1 < b := by
 have := partition_holds (lt := ltW) wT d a b pv h1 h2 hb
 exact ⟨this.1, this.2.1⟩
theorem re (h : Hint) : hintCode h = 2 ↔ h = .decreasing := by cases h <;> simp [hintCode]
theorem rc (h : Hint) : hintCode h = 1 ↔ h = .increasing := by cases h <;> simp [hintCode]
theorem D4 {wb wp : Bool} {hint : Hint} (h : (wb = true ∧ wp = true) ∧ hintCode hint = 1) : (wb && wp && decide (hint = .increasing)) = true := by
 rw [h.1.1, h.1.2, (rc hint).1 h.2]; rfl
theorem HU {wb wp : Bool} {hint : Hint} (h : (wb = false ∨ wp = false) ∨ ¬ hintCode hint = 1) : ¬ (wb && wp && decide (hint = .increasing)) = true := by
 simp only [Bool.and_eq_true, decide_eq_true_eq]
 rintro ⟨⟨q1, q2⟩, q3⟩
 rcases h with (q | q) | q
 ·rw [q1] at q; cases q
 ·rw [q2] at q; cases q
 ·exact q ((rc hint).2 q3)
theorem DC (d : Array UInt32) : (sort ltW d).toList = d.toList.mergeSort (fun x y => !ltW y x) := by
 have h := sort_sorts ltW wT d
 exact sorted_unique_holds (lt := ltW) wT (fun x y h1 h2 => by
  simp only [ltW, decide_eq_false_iff_not, UInt32.lt_iff_toNat_lt] at h1 h2
  exact UInt32.toNat_inj.1 (by omega)) d _ h.1 h.2
end Go.HL
namespace Go.Proofs.YtiajjbhcpeadfaaGreat
open Go Go.HL Go.RowKit Go.Sort
theorem FY (x : Nat) (hx : x < 4294967296) (w : World) :
  Calls Tryz.prog 209 #[.int .u64 (x : Nat)] w (fun e w' => e = .returned (.int .i64 (bitsLen x : Nat)) ∧ Ext w w') := by
 refine enter Tryz.func209 rfl Tryz.ntmps209 rfl ?_
 refine af (zz0 (ab rfl) (ad (al (af (zz0 (aa rfl) (zz0 (eE rfl rfl) (ad ?_)))))))
 refine an rfl ?_ ?_ <;> intro h1 <;> try simp only [bs] at h1
 ·first | contradiction | (exfalso; omega) | simp_all
 ·refine bA ?_
  refine db (ι := Nat × Nat) (fun ⟨y, n⟩ => y < 65536 ∧ n ≤ 16 ∧ bitsLen x = n + bitsLen y) (fun _ => Bg.of w) (fun ⟨y, n⟩ => []) (fun ⟨y, n⟩ => [(0, .int .u64 (y : Nat)), (2, .int .i64 (n : Nat))]) ?_ (fun i hi => ?_)
  ·skip
   refine af (zz0 (aa rfl) (zz0 (eE rfl rfl) (ad ?_)))
   refine an rfl ?_ ?_ <;> intro h2 <;> try simp only [bs] at h2
   ·refine af (zz0 (aa rfl) (zz0 (BZ 16 rfl rfl (by decide)) ?_))
    refine zz0 (ab rfl) (ad (ao (zz0 (aa rfl) (zz0 (cp rfl rfl) ?_))))
    refine zz0 (ab rfl) (ad ?_)
    refine cw (x / 2 ^ 16, 16) (Front.c (Front.c Front.nil)) (bB 8 rfl) (o := ⟨by omega, by omega, HZ (by omega)⟩)
   ·refine bA ?_
    refine cw (x, 0) (Front.c (Front.c Front.nil)) (bB 2 rfl) (o := ⟨by omega, by omega, by omega⟩)
  ·obtain ⟨y, n⟩ := i
   replace hi : y < 65536 ∧ n ≤ 16 ∧ bitsLen x = n + bitsLen y := hi
   change Tr _ _ [] ([(0, .int .u64 (y : Nat)), (2, .int .i64 (n : Nat))] ++ _) _
   obtain ⟨hy1, hy2, hy3⟩ := hi
   refine db (ι := Nat × Nat) (fun ⟨z, k⟩ => z < 256 ∧ k ≤ 24 ∧ bitsLen x = k + bitsLen z) (fun _ => Bg.of w) (fun ⟨z, k⟩ => []) (fun ⟨z, k⟩ => [(0, .int .u64 (z : Nat)), (2, .int .i64 (k : Nat))]) ?_ (fun i hi => ?_)
   ·skip
    refine af (zz0 (aa rfl) (zz0 (eE rfl rfl) (ad ?_)))
    refine an rfl ?_ ?_ <;> intro h3 <;> try simp only [bs] at h3
    ·refine af (zz0 (aa rfl) (zz0 (BZ 8 rfl rfl (by decide)) ?_))
     refine zz0 (ab rfl) (ad (ao (zz0 (aa rfl) (zz0 (cp rfl rfl) ?_))))
     refine zz0 (ab rfl) (ad ?_)
     refine cw (y / 2 ^ 8, n + 8) (Front.c (Front.c Front.nil)) (bB 8 rfl) (o := ⟨by omega, by omega, by have := len8 (x := y) (by omega); omega⟩)
    ·refine bA ?_
     refine cw (y, n) (Front.c (Front.c Front.nil)) (bB 2 rfl) (o := ⟨by omega, by omega, by omega⟩)
   ·obtain ⟨z, k⟩ := i
    replace hi : z < 256 ∧ k ≤ 24 ∧ bitsLen x = k + bitsLen z := hi
    change Tr _ _ [] ([(0, .int .u64 (z : Nat)), (2, .int .i64 (k : Nat))] ++ _) _
    obtain ⟨hz1, hz2, hz3⟩ := hi
    have hz8 := wy hz1
    refine af (zz0 (aa rfl) (zz0 (aa rfl) (zz0 (fa rfl cG bZ (by rw [IntKind.wrap_u8]; omega)) ?_)))
    refine zz0 (C9 rfl rfl eZ (by kernel_rfl) (by omega)) ?_
    refine zz0 (fa rfl bZ aY (IntWalk.i64_in _ (by omega))) ?_
    refine zz0 (cp rfl rfl) ?_
    refine zz0 (ab rfl) (ad (az ?_))
    refine aT Tryz.results209 rfl (fun w' hw => ?_)
    exact ⟨by rw [hz3]; simp, hw.b0⟩
theorem HY (x : Nat) (xi : Int) (ex : xi = ((x : Nat) : Int)) (hx : x < 4294967296) (w : World) :
  Calls Tryz.prog 150 #[.int .u64 xi] w (fun e w' => e = .returned (.int .i64 (bitsLen x : Nat)) ∧ Ext w w') := by
 subst ex
 refine enter Tryz.func150 rfl Tryz.ntmps150 rfl ?_
 refine af (zz0 (ab rfl) (ad (al ?_)))
 refine an rfl ?_ ?_ <;> intro h1 <;> try simp only [bs] at h1
 ·first | contradiction | (exfalso; omega) | simp_all
 ·refine dh (zz0 (aa rfl) (zz0 (aA rfl Tryz.call209 (fun w hw => FY x hx w)) ?_))
  refine zz0 (ab rfl) (ad (az ?_))
  refine aT Tryz.results150 rfl (fun w' hw => ?_)
  exact ⟨rfl, hw.b0⟩
theorem CC (n : Nat) (ni : Int) (en : ni = ((n : Nat) : Int)) (hn : n ≤ 1000000) (w : World) :
  Calls Tryz.prog 265 #[.int .i64 ni] w (fun e w' => e = .returned (.int .u64 ((1 <<< bitsLen n : Nat) : Int)) ∧ Ext w w') := by
 subst en
 have hb : bitsLen n ≤ 20 := (bitsLen_le_iff n 20).2 (by omega)
 refine enter Tryz.func265 rfl Tryz.ntmps265 rfl ?_
 refine af (zz0 (ab rfl) (aI (zz0 (aa rfl) (zz0 (fa rfl aY dQ (IntWalk.u64_in _ (by omega))) ?_))))
 refine zz0 (aA rfl Tryz.call150 (fun w hw => HY n _ rfl (by omega) w)) ?_
 refine zz0 (C3 rfl rfl (by omega)) ?_
 refine zz0 (ab rfl) (ad (az ?_))
 refine aT Tryz.results265 rfl (fun w' hw => ?_)
 exact ⟨rfl, hw.b0⟩
theorem Hh (r : UInt64) (bs : Nat) (w : World) (ho : OwnAt w [cellE bs [.int .u64 ((r).toNat : Int)] 292]) :
  Calls Tryz.prog 266 #[.pointer (some ⟨bs, 0, none⟩)] w (fun e w' => ∃ i : Unit, e = .returned (.int .u64 ((xorNext r).toNat : Nat)) ∧ Upd w.drawn w w' (c9 [cellE bs [.int .u64 ((r).toNat : Int)] 292]) ([cellE bs [.int .u64 ((xorNext r).toNat : Int)] 292]) ∧ True) := by
 refine qo (L := [cellE bs [.int .u64 ((r).toNat : Int)] 292]) ho rfl (Nat.le_refl _) Tryz.func266 rfl Tryz.ntmps266 rfl ?_
 refine af (zz0 (ab rfl) (ad (al (fG 0 9 aS ?_))))
 refine bG ?_
 refine aw (aa rfl) (aw (bv rfl) ?_)
 refine aw (kb rfl ja) ?_
 refine aw (aa rfl) (aw (bv rfl) ?_)
 refine aw (kb rfl ja) ?_
 refine aw (zR 13 rfl rfl (by decide)) ?_
 refine aw (uX rfl rfl) ?_
 refine aw (bv rfl) ?_
 refine bH ?_
 refine zz6 rfl rfl ly ?_
 refine ad (al (fG 0 9 aS ?_))
 refine bG ?_
 refine aw (aa rfl) (aw (bv rfl) ?_)
 refine aw (kb rfl ja) ?_
 refine aw (aa rfl) (aw (bv rfl) ?_)
 refine aw (kb rfl ja) ?_
 refine aw (Fj 7 rfl rfl (by decide)) ?_
 refine aw (uX rfl rfl) ?_
 refine aw (bv rfl) ?_
 refine bH ?_
 refine zz6 rfl rfl ly ?_
 refine ad (al (fG 0 9 aS ?_))
 refine bG ?_
 refine aw (aa rfl) (aw (bv rfl) ?_)
 refine aw (kb rfl ja) ?_
 refine aw (aa rfl) (aw (bv rfl) ?_)
 refine aw (kb rfl ja) ?_
 refine aw (zR 17 rfl rfl (by decide)) ?_
 refine aw (uX rfl rfl) ?_
 refine aw (bv rfl) ?_
 refine bH ?_
 refine zz6 rfl rfl ly ?_
 refine aI (zz0 (aa rfl) (zz0 (bv rfl) ?_))
 refine zz0 (kb rfl ja) ?_
 refine zz0 (ab rfl) (ad (az ?_))
 refine aT Tryz.results266 rfl (fun w' hw => ?_)
 exact ⟨(), rfl, hw.upd (Bg.le.refl _) (by repeat' constructor), trivial⟩
theorem qk (d : Array UInt32) (V : Value) (bs : Nat) (a b s : Nat) (ai bi : Int) (ea : ai = ((a : Nat) : Int)) (eb : bi = ((b : Nat) : Int)) (w : World) (ho : OwnAt w [rowE V 23 ar d.toList, cellE bs [.int .i64 ((s : Nat) : Int)] 3]) (hd : d.size ≤ 1000000) (ha : a < d.size) (hb : b < d.size) (hs : s ≤ 100 := by omega) :
  Calls Tryz.prog 323 #[V, .int .i64 ai, .int .i64 bi, .pointer (some ⟨bs, 0, none⟩)] w (fun e w' => ∃ i : Nat × Nat × Nat, e = .returned ((fun i : Nat × Nat × Nat => .tuple #[.int .i64 (i.1 : Nat), .int .i64 (i.2.1 : Nat)]) i) ∧ Upd w.drawn w w' (c9 [rowE V 23 ar d.toList, cellE bs [.int .i64 ((s : Nat) : Int)] 3]) ([rowE V 23 ar d.toList, cellE bs [.int .i64 (i.2.2 : Nat)] 3]) ∧ i = order2 ltW d a b s) := by
 subst ea eb
 have hdl : d.toList.length = d.size := Array.length_toList
 refine qo (L := [rowE V 23 ar d.toList, cellE bs [.int .i64 ((s : Nat) : Int)] 3]) ho rfl (Nat.le_refl _) Tryz.func323 rfl Tryz.ntmps323 rfl ?_
 refine af (zz0 (ab rfl) (zz0 (ab rfl) (ad (al (al (gQ aS ?_))))))
 refine aw (aa rfl) (aw (aa rfl) (aw (zz7 rfl rfl ah ae) ?_))
 refine aw (dY rfl am) ?_
 refine aw (aa rfl) (aw (aa rfl) (aw (zz7 rfl rfl ah ae) ?_))
 refine aw (dY rfl am) ?_
 refine aw (aA rfl fC (fun w hw => gR (d.toList.getD (b) default) (d.toList.getD (a) default) w)) ?_
 refine bH ?_
 refine ac ?_
 refine an rfl ?_ ?_ <;> intro h1 <;> try simp only [bs] at h1
 ·refine af (zz0 (aa rfl) (zz0 (bv rfl) ?_))
  refine zz0 (kb rfl aN) ?_
  refine zz0 (cp rfl rfl) ?_
  refine zz0 (bv rfl) ?_
  refine jn rfl rfl aC (by repeat constructor) (by rfl) (by rfl) (by first | exact List.all_eq_true.1 rfl | exact Enc.one _ _ | exact Enc.one bQ _ | (intro u hu; simp [Value.cells] at hu; simp_all [Value.oneCell'])) rfl ?_
  refine aI (zz0 (aa rfl) (zz0 (aa rfl) (zz0 (ab rfl) (zz0 (ab rfl) (ad (az (ay ?_)))))))
  refine df Tryz.results323 rfl rfl (fun w' hw => ?_)
  refine ⟨(b, a, s + 1), rfl, hw.upd (Bg.le.refl _) (by repeat' constructor), ?_⟩
  unfold order2
  rw [if_pos (by rw [← dP, ← dP]; simp_all)]
 ·refine dh (zz0 (aa rfl) (zz0 (aa rfl) (zz0 (ab rfl) (zz0 (ab rfl) (ad (az ?_))))))
  refine df Tryz.results323 rfl rfl (fun w' hw => ?_)
  refine ⟨(a, b, s), rfl, hw.upd (Bg.le.refl _) (by repeat' constructor), ?_⟩
  unfold order2
  rw [if_neg (by rw [← dP, ← dP]; simp_all)]
theorem uz (d : Array UInt32) (V : Value) (bs : Nat) (a b c s : Nat) (ai bi ci : Int) (ea : ai = ((a : Nat) : Int)) (eb : bi = ((b : Nat) : Int)) (ec : ci = ((c : Nat) : Int)) (w : World) (ho : OwnAt w [rowE V 23 ar d.toList, cellE bs [.int .i64 ((s : Nat) : Int)] 3]) (hd : d.size ≤ 1000000) (ha : a < d.size) (hb : b < d.size) (hc : c < d.size) (hs : s ≤ 90 := by omega) :
  Calls Tryz.prog 295 #[V, .int .i64 ai, .int .i64 bi, .int .i64 ci, .pointer (some ⟨bs, 0, none⟩)] w (fun e w' => ∃ i : Nat × Nat, e = .returned ((fun i : Nat × Nat => .int .i64 (i.1 : Nat)) i) ∧ Upd w.drawn w w' (c9 [rowE V 23 ar d.toList, cellE bs [.int .i64 ((s : Nat) : Int)] 3]) ([rowE V 23 ar d.toList, cellE bs [.int .i64 (i.2 : Nat)] 3]) ∧ i = median ltW d a b c s) := by
 subst ea eb ec
 refine qo (L := [rowE V 23 ar d.toList, cellE bs [.int .i64 ((s : Nat) : Int)] 3]) ho rfl (Nat.le_refl _) Tryz.func295 rfl Tryz.ntmps295 rfl ?_
 refine af (zz0 (ab rfl) (aI (zz0 (aa rfl) (zz0 (aa rfl) (zz0 (aa rfl) (zz0 (aa rfl) ?_))))))
 refine iG (fun i : Nat × Nat × Nat => .tuple #[.int .i64 (i.1 : Nat), .int .i64 (i.2.1 : Nat)]) [rowE V 23 ar d.toList, cellE bs [.int .i64 ((s : Nat) : Int)] 3] (fun i : Nat × Nat × Nat => [rowE V 23 ar d.toList, cellE bs [.int .i64 (i.2.2 : Nat)] 3]) (ok := fun i => i = order2 ltW d a b s) (dd := fun w => w.drawn) rfl Tryz.call323 (by repeat' constructor) (fun w hw => hw.dr) (fun w hw => qk d V bs a b s _ _ rfl rfl w (hw.own (by repeat' constructor)) hd (by omega) (by omega)) rfl (fun p hp => ?_)
 obtain ⟨bp1, bp2, bp3⟩ := rR hp (n := d.size) (by omega) (by omega)
 obtain ⟨x1, y1, s1⟩ := p
 dsimp only at bp1 bp2 bp3
 change Tr _ _ [rowE V 23 ar d.toList, cellE bs [.int .i64 ((s1 : Nat) : Int)] 3] _ _
 refine zz0 (aa rfl) (zz0 (aO rfl rfl) (zz0 (aO rfl rfl) (zz0 (ab rfl) (zz0 (ab rfl) (aI (zz0 (aa rfl) (zz0 (aa rfl) (zz0 (aa rfl) (zz0 (aa rfl) ?_)))))))))
 refine iG (fun i : Nat × Nat × Nat => .tuple #[.int .i64 (i.1 : Nat), .int .i64 (i.2.1 : Nat)]) [rowE V 23 ar d.toList, cellE bs [.int .i64 ((s1 : Nat) : Int)] 3] (fun i : Nat × Nat × Nat => [rowE V 23 ar d.toList, cellE bs [.int .i64 (i.2.2 : Nat)] 3]) (ok := fun i => i = order2 ltW d y1 c s1) (dd := fun w => w.drawn) rfl Tryz.call323 (by repeat' constructor) (fun w hw => hw.dr) (fun w hw => qk d V bs y1 c s1 _ _ rfl rfl w (hw.own (by repeat' constructor)) hd (by omega) (by omega)) rfl (fun q hq => ?_)
 obtain ⟨bq1, bq2, bq3⟩ := rR hq (n := d.size) (by omega) (by omega)
 obtain ⟨x2, y2, s2⟩ := q
 dsimp only at bq1 bq2 bq3
 change Tr _ _ [rowE V 23 ar d.toList, cellE bs [.int .i64 ((s2 : Nat) : Int)] 3] _ _
 refine zz0 (aa rfl) (zz0 (aO rfl rfl) (zz0 (aO rfl rfl) (zz0 (ab rfl) (zz0 (ab rfl) (aI (zz0 (aa rfl) (zz0 (aa rfl) (zz0 (aa rfl) (zz0 (aa rfl) ?_)))))))))
 refine iG (fun i : Nat × Nat × Nat => .tuple #[.int .i64 (i.1 : Nat), .int .i64 (i.2.1 : Nat)]) [rowE V 23 ar d.toList, cellE bs [.int .i64 ((s2 : Nat) : Int)] 3] (fun i : Nat × Nat × Nat => [rowE V 23 ar d.toList, cellE bs [.int .i64 (i.2.2 : Nat)] 3]) (ok := fun i => i = order2 ltW d x1 x2 s2) (dd := fun w => w.drawn) rfl Tryz.call323 (by repeat' constructor) (fun w hw => hw.dr) (fun w hw => qk d V bs x1 x2 s2 _ _ rfl rfl w (hw.own (by repeat' constructor)) hd (by omega) (by omega)) rfl (fun r hr => ?_)
 obtain ⟨br1, br2, br3⟩ := rR hr (n := d.size) (by omega) (by omega)
 obtain ⟨x3, y3, s3⟩ := r
 dsimp only at br1 br2 br3
 change Tr _ _ [rowE V 23 ar d.toList, cellE bs [.int .i64 ((s3 : Nat) : Int)] 3] _ _
 refine zz0 (aa rfl) (zz0 (aO rfl rfl) (zz0 (aO rfl rfl) (zz0 (ab rfl) (zz0 (ab rfl) (aI (zz0 (aa rfl) (zz0 (ab rfl) (ad (az ?_)))))))))
 refine aT Tryz.results295 rfl (fun w' hw => ?_)
 exact ⟨(y3, s3), rfl, hw.upd (Bg.le.refl _) (by repeat' constructor), by unfold median; simp only []; rw [← hp]; dsimp only; rw [← hq]; dsimp only; rw [← hr]⟩
theorem xT (d : Array UInt32) (V : Value) (bs : Nat) (a s : Nat) (ai : Int) (ea : ai = ((a : Nat) : Int)) (w : World) (ho : OwnAt w [rowE V 23 ar d.toList, cellE bs [.int .i64 ((s : Nat) : Int)] 3]) (hd : d.size ≤ 1000000) (ha : a + 1 < d.size) (h1 : 1 ≤ a) (hs : s ≤ 80 := by omega) :
  Calls Tryz.prog 294 #[V, .int .i64 ai, .pointer (some ⟨bs, 0, none⟩)] w (fun e w' => ∃ i : Nat × Nat, e = .returned ((fun i : Nat × Nat => .int .i64 (i.1 : Nat)) i) ∧ Upd w.drawn w w' (c9 [rowE V 23 ar d.toList, cellE bs [.int .i64 ((s : Nat) : Int)] 3]) ([rowE V 23 ar d.toList, cellE bs [.int .i64 (i.2 : Nat)] 3]) ∧ i = medianAdjacent ltW d a s) := by
 subst ea
 refine qo (L := [rowE V 23 ar d.toList, cellE bs [.int .i64 ((s : Nat) : Int)] 3]) ho rfl (Nat.le_refl _) Tryz.func294 rfl Tryz.ntmps294 rfl ?_
 refine af (zz0 (ab rfl) (aI (zz0 (aa rfl) (zz0 (aa rfl) (zz0 (dX rfl rfl) ?_)))))
 refine zz0 (aa rfl) (zz0 (aa rfl) (zz0 (cp rfl rfl) ?_))
 refine zz0 (aa rfl) ?_
 refine iG (fun i : Nat × Nat => .int .i64 (i.1 : Nat)) [rowE V 23 ar d.toList, cellE bs [.int .i64 ((s : Nat) : Int)] 3] (fun i : Nat × Nat => [rowE V 23 ar d.toList, cellE bs [.int .i64 (i.2 : Nat)] 3]) (ok := fun zz => zz = median ltW d (a - 1) a (a + 1) s) (dd := fun w => w.drawn) rfl Tryz.call295 (by repeat' constructor) (fun w hw => hw.dr) (fun w hw => uz d V bs (a - 1) a (a + 1) s _ _ _ (by omega) (by omega) (by omega) w (hw.own (by repeat' constructor)) hd (by omega) (by omega) (by omega)) rfl (fun p hp => ?_)
 obtain ⟨x, s1⟩ := p
 change Tr _ _ [rowE V 23 ar d.toList, cellE bs [.int .i64 ((s1 : Nat) : Int)] 3] _ _
 refine zz0 (ab rfl) (ad (az ?_))
 refine aT Tryz.results294 rfl (fun w' hw => ?_)
 exact ⟨(x, s1), rfl, hw.upd (Bg.le.refl _) (by repeat' constructor), hp⟩
theorem tf (d : Array UInt32) (V : Value) (a : Nat) (b : Nat) (ai : Int) (bi : Int) (ea : ai = ((a : Nat) : Int)) (eb : bi = ((b : Nat) : Int)) (w : World) (hr : (rowE V 23 ar d.toList).holds w) (hd : d.size ≤ 1000000) (hab : a < b) (hb : b ≤ d.size) :
  Calls Tryz.prog 257 #[V, .int .i64 ai, .int .i64 bi] w (fun e w' => e = .returned (.tuple #[.int .i64 ((choosePivot ltW d a b).1 : Nat), .int .i64 (hintCode (choosePivot ltW d a b).2)]) ∧ Mut w w' V ∧ (rowE V 23 ar d.toList).holds w') := by
 subst ea eb
 refine fH (l := d.toList) (E := ar) (T := 23) hr Tryz.func257 rfl Tryz.ntmps257 rfl ?_
 refine af (zz0 (ab rfl) (zz0 (ab rfl) (aI (zz0 (aa rfl) (zz0 (aa rfl) (zz0 (dX rfl rfl) ?_))))))
 refine zz0 (ab rfl) (aI ?_)
 refine dD iJ rfl (fun b1 => ?_)
 refine aI (zz0 (aa rfl) (zz0 (aa rfl) (zz0 (ou rfl rfl (by omega)) ?_)))
 refine zz0 (kE rfl rfl (by omega)) ?_
 refine zz0 (cp rfl rfl) ?_
 refine zz0 (ab rfl) (aI (zz0 (aa rfl) (zz0 (aa rfl) (zz0 (ou rfl rfl (by omega)) ?_))))
 refine zz0 (kE rfl rfl (by omega)) ?_
 refine zz0 (cp rfl rfl) ?_
 refine zz0 (ab rfl) (aI (zz0 (aa rfl) (zz0 (aa rfl) (zz0 (ou rfl rfl (by omega)) ?_))))
 refine zz0 (kE rfl rfl (by omega)) ?_
 refine zz0 (cp rfl rfl) ?_
 refine zz0 (ab rfl) (ad ?_)
 refine db (ι := Nat × Nat × Nat × Nat) (fun ⟨i, j, k, s⟩ => (j < d.size ∧ s ≤ 12) ∧ (j, s) = rawPivot ltW d a b) (fun _ => Bg.less w V) (fun ⟨i, j, k, s⟩ => [rowE V 23 ar d.toList, cellE b1 [.int .i64 ((s : Nat) : Int)] 3]) (fun ⟨i, j, k, s⟩ => [(10, .int .i64 (i : Nat)), (11, .int .i64 (j : Nat)), (12, .int .i64 (k : Nat))]) ?_ (fun i hi => ?_)
 ·skip
  refine af (zz0 (aa rfl) (zz0 (eE rfl rfl) (ad ?_)))
  refine an rfl ?_ ?_ <;> intro h2 <;> try simp only [bs] at h2
  ·refine db (ι := Nat × Nat × Nat × Nat) (fun ⟨i, j, k, s⟩ => (i < d.size ∧ j < d.size ∧ k < d.size ∧ s ≤ 9) ∧ median ltW d i j k s = rawPivot ltW d a b) (fun _ => Bg.less w V) (fun ⟨i, j, k, s⟩ => [rowE V 23 ar d.toList, cellE b1 [.int .i64 ((s : Nat) : Int)] 3]) (fun ⟨i, j, k, s⟩ => [(10, .int .i64 (i : Nat)), (11, .int .i64 (j : Nat)), (12, .int .i64 (k : Nat))]) ?_ (fun i hi => ?_)
   ·skip
    refine af (zz0 (aa rfl) (zz0 (eE rfl rfl) (ad ?_)))
    refine an rfl ?_ ?_ <;> intro h3 <;> try simp only [bs] at h3
    ·refine af (zz0 (aa rfl) (zz0 (aa rfl) ?_))
     refine iG (fun i : Nat × Nat => .int .i64 (i.1 : Nat)) [rowE V 23 ar d.toList, cellE b1 [.int .i64 ((0 : Nat) : Int)] 3] (fun i : Nat × Nat => [rowE V 23 ar d.toList, cellE b1 [.int .i64 (i.2 : Nat)] 3]) (ok := fun zz => zz = medianAdjacent ltW d (a + (b - a) / 4 * 1) 0) (dd := fun w => w.drawn) rfl Tryz.call294 (by repeat' constructor) (fun w hw => hw.dr) (fun w hw => xT d V b1 (a + (b - a) / 4 * 1) 0 _ (by omega) w (hw.own (by repeat' constructor)) hd (by omega) (by omega)) rfl (fun p hp => ?_)
     have bp := AZ hp (n := d.size) (by omega)
     obtain ⟨x1, s1⟩ := p
     dsimp only at bp
     change Tr _ _ [rowE V 23 ar d.toList, cellE b1 [.int .i64 ((s1 : Nat) : Int)] 3] _ _
     refine zz0 (ab rfl) (aI (zz0 (aa rfl) (zz0 (aa rfl) ?_)))
     refine iG (fun i : Nat × Nat => .int .i64 (i.1 : Nat)) [rowE V 23 ar d.toList, cellE b1 [.int .i64 ((s1 : Nat) : Int)] 3] (fun i : Nat × Nat => [rowE V 23 ar d.toList, cellE b1 [.int .i64 (i.2 : Nat)] 3]) (ok := fun zz => zz = medianAdjacent ltW d (a + (b - a) / 4 * 2) s1) (dd := fun w => w.drawn) rfl Tryz.call294 (by repeat' constructor) (fun w hw => hw.dr) (fun w hw => xT d V b1 (a + (b - a) / 4 * 2) s1 _ (by omega) w (hw.own (by repeat' constructor)) hd (by omega) (by omega)) rfl (fun q hq => ?_)
     have bq := AZ hq (n := d.size) (by omega)
     obtain ⟨x2, s2⟩ := q
     dsimp only at bq
     change Tr _ _ [rowE V 23 ar d.toList, cellE b1 [.int .i64 ((s2 : Nat) : Int)] 3] _ _
     refine zz0 (ab rfl) (ad (ao (zz0 (aa rfl) (zz0 (aa rfl) ?_))))
     refine iG (fun i : Nat × Nat => .int .i64 (i.1 : Nat)) [rowE V 23 ar d.toList, cellE b1 [.int .i64 ((s2 : Nat) : Int)] 3] (fun i : Nat × Nat => [rowE V 23 ar d.toList, cellE b1 [.int .i64 (i.2 : Nat)] 3]) (ok := fun zz => zz = medianAdjacent ltW d (a + (b - a) / 4 * 3) s2) (dd := fun w => w.drawn) rfl Tryz.call294 (by repeat' constructor) (fun w hw => hw.dr) (fun w hw => xT d V b1 (a + (b - a) / 4 * 3) s2 _ (by omega) w (hw.own (by repeat' constructor)) hd (by omega) (by omega)) rfl (fun r hr => ?_)
     have br := AZ hr (n := d.size) (by omega)
     obtain ⟨x3, s3⟩ := r
     dsimp only at br
     change Tr _ _ [rowE V 23 ar d.toList, cellE b1 [.int .i64 ((s3 : Nat) : Int)] 3] _ _
     refine zz0 (ab rfl) (ad ?_)
     refine cw (x1, x2, x3, s3) (Front.c (Front.c (Front.c Front.nil))) (bB 14 rfl) (o := ⟨by omega, FQ (by omega) hp hq hr rfl⟩)
    ·refine bA ?_
     refine cw (a + (b - a) / 4 * 1, a + (b - a) / 4 * 2, a + (b - a) / 4 * 3, 0) (Front.c (Front.c (Front.c Front.nil))) (bB 2 rfl) (o := ⟨by omega, FP (by omega) (by omega) rfl⟩)
   ·obtain ⟨i, j, k, s⟩ := i
    replace hi : (i < d.size ∧ j < d.size ∧ k < d.size ∧ s ≤ 9) ∧ median ltW d i j k s = rawPivot ltW d a b := hi
    change Tr _ _ [rowE V 23 ar d.toList, cellE b1 [.int .i64 ((s : Nat) : Int)] 3] ([(10, .int .i64 (i : Nat)), (11, .int .i64 (j : Nat)), (12, .int .i64 (k : Nat))] ++ _) _
    obtain ⟨hi1, hi2⟩ := hi
    refine ao (zz0 (aa rfl) (zz0 (aa rfl) (zz0 (aa rfl) (zz0 (aa rfl) ?_))))
    refine iG (fun i : Nat × Nat => .int .i64 (i.1 : Nat)) [rowE V 23 ar d.toList, cellE b1 [.int .i64 ((s : Nat) : Int)] 3] (fun i : Nat × Nat => [rowE V 23 ar d.toList, cellE b1 [.int .i64 (i.2 : Nat)] 3]) (ok := fun zz => zz = median ltW d i j k s) (dd := fun w => w.drawn) rfl Tryz.call295 (by repeat' constructor) (fun w hw => hw.dr) (fun w hw => uz d V b1 i j k s _ _ _ rfl rfl rfl w (hw.own (by repeat' constructor)) hd (by omega) (by omega) (by omega)) rfl (fun z hz => ?_)
    have bz := vX hz (n := d.size) (by omega) (by omega) (by omega)
    obtain ⟨x4, s4⟩ := z
    dsimp only at bz
    change Tr _ _ [rowE V 23 ar d.toList, cellE b1 [.int .i64 ((s4 : Nat) : Int)] 3] _ _
    refine zz0 (ab rfl) (ad ?_)
    refine cw (i, x4, k, s4) (Front.c (Front.c (Front.c Front.nil))) (bB 11 rfl) (o := ⟨by omega, by rw [← hi2]; exact hz⟩)
  ·refine bA ?_
   refine cw (a + (b - a) / 4 * 1, a + (b - a) / 4 * 2, a + (b - a) / 4 * 3, 0) (Front.c (Front.c (Front.c Front.nil))) (bB 2 rfl) (o := ⟨by omega, D2 (by omega)⟩)
 ·obtain ⟨i, j, k, s⟩ := i
  replace hi : (j < d.size ∧ s ≤ 12) ∧ (j, s) = rawPivot ltW d a b := hi
  change Tr _ _ [rowE V 23 ar d.toList, cellE b1 [.int .i64 ((s : Nat) : Int)] 3] ([(10, .int .i64 (i : Nat)), (11, .int .i64 (j : Nat)), (12, .int .i64 (k : Nat))] ++ _) _
  obtain ⟨hj1, hj2⟩ := hi
  refine af (zz0 (aJ rfl aN) ?_)
  refine ad (aD (af (zz0 (bD rfl rfl) (zz0 (ab rfl) (ad ?_)))))
  refine an rfl ?_ ?_ <;> intro h4 <;> try simp only [bs] at h4
  ·refine af (zz0 (aa rfl) (zz0 (ab rfl) (zz0 (ab rfl) (ad (az (bh ?_))))))
   refine df mR rfl rfl (fun w' hw => ?_)
   obtain rfl : s = 0 := by omega
   exact ⟨by rw [choosePivot_eq, ← hj2]; rfl, HpOK.mutOwn hw (.head _) rfl⟩
  ·refine af (zz0 (bD rfl rfl) (zz0 (ab rfl) (ad ?_)))
   refine an rfl ?_ ?_ <;> intro h5 <;> try simp only [bs] at h5
   ·refine af (zz0 (aa rfl) (zz0 (ab rfl) (zz0 (ab rfl) (ad (az (bh ?_))))))
    refine df mR rfl rfl (fun w' hw => ?_)
    obtain rfl : s = 12 := by omega
    exact ⟨by rw [choosePivot_eq, ← hj2]; rfl, HpOK.mutOwn hw (.head _) rfl⟩
   ·refine af (zz0 (aa rfl) (zz0 (ab rfl) (zz0 (ab rfl) (ad (az (bh ?_))))))
    refine df mR rfl rfl (fun w' hw => ?_)
    exact ⟨by rw [choosePivot_eq, ← hj2]; simp only [hintOf]; rw [if_neg (by omega), if_neg (by omega)]; rfl, HpOK.mutOwn hw (.head _) rfl⟩
theorem CY (d : Array UInt32) (V : Value) (a : Nat) (b : Nat) (ai : Int) (bi : Int) (ea : ai = ((a : Nat) : Int)) (eb : bi = ((b : Nat) : Int)) (w : World) (hr : (rowE V 23 ar d.toList).holds w) (hd : d.size ≤ 1000000) (hab : a ≤ b) (hb : b ≤ d.size) :
  Calls Tryz.prog 256 #[V, .int .i64 ai, .int .i64 bi] w (fun e w' => e = .returned (.tuple #[]) ∧ Mut w w' V ∧ (rowE V 23 ar (breakPatterns d a b).toList).holds w') := by
 subst ea eb
 obtain ⟨md, hmd⟩ : ∃ md, md = 1 <<< bitsLen (b - a) := ⟨_, rfl⟩
 obtain ⟨i0, hi0⟩ : ∃ i, i = a + (b - a) / 4 * 2 - 1 := ⟨_, rfl⟩
 refine fH (l := d.toList) (E := ar) (T := 23) hr Tryz.func256 rfl Tryz.ntmps256 rfl ?_
 refine af (zz0 (aa rfl) (zz0 (aa rfl) (zz0 (dX rfl rfl) ?_)))
 refine zz0 (ab rfl) (aI (zz0 (aa rfl) (zz0 (eE rfl rfl) (ad ?_))))
 refine an rfl ?_ ?_ <;> intro h1 <;> try simp only [bs] at h1
 ·refine af (zz0 (aa rfl) (zz0 (Bh (b - a) rfl aY Tryz.underlying292 (by omega) (by omega)) ?_))
  refine dD Tryz.zeroValue292 rfl (fun b2 => ?_)
  refine jn rfl rfl ly (by repeat constructor) (by rfl) (by rfl) (by first | exact List.all_eq_true.1 rfl | exact Enc.one _ _) rfl ?_
  refine aI (zz0 (aa rfl) (zz0 (aA rfl Tryz.call265 (fun w hw => CC (b - a) _ (by omega) (by omega) w)) ?_))
  rw [← hmd]
  have hmb := Hi (n := b - a) (by omega)
  rw [← hmd] at hmb
  refine zz0 (ab rfl) (aI (zz0 (aa rfl) (zz0 (aa rfl) (zz0 (ou rfl rfl (by omega)) ?_))))
  refine zz0 (kE rfl rfl (by omega)) ?_
  refine zz0 (cp rfl rfl) ?_
  refine zz0 (dX rfl rfl) ?_
  refine zz0 (ab rfl) (ad (aD ?_))
  refine bK (ι := Nat × UInt64 × Array UInt32) (fun ⟨t, r, cur⟩ => t ≤ 3 ∧ cur.size = d.size ∧ qw a (b - a) md i0 t (UInt64.ofNat (b - a), d) = (r, cur)) (fun _ => _) (fun ⟨t, r, cur⟩ => [rowE V 23 ar cur.toList, cellE b2 [.int .u64 (r.toNat : Int)] 292]) (fun ⟨t, r, cur⟩ => [(9, .int .i64 ((i0 + t : Nat) : Int))]) (fun ⟨t, r, cur⟩ => 3 - t) (0, UInt64.ofNat (b - a), d) ⟨by omega, rfl, rfl⟩ (Front.c Front.nil) (by repeat' constructor) rfl (fun i hi m hm => ?_)
  obtain ⟨t, r, cur⟩ := i
  replace hi : t ≤ 3 ∧ cur.size = d.size ∧ qw a (b - a) md i0 t (UInt64.ofNat (b - a), d) = (r, cur) := hi
  replace hm : m = 3 - t := hm
  change Tr _ _ [rowE V 23 ar cur.toList, cellE b2 [.int .u64 (r.toNat : Int)] 292] ([(9, .int .i64 ((i0 + t : Nat) : Int))] ++ _) _
  obtain ⟨hk1, hk2, hk3⟩ := hi
  have hcl : cur.toList.length = d.size := by rw [Array.length_toList]; exact hk2
  refine al (af (zz0 (aa rfl) (zz0 (aa rfl) (zz0 (aa rfl) (zz0 (ou rfl rfl (by omega)) ?_)))))
  refine zz0 (kE rfl rfl (by omega)) ?_
  refine zz0 (cp rfl rfl) ?_
  refine zz0 (cp rfl rfl) ?_
  refine zz0 (fV rfl rfl) (ad ?_)
  refine an rfl ?_ ?_ <;> intro h3 <;> try simp only [bs] at h3
  ·refine bA (al (aD (af ?_)))
   refine iG (fun _ : Unit => .int .u64 ((xorNext r).toNat : Nat)) [cellE b2 [.int .u64 ((r).toNat : Int)] 292] (fun _ => [cellE b2 [.int .u64 ((xorNext r).toNat : Int)] 292]) (ok := fun _ => True) (dd := fun w => w.drawn) rfl Tryz.call266 (by repeat' constructor) (fun w hw => hw.dr) (fun w hw => Hh r b2 w (hw.own (by repeat' constructor))) rfl (fun i hi => ?_)
   refine zz0 (aa rfl) (zz0 (Fg (n := 1) rfl rfl (by omega) (by omega)) ?_)
   refine zz0 (Ft rfl rfl (by have := (xorNext r).toNat_lt; omega) (by omega)) ?_
   have hand : (xorNext r).toNat &&& (md - 1) ≤ md - 1 := Nat.and_le_right
   change Tr _ _ [cellE b2 [.int .u64 ((xorNext r).toNat : Int)] 292, rowE V 23 ar cur.toList] _ _
   refine zz0 (fa rfl dQ aY (IntWalk.i64_in _ (by omega))) ?_
   refine zz0 (ab rfl) (ad ?_)
   refine db (ι := Nat) (fun o => o < b - a ∧ o = if b - a ≤ ((xorNext r).toNat &&& (md - 1)) then ((xorNext r).toNat &&& (md - 1)) - (b - a) else ((xorNext r).toNat &&& (md - 1))) (fun _ => Bg.less w V) (fun o => [rowE V 23 ar cur.toList, cellE b2 [.int .u64 ((xorNext r).toNat : Int)] 292]) (fun o => [(10, .int .i64 (o : Nat))]) ?_ (fun o hi => ?_)
   ·skip
    refine af (zz0 (aa rfl) (zz0 (aa rfl) (zz0 (eE rfl rfl) (ad ?_))))
    refine an rfl ?_ ?_ <;> intro h4 <;> try simp only [bs] at h4
    ·refine ao (zz0 (aa rfl) (zz0 (aa rfl) (zz0 (dX rfl rfl) ?_)))
     refine zz0 (ab rfl) (ad ?_)
     refine cw (((xorNext r).toNat &&& (md - 1)) - (b - a)) (Front.c Front.nil) (bB 7 rfl) (o := ⟨by omega, by rw [if_pos (by omega)]⟩)
    ·refine bA ?_
     refine cw ((xorNext r).toNat &&& (md - 1)) (Front.c Front.nil) (bB 3 rfl) (o := ⟨by omega, by rw [if_neg (by omega)]⟩)
   ·skip
    replace hi : o < b - a ∧ o = if b - a ≤ ((xorNext r).toNat &&& (md - 1)) then ((xorNext r).toNat &&& (md - 1)) - (b - a) else ((xorNext r).toNat &&& (md - 1)) := hi
    change Tr _ _ [rowE V 23 ar cur.toList, cellE b2 [.int .u64 ((xorNext r).toNat : Int)] 292] ([(10, .int .i64 (o : Nat))] ++ _) _
    obtain ⟨ho1, ho2⟩ := hi
    refine fG 6 17 aS ?_
    refine dZ rfl ?_
    refine dZ rfl ?_
    refine dZ rfl ?_
    refine dZ rfl ?_
    refine dZ rfl ?_
    refine gv (fun _ => cp rfl rfl) (by rfl) rfl ?_
    refine bG ?_
    refine aw (aa rfl) (aw (aa rfl) (aw (aa rfl) (aw (cp rfl rfl) ?_)))
    refine aw (zz7 rfl rfl ah ae) ?_
    refine aw (dY rfl am) ?_
    refine aw (aa rfl) (aw (aa rfl) (aw (zz7 rfl rfl ah ae) ?_))
    refine aw (dY rfl am) ?_
    refine aw (zz7 rfl rfl ah ae) ?_
    refine bH ?_
    refine gh (l := cur.toList) (i := (i0 + t)) (cur.toList.getD ((a + o)) default) rfl rfl ae ?_
    have hls5 : (List.set cur.toList ((i0 + t)) (cur.toList.getD ((a + o)) default)).length = (cur.toList).length := List.length_set
    refine zz0 (zz7 rfl rfl ah ae) ?_
    refine gh (l := (cur.toList.set ((i0 + t)) (cur.toList.getD ((a + o)) default))) (i := (a + o)) (cur.toList.getD ((i0 + t)) default) rfl rfl ae ?_
    have hls6 : (List.set (cur.toList.set ((i0 + t)) (cur.toList.getD ((a + o)) default)) ((a + o)) (cur.toList.getD ((i0 + t)) default)).length = ((cur.toList.set ((i0 + t)) (cur.toList.getD ((a + o)) default))).length := List.length_set
    rw [dP, dP, ir]
    refine aB (aX (ac (ao (zz0 (aa rfl) (zz0 (cp rfl rfl) ?_)))))
    refine zz0 (ab rfl) (ad ?_)
    refine cC (t + 1, xorNext r, _) (Front.c Front.nil) (bB 37 rfl) (o := ⟨by omega, by rw [nK]; exact hk2, EY hk3 ho2⟩)
  ·refine bF (aG (aG (bj ?_)))
   refine fq Tryz.results256 (fun w' hw => ?_)
   obtain rfl : t = 3 := by omega
   have hq : breakPatterns d a b = cur := by rw [E0 (by omega), ← hmd, ← hi0, hk3]
   exact ⟨rfl, by rw [hq]; exact HpOK.mutOwn hw (.head _) rfl⟩
 ·refine cd ?_
  refine fq Tryz.results256 (fun w' hw => ?_)
  exact ⟨rfl, by rw [EZ (by omega)]; exact HpOK.mutOwn hw (.head _) rfl⟩
theorem D5 (V : Value) (n : Nat) (ih : ∀ (d : Array UInt32) (a b limit : Nat) (ai bi li : Int) (w : World), ai = ((a : Nat) : Int) → bi = ((b : Nat) : Int) → li = ((limit : Nat) : Int) → (rowE V 23 ar d.toList).holds w → d.size ≤ 1000000 → a ≤ b → b ≤ d.size → limit ≤ 64 → b - a < n → Calls Tryz.prog 198 #[V, .int .i64 ai, .int .i64 bi, .int .i64 li] w (fun e w' => e = .returned (.tuple #[]) ∧ Mut w w' V ∧ (rowE V 23 ar (pdq ltW d a b limit true true).toList).holds w')) (d : Array UInt32) (a : Nat) (b : Nat) (limit : Nat) (ai : Int) (bi : Int) (limiti : Int) (ea : ai = ((a : Nat) : Int)) (eb : bi = ((b : Nat) : Int)) (elimit : limiti = ((limit : Nat) : Int)) (w : World) (hr : (rowE V 23 ar d.toList).holds w) (hd : d.size ≤ 1000000) (hab : a ≤ b) (hb : b ≤ d.size) (hl : limit ≤ 64) (hn : b - a ≤ n) :
  Calls Tryz.prog 198 #[V, .int .i64 ai, .int .i64 bi, .int .i64 limiti] w (fun e w' => e = .returned (.tuple #[]) ∧ Mut w w' V ∧ (rowE V 23 ar (pdq ltW d a b limit true true).toList).holds w') := by
 subst ea eb elimit
 refine fH (l := d.toList) (E := ar) (T := 23) hr Tryz.func198 rfl Tryz.ntmps198 rfl ?_
 refine af (zz0 (ab rfl) (aI (zz0 (ab rfl) (ad (aD ?_)))))
 refine bK (ι := Nat × Nat × Nat × Bool × Bool × Array UInt32) (fun ⟨a1, b1, l1, wb, wp, cur⟩ => (a ≤ a1 ∧ a1 ≤ b1 ∧ b1 ≤ b ∧ l1 ≤ 64) ∧ cur.size = d.size ∧ pdq ltW cur a1 b1 l1 wb wp = pdq ltW d a b limit true true) (fun _ => _) (fun ⟨a1, b1, l1, wb, wp, cur⟩ => [rowE V 23 ar cur.toList]) (fun ⟨a1, b1, l1, wb, wp, cur⟩ => [(1, .int .i64 (a1 : Nat)), (2, .int .i64 (b1 : Nat)), (3, .int .i64 (l1 : Nat)), (8, .bool wb), (9, .bool wp)]) (fun ⟨a1, b1, l1, wb, wp, cur⟩ => b1 - a1) (a, b, limit, true, true, d) ⟨⟨Nat.le_refl _, hab, Nat.le_refl _, hl⟩, rfl, rfl⟩ (.cons (by first | rfl | exact ei rfl (by omega) | exact er rfl (decide_eq_decide.2 (by omega)) | exact ei rfl (by simp) | exact er rfl (by simp)) (.cons (by first | rfl | exact ei rfl (by omega) | exact er rfl (decide_eq_decide.2 (by omega)) | exact ei rfl (by simp) | exact er rfl (by simp)) (.cons (by first | rfl | exact ei rfl (by omega) | exact er rfl (decide_eq_decide.2 (by omega)) | exact ei rfl (by simp) | exact er rfl (by simp)) (.cons (by first | rfl | exact ei rfl (by omega) | exact er rfl (decide_eq_decide.2 (by omega)) | exact ei rfl (by simp) | exact er rfl (by simp)) (.cons (by first | rfl | exact ei rfl (by omega) | exact er rfl (decide_eq_decide.2 (by omega)) | exact ei rfl (by simp) | exact er rfl (by simp)) Front.nil))))) (by repeat' constructor) rfl (fun i hi m hm => ?_)
 obtain ⟨a1, b1, l1, wb, wp, cur⟩ := i
 replace hi : (a ≤ a1 ∧ a1 ≤ b1 ∧ b1 ≤ b ∧ l1 ≤ 64) ∧ cur.size = d.size ∧ pdq ltW cur a1 b1 l1 wb wp = pdq ltW d a b limit true true := hi
 replace hm : m = b1 - a1 := hm
 change Tr _ _ [rowE V 23 ar cur.toList] ([(1, .int .i64 (a1 : Nat)), (2, .int .i64 (b1 : Nat)), (3, .int .i64 (l1 : Nat)), (8, .bool wb), (9, .bool wp)] ++ _) _
 obtain ⟨hk1, hk2, hk3⟩ := hi
 have hcl : cur.toList.length = d.size := by rw [Array.length_toList]; exact hk2
 refine aD (af (zz0 (aa rfl) (zz0 (aa rfl) (zz0 (dX rfl rfl) ?_))))
 refine zz0 (ab rfl) (ad (al (af (zz0 (aa rfl) (zz0 (fV rfl rfl) (ad ?_))))))
 refine an rfl ?_ ?_ <;> intro h1 <;> try simp only [bs] at h1
 ·refine af (zz0 (aa rfl) (zz0 (aa rfl) (zz0 (aa rfl) (dU rfl Tryz.call254 (by repeat constructor) (fun w hw => vl cur V a1 b1 _ _ rfl rfl w (hw.ent _ (.head _)) (by omega) (by omega) (by omega)) rfl ?_))))
  refine ad (az (ay (bh (ay (bh ?_)))))
  refine lC mU (fun w' hw => ?_)
  exact ⟨rfl, by rw [← hk3, vh (by omega)]; exact HpOK.mutOwn hw (.head _) rfl⟩
 ·refine bA (al (af (zz0 (aa rfl) (zz0 (bD rfl rfl) (ad ?_)))))
  refine an rfl ?_ ?_ <;> intro h2 <;> try simp only [bs] at h2
  ·refine af (zz0 (aa rfl) (zz0 (aa rfl) (zz0 (aa rfl) (dU rfl Tryz.call255 (by repeat constructor) (fun w hw => Ep cur V a1 b1 _ _ rfl rfl w (hw.ent _ (.head _)) (by omega) (by omega) (by omega)) rfl ?_))))
   refine ad (az (ay (bh (ay (bh ?_)))))
   refine lC mU (fun w' hw => ?_)
   exact ⟨rfl, by rw [← hk3, xc (by omega) (by omega)]; exact HpOK.mutOwn hw (.head _) rfl⟩
  ·refine bA ?_
   refine db (ι := Nat × Array UInt32) (fun ⟨l2, d1⟩ => (d1.size = d.size ∧ l2 ≤ 64) ∧ l2 = (if !wb then l1 - 1 else l1) ∧ d1 = (if !wb then breakPatterns cur a1 b1 else cur)) (fun _ => Bg.less w V) (fun ⟨l2, d1⟩ => [rowE V 23 ar d1.toList]) (fun ⟨l2, d1⟩ => [(3, .int .i64 (l2 : Nat))]) ?_ (fun i hi => ?_)
   ·skip
    refine af (zz0 (aa rfl) (zz0 (cN rfl) (ad ?_)))
    refine an rfl ?_ ?_ <;> intro h3 <;> try simp only [bs] at h3
    ·refine af (zz0 (aa rfl) (zz0 (aa rfl) (zz0 (aa rfl) (dU rfl Tryz.call256 (by repeat constructor) (fun w hw => CY cur V a1 b1 _ _ rfl rfl w (hw.ent _ (.head _)) (by omega) (by omega) (by omega)) rfl ?_))))
     refine kh hr (.head _) (fun hq => ?_)
     have hz1 : (breakPatterns cur a1 b1).size = d.size := by rw [← Array.length_toList, ← Array.length_toList]; exact hq
     refine ad (ao (zz0 (aa rfl) (zz0 (dX rfl rfl) ?_)))
     refine zz0 (ab rfl) (ad ?_)
     refine cw (l1 - 1, breakPatterns cur a1 b1) (.cons (by first | rfl | exact ei rfl (by omega) | exact er rfl (decide_eq_decide.2 (by omega)) | exact ei rfl (by simp) | exact er rfl (by simp)) Front.nil) (bB 9 rfl) (o := ⟨⟨hz1, by omega⟩, by simp_all, by simp_all⟩)
    ·refine bA ?_
     refine cw (l1, cur) (.cons (by first | rfl | exact ei rfl (by omega) | exact er rfl (decide_eq_decide.2 (by omega)) | exact ei rfl (by simp) | exact er rfl (by simp)) Front.nil) (bB 2 rfl) (o := ⟨⟨hk2, by omega⟩, by simp_all, by simp_all⟩)
   ·obtain ⟨l2, d1⟩ := i
    replace hi : (d1.size = d.size ∧ l2 ≤ 64) ∧ l2 = (if !wb then l1 - 1 else l1) ∧ d1 = (if !wb then breakPatterns cur a1 b1 else cur) := hi
    change Tr _ _ [rowE V 23 ar d1.toList] ([(3, .int .i64 (l2 : Nat))] ++ _) _
    obtain ⟨hd1, hl2, hd1e⟩ := hi
    refine af (zz0 (aa rfl) (zz0 (aa rfl) (zz0 (aa rfl) (dU rfl Tryz.call257 (by repeat constructor) (fun w hw => tf d1 V a1 b1 _ _ rfl rfl w (hw.ent _ (.head _)) (by omega) (by omega) (by omega)) rfl ?_))))
    obtain ⟨c, hc⟩ : ∃ c, c = choosePivot ltW d1 a1 b1 := ⟨_, rfl⟩
    rw [← hc]
    have hcr := choosePivot_holds ltW d1 a1 b1 (by omega)
    rw [← hc] at hcr
    refine zz0 (aa rfl) (zz0 (aO rfl rfl) (zz0 (aO rfl rfl) (zz0 (ab rfl) (zz0 (ab rfl) (ad ?_)))))
    refine db (ι := Nat × Hint × Array UInt32) (fun ⟨pv, hint, d2⟩ => (a1 ≤ pv ∧ pv < b1 ∧ d2.size = d.size) ∧ d2 = (if c.2 = .decreasing then reverseRange d1 a1 b1 else d1) ∧ pv = (if c.2 = .decreasing then (b1 - 1) - (c.1 - a1) else c.1) ∧ hint = (if c.2 = .decreasing then Hint.increasing else c.2)) (fun _ => Bg.less w V) (fun ⟨pv, hint, d2⟩ => [rowE V 23 ar d2.toList]) (fun ⟨pv, hint, d2⟩ => [(11, .int .i64 (pv : Nat)), (12, .int .i64 (hintCode hint))]) ?_ (fun i hi => ?_)
    ·skip
     refine af (zz0 (aa rfl) (zz0 (bD rfl rfl) (ad ?_)))
     refine an rfl ?_ ?_ <;> intro h4 <;> try simp only [bs] at h4
     ·refine af (zz0 (aa rfl) (zz0 (aa rfl) (zz0 (aa rfl) (dU rfl Tryz.call258 (by repeat constructor) (fun w hw => yD d1 V a1 b1 _ _ rfl rfl w (hw.ent _ (.head _)) (by omega) (by omega) (by omega)) rfl ?_))))
      refine kh hr (.head _) (fun hq => ?_)
      have hz2 : (reverseRange d1 a1 b1).size = d.size := by rw [← Array.length_toList, ← Array.length_toList]; exact hq
      refine aI (zz0 (aa rfl) (zz0 (dX rfl rfl) ?_))
      refine zz0 (aa rfl) (zz0 (aa rfl) (zz0 (dX rfl rfl) ?_))
      refine zz0 (dX rfl rfl) ?_
      refine zz0 (ab rfl) (ad (ao (zz0 (ab rfl) (ad ?_))))
      have hx : c.2 = .decreasing := (re c.2).1 (by assumption)
      refine cw (b1 - 1 - (c.1 - a1), .increasing, reverseRange d1 a1 b1) (.cons (by first | rfl | exact ei rfl (by omega) | exact er rfl (decide_eq_decide.2 (by omega)) | exact ei rfl (by simp) | exact er rfl (by simp)) (.cons (by first | rfl | exact ei rfl (by omega) | exact er rfl (decide_eq_decide.2 (by omega)) | exact ei rfl (by simp) | exact er rfl (by simp)) Front.nil)) (bB 14 rfl) (o := ⟨⟨by omega, by omega, hz2⟩, by rw [if_pos hx], by rw [if_pos hx], by rw [if_pos hx]⟩)
     ·refine bA ?_
      have hx : ¬ c.2 = .decreasing := fun e => absurd ((re c.2).2 e) (by assumption)
      refine cw (c.1, c.2, d1) (.cons (by first | rfl | exact ei rfl (by omega) | exact er rfl (decide_eq_decide.2 (by omega)) | exact ei rfl (by simp) | exact er rfl (by simp)) (.cons (by first | rfl | exact ei rfl (by omega) | exact er rfl (decide_eq_decide.2 (by omega)) | exact ei rfl (by simp) | exact er rfl (by simp)) Front.nil)) (bB 2 rfl) (o := ⟨⟨by omega, by omega, hd1.1⟩, by rw [if_neg hx], by rw [if_neg hx], by rw [if_neg hx]⟩)
    ·obtain ⟨pv, hint, d2⟩ := i
     replace hi : (a1 ≤ pv ∧ pv < b1 ∧ d2.size = d.size) ∧ d2 = (if c.2 = .decreasing then reverseRange d1 a1 b1 else d1) ∧ pv = (if c.2 = .decreasing then (b1 - 1) - (c.1 - a1) else c.1) ∧ hint = (if c.2 = .decreasing then Hint.increasing else c.2) := hi
     change Tr _ _ [rowE V 23 ar d2.toList] ([(11, .int .i64 (pv : Nat)), (12, .int .i64 (hintCode hint))] ++ _) _
     obtain ⟨hpv, hd2, hpve, hhint⟩ := hi
     have hdl2 : d2.toList.length = d.size := by rw [Array.length_toList]; exact hpv.2.2
     refine db (ι := Array UInt32) (fun d3 => d3.size = d.size ∧ (if wb && wp && hint = .increasing then partialInsertionSort ltW d2 a1 b1 else (d2, false)) = (d3, false)) (fun _ => Bg.less w V) (fun d3 => [rowE V 23 ar d3.toList]) (fun d3 => []) ?_ (fun d3 hi => ?_)
     ·skip
      refine af (zz0 (aa rfl) (zz0 (aa rfl) ?_))
      apply cm
      ·exact (rfl : _ = (2, 62, 64))
      ·exact rfl
      ·intro hT5; have hT5' := hT5
       try simp only [bs] at hT5'
       refine zz5 hT5 (aa rfl) (zz0 (aQ rfl hT5 rfl) ?_)
       refine aB (ac ?_)
       exact aH (Sub.cons rfl (zz9 2 rfl))
      ·intro hF5
       refine zz8 hF5 (zz0 (aR rfl hF5 rfl) ?_)
       refine aB (ac ?_)
       exact aH (Sub.cons rfl (zz9 2 rfl))
      refine zz0 (aa rfl) ?_
      apply cm
      ·exact (rfl : _ = (3, 65, 68))
      ·exact rfl
      ·intro hT6; have hT6' := hT6
       try simp only [bs] at hT6'
       refine zz5 hT6 (aa rfl) (zz5 hT6 (bD rfl rfl) (zz0 (aQ rfl hT6 rfl) ?_))
       refine aB (ac ?_)
       exact aH (Sub.cons rfl (zz9 3 rfl))
      ·intro hF6
       refine zz8 hF6 (zz8 hF6 (zz0 (aR rfl hF6 rfl) ?_))
       refine aB (ac ?_)
       exact aH (Sub.cons rfl (zz9 3 rfl))
      refine ad ?_
      refine an rfl ?_ ?_ <;> intro h7 <;> try simp only [bs] at h7
      ·refine af (zz0 (aa rfl) (zz0 (aa rfl) (zz0 (aa rfl) (dU rfl Tryz.call259 (by repeat constructor) (fun w hw => ud d2 V a1 b1 _ _ rfl rfl w (hw.ent _ (.head _)) (by omega) (by omega) (by omega)) rfl ?_))))
       obtain ⟨p, hp⟩ : ∃ p, p = partialInsertionSort ltW d2 a1 b1 := ⟨_, rfl⟩
       rw [← hp]
       refine kh hr (.head _) (fun hq => ?_)
       have hz3 : p.1.size = d.size := by rw [← Array.length_toList, ← Array.length_toList]; exact hq
       refine ad ?_
       refine an rfl ?_ ?_ <;> intro h8 <;> try simp only [bs] at h8
       ·refine az (ay (bh (ay (bh ?_))))
        refine lC mU (fun w' hw => ?_)
        have hfin : pdq ltW cur a1 b1 l1 wb wp = p.1 := xd (by omega) (by omega) hd1e hc hd2 hhint (by rw [if_pos (D4 h7), ← hp]; exact Prod.ext rfl (by assumption))
        exact ⟨rfl, by rw [← hk3, hfin]; exact HpOK.mutOwn hw (.head _) rfl⟩
       ·refine bA ?_
        refine cw p.1 Front.nil (bB 9 rfl) (o := ⟨hz3, by rw [if_pos (D4 h7)]; exact Prod.ext rfl (by assumption)⟩)
      ·refine bA ?_
       refine cw d2 Front.nil (bB 5 rfl) (o := ⟨hpv.2.2, by rw [if_neg (HU h7)]⟩)
     ·skip
      replace hi : d3.size = d.size ∧ (if wb && wp && hint = .increasing then partialInsertionSort ltW d2 a1 b1 else (d2, false)) = (d3, false) := hi
      change Tr _ _ [rowE V 23 ar d3.toList] ([] ++ _) _
      obtain ⟨hd3, hd3e⟩ := hi
      have hdl3 : d3.toList.length = d.size := by rw [Array.length_toList]; exact hd3
      have hR : Rnd cur a1 b1 l1 wb wp l2 pv d3 := ⟨d1, d2, c, hint, hd1e, hl2, hc, hd2, hpve, hhint, hd3e⟩
      have ea1 : ((a1 : Int) - 1).toNat = a1 - 1 ∨ a1 = 0 := by omega
      refine al (al (gQ aS ?_))
      refine aw (aa rfl) (aw (eo rfl rfl) (aw (aa rfl) ?_))
      apply e8
      ·exact (rfl : _ = (12, 75, 87))
      ·exact rfl
      ·intro hT9; have hT9' := hT9
       try simp only [bs] at hT9'
       refine bS hT9 (aa rfl) (bS hT9 (aa rfl) (bS hT9 (dX rfl rfl) ?_))
       refine bS hT9 (jt rfl rfl ah ae) ?_
       refine bS hT9 (dY rfl am) ?_
       refine bS hT9 (aa rfl) (bS hT9 (aa rfl) (bS hT9 (zz7 rfl rfl ah ae) ?_))
       refine bS hT9 (dY rfl am) ?_
       refine bS hT9 (aA rfl fC (fun w hw => gR (d3.toList.getD (((a1 : Int) - 1).toNat) default) (d3.toList.getD (pv) default) w)) ?_
       refine bS hT9 (cN rfl) (aw (aQ rfl hT9 rfl) ?_)
       exact cT (Sub.cons rfl (zz9 12 rfl))
      ·intro hF9
       refine bR hF9 (bR hF9 (bR hF9 (bR hF9 (bR hF9 (bR hF9 (bR hF9 (bR hF9 (bR hF9 (bR hF9 (bR hF9 (aw (aR rfl hF9 rfl) ?_)))))))))))
       exact cT (Sub.cons rfl (zz9 12 rfl))
      refine bH ?_
      refine ac ?_
      refine an rfl ?_ ?_ <;> intro h10 <;> try simp only [bs] at h10
      ·refine af (zz0 (aa rfl) (zz0 (aa rfl) (zz0 (aa rfl) (zz0 (aa rfl) (dU rfl Tryz.call261 (by repeat constructor) (fun w hw => s6 d3 V a1 b1 pv _ _ _ rfl rfl rfl w (hw.ent _ (.head _)) (by omega) (by omega) (by omega) (by omega)) rfl ?_)))))
       obtain ⟨p, hpe⟩ : ∃ p, p = partitionEqual ltW d3 a1 b1 pv := ⟨_, rfl⟩
       have hpr := Aq (d := d3) (pv := pv) (show a1 + 1 < b1 by omega) (by omega)
       rw [← hpe] at hpr
       rw [← hpe]
       obtain ⟨mid, d4⟩ := p
       dsimp only at hpr ⊢
       refine kh hr (.head _) (fun hq => ?_)
       have hz4 : d4.size = d.size := by rw [← Array.length_toList, ← Array.length_toList]; exact hq
       refine zz0 (ab rfl) (aI (zz0 (aa rfl) (zz0 (ab rfl) (ad (bF (aG (bj (ac ?_))))))))
       apply il (mid, b1, l2, wb, wp, d4)
       ·exact rfl
       ·exact (.cons (by first | rfl | exact ei rfl (by omega) | exact er rfl (decide_eq_decide.2 (by omega)) | exact ei rfl (by simp) | exact er rfl (by simp)) (.cons (by first | rfl | exact ei rfl (by omega) | exact er rfl (decide_eq_decide.2 (by omega)) | exact ei rfl (by simp) | exact er rfl (by simp)) (.cons (by first | rfl | exact ei rfl (by omega) | exact er rfl (decide_eq_decide.2 (by omega)) | exact ei rfl (by simp) | exact er rfl (by simp)) (.cons (by first | rfl | exact ei rfl (by omega) | exact er rfl (decide_eq_decide.2 (by omega)) | exact ei rfl (by simp) | exact er rfl (by simp)) (.cons (by first | rfl | exact ei rfl (by omega) | exact er rfl (decide_eq_decide.2 (by omega)) | exact ei rfl (by simp) | exact er rfl (by simp)) Front.nil)))))
       ·exact bB 37 rfl
       ·exact (by repeat' constructor)
       ·exact ⟨by show a ≤ mid ∧ mid ≤ b1 ∧ b1 ≤ b ∧ l2 ≤ 64; omega, hz4, by rw [← hk3]; exact (FR (by omega) (by omega) hR (by omega) (by rw [← dP, ← dP, ← ea1.resolve_right (by omega)]; simp_all) hpe.symm (by omega)).symm⟩
       ·exact (by show b1 - mid < m; omega)
      ·refine bA (al ?_)
       have hcond : a1 = 0 ∨ ltW d3[a1 - 1]! d3[pv]! = true := by
        rcases Nat.eq_zero_or_pos a1 with q | q
        ·exact .inl q
        ·right
         rw [← dP, ← dP, ← ea1.resolve_right (by omega)]
         simp_all
       refine ao (zz0 (aa rfl) (zz0 (aa rfl) (zz0 (aa rfl) (zz0 (aa rfl) (dU rfl Tryz.call262 (by repeat constructor) (fun w hw => vg d3 V a1 b1 pv _ _ _ rfl rfl rfl w (hw.ent _ (.head _)) (by omega) (by omega) (by omega) (by omega)) rfl ?_)))))
       obtain ⟨p, hpt⟩ : ∃ p, p = partition ltW d3 a1 b1 pv := ⟨_, rfl⟩
       have hpr := D6 (d := d3) (a := a1) (b := b1) (pv := pv) (by omega) (by omega) (by omega)
       rw [← hpt] at hpr
       rw [← hpt]
       obtain ⟨mid, ap, d4⟩ := p
       dsimp only at hpr ⊢
       refine kh hr (.head _) (fun hq => ?_)
       have hz4 : d4.size = d.size := by rw [← Array.length_toList, ← Array.length_toList]; exact hq
       refine zz0 (aa rfl) (zz0 (aO rfl rfl) (zz0 (aO rfl rfl) (zz0 (ab rfl) (zz0 (ab rfl) (aI (zz0 (aa rfl) (zz0 (ab rfl) (ad (al ?_)))))))))
       refine ao (zz0 (aa rfl) (zz0 (aa rfl) (zz0 (dX rfl rfl) ?_)))
       refine zz0 (aa rfl) (zz0 (aa rfl) (zz0 (dX rfl rfl) ?_))
       refine zz0 (ab rfl) (zz0 (ab rfl) (aI (zz0 (aa rfl) (zz0 (ou rfl rfl (by omega)) ?_))))
       refine zz0 (ab rfl) (aI (zz0 (aa rfl) (zz0 (aa rfl) (zz0 (bP rfl rfl) (ad ?_)))))
       refine an rfl ?_ ?_ <;> intro h11 <;> try simp only [bs] at h11
       ·refine af (zz0 (aa rfl) (zz0 (aa rfl) (zz0 (eE rfl rfl) (zz0 (ab rfl) (aI (zz0 (aa rfl) (zz0 (aa rfl) (zz0 (aa rfl) (zz0 (aa rfl) ?_)))))))))
        refine dU rfl Tryz.call198 (by repeat constructor) (fun w hw => ih d4 a1 mid l2 _ _ _ w rfl rfl rfl (hw.ent _ (.head _)) (by omega) (by omega) (by omega) (by omega) (by omega)) rfl ?_
        refine kh hr (.head _) (fun hq => ?_)
        have hz5 : (pdq ltW d4 a1 mid l2 true true).size = d.size := by rw [← Array.length_toList, ← Array.length_toList]; exact hq
        refine ad (ao (zz0 (aa rfl) (zz0 (cp rfl rfl) ?_)))
        refine zz0 (ab rfl) (aB (aX (ac ?_)))
        apply il (mid + 1, b1, l2, decide (mid - a1 ≥ (b1 - a1) / 8), ap, pdq ltW d4 a1 mid l2 true true)
        ·exact rfl
        ·exact (.cons (by first | rfl | exact ei rfl (by omega) | exact er rfl (decide_eq_decide.2 (by omega)) | exact ei rfl (by simp) | exact er rfl (by simp)) (.cons (by first | rfl | exact ei rfl (by omega) | exact er rfl (decide_eq_decide.2 (by omega)) | exact ei rfl (by simp) | exact er rfl (by simp)) (.cons (by first | rfl | exact ei rfl (by omega) | exact er rfl (decide_eq_decide.2 (by omega)) | exact ei rfl (by simp) | exact er rfl (by simp)) (.cons (by first | rfl | exact ei rfl (by omega) | exact er rfl (decide_eq_decide.2 (by omega)) | exact ei rfl (by simp) | exact er rfl (by simp)) (.cons (by first | rfl | exact ei rfl (by omega) | exact er rfl (decide_eq_decide.2 (by omega)) | exact ei rfl (by simp) | exact er rfl (by simp)) Front.nil)))))
        ·exact bB 67 rfl
        ·exact (by repeat' constructor)
        ·exact ⟨by show a ≤ mid + 1 ∧ mid + 1 ≤ b1 ∧ b1 ≤ b ∧ l2 ≤ 64; omega, hz5, by rw [← hk3]; exact (w9 (by omega) (by omega) hR hcond hpt.symm (by omega) (by omega)).symm⟩
        ·exact (by show b1 - (mid + 1) < m; omega)
       ·refine af (zz0 (aa rfl) (zz0 (aa rfl) (zz0 (eE rfl rfl) (zz0 (ab rfl) (aI (zz0 (aa rfl) (zz0 (aa rfl) (zz0 (cp rfl rfl) ?_))))))))
        refine zz0 (aa rfl) (zz0 (aa rfl) (dU rfl Tryz.call198 (by repeat constructor) (fun w hw => ih d4 (mid + 1) b1 l2 _ _ _ w (by omega) rfl rfl (hw.ent _ (.head _)) (by omega) (by omega) (by omega) (by omega) (by omega)) rfl ?_))
        refine kh hr (.head _) (fun hq => ?_)
        have hz5 : (pdq ltW d4 (mid + 1) b1 l2 true true).size = d.size := by rw [← Array.length_toList, ← Array.length_toList]; exact hq
        refine ad (ao (zz0 (aa rfl) (zz0 (ab rfl) (aB (aX (ac ?_))))))
        apply il (a1, mid, l2, decide (b1 - mid ≥ (b1 - a1) / 8), ap, pdq ltW d4 (mid + 1) b1 l2 true true)
        ·exact rfl
        ·exact (.cons (by first | rfl | exact ei rfl (by omega) | exact er rfl (decide_eq_decide.2 (by omega)) | exact ei rfl (by simp) | exact er rfl (by simp)) (.cons (by first | rfl | exact ei rfl (by omega) | exact er rfl (decide_eq_decide.2 (by omega)) | exact ei rfl (by simp) | exact er rfl (by simp)) (.cons (by first | rfl | exact ei rfl (by omega) | exact er rfl (decide_eq_decide.2 (by omega)) | exact ei rfl (by simp) | exact er rfl (by simp)) (.cons (by first | rfl | exact ei rfl (by omega) | exact er rfl (decide_eq_decide.2 (by omega)) | exact ei rfl (by simp) | exact er rfl (by simp)) (.cons (by first | rfl | exact ei rfl (by omega) | exact er rfl (decide_eq_decide.2 (by omega)) | exact ei rfl (by simp) | exact er rfl (by simp)) Front.nil)))))
        ·exact bB 67 rfl
        ·exact (by repeat' constructor)
        ·exact ⟨by show a ≤ a1 ∧ a1 ≤ mid ∧ mid ≤ b ∧ l2 ≤ 64; omega, hz5, by rw [← hk3]; exact (vj (by omega) (by omega) hR hcond hpt.symm (by omega) (by omega)).symm⟩
        ·exact (by show mid - a1 < m; omega)
theorem Bu (V : Value) : ∀ (n : Nat) (d : Array UInt32) (a b limit : Nat) (ai bi li : Int) (w : World), ai = ((a : Nat) : Int) → bi = ((b : Nat) : Int) → li = ((limit : Nat) : Int) → (rowE V 23 ar d.toList).holds w → d.size ≤ 1000000 → a ≤ b → b ≤ d.size → limit ≤ 64 → b - a < n → Calls Tryz.prog 198 #[V, .int .i64 ai, .int .i64 bi, .int .i64 li] w (fun e w' => e = .returned (.tuple #[]) ∧ Mut w w' V ∧ (rowE V 23 ar (pdq ltW d a b limit true true).toList).holds w')
 | 0, _, _, _, _, _, _, _, _, _, _, _, _, _, _, _, _, h => absurd h (Nat.not_lt_zero _)
 | n + 1, d, a, b, limit, ai, bi, li, w, e1, e2, e3, hr, hd, hab, hb, hl, h => D5 V n (Bu V n) d a b limit ai bi li e1 e2 e3 w hr hd hab hb hl (Nat.le_of_lt_succ h)
theorem vJ (d : Array UInt32) (V : Value) (w : World) (hr : (rowE V 23 ar d.toList).holds w) (hd : d.size ≤ 1000000) :
  Calls Tryz.prog 141 #[V] w (fun e w' => e = .returned (.tuple #[]) ∧ Mut w w' V ∧ (rowE V 23 ar (sort ltW d).toList).holds w') := by
 have hdl : d.toList.length = d.size := Array.length_toList
 have hb20 : bitsLen d.size ≤ 20 := (bitsLen_le_iff _ 20).2 (by omega)
 refine fH (l := d.toList) (E := ar) (T := 23) hr Tryz.func141 rfl Tryz.ntmps141 rfl ?_
 refine af (zz0 (aa rfl) (zz0 (lI rfl ah) ?_))
 refine zz0 (ab rfl) (ad (ao (zz0 (aa rfl) (zz0 (aa rfl) (zz0 (aa rfl) (zz0 (fa rfl aY dQ (IntWalk.u64_in _ (by omega))) ?_))))))
 refine zz0 (aA rfl Tryz.call150 (fun w hw => HY d.size _ (by omega) (by omega) w)) ?_
 refine dU rfl Tryz.call198 (by repeat constructor) (fun w hw => Bu V _ d 0 d.size (bitsLen d.size) _ _ _ w rfl (by omega) rfl (hw.ent _ (.head _)) hd (by omega) (by omega) (by omega) (Nat.lt_succ_self _)) rfl ?_
 refine aB ?_
 refine fq Tryz.results141 (fun w' hw => ?_)
 exact ⟨rfl, HpOK.mutOwn hw (.head _) rfl⟩
end Go.Proofs.YtiajjbhcpeadfaaGreat
namespace Go.Proofs.YtiajjbhcpeadfaaGreat
open Go Go.HL Go.RowKit
theorem yv (l : List UInt32) : (Go.Sort.sort ltW l.toArray).toList = f8 l := by
 rw [DC, List.toList_toArray]
 unfold f8
 congr 1
 funext x y
 simp only [ltW]
 by_cases h : x ≤ y
 ·rw [decide_eq_true h, decide_eq_false (by rw [UInt32.lt_iff_toNat_lt]; rw [UInt32.le_iff_toNat_le] at h; omega)]; rfl
 ·rw [decide_eq_false h, decide_eq_true (by rw [UInt32.lt_iff_toNat_lt]; rw [UInt32.le_iff_toNat_le] at h; omega)]; rfl
theorem CL (b : Nat) (w : World) :
  Calls Tryz.prog 139 #[.map (some b)] w (fun e w' => ∃ i : Nat, e = .returned (.func (.func 196) #[] #[.pointer (some ⟨i, 0, none⟩)]) ∧ Ext w w' ∧ CellsIn (vP w w') i [.map (some b)]) := by
 refine enter Tryz.func139 rfl Tryz.ntmps139 rfl ?_
 refine af ?_
 refine dJ rfl rfl (fun b1 => ?_)
 refine zz0 (ab rfl) (aI (zz0 (fu rfl rfl) ?_))
 refine zz0 (ab rfl) (ad (az ?_))
 refine aT Tryz.results139 rfl (fun w' hw => ?_)
 exact ⟨b1, rfl, hw.b0, hw.cellNew rfl (by repeat constructor)⟩
theorem Ay {α : Type} {f : α → Value} {l : List (UInt32 × α)} (b Bm : Nat) (es : Array MapEntry) (ck : Nat) (hmI : MapIs f l es ck) (w : World) (c1 : CellsIn (hp w) Bm [.map (some b)]) (hb : w.heap[b]? = some (.map es ck)) (lv B : Nat) (hB : B ≤ w.heap.size) (J Jx : List UInt32 → World → Prop) (hJ : AbidesFrom B J) (hJx : AbidesFrom B Jx) (hY : ∀ pre x W1, J pre W1 → pre.length < l.length → YieldAt Fence.wide 1 Tryz.prog lv #[.int .u32 x.toNat] W1 fun e W' => (e = .returned (.bool true) ∧ J (pre ++ [x]) W' ∧ KeepsWalks W1 W') ∨ (e = .returned (.bool false) ∧ Jx (pre ++ [x]) W')) (h0 : J [] w) :
  Calls Tryz.prog 196 #[.func (.yield lv) #[] #[], .pointer (some ⟨Bm, 0, none⟩)] w (fun e W' => (∃ v, e = .returned v) ∧ ((∃ xs, xs.Perm (l.map (·.1)) ∧ J xs W') ∨ (∃ pre, True ∧ Jx pre W'))) := by
 have c1' : CellsIn (Bg.of0 w).blk Bm [.map (some b)] := c1
 refine lZ Tryz.func196 rfl Tryz.ntmps196 rfl ?_
 refine af (zz0 (eU rfl c1' fS (by rfl)) ?_)
 refine wF rfl hmI hb d5 rfl (fun W1 r hg1 hr1 hI1 => ?_)
 refine ad (aD ?_)
 refine bK (ι := World × List UInt32) (fun ⟨Ws, done⟩ => IterAt Ws b r es ck done ∧ done.Nodup ∧ (∀ k ∈ done, k ∈ l.map (·.1)) ∧ J done Ws) (fun ⟨Ws, done⟩ => Bg.of0 Ws) (fun ⟨Ws, done⟩ => []) (fun ⟨Ws, done⟩ => []) (fun ⟨Ws, done⟩ => l.length - done.length) (W1, []) ⟨hI1, List.nodup_nil, fun k h => (by cases h), hJ [] w W1 none h0 hg1 (fun r e => by cases e)⟩ Front.nil (by repeat' constructor) rfl (fun i hi m hm => ?_)
 obtain ⟨Ws, done⟩ := i
 replace hi : IterAt Ws b r es ck done ∧ done.Nodup ∧ (∀ k ∈ done, k ∈ l.map (·.1)) ∧ J done Ws := hi
 replace hm : m = l.length - done.length := hm
 change Tr _ (Bg.of0 Ws) [] ([] ++ _) _
 obtain ⟨q1, q2, q3, q4⟩ := hi
 refine al ?_
 refine zN (l := l) rfl hmI q1 rfl rfl (fun k x W2 W3 hx2 hk1 hk2 g1 g2 i1 i2 => ?_) (fun hall => ?_)
 ·skip
  have hlen : done.length < l.length := BC q2 q3 hk1 hk2
  have hJ3 : J done W3 := hJ done W2 W3 (some r) (hJ done Ws W2 none q4 g1 (fun r e => by cases e)) g2 (fun r' e => by cases e; exact ⟨by omega, i1.walk⟩)
  refine ac (al ?_)
  refine an rfl ?_ ?_ <;> intro h1 <;> try simp only [bs] at h1
  ·refine bA (aD (af (zz0 (wL rfl hmI i2 (by simp) hx2) ?_)))
   refine zz0 (aO rfl rfl) (zz0 (ab rfl) (ad (al ?_)))
   refine zI (x := k) (fun x : UInt32 => .int .u32 x.toNat) rfl rfl rfl rfl hJ3 hJ (fun W4 h => hY done k W4 h hlen) rfl rfl rfl rfl (fun W4 W' y1 y2 y3 => ?_) (fun W' y1 => ?_)
   ·skip
    refine ac ?_
    refine an rfl ?_ ?_ <;> intro h2 <;> try simp only [bs] at h2
    ·first | contradiction | (exfalso; omega) | simp_all
    ·refine cd (aX (ac ?_))
     have hdl : (done ++ [k]).length = done.length + 1 := by simp
     apply il (W', done ++ [k])
     ·exact rfl
     ·exact Front.nil
     ·exact bB 9 rfl
     ·exact (by repeat' constructor)
     ·exact ⟨(i2.grown y1.grown).keeps y2, uj q2 hk2, fun j hj => (List.mem_append.1 hj).elim (q3 j) (fun h => (List.mem_singleton.1 h) ▸ hk1), y3⟩
     ·exact (by show l.length - (done ++ [k]).length < m; omega)
   ·skip
    refine ac ?_
    refine an rfl ?_ ?_ <;> intro h3 <;> try simp only [bs] at h3
    ·refine az (bh (ay (bh ?_)))
     refine lC Tryz.results196 (fun w' hw => ?_)
     exact ⟨⟨_, rfl⟩, .inr ⟨_, trivial, hJx _ W' _ none y1 hw.grown (fun r e => by cases e)⟩⟩
    ·first | contradiction | (exfalso; omega) | simp_all
  ·first | contradiction | (exfalso; omega) | simp_all
 ·skip
  refine ac (al ?_)
  refine an rfl ?_ ?_ <;> intro h4 <;> try simp only [bs] at h4
  ·first | contradiction | (exfalso; omega) | simp_all
  ·refine bF (aG (aG (bj ?_)))
   refine fq Tryz.results196 (fun w' hw => ?_)
   exact ⟨⟨_, rfl⟩, .inl ⟨done, yV hmI.nodup q2 q3 hall, hJ done Ws _ none q4 hw.grown (fun r e => by cases e)⟩⟩
theorem s8 {α : Type} {f : α → Value} {l : List (UInt32 × α)} (b Bm : Nat) (w : World) (hm : MapIn (hp w) b f l) (c1 : CellsIn (hp w) Bm [.map (some b)]) :
  SeqStopsK Fence.wide 2 Tryz.prog 196 [.pointer (some ⟨Bm, 0, none⟩)].toArray (fun x : UInt32 => #[.int .u32 x.toNat]) KeepsWalks (fun xs => xs.Perm (l.map (·.1))) (fun _ => True) l.length w := by
 obtain ⟨es, ck, hb, hm⟩ := hm
 intro lv J Jx W hBel hJ hJx hY h0
 have hle : Hp.le (hp w) (hp W) := fun k o e => (hBel.block k (Array.getElem?_eq_some_iff.1 (show w.heap[k]? = some o from e)).1).trans e
 exact callsIn_wide.2 (Ay b Bm es ck hm W (c1.mono hle) (hle b _ hb) lv W.heap.size (Nat.le_refl _) J Jx hJ hJx hY h0)
theorem El (b : Nat) (w : World) :
  Calls Tryz.prog 72 #[.map (some b)] w (fun e w' => ∃ i : Nat, e = .returned (.func (.func 142) #[] #[.pointer (some ⟨i, 0, none⟩)]) ∧ Ext w w' ∧ CellsIn (vP w w') i [.map (some b)]) := by
 refine enter Tryz.func72 rfl Tryz.ntmps72 rfl ?_
 refine af ?_
 refine dJ rfl rfl (fun b1 => ?_)
 refine zz0 (ab rfl) (aI (zz0 (fu rfl rfl) ?_))
 refine zz0 (ab rfl) (ad (az ?_))
 refine aT Tryz.results72 rfl (fun w' hw => ?_)
 exact ⟨b1, rfl, hw.b0, hw.cellNew rfl (by repeat constructor)⟩
theorem CM {α : Type} {f : α → Value} {l : List (UInt32 × α)} (b Bm : Nat) (es : Array MapEntry) (ck : Nat) (hmI : MapIs f l es ck) (w : World) (c1 : CellsIn (hp w) Bm [.map (some b)]) (hb : w.heap[b]? = some (.map es ck)) (lv B : Nat) (hB : B ≤ w.heap.size) (J Jx : List UInt32 → World → Prop) (hJ : AbidesFrom B J) (hJx : AbidesFrom B Jx) (hY : ∀ pre x W1, J pre W1 → pre.length < l.length → YieldAt Fence.wide 1 Tryz.prog lv #[.int .u32 x.toNat] W1 fun e W' => (e = .returned (.bool true) ∧ J (pre ++ [x]) W' ∧ KeepsWalks W1 W') ∨ (e = .returned (.bool false) ∧ Jx (pre ++ [x]) W')) (h0 : J [] w) :
  Calls Tryz.prog 142 #[.func (.yield lv) #[] #[], .pointer (some ⟨Bm, 0, none⟩)] w (fun e W' => (∃ v, e = .returned v) ∧ ((∃ xs, xs.Perm (l.map (·.1)) ∧ J xs W') ∨ (∃ pre, True ∧ Jx pre W'))) := by
 have c1' : CellsIn (Bg.of0 w).blk Bm [.map (some b)] := c1
 refine lZ Tryz.func142 rfl Tryz.ntmps142 rfl ?_
 refine af (zz0 (eU rfl c1' jb (by rfl)) ?_)
 refine wF rfl hmI hb fN rfl (fun W1 r hg1 hr1 hI1 => ?_)
 refine ad (aD ?_)
 refine bK (ι := World × List UInt32) (fun ⟨Ws, done⟩ => IterAt Ws b r es ck done ∧ done.Nodup ∧ (∀ k ∈ done, k ∈ l.map (·.1)) ∧ J done Ws) (fun ⟨Ws, done⟩ => Bg.of0 Ws) (fun ⟨Ws, done⟩ => []) (fun ⟨Ws, done⟩ => []) (fun ⟨Ws, done⟩ => l.length - done.length) (W1, []) ⟨hI1, List.nodup_nil, fun k h => (by cases h), hJ [] w W1 none h0 hg1 (fun r e => by cases e)⟩ Front.nil (by repeat' constructor) rfl (fun i hi m hm => ?_)
 obtain ⟨Ws, done⟩ := i
 replace hi : IterAt Ws b r es ck done ∧ done.Nodup ∧ (∀ k ∈ done, k ∈ l.map (·.1)) ∧ J done Ws := hi
 replace hm : m = l.length - done.length := hm
 change Tr _ (Bg.of0 Ws) [] ([] ++ _) _
 obtain ⟨q1, q2, q3, q4⟩ := hi
 refine al ?_
 refine zN (l := l) rfl hmI q1 rfl rfl (fun k x W2 W3 hx2 hk1 hk2 g1 g2 i1 i2 => ?_) (fun hall => ?_)
 ·skip
  have hlen : done.length < l.length := BC q2 q3 hk1 hk2
  have hJ3 : J done W3 := hJ done W2 W3 (some r) (hJ done Ws W2 none q4 g1 (fun r e => by cases e)) g2 (fun r' e => by cases e; exact ⟨by omega, i1.walk⟩)
  refine ac (al ?_)
  refine an rfl ?_ ?_ <;> intro h1 <;> try simp only [bs] at h1
  ·refine bA (aD (af (zz0 (wL rfl hmI i2 (by simp) hx2) ?_)))
   refine zz0 (aO rfl rfl) (zz0 (ab rfl) (ad (al ?_)))
   refine zI (x := k) (fun x : UInt32 => .int .u32 x.toNat) rfl rfl rfl rfl hJ3 hJ (fun W4 h => hY done k W4 h hlen) rfl rfl rfl rfl (fun W4 W' y1 y2 y3 => ?_) (fun W' y1 => ?_)
   ·skip
    refine ac ?_
    refine an rfl ?_ ?_ <;> intro h2 <;> try simp only [bs] at h2
    ·first | contradiction | (exfalso; omega) | simp_all
    ·refine cd (aX (ac ?_))
     have hdl : (done ++ [k]).length = done.length + 1 := by simp
     apply il (W', done ++ [k])
     ·exact rfl
     ·exact Front.nil
     ·exact bB 9 rfl
     ·exact (by repeat' constructor)
     ·exact ⟨(i2.grown y1.grown).keeps y2, uj q2 hk2, fun j hj => (List.mem_append.1 hj).elim (q3 j) (fun h => (List.mem_singleton.1 h) ▸ hk1), y3⟩
     ·exact (by show l.length - (done ++ [k]).length < m; omega)
   ·skip
    refine ac ?_
    refine an rfl ?_ ?_ <;> intro h3 <;> try simp only [bs] at h3
    ·refine az (bh (ay (bh ?_)))
     refine lC Tryz.results142 (fun w' hw => ?_)
     exact ⟨⟨_, rfl⟩, .inr ⟨_, trivial, hJx _ W' _ none y1 hw.grown (fun r e => by cases e)⟩⟩
    ·first | contradiction | (exfalso; omega) | simp_all
  ·first | contradiction | (exfalso; omega) | simp_all
 ·skip
  refine ac (al ?_)
  refine an rfl ?_ ?_ <;> intro h4 <;> try simp only [bs] at h4
  ·first | contradiction | (exfalso; omega) | simp_all
  ·refine bF (aG (aG (bj ?_)))
   refine fq Tryz.results142 (fun w' hw => ?_)
   exact ⟨⟨_, rfl⟩, .inl ⟨done, yV hmI.nodup q2 q3 hall, hJ done Ws _ none q4 hw.grown (fun r e => by cases e)⟩⟩
theorem uE {α : Type} {f : α → Value} {l : List (UInt32 × α)} (b Bm : Nat) (w : World) (hm : MapIn (hp w) b f l) (c1 : CellsIn (hp w) Bm [.map (some b)]) :
  SeqStopsK Fence.wide 2 Tryz.prog 142 [.pointer (some ⟨Bm, 0, none⟩)].toArray (fun x : UInt32 => #[.int .u32 x.toNat]) KeepsWalks (fun xs => xs.Perm (l.map (·.1))) (fun _ => True) l.length w := by
 obtain ⟨es, ck, hb, hm⟩ := hm
 intro lv J Jx W hBel hJ hJx hY h0
 have hle : Hp.le (hp w) (hp W) := fun k o e => (hBel.block k (Array.getElem?_eq_some_iff.1 (show w.heap[k]? = some o from e)).1).trans e
 exact callsIn_wide.2 (CM b Bm es ck hm W (c1.mono hle) (hle b _ hb) lv W.heap.size (Nat.le_refl _) J Jx hJ hJx hY h0)
theorem vv (g : Nat) (lb : List Value) (keys : List UInt32) (Nm : Nat) (hN : Nm ≤ 1000000) (eg : ∀ (args : Array Value) (w : World), (callFunc g args).run Tryz.prog w = .ok (.enter g args) w) (w : World) (hseq : SeqStopsK Fence.wide 2 Tryz.prog g lb.toArray (fun x : UInt32 => #[.int .u32 x.toNat]) KeepsWalks (fun xs => xs.Perm keys) (fun _ => True) Nm w) :
  Calls Tryz.prog 197 #[.slice none 0 0, .func (.func g) #[] lb.toArray] w (fun e w' => ∃ i : Value × List UInt32, e = .returned i.1 ∧ Below w.heap.size w w' ∧ NewEnts w w' [rowE i.1 23 ar i.2] ∧ i.2.Perm keys) := by
 refine Hr Tryz.func197 rfl Tryz.ntmps197 rfl ?_
 refine af ?_
 refine dJ rfl rfl (fun b1 => ?_)
 refine zz0 (ab rfl) (ad (al (af (zz0 (aa rfl) (ad (aD (cj 23 ar ?_)))))))
 refine A6 (α := UInt32) (ι := Value × List UInt32) (lb := lb) (fun x => .int .u32 x.toNat) (fun xs => xs.Perm keys) (fun pre j => j.2 = pre) (fun j => [cellE b1 [j.1] 31, rowE j.1 23 ar j.2]) Nm (.slice none 0 0, []) rfl rfl rfl eg rfl rfl (by repeat' constructor) rfl (fun j => .cell (.row .nil)) ?_ ?_ ?_
 ·exact fun w2 F1 hf h1 => SeqStopsK.later hseq (h1.below0 hf)
 ·intro pre x j l0 F1 hF1 hok hlen
  obtain ⟨V, xs⟩ := j
  replace hok : xs = pre := hok
  subst hok
  change Tr _ _ [cellE b1 [V] 31, rowE V 23 ar xs] _ _
  refine A9 ?_
  refine A5 (Ig Ea) rfl ?_
  refine zz0 (aJ rfl dM) ?_
  refine zz0 (aa rfl) ?_
  refine js (E := ar) x rfl rfl ah ae cU (fun V2 => ?_)
  refine zz1 rfl rfl ah eX (fun V3 => ?_)
  refine dw (.head _) (fun pa pc hpv => ?_)
  subst hpv
  refine jn rfl rfl cM (by repeat constructor) (by rfl) (by rfl) (by first | exact List.all_eq_true.1 rfl | exact Enc.one _ _) rfl ?_
  refine aB (aX ?_)
  exact fun a w ha hw => ⟨rfl, (.slice pa (xs ++ [x]).length pc, xs ++ [x]), rfl, Pick.heap (L' := [cellE b1 [.slice pa (xs ++ [x]).length pc] 31, rowE (.slice pa (xs ++ [x]).length pc) 23 ar (xs ++ [x])]) (by repeat' constructor) hw⟩
 ·intro xs j D F1 hF1 hS hok
  obtain ⟨V, ys⟩ := j
  replace hok : ys = xs := hok
  subst hok
  change Tr _ _ [Eh D, cellE b1 [V] 31, rowE V 23 ar ys] _ _
  refine aX (ac (af (zz0 (aJ rfl dM) ?_)))
  refine zz0 (ab rfl) (ad (az ?_))
  refine E3 (D := D) Tryz.results197 rfl (by (repeat rw [dq, if_neg (by unfold mk0; omega)]); exact CJ) (by repeat constructor) (fun w' hw => ?_)
  exact ⟨(V, ys), rfl, hw.below0 hF1, hw.ents0 hF1.lo (by repeat' constructor), hS⟩
theorem zw (g : Nat) (lb : List Value) (keys : List UInt32) (Nm : Nat) (hN : Nm ≤ 1000000) (eg : ∀ (args : Array Value) (w : World), (callFunc g args).run Tryz.prog w = .ok (.enter g args) w) (w : World) (hseq : SeqStopsK Fence.wide 2 Tryz.prog g lb.toArray (fun x : UInt32 => #[.int .u32 x.toNat]) KeepsWalks (fun xs => xs.Perm keys) (fun _ => True) Nm w) :
  Calls Tryz.prog 140 #[.func (.func g) #[] lb.toArray] w (fun e w' => ∃ i : Value × List UInt32, e = .returned i.1 ∧ Below w.heap.size w w' ∧ NewEnts w w' [rowE i.1 23 ar i.2] ∧ i.2.Perm keys) := by
 refine lZ Tryz.func140 rfl Tryz.ntmps140 rfl ?_
 refine af (zz0 (ab rfl) (aI (zz0 (aa rfl) ?_)))
 refine eM (fun i : Value × List UInt32 => i.1) (fun i => [rowE i.1 23 ar i.2]) (ok := fun i => i.2.Perm keys) rfl rfl Tryz.call197 (fun w hw => vv g lb keys Nm hN eg w (SeqStopsK.later hseq (hw.below0 (Bg.le.refl _)))) rfl (fun i hi => ?_)
 obtain ⟨V, ys⟩ := i
 change Tr _ _ [rowE V 23 ar ys] _ _
 refine zz0 (ab rfl) (ad (az ?_))
 refine aT Tryz.results140 rfl (fun w' hw => ?_)
 exact ⟨(V, ys), rfl, hw.below0 (Bg.le.refl _), hw.ents0 rfl (by repeat' constructor), hi⟩
theorem tU (g : Nat) (lb : List Value) (keys : List UInt32) (Nm : Nat) (hN : Nm ≤ 1000000) (eg : ∀ (args : Array Value) (w : World), (callFunc g args).run Tryz.prog w = .ok (.enter g args) w) (hK : keys.length ≤ 1000000) (w : World) (hseq : SeqStopsK Fence.wide 2 Tryz.prog g lb.toArray (fun x : UInt32 => #[.int .u32 x.toNat]) KeepsWalks (fun xs => xs.Perm keys) (fun _ => True) Nm w) :
  Calls Tryz.prog 71 #[.func (.func g) #[] lb.toArray] w (fun e w' => ∃ V : Value, e = .returned V ∧ Below w.heap.size w w' ∧ NewEnts w w' [rowE V 23 ar (f8 keys)] ∧ True) := by
 refine lZ Tryz.func71 rfl Tryz.ntmps71 rfl ?_
 refine af (zz0 (ab rfl) (aI (zz0 (aa rfl) ?_)))
 refine eM (fun i : Value × List UInt32 => i.1) (fun i => [rowE i.1 23 ar i.2]) (ok := fun i => i.2.Perm keys) rfl rfl Tryz.call140 (fun w hw => zw g lb keys Nm hN eg w (SeqStopsK.later hseq (hw.below0 (Bg.le.refl _)))) rfl (fun i hi => ?_)
 obtain ⟨V, ys⟩ := i
 replace hi : ys.Perm keys := hi
 have hyl := hi.length_eq
 change Tr _ _ [rowE V 23 ar ys] _ _
 refine zz0 (ab rfl) (aI (zz0 (aa rfl) (dU rfl Tryz.call141 (by repeat constructor) (fun w hw => vJ ys.toArray V w (hw.ent _ (.head _)) (by rw [List.size_toArray]; omega)) rfl ?_)))
 rw [yv, wW hi]
 refine aI (zz0 (aa rfl) (zz0 (ab rfl) (ad (az ?_))))
 refine aT Tryz.results71 rfl (fun w' hw => ?_)
 exact ⟨V, rfl, hw.below0 (Bg.le.refl _), hw.ents0 rfl (by repeat' constructor), trivial⟩
theorem jV (l : List (UInt32 × Bool)) (b : Nat) (w : World) (hm : MapIn (hp w) b cY l) (hl : l.length ≤ 1000000) :
  Calls Tryz.prog 70 #[.map (some b)] w (fun e w' => ∃ V : Value, e = .returned V ∧ Below w.heap.size w w' ∧ NewEnts w w' [rowE V 23 ar (f8 (l.map (·.1)))] ∧ True) := by
 have hm' : MapIn (Bg.of0 w).blk b cY l := hm
 refine lZ Tryz.func70 rfl Tryz.ntmps70 rfl ?_
 refine af (zz0 (ab rfl) (aI (zz0 (aa rfl) ?_)))
 refine wG (fun i : Nat => .func (.func 196) #[] #[.pointer (some ⟨i, 0, none⟩)]) (R := fun h i => CellsIn h i [.map (some b)]) (fun h h' i hh r => r.mono hh) rfl Tryz.call139 (fun w hw => CL b w) rfl (fun i7 F7 hF7 hR7 => ?_)
 refine eM (fun V : Value => V) (fun V => [rowE V 23 ar (f8 (l.map (·.1)))]) (ok := fun _ => True) (hF7.dr) rfl Tryz.call71 (fun w hw => tU _ _ (l.map (·.1)) l.length hl Tryz.call196 (by rw [List.length_map]; exact hl) w (s8 b i7 w ((hm'.mono hF7.blk).mono hw.bg) (hR7.mono hw.bg))) rfl (fun V7 _ => ?_)
 refine zz0 (ab rfl) (ad (az ?_))
 refine aT Tryz.results70 rfl (fun w' hw => ?_)
 exact ⟨V7, rfl, hw.below0 hF7, hw.ents0 hF7.lo (by repeat' constructor), trivial⟩
end Go.Proofs.YtiajjbhcpeadfaaGreat
namespace Go.HL
open Go
theorem AT (k : Ins) (s : Int) (b : List UInt8) (addr : UInt32) : (wx k s b addr).size = ff s ∧ (wx k s b addr).addr = addr := by
 unfold wx l3
 repeat' split
 all_goals exact ⟨rfl, rfl⟩
theorem Ck (s : Int) : 1 ≤ ff s ∧ ff s ≤ 6 := by unfold ff; repeat' split <;> omega
theorem EM {b : List UInt8} {addr : UInt32} (h : (nm b addr).2 = 0) : 1 ≤ (nm b addr).1.size ∧ (nm b addr).1.size ≤ b.length ∧ (nm b addr).1.addr = addr := by
 unfold nm at h ⊢
 split at h
 ·simp at h
 ·rename_i h1
  rw [if_neg h1]
  split at h
  ·simp at h
  ·rename_i h2
   rw [if_neg h2]
   split at h
   ·simp at h
   ·rename_i h3
    rw [if_neg h3]
    dsimp only at h ⊢
    split at h
    ·simp at h
    ·rename_i h4
     rw [if_neg h4]
     obtain ⟨q1, q2⟩ := AT (rowP (b.getD 0 default)).1 (bV (rowP (b.getD 0 default)).1).2.1 b addr
     have := Ck (bV (rowP (b.getD 0 default)).1).2.1
     refine ⟨?_, ?_, q2⟩
     ·rw [q1]; omega
     ·rw [q1]; omega
end Go.HL
namespace Go.HL
open Go Go.RowKit
def sa (i : Ins) : Value := .agg (aP.enc i).toArray
theorem uo {z : Value} (hz : z = sa cx) (o : Option Ins) : uq sa z o = .agg (aP.enc (o.getD cx)).toArray := by
 subst hz
 cases o <;> rfl
section
variable {P : Program} {ops : Array Oper} {Q : Exit → Act → World → Prop} {N : Nat} {F : Bg} {L : List Ent} {M : Fr} {dst : Option Tmp} {ty : TypeId} {pos : String} {after : Array Edge} {g : Option (Nat × Bool)} {rest : List Oper} {d : Nat}
theorem wJ {l : List (UInt32 × Ins)} {x y : Operand} {t K e : TypeId} {z : Value} {b : Nat} {k : UInt32} (hx : opv M x = some (.map (some b))) (hy : opv M y = some (.int .u32 k.toNat)) (hm : MapIn F.blk b sa l)
  (ht : P.underlying t = some (.map K e)) (hK : P.underlying K = some (.int .u32)) (hz : ∀ w, (zeroValue e).run P w = .ok z w) (hzz : z = sa cx) : QS P N F L M ⟨dst, .lookup t x y false, ty, pos, after, g⟩ (.agg (aP.enc ((dK l k).getD cx)).toArray) := by
 have h := u3 (P := P) (N := N) (F := F) (L := L) (M := M) (dst := dst) (ty := ty) (pos := pos) (after := after) (g := g) hx hy hm ht hK hz
 rw [uo hzz] at h; exact h
theorem Be {l : List (UInt32 × Ins)} {x y : Operand} {t K e : TypeId} {z : Value} {b : Nat} {k : UInt32} (hx : opv M x = some (.map (some b))) (hy : opv M y = some (.int .u32 k.toNat)) (hm : mapE b sa l ∈ L)
  (ht : P.underlying t = some (.map K e)) (hK : P.underlying K = some (.int .u32)) (hz : ∀ w, (zeroValue e).run P w = .ok z w) (hzz : z = sa cx) : QS P N F L M ⟨dst, .lookup t x y true, ty, pos, after, g⟩ (.tuple #[.agg (aP.enc ((dK l k).getD cx)).toArray, .bool (dK l k).isSome]) := by
 have h := wI (P := P) (N := N) (F := F) (L := L) (M := M) (dst := dst) (ty := ty) (pos := pos) (after := after) (g := g) hx hy hm ht hK hz
 rw [uo hzz] at h; exact h
theorem zU {l : List (UInt32 × Ins)} {x y : Operand} {t K e : TypeId} {z : Value} {b : Nat} {k : UInt32} (hx : opv M x = some (.map (some b))) (hy : opv M y = some (.int .u32 k.toNat)) (hm : MapIn F.blk b sa l)
  (ht : P.underlying t = some (.map K e)) (hK : P.underlying K = some (.int .u32)) (hz : ∀ w, (zeroValue e).run P w = .ok z w) (hzz : z = sa cx) : QS P N F L M ⟨dst, .lookup t x y true, ty, pos, after, g⟩ (.tuple #[.agg (aP.enc ((dK l k).getD cx)).toArray, .bool (dK l k).isSome]) := by
 have h := u2 (P := P) (N := N) (F := F) (L := L) (M := M) (dst := dst) (ty := ty) (pos := pos) (after := after) (g := g) hx hy hm ht hK hz
 rw [uo hzz] at h; exact h
theorem C0 {α : Type} {E : Enc α} {xs : List α} {x hi : Operand} {t e T : TypeId} {V : Value} {k : Nat} {kk : IntKind} {n : Int} {L1 : List Ent} (hx : opv M x = some V) (hV : Del (rowE V T E xs) L L1) (hhi : opv M hi = some (.int kk n))
  (ht : P.underlying t = some (.slice e)) (hz : ∀ w, (sizeOf e).run P w = .ok k w) (hn : 0 ≤ n ∧ n ≤ xs.length) (hd : Nat.ble (d + 1) N = true)
  (K : ∀ V', Tr N F (rowE V' T E (xs.take n.toNat) :: L1) ((d, V') :: M) (wpList P ops Q rest)) : Tr N F L M (wpList P ops Q (⟨some d, .slice t x none (some hi) none, ty, pos, after, none⟩ :: rest)) := by
 intro a w ha hw
 refine wpList_plain rfl fun K' hK => ?_
 have hf := hw.front hV
 have hrow : RowOK V T E xs (V.ownBlock.bind (w.heap[·]?)) := hf.ent _ (.head _)
 obtain ⟨m, rfl⟩ : ∃ m : Nat, n = (m : Int) := ⟨n.toNat, by omega⟩
 have hm : m ≤ xs.length := by omega
 obtain ⟨av, cv, hV', hle⟩ : ∃ av cv, V = .slice av xs.length cv ∧ xs.length ≤ cv := by
  rcases hrow with ⟨rfl, rfl⟩ | ⟨gb, cap, cur, rfl, _, h1, _⟩
  ·exact ⟨none, 0, rfl, Nat.le_refl _⟩
  ·exact ⟨_, _, rfl, h1⟩
 have hb : ∀ w, (Instr.sliceBounds true xs.length cv none (some (.int kk (m : Int))) none).run P w = .ok (0, m, cv) w := by
  intro w
  have := su (P := P) (n := xs.length) (c := cv) (lo := none) (hi := some (kk, (m : Int))) w (by simp [kK]) (by simp [kK, j9]) (by simp only [j9]; omega) hle
  simpa [kK, j9] using this
 have hr := qK (P := P) ht hz w (a := av) hb
 have hv : (if cv = 0 then av else av.map (·.add (0 * k))) = av := by
  split
  ·rfl
  ·cases av with
   | none => rfl
   | some a0 => simp [Addr.add]
 rw [hv] at hr
 simp only [Nat.sub_zero] at hr
 unfold Oper.wp
 simp only [execOp, ha.eval hx, ha.eval hhi, Option.map_none, Option.map_some, Sem.run_bind, hV', hr, Result.andThen_ok, Sem.run_pure, Oper.upon]
 refine hK _ _ (K _ _ _ (ha.put (Nat.le_of_ble_eq_true hd)) ?_)
 subst hV'
 have hL1 : HpOK F (rowE (.slice av xs.length cv) T E xs :: L1) w := hf
 have htk : (xs.take ((m : Int)).toNat).length = m := by rw [List.length_take, Int.toNat_natCast]; omega
 rcases hrow with ⟨h1, h2⟩ | ⟨gb, cap, cur, h1, ho, hc1, hc2, hc3, hc4⟩
 ·subst h2
  simp only [Value.slice.injEq] at h1
  obtain ⟨rfl, _, rfl⟩ := h1
  have hm0 : m = 0 := by simpa using hm
  subst hm0
  exact hL1
 ·simp only [Value.slice.injEq] at h1
  obtain ⟨rfl, _, rfl⟩ := h1
  have e1 : rowE (.slice (some ⟨gb, 0, none⟩) xs.length cv) T E xs = ⟨some gb, RowOK (.slice (some ⟨gb, 0, none⟩) xs.length cv) T E xs⟩ := rfl
  have e2 : rowE (.slice (some ⟨gb, 0, none⟩) m cv) T E (xs.take ((m : Int)).toNat) = ⟨some gb, RowOK (.slice (some ⟨gb, 0, none⟩) m cv) T E (xs.take ((m : Int)).toNat)⟩ := rfl
  rw [e1] at hL1
  rw [e2]
  refine HpOK.set hL1 (.here _) rfl rfl rfl (Nat.le_refl _) (Nat.le_refl _) (fun _ _ _ => rfl) ?_
  refine .inr ⟨gb, cv, cur, by rw [htk], ho, by rw [htk]; omega, hc2, hc3, ?_⟩
  rw [htk, Int.toNat_natCast]
  have hle2 : m * E.k ≤ xs.length * E.k := Nat.mul_le_mul_right _ hm
  have h3 : cur.toList.take (m * E.k) = (cur.toList.take (xs.length * E.k)).take (m * E.k) := by rw [List.take_take, Nat.min_eq_left hle2]
  rw [h3, hc4]
  have h4 : xs.flatMap E.enc = (xs.take m).flatMap E.enc ++ (xs.drop m).flatMap E.enc := by rw [← List.flatMap_append, List.take_append_drop]
  have h5 : ((xs.take m).flatMap E.enc).length = m * E.k := by rw [dA, List.length_take, Nat.min_eq_left hm]
  rw [h4, ← h5, List.take_left]
end
end Go.HL
