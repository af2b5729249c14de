/- Own rules and walks, part 5. -/
import Derived.Test.YtpeaodkfbjenpaaGreatB4
set_option linter.unusedSimpArgs false
set_option linter.unusedVariables false
set_option linter.unusedSectionVars false
set_option maxRecDepth 100000
set_option maxHeartbeats 16000000
namespace Go.Proofs.YtpeaodkfbjenpaaGreat
open Go Go.HL Go.RowKit
theorem wk (c : Int) (w : World) :
  Calls Tryz.prog 91 #[.int .i64 c] w (fun e w' => e = .returned (.int .i64 (eh c)) ∧ Ext w w') := by
 refine enter Tryz.func91 rfl Tryz.ntmps91 rfl ?_
 refine af (ab (zz0 (ac rfl) (ae (aa (af (aQ (af (ab (zz0 (ad rfl) (zz0 (dO rfl rfl) (zz0 (ad rfl) ?_)))))))))))
 apply dk
 ·exact (rfl : _ = (7, 6, 13))
 ·exact rfl
 ·intro hF1; have hF1' := hF1
  try simp only [bs] at hF1'
  refine zz5 hF1 (ad rfl) (zz5 hF1 (dh rfl rfl) (zz5 hF1 (ad rfl) ?_))
  apply bJ
  ·exact (rfl : _ = (3, 9, 12))
  ·exact rfl
  ·intro hT2; have hT2' := hT2
   try simp only [bs] at hT2'
   refine zz5 hT2 (ad rfl) (zz5 hT2 (dO rfl rfl) (zz5 hF1 (aL rfl hT2 rfl) ?_))
   refine ae (aa ?_)
   exact av (Sub.cons rfl (zz8 3 rfl))
  ·intro hF2
   refine zz6 hF2 (zz6 hF2 (zz5 hF1 (aK rfl hF2 rfl) ?_))
   refine ae (aa ?_)
   exact av (Sub.cons rfl (zz8 3 rfl))
  refine zz0 (aK rfl hF1 rfl) ?_
  refine ae (aa ?_)
  exact av (Sub.cons rfl (zz8 5 rfl))
 ·intro hT1
  refine zz6 hT1 (zz6 hT1 (zz6 hT1 (dA rfl rfl rfl ?_)))
  refine dA rfl rfl rfl ?_
  refine zz6 hT1 (zz0 (aL rfl hT1 rfl) ?_)
  refine ae (aa ?_)
  exact av (Sub.cons rfl (zz8 7 rfl))
 refine zz0 (ac rfl) (ae (aa ?_))
 refine ak rfl ?_ ?_ <;> intro h3 <;> try simp only [bs] at h3
 ·refine af (ab (zz0 (ac rfl) (ae (aa (ao (bf (an ?_)))))))
  refine aI iD rfl (fun w' hw => ?_)
  exact ⟨by clear hw; unfold eh; (repeat (first | rw [if_pos (by first | assumption | omega | grind)] | rw [if_neg (by first | assumption | omega | grind)])) <;> rfl, hw.below (Bg.le.refl _)⟩
 ·refine af (ab (zz0 (ad rfl) (zz0 (dh rfl rfl) (zz0 (ad rfl) ?_))))
  apply bJ
  ·exact (rfl : _ = (3, 17, 20))
  ·exact rfl
  ·intro hT4; have hT4' := hT4
   try simp only [bs] at hT4'
   refine zz5 hT4 (ad rfl) (zz5 hT4 (dO rfl rfl) (zz0 (aL rfl hT4 rfl) ?_))
   refine ae (aa ?_)
   exact av (Sub.cons rfl (zz8 3 rfl))
  ·intro hF4
   refine zz6 hF4 (zz6 hF4 (zz0 (aK rfl hF4 rfl) ?_))
   refine ae (aa ?_)
   exact av (Sub.cons rfl (zz8 3 rfl))
  refine zz0 (ad rfl) ?_
  apply dk
  ·exact (rfl : _ = (7, 21, 28))
  ·exact rfl
  ·intro hF5; have hF5' := hF5
   try simp only [bs] at hF5'
   refine zz5 hF5 (ad rfl) (zz5 hF5 (dh rfl rfl) (zz5 hF5 (ad rfl) ?_))
   apply bJ
   ·exact (rfl : _ = (3, 24, 27))
   ·exact rfl
   ·intro hT6; have hT6' := hT6
    try simp only [bs] at hT6'
    refine zz5 hT6 (ad rfl) (zz5 hT6 (dO rfl rfl) (zz5 hF5 (aL rfl hT6 rfl) ?_))
    refine ae (aa ?_)
    exact av (Sub.cons rfl (zz8 3 rfl))
   ·intro hF6
    refine zz6 hF6 (zz6 hF6 (zz5 hF5 (aK rfl hF6 rfl) ?_))
    refine ae (aa ?_)
    exact av (Sub.cons rfl (zz8 3 rfl))
   refine zz0 (aK rfl hF5 rfl) ?_
   refine ae (aa ?_)
   exact av (Sub.cons rfl (zz8 5 rfl))
  ·intro hT5
   refine zz6 hT5 (zz6 hT5 (zz6 hT5 (dA rfl rfl rfl ?_)))
   refine dA rfl rfl rfl ?_
   refine zz6 hT5 (zz0 (aL rfl hT5 rfl) ?_)
   refine ae (aa ?_)
   exact av (Sub.cons rfl (zz8 7 rfl))
  refine zz0 (ad rfl) ?_
  apply dk
  ·exact (rfl : _ = (3, 29, 32))
  ·exact rfl
  ·intro hF7; have hF7' := hF7
   try simp only [bs] at hF7'
   refine zz5 hF7 (ad rfl) (zz5 hF7 (aN rfl rfl) (zz0 (aK rfl hF7 rfl) ?_))
   refine ae (aa ?_)
   exact av (Sub.cons rfl (zz8 3 rfl))
  ·intro hT7
   refine zz6 hT7 (zz6 hT7 (zz0 (aL rfl hT7 rfl) ?_))
   refine ae (aa ?_)
   exact av (Sub.cons rfl (zz8 3 rfl))
  refine zz0 (ad rfl) ?_
  apply dk
  ·exact (rfl : _ = (3, 33, 36))
  ·exact rfl
  ·intro hF8; have hF8' := hF8
   try simp only [bs] at hF8'
   refine zz5 hF8 (ad rfl) (zz5 hF8 (aN rfl rfl) (zz0 (aK rfl hF8 rfl) ?_))
   refine ae (aa ?_)
   exact av (Sub.cons rfl (zz8 3 rfl))
  ·intro hT8
   refine zz6 hT8 (zz6 hT8 (zz0 (aL rfl hT8 rfl) ?_))
   refine ae (aa ?_)
   exact av (Sub.cons rfl (zz8 3 rfl))
  refine zz0 (ad rfl) ?_
  apply dk
  ·exact (rfl : _ = (7, 37, 44))
  ·exact rfl
  ·intro hF9; have hF9' := hF9
   try simp only [bs] at hF9'
   refine zz5 hF9 (ad rfl) (zz5 hF9 (dh rfl rfl) (zz5 hF9 (ad rfl) ?_))
   apply bJ
   ·exact (rfl : _ = (3, 40, 43))
   ·exact rfl
   ·intro hT10; have hT10' := hT10
    try simp only [bs] at hT10'
    refine zz5 hT10 (ad rfl) (zz5 hT10 (dO rfl rfl) (zz5 hF9 (aL rfl hT10 rfl) ?_))
    refine ae (aa ?_)
    exact av (Sub.cons rfl (zz8 3 rfl))
   ·intro hF10
    refine zz6 hF10 (zz6 hF10 (zz5 hF9 (aK rfl hF10 rfl) ?_))
    refine ae (aa ?_)
    exact av (Sub.cons rfl (zz8 3 rfl))
   refine zz0 (aK rfl hF9 rfl) ?_
   refine ae (aa ?_)
   exact av (Sub.cons rfl (zz8 5 rfl))
  ·intro hT9
   refine zz6 hT9 (zz6 hT9 (zz6 hT9 (dA rfl rfl rfl ?_)))
   refine dA rfl rfl rfl ?_
   refine zz6 hT9 (zz0 (aL rfl hT9 rfl) ?_)
   refine ae (aa ?_)
   exact av (Sub.cons rfl (zz8 7 rfl))
  refine zz0 (ad rfl) ?_
  apply dk
  ·exact (rfl : _ = (3, 45, 48))
  ·exact rfl
  ·intro hF11; have hF11' := hF11
   try simp only [bs] at hF11'
   refine zz5 hF11 (ad rfl) (zz5 hF11 (aN rfl rfl) (zz0 (aK rfl hF11 rfl) ?_))
   refine ae (aa ?_)
   exact av (Sub.cons rfl (zz8 3 rfl))
  ·intro hT11
   refine zz6 hT11 (zz6 hT11 (zz0 (aL rfl hT11 rfl) ?_))
   refine ae (aa ?_)
   exact av (Sub.cons rfl (zz8 3 rfl))
  refine zz0 (ad rfl) ?_
  apply dk
  ·exact (rfl : _ = (3, 49, 52))
  ·exact rfl
  ·intro hF12; have hF12' := hF12
   try simp only [bs] at hF12'
   refine zz5 hF12 (ad rfl) (zz5 hF12 (aN rfl rfl) (zz0 (aK rfl hF12 rfl) ?_))
   refine ae (aa ?_)
   exact av (Sub.cons rfl (zz8 3 rfl))
  ·intro hT12
   refine zz6 hT12 (zz6 hT12 (zz0 (aL rfl hT12 rfl) ?_))
   refine ae (aa ?_)
   exact av (Sub.cons rfl (zz8 3 rfl))
  refine zz0 (ac rfl) (ae (aa ?_))
  refine ak rfl ?_ ?_ <;> intro h13 <;> try simp only [bs] at h13
  ·refine af (ab (zz0 (ac rfl) (ae (aa (ao (bf (an ?_)))))))
   refine aI iD rfl (fun w' hw => ?_)
   exact ⟨by clear hw; unfold eh; (repeat (first | rw [if_pos (by first | assumption | omega | grind)] | rw [if_neg (by first | assumption | omega | grind)])) <;> rfl, hw.below (Bg.le.refl _)⟩
  ·refine af (ab (zz0 (ad rfl) (zz0 (dh rfl rfl) (zz0 (ad rfl) ?_))))
   apply bJ
   ·exact (rfl : _ = (3, 56, 59))
   ·exact rfl
   ·intro hT14; have hT14' := hT14
    try simp only [bs] at hT14'
    refine zz5 hT14 (ad rfl) (zz5 hT14 (dO rfl rfl) (zz0 (aL rfl hT14 rfl) ?_))
    refine ae (aa ?_)
    exact av (Sub.cons rfl (zz8 3 rfl))
   ·intro hF14
    refine zz6 hF14 (zz6 hF14 (zz0 (aK rfl hF14 rfl) ?_))
    refine ae (aa ?_)
    exact av (Sub.cons rfl (zz8 3 rfl))
   refine zz0 (ad rfl) ?_
   apply dk
   ·exact (rfl : _ = (7, 60, 67))
   ·exact rfl
   ·intro hF15; have hF15' := hF15
    try simp only [bs] at hF15'
    refine zz5 hF15 (ad rfl) (zz5 hF15 (dh rfl rfl) (zz5 hF15 (ad rfl) ?_))
    apply bJ
    ·exact (rfl : _ = (3, 63, 66))
    ·exact rfl
    ·intro hT16; have hT16' := hT16
     try simp only [bs] at hT16'
     refine zz5 hT16 (ad rfl) (zz5 hT16 (dO rfl rfl) (zz5 hF15 (aL rfl hT16 rfl) ?_))
     refine ae (aa ?_)
     exact av (Sub.cons rfl (zz8 3 rfl))
    ·intro hF16
     refine zz6 hF16 (zz6 hF16 (zz5 hF15 (aK rfl hF16 rfl) ?_))
     refine ae (aa ?_)
     exact av (Sub.cons rfl (zz8 3 rfl))
    refine zz0 (aK rfl hF15 rfl) ?_
    refine ae (aa ?_)
    exact av (Sub.cons rfl (zz8 5 rfl))
   ·intro hT15
    refine zz6 hT15 (zz6 hT15 (zz6 hT15 (dA rfl rfl rfl ?_)))
    refine dA rfl rfl rfl ?_
    refine zz6 hT15 (zz0 (aL rfl hT15 rfl) ?_)
    refine ae (aa ?_)
    exact av (Sub.cons rfl (zz8 7 rfl))
   refine zz0 (ad rfl) ?_
   apply dk
   ·exact (rfl : _ = (3, 68, 71))
   ·exact rfl
   ·intro hF17; have hF17' := hF17
    try simp only [bs] at hF17'
    refine zz5 hF17 (ad rfl) (zz5 hF17 (aN rfl rfl) (zz0 (aK rfl hF17 rfl) ?_))
    refine ae (aa ?_)
    exact av (Sub.cons rfl (zz8 3 rfl))
   ·intro hT17
    refine zz6 hT17 (zz6 hT17 (zz0 (aL rfl hT17 rfl) ?_))
    refine ae (aa ?_)
    exact av (Sub.cons rfl (zz8 3 rfl))
   refine zz0 (ac rfl) (ae (aa ?_))
   refine ak rfl ?_ ?_ <;> intro h18 <;> try simp only [bs] at h18
   ·refine af (ab (zz0 (ac rfl) (ae (aa (ao (bf (an ?_)))))))
    refine aI iD rfl (fun w' hw => ?_)
    exact ⟨by clear hw; unfold eh; (repeat (first | rw [if_pos (by first | assumption | omega | grind)] | rw [if_neg (by first | assumption | omega | grind)])) <;> rfl, hw.below (Bg.le.refl _)⟩
   ·refine af (ab (zz0 (ad rfl) (zz0 (dh rfl rfl) (zz0 (ad rfl) ?_))))
    apply bJ
    ·exact (rfl : _ = (3, 75, 78))
    ·exact rfl
    ·intro hT19; have hT19' := hT19
     try simp only [bs] at hT19'
     refine zz5 hT19 (ad rfl) (zz5 hT19 (dO rfl rfl) (zz0 (aL rfl hT19 rfl) ?_))
     refine ae (aa ?_)
     exact av (Sub.cons rfl (zz8 3 rfl))
    ·intro hF19
     refine zz6 hF19 (zz6 hF19 (zz0 (aK rfl hF19 rfl) ?_))
     refine ae (aa ?_)
     exact av (Sub.cons rfl (zz8 3 rfl))
    refine zz0 (ad rfl) ?_
    apply dk
    ·exact (rfl : _ = (3, 79, 82))
    ·exact rfl
    ·intro hF20; have hF20' := hF20
     try simp only [bs] at hF20'
     refine zz5 hF20 (ad rfl) (zz5 hF20 (aN rfl rfl) (zz0 (aK rfl hF20 rfl) ?_))
     refine ae (aa ?_)
     exact av (Sub.cons rfl (zz8 3 rfl))
    ·intro hT20
     refine zz6 hT20 (zz6 hT20 (zz0 (aL rfl hT20 rfl) ?_))
     refine ae (aa ?_)
     exact av (Sub.cons rfl (zz8 3 rfl))
    refine zz0 (ac rfl) (ae (aa ?_))
    refine ak rfl ?_ ?_ <;> intro h21 <;> try simp only [bs] at h21
    ·refine af (ab (zz0 (ac rfl) (ae (aa (ao (bf (an ?_)))))))
     refine aI iD rfl (fun w' hw => ?_)
     exact ⟨by clear hw; unfold eh; (repeat (first | rw [if_pos (by first | assumption | omega | grind)] | rw [if_neg (by first | assumption | omega | grind)])) <;> rfl, hw.below (Bg.le.refl _)⟩
    ·refine af (ab (zz0 (ad rfl) (zz0 (dh rfl rfl) (zz0 (ad rfl) ?_))))
     apply bJ
     ·exact (rfl : _ = (3, 86, 89))
     ·exact rfl
     ·intro hT22; have hT22' := hT22
      try simp only [bs] at hT22'
      refine zz5 hT22 (ad rfl) (zz5 hT22 (dO rfl rfl) (zz0 (aL rfl hT22 rfl) ?_))
      refine ae (aa ?_)
      exact av (Sub.cons rfl (zz8 3 rfl))
     ·intro hF22
      refine zz6 hF22 (zz6 hF22 (zz0 (aK rfl hF22 rfl) ?_))
      refine ae (aa ?_)
      exact av (Sub.cons rfl (zz8 3 rfl))
     refine zz0 (ad rfl) ?_
     apply dk
     ·exact (rfl : _ = (3, 90, 93))
     ·exact rfl
     ·intro hF23; have hF23' := hF23
      try simp only [bs] at hF23'
      refine zz5 hF23 (ad rfl) (zz5 hF23 (aN rfl rfl) (zz0 (aK rfl hF23 rfl) ?_))
      refine ae (aa ?_)
      exact av (Sub.cons rfl (zz8 3 rfl))
     ·intro hT23
      refine zz6 hT23 (zz6 hT23 (zz0 (aL rfl hT23 rfl) ?_))
      refine ae (aa ?_)
      exact av (Sub.cons rfl (zz8 3 rfl))
     refine zz0 (ac rfl) (ae (aa ?_))
     refine ak rfl ?_ ?_ <;> intro h24 <;> try simp only [bs] at h24
     ·refine af (ab (zz0 (ac rfl) (ae (aa (ao (bf (an ?_)))))))
      refine aI iD rfl (fun w' hw => ?_)
      exact ⟨by clear hw; unfold eh; (repeat (first | rw [if_pos (by first | assumption | omega | grind)] | rw [if_neg (by first | assumption | omega | grind)])) <;> rfl, hw.below (Bg.le.refl _)⟩
     ·refine ax (ba (aa (af (ab (zz0 (ac rfl) (ae (aa (ao ?_))))))))
      refine aI iD rfl (fun w' hw => ?_)
      exact ⟨by clear hw; unfold eh; (repeat (first | rw [if_pos (by first | assumption | omega | grind)] | rw [if_neg (by first | assumption | omega | grind)])) <;> rfl, hw.below (Bg.le.refl _)⟩
theorem lH (c : UInt8) (w : World) :
  Calls Tryz.prog 123 #[.int .u8 c.toNat] w (fun e w' => e = .returned (.int .u32 (gu c).toNat) ∧ Ext w w') := by
 refine enter Tryz.func123 rfl Tryz.ntmps123 rfl ?_
 refine af (ab (zz0 (ac rfl) (ae (aa (af (af (ab (zz0 (ad rfl) (zz0 (ma (n := 128) rfl rfl) ?_)))))))))
 refine ae (aa ?_)
 refine ak rfl ?_ ?_ <;> intro h1 <;> try simp only [bs] at h1
 ·refine af (ab (zz0 (ad rfl) (zz0 (fl rfl bw aT) (zz0 (ac rfl) (ae (aa (ao (an ?_))))))))
  refine aI Tryz.results123 rfl (fun w' hw => ?_)
  exact ⟨by clear hw; unfold gu; (repeat (first | rw [if_pos (by first | assumption | omega | grind)] | rw [if_neg (by first | assumption | omega | grind)])) <;> rfl, hw.below (Bg.le.refl _)⟩
 ·refine ax (aa (af (ab (zz0 (ad rfl) (zz0 (fl rfl bw aT) (zz0 (cJ (n := 4294967040) rfl rfl) ?_))))))
  refine zz0 (ac rfl) (ae (aa (ao ?_)))
  refine aI Tryz.results123 rfl (fun w' hw => ?_)
  exact ⟨by clear hw; unfold gu; (repeat (first | rw [if_pos (by first | assumption | omega | grind)] | rw [if_neg (by first | assumption | omega | grind)])) <;> rfl, hw.below (Bg.le.refl _)⟩
theorem kA (l : List UInt8) (V : Value) (w : World) (hV : Sl (hp w) dJ l V) (hl : 4 ≤ l.length) :
  Calls Tryz.prog 124 #[V] w (fun e w' => e = .returned (.int .u32 (fg l 0).toNat) ∧ Ext w w') := by
 have hV' : Sl (Bg.of w).blk dJ l V := hV
 have hlen := hV.len_le
 refine enter Tryz.func124 rfl Tryz.ntmps124 rfl ?_
 refine af (ab (zz0 (ac rfl) (ae (aa (af (jf aU ?_))))))
 refine aJ (ad rfl) (aJ (gK rfl rfl aD bO) ?_)
 refine aJ (gJ rfl cx) ?_
 refine aJ (fl rfl bw aT) (aJ (ad rfl) (aJ (gK rfl rfl aD bO) ?_))
 refine aJ (gJ rfl cx) ?_
 refine aJ (fl rfl bw aT) (aJ (je (m := 256) rfl rfl) ?_)
 refine aJ (cJ rfl rfl) ?_
 refine aJ (ad rfl) (aJ (gK rfl rfl aD bO) ?_)
 refine aJ (gJ rfl cx) ?_
 refine aJ (fl rfl bw aT) (aJ (je (m := 65536) rfl rfl) ?_)
 refine aJ (cJ rfl rfl) ?_
 refine aJ (ad rfl) (aJ (gK rfl rfl aD bO) ?_)
 refine aJ (gJ rfl cx) ?_
 refine aJ (fl rfl bw aT) (aJ (je (m := 16777216) rfl rfl) ?_)
 refine aJ (cJ rfl rfl) ?_
 refine aJ (ac rfl) (cG ?_)
 refine aa (ao ?_)
 refine aI Tryz.results124 rfl (fun w' hw => ?_)
 exact ⟨rfl, hw.below (Bg.le.refl _)⟩
theorem qu (c : Int) (w : World) :
  Calls Tryz.prog 147 #[.int .i64 c] w (fun e w' => e = .returned (.tuple #[.int .i64 (hZ c).1, .int .i64 (hZ c).2]) ∧ Ext w w') := by
 refine enter Tryz.func147 rfl Tryz.ntmps147 rfl ?_
 refine af (ab (zz0 (ac rfl) (zz0 (ac rfl) (ae (aa (af (af (ab (zz0 (ad rfl) (ae (aa (aQ (af ?_)))))))))))))
 refine ab (zz0 (aN rfl rfl) (zz0 (ac rfl) (ae (aa ?_))))
 refine ak rfl ?_ ?_ <;> intro h1 <;> try simp only [bs] at h1
 ·refine af (ab (zz0 (ac rfl) (zz0 (ac rfl) (ae (aa (ao (bf (an ?_))))))))
  refine cy fK rfl rfl (fun w' hw => ?_)
  exact ⟨by clear hw; unfold hZ; (repeat (first | rw [if_pos (by first | assumption | omega | grind)] | rw [if_neg (by first | assumption | omega | grind)])) <;> rfl, hw.below (Bg.le.refl _)⟩
 ·refine af (ab (zz0 (aN rfl rfl) (zz0 (ac rfl) (ae (aa ?_)))))
  refine ak rfl ?_ ?_ <;> intro h2 <;> try simp only [bs] at h2
  ·refine af (ab (zz0 (ac rfl) (zz0 (ac rfl) (ae (aa (ao (bf (an ?_))))))))
   refine cy fK rfl rfl (fun w' hw => ?_)
   exact ⟨by clear hw; unfold hZ; (repeat (first | rw [if_pos (by first | assumption | omega | grind)] | rw [if_neg (by first | assumption | omega | grind)])) <;> rfl, hw.below (Bg.le.refl _)⟩
  ·refine af (ab (zz0 (aN rfl rfl) (zz0 (ac rfl) (ae (aa ?_)))))
   refine ak rfl ?_ ?_ <;> intro h3 <;> try simp only [bs] at h3
   ·refine af (ab (zz0 (ac rfl) (zz0 (ac rfl) (ae (aa (ao (bf (an ?_))))))))
    refine cy fK rfl rfl (fun w' hw => ?_)
    exact ⟨by clear hw; unfold hZ; (repeat (first | rw [if_pos (by first | assumption | omega | grind)] | rw [if_neg (by first | assumption | omega | grind)])) <;> rfl, hw.below (Bg.le.refl _)⟩
   ·refine af (ab (zz0 (aN rfl rfl) (zz0 (ac rfl) (ae (aa ?_)))))
    refine ak rfl ?_ ?_ <;> intro h4 <;> try simp only [bs] at h4
    ·refine af (ab (zz0 (ac rfl) (zz0 (ac rfl) (ae (aa (ao (bf (an ?_))))))))
     refine cy fK rfl rfl (fun w' hw => ?_)
     exact ⟨by clear hw; unfold hZ; (repeat (first | rw [if_pos (by first | assumption | omega | grind)] | rw [if_neg (by first | assumption | omega | grind)])) <;> rfl, hw.below (Bg.le.refl _)⟩
    ·refine af (ab (zz0 (aN rfl rfl) (zz0 (ac rfl) (ae (aa ?_)))))
     refine ak rfl ?_ ?_ <;> intro h5 <;> try simp only [bs] at h5
     ·refine af (ab (zz0 (ac rfl) (zz0 (ac rfl) (ae (aa (ao (bf (an ?_))))))))
      refine cy fK rfl rfl (fun w' hw => ?_)
      exact ⟨by clear hw; unfold hZ; (repeat (first | rw [if_pos (by first | assumption | omega | grind)] | rw [if_neg (by first | assumption | omega | grind)])) <;> rfl, hw.below (Bg.le.refl _)⟩
     ·refine af (ab (zz0 (aN rfl rfl) (zz0 (ac rfl) (ae (aa ?_)))))
      refine ak rfl ?_ ?_ <;> intro h6 <;> try simp only [bs] at h6
      ·refine af (ab (zz0 (ac rfl) (zz0 (ac rfl) (ae (aa (ao (bf (an ?_))))))))
       refine cy fK rfl rfl (fun w' hw => ?_)
       exact ⟨by clear hw; unfold hZ; (repeat (first | rw [if_pos (by first | assumption | omega | grind)] | rw [if_neg (by first | assumption | omega | grind)])) <;> rfl, hw.below (Bg.le.refl _)⟩
      ·refine af (ab (zz0 (aN rfl rfl) (zz0 (ac rfl) (ae (aa ?_)))))
       refine ak rfl ?_ ?_ <;> intro h7 <;> try simp only [bs] at h7
       ·refine af (ab (zz0 (ac rfl) (zz0 (ac rfl) (ae (aa (ao (bf (an ?_))))))))
        refine cy fK rfl rfl (fun w' hw => ?_)
        exact ⟨by clear hw; unfold hZ; (repeat (first | rw [if_pos (by first | assumption | omega | grind)] | rw [if_neg (by first | assumption | omega | grind)])) <;> rfl, hw.below (Bg.le.refl _)⟩
       ·refine ax (ba (aa (af (ab (zz0 (ac rfl) (zz0 (ac rfl) (ae (aa (ao ?_)))))))))
        refine cy fK rfl rfl (fun w' hw => ?_)
        exact ⟨by clear hw; unfold hZ; (repeat (first | rw [if_pos (by first | assumption | omega | grind)] | rw [if_neg (by first | assumption | omega | grind)])) <;> rfl, hw.below (Bg.le.refl _)⟩
theorem rS (c : Int) (b : List UInt8) (V : Value) (addr : UInt32) (sz : Int) (w : World) (hV : Sl (hp w) dJ b V) (hb : (b.length : Int) = eh c) (hc : 0 ≤ c ∧ c ≤ 255) (hz : eh c ≠ 0) (hn : ¬ (32 ≤ c ∧ c ≤ 42 ∨ 48 ≤ c ∧ c ≤ 58 ∨ 64 ≤ c ∧ c ≤ 74)) :
  Calls Tryz.prog 125 #[.int .i64 c, V, .agg (em.enc ⟨addr, 0, 0, 0, 0, 0, 0, 0, sz⟩).toArray] w (fun e w' => e = .returned (.agg (em.enc (dI c b ⟨addr, 0, 0, 0, 0, 0, 0, 0, sz⟩)).toArray) ∧ Ext w w') := by
 have hV' : Sl (Bg.of w).blk dJ b V := hV
 have hlen := hV.len_le
 have hsp := oa (c := c)
 have hsz := qR hz
 refine enter Tryz.func125 rfl Tryz.ntmps125 rfl ?_
 refine af (ab ?_)
 refine cH rfl rfl rfl (fun b1 => ?_)
 refine cZ dq rfl (fun b2 => ?_)
 refine ae (aa (af (ab (zz0 (zz3 (off := 0) (ft := 23) rfl ag rfl ah) ?_))))
 refine zz0 (aM rfl ay) ?_
 refine zz0 (zz3 (off := 8) (ft := 3) rfl ag rfl aj) ?_
 refine zz0 (aM rfl aC) ?_
 refine zz0 (eX rfl aO aT) (zz0 (cJ rfl rfl) ?_)
 refine zz0 (ac rfl) (ae (aa ?_))
 refine eE (ι := Ins) (fun k => k = dI c b ⟨addr, 0, 0, 0, 0, 0, 0, 0, sz⟩) (fun _ => Bg.of w) (fun k => [cellE b1 (em.enc k) 114, cellE b2 (em.enc bW) 114]) (fun k => []) ?_ (fun k hi => ?_)
 ·skip
  refine aQ (af (ab (zz0 (ad rfl) (zz0 (dO rfl rfl) (zz0 (ac rfl) (ae (aa ?_)))))))
  refine ak rfl ?_ ?_ <;> intro h3 <;> try simp only [bs] at h3
  ·refine ab (zz0 (ad rfl) (zz0 (zz3 (off := 2) (ft := 3) rfl ag rfl aj) ?_))
   refine zz1 (cs' := [_, _, _, _, _, _, _, _, _]) rfl rfl aj rfl ?_
   refine ae (ba (aa ?_))
   apply a9 ⟨addr, 0, c, 0, 0, 0, 0, 0, sz⟩
   ·exact rfl
   ·exact Front.nil
   ·exact bR 5 rfl
   ·exact (by repeat' constructor)
   ·exact (by unfold dI iM; (repeat (first | rw [if_pos (by omega)] | rw [if_neg (by omega)])) <;> rfl)
  ·refine af (ab (zz0 (ad rfl) (zz0 (dO rfl rfl) (zz0 (ac rfl) (ae (aa ?_))))))
   refine ak rfl ?_ ?_ <;> intro h4 <;> try simp only [bs] at h4
   ·refine ab (zz0 (ad rfl) (zz0 (ew rfl rfl) ?_))
    refine zz0 (zz3 (off := 2) (ft := 3) rfl ag rfl aj) ?_
    refine zz1 (cs' := [_, _, _, _, _, _, _, _, _]) rfl rfl aj rfl ?_
    refine zz0 (zz3 (off := 6) (ft := 3) rfl ag rfl aj) ?_
    refine zz1 (cs' := [_, _, _, _, _, _, _, _, _]) rfl rfl aj rfl ?_
    refine ae (ba (aa ?_))
    apply a9 ⟨addr, 0, 3, 0, 0, 0, c - 8, 0, sz⟩
    ·exact rfl
    ·exact Front.nil
    ·exact bR 10 rfl
    ·exact (by repeat' constructor)
    ·exact (by unfold dI iM; (repeat (first | rw [if_pos (by omega)] | rw [if_neg (by omega)])) <;> rfl)
   ·refine af (ab (zz0 (ad rfl) (zz0 (dO rfl rfl) (zz0 (ac rfl) (ae (aa ?_))))))
    refine ak rfl ?_ ?_ <;> intro h5 <;> try simp only [bs] at h5
    ·refine ab (zz0 (ad rfl) (zz0 (ew rfl rfl) ?_))
     refine zz0 (zz3 (off := 2) (ft := 3) rfl ag rfl aj) ?_
     refine zz1 (cs' := [_, _, _, _, _, _, _, _, _]) rfl rfl aj rfl ?_
     refine zz0 (zz3 (off := 6) (ft := 3) rfl ag rfl aj) ?_
     refine zz1 (cs' := [_, _, _, _, _, _, _, _, _]) rfl rfl aj rfl ?_
     refine ae (ba (aa ?_))
     apply a9 ⟨addr, 0, 4, 0, 0, 0, c - 16, 0, sz⟩
     ·exact rfl
     ·exact Front.nil
     ·exact bR 13 rfl
     ·exact (by repeat' constructor)
     ·exact (by unfold dI iM; (repeat (first | rw [if_pos (by omega)] | rw [if_neg (by omega)])) <;> rfl)
    ·refine af (ab (zz0 (ad rfl) (zz0 (dO rfl rfl) (zz0 (ac rfl) (ae (aa ?_))))))
     refine ak rfl ?_ ?_ <;> intro h6 <;> try simp only [bs] at h6
     ·refine af (ab (zz0 (ad rfl) (zz0 (aF rfl Tryz.call147 (fun w hw => qu c w)) ?_)))
      refine zz0 (ad rfl) (zz0 (az rfl rfl) (zz0 (az rfl rfl) (zz0 (zz3 (off := 2) (ft := 3) rfl ag rfl aj) ?_)))
      refine zz1 (cs' := [_, _, _, _, _, _, _, _, _]) rfl rfl aj rfl ?_
      refine zz0 (zz3 (off := 4) (ft := 3) rfl ag rfl aj) ?_
      refine zz1 (cs' := [_, _, _, _, _, _, _, _, _]) rfl rfl aj rfl ?_
      refine ae (aa (bH ([cellE b2 (em.enc bW) 114]) 20 rfl aU ?_))
      refine zz2 0 rfl (ad rfl) ?_
      refine zz2 1 rfl (gK rfl rfl aD bO) ?_
      refine zz2 2 rfl (gJ rfl cx) ?_
      refine eU 3 rfl (by kernel_rfl) (dE (aX bL)) (sr (n := 16) rfl rfl (by first | decide | assumption)) ?_
      refine zz2 4 rfl (df rfl bw aO) ?_
      refine zz2 5 rfl (ad rfl) ?_
      refine zz2 6 rfl (gK rfl rfl aD bO) ?_
      refine zz2 7 rfl (gJ rfl cx) ?_
      refine eU 8 rfl (by kernel_rfl) (dE (aX bL)) (sq (n := 16) rfl rfl (by first | decide | assumption)) ?_
      refine zz2 9 rfl (df rfl bw aO) ?_
      refine zz2 10 rfl (ad rfl) ?_
      refine zz2 11 rfl (gK rfl rfl aD bO) ?_
      refine zz2 12 rfl (gJ rfl cx) ?_
      refine zz2 14 rfl (zz3 (off := 6) (ft := 3) rfl ag rfl aj) ?_
      refine bX [13] (fun iq hq => ?_)
      obtain rfl := List.mem_singleton.1 hq
      refine aV rfl ?_
      refine zz0 (aF rfl l5 (fun w hw => lH (b.getD 2 default) w)) ?_
      refine bB ?_
      refine bX [15] (fun iq hq => ?_)
      obtain rfl := List.mem_singleton.1 hq
      refine aV rfl ?_
      refine zz1 (cs' := [_, _, _, _, _, _, _, _, _]) rfl rfl aj rfl ?_
      refine bB ?_
      refine zz2 16 rfl (zz3 (off := 7) (ft := 3) rfl ag rfl aj) ?_
      refine bX [17] (fun iq hq => ?_)
      obtain rfl := List.mem_singleton.1 hq
      refine aV rfl ?_
      refine zz1 (cs' := [_, _, _, _, _, _, _, _, _]) rfl rfl aj rfl ?_
      refine bB ?_
      refine zz2 18 rfl (zz3 (off := 1) (ft := 23) rfl ag rfl ah) ?_
      refine bX [19] (fun iq hq => ?_)
      obtain rfl := List.mem_singleton.1 hq
      refine aV rfl ?_
      refine zz1 (cs' := [_, _, _, _, _, _, _, _, _]) rfl rfl ah rfl ?_
      refine bB ?_
      refine dZ ?_
      refine ba (aa ?_)
      apply a9 ⟨addr, gu (b.getD 2 default), (hZ c).1, 0, (hZ c).2, 0, ((b.getD 1 default) / 16).toNat, ((b.getD 1 default) % 16).toNat, sz⟩
      ·exact rfl
      ·exact Front.nil
      ·exact bR 36 rfl
      ·exact (by repeat' constructor)
      ·exact (by unfold dI iM; (repeat (first | rw [if_pos (by omega)] | rw [if_neg (by omega)])) <;> rfl)
     ·refine af (ab (zz0 (ad rfl) (zz0 (aN rfl rfl) (zz0 (ac rfl) (ae (aa ?_))))))
      refine ak rfl ?_ ?_ <;> intro h7 <;> try simp only [bs] at h7
      ·refine bH ([cellE b2 (em.enc bW) 114]) 22 rfl aU ?_
       refine zz2 0 rfl (ad rfl) ?_
       refine zz2 1 rfl (gK rfl rfl aD bO) ?_
       refine zz2 2 rfl (gJ rfl cx) ?_
       refine eU 3 rfl (by kernel_rfl) (dE (aX bL)) (sr (n := 16) rfl rfl (by first | decide | assumption)) ?_
       refine zz2 4 rfl (df rfl bw aO) ?_
       refine zz2 5 rfl (ad rfl) ?_
       refine zz2 6 rfl (gK rfl rfl aD bO) ?_
       refine zz2 7 rfl (gJ rfl cx) ?_
       refine eU 8 rfl (by kernel_rfl) (dE (aX bL)) (sq (n := 16) rfl rfl (by first | decide | assumption)) ?_
       refine zz2 9 rfl (df rfl bw aO) ?_
       refine zz2 10 rfl (ad rfl) ?_
       refine zz2 11 rfl (gK rfl rfl aD bO) ?_
       refine zz2 12 rfl (gJ rfl cx) ?_
       refine zz2 14 rfl (zz3 (off := 2) (ft := 3) rfl ag rfl aj) ?_
       refine bX [13] (fun iq hq => ?_)
       obtain rfl := List.mem_singleton.1 hq
       refine aV rfl ?_
       refine zz0 (aF rfl l5 (fun w hw => lH (b.getD 2 default) w)) ?_
       refine bB ?_
       refine bX [15] (fun iq hq => ?_)
       obtain rfl := List.mem_singleton.1 hq
       refine aV rfl ?_
       refine zz1 (cs' := [_, _, _, _, _, _, _, _, _]) rfl rfl aj rfl ?_
       refine bB ?_
       refine zz2 16 rfl (zz3 (off := 6) (ft := 3) rfl ag rfl aj) ?_
       refine bX [17] (fun iq hq => ?_)
       obtain rfl := List.mem_singleton.1 hq
       refine aV rfl ?_
       refine zz1 (cs' := [_, _, _, _, _, _, _, _, _]) rfl rfl aj rfl ?_
       refine bB ?_
       refine zz2 18 rfl (zz3 (off := 7) (ft := 3) rfl ag rfl aj) ?_
       refine bX [19] (fun iq hq => ?_)
       obtain rfl := List.mem_singleton.1 hq
       refine aV rfl ?_
       refine zz1 (cs' := [_, _, _, _, _, _, _, _, _]) rfl rfl aj rfl ?_
       refine bB ?_
       refine zz2 20 rfl (zz3 (off := 1) (ft := 23) rfl ag rfl ah) ?_
       refine bX [21] (fun iq hq => ?_)
       obtain rfl := List.mem_singleton.1 hq
       refine aV rfl ?_
       refine zz1 (cs' := [_, _, _, _, _, _, _, _, _]) rfl rfl ah rfl ?_
       refine bB ?_
       refine dZ ?_
       refine ba (aa ?_)
       apply a9 ⟨addr, gu (b.getD 2 default), 19, 0, 0, 0, ((b.getD 1 default) / 16).toNat, ((b.getD 1 default) % 16).toNat, sz⟩
       ·exact rfl
       ·exact Front.nil
       ·exact bR 33 rfl
       ·exact (by repeat' constructor)
       ·exact (by unfold dI iM; (repeat (first | rw [if_pos (by omega)] | rw [if_neg (by omega)])) <;> rfl)
      ·refine af (ab (zz0 (ad rfl) (zz0 (dO rfl rfl) (zz0 (ac rfl) (ae (aa ?_))))))
       refine ak rfl ?_ ?_ <;> intro h8 <;> try simp only [bs] at h8
       ·refine ab (zz0 (ad rfl) (zz0 (ew rfl rfl) ?_))
        refine zz0 (ad rfl) (zz0 (ad rfl) (zz0 (gK rfl rfl aD bO) ?_))
        refine zz0 (gJ rfl cx) ?_
        refine zz0 (aF rfl l5 (fun w hw => lH (b.getD 1 default) w)) ?_
        refine zz0 (cJ rfl rfl) ?_
        refine zz0 (zz3 (off := 2) (ft := 3) rfl ag rfl aj) ?_
        refine zz1 (cs' := [_, _, _, _, _, _, _, _, _]) rfl rfl aj rfl ?_
        refine zz0 (zz3 (off := 3) (ft := 3) rfl ag rfl aj) ?_
        refine zz1 (cs' := [_, _, _, _, _, _, _, _, _]) rfl rfl aj rfl ?_
        refine zz0 (zz3 (off := 5) (ft := 3) rfl ag rfl aj) ?_
        refine zz1 (cs' := [_, _, _, _, _, _, _, _, _]) rfl rfl aj rfl ?_
        refine zz0 (zz3 (off := 1) (ft := 23) rfl ag rfl ah) ?_
        refine zz1 (cs' := [_, _, _, _, _, _, _, _, _]) rfl rfl ah rfl ?_
        refine ae (ba (aa ?_))
        apply a9 ⟨addr, (addr + u32 sz) + gu (b.getD 1 default), 20, 1, 0, c - 96, 0, 0, sz⟩
        ·exact rfl
        ·exact Front.nil
        ·exact bR 30 rfl
        ·exact (by repeat' constructor)
        ·exact (by unfold dI iM; (repeat (first | rw [if_pos (by omega)] | rw [if_neg (by omega)])) <;> rfl)
       ·refine af (ab (zz0 (ad rfl) (zz0 (dO rfl rfl) (zz0 (ac rfl) (ae (aa ?_))))))
        refine ak rfl ?_ ?_ <;> intro h9 <;> try simp only [bs] at h9
        ·refine ab (zz0 (ad rfl) (zz0 (ew rfl rfl) ?_))
         refine zz0 (ad rfl) (zz0 (ad rfl) (zz0 (qk (lv := some (_, _)) (hv := none) rfl rfl rfl aD bO) ?_))
         refine zz0 (aF rfl l4 (fun w hw => kA ((b.take (b.length : Int).toNat).drop (1 : Int).toNat) _ w (hw.slF (Sl.resl hV' (by omega) (by omega))) (by simp; omega))) ?_
         refine zz0 (cJ rfl rfl) ?_
         refine zz0 (zz3 (off := 2) (ft := 3) rfl ag rfl aj) ?_
         refine zz1 (cs' := [_, _, _, _, _, _, _, _, _]) rfl rfl aj rfl ?_
         refine zz0 (zz3 (off := 3) (ft := 3) rfl ag rfl aj) ?_
         refine zz1 (cs' := [_, _, _, _, _, _, _, _, _]) rfl rfl aj rfl ?_
         refine zz0 (zz3 (off := 5) (ft := 3) rfl ag rfl aj) ?_
         refine zz1 (cs' := [_, _, _, _, _, _, _, _, _]) rfl rfl aj rfl ?_
         refine zz0 (zz3 (off := 1) (ft := 23) rfl ag rfl ah) ?_
         refine zz1 (cs' := [_, _, _, _, _, _, _, _, _]) rfl rfl ah rfl ?_
         refine ae (ba (aa ?_))
         rw [show fg ((b.take (b.length : Int).toNat).drop (1 : Int).toNat) 0 = fg b 1 from mC (k := 1) (by omega)]
         apply a9 ⟨addr, (addr + u32 sz) + fg b 1, 20, 2, 0, c - 112, 0, 0, sz⟩
         ·exact rfl
         ·exact Front.nil
         ·exact bR 32 rfl
         ·exact (by repeat' constructor)
         ·exact (by unfold dI iM; (repeat (first | rw [if_pos (by omega)] | rw [if_neg (by omega)])) <;> rfl)
        ·refine af (ab (zz0 (ad rfl) (zz0 (aN rfl rfl) (zz0 (ac rfl) (ae (aa ?_))))))
         refine ak rfl ?_ ?_ <;> intro h10 <;> try simp only [bs] at h10
         ·refine ab (zz0 (ad rfl) (zz0 (ad rfl) (zz0 (qk (lv := some (_, _)) (hv := none) rfl rfl rfl aD bO) ?_)))
          refine zz0 (aF rfl l4 (fun w hw => kA ((b.take (b.length : Int).toNat).drop (1 : Int).toNat) _ w (hw.slF (Sl.resl hV' (by omega) (by omega))) (by simp; omega))) ?_
          refine zz0 (cJ rfl rfl) ?_
          refine zz0 (zz3 (off := 2) (ft := 3) rfl ag rfl aj) ?_
          refine zz1 (cs' := [_, _, _, _, _, _, _, _, _]) rfl rfl aj rfl ?_
          refine zz0 (zz3 (off := 1) (ft := 23) rfl ag rfl ah) ?_
          refine zz1 (cs' := [_, _, _, _, _, _, _, _, _]) rfl rfl ah rfl ?_
          refine ae (ba (aa ?_))
          rw [show fg ((b.take (b.length : Int).toNat).drop (1 : Int).toNat) 0 = fg b 1 from mC (k := 1) (by omega)]
          apply a9 ⟨addr, (addr + u32 sz) + fg b 1, 23, 0, 0, 0, 0, 0, sz⟩
          ·exact rfl
          ·exact Front.nil
          ·exact bR 31 rfl
          ·exact (by repeat' constructor)
          ·exact (by unfold dI iM; (repeat (first | rw [if_pos (by omega)] | rw [if_neg (by omega)])) <;> rfl)
         ·refine af (ab (zz0 (ad rfl) (zz0 (aN rfl rfl) (zz0 (ac rfl) (ae (aa ?_))))))
          refine ak rfl ?_ ?_ <;> intro h11 <;> try simp only [bs] at h11
          ·refine bH ([cellE b2 (em.enc bW) 114]) 8 rfl aU ?_
           refine zz2 0 rfl (ad rfl) ?_
           refine zz2 1 rfl (gK rfl rfl aD bO) ?_
           refine zz2 2 rfl (gJ rfl cx) ?_
           refine zz2 3 rfl (df rfl bw aO) ?_
           refine zz2 4 rfl (zz3 (off := 2) (ft := 3) rfl ag rfl aj) ?_
           refine bX [5] (fun iq hq => ?_)
           obtain rfl := List.mem_singleton.1 hq
           refine aV rfl ?_
           refine zz1 (cs' := [_, _, _, _, _, _, _, _, _]) rfl rfl aj rfl ?_
           refine bB ?_
           refine zz2 6 rfl (zz3 (off := 6) (ft := 3) rfl ag rfl aj) ?_
           refine bX [7] (fun iq hq => ?_)
           obtain rfl := List.mem_singleton.1 hq
           refine aV rfl ?_
           refine zz1 (cs' := [_, _, _, _, _, _, _, _, _]) rfl rfl aj rfl ?_
           refine bB ?_
           refine dZ ?_
           refine ba (aa ?_)
           apply a9 ⟨addr, 0, 24, 0, 0, 0, (b.getD 1 default).toNat, 0, sz⟩
           ·exact rfl
           ·exact Front.nil
           ·exact bR 33 rfl
           ·exact (by repeat' constructor)
           ·exact (by unfold dI iM; (repeat (first | rw [if_pos (by omega)] | rw [if_neg (by omega)])) <;> rfl)
          ·refine af (ab (zz0 (ad rfl) (zz0 (aN rfl rfl) (zz0 (ac rfl) (ae (aa ?_))))))
           refine ak rfl ?_ ?_ <;> intro h12 <;> try simp only [bs] at h12
           ·refine bH ([cellE b2 (em.enc bW) 114]) 8 rfl aU ?_
            refine zz2 0 rfl (ad rfl) ?_
            refine zz2 1 rfl (gK rfl rfl aD bO) ?_
            refine zz2 2 rfl (gJ rfl cx) ?_
            refine zz2 3 rfl (df rfl bw aO) ?_
            refine zz2 4 rfl (zz3 (off := 2) (ft := 3) rfl ag rfl aj) ?_
            refine bX [5] (fun iq hq => ?_)
            obtain rfl := List.mem_singleton.1 hq
            refine aV rfl ?_
            refine zz1 (cs' := [_, _, _, _, _, _, _, _, _]) rfl rfl aj rfl ?_
            refine bB ?_
            refine zz2 6 rfl (zz3 (off := 6) (ft := 3) rfl ag rfl aj) ?_
            refine bX [7] (fun iq hq => ?_)
            obtain rfl := List.mem_singleton.1 hq
            refine aV rfl ?_
            refine zz1 (cs' := [_, _, _, _, _, _, _, _, _]) rfl rfl aj rfl ?_
            refine bB ?_
            refine dZ ?_
            refine ba (aa ?_)
            apply a9 ⟨addr, 0, 21, 0, 0, 0, (b.getD 1 default).toNat, 0, sz⟩
            ·exact rfl
            ·exact Front.nil
            ·exact bR 36 rfl
            ·exact (by repeat' constructor)
            ·exact (by unfold dI iM; (repeat (first | rw [if_pos (by omega)] | rw [if_neg (by omega)])) <;> rfl)
           ·refine af (ab (zz0 (ad rfl) (zz0 (aN rfl rfl) (zz0 (ac rfl) (ae (aa ?_))))))
            refine ak rfl ?_ ?_ <;> intro h13 <;> try simp only [bs] at h13
            ·refine bH ([cellE b2 (em.enc bW) 114]) 13 rfl aU ?_
             refine zz2 0 rfl (ad rfl) ?_
             refine zz2 1 rfl (gK rfl rfl aD bO) ?_
             refine zz2 2 rfl (gJ rfl cx) ?_
             refine zz2 3 rfl (df rfl bw aO) ?_
             refine zz2 4 rfl (ad rfl) ?_
             refine zz2 5 rfl (qk (lv := some (_, _)) (hv := none) rfl rfl rfl aD bO) ?_
             refine zz2 7 rfl (zz3 (off := 2) (ft := 3) rfl ag rfl aj) ?_
             refine bX [6] (fun iq hq => ?_)
             obtain rfl := List.mem_singleton.1 hq
             refine aV rfl ?_
             refine zz0 (aF rfl l4 (fun w hw => kA ((b.take (b.length : Int).toNat).drop (2 : Int).toNat) _ w (hw.slF (Sl.resl hV' (by omega) (by omega))) (by simp; omega))) ?_
             refine bB ?_
             refine bX [8] (fun iq hq => ?_)
             obtain rfl := List.mem_singleton.1 hq
             refine aV rfl ?_
             refine zz1 (cs' := [_, _, _, _, _, _, _, _, _]) rfl rfl aj rfl ?_
             refine bB ?_
             refine zz2 9 rfl (zz3 (off := 6) (ft := 3) rfl ag rfl aj) ?_
             refine bX [10] (fun iq hq => ?_)
             obtain rfl := List.mem_singleton.1 hq
             refine aV rfl ?_
             refine zz1 (cs' := [_, _, _, _, _, _, _, _, _]) rfl rfl aj rfl ?_
             refine bB ?_
             refine zz2 11 rfl (zz3 (off := 1) (ft := 23) rfl ag rfl ah) ?_
             refine bX [12] (fun iq hq => ?_)
             obtain rfl := List.mem_singleton.1 hq
             refine aV rfl ?_
             refine zz1 (cs' := [_, _, _, _, _, _, _, _, _]) rfl rfl ah rfl ?_
             refine bB ?_
             refine dZ ?_
             refine ba (aa ?_)
             rw [show fg ((b.take (b.length : Int).toNat).drop (2 : Int).toNat) 0 = fg b 2 from mC (k := 2) (by omega)]
             apply a9 ⟨addr, fg b 2, 22, 0, 0, 0, (b.getD 1 default).toNat, 0, sz⟩
             ·exact rfl
             ·exact Front.nil
             ·exact bR 43 rfl
             ·exact (by repeat' constructor)
             ·exact (by unfold dI iM; (repeat (first | rw [if_pos (by omega)] | rw [if_neg (by omega)])) <;> rfl)
            ·refine af (ab (zz0 (ad rfl) (zz0 (dO rfl rfl) (zz0 (ac rfl) (ae (aa ?_))))))
             refine ak rfl ?_ ?_ <;> intro h14 <;> try simp only [bs] at h14
             ·refine bH ([cellE b2 (em.enc bW) 114]) 12 rfl aU ?_
              refine zz2 0 rfl (ad rfl) ?_
              refine zz2 1 rfl (ew rfl rfl) ?_
              refine zz2 2 rfl (ad rfl) ?_
              refine zz2 3 rfl (gK rfl rfl aD bO) ?_
              refine zz2 4 rfl (gJ rfl cx) ?_
              refine zz2 5 rfl (df rfl bw aO) ?_
              refine zz2 6 rfl (zz3 (off := 2) (ft := 3) rfl ag rfl aj) ?_
              refine bX [7] (fun iq hq => ?_)
              obtain rfl := List.mem_singleton.1 hq
              refine aV rfl ?_
              refine zz1 (cs' := [_, _, _, _, _, _, _, _, _]) rfl rfl aj rfl ?_
              refine bB ?_
              refine zz2 8 rfl (zz3 (off := 5) (ft := 3) rfl ag rfl aj) ?_
              refine bX [9] (fun iq hq => ?_)
              obtain rfl := List.mem_singleton.1 hq
              refine aV rfl ?_
              refine zz1 (cs' := [_, _, _, _, _, _, _, _, _]) rfl rfl aj rfl ?_
              refine bB ?_
              refine zz2 10 rfl (zz3 (off := 6) (ft := 3) rfl ag rfl aj) ?_
              refine bX [11] (fun iq hq => ?_)
              obtain rfl := List.mem_singleton.1 hq
              refine aV rfl ?_
              refine zz1 (cs' := [_, _, _, _, _, _, _, _, _]) rfl rfl aj rfl ?_
              refine bB ?_
              refine dZ ?_
              refine ba (aa ?_)
              apply a9 ⟨addr, 0, 25, 0, 0, c - 144, (b.getD 1 default).toNat, 0, sz⟩
              ·exact rfl
              ·exact Front.nil
              ·exact bR 45 rfl
              ·exact (by repeat' constructor)
              ·exact (by unfold dI iM; (repeat (first | rw [if_pos (by omega)] | rw [if_neg (by omega)])) <;> rfl)
             ·refine af (ab (zz0 (ad rfl) (zz0 (aN rfl rfl) (zz0 (ac rfl) (ae (aa ?_))))))
              refine ak rfl ?_ ?_ <;> intro h15 <;> try simp only [bs] at h15
              ·refine bH ([cellE b2 (em.enc bW) 114]) 8 rfl aU ?_
               refine zz2 0 rfl (ad rfl) ?_
               refine zz2 1 rfl (gK rfl rfl aD bO) ?_
               refine zz2 2 rfl (gJ rfl cx) ?_
               refine zz2 3 rfl (df rfl bw aO) ?_
               refine zz2 4 rfl (zz3 (off := 2) (ft := 3) rfl ag rfl aj) ?_
               refine bX [5] (fun iq hq => ?_)
               obtain rfl := List.mem_singleton.1 hq
               refine aV rfl ?_
               refine zz1 (cs' := [_, _, _, _, _, _, _, _, _]) rfl rfl aj rfl ?_
               refine bB ?_
               refine zz2 6 rfl (zz3 (off := 6) (ft := 3) rfl ag rfl aj) ?_
               refine bX [7] (fun iq hq => ?_)
               obtain rfl := List.mem_singleton.1 hq
               refine aV rfl ?_
               refine zz1 (cs' := [_, _, _, _, _, _, _, _, _]) rfl rfl aj rfl ?_
               refine bB ?_
               refine dZ ?_
               refine ba (aa ?_)
               apply a9 ⟨addr, 0, 26, 0, 0, 0, (b.getD 1 default).toNat, 0, sz⟩
               ·exact rfl
               ·exact Front.nil
               ·exact bR 45 rfl
               ·exact (by repeat' constructor)
               ·exact (by unfold dI iM; (repeat (first | rw [if_pos (by omega)] | rw [if_neg (by omega)])) <;> rfl)
              ·refine bH ([cellE b2 (em.enc bW) 114]) 8 rfl aU ?_
               refine zz2 0 rfl (ad rfl) ?_
               refine zz2 1 rfl (gK rfl rfl aD bO) ?_
               refine zz2 2 rfl (gJ rfl cx) ?_
               refine zz2 3 rfl (df rfl bw aO) ?_
               refine zz2 4 rfl (zz3 (off := 2) (ft := 3) rfl ag rfl aj) ?_
               refine bX [5] (fun iq hq => ?_)
               obtain rfl := List.mem_singleton.1 hq
               refine aV rfl ?_
               refine zz1 (cs' := [_, _, _, _, _, _, _, _, _]) rfl rfl aj rfl ?_
               refine bB ?_
               refine zz2 6 rfl (zz3 (off := 6) (ft := 3) rfl ag rfl aj) ?_
               refine bX [7] (fun iq hq => ?_)
               obtain rfl := List.mem_singleton.1 hq
               refine aV rfl ?_
               refine zz1 (cs' := [_, _, _, _, _, _, _, _, _]) rfl rfl aj rfl ?_
               refine bB ?_
               refine dZ ?_
               refine ba (aa ?_)
               apply a9 ⟨addr, 0, 27, 0, 0, 0, (b.getD 1 default).toNat, 0, sz⟩
               ·exact rfl
               ·exact Front.nil
               ·exact bR 45 rfl
               ·exact (by repeat' constructor)
               ·exact (by unfold dI iM; (repeat (first | rw [if_pos (by omega)] | rw [if_neg (by omega)])) <;> rfl)
 ·skip
  replace hi : k = dI c b ⟨addr, 0, 0, 0, 0, 0, 0, 0, sz⟩ := hi
  change Tr _ _ [cellE b1 (em.enc k) 114, cellE b2 (em.enc bW) 114] ([] ++ _) _
  refine af (ab (zz0 (bK rfl bo aH) ?_))
  refine bA em rfl rfl aH ?_
  refine ae (aa (ao ?_))
  refine fE Tryz.results125 rfl (by repeat constructor) bo aH (by rfl) (fun w' hw => ?_)
  exact ⟨by rw [hi]; rfl, hw.below (Bg.le.refl _)⟩
theorem uT (b : List UInt8) (V : Value) (addr : UInt32) (sz : Int) (w : World) (hV : Sl (hp w) dJ b V) (hb : (b.length : Int) = eh (b.getD 0 default).toNat) (hz : eh (b.getD 0 default).toNat ≠ 0) :
  Calls Tryz.prog 92 #[V, .agg (em.enc ⟨addr, 0, 0, 0, 0, 0, 0, 0, sz⟩).toArray] w (fun e w' => e = .returned (.agg (em.enc (dI (b.getD 0 default).toNat b ⟨addr, 0, 0, 0, 0, 0, 0, 0, sz⟩)).toArray) ∧ Ext w w') := by
 have hV' : Sl (Bg.of w).blk dJ b V := hV
 have hlen := hV.len_le
 have hsp := oa (c := ((b.getD 0 default).toNat : Nat))
 have hsz := qR hz
 have hc0 := (b.getD 0 default).toNat_lt
 generalize hcc : (((b.getD 0 default).toNat : Nat) : Int) = c at *
 refine enter Tryz.func92 rfl Tryz.ntmps92 rfl ?_
 refine af (ab ?_)
 refine cH rfl rfl rfl (fun b1 => ?_)
 refine cZ dq rfl (fun b2 => ?_)
 refine ae (aa (af (ab (zz0 (ad rfl) (zz0 (gK rfl rfl aD bO) ?_)))))
 refine zz0 (gJ rfl cx) ?_
 refine zz0 (df rfl bw aO) ?_
 rw [show Int.toNat 0 = 0 from rfl, hcc]
 refine zz0 (ac rfl) (ae (aa ?_))
 refine eE (ι := Ins) (fun k => k = dI c b ⟨addr, 0, 0, 0, 0, 0, 0, 0, sz⟩) (fun _ => Bg.of w) (fun k => [cellE b1 (em.enc k) 114, cellE b2 (em.enc bW) 114]) (fun k => []) ?_ (fun k hi => ?_)
 ·skip
  refine aQ (af (ab (zz0 (ad rfl) (zz0 (dh rfl rfl) (zz0 (ad rfl) ?_)))))
  apply bJ
  ·exact (rfl : _ = (3, 17, 20))
  ·exact rfl
  ·intro hT3; have hT3' := hT3
   try simp only [bs] at hT3'
   refine zz5 hT3 (ad rfl) (zz5 hT3 (dO rfl rfl) (zz0 (aL rfl hT3 rfl) ?_))
   refine ae (aa ?_)
   exact av (Sub.cons rfl (zz8 3 rfl))
  ·intro hF3
   refine zz6 hF3 (zz6 hF3 (zz0 (aK rfl hF3 rfl) ?_))
   refine ae (aa ?_)
   exact av (Sub.cons rfl (zz8 3 rfl))
  refine zz0 (ac rfl) (ae (aa ?_))
  refine ak rfl ?_ ?_ <;> intro h4 <;> try simp only [bs] at h4
  ·refine bH ([cellE b2 (em.enc bW) 114]) 21 rfl aU ?_
   refine zz2 0 rfl (ad rfl) ?_
   refine zz2 1 rfl (dy rfl rfl) ?_
   refine zz2 2 rfl (ew rfl rfl) ?_
   refine zz2 3 rfl (ad rfl) ?_
   refine zz2 4 rfl (gK rfl rfl aD bO) ?_
   refine zz2 5 rfl (gJ rfl cx) ?_
   refine eU 6 rfl (by kernel_rfl) (dE (aX bL)) (sr (n := 16) rfl rfl (by first | decide | assumption)) ?_
   refine zz2 7 rfl (df rfl bw aO) ?_
   refine zz2 8 rfl (ad rfl) ?_
   refine zz2 9 rfl (gK rfl rfl aD bO) ?_
   refine zz2 10 rfl (gJ rfl cx) ?_
   refine eU 11 rfl (by kernel_rfl) (dE (aX bL)) (sq (n := 16) rfl rfl (by first | decide | assumption)) ?_
   refine zz2 12 rfl (df rfl bw aO) ?_
   refine zz2 13 rfl (zz3 (off := 2) (ft := 3) rfl ag rfl aj) ?_
   refine bX [14] (fun iq hq => ?_)
   obtain rfl := List.mem_singleton.1 hq
   refine aV rfl ?_
   refine zz1 (cs' := [_, _, _, _, _, _, _, _, _]) rfl rfl aj rfl ?_
   refine bB ?_
   refine zz2 15 rfl (zz3 (off := 3) (ft := 3) rfl ag rfl aj) ?_
   refine bX [16] (fun iq hq => ?_)
   obtain rfl := List.mem_singleton.1 hq
   refine aV rfl ?_
   refine zz1 (cs' := [_, _, _, _, _, _, _, _, _]) rfl rfl aj rfl ?_
   refine bB ?_
   refine zz2 17 rfl (zz3 (off := 6) (ft := 3) rfl ag rfl aj) ?_
   refine bX [18] (fun iq hq => ?_)
   obtain rfl := List.mem_singleton.1 hq
   refine aV rfl ?_
   refine zz1 (cs' := [_, _, _, _, _, _, _, _, _]) rfl rfl aj rfl ?_
   refine bB ?_
   refine zz2 19 rfl (zz3 (off := 7) (ft := 3) rfl ag rfl aj) ?_
   refine bX [20] (fun iq hq => ?_)
   obtain rfl := List.mem_singleton.1 hq
   refine aV rfl ?_
   refine zz1 (cs' := [_, _, _, _, _, _, _, _, _]) rfl rfl aj rfl ?_
   refine bB ?_
   refine dZ ?_
   refine ba (aa ?_)
   apply a9 ⟨addr, 0, 5 + c - 32, 0, 0, 0, ((b.getD 1 default) / 16).toNat, ((b.getD 1 default) % 16).toNat, sz⟩
   ·exact rfl
   ·exact Front.nil
   ·exact bR 22 rfl
   ·exact (by repeat' constructor)
   ·exact (by unfold dI iM; (repeat (first | rw [if_pos (by omega)] | rw [if_neg (by omega)])) <;> rfl)
  ·refine af (ab (zz0 (ad rfl) (zz0 (dh rfl rfl) (zz0 (ad rfl) ?_))))
   apply bJ
   ·exact (rfl : _ = (3, 41, 44))
   ·exact rfl
   ·intro hT5; have hT5' := hT5
    try simp only [bs] at hT5'
    refine zz5 hT5 (ad rfl) (zz5 hT5 (dO rfl rfl) (zz0 (aL rfl hT5 rfl) ?_))
    refine ae (aa ?_)
    exact av (Sub.cons rfl (zz8 3 rfl))
   ·intro hF5
    refine zz6 hF5 (zz6 hF5 (zz0 (aK rfl hF5 rfl) ?_))
    refine ae (aa ?_)
    exact av (Sub.cons rfl (zz8 3 rfl))
   refine zz0 (ac rfl) (ae (aa ?_))
   refine ak rfl ?_ ?_ <;> intro h6 <;> try simp only [bs] at h6
   ·refine bH ([cellE b2 (em.enc bW) 114]) 19 rfl aU ?_
    refine zz2 0 rfl (ad rfl) ?_
    refine zz2 1 rfl (dy rfl rfl) ?_
    refine zz2 2 rfl (ew rfl rfl) ?_
    refine zz2 3 rfl (ad rfl) ?_
    refine zz2 4 rfl (gK rfl rfl aD bO) ?_
    refine zz2 5 rfl (gJ rfl cx) ?_
    refine zz2 6 rfl (df rfl bw aO) ?_
    refine zz2 7 rfl (ad rfl) ?_
    refine zz2 8 rfl (gK rfl rfl aD bO) ?_
    refine zz2 9 rfl (gJ rfl cx) ?_
    refine zz2 11 rfl (zz3 (off := 2) (ft := 3) rfl ag rfl aj) ?_
    refine bX [10] (fun iq hq => ?_)
    obtain rfl := List.mem_singleton.1 hq
    refine aV rfl ?_
    refine zz0 (aF rfl l5 (fun w hw => lH (b.getD 2 default) w)) ?_
    refine bB ?_
    refine bX [12] (fun iq hq => ?_)
    obtain rfl := List.mem_singleton.1 hq
    refine aV rfl ?_
    refine zz1 (cs' := [_, _, _, _, _, _, _, _, _]) rfl rfl aj rfl ?_
    refine bB ?_
    refine zz2 13 rfl (zz3 (off := 3) (ft := 3) rfl ag rfl aj) ?_
    refine bX [14] (fun iq hq => ?_)
    obtain rfl := List.mem_singleton.1 hq
    refine aV rfl ?_
    refine zz1 (cs' := [_, _, _, _, _, _, _, _, _]) rfl rfl aj rfl ?_
    refine bB ?_
    refine zz2 15 rfl (zz3 (off := 6) (ft := 3) rfl ag rfl aj) ?_
    refine bX [16] (fun iq hq => ?_)
    obtain rfl := List.mem_singleton.1 hq
    refine aV rfl ?_
    refine zz1 (cs' := [_, _, _, _, _, _, _, _, _]) rfl rfl aj rfl ?_
    refine bB ?_
    refine zz2 17 rfl (zz3 (off := 1) (ft := 23) rfl ag rfl ah) ?_
    refine bX [18] (fun iq hq => ?_)
    obtain rfl := List.mem_singleton.1 hq
    refine aV rfl ?_
    refine zz1 (cs' := [_, _, _, _, _, _, _, _, _]) rfl rfl ah rfl ?_
    refine bB ?_
    refine dZ ?_
    refine ba (aa ?_)
    apply a9 ⟨addr, gu (b.getD 2 default), 5 + c - 48, 1, 0, 0, (b.getD 1 default).toNat, 0, sz⟩
    ·exact rfl
    ·exact Front.nil
    ·exact bR 25 rfl
    ·exact (by repeat' constructor)
    ·exact (by unfold dI iM; (repeat (first | rw [if_pos (by omega)] | rw [if_neg (by omega)])) <;> rfl)
   ·refine af (ab (zz0 (ad rfl) (zz0 (dh rfl rfl) (zz0 (ad rfl) ?_))))
    apply bJ
    ·exact (rfl : _ = (3, 63, 66))
    ·exact rfl
    ·intro hT7; have hT7' := hT7
     try simp only [bs] at hT7'
     refine zz5 hT7 (ad rfl) (zz5 hT7 (dO rfl rfl) (zz0 (aL rfl hT7 rfl) ?_))
     refine ae (aa ?_)
     exact av (Sub.cons rfl (zz8 3 rfl))
    ·intro hF7
     refine zz6 hF7 (zz6 hF7 (zz0 (aK rfl hF7 rfl) ?_))
     refine ae (aa ?_)
     exact av (Sub.cons rfl (zz8 3 rfl))
    refine zz0 (ac rfl) (ae (aa ?_))
    refine ak rfl ?_ ?_ <;> intro h8 <;> try simp only [bs] at h8
    ·refine bH ([cellE b2 (em.enc bW) 114]) 18 rfl aU ?_
     refine zz2 0 rfl (ad rfl) ?_
     refine zz2 1 rfl (dy rfl rfl) ?_
     refine zz2 2 rfl (ew rfl rfl) ?_
     refine zz2 3 rfl (ad rfl) ?_
     refine zz2 4 rfl (gK rfl rfl aD bO) ?_
     refine zz2 5 rfl (gJ rfl cx) ?_
     refine zz2 6 rfl (df rfl bw aO) ?_
     refine zz2 7 rfl (ad rfl) ?_
     refine zz2 8 rfl (qk (lv := some (_, _)) (hv := none) rfl rfl rfl aD bO) ?_
     refine zz2 10 rfl (zz3 (off := 2) (ft := 3) rfl ag rfl aj) ?_
     refine bX [9] (fun iq hq => ?_)
     obtain rfl := List.mem_singleton.1 hq
     refine aV rfl ?_
     refine zz0 (aF rfl l4 (fun w hw => kA ((b.take (b.length : Int).toNat).drop (2 : Int).toNat) _ w (hw.slF (Sl.resl hV' (by omega) (by omega))) (by simp; omega))) ?_
     refine bB ?_
     refine bX [11] (fun iq hq => ?_)
     obtain rfl := List.mem_singleton.1 hq
     refine aV rfl ?_
     refine zz1 (cs' := [_, _, _, _, _, _, _, _, _]) rfl rfl aj rfl ?_
     refine bB ?_
     refine zz2 12 rfl (zz3 (off := 3) (ft := 3) rfl ag rfl aj) ?_
     refine bX [13] (fun iq hq => ?_)
     obtain rfl := List.mem_singleton.1 hq
     refine aV rfl ?_
     refine zz1 (cs' := [_, _, _, _, _, _, _, _, _]) rfl rfl aj rfl ?_
     refine bB ?_
     refine zz2 14 rfl (zz3 (off := 6) (ft := 3) rfl ag rfl aj) ?_
     refine bX [15] (fun iq hq => ?_)
     obtain rfl := List.mem_singleton.1 hq
     refine aV rfl ?_
     refine zz1 (cs' := [_, _, _, _, _, _, _, _, _]) rfl rfl aj rfl ?_
     refine bB ?_
     refine zz2 16 rfl (zz3 (off := 1) (ft := 23) rfl ag rfl ah) ?_
     refine bX [17] (fun iq hq => ?_)
     obtain rfl := List.mem_singleton.1 hq
     refine aV rfl ?_
     refine zz1 (cs' := [_, _, _, _, _, _, _, _, _]) rfl rfl ah rfl ?_
     refine bB ?_
     refine dZ ?_
     refine ba (aa ?_)
     rw [show fg ((b.take (b.length : Int).toNat).drop (2 : Int).toNat) 0 = fg b 2 from mC (k := 2) (by omega)]
     apply a9 ⟨addr, fg b 2, 5 + c - 64, 2, 0, 0, (b.getD 1 default).toNat, 0, sz⟩
     ·exact rfl
     ·exact Front.nil
     ·exact bR 29 rfl
     ·exact (by repeat' constructor)
     ·exact (by unfold dI iM; (repeat (first | rw [if_pos (by omega)] | rw [if_neg (by omega)])) <;> rfl)
    ·refine af (ab (zz0 (ad rfl) (zz0 (ad rfl) (zz0 (bK rfl bo aH) ?_))))
     refine zz0 (aF rfl Tryz.call125 (fun w hw => rS c b V addr sz w (hw.slF hV) hb (by omega) hz (by omega))) ?_
     refine bA em rfl rfl aH ?_
     refine ae (aa (ao (bf (an ?_))))
     refine fE Tryz.results92 rfl (by repeat constructor) bo aH (by rfl) (fun w' hw => ?_)
     exact ⟨rfl, hw.below (Bg.le.refl _)⟩
 ·skip
  replace hi : k = dI c b ⟨addr, 0, 0, 0, 0, 0, 0, 0, sz⟩ := hi
  change Tr _ _ [cellE b1 (em.enc k) 114, cellE b2 (em.enc bW) 114] ([] ++ _) _
  refine af (ab (zz0 (bK rfl bo aH) ?_))
  refine bA em rfl rfl aH ?_
  refine ae (aa (ao ?_))
  refine fE Tryz.results92 rfl (by repeat constructor) bo aH (by rfl) (fun w' hw => ?_)
  exact ⟨by rw [hi]; rfl, hw.below (Bg.le.refl _)⟩
theorem qq (b : List UInt8) (V : Value) (addr : UInt32) (w : World) (hV : Sl (hp w) dJ b V) :
  Calls Tryz.prog 63 #[V, .int .u32 addr.toNat] w (fun e w' => e = .returned (.tuple #[.agg (em.enc (jQ b addr).1).toArray, .int .i64 (jQ b addr).2]) ∧ Ext w w') := by
 have hV' : Sl (Bg.of w).blk dJ b V := hV
 have hlen := hV.len_le
 have hpos := qn (((b.getD 0 default).toNat : Nat) : Int)
 refine enter Tryz.func63 rfl Tryz.ntmps63 rfl ?_
 refine af (ab ?_)
 refine cZ dq rfl (fun b1 => ?_)
 refine zz0 (ac rfl) (ae (aa (af (af (ab (zz0 (ad rfl) (zz0 (gA rfl aD) ?_)))))))
 refine zz0 (aN rfl rfl) (ae (aa ?_))
 refine ak rfl ?_ ?_ <;> intro h2 <;> try simp only [bs] at h2
 ·refine af (ab (zz0 (bE (vs := []) rfl rfl (gm)) ?_))
  refine bA em rfl rfl aH ?_
  refine zz0 (ac rfl) (ae (aa (ao (an ?_))))
  refine d5 jc rfl rfl bo aH (fun w' hw => ?_)
  exact ⟨by unfold jQ; rw [if_pos (by omega)]; rfl, hw.below (Bg.le.refl _)⟩
 ·refine ax (aa (af (ab (zz0 (ad rfl) (zz0 (gK rfl rfl aD bO) ?_)))))
  refine zz0 (gJ rfl cx) ?_
  refine zz0 (df rfl bw aO) (zz0 (aF rfl Tryz.call91 (fun w hw => wk (b.getD 0 default).toNat w)) ?_)
  generalize hq : eh (b.getD 0 default).toNat = n at *
  refine zz0 (ac rfl) (ae (aa (af (af (ab (zz0 (ad rfl) (zz0 (aN rfl rfl) (ae (aa ?_)))))))))
  refine ak rfl ?_ ?_ <;> intro h3 <;> try simp only [bs] at h3
  ·refine af (ab (zz0 (bE (vs := []) rfl rfl (gm)) ?_))
   refine bA em rfl rfl aH ?_
   refine zz0 (ac rfl) (ae (aa (ao (an ?_))))
   refine d5 jc rfl rfl bo aH (fun w' hw => ?_)
   exact ⟨by unfold jQ; rw [if_neg (by omega), if_pos (by rw [hq]; assumption)]; rfl, hw.below (Bg.le.refl _)⟩
  ·refine ax (aa (af (af (ab (zz0 (ad rfl) (zz0 (gA rfl aD) ?_))))))
   refine zz0 (ad rfl) (zz0 (cI rfl rfl) (ae (aa ?_)))
   refine ak rfl ?_ ?_ <;> intro h4 <;> try simp only [bs] at h4
   ·refine af (ab (zz0 (bE (vs := []) rfl rfl (gm)) ?_))
    refine bA em rfl rfl aH ?_
    refine zz0 (ac rfl) (ae (aa (ao (an ?_))))
    refine d5 jc rfl rfl bo aH (fun w' hw => ?_)
    exact ⟨by unfold jQ; rw [if_neg (by omega), if_neg (by rw [hq]; assumption), if_pos (by rw [hq]; assumption)]; rfl, hw.below (Bg.le.refl _)⟩
   ·refine ax (aa (af (ab (zz0 (ad rfl) (zz0 (ad rfl) (zz0 (qk (lv := none) (hv := some (_, _)) rfl rfl rfl aD bO) ?_))))))
    refine zz0 (ad rfl) (zz0 (ad rfl) (zz0 (bE (vs := [(0, _), (8, _)]) rfl rfl (nX _ _)) ?_))
    refine zz0 (aF rfl Tryz.call92 (fun w hw => uT ((b.take n.toNat).drop 0) _ addr n w (hw.slF (Sl.resl hV' (by omega) (by omega))) (by rw [List.drop_zero]; exact wc (by omega) (by omega) (lc (by omega)) hq) (by rw [List.drop_zero, lc (by omega), hq]; assumption))) ?_
    refine cZ dq rfl (fun b5 => ?_)
    refine bA em rfl rfl aH ?_
    refine ae (aa (af (af (ab (zz0 (zz3 (off := 6) (ft := 3) rfl ag rfl aj) ?_)))))
    refine zz0 (aM rfl aC) ?_
    refine zz0 (aF rfl Tryz.call93 (fun w hw => q9 _ w)) ?_
    refine zz0 (cp rfl) (zz0 (ad rfl) ?_)
    apply dk
    ·exact (rfl : _ = (5, 36, 41))
    ·exact rfl
    ·intro hF6; have hF6' := hF6
     try simp only [bs] at hF6'
     refine zz5 hF6 (zz3 (off := 7) (ft := 3) rfl ag rfl aj) ?_
     refine zz5 hF6 (aM rfl aC) ?_
     refine zz5 hF6 (aF rfl Tryz.call93 (fun w hw => q9 _ w)) ?_
     refine zz5 hF6 (cp rfl) (zz0 (aK rfl hF6 rfl) ?_)
     refine ae (aa ?_)
     exact av (Sub.cons rfl (zz8 5 rfl))
    ·intro hT6
     refine zz6 hT6 (zz6 hT6 (zz6 hT6 (zz6 hT6 (zz0 (aL rfl hT6 rfl) ?_))))
     refine ae (aa ?_)
     exact av (Sub.cons rfl (zz8 5 rfl))
    refine ae (aa ?_)
    refine ak rfl ?_ ?_ <;> intro h7 <;> try simp only [bs] at h7
    ·refine af (ab (zz0 (bE (vs := []) rfl rfl (gm)) ?_))
     refine bA em rfl rfl aH ?_
     refine zz0 (ac rfl) (ae (aa (ao (an ?_))))
     refine d5 jc rfl rfl bo aH (fun w' hw => ?_)
     exact ⟨by unfold jQ; rw [if_neg (by omega), if_neg (by rw [hq]; assumption), if_neg (by rw [hq]; assumption), hq]; simp only [List.drop_zero, lc (show 0 < n.toNat by omega)] at *; (first | rw [if_pos (by assumption)] | rw [if_neg (by grind)]); rfl, hw.below (Bg.le.refl _)⟩
    ·refine ax (aa (af (ab (zz0 (bK rfl bo aH) ?_))))
     refine bA em rfl rfl aH ?_
     refine zz0 (ac rfl) (ae (aa (ao ?_)))
     refine d5 jc rfl rfl bo aH (fun w' hw => ?_)
     exact ⟨by unfold jQ; rw [if_neg (by omega), if_neg (by rw [hq]; assumption), if_neg (by rw [hq]; assumption), hq]; simp only [List.drop_zero, lc (show 0 < n.toNat by omega)] at *; (first | rw [if_pos (by assumption)] | rw [if_neg (by grind)]); rfl, hw.below (Bg.le.refl _)⟩
end Go.Proofs.YtpeaodkfbjenpaaGreat
namespace Go.Proofs.YtpeaodkfbjenpaaGreat
open Go Go.HL Go.RowKit
theorem lM (s : SecV) (w : World) (hs : s.data.length ≤ 200000) :
  Calls Tryz.prog 41 #[.agg (cm.enc s).toArray] w (fun e w' => e = .returned (.int .i64 (jK s)) ∧ Ext w w') := by
 have hadr := s.addr.toNat_lt
 refine enter Tryz.func41 rfl Tryz.ntmps41 rfl ?_
 refine af (ab ?_)
 refine cH rfl rfl rfl (fun b1 => ?_)
 refine zz0 (ac rfl) (ae (aa (af (ab (zz0 (zz3 (off := 1) (ft := 23) rfl bC rfl ah) ?_)))))
 refine zz0 (aM rfl ay) ?_
 refine zz0 (gj rfl aT aO) (zz0 (zz3 (off := 2) (ft := 62) rfl bC rfl c9) ?_)
 refine zz0 (aM rfl dL) ?_
 refine zz0 (fO rfl aD) ?_
 refine zz0 (dy rfl rfl) ?_
 refine zz0 (ac rfl) (ae (aa (af (af (ab (zz0 (ad rfl) (zz0 (fC rfl rfl) (ae (aa ?_)))))))))
 refine ak rfl ?_ ?_ <;> intro h2 <;> try simp only [bs] at h2
 ·refine af (ab (zz0 (ac rfl) (ae (aa (ao (an ?_))))))
  refine aI Tryz.results41 rfl (fun w' hw => ?_)
  exact ⟨by unfold jK; rw [Int.min_eq_right (by omega)], hw.below (Bg.le.refl _)⟩
 ·refine ax (aa (af (ab (zz0 (ad rfl) (zz0 (ac rfl) (ae (aa (ao ?_))))))))
  refine aI Tryz.results41 rfl (fun w' hw => ?_)
  exact ⟨by unfold jK; rw [Int.min_eq_left (by omega)], hw.below (Bg.le.refl _)⟩
theorem sS (s : ByteArray) (w : World) (hs : s.size ≤ 9223372036854775807) :
  Calls Tryz.prog 65 #[.string s] w (fun e w' => e = .returned (.bool (pI s)) ∧ Ext w w') := by
 have hbl := nq s
 refine enter Tryz.func65 rfl Tryz.ntmps65 rfl ?_
 refine af (ab (zz0 (ac rfl) (ae (aa (af (af (ab (zz0 (ac rfl) (ae (aa (aQ ?_)))))))))))
 refine cu (ι := Nat) (fun k => k ≤ s.size ∧ ((bts s).take k).any mM = false) (fun _ => _) (fun k => []) (fun k => [(3, .int .i64 (k : Nat))]) (fun k => s.size - k) 0 ⟨Nat.zero_le _, rfl⟩ (.cons (by first | rfl | exact am rfl (by omega) | exact am rfl (by simp) | exact aR rfl (by simp)) Front.nil) (by repeat' constructor) rfl (fun k hi m hm => ?_)
 replace hi : k ≤ s.size ∧ ((bts s).take k).any mM = false := hi
 replace hm : m = s.size - k := hm
 change Tr _ _ [] ([(3, .int .i64 (k : Nat))] ++ _) _
 obtain ⟨hk1, hk2⟩ := hi
 refine af (af (ab (zz0 (ad rfl) (zz0 (ad rfl) (zz0 (lA rfl eR) ?_)))))
 refine zz0 (cI rfl rfl) (ae (aa ?_))
 refine ak rfl ?_ ?_ <;> intro h1 <;> try simp only [bs] at h1
 ·refine ax (aa (af (aQ (af (ab (zz0 (ad rfl) (zz0 (ad rfl) (zz0 (nU rfl rfl eR (by omega)) ?_))))))))
  refine zz0 (ac rfl) (ae (aa (af (ab (zz0 (ad rfl) (zz0 (oZ (n := 97) rfl rfl) ?_))))))
  refine zz0 (ad rfl) ?_
  apply bJ
  ·exact (rfl : _ = (3, 17, 20))
  ·exact rfl
  ·intro hT2; have hT2' := hT2
   try simp only [bs] at hT2'
   refine zz5 hT2 (ad rfl) (zz5 hT2 (su (n := 122) rfl rfl) ?_)
   refine zz0 (aL rfl hT2 rfl) ?_
   refine ae (aa ?_)
   exact av (Sub.cons rfl (zz8 3 rfl))
  ·intro hF2
   refine zz6 hF2 (zz6 hF2 (zz0 (aK rfl hF2 rfl) ?_))
   refine ae (aa ?_)
   exact av (Sub.cons rfl (zz8 3 rfl))
  refine zz0 (ad rfl) ?_
  apply dk
  ·exact (rfl : _ = (7, 21, 28))
  ·exact rfl
  ·intro hF3; have hF3' := hF3
   try simp only [bs] at hF3'
   refine zz5 hF3 (ad rfl) (zz5 hF3 (oZ (n := 65) rfl rfl) ?_)
   refine zz5 hF3 (ad rfl) ?_
   apply bJ
   ·exact (rfl : _ = (3, 24, 27))
   ·exact rfl
   ·intro hT4; have hT4' := hT4
    try simp only [bs] at hT4'
    refine zz5 hT4 (ad rfl) (zz5 hT4 (su (n := 90) rfl rfl) ?_)
    refine zz5 hF3 (aL rfl hT4 rfl) ?_
    refine ae (aa ?_)
    exact av (Sub.cons rfl (zz8 3 rfl))
   ·intro hF4
    refine zz6 hF4 (zz6 hF4 (zz5 hF3 (aK rfl hF4 rfl) ?_))
    refine ae (aa ?_)
    exact av (Sub.cons rfl (zz8 3 rfl))
   refine zz0 (aK rfl hF3 rfl) ?_
   refine ae (aa ?_)
   exact av (Sub.cons rfl (zz8 5 rfl))
  ·intro hT3
   refine zz6 hT3 (zz6 hT3 (zz6 hT3 (dA rfl rfl rfl ?_)))
   refine dA rfl rfl rfl ?_
   refine zz6 hT3 (zz0 (aL rfl hT3 rfl) ?_)
   refine ae (aa ?_)
   exact av (Sub.cons rfl (zz8 7 rfl))
  refine zz0 (ac rfl) (ae (aa (af (ab (zz0 (ad rfl) (zz0 (cp rfl) (zz0 (ad rfl) ?_)))))))
  apply bJ
  ·exact (rfl : _ = (7, 31, 38))
  ·exact rfl
  ·intro hT5; have hT5' := hT5
   try simp only [bs] at hT5'
   refine zz5 hT5 (ad rfl) (zz5 hT5 (ma (n := 48) rfl rfl) ?_)
   refine zz5 hT5 (ad rfl) ?_
   apply dk
   ·exact (rfl : _ = (3, 34, 37))
   ·exact rfl
   ·intro hF6; have hF6' := hF6
    try simp only [bs] at hF6'
    refine zz5 hF6 (ad rfl) (zz5 hF6 (oY (n := 57) rfl rfl) ?_)
    refine zz5 hT5 (aK rfl hF6 rfl) ?_
    refine ae (aa ?_)
    exact av (Sub.cons rfl (zz8 3 rfl))
   ·intro hT6
    refine zz6 hT6 (zz6 hT6 (zz5 hT5 (aL rfl hT6 rfl) ?_))
    refine ae (aa ?_)
    exact av (Sub.cons rfl (zz8 3 rfl))
   refine zz0 (aL rfl hT5 rfl) ?_
   refine ae (aa ?_)
   exact av (Sub.cons rfl (zz8 5 rfl))
  ·intro hF5
   refine zz6 hF5 (zz6 hF5 (zz6 hF5 (dA rfl rfl rfl ?_)))
   refine dA rfl rfl rfl ?_
   refine zz6 hF5 (zz0 (aK rfl hF5 rfl) ?_)
   refine ae (aa ?_)
   exact av (Sub.cons rfl (zz8 7 rfl))
  refine zz0 (ad rfl) ?_
  apply bJ
  ·exact (rfl : _ = (3, 39, 42))
  ·exact rfl
  ·intro hT7; have hT7' := hT7
   try simp only [bs] at hT7'
   refine zz5 hT7 (ad rfl) (zz5 hT7 (l9 (n := 95) rfl rfl) ?_)
   refine zz0 (aL rfl hT7 rfl) ?_
   refine ae (aa ?_)
   exact av (Sub.cons rfl (zz8 3 rfl))
  ·intro hF7
   refine zz6 hF7 (zz6 hF7 (zz0 (aK rfl hF7 rfl) ?_))
   refine ae (aa ?_)
   exact av (Sub.cons rfl (zz8 3 rfl))
  refine zz0 (ad rfl) ?_
  apply bJ
  ·exact (rfl : _ = (3, 43, 46))
  ·exact rfl
  ·intro hT8; have hT8' := hT8
   try simp only [bs] at hT8'
   refine zz5 hT8 (ad rfl) (zz5 hT8 (l9 (n := 46) rfl rfl) ?_)
   refine zz0 (aL rfl hT8 rfl) ?_
   refine ae (aa ?_)
   exact av (Sub.cons rfl (zz8 3 rfl))
  ·intro hF8
   refine zz6 hF8 (zz6 hF8 (zz0 (aK rfl hF8 rfl) ?_))
   refine ae (aa ?_)
   exact av (Sub.cons rfl (zz8 3 rfl))
  refine ae (aa ?_)
  refine ak rfl ?_ ?_ <;> intro h9 <;> try simp only [bs] at h9
  ·refine af (ab (zz0 (ac rfl) (ae (aa (ao (bf (an (an (bf (an ?_))))))))))
   refine aI Tryz.results65 rfl (fun w' hw => ?_)
   have hbad : mM ((bts s).getD k default) = true := by rw [xW]; simp only [bs]; assumption
   exact ⟨by rw [qX (by omega) hbad], hw.below (Bg.le.refl _)⟩
  ·refine ax (ba (aa (ab (zz0 (ad rfl) (zz0 (dy rfl rfl) ?_)))))
   refine zz0 (ac rfl) (ae (aa ?_))
   have hbad : mM ((bts s).getD k default) = false := by rw [xW]; simp only [bs]; assumption
   apply bT (k + 1)
   ·exact rfl
   ·exact (.cons (by first | rfl | exact am rfl (by omega) | exact am rfl (by simp) | exact aR rfl (by simp)) Front.nil)
   ·exact bR 27 rfl
   ·exact (by repeat' constructor)
   ·exact ⟨by omega, by rw [any_take_succ (by omega), hk2, hbad]; rfl⟩
   ·exact (by (try dsimp only); omega)
 ·refine cj (aY (aY (bV (aa (af (ab (zz0 (ad rfl) (zz0 (lA rfl eR) ?_))))))))
  refine zz0 (fC rfl rfl) (zz0 (ad rfl) ?_)
  apply bJ
  ·exact (rfl : _ = (4, 50, 54))
  ·exact rfl
  ·intro hT10; have hT10' := hT10
   try simp only [bs] at hT10'
   refine zz5 hT10 (ad rfl) (zz5 hT10 (lA rfl eR) ?_)
   refine zz5 hT10 (dO rfl rfl) (zz0 (aL rfl hT10 rfl) ?_)
   refine ae (aa ?_)
   exact av (Sub.cons rfl (zz8 4 rfl))
  ·intro hF10
   refine zz6 hF10 (zz6 hF10 (zz6 hF10 (zz0 (aK rfl hF10 rfl) ?_)))
   refine ae (aa ?_)
   exact av (Sub.cons rfl (zz8 4 rfl))
  refine zz0 (ac rfl) (ae (aa (ao ?_)))
  refine aI Tryz.results65 rfl (fun w' hw => ?_)
  exact ⟨by rw [qW (by omega) hk2]; congr 2, hw.below (Bg.le.refl _)⟩
theorem sT (l : List SecV) (V : Value) (a : UInt32) (w : World) (hV : Sl (hp w) cm l V) (hB : SecB l) :
  Calls Tryz.prog 75 #[V, .int .u32 a.toNat] w (fun e w' => e = .returned (.int .i64 (cR l a)) ∧ Ext w w') := by
 have hV' : Sl (Bg.of w).blk cm l V := hV
 have hlen := hB.1
 refine enter Tryz.func75 rfl Tryz.ntmps75 rfl ?_
 refine af (ab (zz0 (ac rfl) (ae (aa (af (af (ab (zz0 (ac rfl) (ae (aa (aQ ?_)))))))))))
 refine cu (ι := Nat) (fun k => k ≤ l.length ∧ eO (inS a) k (l.drop k) = eO (inS a) 0 l) (fun _ => _) (fun k => []) (fun k => [(5, .int .i64 (k : Nat))]) (fun k => l.length - k) 0 ⟨Nat.zero_le _, rfl⟩ (.cons (by first | rfl | exact am rfl (by omega) | exact am rfl (by simp) | exact aR rfl (by simp)) Front.nil) (by repeat' constructor) rfl (fun k hi m hm => ?_)
 replace hi : k ≤ l.length ∧ eO (inS a) k (l.drop k) = eO (inS a) 0 l := hi
 replace hm : m = l.length - k := hm
 change Tr _ _ [] ([(5, .int .i64 (k : Nat))] ++ _) _
 obtain ⟨hk1, hk2⟩ := hi
 refine af (af (ab (zz0 (ad rfl) (zz0 (ad rfl) (zz0 (gA rfl bh) ?_)))))
 refine zz0 (cI rfl rfl) (ae (aa ?_))
 refine ak rfl ?_ ?_ <;> intro h1 <;> try simp only [bs] at h1
 ·refine ax (aa (af (aQ (af (ab (zz0 (ad rfl) (zz0 (ad rfl) (zz0 (iZ rfl rfl bh bI) ?_))))))))
  refine zz0 (zz3 (off := 1) (ft := 23) rfl bC rfl ah) ?_
  refine zz0 (k9 rfl ay) ?_
  refine zz0 (ad rfl) (zz0 (ua rfl rfl) ?_)
  refine zz0 (ad rfl) ?_
  apply bJ
  ·exact (rfl : _ = (9, 19, 28))
  ·exact rfl
  ·intro hT2; have hT2' := hT2
   try simp only [bs] at hT2'
   refine zz5 hT2 (ad rfl) (zz5 hT2 (gj rfl aT aO) (zz5 hT2 (ad rfl) (zz5 hT2 (ad rfl) (zz5 hT2 (iZ rfl rfl bh bI) ?_))))
   refine zz5 hT2 (k7 rfl (by assumption) eG bI (by rfl) (by omega)) ?_
   refine zz5 hT2 (aF rfl mF (fun w hw => lM (l.getD k default) w (hB.at (by omega)))) ?_
   refine zz5 hT2 (cI rfl rfl) (zz0 (aL rfl hT2 rfl) ?_)
   refine ae (aa ?_)
   exact av (Sub.cons rfl (zz8 9 rfl))
  ·intro hF2
   refine zz6 hF2 (zz6 hF2 (zz6 hF2 (zz6 hF2 (zz6 hF2 (zz6 hF2 (zz6 hF2 (zz6 hF2 (zz0 (aK rfl hF2 rfl) ?_))))))))
   refine ae (aa ?_)
   exact av (Sub.cons rfl (zz8 9 rfl))
  refine ae (aa ?_)
  refine ak rfl ?_ ?_ <;> intro h3 <;> try simp only [bs] at h3
  ·refine af (ab (zz0 (ad rfl) (zz0 (ac rfl) (ae (aa (ao (bf (an (an (bf (an ?_)))))))))))
   refine aI Tryz.results75 rfl (fun w' hw => ?_)
   exact ⟨by unfold cR; rw [← hk2, drop_cons (k := k) (by omega), eO, if_pos (by rw [jv]; simp only [UInt32.le_iff_toNat_le] at *; omega)], hw.below (Bg.le.refl _)⟩
  ·refine ax (ba (aa (ab (zz0 (ad rfl) (zz0 (dy rfl rfl) ?_)))))
   refine zz0 (ac rfl) (ae (aa ?_))
   apply bT (k + 1)
   ·exact rfl
   ·exact (.cons (by first | rfl | exact am rfl (by omega) | exact am rfl (by simp) | exact aR rfl (by simp)) Front.nil)
   ·exact bR 17 rfl
   ·exact (by repeat' constructor)
   ·exact ⟨by omega, by rw [← hk2, drop_cons (k := k) (by omega), eO, if_neg (by rw [jv]; simp only [UInt32.le_iff_toNat_le] at *; omega)]⟩
   ·exact (by (try dsimp only); omega)
 ·refine cj (aY (aY (bV (aa (af (ab (zz0 (ac rfl) (ae (aa (ao ?_))))))))))
  refine aI Tryz.results75 rfl (fun w' hw => ?_)
  exact ⟨by unfold cR; rw [← hk2, List.drop_of_length_le (by omega)]; rfl, hw.below (Bg.le.refl _)⟩
theorem sU (s : SecV) (w : World) (hs : s.data.length ≤ 200000) (hd : Sl (hp w) dJ s.data (.slice s.dp s.data.length s.dc)) :
  Calls Tryz.prog 42 #[.agg (cm.enc s).toArray] w (fun e w' => ∃ i : SecV, e = .returned (.agg (cm.enc i).toArray) ∧ Ext w w' ∧ NewEnts w w' [uY 5 i] ∧ i.pl = s.pl) := by
 have hd' : Sl (Bg.of w).blk dJ s.data (.slice s.dp s.data.length s.dc) := hd
 refine enter Tryz.func42 rfl Tryz.ntmps42 rfl ?_
 refine af (ab ?_)
 refine cH rfl rfl rfl (fun b1 => ?_)
 refine cZ fh rfl (fun b2 => ?_)
 refine ae (aa (af (ab (zz0 (ac rfl) (ae (aa (af (ab (zz0 (ad rfl) (zz0 (zz3 (off := 2) (ft := 62) rfl bC rfl c9) ?_))))))))))
 refine zz0 (aM rfl dL) ?_
 refine f8 _ _ (gI rfl rfl (by repeat constructor) (fun w hw => hw.slF (by assumption)) aD lB (by rfl) (by rfl) (by (try simp only [List.length_cons, List.length_nil, List.length_append, List.length_take]); omega) (by unfold maxLen; (try simp only [List.length_cons, List.length_nil, List.length_append, List.length_take]); omega) rfl (fun V3 => ?_))
 rw [List.nil_append]
 refine kK (.head _) (fun pa pc hpv => ?_)
 subst hpv
 refine zz0 (ac rfl) (ae (aa (af (ab (zz0 (ad rfl) (zz0 (zz3 (off := 2) (ft := 62) rfl bC rfl c9) ?_))))))
 refine zz1 (cs' := [_, _, _, _, _]) rfl rfl c9 rfl ?_
 refine ae (aa (af (ab (zz0 (bK rfl eG bI) ?_))))
 refine bA cm rfl rfl bI ?_
 refine ae (aa (ao ?_))
 refine fE Tryz.results42 rfl (by repeat constructor) eG bI (by rfl) (fun w' hw => ?_)
 exact ⟨{ s with dp := pa, dc := pc }, rfl, hw.below (Bg.le.refl _), hw.ents (Bg.le.refl _) (by repeat' constructor), rfl⟩
theorem qt (l : List SecV) (V : Value) (w : World) (hV : Sl (hp w) cm l V) (hB : SecB l) (hD : DataIn (hp w) l) :
  Calls Tryz.prog 24 #[V] w (fun e w' => ∃ i : Value × List SecV, e = .returned i.1 ∧ Ext w w' ∧ NewEnts w w' (lL 64 5 i.1 i.2) ∧ i.2.map SecV.pl = l.map SecV.pl) := by
 have hV' : Sl (Bg.of w).blk cm l V := hV
 have hlen := hB.1
 refine enter Tryz.func24 rfl Tryz.ntmps24 rfl ?_
 refine af (ab (zz0 (ac rfl) (ae (aa (af (ab (zz0 (ac rfl) (ae (aa (af (af (ab (zz0 (ac rfl) ?_)))))))))))))
 refine ae (aa (aQ (f8 64 cm ?_)))
 refine cu (ι := Nat × Value × List SecV) (fun ⟨k, V', xs⟩ => k ≤ l.length ∧ xs.length = k ∧ xs.map SecV.pl = (l.take k).map SecV.pl) (fun _ => _) (fun ⟨k, V', xs⟩ => (rowE V' 64 cm xs :: xs.reverse.map (uY 5))) (fun ⟨k, V', xs⟩ => [(4, .int .i64 (k : Nat)), (3, V')]) (fun ⟨k, V', xs⟩ => l.length - k) (0, _, []) ⟨Nat.zero_le _, rfl, rfl⟩ (.cons (by first | rfl | exact am rfl (by omega) | exact am rfl (by simp) | exact aR rfl (by simp)) (.cons (by first | rfl | exact am rfl (by omega) | exact am rfl (by simp) | exact aR rfl (by simp)) Front.nil)) (by repeat' constructor) rfl (fun i hi m hm => ?_)
 obtain ⟨k, V', xs⟩ := i
 replace hi : k ≤ l.length ∧ xs.length = k ∧ xs.map SecV.pl = (l.take k).map SecV.pl := hi
 replace hm : m = l.length - k := hm
 change Tr _ _ (rowE V' 64 cm xs :: xs.reverse.map (uY 5)) ([(4, .int .i64 (k : Nat)), (3, V')] ++ _) _
 obtain ⟨hk1, hk2, hk3⟩ := hi
 refine af (af (ab (zz0 (ad rfl) (zz0 (ad rfl) (zz0 (gA rfl bh) ?_)))))
 refine zz0 (cI rfl rfl) (ae (aa ?_))
 refine ak rfl ?_ ?_ <;> intro h1 <;> try simp only [bs] at h1
 ·refine ax (aa (af (aQ (ab (zz0 (ad rfl) (zz0 (ad rfl) (zz0 (ad rfl) (zz0 (iZ rfl rfl bh bI) ?_))))))))
  refine zz0 (k7 rfl (by assumption) eG bI (by rfl) (by omega)) ?_
  refine gG (fun s' : SecV => .agg (cm.enc s').toArray) (fun s' => [uY 5 s']) (ok := fun s' => s'.pl = (l.getD k default).pl) rfl Tryz.call42 (fun w hw => sU (l.getD k default) w (hB.at (by omega)) ((hD.mono hw.bg) _ (fQ (by omega)))) rfl (fun s' hs' => ?_)
  rw [List.singleton_append]
  refine fu (E := cm) s' rfl rfl bh bI fh (by rfl) (by rfl) rfl (fun V2 => ?_)
  refine zz7 rfl rfl bh vm (fun V3 => ?_)
  refine zz0 (ac rfl) (ae (ba (aa (ab (zz0 (ad rfl) (zz0 (dy rfl rfl) ?_))))))
  refine zz0 (ac rfl) (ae (aa ?_))
  apply bT (k + 1, _, xs ++ [s'])
  ·exact rfl
  ·exact (.cons (by first | rfl | exact am rfl (by omega) | exact am rfl (by simp) | exact aR rfl (by simp)) (.cons (by first | rfl | exact am rfl (by omega) | exact am rfl (by simp) | exact aR rfl (by simp)) Front.nil))
  ·exact bR 18 rfl
  ·exact (by show Pick _ (rowE _ _ _ _ :: (xs ++ [s']).reverse.map (uY 5)); rw [List.reverse_append]; exact Pick.refl _)
  ·exact ⟨by omega, by simp [hk2], by rw [List.map_append, hk3, g9 (by omega), List.map_append, List.map_cons, hs']; rfl⟩
  ·exact (by (try dsimp only); omega)
 ·refine cj (aY (aY (bV (aa (af (ab (zz0 (ad rfl) (zz0 (ac rfl) (ae (aa (ao ?_)))))))))))
  refine aI Tryz.results24 rfl (fun w' hw => ?_)
  exact ⟨(V', xs), rfl, hw.below (Bg.le.refl _), hw.ents (Bg.le.refl _) (Pick.refl _), by rw [hk3, List.take_of_length_le (by omega)]⟩
theorem ut (l : List SecV) (V : Value) (i : Nat) (w : World) (hV : Sl (hp w) cm l V) (hB : SecB l) (hi : i < l.length) (hN : (l.getD i default).name.size ≤ 9223372036854775807) :
  Calls Tryz.prog 40 #[V, .int .i64 (i : Nat)] w (fun e w' => e = .returned (.int .i64 (iy l i)) ∧ Ext w w') := by
 have hV' : Sl (Bg.of w).blk cm l V := hV
 have hlen := hB.1
 obtain ⟨s, hs⟩ : ∃ s, s = l.getD i default := ⟨_, rfl⟩
 have hsd : s.data.length ≤ 200000 := by rw [hs]; exact hB.at hi
 have hadr := s.addr.toNat_lt
 have hst := nD s
 refine enter Tryz.func40 rfl Tryz.ntmps40 rfl ?_
 refine af (ab (zz0 (ac rfl) (ae (aa (af (ab (zz0 (ad rfl) (zz0 (ad rfl) (zz0 (iZ rfl rfl bh bI) ?_)))))))))
 refine zz0 (k7 rfl (by assumption) eG bI (by rfl) (by omega)) ?_
 refine cZ fh rfl (fun b1 => ?_)
 refine bA cm rfl rfl bI ?_
 refine ae (aa (af (af ?_)))
 rw [← hs]
 refine ab (zz0 (zz3 (off := 2) (ft := 62) rfl bC rfl c9) ?_)
 refine zz0 (aM rfl dL) ?_
 refine zz0 (fO rfl aD) ?_
 refine zz0 (fC rfl rfl) (ae (aa ?_))
 refine ak rfl ?_ ?_ <;> intro h2 <;> try simp only [bs] at h2
 ·refine af (ab (zz0 (ac rfl) (ae (aa (ao (an ?_))))))
  refine aI iH rfl (fun w' hw => ?_)
  exact ⟨by unfold iy; dsimp only; rw [← hs, if_pos (by assumption)], hw.below (Bg.le.refl _)⟩
 ·refine ax (aa (af (af (ab (zz0 (zz3 (off := 0) (ft := 9) rfl bC rfl jp) ?_)))))
  refine zz0 (aM rfl j7) ?_
  refine zz0 (aF rfl Tryz.call65 (fun w hw => sS s.name w (by rw [hs]; exact hN))) ?_
  refine zz0 (cp rfl) (ae (aa ?_))
  refine ak rfl ?_ ?_ <;> intro h3 <;> try simp only [bs] at h3
  ·refine af (ab (zz0 (ac rfl) (ae (aa (ao (an ?_))))))
   refine aI iH rfl (fun w' hw => ?_)
   exact ⟨by unfold iy; dsimp only; rw [← hs, if_neg (by assumption), if_pos (by assumption)], hw.below (Bg.le.refl _)⟩
  ·refine ax (aa (af (af (ab (zz0 (ac rfl) (ae (aa (aQ ?_))))))))
   refine cu (ι := Nat) (fun k => k ≤ i ∧ (l.take k).any (fun x => decide (x.name = s.name)) = false) (fun _ => _) (fun k => [cellE b1 (cm.enc s) 64]) (fun k => [(6, .int .i64 (k : Nat))]) (fun k => i - k) 0 ⟨Nat.zero_le _, rfl⟩ (.cons (by first | rfl | exact am rfl (by omega) | exact am rfl (by simp) | exact aR rfl (by simp)) Front.nil) (by repeat' constructor) rfl (fun k hi m hm => ?_)
   replace hi : k ≤ i ∧ (l.take k).any (fun x => decide (x.name = s.name)) = false := hi
   replace hm : m = i - k := hm
   change Tr _ _ [cellE b1 (cm.enc s) 64] ([(6, .int .i64 (k : Nat))] ++ _) _
   obtain ⟨hk1, hk2⟩ := hi
   refine af (af (ab (zz0 (ad rfl) (zz0 (ad rfl) (zz0 (cI rfl rfl) (ae (aa ?_)))))))
   refine ak rfl ?_ ?_ <;> intro h4 <;> try simp only [bs] at h4
   ·refine ax (aa (af (aQ (af (jf aU ?_)))))
    refine aJ (ad rfl) (aJ (ad rfl) (aJ (iZ rfl rfl bh bI) ?_))
    refine aJ (zz3 (off := 0) (ft := 9) rfl bC rfl jp) ?_
    refine aJ (k9 rfl j7) ?_
    refine aJ (zz3 (off := 0) (ft := 9) rfl bC rfl jp) ?_
    refine aJ (aM rfl j7) ?_
    refine aJ (qc rfl rfl) ?_
    refine cG ?_
    refine aa ?_
    refine ak rfl ?_ ?_ <;> intro h5 <;> try simp only [bs] at h5
    ·refine af (ab (zz0 (ac rfl) (ae (aa (ao (bf (an (an (bf (an ?_))))))))))
     refine aI iH rfl (fun w' hw => ?_)
     have hany : (l.take i).any (fun x => decide (x.name = s.name)) = true := List.any_eq_true.2 ⟨l.getD k default, by rw [List.mem_take_iff_getElem]; exact ⟨k, by omega, by simp [List.getD_eq_getElem?_getD, show k < l.length by omega]⟩, decide_eq_true (by assumption)⟩
     exact ⟨by unfold iy; dsimp only; rw [← hs, if_neg (by assumption), if_neg (by simp_all), if_pos hany], hw.below (Bg.le.refl _)⟩
    ·refine ax (ba (aa (ab (zz0 (ad rfl) (zz0 (dy rfl rfl) ?_)))))
     refine zz0 (ac rfl) (ae (aa ?_))
     apply bT (k + 1)
     ·exact rfl
     ·exact (.cons (by first | rfl | exact am rfl (by omega) | exact am rfl (by simp) | exact aR rfl (by simp)) Front.nil)
     ·exact bR 15 rfl
     ·exact (by repeat' constructor)
     ·exact ⟨by omega, by rw [any_take_succ (by omega), hk2, Bool.false_or]; exact decide_eq_false (by assumption)⟩
     ·exact (by (try dsimp only); omega)
   ·refine cj (aY (aY (bV (aa (af (af (ab (zz0 (zz3 (off := 1) (ft := 23) rfl bC rfl ah) ?_))))))))
    refine zz0 (aM rfl ay) ?_
    refine zz0 (gj rfl aT aO) (zz0 (zz3 (off := 2) (ft := 62) rfl bC rfl c9) ?_)
    refine zz0 (aM rfl dL) ?_
    refine zz0 (fO rfl aD) ?_
    refine zz0 (dy rfl rfl) ?_
    refine zz0 (fC rfl rfl) (ae (aa ?_))
    refine ak rfl ?_ ?_ <;> intro h6 <;> try simp only [bs] at h6
    ·refine af (ab (zz0 (ac rfl) (ae (aa (ao (an ?_))))))
     refine aI iH rfl (fun w' hw => ?_)
     have hany : ¬ (l.take i).any (fun x => decide (x.name = s.name)) = true := by obtain rfl : k = i := (by omega); rw [hk2]; decide
     exact ⟨by unfold iy; dsimp only; rw [← hs, if_neg (by assumption), if_neg (by simp_all), if_neg hany, if_pos (.inl (by assumption))], hw.below (Bg.le.refl _)⟩
    ·refine ax (aa (af (af (ab (zz0 (zz3 (off := 2) (ft := 62) rfl bC rfl c9) ?_)))))
     refine zz0 (aM rfl dL) ?_
     refine zz0 (fO rfl aD) ?_
     refine zz0 (fC rfl rfl) (zz0 (ad rfl) ?_)
     apply bJ
     ·exact (rfl : _ = (5, 44, 49))
     ·exact rfl
     ·intro hT7; have hT7' := hT7
      try simp only [bs] at hT7'
      refine zz5 hT7 (zz3 (off := 1) (ft := 23) rfl bC rfl ah) ?_
      refine zz5 hT7 (aM rfl ay) ?_
      refine zz5 hT7 (gj rfl aT aO) (zz5 hT7 (cI rfl rfl) (zz0 (aL rfl hT7 rfl) ?_))
      refine ae (aa ?_)
      exact av (Sub.cons rfl (zz8 5 rfl))
     ·intro hF7
      refine zz6 hF7 (zz6 hF7 (zz6 hF7 (zz6 hF7 (zz0 (aK rfl hF7 rfl) ?_))))
      refine ae (aa ?_)
      exact av (Sub.cons rfl (zz8 5 rfl))
     refine zz0 (ad rfl) ?_
     apply bJ
     ·exact (rfl : _ = (4, 50, 54))
     ·exact rfl
     ·intro hT8; have hT8' := hT8
      try simp only [bs] at hT8'
      refine zz5 hT8 (bK rfl eG bI) ?_
      refine zz5 hT8 (aF rfl mF (fun w hw => lM s w hsd)) ?_
      refine zz5 hT8 (fC rfl rfl) (zz0 (aL rfl hT8 rfl) ?_)
      refine ae (aa ?_)
      exact av (Sub.cons rfl (zz8 4 rfl))
     ·intro hF8
      refine zz6 hF8 (zz6 hF8 (zz6 hF8 (zz0 (aK rfl hF8 rfl) ?_)))
      refine ae (aa ?_)
      exact av (Sub.cons rfl (zz8 4 rfl))
     refine ae (aa ?_)
     refine ak rfl ?_ ?_ <;> intro h9 <;> try simp only [bs] at h9
     ·refine af (ab (zz0 (ac rfl) (ae (aa (ao (an ?_))))))
      refine aI iH rfl (fun w' hw => ?_)
      have hany : ¬ (l.take i).any (fun x => decide (x.name = s.name)) = true := by obtain rfl : k = i := (by omega); rw [hk2]; decide
      exact ⟨by unfold iy; dsimp only; rw [← hs, if_neg (by assumption), if_neg (by simp_all), if_neg hany, if_pos (.inr (hst.2 (by omega)))], hw.below (Bg.le.refl _)⟩
     ·refine ax (aa (af (ab (zz0 (ac rfl) (ae (aa (ao ?_)))))))
      refine aI iH rfl (fun w' hw => ?_)
      have hany : ¬ (l.take i).any (fun x => decide (x.name = s.name)) = true := by obtain rfl : k = i := (by omega); rw [hk2]; decide
      exact ⟨by unfold iy; dsimp only; rw [← hs, if_neg (by assumption), if_neg (by simp_all), if_neg hany, if_neg (fun q => q.elim (by assumption) (fun q => by have := hst.1 q; omega))], hw.below (Bg.le.refl _)⟩
theorem mO (l : List SecV) (V : Value) (w : World) (hV : Sl (hp w) cm l V) (hB : SecB l) (hN : ∀ s ∈ l, s.name.size ≤ 9223372036854775807) :
  Calls Tryz.prog 23 #[V] w (fun e w' => e = .returned (.int .i64 (dV l)) ∧ Ext w w') := by
 have hV' : Sl (Bg.of w).blk cm l V := hV
 have hlen := hB.1
 refine enter Tryz.func23 rfl Tryz.ntmps23 rfl ?_
 refine af (ab (zz0 (ac rfl) (ae (aa (af (af (ab (zz0 (ad rfl) (zz0 (gA rfl bh) ?_)))))))))
 refine zz0 (fC rfl rfl) (ae (aa ?_))
 refine ak rfl ?_ ?_ <;> intro h1 <;> try simp only [bs] at h1
 ·refine af (ab (zz0 (ac rfl) (ae (aa (ao (an ?_))))))
  refine aI j1 rfl (fun w' hw => ?_)
  exact ⟨by rw [rZ (by assumption)], hw.below (Bg.le.refl _)⟩
 ·refine ax (aa (af (af (ab (zz0 (ac rfl) (ae (aa (aQ ?_))))))))
  refine cu (ι := Nat) (fun k => k ≤ l.length ∧ dP (iy l) k (l.length - k) = dP (iy l) 0 l.length) (fun _ => _) (fun k => []) (fun k => [(3, .int .i64 (k : Nat))]) (fun k => l.length - k) 0 ⟨Nat.zero_le _, rfl⟩ (.cons (by first | rfl | exact am rfl (by omega) | exact am rfl (by simp) | exact aR rfl (by simp)) Front.nil) (by repeat' constructor) rfl (fun k hi m hm => ?_)
  replace hi : k ≤ l.length ∧ dP (iy l) k (l.length - k) = dP (iy l) 0 l.length := hi
  replace hm : m = l.length - k := hm
  change Tr _ _ [] ([(3, .int .i64 (k : Nat))] ++ _) _
  obtain ⟨hk1, hk2⟩ := hi
  refine af (af (ab (zz0 (ad rfl) (zz0 (ad rfl) (zz0 (gA rfl bh) ?_)))))
  refine zz0 (cI rfl rfl) (ae (aa ?_))
  refine ak rfl ?_ ?_ <;> intro h2 <;> try simp only [bs] at h2
  ·refine ax (aa (af (aQ (af (ab (zz0 (ad rfl) (zz0 (ad rfl) (zz0 (aF rfl Tryz.call40 (fun w hw => ut l V k w (hw.slF hV) hB (by omega) (hN _ (fQ (by omega))))) ?_))))))))
   refine zz0 (ac rfl) (ae (aa (af (ab (zz0 (ad rfl) (zz0 (dN rfl rfl) (ae (aa ?_))))))))
   refine ak rfl ?_ ?_ <;> intro h3 <;> try simp only [bs] at h3
   ·refine af (ab (zz0 (ad rfl) (zz0 (ac rfl) (ae (aa (ao (bf (an (an (bf (an ?_)))))))))))
    refine aI j1 rfl (fun w' hw => ?_)
    exact ⟨by rw [np (v := iy l k) (by assumption) (by omega) hk2 rfl (by assumption)], hw.below (Bg.le.refl _)⟩
   ·refine ax (ba (aa (ab (zz0 (ad rfl) (zz0 (dy rfl rfl) ?_)))))
    refine zz0 (ac rfl) (ae (aa ?_))
    apply bT (k + 1)
    ·exact rfl
    ·exact (.cons (by first | rfl | exact am rfl (by omega) | exact am rfl (by simp) | exact aR rfl (by simp)) Front.nil)
    ·exact bR 14 rfl
    ·exact (by repeat' constructor)
    ·exact ⟨by omega, by rw [kF (by omega) (by omega), hk2]⟩
    ·exact (by (try dsimp only); omega)
  ·refine cj (aY (aY (bV (aa (af (af (ab (zz0 (ac rfl) (ae (aa (aQ ?_)))))))))))
   have hz1 : dP (iy l) 0 l.length = 0 := by rw [← hk2]; exact kE (by omega)
   clear hk2 hk1 hm
   refine cu (ι := Nat) (fun k => k ≤ l.length ∧ dP (fun i => if i7 l i = true then 10 else 0) k (l.length - k) = dP (fun i => if i7 l i = true then 10 else 0) 0 l.length) (fun _ => _) (fun k => []) (fun k => [(5, .int .i64 (k : Nat))]) (fun k => l.length - k) 0 ⟨Nat.zero_le _, rfl⟩ (.cons (by first | rfl | exact am rfl (by omega) | exact am rfl (by simp) | exact aR rfl (by simp)) Front.nil) (by repeat' constructor) rfl (fun k hi m hm => ?_)
   replace hi : k ≤ l.length ∧ dP (fun i => if i7 l i = true then 10 else 0) k (l.length - k) = dP (fun i => if i7 l i = true then 10 else 0) 0 l.length := hi
   replace hm : m = l.length - k := hm
   change Tr _ _ [] ([(5, .int .i64 (k : Nat))] ++ _) _
   obtain ⟨hk1, hk2⟩ := hi
   refine af (af (ab (zz0 (ad rfl) (zz0 (ad rfl) (zz0 (gA rfl bh) ?_)))))
   refine zz0 (cI rfl rfl) (ae (aa ?_))
   refine ak rfl ?_ ?_ <;> intro h4 <;> try simp only [bs] at h4
   ·refine ax (aa (af (aQ (af (ab (zz0 (ac rfl) (ae (aa (aQ ?_)))))))))
    refine cu (ι := Nat) (fun j => j ≤ k ∧ (l.take j).any (fun x => kD (eM x) (eM (l.getD k default))) = false) (fun _ => _) (fun j => []) (fun j => [(6, .int .i64 (j : Nat))]) (fun j => k - j) 0 ⟨Nat.zero_le _, rfl⟩ (.cons (by first | rfl | exact am rfl (by omega) | exact am rfl (by simp) | exact aR rfl (by simp)) Front.nil) (by repeat' constructor) rfl (fun j hi m hm => ?_)
    replace hi : j ≤ k ∧ (l.take j).any (fun x => kD (eM x) (eM (l.getD k default))) = false := hi
    replace hm : m = k - j := hm
    change Tr _ _ [] ([(6, .int .i64 (j : Nat))] ++ _) _
    obtain ⟨hj1, hj2⟩ := hi
    have hmi := tq (l.getD j default) (l.getD k default)
    refine af (af (ab (zz0 (ad rfl) (zz0 (ad rfl) (zz0 (cI rfl rfl) (ae (aa ?_)))))))
    refine ak rfl ?_ ?_ <;> intro h5 <;> try simp only [bs] at h5
    ·refine ax (aa (af (aQ (af (jf aU ?_)))))
     refine aJ (ad rfl) (aJ (ad rfl) (aJ (iZ rfl rfl bh bI) ?_))
     refine aJ (zz3 (off := 2) (ft := 62) rfl bC rfl c9) ?_
     refine aJ (k9 rfl dL) ?_
     refine aJ (fO rfl aD) ?_
     refine aJ (fC rfl rfl) (aJ (ad rfl) ?_)
     apply gy
     ·exact (rfl : _ = (8, 40, 48))
     ·exact rfl
     ·intro hT6; have hT6' := hT6
      try simp only [bs] at hT6'
      refine cg hT6 (ad rfl) (cg hT6 (ad rfl) (cg hT6 (iZ rfl rfl bh bI) ?_))
      refine cg hT6 (zz3 (off := 2) (ft := 62) rfl bC rfl c9) ?_
      refine cg hT6 (k9 rfl dL) ?_
      refine cg hT6 (fO rfl aD) ?_
      refine cg hT6 (fC rfl rfl) (aJ (aL rfl hT6 rfl) ?_)
      exact dG (Sub.cons rfl (zz8 8 rfl))
     ·intro hF6
      refine cf hF6 (cf hF6 (cf hF6 (cf hF6 (cf hF6 (cf hF6 (cf hF6 (aJ (aK rfl hF6 rfl) ?_)))))))
      exact dG (Sub.cons rfl (zz8 8 rfl))
     refine aJ (ad rfl) ?_
     apply gy
     ·exact (rfl : _ = (13, 49, 62))
     ·exact rfl
     ·intro hT7; have hT7' := hT7
      try simp only [bs] at hT7'
      refine cg hT7 (ad rfl) (cg hT7 (ad rfl) (cg hT7 (iZ rfl rfl bh bI) ?_))
      refine cg hT7 (zz3 (off := 1) (ft := 23) rfl bC rfl ah) ?_
      refine cg hT7 (k9 rfl ay) ?_
      refine cg hT7 (gj rfl aT aO) (cg hT7 (ad rfl) (cg hT7 (ad rfl) (cg hT7 (iZ rfl rfl bh bI) ?_)))
      refine cg hT7 (k7 rfl (by assumption) eG bI (by rfl) (by omega)) ?_
      refine cg hT7 (aF rfl mF (fun w hw => lM (l.getD j default) w (hB.at (by omega)))) ?_
      refine cg hT7 (cI rfl rfl) (aJ (aL rfl hT7 rfl) ?_)
      exact dG (Sub.cons rfl (zz8 13 rfl))
     ·intro hF7
      refine cf hF7 (cf hF7 (cf hF7 (cf hF7 (cf hF7 (cf hF7 (cf hF7 (cf hF7 (cf hF7 (cf hF7 (cf hF7 (cf hF7 (aJ (aK rfl hF7 rfl) ?_))))))))))))
      exact dG (Sub.cons rfl (zz8 13 rfl))
     refine aJ (ad rfl) ?_
     apply gy
     ·exact (rfl : _ = (13, 63, 76))
     ·exact rfl
     ·intro hT8; have hT8' := hT8
      try simp only [bs] at hT8'
      refine cg hT8 (ad rfl) (cg hT8 (ad rfl) (cg hT8 (iZ rfl rfl bh bI) ?_))
      refine cg hT8 (zz3 (off := 1) (ft := 23) rfl bC rfl ah) ?_
      refine cg hT8 (k9 rfl ay) ?_
      refine cg hT8 (gj rfl aT aO) (cg hT8 (ad rfl) (cg hT8 (ad rfl) (cg hT8 (iZ rfl rfl bh bI) ?_)))
      refine cg hT8 (k7 rfl (by assumption) eG bI (by rfl) (by omega)) ?_
      refine cg hT8 (aF rfl mF (fun w hw => lM (l.getD k default) w (hB.at (by omega)))) ?_
      refine cg hT8 (cI rfl rfl) (aJ (aL rfl hT8 rfl) ?_)
      exact dG (Sub.cons rfl (zz8 13 rfl))
     ·intro hF8
      refine cf hF8 (cf hF8 (cf hF8 (cf hF8 (cf hF8 (cf hF8 (cf hF8 (cf hF8 (cf hF8 (cf hF8 (cf hF8 (cf hF8 (aJ (aK rfl hF8 rfl) ?_))))))))))))
      exact dG (Sub.cons rfl (zz8 13 rfl))
     refine cG ?_
     refine aa ?_
     refine ak rfl ?_ ?_ <;> intro h9 <;> try simp only [bs] at h9
     ·refine af (ab (zz0 (ac rfl) (ae (aa (ao (bf (an (an (bf (bf (an (an (bf ?_)))))))))))))
      refine an ?_
      refine aI j1 rfl (fun w' hw => ?_)
      have hov : i7 l k = true := List.any_eq_true.2 ⟨l.getD j default, by rw [List.mem_take_iff_getElem]; exact ⟨j, by omega, by simp [List.getD_eq_getElem?_getD, show j < l.length by omega]⟩, hmi.2 (by omega)⟩
      exact ⟨by rw [vU (k := k) (by assumption) hz1 (by omega) hk2 hov], hw.below (Bg.le.refl _)⟩
     ·refine ax (ba (aa (ab (zz0 (ad rfl) (zz0 (dy rfl rfl) ?_)))))
      refine zz0 (ac rfl) (ae (aa ?_))
      have hmf : kD (eM (l.getD j default)) (eM (l.getD k default)) = false := by rw [← Bool.not_eq_true, hmi]; omega
      apply bT (j + 1)
      ·exact rfl
      ·exact (.cons (by first | rfl | exact am rfl (by omega) | exact am rfl (by simp) | exact aR rfl (by simp)) Front.nil)
      ·exact bR 20 rfl
      ·exact (by repeat' constructor)
      ·exact ⟨by omega, by rw [any_take_succ (by omega), hj2, hmf]; rfl⟩
      ·exact (by (try dsimp only); omega)
    ·refine cj (aY (aY (bV (ba (aa (ab (zz0 (ad rfl) (zz0 (dy rfl rfl) ?_))))))))
     refine zz0 (ac rfl) (ae (aa ?_))
     have hz : i7 l k = false := by obtain rfl : j = k := (by omega); exact hj2
     apply bT (k + 1)
     ·exact rfl
     ·exact (.cons (by first | rfl | exact am rfl (by omega) | exact am rfl (by simp) | exact aR rfl (by simp)) Front.nil)
     ·exact bR 13 rfl
     ·exact (by repeat' constructor)
     ·exact ⟨by omega, by rw [kF (by omega) (by rw [if_neg (by rw [hz]; decide)]), hk2]⟩
     ·exact (by (try dsimp only); omega)
   ·refine cj (aY (aY (bV (aa (af (ab (zz0 (ac rfl) (ae (aa (ao ?_))))))))))
    refine aI j1 rfl (fun w' hw => ?_)
    exact ⟨by rw [vT (by assumption) hz1 (by rw [← hk2]; exact kE (by omega))], hw.below (Bg.le.refl _)⟩
end Go.Proofs.YtpeaodkfbjenpaaGreat
namespace Go.Proofs.YtpeaodkfbjenpaaGreat
open Go Go.HL Go.RowKit
theorem jR (l : List SecV) (cs : List CellV) (xl xc : SV) (a : UInt32) (w : World) (hL : Sl (hp w) cm l (.slice xl.a xl.n xl.c)) (hC : Sl (hp w) cQ cs (.slice xc.a xc.n xc.c)) (hD : DataIn (hp w) l) (hB : SecB l) :
  Calls Tryz.prog 49 #[.agg (fX xl xc).toArray, .int .u32 a.toNat] w (fun e w' => e = .returned (.int .i64 (fp l a)) ∧ Ext w w') := by
 have hL' : Sl (Bg.of w).blk cm l (.slice xl.a xl.n xl.c) := hL
 have hC' : Sl (Bg.of w).blk cQ cs (.slice xc.a xc.n xc.c) := hC
 have hD' : DataIn (Bg.of w).blk l := hD
 have hln := hL.len_v
 have hcn := hC.len_v
 have hcl := hC.len_le
 have hrg := kz (l := l) (a := a)
 have hal := a.toNat_lt
 have hll := hB.1
 refine enter Tryz.func49 rfl Tryz.ntmps49 rfl ?_
 refine af (ab ?_)
 refine cH rfl rfl rfl (fun b1 => ?_)
 refine zz0 (ac rfl) (ae (aa (af (af (ab (zz0 (ad rfl) (zz0 (mt (n := 978944) rfl rfl) ?_)))))))
 refine zz0 (ad rfl) ?_
 apply bJ
 ·exact (rfl : _ = (3, 7, 10))
 ·exact rfl
 ·intro hT2; have hT2' := hT2
  try simp only [bs] at hT2'
  refine zz5 hT2 (ad rfl) (zz5 hT2 (gz (n := 983040) rfl rfl) ?_)
  refine zz0 (aL rfl hT2 rfl) ?_
  refine ae (aa ?_)
  exact av (Sub.cons rfl (zz8 3 rfl))
 ·intro hF2
  refine zz6 hF2 (zz6 hF2 (zz0 (aK rfl hF2 rfl) ?_))
  refine ae (aa ?_)
  exact av (Sub.cons rfl (zz8 3 rfl))
 refine ae (aa ?_)
 refine ak rfl ?_ ?_ <;> intro h3 <;> try simp only [bs] at h3
 ·refine af (ab (zz0 (zz3 (off := 1) (ft := 22) rfl bQ rfl eZ) ?_))
  refine zz0 (aM rfl fy) ?_
  refine zz0 (gA rfl bh) ?_
  refine zz0 (ac rfl) (ae (aa (ao (an ?_))))
  refine aI Tryz.results49 rfl (fun w' hw => ?_)
  exact ⟨by unfold fp e7; rw [if_pos (by simp_all)], hw.below (Bg.le.refl _)⟩
 ·refine ax (aa (af (ab (zz0 (zz3 (off := 1) (ft := 22) rfl bQ rfl eZ) ?_))))
  refine zz0 (aM rfl fy) ?_
  refine zz0 (ad rfl) (zz0 (aF rfl Tryz.call75 (fun w hw => sT l _ a w (hw.slF hL') hB)) ?_)
  refine zz0 (ac rfl) (ae (aa (ao ?_)))
  refine aI Tryz.results49 rfl (fun w' hw => ?_)
  exact ⟨by unfold fp e7; rw [if_neg (by simp only [Bool.and_eq_true, decide_eq_true_eq]; simp only [UInt32.lt_iff_toNat_lt, UInt32.le_iff_toNat_le] at *; omega)], hw.below (Bg.le.refl _)⟩
theorem mU (l : List SecV) (cs : List CellV) (xl xc : SV) (a : UInt32) (w : World) (hL : Sl (hp w) cm l (.slice xl.a xl.n xl.c)) (hC : Sl (hp w) cQ cs (.slice xc.a xc.n xc.c)) (hD : DataIn (hp w) l) (hB : SecB l) :
  Calls Tryz.prog 48 #[.agg (fX xl xc).toArray, .int .u32 a.toNat] w (fun e w' => e = .returned (.int .i64 (dS l a)) ∧ Ext w w') := by
 have hL' : Sl (Bg.of w).blk cm l (.slice xl.a xl.n xl.c) := hL
 have hC' : Sl (Bg.of w).blk cQ cs (.slice xc.a xc.n xc.c) := hC
 have hD' : DataIn (Bg.of w).blk l := hD
 have hln := hL.len_v
 have hcn := hC.len_v
 have hcl := hC.len_le
 have hrg := kz (l := l) (a := a)
 have hal := a.toNat_lt
 have hll := hB.1
 refine enter Tryz.func48 rfl Tryz.ntmps48 rfl ?_
 refine af (ab ?_)
 refine cH rfl rfl rfl (fun b1 => ?_)
 refine zz0 (ac rfl) (ae (aa (af (ab (zz0 (bK rfl bY bb) ?_)))))
 refine zz0 (ad rfl) (zz0 (aF rfl mE (fun w hw => jR l cs xl xc a w (hw.slF hL') (hw.slF hC') (hD'.mono hw.bg) hB)) ?_)
 refine zz0 (ac rfl) (ae (aa (af (af (ab (zz0 (ad rfl) (zz0 (cI rfl rfl) (ae (aa ?_)))))))))
 refine ak rfl ?_ ?_ <;> intro h2 <;> try simp only [bs] at h2
 ·refine af (ab (zz0 (ac rfl) (ae (aa (ao (an ?_))))))
  refine aI Tryz.results48 rfl (fun w' hw => ?_)
  exact ⟨by rw [vF (by assumption)], hw.below (Bg.le.refl _)⟩
 ·refine ax (aa (af (af (ab (zz0 (ad rfl) (zz0 (zz3 (off := 1) (ft := 22) rfl bQ rfl eZ) ?_))))))
  refine zz0 (aM rfl fy) ?_
  refine zz0 (gA rfl bh) ?_
  refine zz0 (aN rfl rfl) (ae (aa ?_))
  refine ak rfl ?_ ?_ <;> intro h3 <;> try simp only [bs] at h3
  ·refine af (ab (zz0 (ad rfl) (zz0 (eW (m := 983040) rfl rfl) ?_)))
   refine zz0 (gj rfl aT aO) (zz0 (ac rfl) (ae (aa (ao (an ?_)))))
   refine aI Tryz.results48 rfl (fun w' hw => ?_)
   exact ⟨by rw [xP (by omega)], hw.below (Bg.le.refl _)⟩
  ·refine ax (aa (af ?_))
   have hdl := hB.at (k := (fp l a).toNat) (by omega)
   have hdd := (a - (l.getD (fp l a).toNat default).addr).toNat_lt
   refine jf aU ?_
   refine aJ (zz3 (off := 1) (ft := 22) rfl bQ rfl eZ) ?_
   refine aJ (aM rfl fy) ?_
   refine aJ (ad rfl) (aJ (gK rfl rfl bh bI) ?_)
   refine aJ (zz3 (off := 2) (ft := 62) rfl bC rfl c9) ?_
   refine aJ (k9 rfl dL) ?_
   refine aJ (fO rfl aD) ?_
   refine aJ (ad rfl) (aJ (zz3 (off := 1) (ft := 22) rfl bQ rfl eZ) ?_)
   refine aJ (aM rfl fy) ?_
   refine aJ (ad rfl) (aJ (gK rfl rfl bh bI) ?_)
   refine aJ (zz3 (off := 1) (ft := 23) rfl bC rfl ah) ?_
   refine aJ (k9 rfl ay) ?_
   refine aJ (eW rfl rfl) ?_
   refine aJ (gj rfl aT aO) (aJ (ew rfl rfl) ?_)
   refine aJ (ac rfl) (cG ?_)
   refine aa (ao ?_)
   refine aI Tryz.results48 rfl (fun w' hw => ?_)
   have hsx : ei l a = (l.getD (fp l a).toNat default) := by unfold ei; rw [(ic (by assumption) (by first | assumption | simp_all)).2.1]
   exact ⟨by rw [xQ (by assumption) (by omega), hsx], hw.below (Bg.le.refl _)⟩
theorem mQ (l : List SecV) (cs : List CellV) (xl xc : SV) (a : UInt32) (w : World) (hL : Sl (hp w) cm l (.slice xl.a xl.n xl.c)) (hC : Sl (hp w) cQ cs (.slice xc.a xc.n xc.c)) (hD : DataIn (hp w) l) (hB : SecB l) :
  Calls Tryz.prog 54 #[.agg (fX xl xc).toArray, .int .u32 a.toNat] w (fun e w' => e = .returned (.int .u8 (i9 l a).toNat) ∧ Ext w w') := by
 have hL' : Sl (Bg.of w).blk cm l (.slice xl.a xl.n xl.c) := hL
 have hC' : Sl (Bg.of w).blk cQ cs (.slice xc.a xc.n xc.c) := hC
 have hD' : DataIn (Bg.of w).blk l := hD
 have hln := hL.len_v
 have hcn := hC.len_v
 have hcl := hC.len_le
 have hrg := kz (l := l) (a := a)
 have hal := a.toNat_lt
 have hll := hB.1
 refine enter Tryz.func54 rfl Tryz.ntmps54 rfl ?_
 refine af (ab ?_)
 refine cH rfl rfl rfl (fun b1 => ?_)
 refine zz0 (ac rfl) (ae (aa (af (ab (zz0 (bK rfl bY bb) ?_)))))
 refine zz0 (ad rfl) (zz0 (aF rfl mE (fun w hw => jR l cs xl xc a w (hw.slF hL') (hw.slF hC') (hD'.mono hw.bg) hB)) ?_)
 refine zz0 (ac rfl) (ae (aa (af (af (ab (zz0 (ad rfl) (zz0 (cI rfl rfl) (zz0 (ad rfl) ?_))))))))
 apply dk
 ·exact (rfl : _ = (6, 11, 17))
 ·exact rfl
 ·intro hF2; have hF2' := hF2
  try simp only [bs] at hF2'
  refine zz5 hF2 (ad rfl) (zz5 hF2 (zz3 (off := 1) (ft := 22) rfl bQ rfl eZ) ?_)
  refine zz5 hF2 (aM rfl fy) ?_
  refine zz5 hF2 (gA rfl bh) ?_
  refine zz5 hF2 (aN rfl rfl) (zz0 (aK rfl hF2 rfl) ?_)
  refine ae (aa ?_)
  exact av (Sub.cons rfl (zz8 6 rfl))
 ·intro hT2
  refine zz6 hT2 (zz6 hT2 (zz6 hT2 (zz6 hT2 (zz6 hT2 (zz0 (aL rfl hT2 rfl) ?_)))))
  refine ae (aa ?_)
  exact av (Sub.cons rfl (zz8 6 rfl))
 refine ae (aa ?_)
 refine ak rfl ?_ ?_ <;> intro h3 <;> try simp only [bs] at h3
 ·refine af (ab (zz0 (ac rfl) (ae (aa (ao (an ?_))))))
  refine aI Tryz.results54 rfl (fun w' hw => ?_)
  exact ⟨by rw [Ag (by first | (simp only [bs] at *; omega) | (rcases (by assumption : _ ∨ _) with q | q <;> first | (left; omega) | (right; omega)) | (by_cases q : fp l a < 0 <;> first | (left; exact q) | (right; simp_all)))]; rfl, hw.below (Bg.le.refl _)⟩
 ·refine ax (aa (af ?_))
  have hr1 : ¬ fp l a < 0 := by intro q; simp_all
  have hr2 : ¬ fp l a = (l.length : Int) := by intro q; simp_all
  have hsx : ei l a = (l.getD (fp l a).toNat default) := by unfold ei; rw [(ic hr1 hr2).2.1]
  have hat := xE hr1 hr2
  rw [hsx] at hat
  have hDk : Sl (Bg.of w).blk dJ (l.getD (fp l a).toNat default).data (.slice (l.getD (fp l a).toNat default).dp (l.getD (fp l a).toNat default).data.length (l.getD (fp l a).toNat default).dc) := hD' _ (fQ (by omega))
  refine jf aU ?_
  refine aJ (zz3 (off := 1) (ft := 22) rfl bQ rfl eZ) ?_
  refine aJ (aM rfl fy) ?_
  refine aJ (ad rfl) (aJ (gK rfl rfl bh bI) ?_)
  refine aJ (zz3 (off := 2) (ft := 62) rfl bC rfl c9) ?_
  refine aJ (k9 rfl dL) ?_
  refine aJ (ad rfl) (aJ (zz3 (off := 1) (ft := 22) rfl bQ rfl eZ) ?_)
  refine aJ (aM rfl fy) ?_
  refine aJ (ad rfl) (aJ (gK rfl rfl bh bI) ?_)
  refine aJ (zz3 (off := 1) (ft := 23) rfl bC rfl ah) ?_
  refine aJ (k9 rfl ay) ?_
  refine aJ (eW rfl rfl) ?_
  refine aJ (gj rfl aT aO) (aJ (iZ rfl rfl aD bO) ?_)
  refine aJ (gJ rfl cx) ?_
  refine aJ (ac rfl) (cG ?_)
  refine aa (ao ?_)
  refine aI Tryz.results54 rfl (fun w' hw => ?_)
  exact ⟨by rw [yD hr1 hr2, hsx]; first | rfl | simp [List.getD_eq_getElem?_getD] | (congr 2; omega), hw.below (Bg.le.refl _)⟩
theorem mP (l : List SecV) (cs : List CellV) (xl xc : SV) (a : UInt32) (w : World) (hL : Sl (hp w) cm l (.slice xl.a xl.n xl.c)) (hC : Sl (hp w) cQ cs (.slice xc.a xc.n xc.c)) (hD : DataIn (hp w) l) (hB : SecB l) :
  Calls Tryz.prog 58 #[.agg (fX xl xc).toArray, .int .u32 a.toNat] w (fun e w' => e = .returned (.int .u8 (mS l (dz cs) a).toNat) ∧ Ext w w') := by
 have hL' : Sl (Bg.of w).blk cm l (.slice xl.a xl.n xl.c) := hL
 have hC' : Sl (Bg.of w).blk cQ cs (.slice xc.a xc.n xc.c) := hC
 have hD' : DataIn (Bg.of w).blk l := hD
 have hln := hL.len_v
 have hcn := hC.len_v
 have hcl := hC.len_le
 have hrg := kz (l := l) (a := a)
 have hal := a.toNat_lt
 have hll := hB.1
 refine enter Tryz.func58 rfl Tryz.ntmps58 rfl ?_
 refine af (ab ?_)
 refine cH rfl rfl rfl (fun b1 => ?_)
 refine zz0 (ac rfl) (ae (aa (af (af (ab (zz0 (ac rfl) (ae (aa (aQ ?_)))))))))
 refine cu (ι := Nat) (fun k => k ≤ cs.length ∧ dz (cs.drop k) a = dz cs a) (fun _ => _) (fun k => [cellE b1 (fX xl xc) 30]) (fun k => [(5, .int .i64 (k : Nat))]) (fun k => cs.length - k) 0 ⟨Nat.zero_le _, rfl⟩ (.cons (by first | rfl | exact am rfl (by omega) | exact am rfl (by simp) | exact aR rfl (by simp)) Front.nil) (by repeat' constructor) rfl (fun k hi m hm => ?_)
 replace hi : k ≤ cs.length ∧ dz (cs.drop k) a = dz cs a := hi
 replace hm : m = cs.length - k := hm
 change Tr _ _ [cellE b1 (fX xl xc) 30] ([(5, .int .i64 (k : Nat))] ++ _) _
 obtain ⟨hk1, hk2⟩ := hi
 refine af (af (ab (zz0 (ad rfl) (zz0 (zz3 (off := 2) (ft := 28) rfl bQ rfl dY) ?_))))
 refine zz0 (aM rfl fb) ?_
 refine zz0 (gA rfl cD) ?_
 refine zz0 (cI rfl rfl) (ae (aa ?_))
 refine ak rfl ?_ ?_ <;> intro h2 <;> try simp only [bs] at h2
 ·refine ax (aa (af (aQ (af (ab (zz0 (zz3 (off := 2) (ft := 28) rfl bQ rfl dY) ?_))))))
  refine zz0 (aM rfl fb) ?_
  refine zz0 (ad rfl) (zz0 (iZ rfl rfl cD eS) ?_)
  refine zz0 (zz3 (off := 0) (ft := 23) rfl e9 rfl ah) ?_
  refine zz0 (k9 rfl ay) ?_
  refine zz0 (ad rfl) (zz0 (gh rfl rfl) ?_)
  refine ae (aa ?_)
  refine ak rfl ?_ ?_ <;> intro h3 <;> try simp only [bs] at h3
  ·refine af (ab (zz0 (zz3 (off := 2) (ft := 28) rfl bQ rfl dY) ?_))
   refine zz0 (aM rfl fb) ?_
   refine zz0 (ad rfl) (zz0 (iZ rfl rfl cD eS) ?_)
   refine zz0 (zz3 (off := 1) (ft := 5) rfl e9 rfl bO) ?_
   refine zz0 (k9 rfl cx) ?_
   refine zz0 (ac rfl) (ae (aa (ao (bf (an (an (bf (an ?_))))))))
   refine aI Tryz.results58 rfl (fun w' hw => ?_)
   exact ⟨by unfold mS; rw [← hk2, pX (k := k) (by omega), if_pos (by assumption)]; rfl, hw.below (Bg.le.refl _)⟩
  ·refine ax (ba (aa (ab (zz0 (ad rfl) (zz0 (dy rfl rfl) ?_)))))
   refine zz0 (ac rfl) (ae (aa ?_))
   apply bT (k + 1)
   ·exact rfl
   ·exact (.cons (by first | rfl | exact am rfl (by omega) | exact am rfl (by simp) | exact aR rfl (by simp)) Front.nil)
   ·exact bR 17 rfl
   ·exact (by repeat' constructor)
   ·exact ⟨by omega, by rw [← hk2, pX (k := k) (by omega), if_neg (by assumption)]⟩
   ·exact (by (try dsimp only); omega)
 ·refine cj (aY (aY (bV (aa (af (ab (zz0 (bK rfl bY bb) ?_)))))))
  refine zz0 (ad rfl) (zz0 (aF rfl Tryz.call54 (fun w hw => mQ l cs xl xc a w (hw.slF hL') (hw.slF hC') (hD'.mono hw.bg) hB)) ?_)
  refine zz0 (ac rfl) (ae (aa (ao ?_)))
  refine aI Tryz.results58 rfl (fun w' hw => ?_)
  exact ⟨by unfold mS; rw [← hk2, List.drop_of_length_le (by omega)]; rfl, hw.below (Bg.le.refl _)⟩
theorem sX (l : List SecV) (cs : List CellV) (xl xc : SV) (a : UInt32) (n : Int) (w : World) (hL : Sl (hp w) cm l (.slice xl.a xl.n xl.c)) (hC : Sl (hp w) cQ cs (.slice xc.a xc.n xc.c)) (hD : DataIn (hp w) l) (hB : SecB l) (hn : n ≤ 1000000) :
  Calls Tryz.prog 90 #[.agg (fX xl xc).toArray, .int .u32 a.toNat, .int .i64 n] w (fun e w' => ∃ V', e = .returned V' ∧ Ext w w' ∧ NewRow w w' 5 dJ ((dW l (dz cs) a n.toNat)) V') := by
 have hL' : Sl (Bg.of w).blk cm l (.slice xl.a xl.n xl.c) := hL
 have hC' : Sl (Bg.of w).blk cQ cs (.slice xc.a xc.n xc.c) := hC
 have hD' : DataIn (Bg.of w).blk l := hD
 have hln := hL.len_v
 have hcn := hC.len_v
 have hcl := hC.len_le
 have hrg := kz (l := l) (a := a)
 have hal := a.toNat_lt
 have hll := hB.1
 have hbl := kj l (dz cs) n.toNat a
 refine enter Tryz.func90 rfl Tryz.ntmps90 rfl ?_
 refine af (ab ?_)
 refine cH rfl rfl rfl (fun b1 => ?_)
 refine zz0 (ac rfl) (ae (aa (af (ab (zz0 (ac rfl) (ae (aa (af (af (ab (zz0 (ac rfl) (ae (aa ?_)))))))))))))
 refine aQ (f8 5 dJ ?_)
 refine cu (ι := Nat × Value) (fun ⟨k, V⟩ => k ≤ n.toNat) (fun _ => _) (fun ⟨k, V⟩ => [rowE V 5 dJ ((dW l (dz cs) a n.toNat).take k), cellE b1 (fX xl xc) 30]) (fun ⟨k, V⟩ => [(8, .int .i64 (k : Nat)), (7, V)]) (fun ⟨k, V⟩ => n.toNat - k) (0, _) (Nat.zero_le _) (.cons (by first | rfl | exact am rfl (by omega) | exact am rfl (by simp) | exact aR rfl (by simp)) (.cons (by first | rfl | exact am rfl (by omega) | exact am rfl (by simp) | exact aR rfl (by simp)) Front.nil)) (by repeat' constructor) rfl (fun i hi m hm => ?_)
 obtain ⟨k, V⟩ := i
 replace hi : k ≤ n.toNat := hi
 replace hm : m = n.toNat - k := hm
 change Tr _ _ [rowE V 5 dJ ((dW l (dz cs) a n.toNat).take k), cellE b1 (fX xl xc) 30] ([(8, .int .i64 (k : Nat)), (7, V)] ++ _) _
 have hk1 : k ≤ n.toNat := hi
 refine af (af (ab (zz0 (ad rfl) (zz0 (ad rfl) (zz0 (cI rfl rfl) (ae (aa ?_)))))))
 refine ak rfl ?_ ?_ <;> intro h2 <;> try simp only [bs] at h2
 ·refine ax (aa (af (aQ (ab (zz0 (ad rfl) (zz0 (bK rfl bY bb) ?_))))))
  refine zz0 (ad rfl) (zz0 (ad rfl) (zz0 (eX rfl aO aT) (zz0 (cJ rfl rfl) ?_)))
  refine zz0 (aF rfl Tryz.call58 (fun w hw => mP l cs xl xc (a + u32 (k : Int)) w (hw.slF hL') (hw.slF hC') (hD'.mono hw.bg) hB)) ?_
  refine fu (E := dJ) (mS l (dz cs) (a + u32 (k : Int))) rfl rfl aD bO jw (by rfl) (by rfl) rfl (fun V3 => ?_)
  refine zz7 rfl rfl aD lB (fun V4 => ?_)
  refine zz0 (ac rfl) (ae (ba (aa (ab (zz0 (ad rfl) (zz0 (dy rfl rfl) ?_))))))
  refine zz0 (ac rfl) (ae (aa ?_))
  have hst := g9 (l := (dW l (dz cs) a n.toNat)) (k := k) (by omega)
  have hgd : ((dW l (dz cs) a n.toNat)).getD k default = mS l (dz cs) (a + u32 (k : Int)) := by rw [List.getD_eq_getElem?_getD, lY l _ _ a k (by omega), mz]; rfl
  rw [hgd] at hst
  rw [← hst]
  apply bT (k + 1, _)
  ·exact rfl
  ·exact (.cons (by first | rfl | exact am rfl (by omega) | exact am rfl (by simp) | exact aR rfl (by simp)) (.cons (by first | rfl | exact am rfl (by omega) | exact am rfl (by simp) | exact aR rfl (by simp)) Front.nil))
  ·exact bR 18 rfl
  ·exact (by repeat' constructor)
  ·exact (by show k + 1 ≤ _; omega)
  ·exact (by show n.toNat - (k + 1) < m; omega)
 ·refine cj (aY (aY (bV (aa (af ?_)))))
  obtain rfl : k = n.toNat := by omega
  refine nr (l' := (dW l (dz cs) a n.toNat)) (List.take_of_length_le (by omega)) ?_
  refine ab (zz0 (ad rfl) (zz0 (ac rfl) (ae (aa (ao ?_)))))
  refine aI Tryz.results90 rfl (fun w' hw => ?_)
  exact ⟨_, rfl, hw.below (Bg.le.refl _), hw.new (.head _)⟩
theorem od (n : Int) (w : World) :
  Calls Tryz.prog 47 #[.int .i64 n] w (fun e w' => e = .returned (.bool (jh n)) ∧ Ext w w') := by
 refine enter Tryz.func47 rfl Tryz.ntmps47 rfl ?_
 refine af (ab (zz0 (ac rfl) (ae (aa (af (ab (zz0 (ad rfl) (zz0 (aN rfl rfl) (zz0 (ad rfl) ?_)))))))))
 apply dk
 ·exact (rfl : _ = (3, 5, 8))
 ·exact rfl
 ·intro hF1; have hF1' := hF1
  try simp only [bs] at hF1'
  refine zz5 hF1 (ad rfl) (zz5 hF1 (aN rfl rfl) (zz0 (aK rfl hF1 rfl) ?_))
  refine ae (aa ?_)
  exact av (Sub.cons rfl (zz8 3 rfl))
 ·intro hT1
  refine zz6 hT1 (zz6 hT1 (zz0 (aL rfl hT1 rfl) ?_))
  refine ae (aa ?_)
  exact av (Sub.cons rfl (zz8 3 rfl))
 refine zz0 (ad rfl) ?_
 apply dk
 ·exact (rfl : _ = (3, 9, 12))
 ·exact rfl
 ·intro hF2; have hF2' := hF2
  try simp only [bs] at hF2'
  refine zz5 hF2 (ad rfl) (zz5 hF2 (aN rfl rfl) (zz0 (aK rfl hF2 rfl) ?_))
  refine ae (aa ?_)
  exact av (Sub.cons rfl (zz8 3 rfl))
 ·intro hT2
  refine zz6 hT2 (zz6 hT2 (zz0 (aL rfl hT2 rfl) ?_))
  refine ae (aa ?_)
  exact av (Sub.cons rfl (zz8 3 rfl))
 refine zz0 (ac rfl) (ae (aa (ao ?_)))
 refine aI Tryz.results47 rfl (fun w' hw => ?_)
 exact ⟨by unfold jh; congr 2; rw [Bool.eq_iff_iff]; simp [or_assoc], hw.below (Bg.le.refl _)⟩
theorem lO (l : List SecV) (cs : List CellV) (xl xc : SV) (a : UInt32) (n : Int) (w : World) (hL : Sl (hp w) cm l (.slice xl.a xl.n xl.c)) (hC : Sl (hp w) cQ cs (.slice xc.a xc.n xc.c)) (hD : DataIn (hp w) l) (hB : SecB l) :
  Calls Tryz.prog 34 #[.agg (fX xl xc).toArray, .int .u32 a.toNat, .int .i64 n] w (fun e w' => e = .returned (.tuple #[.int .u32 (cP l (dz cs) a n).1.toNat, .int .i64 (cP l (dz cs) a n).2]) ∧ Ext w w') := by
 have hL' : Sl (Bg.of w).blk cm l (.slice xl.a xl.n xl.c) := hL
 have hC' : Sl (Bg.of w).blk cQ cs (.slice xc.a xc.n xc.c) := hC
 have hD' : DataIn (Bg.of w).blk l := hD
 have hln := hL.len_v
 have hcn := hC.len_v
 have hcl := hC.len_le
 have hrg := kz (l := l) (a := a)
 have hal := a.toNat_lt
 have hll := hB.1
 have hbl := kj l (dz cs) n.toNat a
 refine enter Tryz.func34 rfl Tryz.ntmps34 rfl ?_
 refine af (ab ?_)
 refine cH rfl rfl rfl (fun b1 => ?_)
 refine zz0 (ac rfl) (zz0 (ac rfl) (ae (aa (af (af (ab (zz0 (zz3 (off := 0) (ft := 4) rfl bQ rfl bv) ?_)))))))
 refine zz0 (aM rfl bP) ?_
 refine zz0 (cp rfl) (ae (aa ?_))
 refine ak rfl ?_ ?_ <;> intro h2 <;> try simp only [bs] at h2
 ·first | contradiction | (exfalso; omega) | simp_all
 ·refine ax (aa (af (af (ab (zz0 (ad rfl) (zz0 (aF rfl Tryz.call47 (fun w hw => od n w)) ?_))))))
  refine zz0 (cp rfl) (ae (aa ?_))
  refine ak rfl ?_ ?_ <;> intro h3 <;> try simp only [bs] at h3
  ·refine af (ab (zz0 (ac rfl) (zz0 (ac rfl) (ae (aa (ao (an ?_)))))))
   refine cy Tryz.results34 rfl rfl (fun w' hw => ?_)
   exact ⟨by rw [yy (by simp_all)]; rfl, hw.below (Bg.le.refl _)⟩
  ·refine ax (aa (af (af (ab (zz0 (bK rfl bY bb) ?_)))))
   refine zz0 (ad rfl) (zz0 (aF rfl Tryz.call48 (fun w hw => mU l cs xl xc a w (hw.slF hL') (hw.slF hC') (hD'.mono hw.bg) hB)) ?_)
   refine zz0 (ad rfl) (zz0 (cI rfl rfl) (ae (aa ?_)))
   refine ak rfl ?_ ?_ <;> intro h4 <;> try simp only [bs] at h4
   ·refine af (ab (zz0 (ac rfl) (zz0 (ac rfl) (ae (aa (ao (an ?_)))))))
    refine cy Tryz.results34 rfl rfl (fun w' hw => ?_)
    exact ⟨by rw [yx (by simp_all) (by assumption)]; rfl, hw.below (Bg.le.refl _)⟩
   ·refine ax (aa (af ?_))
    have hwd : jh n = true := by simp_all
    have hwn : n = 1 ∨ n = 2 ∨ n = 4 := by unfold jh at hwd; simp at hwd; omega
    refine ab (zz0 (ac rfl) (ae (aa (af (af (ab (zz0 (ad rfl) (zz0 (ew rfl rfl) ?_))))))))
    refine zz0 (ac rfl) (ae (aa (aQ ?_)))
    refine cu (ι := Nat) (fun k => k ≤ n.toNat) (fun _ => _) (fun k => [cellE b1 (fX xl xc) 30]) (fun k => [(9, .int .i64 ((k : Int) - 1)), (8, .int .u32 (leP ((dW l (dz cs) a n.toNat).drop k)).toNat)]) (fun k => k) n.toNat (Nat.le_refl _) (.cons (by first | rfl | exact am rfl (by omega) | exact am rfl (by rw [hup]) | exact am rfl (by rw [List.drop_of_length_le (by omega)]; rfl) | exact am rfl (by simp) | exact aR rfl (by simp)) (.cons (by first | rfl | exact am rfl (by omega) | exact am rfl (by rw [hup]) | exact am rfl (by rw [List.drop_of_length_le (by omega)]; rfl) | exact am rfl (by simp) | exact aR rfl (by simp)) Front.nil)) (by repeat' constructor) rfl (fun k hi m hm => ?_)
    replace hi : k ≤ n.toNat := hi
    replace hm : m = k := hm
    change Tr _ _ [cellE b1 (fX xl xc) 30] ([(9, .int .i64 ((k : Int) - 1)), (8, .int .u32 (leP ((dW l (dz cs) a n.toNat).drop k)).toNat)] ++ _) _
    have hk1 : k ≤ n.toNat := hi
    refine af (af (ab (zz0 (ad rfl) (zz0 (dh rfl rfl) (ae (aa ?_))))))
    refine ak rfl ?_ ?_ <;> intro h5 <;> try simp only [bs] at h5
    ·refine ax (aa (af (aQ (ab (zz0 (ad rfl) (zz0 (je (m := 256) rfl rfl) ?_))))))
     refine zz0 (bK rfl bY bb) ?_
     refine zz0 (ad rfl) (zz0 (ad rfl) (zz0 (eX rfl aO aT) (zz0 (cJ rfl rfl) ?_)))
     refine zz0 (aF rfl Tryz.call58 (fun w hw => mP l cs xl xc (a + u32 ((k : Int) - 1)) w (hw.slF hL') (hw.slF hC') (hD'.mono hw.bg) hB)) ?_
     refine zz0 (fl rfl bw aT) (zz0 (cJ rfl rfl) ?_)
     refine zz0 (ac rfl) (ae (ba (aa (ab (zz0 (ad rfl) (zz0 (ew rfl rfl) ?_))))))
     refine zz0 (ac rfl) (ae (aa ?_))
     have hup := BK (b := (dW l (dz cs) a n.toNat)) (k := k - 1) (by omega)
     rw [show k - 1 + 1 = k by omega] at hup
     have hgd : ((dW l (dz cs) a n.toNat)).getD (k - 1) default = mS l (dz cs) (a + u32 ((k : Int) - 1)) := by rw [List.getD_eq_getElem?_getD, lY l _ _ a (k - 1) (by omega), ← mz, show ((k - 1 : Nat) : Int) = (k : Int) - 1 by omega]; rfl
     rw [hgd] at hup
     apply bT (k - 1)
     ·exact rfl
     ·exact (.cons (by first | rfl | exact am rfl (by omega) | exact am rfl (by rw [hup]) | exact am rfl (by rw [List.drop_of_length_le (by omega)]; rfl) | exact am rfl (by simp) | exact aR rfl (by simp)) (.cons (by first | rfl | exact am rfl (by omega) | exact am rfl (by rw [hup]) | exact am rfl (by rw [List.drop_of_length_le (by omega)]; rfl) | exact am rfl (by simp) | exact aR rfl (by simp)) Front.nil))
     ·exact bR 18 rfl
     ·exact (by repeat' constructor)
     ·exact (by show k - 1 ≤ _; omega)
     ·exact (by show k - 1 < m; omega)
    ·refine cj (aY (aY (bV (aa (af (ab (zz0 (ad rfl) (zz0 (ac rfl) (zz0 (ac rfl) (ae (aa (ao ?_))))))))))))
     refine cy Tryz.results34 rfl rfl (fun w' hw => ?_)
     obtain rfl : k = 0 := by omega
     exact ⟨by rw [yw (by simp_all) (by assumption)]; rfl, hw.below (Bg.le.refl _)⟩
theorem sV (cs : List CellV) (xl xc : SV) (a : UInt32) (y : UInt8) (w : World) (hC : Sl (hp w) cQ cs (.slice xc.a xc.n xc.c)) (hcb : cs.length ≤ 10000000) :
  Calls Tryz.prog 50 #[.agg (fX xl xc).toArray, .int .u32 a.toNat, .int .u8 y.toNat] w (fun e w' => ∃ j : SV, e = .returned (.agg (fX xl j).toArray) ∧ Ext w w' ∧ NewRow w w' 106 cQ (kS a y cs) (.slice j.a j.n j.c)) := by
 have hC' : Sl (Bg.of w).blk cQ cs (.slice xc.a xc.n xc.c) := hC
 have hcn := hC.len_v
 refine enter Tryz.func50 rfl Tryz.ntmps50 rfl ?_
 refine af (ab ?_)
 refine cH rfl rfl rfl (fun b1 => ?_)
 refine cZ eB rfl (fun b2 => ?_)
 refine ae (aa (af (ab (zz0 (ac rfl) (ae (aa (af (aQ ?_))))))))
 refine cu (ι := Nat) (fun k => k ≤ cs.length ∧ ∀ j, j < k → (cs.getD j default).addr < a) (fun _ => _) (fun k => [cellE b2 [.bool false, .slice none 0 0, .slice none 0 0] 30, cellE b1 (fX xl xc) 30]) (fun k => [(7, .int .i64 (k : Nat))]) (fun k => cs.length - k) 0 ⟨Nat.zero_le _, fun j hj => by omega⟩ (.cons (by first | rfl | exact am rfl (by omega) | exact am rfl (by simp) | exact aR rfl (by simp)) Front.nil) (by repeat' constructor) rfl (fun k hi m hm => ?_)
 replace hi : k ≤ cs.length ∧ ∀ j, j < k → (cs.getD j default).addr < a := hi
 replace hm : m = cs.length - k := hm
 change Tr _ _ [cellE b2 [.bool false, .slice none 0 0, .slice none 0 0] 30, cellE b1 (fX xl xc) 30] ([(7, .int .i64 (k : Nat))] ++ _) _
 obtain ⟨hk1, hk2⟩ := hi
 refine af (af (ab (zz0 (ad rfl) (zz0 (zz3 (off := 2) (ft := 28) rfl bQ rfl dY) ?_))))
 refine zz0 (aM rfl fb) ?_
 refine zz0 (gA rfl cD) ?_
 refine zz0 (cI rfl rfl) (zz0 (ad rfl) ?_)
 apply bJ
 ·exact (rfl : _ = (9, 14, 23))
 ·exact rfl
 ·intro hT3; have hT3' := hT3
  try simp only [bs] at hT3'
  refine zz5 hT3 (zz3 (off := 2) (ft := 28) rfl bQ rfl dY) ?_
  refine zz5 hT3 (aM rfl fb) ?_
  refine zz5 hT3 (ad rfl) (zz5 hT3 (iZ rfl rfl cD eS) ?_)
  refine zz5 hT3 (zz3 (off := 0) (ft := 23) rfl e9 rfl ah) ?_
  refine zz5 hT3 (k9 rfl ay) ?_
  refine zz5 hT3 (ad rfl) (zz5 hT3 (gz rfl rfl) ?_)
  refine zz0 (aL rfl hT3 rfl) ?_
  refine ae (aa ?_)
  exact av (Sub.cons rfl (zz8 9 rfl))
 ·intro hF3
  refine zz6 hF3 (zz6 hF3 (zz6 hF3 (zz6 hF3 (zz6 hF3 (zz6 hF3 (zz6 hF3 (zz6 hF3 (zz0 (aK rfl hF3 rfl) ?_))))))))
  refine ae (aa ?_)
  exact av (Sub.cons rfl (zz8 9 rfl))
 refine ae (aa ?_)
 refine ak rfl ?_ ?_ <;> intro h4 <;> try simp only [bs] at h4
 ·refine ax (aa (aQ (ab (zz0 (ad rfl) (zz0 (dy rfl rfl) ?_)))))
  refine zz0 (ac rfl) (ae (ba (aa ?_)))
  have hlow : (cs.getD k default).addr < a := (by assumption : (k : Int) < (cs.length : Int) ∧ (cs.getD k default).addr < a).2
  have hnext : ∀ j, j < k + 1 → (cs.getD j default).addr < a := by
   intro j hj
   rcases Nat.lt_or_eq_of_le (Nat.lt_succ_iff.1 hj) with q | q
   ·exact hk2 j q
   ·subst q; exact hlow
  apply bT (k + 1)
  ·exact rfl
  ·exact (.cons (by first | rfl | exact am rfl (by omega) | exact am rfl (by simp) | exact aR rfl (by simp)) Front.nil)
  ·exact bR 11 rfl
  ·exact (by repeat' constructor)
  ·exact ⟨by omega, hnext⟩
  ·exact (by show cs.length - (k + 1) < m; omega)
 ·refine cj (aY (aY (bV (aa (af ?_)))))
  have hstop : k < cs.length → ¬ (cs.getD k default).addr < a := by
   intro q1 q2
   rcases (by assumption : ¬ (k : Int) < (cs.length : Int) ∨ ¬ (cs.getD k default).addr < a) with q | q
   ·omega
   ·exact q q2
  have hparts := pw (b := y) cs k hk1 hk2 hstop
  have hs1 : Sl (Bg.of w).blk cQ (cs.take k) (HL.B1 (.slice xc.a xc.n xc.c) 0 k cQ.k) := by
   have q := Sl.resl hC' (l := 0) (h := k) (by omega) (by omega)
   rw [List.drop_zero] at q; exact q
  refine ab ?_
  refine oU cQ cD eS rfl (fun V5 => ?_)
  refine zz0 (zz3 (off := 2) (ft := 28) rfl bQ rfl dY) ?_
  refine zz0 (aM rfl fb) ?_
  refine zz0 (ad rfl) (zz0 (qk (lv := none) (hv := some (_, _)) rfl rfl rfl cD eS) ?_)
  refine gI (ys := cs.take k) rfl rfl (by repeat constructor) (fun w hw => hw.slF hs1) cD my (by rfl) (by rfl) (by (try simp only [List.length_cons, List.length_nil, List.length_append, List.length_take, List.length_drop]); omega) (by unfold maxLen; (try simp only [List.length_cons, List.length_nil, List.length_append, List.length_take, List.length_drop]); omega) rfl (fun V71 => ?_)
  rw [List.nil_append]
  refine zz0 (ac rfl) (ae (aa (af (ab (zz0 (ad rfl) (zz0 (ad rfl) (zz0 (ad rfl) (zz0 (bE (vs := [(0, _), (1, _)]) rfl rfl (nY _ _)) ?_))))))))
  refine fu (E := cQ) (⟨a, y⟩ : CellV) rfl rfl cD eS Tryz.zeroValue106 (by rfl) (by rfl) rfl (fun V6 => ?_)
  refine zz7 rfl rfl cD my (fun V7 => ?_)
  refine zz0 (ac rfl) (ae (aa ?_))
  refine eE (ι := Nat × Value) (fun ⟨k2, Vj⟩ => k2 = (if k < cs.length ∧ (cs.getD k default).addr = a then k + 1 else k)) (fun _ => Bg.of w) (fun ⟨k2, Vj⟩ => [rowE Vj 106 cQ (cs.take k ++ [⟨a, y⟩]), cellE b2 [.bool false, .slice none 0 0, .slice none 0 0] 30, cellE b1 (fX xl xc) 30]) (fun ⟨k2, Vj⟩ => [(7, .int .i64 (k2 : Nat)), (8, Vj)]) ?_ (fun i hi => ?_)
  ·skip
   refine af (ab (zz0 (ad rfl) (zz0 (zz3 (off := 2) (ft := 28) rfl bQ rfl dY) ?_)))
   refine zz0 (aM rfl fb) ?_
   refine zz0 (gA rfl cD) ?_
   refine zz0 (cI rfl rfl) (zz0 (ad rfl) ?_)
   apply bJ
   ·exact (rfl : _ = (9, 43, 52))
   ·exact rfl
   ·intro hT8; have hT8' := hT8
    try simp only [bs] at hT8'
    refine zz5 hT8 (zz3 (off := 2) (ft := 28) rfl bQ rfl dY) ?_
    refine zz5 hT8 (aM rfl fb) ?_
    refine zz5 hT8 (ad rfl) (zz5 hT8 (iZ rfl rfl cD eS) ?_)
    refine zz5 hT8 (zz3 (off := 0) (ft := 23) rfl e9 rfl ah) ?_
    refine zz5 hT8 (k9 rfl ay) ?_
    refine zz5 hT8 (ad rfl) (zz5 hT8 (gh rfl rfl) ?_)
    refine zz0 (aL rfl hT8 rfl) ?_
    refine ae (aa ?_)
    exact av (Sub.cons rfl (zz8 9 rfl))
   ·intro hF8
    refine zz6 hF8 (zz6 hF8 (zz6 hF8 (zz6 hF8 (zz6 hF8 (zz6 hF8 (zz6 hF8 (zz6 hF8 (zz0 (aK rfl hF8 rfl) ?_))))))))
    refine ae (aa ?_)
    exact av (Sub.cons rfl (zz8 9 rfl))
   refine ae (aa ?_)
   refine ak rfl ?_ ?_ <;> intro h9 <;> try simp only [bs] at h9
   ·refine ab (zz0 (ad rfl) (zz0 (dy rfl rfl) ?_))
    refine zz0 (ac rfl) (ae (aa ?_))
    have hc2 : k < cs.length ∧ (cs.getD k default).addr = a := by
     obtain ⟨q1, q2⟩ := (by assumption : (k : Int) < (cs.length : Int) ∧ (cs.getD k default).addr = a)
     exact ⟨by omega, q2⟩
    apply a9 (k + 1, _)
    ·exact rfl
    ·exact (.cons (by first | rfl | exact am rfl (by omega) | exact am rfl (by simp) | exact aR rfl (by simp)) (.cons (by first | rfl | exact am rfl (by omega) | exact am rfl (by simp) | exact aR rfl (by simp)) Front.nil))
    ·exact bR 10 rfl
    ·exact (by repeat' constructor)
    ·exact (by show k + 1 = _; rw [if_pos hc2])
   ·refine ax (aa ?_)
    have hc2 : ¬ (k < cs.length ∧ (cs.getD k default).addr = a) := by
     rintro ⟨q1, q2⟩
     rcases (by assumption : ¬ (k : Int) < (cs.length : Int) ∨ ¬ (cs.getD k default).addr = a) with q | q
     ·omega
     ·exact q q2
    apply a9 (k, _)
    ·exact rfl
    ·exact (.cons (by first | rfl | exact am rfl (by omega) | exact am rfl (by simp) | exact aR rfl (by simp)) (.cons (by first | rfl | exact am rfl (by omega) | exact am rfl (by simp) | exact aR rfl (by simp)) Front.nil))
    ·exact bR 7 rfl
    ·exact (by repeat' constructor)
    ·exact (by show k = _; rw [if_neg hc2])
  ·obtain ⟨k2, Vj⟩ := i
   replace hi : k2 = (if k < cs.length ∧ (cs.getD k default).addr = a then k + 1 else k) := hi
   change Tr _ _ [rowE Vj 106 cQ (cs.take k ++ [⟨a, y⟩]), cellE b2 [.bool false, .slice none 0 0, .slice none 0 0] 30, cellE b1 (fX xl xc) 30] ([(7, .int .i64 (k2 : Nat)), (8, Vj)] ++ _) _
   have hk2' : k2 = (if k < cs.length ∧ (cs.getD k default).addr = a then k + 1 else k) := hi
   have hk2l : k2 ≤ cs.length := by rw [hk2']; split <;> omega
   have hs2 : Sl (Bg.of w).blk cQ (cs.drop k2) (HL.B1 (.slice xc.a xc.n xc.c) k2 cs.length cQ.k) := by
    have q := Sl.resl hC' (l := k2) (h := cs.length) (by omega) (by omega)
    rw [List.take_length] at q; exact q
   rw [← hk2'] at hparts
   have hdl : (cs.drop k2).length = cs.length - k2 := List.length_drop
   refine af (ab (zz0 (ad rfl) (zz0 (zz3 (off := 2) (ft := 28) rfl bQ rfl dY) ?_)))
   refine zz0 (aM rfl fb) ?_
   refine zz0 (ad rfl) (zz0 (qk (lv := some (_, _)) (hv := none) rfl rfl rfl cD eS) ?_)
   refine gI (ys := cs.drop k2) rfl rfl (by repeat constructor) (fun w hw => hw.slF hs2) cD my (by rfl) (by rfl) (by (try simp only [List.length_cons, List.length_nil, List.length_append, List.length_take, List.length_drop]); omega) (by unfold maxLen; (try simp only [List.length_cons, List.length_nil, List.length_append, List.length_take, List.length_drop]); omega) rfl (fun V73 => ?_)
   have hres : cs.take k ++ [⟨a, y⟩] ++ cs.drop k2 = kS a y cs := by rw [hparts]
   rw [hres]
   refine jx (V := V73) (fun p73 c73 hpv => ?_)
   subst hpv
   refine zz0 (zz3 (off := 2) (ft := 28) rfl bQ rfl dY) ?_
   refine zz4 rfl rfl dY (rfl : splice (fX xl xc) 2 [.slice p73 _ c73] = fX xl ⟨p73, _, c73⟩) ?_
   refine ae (aa (af (ab (zz0 (bK rfl bY bb) ?_))))
   refine bu ia rfl rfl bb ?_
   refine ae (aa (ao ?_))
   refine fE Tryz.results50 rfl (by repeat constructor) bY bb (by rfl) (fun w' hw => ?_)
   exact ⟨⟨p73, _, c73⟩, rfl, hw.below (Bg.le.refl _), hw.new (by repeat constructor)⟩
theorem kB (l : List SecV) (cs : List CellV) (xl xc : SV) (a : UInt32) (n : Int) (y : UInt32) (w : World) (hL : Sl (hp w) cm l (.slice xl.a xl.n xl.c)) (hC : Sl (hp w) cQ cs (.slice xc.a xc.n xc.c)) (hD : DataIn (hp w) l) (hB : SecB l) (hcb : cs.length ≤ 2000000) :
  Calls Tryz.prog 27 #[.agg (fX xl xc).toArray, .int .u32 a.toNat, .int .i64 n, .int .u32 y.toNat] w (fun e w' => ∃ j : SV, e = .returned (.tuple #[.agg (fX xl j).toArray, .int .i64 (bS l (dz cs) a n y).2]) ∧ Ext w w' ∧ ((bS l (dz cs) a n y).2 ≠ 0 → j = xc) ∧ ((bS l (dz cs) a n y).2 = 0 → Sl (pG w w') cQ (fr cs a y n.toNat) (.slice j.a j.n j.c))) := by
 have hL' : Sl (Bg.of w).blk cm l (.slice xl.a xl.n xl.c) := hL
 have hC' : Sl (Bg.of w).blk cQ cs (.slice xc.a xc.n xc.c) := hC
 have hD' : DataIn (Bg.of w).blk l := hD
 have hln := hL.len_v
 have hcn := hC.len_v
 have hcl := hC.len_le
 have hrg := kz (l := l) (a := a)
 have hal := a.toNat_lt
 have hll := hB.1
 refine enter Tryz.func27 rfl Tryz.ntmps27 rfl ?_
 refine af (ab ?_)
 refine cH rfl rfl rfl (fun b1 => ?_)
 refine cZ eB rfl (fun b2 => ?_)
 refine zz0 (ac rfl) (ae (aa (af (af (ab (zz0 (zz3 (off := 0) (ft := 4) rfl bQ rfl bv) ?_))))))
 refine zz0 (aM rfl bP) ?_
 refine zz0 (cp rfl) (ae (aa ?_))
 refine ak rfl ?_ ?_ <;> intro h3 <;> try simp only [bs] at h3
 ·first | contradiction | (exfalso; omega) | simp_all
 ·refine ax (aa (af (af (ab (zz0 (ad rfl) (zz0 (aF rfl Tryz.call47 (fun w hw => od n w)) ?_))))))
  refine zz0 (cp rfl) (ae (aa ?_))
  refine ak rfl ?_ ?_ <;> intro h4 <;> try simp only [bs] at h4
  ·refine af (ab (zz0 (bK rfl bY bb) ?_))
   refine bu ia rfl rfl bb ?_
   refine zz0 (ac rfl) (ae (aa (ao (an ?_))))
   refine d5 jZ rfl rfl bY bb (fun w' hw => ?_)
   exact ⟨xc, by rw [bS, if_pos (by simp_all)] <;> rfl, hw.below (Bg.le.refl _), fun _ => rfl, fun q => by rw [bS, if_pos (by simp_all)] at q; cases q⟩
  ·refine ax (aa (af (af (ab (zz0 (bK rfl bY bb) ?_)))))
   refine zz0 (ad rfl) (zz0 (aF rfl Tryz.call48 (fun w hw => mU l cs xl xc a w (hw.slF hL') (hw.slF hC') (hD'.mono hw.bg) hB)) ?_)
   refine zz0 (ad rfl) (zz0 (cI rfl rfl) (ae (aa ?_)))
   refine ak rfl ?_ ?_ <;> intro h5 <;> try simp only [bs] at h5
   ·refine af (ab (zz0 (bK rfl bY bb) ?_))
    refine bu ia rfl rfl bb ?_
    refine zz0 (ac rfl) (ae (aa (ao (an ?_))))
    refine d5 jZ rfl rfl bY bb (fun w' hw => ?_)
    exact ⟨xc, by rw [bS, if_neg (by simp_all), if_pos (by assumption)] <;> rfl, hw.below (Bg.le.refl _), fun _ => rfl, fun q => by rw [bS, if_neg (by simp_all), if_pos (by assumption)] at q; cases q⟩
   ·refine ax (aa (af ?_))
    have hwd : jh n = true := by simp_all
    have hwn : n = 1 ∨ n = 2 ∨ n = 4 := by unfold jh at hwd; simp at hwd; omega
    have hrn := xR (l := l) (a := a) (by omega)
    refine ab (zz0 (bK rfl bY bb) ?_)
    refine zz0 (ad rfl) (zz0 (aF rfl mE (fun w hw => jR l cs xl xc a w (hw.slF hL') (hw.slF hC') (hD'.mono hw.bg) hB)) ?_)
    refine zz0 (ac rfl) (ae (aa (af (af (ab (zz0 (ad rfl) (zz0 (zz3 (off := 1) (ft := 22) rfl bQ rfl eZ) ?_)))))))
    refine zz0 (aM rfl fy) ?_
    refine zz0 (gA rfl bh) ?_
    refine zz0 (cI rfl rfl) (zz0 (ad rfl) ?_)
    apply bJ
    ·exact (rfl : _ = (8, 34, 42))
    ·exact rfl
    ·intro hT6; have hT6' := hT6
     try simp only [bs] at hT6'
     refine zz5 hT6 (zz3 (off := 1) (ft := 22) rfl bQ rfl eZ) ?_
     refine zz5 hT6 (aM rfl fy) ?_
     refine zz5 hT6 (ad rfl) (zz5 hT6 (gK rfl rfl bh bI) ?_)
     refine zz5 hT6 (zz3 (off := 3) (ft := 4) rfl bC rfl bv) ?_
     refine zz5 hT6 (k9 rfl bP) ?_
     refine zz5 hT6 (cp rfl) (zz0 (aL rfl hT6 rfl) ?_)
     refine ae (aa ?_)
     exact av (Sub.cons rfl (zz8 8 rfl))
    ·intro hF6
     refine zz6 hF6 (zz6 hF6 (zz6 hF6 (zz6 hF6 (zz6 hF6 (zz6 hF6 (zz6 hF6 (zz0 (aK rfl hF6 rfl) ?_)))))))
     refine ae (aa ?_)
     exact av (Sub.cons rfl (zz8 8 rfl))
    refine ae (aa ?_)
    refine ak rfl ?_ ?_ <;> intro h7 <;> try simp only [bs] at h7
    ·refine af (ab (zz0 (bK rfl bY bb) ?_))
     refine bu ia rfl rfl bb ?_
     refine zz0 (ac rfl) (ae (aa (ao (an ?_))))
     refine d5 jZ rfl rfl bY bb (fun w' hw => ?_)
     have hlt : fp l a < (l.length : Int) := by simp_all
     have hsx : ei l a = (l.getD (fp l a).toNat default) := by unfold ei; rw [(ic hrn (by omega)).2.1]
     have hwr : wrA l a = false := by rw [xk hrn (by omega), hsx]; simp_all
     exact ⟨xc, by rw [bS, if_neg (by simp_all), if_neg (by assumption), if_pos hwr] <;> rfl, hw.below (Bg.le.refl _), fun _ => rfl, fun q => by rw [bS, if_neg (by simp_all), if_neg (by assumption), if_pos hwr] at q; cases q⟩
    ·refine ax (aa (af (af ?_)))
     have hwr : wrA l a = true := by
      by_cases q : fp l a = (l.length : Int)
      ·exact A0 q
      ·rw [xk hrn q]
       have hsx : ei l a = (l.getD (fp l a).toNat default) := by unfold ei; rw [(ic hrn q).2.1]
       rw [hsx]
       have hlt : fp l a < (l.length : Int) := by omega
       simp_all
     refine ab (zz0 (ac rfl) (ae (aa (aQ ?_))))
     refine cu (ι := Nat × SV × Bg) (fun ⟨k, xg, G⟩ => k ≤ n.toNat ∧ (Bg.of w).le G ∧ Sl G.blk cQ (fr cs a y k) (.slice xg.a xg.n xg.c) ∧ (0 < k → Sl (vis wF w.heap.size G.blk) cQ (fr cs a y k) (.slice xg.a xg.n xg.c))) (fun ⟨k, xg, G⟩ => G) (fun ⟨k, xg, G⟩ => [cellE b2 [.bool false, .slice none 0 0, .slice none 0 0] 30, cellE b1 (fX xl xg) 30]) (fun ⟨k, xg, G⟩ => [(11, .int .i64 (k : Nat)), (3, .int .u32 (fP y (8 * k)).toNat)]) (fun ⟨k, xg, G⟩ => n.toNat - k) (0, xc, Bg.of w) ⟨Nat.zero_le _, Bg.le.refl _, hC', fun q => by omega⟩ (.cons (by first | rfl | exact am rfl (by omega) | exact am rfl (by rw [kx]) | exact am rfl (by rw [Nat.mul_zero, ky]) | exact am rfl (by simp) | exact aR rfl (by simp)) (.cons (by first | rfl | exact am rfl (by omega) | exact am rfl (by rw [kx]) | exact am rfl (by rw [Nat.mul_zero, ky]) | exact am rfl (by simp) | exact aR rfl (by simp)) Front.nil)) (by repeat' constructor) rfl (fun i hi m hm => ?_)
     obtain ⟨k, xg, G⟩ := i
     replace hi : k ≤ n.toNat ∧ (Bg.of w).le G ∧ Sl G.blk cQ (fr cs a y k) (.slice xg.a xg.n xg.c) ∧ (0 < k → Sl (vis wF w.heap.size G.blk) cQ (fr cs a y k) (.slice xg.a xg.n xg.c)) := hi
     replace hm : m = n.toNat - k := hm
     change Tr _ (G) [cellE b2 [.bool false, .slice none 0 0, .slice none 0 0] 30, cellE b1 (fX xl xg) 30] ([(11, .int .i64 (k : Nat)), (3, .int .u32 (fP y (8 * k)).toNat)] ++ _) _
     obtain ⟨hk1, hG, hxg, hxn⟩ := hi
     have hpl := j4 cs a y k
     refine af (af (ab (zz0 (ad rfl) (zz0 (ad rfl) (zz0 (cI rfl rfl) (ae (aa ?_)))))))
     refine ak rfl ?_ ?_ <;> intro h8 <;> try simp only [bs] at h8
     ·refine ax (aa (af (aQ (af (ab (zz0 (bK rfl bY bb) ?_))))))
      refine zz0 (ad rfl) (zz0 (ad rfl) (zz0 (eX rfl aO aT) (zz0 (cJ rfl rfl) ?_)))
      refine zz0 (ad rfl) (zz0 (ko (n := 256) rfl rfl (by first | decide | assumption)) ?_)
      refine zz0 (oy rfl aT bw) ?_
      refine fS (H0 := wF) (n := w.heap.size) (R := fun h (j : SV) => Sl h cQ (kS (a + u32 (k : Int)) (fP y (8 * k) % 256).toUInt8 (fr cs a y k)) (.slice j.a j.n j.c)) (fun j : SV => .agg (fX xl j).toArray) hG.lo (nc _) (fun h h' i hh r => r.mono hh) rfl Tryz.call50 (fun w hw hv => (sV (fr cs a y k) xl xg (a + u32 (k : Int)) (fP y (8 * k) % 256).toUInt8 w (hw.slF hxg) (by omega)).mono fun e w' ⟨j, q1, q2, q3⟩ => ⟨j, q1, q2, q3.sl.mono jk⟩) rfl (fun j F1 hF1 hj => ?_)
      refine bu ia rfl rfl bb ?_
      refine ae (aa (ab (zz0 (ad rfl) (zz0 (nt (n := 256) rfl rfl (by first | decide | assumption)) ?_))))
      refine zz0 (ac rfl) (ae (ba (aa (ab (zz0 (ad rfl) (zz0 (dy rfl rfl) ?_))))))
      refine zz0 (ac rfl) (ae (aa ?_))
      have hput : kS (a + u32 (k : Int)) (fP y (8 * k) % 256).toUInt8 (fr cs a y k) = fr cs a y (k + 1) := by rw [W.u32_byteI, mz]; rfl
      rw [hput] at hj
      apply bT (k + 1, j, F1)
      ·exact rfl
      ·exact (.cons (by first | rfl | exact am rfl (by omega) | exact am rfl (by rw [kx]) | exact am rfl (by rw [Nat.mul_zero, ky]) | exact am rfl (by simp) | exact aR rfl (by simp)) (.cons (by first | rfl | exact am rfl (by omega) | exact am rfl (by rw [kx]) | exact am rfl (by rw [Nat.mul_zero, ky]) | exact am rfl (by simp) | exact aR rfl (by simp)) Front.nil))
      ·exact bR 20 rfl
      ·exact (by repeat' constructor)
      ·exact ⟨by omega, hG.trans hF1, hj.mono (nA (nc _)), fun _ => hj⟩
      ·exact (by show n.toNat - (k + 1) < m; omega)
     ·refine cj (aY (aY (bV (aa (af (ab (zz0 (bK rfl bY bb) ?_)))))))
      refine bu ia rfl rfl bb ?_
      refine zz0 (ac rfl) (ae (aa (ao ?_)))
      refine d5 jZ rfl rfl bY bb (fun w' hw => ?_)
      obtain rfl : k = n.toNat := by omega
      have hst : bS l (dz cs) a n y = (mL (dz cs) a y n.toNat, 0) := oK (by simp_all) (by assumption) (by rw [hwr]; simp)
      exact ⟨xg, by rw [hst] <;> rfl, hw.below hG, fun q => by rw [hst] at q; exact absurd rfl q, fun _ => (hxn (by omega)).mono (bU hw.hp)⟩
theorem sW (l : List SecV) (cs : List CellV) (xl xc : SV) (a : UInt32) (w : World) (hL : Sl (hp w) cm l (.slice xl.a xl.n xl.c)) (hC : Sl (hp w) cQ cs (.slice xc.a xc.n xc.c)) (hD : DataIn (hp w) l) (hB : SecB l) :
  Calls Tryz.prog 62 #[.agg (fX xl xc).toArray, .int .u32 a.toNat] w (fun e w' => ∃ V', e = .returned (.tuple #[V', .int .i64 (dK l (dz cs) a).2]) ∧ Ext w w' ∧ NewRow w w' 5 dJ (dK l (dz cs) a).1 V') := by
 have hL' : Sl (Bg.of w).blk cm l (.slice xl.a xl.n xl.c) := hL
 have hC' : Sl (Bg.of w).blk cQ cs (.slice xc.a xc.n xc.c) := hC
 have hD' : DataIn (Bg.of w).blk l := hD
 have hln := hL.len_v
 have hcn := hC.len_v
 have hcl := hC.len_le
 have hrg := kz (l := l) (a := a)
 have hal := a.toNat_lt
 have hll := hB.1
 refine enter Tryz.func62 rfl Tryz.ntmps62 rfl ?_
 refine af (ab ?_)
 refine cH rfl rfl rfl (fun b1 => ?_)
 refine zz0 (ac rfl) (zz0 (ac rfl) (ae (aa (af (af (ab (zz0 (zz3 (off := 0) (ft := 4) rfl bQ rfl bv) ?_)))))))
 refine zz0 (aM rfl bP) ?_
 refine zz0 (cp rfl) (ae (aa ?_))
 refine ak rfl ?_ ?_ <;> intro h2 <;> try simp only [bs] at h2
 ·first | contradiction | (exfalso; omega) | simp_all
 ·refine ax (aa (af (ab (zz0 (bK rfl bY bb) ?_))))
  refine zz0 (ad rfl) (zz0 (aF rfl mE (fun w hw => jR l cs xl xc a w (hw.slF hL') (hw.slF hC') (hD'.mono hw.bg) hB)) ?_)
  refine zz0 (ac rfl) (ae (aa (af (af (ab (zz0 (ad rfl) (zz0 (cI rfl rfl) (ae (aa ?_)))))))))
  refine ak rfl ?_ ?_ <;> intro h3 <;> try simp only [bs] at h3
  ·refine af (ab (zz0 (ac rfl) (zz0 (ac rfl) (ae (aa (ao (an ?_)))))))
   refine cy Tryz.results62 rfl rfl (fun w' hw => ?_)
   have hq : dK l (dz cs) a = ([], 11) := by unfold dK; rw [if_pos (m7.1 (by assumption))]
   exact ⟨_, by rw [hq], hw.below (Bg.le.refl _), kc (by rw [hq])⟩
  ·refine ax (aa (af (af (ab (zz0 (ad rfl) (zz0 (zz3 (off := 1) (ft := 22) rfl bQ rfl eZ) ?_))))))
   refine zz0 (aM rfl fy) ?_
   refine zz0 (gA rfl bh) ?_
   refine zz0 (aN rfl rfl) (zz0 (ad rfl) ?_)
   apply dk
   ·exact (rfl : _ = (8, 20, 28))
   ·exact rfl
   ·intro hF4; have hF4' := hF4
    try simp only [bs] at hF4'
    refine zz5 hF4 (zz3 (off := 1) (ft := 22) rfl bQ rfl eZ) ?_
    refine zz5 hF4 (aM rfl fy) ?_
    refine zz5 hF4 (ad rfl) (zz5 hF4 (gK rfl rfl bh bI) ?_)
    refine zz5 hF4 (zz3 (off := 4) (ft := 4) rfl bC rfl bv) ?_
    refine zz5 hF4 (k9 rfl bP) ?_
    refine zz5 hF4 (cp rfl) (zz0 (aK rfl hF4 rfl) ?_)
    refine ae (aa ?_)
    exact av (Sub.cons rfl (zz8 8 rfl))
   ·intro hT4
    refine zz6 hT4 (zz6 hT4 (zz6 hT4 (zz6 hT4 (zz6 hT4 (zz6 hT4 (zz6 hT4 (zz0 (aL rfl hT4 rfl) ?_)))))))
    refine ae (aa ?_)
    exact av (Sub.cons rfl (zz8 8 rfl))
   refine ae (aa ?_)
   refine ak rfl ?_ ?_ <;> intro h5 <;> try simp only [bs] at h5
   ·refine af (ab (zz0 (ac rfl) (zz0 (ac rfl) (ae (aa (ao (an ?_)))))))
    refine cy Tryz.results62 rfl rfl (fun w' hw => ?_)
    have hx : exA l a = false := by
     by_cases q : fp l a = (l.length : Int)
     ·exact Bc q
     ·have hsx : ei l a = (l.getD (fp l a).toNat default) := by unfold ei; rw [(ic (by assumption) q).2.1]
      rw [yN (by assumption) q, hsx]; simp_all
    have hq : dK l (dz cs) a = ([], 12) := by unfold dK; rw [if_neg (fun q => absurd (m7.2 q) (by assumption)), if_pos hx]
    exact ⟨_, by rw [hq], hw.below (Bg.le.refl _), kc (by rw [hq])⟩
   ·refine ax (aa (af (lE 0 6 aU ?_)))
    refine dx ?_
    refine aJ (bK rfl bY bb) ?_
    refine aJ (ad rfl) (aJ (bK rfl bY bb) ?_)
    refine aJ (ad rfl) (aJ (aF rfl Tryz.call48 (fun w hw => mU l cs xl xc a w (hw.slF hL') (hw.slF hC') (hD'.mono hw.bg) hB)) ?_)
    refine aJ (kN rfl rfl) ?_
    refine cG ?_
    refine eo rfl Tryz.call90 (fun w hw => sX l cs xl xc a (min 6 (dS l a)) w (hw.slF hL') (hw.slF hC') (hD'.mono hw.bg) hB (by omega)) rfl (fun V6 => ?_)
    refine zz0 (ac rfl) (zz0 (ac rfl) (ae (aa (ao ?_))))
    refine cy Tryz.results62 rfl rfl (fun w' hw => ?_)
    have hq1 : ¬ fp l a = (l.length : Int) := by intro q; simp_all
    have hx : exA l a = true := by
     have hsx : ei l a = (l.getD (fp l a).toNat default) := by unfold ei; rw [(ic (by assumption) hq1).2.1]
     rw [yN (by assumption) hq1, hsx]; simp_all
    have hq : dK l (dz cs) a = (dW l (dz cs) a (min 6 (dS l a)).toNat, 0) := by unfold dK; rw [if_neg (fun q => absurd (m7.2 q) (by assumption)), if_neg (by rw [hx]; simp)]
    exact ⟨_, by rw [hq], hw.below (Bg.le.refl _), by rw [hq]; exact hw.new (.head _)⟩
theorem qw (l : List SecV) (cs : List CellV) (xl xc : SV) (w : World) (hL : Sl (hp w) cm l (.slice xl.a xl.n xl.c)) (hC : Sl (hp w) cQ cs (.slice xc.a xc.n xc.c)) (hD : DataIn (hp w) l) (hB : SecB l) (hcb : cs.length ≤ 2000000) :
  Calls Tryz.prog 32 #[.agg (fX xl xc).toArray] w (fun e w' => ∃ V', e = .returned V' ∧ Ext w w' ∧ NewRow w w' 23 aw (ki l cs) V') := by
 have hL' : Sl (Bg.of w).blk cm l (.slice xl.a xl.n xl.c) := hL
 have hC' : Sl (Bg.of w).blk cQ cs (.slice xc.a xc.n xc.c) := hC
 have hD' : DataIn (Bg.of w).blk l := hD
 have hln := hL.len_v
 have hcn := hC.len_v
 have hcl := hC.len_le
 have hll := hB.1
 refine enter Tryz.func32 rfl Tryz.ntmps32 rfl ?_
 refine af (ab ?_)
 refine cH rfl rfl rfl (fun b1 => ?_)
 refine zz0 (ac rfl) (ae (aa (af (ab (zz0 (ac rfl) (ae (aa (af (af (ab (zz0 (ac rfl) (ae (aa ?_)))))))))))))
 refine aQ (f8 23 aw ?_)
 refine cu (ι := Nat × Value) (fun ⟨k, V⟩ => k ≤ cs.length) (fun _ => _) (fun ⟨k, V⟩ => [rowE V 23 aw (ki l (cs.take k)), cellE b1 (fX xl xc) 30]) (fun ⟨k, V⟩ => [(4, .int .i64 (k : Nat)), (3, V)]) (fun ⟨k, V⟩ => cs.length - k) (0, _) (Nat.zero_le _) (.cons (by first | rfl | exact am rfl (by omega) | exact am rfl (by simp) | exact aR rfl (by simp)) (.cons (by first | rfl | exact am rfl (by omega) | exact am rfl (by simp) | exact aR rfl (by simp)) Front.nil)) (by repeat' constructor) rfl (fun i hi m hm => ?_)
 obtain ⟨k, V⟩ := i
 replace hi : k ≤ cs.length := hi
 replace hm : m = cs.length - k := hm
 change Tr _ _ [rowE V 23 aw (ki l (cs.take k)), cellE b1 (fX xl xc) 30] ([(4, .int .i64 (k : Nat)), (3, V)] ++ _) _
 have hk1 : k ≤ cs.length := hi
 have hchl := tO l (cs.take k)
 rw [List.length_take] at hchl
 refine af (af (ab (zz0 (ad rfl) (zz0 (zz3 (off := 2) (ft := 28) rfl bQ rfl dY) ?_))))
 refine zz0 (aM rfl fb) ?_
 refine zz0 (gA rfl cD) ?_
 refine zz0 (cI rfl rfl) (ae (aa ?_))
 refine ak rfl ?_ ?_ <;> intro h2 <;> try simp only [bs] at h2
 ·refine ax (aa (af (aQ (af (jf aU ?_)))))
  refine aJ (zz3 (off := 2) (ft := 28) rfl bQ rfl dY) ?_
  refine aJ (aM rfl fb) ?_
  refine aJ (ad rfl) (aJ (iZ rfl rfl cD eS) ?_)
  refine aJ (zz3 (off := 1) (ft := 5) rfl e9 rfl bO) ?_
  refine aJ (k9 rfl cx) ?_
  refine aJ (bK rfl bY bb) ?_
  refine aJ (zz3 (off := 2) (ft := 28) rfl bQ rfl dY) ?_
  refine aJ (aM rfl fb) ?_
  refine aJ (ad rfl) (aJ (iZ rfl rfl cD eS) ?_)
  refine aJ (zz3 (off := 0) (ft := 23) rfl e9 rfl ah) ?_
  refine aJ (k9 rfl ay) ?_
  refine aJ (aF rfl Tryz.call54 (fun w hw => mQ l cs xl xc (cs.getD k default).addr w (hw.slF hL') (hw.slF hC') (hD'.mono hw.bg) hB)) ?_
  refine aJ (l9 rfl rfl) ?_
  refine cG ?_
  refine aa ?_
  refine ak rfl ?_ ?_ <;> intro h3 <;> try simp only [bs] at h3
  ·refine ab (zz0 (ad rfl) (zz0 (zz3 (off := 2) (ft := 28) rfl bQ rfl dY) ?_))
   refine zz0 (aM rfl fb) ?_
   refine zz0 (ad rfl) (zz0 (iZ rfl rfl cD eS) ?_)
   refine zz0 (zz3 (off := 0) (ft := 23) rfl e9 rfl ah) ?_
   refine zz0 (k9 rfl ay) ?_
   refine fu (E := aw) (cs.getD k default).addr rfl rfl al ah fj (by rfl) (by rfl) rfl (fun V4 => ?_)
   refine zz7 rfl rfl al gr (fun V5 => ?_)
   refine zz0 (ac rfl) (ae (ba (aa (ab (zz0 (ad rfl) (zz0 (dy rfl rfl) ?_))))))
   refine zz0 (ac rfl) (ae (aa ?_))
   have hst := ri (l := l) (cs := cs) (k := k) (by omega)
   rw [if_pos (by simp_all)] at hst
   rw [← hst]
   apply bT (k + 1, _)
   ·exact rfl
   ·exact (.cons (by first | rfl | exact am rfl (by omega) | exact am rfl (by simp) | exact aR rfl (by simp)) (.cons (by first | rfl | exact am rfl (by omega) | exact am rfl (by simp) | exact aR rfl (by simp)) Front.nil))
   ·exact bR 35 rfl
   ·exact (by repeat' constructor)
   ·exact (by show k + 1 ≤ _; omega)
   ·exact (by show cs.length - (k + 1) < m; omega)
  ·refine ax (ba (aa (ab (zz0 (ad rfl) (zz0 (dy rfl rfl) ?_)))))
   refine zz0 (ac rfl) (ae (aa ?_))
   have hst := ri (l := l) (cs := cs) (k := k) (by omega)
   rw [if_neg (by simp_all), List.append_nil] at hst
   rw [← hst]
   apply bT (k + 1, _)
   ·exact rfl
   ·exact (.cons (by first | rfl | exact am rfl (by omega) | exact am rfl (by simp) | exact aR rfl (by simp)) (.cons (by first | rfl | exact am rfl (by omega) | exact am rfl (by simp) | exact aR rfl (by simp)) Front.nil))
   ·exact bR 25 rfl
   ·exact (by repeat' constructor)
   ·exact (by show k + 1 ≤ _; omega)
   ·exact (by show cs.length - (k + 1) < m; omega)
 ·refine cj (aY (aY (bV (aa (af ?_)))))
  obtain rfl : k = cs.length := by omega
  rw [List.take_length]
  refine ab (zz0 (ad rfl) (zz0 (ac rfl) (ae (aa (ao ?_)))))
  refine aI Tryz.results32 rfl (fun w' hw => ?_)
  exact ⟨_, rfl, hw.below (Bg.le.refl _), hw.new (.head _)⟩
theorem ya (l : List SecV) (V : Value) (w : World) (hV : Sl (hp w) cm l V) (hB : SecB l) (hD : DataIn (hp w) l) (hN : ∀ s ∈ l, s.name.size ≤ 140737488351232) (h : dV l = 0) :
  Calls Tryz.prog 8 #[V] w (fun e w' => ∃ i : Value × List SecV, e = .returned (.tuple #[.agg #[.bool true, i.1, .slice none 0 0], .int .i64 0]) ∧ Ext w w' ∧ NewEnts w w' (lL 64 5 i.1 i.2) ∧ i.2.map SecV.pl = l.map SecV.pl) := by
 have hV' : Sl (Bg.of w).blk cm l V := hV
 have hD' : DataIn (Bg.of w).blk l := hD
 refine enter Tryz.func8 rfl Tryz.ntmps8 rfl ?_
 refine af (ab ?_)
 refine cZ eB rfl (fun b1 => ?_)
 refine zz0 (ac rfl) (ae (aa (af (ab (zz0 (ad rfl) (zz0 (aF rfl Tryz.call23 (fun w hw => (by have q := mO l V w (hw.slF hV') hB (fun s hs => by have := hN s hs; omega); rw [h] at q; exact q))) ?_))))))
 refine zz0 (ac rfl) (ae (aa (af (af (ab (zz0 (ad rfl) (zz0 (dN rfl rfl) (ae (aa ?_)))))))))
 refine ak rfl ?_ ?_ <;> intro h2 <;> try simp only [bs] at h2
 ·first | contradiction | (exfalso; omega) | simp_all
 ·refine ax (aa (af (ab (zz0 (ad rfl) ?_))))
  refine gG (fun i : Value × List SecV => i.1) (fun i => lL 64 5 i.1 i.2) (ok := fun i => i.2.map SecV.pl = l.map SecV.pl) rfl Tryz.call24 (fun w hw => qt l V w (hw.slF hV') hB (hD'.mono hw.bg)) rfl (fun i hi => ?_)
  obtain ⟨Vo, ks⟩ := i
  replace hi : ks.map SecV.pl = l.map SecV.pl := hi
  change Tr _ _ (rowE Vo 64 cm ks :: _) _ _
  refine jx (V := Vo) (fun po co hpv => ?_)
  subst hpv
  refine si (L' := [_] ++ lL 64 5 (.slice po ks.length co) ks) List.perm_append_comm ?_
  refine zz0 (bE (vs := [(0, _), (1, _)]) rfl rfl rfl) ?_
  refine bu ia rfl rfl bb ?_
  refine zz0 (ac rfl) (ae (aa (ao ?_)))
  refine d5 Tryz.results8 rfl rfl bY bb (fun w' hw => ?_)
  exact ⟨(.slice po ks.length co, ks), rfl, hw.below (Bg.le.refl _), hw.ents (Bg.le.refl _) (Pick.skip (Pick.refl _)), hi⟩
theorem yb (l : List SecV) (V : Value) (w : World) (hV : Sl (hp w) cm l V) (hB : SecB l) (hN : ∀ s ∈ l, s.name.size ≤ 140737488351232) (h : dV l ≠ 0) :
  Calls Tryz.prog 8 #[V] w (fun e w' => e = .returned (.tuple #[.agg #[.bool false, .slice none 0 0, .slice none 0 0], .int .i64 (dV l)]) ∧ Ext w w') := by
 have hV' : Sl (Bg.of w).blk cm l V := hV
 refine enter Tryz.func8 rfl Tryz.ntmps8 rfl ?_
 refine af (ab ?_)
 refine cZ eB rfl (fun b1 => ?_)
 refine zz0 (ac rfl) (ae (aa (af (ab (zz0 (ad rfl) (zz0 (aF rfl Tryz.call23 (fun w hw => mO l V w (hw.slF hV') hB (fun s hs => by have := hN s hs; omega))) ?_))))))
 refine zz0 (ac rfl) (ae (aa (af (af (ab (zz0 (ad rfl) (zz0 (dN rfl rfl) (ae (aa ?_)))))))))
 refine ak rfl ?_ ?_ <;> intro h2 <;> try simp only [bs] at h2
 ·refine af (ab (zz0 (bE (vs := []) rfl rfl (uh)) ?_))
  refine zz0 (ad rfl) (bu ia rfl rfl bb ?_)
  refine zz0 (ac rfl) (ae (aa (ao (an ?_))))
  refine d5 Tryz.results8 rfl rfl bY bb (fun w' hw => ?_)
  exact ⟨rfl, hw.below (Bg.le.refl _)⟩
 ·first | contradiction | (exfalso; omega) | simp_all
end Go.Proofs.YtpeaodkfbjenpaaGreat
namespace Go.Proofs.YtpeaodkfbjenpaaGreat
open Go Go.HL Go.RowKit
theorem rI (p : UInt32) (w : World) :
  Calls Tryz.prog 28 #[.int .u32 p.toNat] w (fun e w' => e = .returned (.agg (nn.enc (rF p)).toArray) ∧ Ext w w') := by
 refine enter Tryz.func28 rfl Tryz.ntmps28 rfl ?_
 refine af (ab ?_)
 refine cZ gx rfl (fun b1 => ?_)
 refine ae (aa (af (ab ?_)))
 refine cZ gx rfl (fun b2 => ?_)
 refine ae (aa (af (ab (zz0 (zz3 (off := 0) (ft := 36) rfl aA rfl bF) ?_))))
 refine zz0 (ff rfl rfl aZ ah) ?_
 refine zz1 (cs' := [_, _, _, _, _, _, _, _, _, _, _, _, _]) rfl rfl ah rfl ?_
 refine ae (aa (af (ab (zz0 (ad rfl) (zz0 (zz3 (off := 8) (ft := 23) rfl aA rfl ah) ?_)))))
 refine zz1 (cs' := [_, _, _, _, _, _, _, _, _, _, _, _, _]) rfl rfl ah rfl ?_
 refine ae (aa (af (ab (zz0 (bK rfl iU aS) ?_))))
 refine bA nn rfl rfl aS ?_
 refine ae (aa (ao ?_))
 refine fE Tryz.results28 rfl (by repeat constructor) iU aS (by rfl) (fun w' hw => ?_)
 exact ⟨rfl, hw.below (Bg.le.refl _)⟩
theorem qx (s : St) (x : RP) (i : Ins) (w : World) (hB' : 0 ≤ i.b ∧ i.b < 8) :
  Calls Tryz.prog 126 #[.agg (ee s x).toArray, .agg (em.enc i).toArray] w (fun e w' => e = .returned (.int .u32 (fL s.m i).toNat) ∧ Ext w w') := by
 refine enter Tryz.func126 rfl Tryz.ntmps126 rfl ?_
 refine af (ab ?_)
 refine cH rfl rfl rfl (fun b1 => ?_)
 refine cH rfl rfl rfl (fun b2 => ?_)
 refine zz0 (ac rfl) (ae (aa (af (af (ab (zz0 (zz3 (off := 3) (ft := 3) rfl ag rfl aj) ?_))))))
 refine zz0 (aM rfl aC) ?_
 refine zz0 (aN rfl rfl) (ae (aa ?_))
 refine ak rfl ?_ ?_ <;> intro h3 <;> try simp only [bs] at h3
 ·refine af (ab (zz0 (zz3 (off := 7) (ft := 3) rfl ag rfl aj) ?_))
  refine zz0 (aM rfl aC) ?_
  refine zz0 (zz3 (off := 0) (ft := 40) rfl aG rfl aS) ?_
  refine zz0 (zz3 (off := 0) (ft := 36) rfl aA rfl bF) ?_
  refine zz0 (ff rfl rfl aZ ah) ?_
  refine zz0 (dU (v := .int .u32 (s.m.reg i.b).toNat) rfl (by repeat constructor) ay (i5 hB' (by simp))) ?_
  refine zz0 (ac rfl) (ae (aa (ao (an ?_))))
  refine aI Tryz.results126 rfl (fun w' hw => ?_)
  exact ⟨by unfold fL; rw [if_pos (by assumption)], hw.below (Bg.le.refl _)⟩
 ·refine ax (aa (af (ab (zz0 (zz3 (off := 1) (ft := 23) rfl ag rfl ah) ?_))))
  refine zz0 (aM rfl ay) ?_
  refine zz0 (ac rfl) (ae (aa (ao ?_)))
  refine aI Tryz.results126 rfl (fun w' hw => ?_)
  exact ⟨by unfold fL; rw [if_neg (by assumption)], hw.below (Bg.le.refl _)⟩
theorem sZ (op : Int) (w : World) (h : 8 ≤ op ∧ op ≤ 14) :
  Calls Tryz.prog 130 #[.int .i64 op] w (fun e w' => e = .returned (.int .i64 (gd.opX op)) ∧ Ext w w') := by
 refine enter Tryz.func130 rfl Tryz.ntmps130 rfl ?_
 refine af (ab (zz0 (ac rfl) (ae (aa (af (af (ab (zz0 (ad rfl) (ae (aa (aQ (af (ab ?_)))))))))))))
 refine zz0 (aN rfl rfl) (zz0 (ac rfl) (ae (aa ?_)))
 refine ak rfl ?_ ?_ <;> intro h1 <;> try simp only [bs] at h1
 ·refine af (ab (zz0 (ac rfl) (ae (aa (ao (bf (an ?_)))))))
  refine aI gn rfl (fun w' hw => ?_)
  exact ⟨by unfold gd.opX; (repeat (first | rw [if_pos (by assumption)] | rw [if_neg (by assumption)])); try (congr 2; omega), hw.below (Bg.le.refl _)⟩
 ·refine af (ab (zz0 (aN rfl rfl) (zz0 (ac rfl) (ae (aa ?_)))))
  refine ak rfl ?_ ?_ <;> intro h2 <;> try simp only [bs] at h2
  ·refine af (ab (zz0 (ac rfl) (ae (aa (ao (bf (an ?_)))))))
   refine aI gn rfl (fun w' hw => ?_)
   exact ⟨by unfold gd.opX; (repeat (first | rw [if_pos (by assumption)] | rw [if_neg (by assumption)])); try (congr 2; omega), hw.below (Bg.le.refl _)⟩
  ·refine af (ab (zz0 (aN rfl rfl) (zz0 (ac rfl) (ae (aa ?_)))))
   refine ak rfl ?_ ?_ <;> intro h3 <;> try simp only [bs] at h3
   ·refine af (ab (zz0 (ac rfl) (ae (aa (ao (bf (an ?_)))))))
    refine aI gn rfl (fun w' hw => ?_)
    exact ⟨by unfold gd.opX; (repeat (first | rw [if_pos (by assumption)] | rw [if_neg (by assumption)])); try (congr 2; omega), hw.below (Bg.le.refl _)⟩
   ·refine af (ab (zz0 (aN rfl rfl) (zz0 (ac rfl) (ae (aa ?_)))))
    refine ak rfl ?_ ?_ <;> intro h4 <;> try simp only [bs] at h4
    ·refine af (ab (zz0 (ac rfl) (ae (aa (ao (bf (an ?_)))))))
     refine aI gn rfl (fun w' hw => ?_)
     exact ⟨by unfold gd.opX; (repeat (first | rw [if_pos (by assumption)] | rw [if_neg (by assumption)])); try (congr 2; omega), hw.below (Bg.le.refl _)⟩
    ·refine af (ab (zz0 (aN rfl rfl) (zz0 (ac rfl) (ae (aa ?_)))))
     refine ak rfl ?_ ?_ <;> intro h5 <;> try simp only [bs] at h5
     ·refine af (ab (zz0 (ac rfl) (ae (aa (ao (bf (an ?_)))))))
      refine aI gn rfl (fun w' hw => ?_)
      exact ⟨by unfold gd.opX; (repeat (first | rw [if_pos (by assumption)] | rw [if_neg (by assumption)])); try (congr 2; omega), hw.below (Bg.le.refl _)⟩
     ·refine af (ab (zz0 (aN rfl rfl) (zz0 (ac rfl) (ae (aa ?_)))))
      refine ak rfl ?_ ?_ <;> intro h6 <;> try simp only [bs] at h6
      ·refine af (ab (zz0 (ac rfl) (ae (aa (ao (bf (an ?_)))))))
       refine aI gn rfl (fun w' hw => ?_)
       exact ⟨by unfold gd.opX; (repeat (first | rw [if_pos (by assumption)] | rw [if_neg (by assumption)])); try (congr 2; omega), hw.below (Bg.le.refl _)⟩
      ·refine ax (ba (aa (af (ab (zz0 (ac rfl) (ae (aa (ao ?_))))))))
       refine aI gn rfl (fun w' hw => ?_)
       exact ⟨by unfold gd.opX; (repeat (first | rw [if_pos (by assumption)] | rw [if_neg (by assumption)])); try (congr 2; omega), hw.below (Bg.le.refl _)⟩
theorem pu (s : St) (x : RP) (i : Ins) (w : World) (hI : InsOK i) (hA : 0 ≤ i.a ∧ i.a < 8) (hB' : 0 ≤ i.b ∧ i.b < 8) (hop : 5 ≤ i.op ∧ i.op ≤ 15) :
  Calls Tryz.prog 94 #[.agg (ee s x).toArray, .agg (em.enc i).toArray] w (fun e w' => e = .returned (.agg (ee (fW s i s.m.pc) x).toArray) ∧ Ext w w') := by
 refine enter Tryz.func94 rfl Tryz.ntmps94 rfl ?_
 refine af (ab ?_)
 refine cH rfl rfl rfl (fun b1 => ?_)
 refine cH rfl rfl rfl (fun b2 => ?_)
 refine cZ cA rfl (fun b3 => ?_)
 refine ae (aa (af (jf aU ?_)))
 refine aJ (zz3 (off := 6) (ft := 3) rfl ag rfl aj) ?_
 refine aJ (aM rfl aC) ?_
 refine aJ (zz3 (off := 0) (ft := 40) rfl aG rfl aS) ?_
 refine aJ (zz3 (off := 0) (ft := 36) rfl aA rfl bF) ?_
 refine aJ (ff rfl rfl aZ ah) ?_
 refine aJ (dU (v := .int .u32 (s.m.reg i.a).toNat) rfl (by repeat constructor) ay (i5 hA (by simp))) ?_
 refine aJ (bK rfl aP au) ?_
 refine aJ (bK rfl bo aH) ?_
 refine aJ (aF rfl Tryz.call126 (fun w hw => qx s x i w hB')) ?_
 refine aJ (ac rfl) (aJ (ac rfl) (cG ?_))
 refine aa ?_
 refine eE (ι := St) (fun t => t = fW s i s.m.pc) (fun _ => Bg.of w) (fun t => [cellE b1 (ee t x) 42, cellE b3 [.int .u32 0, .int .u32 0, .int .u32 0, .int .u32 0, .int .u32 0, .int .u32 0, .int .u32 0, .int .u32 0, .int .u32 0, .bool false, .bool false, .bool false, .bool false, .bool false, .slice none 0 0, .slice none 0 0, .slice none 0 0, .slice none 0 0, .bool false, .int .i64 0] 42]) (fun t => []) ?_ (fun t hi => ?_)
 ·skip
  refine af (ab (zz0 (zz3 (off := 2) (ft := 3) rfl ag rfl aj) ?_))
  refine zz0 (aM rfl aC) ?_
  refine ae (aa (aQ (af (ab (zz0 (aN rfl rfl) (zz0 (ac rfl) (ae (aa ?_))))))))
  refine ak rfl ?_ ?_ <;> intro h4 <;> try simp only [bs] at h4
  ·refine ab (zz0 (zz3 (off := 6) (ft := 3) rfl ag rfl aj) ?_)
   refine zz0 (aM rfl aC) ?_
   refine zz0 (ad rfl) (zz0 (zz3 (off := 0) (ft := 40) rfl aG rfl aS) ?_)
   refine zz0 (zz3 (off := 0) (ft := 36) rfl aA rfl bF) ?_
   refine zz0 (ff rfl rfl aZ ah) ?_
   refine ka rfl rfl ah (by repeat constructor) (gY hA (by simp) _) (by rfl) (by rw [gZ]; first | (simp; done) | (simp; omega)) ?_
   refine ae (ba (aa ?_))
   apply a9 (s.setR i.a (fL s.m i))
   ·exact rfl
   ·exact Front.nil
   ·exact bR 10 rfl
   ·exact (by repeat' constructor)
   ·exact ((wx (by assumption)).symm)
  ·refine af (ab (zz0 (aN rfl rfl) (zz0 (ac rfl) (ae (aa ?_)))))
   refine ak rfl ?_ ?_ <;> intro h5 <;> try simp only [bs] at h5
   ·refine af (ab (zz0 (ad rfl) (zz0 (ad rfl) (zz0 (aF rfl Tryz.call127 (fun w hw => xZ (s.m.reg i.a) (fL s.m i) w)) ?_))))
    refine zz0 (ad rfl) (zz0 (az rfl rfl) (zz0 (az rfl rfl) ?_))
    refine cZ dC rfl (fun b6 => ?_)
    refine zz0 (ac rfl) (bA gR rfl rfl bG ?_)
    refine ae (aa (af (ab (zz0 (zz3 (off := 6) (ft := 3) rfl ag rfl aj) ?_))))
    refine zz0 (aM rfl aC) ?_
    refine zz0 (ad rfl) (zz0 (zz3 (off := 0) (ft := 40) rfl aG rfl aS) ?_)
    refine zz0 (zz3 (off := 0) (ft := 36) rfl aA rfl bF) ?_
    refine zz0 (ff rfl rfl aZ ah) ?_
    refine ka rfl rfl ah (by repeat constructor) (gY hA (by simp) _) (by rfl) (by rw [gZ]; first | (simp; done) | (simp; omega)) ?_
    refine ae (aa (ab (zz0 (bK rfl dM bG) ?_)))
    refine zz0 (zz3 (off := 0) (ft := 40) rfl aG rfl aS) ?_
    refine zz0 (zz3 (off := 9) (ft := 38) rfl aA rfl bG) ?_
    refine zz4 rfl rfl bG (m9 _) ?_
    refine ae (ba (aa ?_))
    apply a9 ((s.setR i.a ((s.m.reg i.a) + (fL s.m i))).setF (tW (s.m.reg i.a) (fL s.m i)))
    ·exact rfl
    ·exact Front.nil
    ·exact bR 23 rfl
    ·exact (by repeat' constructor)
    ·exact ((wC (by assumption)).symm)
   ·refine af (ab (zz0 (aN rfl rfl) (zz0 (ac rfl) (ae (aa ?_)))))
    refine ak rfl ?_ ?_ <;> intro h7 <;> try simp only [bs] at h7
    ·refine af (ab (zz0 (ad rfl) (zz0 (ad rfl) (zz0 (aF rfl Tryz.call128 (fun w hw => sP (s.m.reg i.a) (fL s.m i) w)) ?_))))
     refine zz0 (ad rfl) (zz0 (az rfl rfl) (zz0 (az rfl rfl) ?_))
     refine cZ dC rfl (fun b8 => ?_)
     refine zz0 (ac rfl) (bA gR rfl rfl bG ?_)
     refine ae (aa (af (ab (zz0 (zz3 (off := 6) (ft := 3) rfl ag rfl aj) ?_))))
     refine zz0 (aM rfl aC) ?_
     refine zz0 (ad rfl) (zz0 (zz3 (off := 0) (ft := 40) rfl aG rfl aS) ?_)
     refine zz0 (zz3 (off := 0) (ft := 36) rfl aA rfl bF) ?_
     refine zz0 (ff rfl rfl aZ ah) ?_
     refine ka rfl rfl ah (by repeat constructor) (gY hA (by simp) _) (by rfl) (by rw [gZ]; first | (simp; done) | (simp; omega)) ?_
     refine ae (aa (ab (zz0 (bK rfl dM bG) ?_)))
     refine zz0 (zz3 (off := 0) (ft := 40) rfl aG rfl aS) ?_
     refine zz0 (zz3 (off := 9) (ft := 38) rfl aA rfl bG) ?_
     refine zz4 rfl rfl bG (m9 _) ?_
     refine ae (ba (aa ?_))
     apply a9 ((s.setR i.a ((s.m.reg i.a) - (fL s.m i))).setF (o7 (s.m.reg i.a) (fL s.m i)))
     ·exact rfl
     ·exact Front.nil
     ·exact bR 25 rfl
     ·exact (by repeat' constructor)
     ·exact ((wv (by assumption)).symm)
    ·refine af (ab (zz0 (aN rfl rfl) (zz0 (ac rfl) (ae (aa ?_)))))
     refine ak rfl ?_ ?_ <;> intro h9 <;> try simp only [bs] at h9
     ·refine af (ab (zz0 (ad rfl) (zz0 (ad rfl) (zz0 (aF rfl Tryz.call128 (fun w hw => sP (s.m.reg i.a) (fL s.m i) w)) ?_))))
      refine zz0 (ad rfl) (zz0 (az rfl rfl) (zz0 (az rfl rfl) ?_))
      refine cZ dC rfl (fun b10 => ?_)
      refine zz0 (ac rfl) (bA gR rfl rfl bG ?_)
      refine ae (aa (ab (zz0 (bK rfl dM bG) ?_)))
      refine zz0 (zz3 (off := 0) (ft := 40) rfl aG rfl aS) ?_
      refine zz0 (zz3 (off := 9) (ft := 38) rfl aA rfl bG) ?_
      refine zz4 rfl rfl bG (m9 _) ?_
      refine ae (ba (aa ?_))
      apply a9 (s.setF (o7 (s.m.reg i.a) (fL s.m i)))
      ·exact rfl
      ·exact Front.nil
      ·exact bR 21 rfl
      ·exact (by repeat' constructor)
      ·exact ((wA (by assumption)).symm)
     ·refine af (ab (zz0 (zz3 (off := 2) (ft := 3) rfl ag rfl aj) ?_))
      refine zz0 (aM rfl aC) ?_
      refine zz0 (aF rfl Tryz.call130 (fun w hw => sZ i.op w (by omega))) ?_
      refine zz0 (ad rfl) (zz0 (ad rfl) (zz0 (aF rfl Tryz.call129 (fun w hw => uv (gd.opX i.op) (s.m.reg i.a) (fL s.m i) w)) ?_))
      rw [vV (by omega)]
      refine zz0 (ad rfl) (zz0 (az rfl rfl) (zz0 (az rfl rfl) (zz0 (ac rfl) (zz0 (ac rfl) (ae (aa (af (ab (zz0 (zz3 (off := 6) (ft := 3) rfl ag rfl aj) ?_)))))))))
      refine zz0 (aM rfl aC) ?_
      refine zz0 (ad rfl) (zz0 (zz3 (off := 0) (ft := 40) rfl aG rfl aS) ?_)
      refine zz0 (zz3 (off := 0) (ft := 36) rfl aA rfl bF) ?_
      refine zz0 (ff rfl rfl aZ ah) ?_
      refine ka rfl rfl ah (by repeat constructor) (gY hA (by simp) _) (by rfl) (by rw [gZ]; first | (simp; done) | (simp; omega)) ?_
      refine ae (aa (ab (zz0 (ad rfl) (zz0 (aF rfl Tryz.call131 (fun w hw => uq (jB (gd.opX i.op) (s.m.reg i.a) (fL s.m i)) w)) ?_))))
      refine zz0 (zz3 (off := 0) (ft := 40) rfl aG rfl aS) ?_
      refine zz0 (zz3 (off := 9) (ft := 38) rfl aA rfl bG) ?_
      refine zz4 rfl rfl bG (m9 _) ?_
      refine ae (ba (aa ?_))
      apply a9 ((s.setR i.a (jB (gd.opX i.op) (s.m.reg i.a) (fL s.m i))).setF (uP (jB (gd.opX i.op) (s.m.reg i.a) (fL s.m i))))
      ·exact rfl
      ·exact Front.nil
      ·exact bR 31 rfl
      ·exact (by repeat' constructor)
      ·exact ((wB (by omega)).symm)
 ·skip
  replace hi : t = fW s i s.m.pc := hi
  change Tr _ _ [cellE b1 (ee t x) 42, cellE b3 [.int .u32 0, .int .u32 0, .int .u32 0, .int .u32 0, .int .u32 0, .int .u32 0, .int .u32 0, .int .u32 0, .int .u32 0, .bool false, .bool false, .bool false, .bool false, .bool false, .slice none 0 0, .slice none 0 0, .slice none 0 0, .slice none 0 0, .bool false, .int .i64 0] 42] ([] ++ _) _
  refine af (ab (zz0 (bK rfl aP au) ?_))
  refine bu cK rfl rfl au ?_
  refine ae (aa (ao ?_))
  refine fE Tryz.results94 rfl (by repeat constructor) aP au (by rfl) (fun w' hw => ?_)
  subst hi
  exact ⟨rfl, hw.below (Bg.le.refl _)⟩
theorem oe (H : Hp) (l : List SecV) (inp : List UInt32) (s : St) (cs : List CellV) (x : RP) (y : UInt32) (w : World) (hH : Hp.le H (hp w)) (hR : RefAt H l inp s cs x) (hB : SecB l) (hcb : cs.length ≤ 1000000) :
  Calls Tryz.prog 132 #[.agg (ee s x).toArray, .int .u32 y.toNat] w (fun e w' => ∃ j : List CellV × RP, e = .returned (.tuple #[.agg (ee (iK l s y).1 j.2).toArray, .int .i64 (iK l s y).2]) ∧ Ext w w' ∧ RefAt (vis H w.heap.size (hp w')) l inp (iK l s y).1 j.1 j.2 ∧ j.1.length ≤ cs.length + 4) := by
 have hA0 : RefAt (vis H w.heap.size (Bg.of w).blk) l inp s cs x := hR.mono (lQ hH)
 have hS : RefAt (Bg.of w).blk l inp s cs x := hR.mono hH
 have hfn := hS.fn
 have hL' := hS.secs
 have hD' := hS.data
 have hC' := hS.cells
 have hX' := hS.inp
 have hO' := hS.out
 refine enter Tryz.func132 rfl Tryz.ntmps132 rfl ?_
 refine af (ab ?_)
 refine cH rfl rfl rfl (fun b1 => ?_)
 refine cZ cA rfl (fun b2 => ?_)
 refine zz0 (ac rfl) (ae (aa (af (ab (zz0 (zz3 (off := 13) (ft := 30) rfl aG rfl bb) ?_)))))
 refine zz0 (fe (vs := fX x.l x.c) rfl (by repeat constructor) bY bb rfl rfl) ?_
 refine zz0 (zz3 (off := 0) (ft := 40) rfl aG rfl aS) ?_
 refine zz0 (zz3 (off := 0) (ft := 36) rfl aA rfl bF) ?_
 refine zz0 (ff rfl rfl aZ ah) ?_
 refine zz0 (aM rfl ay) ?_
 refine zz0 (eW (n := 4) rfl rfl) ?_
 refine zz0 (ad rfl) ?_
 refine fS (H0 := H) (n := w.heap.size) (R := fun h (j : SV) => ((bS l s.w (s.m.r7 - 4) 4 y).2 ≠ 0 → j = x.c) ∧ ((bS l s.w (s.m.r7 - 4) 4 y).2 = 0 → Sl h cQ (fr cs (s.m.r7 - 4) y (4 : Int).toNat) (.slice j.a j.n j.c))) (fun j : SV => .tuple #[.agg (fX x.l j).toArray, .int .i64 (bS l s.w (s.m.r7 - 4) 4 y).2]) (rfl : (Bg.of w).lo = _) hH (fun h h' j hh r => ⟨r.1, fun z => (r.2 z).mono hh⟩) rfl mH (fun w2 hw2 hv2 => by have q := kB l cs x.l x.c (s.m.r7 - 4) 4 y w2 (hw2.slF hL') (hw2.slF hC') (hD'.mono hw2.bg) hB (by omega); rw [hfn] at q; exact q.mono fun e w' ⟨j, q1, q2, q3, q4⟩ => ⟨j, q1, q2, q3, fun z => (q4 z).mono jk⟩) rfl (fun j F1 hF1 hj => ?_)
 refine zz0 (ad rfl) (zz0 (az rfl rfl) (zz0 (az rfl rfl) ?_))
 refine cZ eB rfl (fun b3 => ?_)
 refine bu ia rfl rfl bb ?_
 refine zz0 (ac rfl) (ae (aa (af (af (ab (zz0 (ad rfl) (zz0 (dN rfl rfl) (ae (aa ?_)))))))))
 refine ak rfl ?_ ?_ <;> intro h4 <;> try simp only [bs] at h4
 ·refine af (ab (zz0 (bK rfl aP au) ?_))
  refine zz0 (ad rfl) (bu cK rfl rfl au ?_)
  refine zz0 (ac rfl) (ae (aa (ao (an ?_))))
  refine d5 Tryz.results132 rfl rfl aP au (fun w' hw => ?_)
  have hq : iK l s y = (s, (bS l s.w (s.m.r7 - 4) 4 y).2) := by
   unfold iK; repeat (first | rw [if_pos (by first | assumption | omega)] | rw [if_neg (by first | assumption | omega)])
   try simp only [Mach.set_to_pc, Mach.set2_to_pc]
   try rfl
  exact ⟨(cs, x), by rw [hq]; try rfl, hw.below hF1, by rw [hq]; exact ((hA0.mono (bU hF1.blk)).mono (bU hw.hp)), Nat.le_add_right _ _⟩
 ·refine ax (aa (af (ab (zz0 (bK rfl bY bb) ?_))))
  refine zz0 (zz3 (off := 13) (ft := 30) rfl aG rfl bb) ?_
  refine zz4 rfl rfl bb (pp _) ?_
  refine ae (aa (af (ab (zz0 (zz3 (off := 0) (ft := 40) rfl aG rfl aS) ?_))))
  refine zz0 (zz3 (off := 0) (ft := 36) rfl aA rfl bF) ?_
  refine zz0 (ff rfl rfl aZ ah) ?_
  refine zz0 (aM rfl ay) ?_
  refine zz0 (eW (n := 4) rfl rfl) ?_
  refine zz0 (zz3 (off := 0) (ft := 40) rfl aG rfl aS) ?_
  refine zz0 (zz3 (off := 0) (ft := 36) rfl aA rfl bF) ?_
  refine zz0 (ff rfl rfl aZ ah) ?_
  refine ka rfl rfl ah (by repeat constructor) (gY (k := 7) (by omega) (by simp) _) (by rfl) (by rw [gZ]; first | (simp; done) | (simp; omega)) ?_
  refine ae (aa (af (ab (zz0 (bK rfl aP au) ?_))))
  refine bu cK rfl rfl au ?_
  refine zz0 (ac rfl) (ae (aa (ao ?_)))
  refine d5 Tryz.results132 rfl rfl aP au (fun w' hw => ?_)
  have hse : (bS l s.w (s.m.r7 - 4) 4 y).2 = 0 := by simp_all
  have hpn := j4 cs (s.m.r7 - 4) y 4
  have hq : iK l s y = ({ s with w := (bS l s.w (s.m.r7 - 4) 4 y).1, m := s.m.set 7 (s.m.r7 - 4) }, 0) := by
   unfold iK; repeat (first | rw [if_pos (by first | assumption | omega)] | rw [if_neg (by first | assumption | omega)])
   try simp only [Mach.set_to_pc, Mach.set2_to_pc]
   try rfl
  exact ⟨(fr cs (s.m.r7 - 4) y 4, { x with c := j }), by rw [hq]; try rfl, hw.below hF1, by rw [hq]; exact (((hA0.mono (bU hF1.blk)).cell_ (cs' := fr cs (s.m.r7 - 4) y (4 : Int).toNat) (t := { s with w := (bS l s.w (s.m.r7 - 4) 4 y).1, m := s.m.set 7 (s.m.r7 - 4) }) rfl rfl (by rw [kb, hfn]; show _ = (bS l s.w (s.m.r7 - 4) 4 y).1; rw [o8 hse]) (i6 hS.srt _ _ _) (hj.2 hse)).mono (bU hw.hp)), by show (fr _ _ _ _).length ≤ _; omega⟩
theorem pt (H : Hp) (l : List SecV) (inp : List UInt32) (s : St) (cs : List CellV) (x : RP) (w : World) (hH : Hp.le H (hp w)) (hR : RefAt H l inp s cs x) (hB : SecB l) (hcb : cs.length ≤ 1000000) :
  Calls Tryz.prog 133 #[.agg (ee s x).toArray] w (fun e w' => e = .returned (.tuple #[.agg (ee (nH l s).1 x).toArray, .int .u32 (nH l s).2.1.toNat, .int .i64 (nH l s).2.2]) ∧ Ext w w') := by
 have hA0 : RefAt (vis H w.heap.size (Bg.of w).blk) l inp s cs x := hR.mono (lQ hH)
 have hS : RefAt (Bg.of w).blk l inp s cs x := hR.mono hH
 have hfn := hS.fn
 have hL' := hS.secs
 have hD' := hS.data
 have hC' := hS.cells
 have hX' := hS.inp
 have hO' := hS.out
 refine enter Tryz.func133 rfl Tryz.ntmps133 rfl ?_
 refine af (ab ?_)
 refine cH rfl rfl rfl (fun b1 => ?_)
 refine cZ cA rfl (fun b2 => ?_)
 refine zz0 (ac rfl) (zz0 (ac rfl) (ae (aa (af (ab (zz0 (zz3 (off := 13) (ft := 30) rfl aG rfl bb) ?_))))))
 refine zz0 (fe (vs := fX x.l x.c) rfl (by repeat constructor) bY bb rfl rfl) ?_
 refine zz0 (zz3 (off := 0) (ft := 40) rfl aG rfl aS) ?_
 refine zz0 (zz3 (off := 0) (ft := 36) rfl aA rfl bF) ?_
 refine zz0 (ff rfl rfl aZ ah) ?_
 refine zz0 (aM rfl ay) ?_
 refine zz0 (aF rfl mG (fun w hw => (by have q := lO l cs x.l x.c s.m.r7 4 w (hw.slF hL') (hw.slF hC') (hD'.mono hw.bg) hB; rw [hfn] at q; exact q))) ?_
 refine zz0 (ad rfl) (zz0 (az rfl rfl) (zz0 (az rfl rfl) (zz0 (ac rfl) (zz0 (ac rfl) (ae (aa (af (af (ab (zz0 (ad rfl) (zz0 (dN rfl rfl) (ae (aa ?_)))))))))))))
 refine ak rfl ?_ ?_ <;> intro h3 <;> try simp only [bs] at h3
 ·refine af (ab (zz0 (bK rfl aP au) ?_))
  refine zz0 (ad rfl) (bu cK rfl rfl au ?_)
  refine zz0 (ac rfl) (zz0 (ac rfl) (ae (aa (ao (an ?_)))))
  refine tZ Tryz.results133 rfl rfl rfl (by repeat constructor) aP au (by rfl) (fun w' hw => ?_)
  have hq : nH l s = (s, 0, (cP l s.w s.m.r7 4).2) := by unfold nH; rw [if_pos (by assumption)]
  exact ⟨by rw [hq]; rfl, hw.below (Bg.le.refl _)⟩
 ·refine ax (aa (af (ab (zz0 (zz3 (off := 0) (ft := 40) rfl aG rfl aS) ?_))))
  refine zz0 (zz3 (off := 0) (ft := 36) rfl aA rfl bF) ?_
  refine zz0 (ff rfl rfl aZ ah) ?_
  refine zz0 (aM rfl ay) ?_
  refine zz0 (cJ (n := 4) rfl rfl) ?_
  refine zz0 (zz3 (off := 0) (ft := 40) rfl aG rfl aS) ?_
  refine zz0 (zz3 (off := 0) (ft := 36) rfl aA rfl bF) ?_
  refine zz0 (ff rfl rfl aZ ah) ?_
  refine ka rfl rfl ah (by repeat constructor) (gY (k := 7) (by omega) (by simp) _) (by rfl) (by rw [gZ]; first | (simp; done) | (simp; omega)) ?_
  refine ae (aa (af (ab (zz0 (bK rfl aP au) ?_))))
  refine zz0 (ad rfl) (bu cK rfl rfl au ?_)
  refine zz0 (ac rfl) (zz0 (ac rfl) (ae (aa (ao ?_))))
  refine tZ Tryz.results133 rfl rfl rfl (by repeat constructor) aP au (by rfl) (fun w' hw => ?_)
  have hq : nH l s = ({ s with m := s.m.set 7 (s.m.r7 + 4) }, (cP l s.w s.m.r7 4).1, 0) := by unfold nH; rw [if_neg (by omega)]
  exact ⟨by rw [hq]; rfl, hw.below (Bg.le.refl _)⟩
theorem qy (H : Hp) (l : List SecV) (inp : List UInt32) (s : St) (cs : List CellV) (x : RP) (i : Ins) (w : World) (hH : Hp.le H (hp w)) (hR : RefAt H l inp s cs x) (hB : SecB l) (hcb : cs.length ≤ 1000000) (hI : InsOK i) (hA : 0 ≤ i.a ∧ i.a < 8) (hB' : 0 ≤ i.b ∧ i.b < 8) (hop : i.op = 16 ∨ i.op = 17 ∨ i.op = 18 ∨ i.op = 22) :
  Calls Tryz.prog 96 #[.agg (ee s x).toArray, .agg (em.enc i).toArray] w (fun e w' => ∃ j : List CellV × RP, e = .returned (.tuple #[.agg (ee (cS l inp s i s.m.pc).1 j.2).toArray, .int .i64 (cS l inp s i s.m.pc).2]) ∧ Ext w w' ∧ RefAt (vis H w.heap.size (hp w')) l inp (cS l inp s i s.m.pc).1 j.1 j.2 ∧ j.1.length ≤ cs.length + 4) := by
 have hA0 : RefAt (vis H w.heap.size (Bg.of w).blk) l inp s cs x := hR.mono (lQ hH)
 have hS : RefAt (Bg.of w).blk l inp s cs x := hR.mono hH
 have hfn := hS.fn
 have hL' := hS.secs
 have hD' := hS.data
 have hC' := hS.cells
 have hX' := hS.inp
 have hO' := hS.out
 refine enter Tryz.func96 rfl Tryz.ntmps96 rfl ?_
 refine af (ab ?_)
 refine cH rfl rfl rfl (fun b1 => ?_)
 refine cH rfl rfl rfl (fun b2 => ?_)
 refine cZ cA rfl (fun b3 => ?_)
 refine zz0 (ac rfl) (ae (aa (af (jf aU ?_))))
 refine aJ (zz3 (off := 7) (ft := 3) rfl ag rfl aj) ?_
 refine aJ (aM rfl aC) ?_
 refine aJ (zz3 (off := 0) (ft := 40) rfl aG rfl aS) ?_
 refine aJ (zz3 (off := 0) (ft := 36) rfl aA rfl bF) ?_
 refine aJ (ff rfl rfl aZ ah) ?_
 refine aJ (dU (v := .int .u32 (s.m.reg i.b).toNat) rfl (by repeat constructor) ay (i5 hB' (by simp))) ?_
 refine aJ (zz3 (off := 1) (ft := 23) rfl ag rfl ah) ?_
 refine aJ (aM rfl ay) ?_
 refine aJ (cJ rfl rfl) ?_
 refine aJ (ac rfl) (cG ?_)
 refine aa (af (af (ab (zz0 (zz3 (off := 2) (ft := 3) rfl ag rfl aj) ?_))))
 refine zz0 (aM rfl aC) ?_
 refine ae (aa (aQ (af (ab (zz0 (aN rfl rfl) (zz0 (ac rfl) (ae (aa ?_))))))))
 refine ak rfl ?_ ?_ <;> intro h4 <;> try simp only [bs] at h4
 ·refine af (bH ([cellE b1 (ee s x) 42, cellE b2 (em.enc i) 114, cellE b3 [.int .u32 0, .int .u32 0, .int .u32 0, .int .u32 0, .int .u32 0, .int .u32 0, .int .u32 0, .int .u32 0, .int .u32 0, .bool false, .bool false, .bool false, .bool false, .bool false, .slice none 0 0, .slice none 0 0, .slice none 0 0, .slice none 0 0, .bool false, .int .i64 0] 42]) 18 rfl aU ?_)
  refine zz2 0 rfl (zz3 (off := 13) (ft := 30) rfl aG rfl bb) ?_
  refine eU 1 rfl (by kernel_rfl) (aX (dE (aX bL))) (fe (vs := fX x.l x.c) rfl (by repeat constructor) bY bb rfl rfl) ?_
  refine zz2 2 rfl (ad rfl) ?_
  refine zz2 3 rfl (zz3 (off := 4) (ft := 3) rfl ag rfl aj) ?_
  refine zz2 4 rfl (aM rfl aC) ?_
  refine zz2 5 rfl (zz3 (off := 6) (ft := 3) rfl ag rfl aj) ?_
  refine zz2 6 rfl (aM rfl aC) ?_
  refine zz2 7 rfl (zz3 (off := 0) (ft := 40) rfl aG rfl aS) ?_
  refine zz2 8 rfl (zz3 (off := 0) (ft := 36) rfl aA rfl bF) ?_
  refine zz2 9 rfl (ff rfl rfl aZ ah) ?_
  refine eU 10 rfl (by kernel_rfl) (aX (dE (aX bL))) (dU (v := .int .u32 (s.m.reg i.a).toNat) rfl (by repeat constructor) ay (i5 hA (by simp))) ?_
  refine bX [11, 15] (fun iq hq => ?_)
  rcases List.mem_cons.1 hq with rfl | hq
  ·skip
   refine aV rfl ?_
   refine fS (H0 := H) (n := w.heap.size) (R := fun h (j : SV) => ((bS l s.w (s.m.reg i.b + i.imm) i.width (s.m.reg i.a)).2 ≠ 0 → j = x.c) ∧ ((bS l s.w (s.m.reg i.b + i.imm) i.width (s.m.reg i.a)).2 = 0 → Sl h cQ (fr cs (s.m.reg i.b + i.imm) (s.m.reg i.a) (i.width : Int).toNat) (.slice j.a j.n j.c))) (fun j : SV => .tuple #[.agg (fX x.l j).toArray, .int .i64 (bS l s.w (s.m.reg i.b + i.imm) i.width (s.m.reg i.a)).2]) (rfl : (Bg.of w).lo = _) hH (fun h h' j hh r => ⟨r.1, fun z => (r.2 z).mono hh⟩) rfl mH (fun w2 hw2 hv2 => by have q := kB l cs x.l x.c (s.m.reg i.b + i.imm) i.width (s.m.reg i.a) w2 (hw2.slF hL') (hw2.slF hC') (hD'.mono hw2.bg) hB (by omega); rw [hfn] at q; exact q.mono fun e w' ⟨j, q1, q2, q3, q4⟩ => ⟨j, q1, q2, q3, fun z => (q4 z).mono jk⟩) rfl (fun j F1 hF1 hj => ?_)
   refine qa hF1 ?_
   refine mq hF1 12 rfl (by kernel_rfl) (aX (dE (aX bL))) (ad rfl) ?_
   refine mq hF1 13 rfl (by kernel_rfl) (aX (dE (aX bL))) (az rfl rfl) ?_
   refine mq hF1 14 rfl (by kernel_rfl) (aX (dE (aX bL))) (az rfl rfl) ?_
   refine bX [15] (fun iq hq => ?_)
   obtain rfl := List.mem_singleton.1 hq
   refine aV rfl ?_
   refine cZ eB rfl (fun b5 => ?_)
   refine qa hF1 ?_
   refine bX [16] (fun iq hq => ?_)
   obtain rfl := List.mem_singleton.1 hq
   refine aV rfl ?_
   refine bu ia rfl rfl bb ?_
   refine qa hF1 ?_
   refine mq hF1 17 rfl (by kernel_rfl) (aX (dE (aX bL))) (ac rfl) ?_
   refine dZ ?_
   refine aa (af (af (ab (zz0 (ad rfl) (zz0 (dN rfl rfl) (ae (aa ?_)))))))
   refine ak rfl ?_ ?_ <;> intro h6 <;> try simp only [bs] at h6
   ·refine af (ab (zz0 (bK rfl aP au) ?_))
    refine zz0 (ad rfl) (bu cK rfl rfl au ?_)
    refine zz0 (ac rfl) (ae (aa (ao (an (bf (an ?_))))))
    refine d5 fH rfl rfl aP au (fun w' hw => ?_)
    have hq : cS l inp s i s.m.pc = (s, (bS l s.w (s.m.reg i.b + i.imm) i.width (s.m.reg i.a)).2) := by
     unfold cS dX dj eF eY de; repeat (first | rw [if_pos (by first | assumption | omega | (simp; omega))] | rw [if_neg (by first | assumption | omega | (simp; omega))])
     try simp only [Mach.set_to_pc, Mach.set2_to_pc]
     try rfl
    exact ⟨(cs, x), by rw [hq]; try rfl, hw.below hF1, by rw [hq]; exact ((hA0.mono (bU hF1.blk)).mono (bU hw.hp)), Nat.le_add_right _ _⟩
   ·refine ax (aa (af (ab (zz0 (bK rfl bY bb) ?_))))
    refine zz0 (zz3 (off := 13) (ft := 30) rfl aG rfl bb) ?_
    refine zz4 rfl rfl bb (pp _) ?_
    refine ae (aa (af (ab (zz0 (bK rfl aP au) ?_))))
    refine bu cK rfl rfl au ?_
    refine zz0 (ac rfl) (ae (aa (ao (bf (an ?_)))))
    refine d5 fH rfl rfl aP au (fun w' hw => ?_)
    have hse : (bS l s.w (s.m.reg i.b + i.imm) i.width (s.m.reg i.a)).2 = 0 := by simp_all
    have hpn := j4 cs (s.m.reg i.b + i.imm) (s.m.reg i.a) i.width.toNat
    have hwd := qK hse
    have hq : cS l inp s i s.m.pc = ({ s with w := (bS l s.w (s.m.reg i.b + i.imm) i.width (s.m.reg i.a)).1 }, 0) := by
     unfold cS dX dj eF eY de; repeat (first | rw [if_pos (by first | assumption | omega | (simp; omega))] | rw [if_neg (by first | assumption | omega | (simp; omega))])
     try simp only [Mach.set_to_pc, Mach.set2_to_pc]
     try rfl
    exact ⟨(fr cs (s.m.reg i.b + i.imm) (s.m.reg i.a) i.width.toNat, { x with c := j }), by rw [hq]; try rfl, hw.below hF1, by rw [hq]; exact (((hA0.mono (bU hF1.blk)).cell_ (cs' := fr cs (s.m.reg i.b + i.imm) (s.m.reg i.a) (i.width : Int).toNat) (t := { s with w := (bS l s.w (s.m.reg i.b + i.imm) i.width (s.m.reg i.a)).1 }) rfl rfl (by rw [kb, hfn]; show _ = (bS l s.w (s.m.reg i.b + i.imm) i.width (s.m.reg i.a)).1; rw [o8 hse]) (i6 hS.srt _ _ _) (hj.2 hse)).mono (bU hw.hp)), by show (fr _ _ _ _).length ≤ _; omega⟩
  obtain rfl := List.mem_singleton.1 hq
  refine aV rfl ?_
  refine cZ eB rfl (fun b7 => ?_)
  refine bB ?_
  refine bX [11] (fun iq hq => ?_)
  obtain rfl := List.mem_singleton.1 hq
  refine aV rfl ?_
  refine fS (H0 := H) (n := w.heap.size) (R := fun h (j : SV) => ((bS l s.w (s.m.reg i.b + i.imm) i.width (s.m.reg i.a)).2 ≠ 0 → j = x.c) ∧ ((bS l s.w (s.m.reg i.b + i.imm) i.width (s.m.reg i.a)).2 = 0 → Sl h cQ (fr cs (s.m.reg i.b + i.imm) (s.m.reg i.a) (i.width : Int).toNat) (.slice j.a j.n j.c))) (fun j : SV => .tuple #[.agg (fX x.l j).toArray, .int .i64 (bS l s.w (s.m.reg i.b + i.imm) i.width (s.m.reg i.a)).2]) (rfl : (Bg.of w).lo = _) hH (fun h h' j hh r => ⟨r.1, fun z => (r.2 z).mono hh⟩) rfl mH (fun w2 hw2 hv2 => by have q := kB l cs x.l x.c (s.m.reg i.b + i.imm) i.width (s.m.reg i.a) w2 (hw2.slF hL') (hw2.slF hC') (hD'.mono hw2.bg) hB (by omega); rw [hfn] at q; exact q.mono fun e w' ⟨j, q1, q2, q3, q4⟩ => ⟨j, q1, q2, q3, fun z => (q4 z).mono jk⟩) rfl (fun j F1 hF1 hj => ?_)
  refine qa hF1 ?_
  refine mq hF1 12 rfl (by kernel_rfl) (aX (dE (aX bL))) (ad rfl) ?_
  refine mq hF1 13 rfl (by kernel_rfl) (aX (dE (aX bL))) (az rfl rfl) ?_
  refine mq hF1 14 rfl (by kernel_rfl) (aX (dE (aX bL))) (az rfl rfl) ?_
  refine bX [16] (fun iq hq => ?_)
  obtain rfl := List.mem_singleton.1 hq
  refine aV rfl ?_
  refine bu ia rfl rfl bb ?_
  refine qa hF1 ?_
  refine mq hF1 17 rfl (by kernel_rfl) (aX (dE (aX bL))) (ac rfl) ?_
  refine dZ ?_
  refine aa (af (af (ab (zz0 (ad rfl) (zz0 (dN rfl rfl) (ae (aa ?_)))))))
  refine ak rfl ?_ ?_ <;> intro h8 <;> try simp only [bs] at h8
  ·refine af (ab (zz0 (bK rfl aP au) ?_))
   refine zz0 (ad rfl) (bu cK rfl rfl au ?_)
   refine zz0 (ac rfl) (ae (aa (ao (an (bf (an ?_))))))
   refine d5 fH rfl rfl aP au (fun w' hw => ?_)
   have hq : cS l inp s i s.m.pc = (s, (bS l s.w (s.m.reg i.b + i.imm) i.width (s.m.reg i.a)).2) := by
    unfold cS dX dj eF eY de; repeat (first | rw [if_pos (by first | assumption | omega | (simp; omega))] | rw [if_neg (by first | assumption | omega | (simp; omega))])
    try simp only [Mach.set_to_pc, Mach.set2_to_pc]
    try rfl
   exact ⟨(cs, x), by rw [hq]; try rfl, hw.below hF1, by rw [hq]; exact ((hA0.mono (bU hF1.blk)).mono (bU hw.hp)), Nat.le_add_right _ _⟩
  ·refine ax (aa (af (ab (zz0 (bK rfl bY bb) ?_))))
   refine zz0 (zz3 (off := 13) (ft := 30) rfl aG rfl bb) ?_
   refine zz4 rfl rfl bb (pp _) ?_
   refine ae (aa (af (ab (zz0 (bK rfl aP au) ?_))))
   refine bu cK rfl rfl au ?_
   refine zz0 (ac rfl) (ae (aa (ao (bf (an ?_)))))
   refine d5 fH rfl rfl aP au (fun w' hw => ?_)
   have hse : (bS l s.w (s.m.reg i.b + i.imm) i.width (s.m.reg i.a)).2 = 0 := by simp_all
   have hpn := j4 cs (s.m.reg i.b + i.imm) (s.m.reg i.a) i.width.toNat
   have hwd := qK hse
   have hq : cS l inp s i s.m.pc = ({ s with w := (bS l s.w (s.m.reg i.b + i.imm) i.width (s.m.reg i.a)).1 }, 0) := by
    unfold cS dX dj eF eY de; repeat (first | rw [if_pos (by first | assumption | omega | (simp; omega))] | rw [if_neg (by first | assumption | omega | (simp; omega))])
    try simp only [Mach.set_to_pc, Mach.set2_to_pc]
    try rfl
   exact ⟨(fr cs (s.m.reg i.b + i.imm) (s.m.reg i.a) i.width.toNat, { x with c := j }), by rw [hq]; try rfl, hw.below hF1, by rw [hq]; exact (((hA0.mono (bU hF1.blk)).cell_ (cs' := fr cs (s.m.reg i.b + i.imm) (s.m.reg i.a) (i.width : Int).toNat) (t := { s with w := (bS l s.w (s.m.reg i.b + i.imm) i.width (s.m.reg i.a)).1 }) rfl rfl (by rw [kb, hfn]; show _ = (bS l s.w (s.m.reg i.b + i.imm) i.width (s.m.reg i.a)).1; rw [o8 hse]) (i6 hS.srt _ _ _) (hj.2 hse)).mono (bU hw.hp)), by show (fr _ _ _ _).length ≤ _; omega⟩
 ·refine af (ab (zz0 (aN rfl rfl) (zz0 (ac rfl) (ae (aa ?_)))))
  refine ak rfl ?_ ?_ <;> intro h9 <;> try simp only [bs] at h9
  ·refine af (jf aU ?_)
   refine aJ (zz3 (off := 13) (ft := 30) rfl aG rfl bb) ?_
   refine aJ (fe (vs := fX x.l x.c) rfl (by repeat constructor) bY bb rfl rfl) ?_
   refine aJ (zz3 (off := 1) (ft := 23) rfl ag rfl ah) ?_
   refine aJ (aM rfl ay) ?_
   refine aJ (zz3 (off := 6) (ft := 3) rfl ag rfl aj) ?_
   refine aJ (aM rfl aC) ?_
   refine aJ (zz3 (off := 0) (ft := 40) rfl aG rfl aS) ?_
   refine aJ (zz3 (off := 0) (ft := 36) rfl aA rfl bF) ?_
   refine aJ (ff rfl rfl aZ ah) ?_
   refine aJ (dU (v := .int .u32 (s.m.reg i.a).toNat) rfl (by repeat constructor) ay (i5 hA (by simp))) ?_
   refine aJ (je (m := 4) rfl rfl) ?_
   refine aJ (cJ rfl rfl) ?_
   refine aJ (aF rfl mG (fun w hw => (by have q := lO l cs x.l x.c (i.imm + 4 * s.m.reg i.a) 4 w (hw.slF hL') (hw.slF hC') (hD'.mono hw.bg) hB; rw [hfn] at q; exact q))) ?_
   refine aJ (ad rfl) (aJ (az rfl rfl) (aJ (az rfl rfl) (aJ (ac rfl) (aJ (ac rfl) (cG ?_)))))
   refine aa (af (af (ab (zz0 (ad rfl) (zz0 (aN rfl rfl) (ae (aa ?_)))))))
   refine ak rfl ?_ ?_ <;> intro h10 <;> try simp only [bs] at h10
   ·refine ab (zz0 (ad rfl) (zz0 (zz3 (off := 0) (ft := 40) rfl aG rfl aS) ?_))
    refine zz0 (zz3 (off := 8) (ft := 23) rfl aA rfl ah) ?_
    refine zz4 rfl rfl ah (lN _) ?_
    refine ae (aa (af (ab (zz0 (bK rfl aP au) ?_))))
    refine zz0 (ad rfl) (bu cK rfl rfl au ?_)
    refine zz0 (ac rfl) (ae (aa (ao (bf (an ?_)))))
    refine d5 fH rfl rfl aP au (fun w' hw => ?_)
    have hq : cS l inp s i s.m.pc = (s.to (cP l s.w (i.imm + 4 * s.m.reg i.a) 4).1, (cP l s.w (i.imm + 4 * s.m.reg i.a) 4).2) := by
     rw [show (cP l s.w (i.imm + 4 * s.m.reg i.a) 4).2 = 0 by assumption]
     unfold cS dX dj eF eY de; repeat (first | rw [if_pos (by first | assumption | omega | (simp; omega))] | rw [if_neg (by first | assumption | omega | (simp; omega))])
     try simp only [Mach.set_to_pc, Mach.set2_to_pc]
     try rfl
    exact ⟨(cs, x), by rw [hq]; try rfl, hw.below (Bg.le.refl _), by rw [hq]; exact ((hA0.mono (bU hw.hp)).with_ rfl rfl rfl), Nat.le_add_right _ _⟩
   ·refine ax (aa (af (ab (zz0 (bK rfl aP au) ?_))))
    refine zz0 (ad rfl) (bu cK rfl rfl au ?_)
    refine zz0 (ac rfl) (ae (aa (ao (bf (an ?_)))))
    refine d5 fH rfl rfl aP au (fun w' hw => ?_)
    have hq : cS l inp s i s.m.pc = (s, (cP l s.w (i.imm + 4 * s.m.reg i.a) 4).2) := by
     unfold cS dX dj eF eY de; repeat (first | rw [if_pos (by first | assumption | omega | (simp; omega))] | rw [if_neg (by first | assumption | omega | (simp; omega))])
     try simp only [Mach.set_to_pc, Mach.set2_to_pc]
     try rfl
    exact ⟨(cs, x), by rw [hq]; try rfl, hw.below (Bg.le.refl _), by rw [hq]; exact (hA0.mono (bU hw.hp)), Nat.le_add_right _ _⟩
  ·refine ax (ba (aa (af (ab (zz0 (zz3 (off := 13) (ft := 30) rfl aG rfl bb) ?_)))))
   refine zz0 (fe (vs := fX x.l x.c) rfl (by repeat constructor) bY bb rfl rfl) ?_
   refine zz0 (ad rfl) (zz0 (zz3 (off := 4) (ft := 3) rfl ag rfl aj) ?_)
   refine zz0 (aM rfl aC) ?_
   refine zz0 (aF rfl mG (fun w hw => (by have q := lO l cs x.l x.c (s.m.reg i.b + i.imm) i.width w (hw.slF hL') (hw.slF hC') (hD'.mono hw.bg) hB; rw [hfn] at q; exact q))) ?_
   refine zz0 (ad rfl) (zz0 (az rfl rfl) (zz0 (az rfl rfl) (zz0 (ac rfl) (zz0 (ac rfl) (ae (aa (af (af (ab (zz0 (ad rfl) (zz0 (dN rfl rfl) (ae (aa ?_)))))))))))))
   refine ak rfl ?_ ?_ <;> intro h11 <;> try simp only [bs] at h11
   ·refine af (ab (zz0 (bK rfl aP au) ?_))
    refine zz0 (ad rfl) (bu cK rfl rfl au ?_)
    refine zz0 (ac rfl) (ae (aa (ao (an ?_))))
    refine d5 fH rfl rfl aP au (fun w' hw => ?_)
    have hq : cS l inp s i s.m.pc = (s, (cP l s.w (s.m.reg i.b + i.imm) i.width).2) := by
     unfold cS dX dj eF eY de; repeat (first | rw [if_pos (by first | assumption | omega | (simp; omega))] | rw [if_neg (by first | assumption | omega | (simp; omega))])
     try simp only [Mach.set_to_pc, Mach.set2_to_pc]
     try rfl
    exact ⟨(cs, x), by rw [hq]; try rfl, hw.below (Bg.le.refl _), by rw [hq]; exact (hA0.mono (bU hw.hp)), Nat.le_add_right _ _⟩
   ·refine ax (aa (af (af (ab (zz0 (zz3 (off := 2) (ft := 3) rfl ag rfl aj) ?_)))))
    refine zz0 (aM rfl aC) ?_
    refine zz0 (aN rfl rfl) (ae (aa ?_))
    refine ak rfl ?_ ?_ <;> intro h12 <;> try simp only [bs] at h12
    ·refine ab (zz0 (ad rfl) (zz0 (zz3 (off := 4) (ft := 3) rfl ag rfl aj) ?_))
     refine zz0 (aM rfl aC) ?_
     refine zz0 (aF rfl Tryz.call134 (fun w hw => sQ (cP l s.w (s.m.reg i.b + i.imm) i.width).1 i.width w)) ?_
     refine zz0 (ac rfl) (ae (aa (af (ab (zz0 (zz3 (off := 6) (ft := 3) rfl ag rfl aj) ?_)))))
     refine zz0 (aM rfl aC) ?_
     refine zz0 (ad rfl) (zz0 (zz3 (off := 0) (ft := 40) rfl aG rfl aS) ?_)
     refine zz0 (zz3 (off := 0) (ft := 36) rfl aA rfl bF) ?_
     refine zz0 (ff rfl rfl aZ ah) ?_
     refine ka rfl rfl ah (by repeat constructor) (gY hA (by simp) _) (by rfl) (by rw [gZ]; first | (simp; done) | (simp; omega)) ?_
     refine ae (aa (af (ab (zz0 (bK rfl aP au) ?_))))
     refine bu cK rfl rfl au ?_
     refine zz0 (ac rfl) (ae (aa (ao ?_)))
     refine d5 fH rfl rfl aP au (fun w' hw => ?_)
     have hq : cS l inp s i s.m.pc = (s.setR i.a (jJ (cP l s.w (s.m.reg i.b + i.imm) i.width).1 i.width), 0) := by
      unfold cS dX dj eF eY de; repeat (first | rw [if_pos (by first | assumption | omega | (simp; omega))] | rw [if_neg (by first | assumption | omega | (simp; omega))])
      try simp only [Mach.set_to_pc, Mach.set2_to_pc]
      try rfl
     exact ⟨(cs, x), by rw [hq]; try rfl, hw.below (Bg.le.refl _), by rw [hq]; exact ((hA0.mono (bU hw.hp)).with_ rfl rfl rfl), Nat.le_add_right _ _⟩
    ·refine ax (aa (af (ab (zz0 (zz3 (off := 6) (ft := 3) rfl ag rfl aj) ?_))))
     refine zz0 (aM rfl aC) ?_
     refine zz0 (ad rfl) (zz0 (zz3 (off := 0) (ft := 40) rfl aG rfl aS) ?_)
     refine zz0 (zz3 (off := 0) (ft := 36) rfl aA rfl bF) ?_
     refine zz0 (ff rfl rfl aZ ah) ?_
     refine ka rfl rfl ah (by repeat constructor) (gY hA (by simp) _) (by rfl) (by rw [gZ]; first | (simp; done) | (simp; omega)) ?_
     refine ae (aa (af (ab (zz0 (bK rfl aP au) ?_))))
     refine bu cK rfl rfl au ?_
     refine zz0 (ac rfl) (ae (aa (ao ?_)))
     refine d5 fH rfl rfl aP au (fun w' hw => ?_)
     have hq : cS l inp s i s.m.pc = (s.setR i.a (cP l s.w (s.m.reg i.b + i.imm) i.width).1, 0) := by
      unfold cS dX dj eF eY de; repeat (first | rw [if_pos (by first | assumption | omega | (simp; omega))] | rw [if_neg (by first | assumption | omega | (simp; omega))])
      try simp only [Mach.set_to_pc, Mach.set2_to_pc]
      try rfl
     exact ⟨(cs, x), by rw [hq]; try rfl, hw.below (Bg.le.refl _), by rw [hq]; exact ((hA0.mono (bU hw.hp)).with_ rfl rfl rfl), Nat.le_add_right _ _⟩
theorem rJ (H : Hp) (l : List SecV) (inp : List UInt32) (s : St) (cs : List CellV) (x : RP) (i : Ins) (w : World) (hH : Hp.le H (hp w)) (hR : RefAt H l inp s cs x) (hB : SecB l) (hcb : cs.length ≤ 1000000) (hI : InsOK i) (hA : 0 ≤ i.a ∧ i.a < 8) (hB' : 0 ≤ i.b ∧ i.b < 8) (hop : i.op = 3 ∨ i.op = 4 ∨ i.op = 2 ∨ i.op = 23 ∨ i.op = 24) (hnx : i.addr + u32 i.size = s.m.pc) :
  Calls Tryz.prog 95 #[.agg (ee s x).toArray, .agg (em.enc i).toArray] w (fun e w' => ∃ j : List CellV × RP, e = .returned (.tuple #[.agg (ee (cS l inp s i s.m.pc).1 j.2).toArray, .int .i64 (cS l inp s i s.m.pc).2]) ∧ Ext w w' ∧ RefAt (vis H w.heap.size (hp w')) l inp (cS l inp s i s.m.pc).1 j.1 j.2 ∧ j.1.length ≤ cs.length + 4) := by
 have hA0 : RefAt (vis H w.heap.size (Bg.of w).blk) l inp s cs x := hR.mono (lQ hH)
 have hS : RefAt (Bg.of w).blk l inp s cs x := hR.mono hH
 have hfn := hS.fn
 have hL' := hS.secs
 have hD' := hS.data
 have hC' := hS.cells
 have hX' := hS.inp
 have hO' := hS.out
 refine enter Tryz.func95 rfl Tryz.ntmps95 rfl ?_
 refine af (ab ?_)
 refine cH rfl rfl rfl (fun b1 => ?_)
 refine cH rfl rfl rfl (fun b2 => ?_)
 refine cZ cA rfl (fun b3 => ?_)
 refine zz0 (ac rfl) (ae (aa (af (ab (zz0 (zz3 (off := 6) (ft := 3) rfl ag rfl aj) ?_)))))
 refine zz0 (aM rfl aC) ?_
 refine zz0 (zz3 (off := 0) (ft := 40) rfl aG rfl aS) ?_
 refine zz0 (zz3 (off := 0) (ft := 36) rfl aA rfl bF) ?_
 refine zz0 (ff rfl rfl aZ ah) ?_
 refine zz0 (dU (v := .int .u32 (s.m.reg i.a).toNat) rfl (by repeat constructor) ay (i5 hA (by simp))) ?_
 refine zz0 (ac rfl) (ae (aa (af (af (ab (zz0 (zz3 (off := 2) (ft := 3) rfl ag rfl aj) ?_))))))
 refine zz0 (aM rfl aC) ?_
 refine ae (aa (aQ (af (ab (zz0 (aN rfl rfl) (zz0 (ac rfl) (ae (aa ?_))))))))
 refine ak rfl ?_ ?_ <;> intro h4 <;> try simp only [bs] at h4
 ·refine af (ab (zz0 (bK rfl aP au) ?_))
  refine zz0 (ad rfl) ?_
  refine fS (H0 := H) (n := w.heap.size) (R := fun h (j : List CellV × RP) => RefAt h l inp (iK l s (s.m.reg i.a)).1 j.1 j.2 ∧ j.1.length ≤ cs.length + 4) (fun j : List CellV × RP => .tuple #[.agg (ee (iK l s (s.m.reg i.a)).1 j.2).toArray, .int .i64 (iK l s (s.m.reg i.a)).2]) (rfl : (Bg.of w).lo = _) hH (fun h h' j hh r => ⟨r.1.mono hh, r.2⟩) rfl Tryz.call132 (fun w2 hw2 hv2 => oe (vis H w.heap.size (Bg.of w).blk) l inp s cs x (s.m.reg i.a) w2 hv2 hA0 hB (by omega)) rfl (fun j F1 hF1 hj => ?_)
  refine zz0 (az rfl rfl) (zz0 (az rfl rfl) (bu cK rfl rfl au ?_))
  refine zz0 (ac rfl) (ae (aa (ao (bf (an ?_)))))
  refine d5 gf rfl rfl aP au (fun w' hw => ?_)
  rw [yR (by assumption)]
  exact ⟨j, rfl, hw.below hF1, hj.1.mono (bU hw.hp), hj.2⟩
 ·refine af (ab (zz0 (aN rfl rfl) (zz0 (ac rfl) (ae (aa ?_)))))
  refine ak rfl ?_ ?_ <;> intro h5 <;> try simp only [bs] at h5
  ·refine af (ab (zz0 (bK rfl aP au) ?_))
   refine zz0 (aF rfl Tryz.call133 (fun w hw => pt _ l inp s cs x w hw.hp hS hB hcb)) ?_
   refine zz0 (ad rfl) (zz0 (az rfl rfl) (zz0 (az rfl rfl) (zz0 (az rfl rfl) ?_)))
   refine cZ cA rfl (fun b6 => ?_)
   refine bu cK rfl rfl au ?_
   refine zz0 (ac rfl) (zz0 (ac rfl) (ae (aa (af (af (ab (zz0 (ad rfl) (zz0 (aN rfl rfl) (ae (aa ?_))))))))))
   refine ak rfl ?_ ?_ <;> intro h7 <;> try simp only [bs] at h7
   ·obtain ⟨hl0, hpe⟩ := yc (l := l) (s := s) (by assumption)
    rw [hpe]
    refine ab (zz0 (zz3 (off := 6) (ft := 3) rfl ag rfl aj) ?_)
    refine zz0 (aM rfl aC) ?_
    refine zz0 (ad rfl) (zz0 (zz3 (off := 0) (ft := 40) rfl aG rfl aS) ?_)
    refine zz0 (zz3 (off := 0) (ft := 36) rfl aA rfl bF) ?_
    refine zz0 (ff rfl rfl aZ ah) ?_
    refine ka rfl rfl ah (by repeat constructor) (gY hA (by simp) _) (by rfl) (by rw [gZ]; first | (simp; done) | (simp; omega)) ?_
    refine ae (aa (af (ab (zz0 (bK rfl aP au) ?_))))
    refine zz0 (ad rfl) (bu cK rfl rfl au ?_)
    refine zz0 (ac rfl) (ae (aa (ao (bf (an ?_)))))
    refine d5 gf rfl rfl aP au (fun w' hw => ?_)
    have hq : cS l inp s i s.m.pc = ((s.setR 7 (s.m.r7 + 4)).setR i.a (cP l s.w s.m.r7 4).1, 0) := by
     unfold cS dX dj eF eY de; repeat (first | rw [if_pos (by first | assumption | omega | (simp; omega))] | rw [if_neg (by first | assumption | omega | (simp; omega))])
     try simp only [Mach.set_to_pc, Mach.set2_to_pc]
     try rfl
    exact ⟨(cs, x), by rw [hq]; try rfl, hw.below (Bg.le.refl _), by rw [hq]; exact ((hA0.mono (bU hw.hp)).with_ rfl rfl rfl), Nat.le_add_right _ _⟩
   ·refine ax (aa (af (ab (zz0 (bK rfl aP au) ?_))))
    refine zz0 (ad rfl) (bu cK rfl rfl au ?_)
    refine zz0 (ac rfl) (ae (aa (ao (bf (an ?_)))))
    refine d5 gf rfl rfl aP au (fun w' hw => ?_)
    obtain ⟨hl0, hpe⟩ := yd (l := l) (s := s) (by assumption)
    rw [hpe] at hw ⊢
    have hq : cS l inp s i s.m.pc = (s, (cP l s.w s.m.r7 4).2) := by
     unfold cS dX dj eF eY de; repeat (first | rw [if_pos (by first | assumption | omega | (simp; omega))] | rw [if_neg (by first | assumption | omega | (simp; omega))])
     try simp only [Mach.set_to_pc, Mach.set2_to_pc]
     try rfl
    exact ⟨(cs, x), by rw [hq]; try rfl, hw.below (Bg.le.refl _), by rw [hq]; exact (hA0.mono (bU hw.hp)), Nat.le_add_right _ _⟩
  ·refine af (ab (zz0 (aN rfl rfl) (zz0 (ac rfl) (ae (aa ?_)))))
   refine ak rfl ?_ ?_ <;> intro h8 <;> try simp only [bs] at h8
   ·refine af (ab (zz0 (bK rfl aP au) ?_))
    refine zz0 (aF rfl Tryz.call133 (fun w hw => pt _ l inp s cs x w hw.hp hS hB hcb)) ?_
    refine zz0 (ad rfl) (zz0 (az rfl rfl) (zz0 (az rfl rfl) (zz0 (az rfl rfl) ?_)))
    refine cZ cA rfl (fun b9 => ?_)
    refine bu cK rfl rfl au ?_
    refine zz0 (ac rfl) (zz0 (ac rfl) (ae (aa (af (af (ab (zz0 (ad rfl) (zz0 (aN rfl rfl) (ae (aa ?_))))))))))
    refine ak rfl ?_ ?_ <;> intro h10 <;> try simp only [bs] at h10
    ·refine af ?_
     obtain ⟨hl0, hpe⟩ := yc (l := l) (s := s) (by assumption)
     rw [hpe]
     refine ab (zz0 (ad rfl) (zz0 (zz3 (off := 0) (ft := 40) rfl aG rfl aS) ?_))
     refine zz0 (zz3 (off := 8) (ft := 23) rfl aA rfl ah) ?_
     refine zz4 rfl rfl ah (lN _) ?_
     refine ae (aa (ab (zz0 (ad rfl) (zz0 (gh (n := 4294967295) rfl rfl) ?_))))
     refine zz0 (zz3 (off := 18) (ft := 4) rfl aG rfl bv) ?_
     refine zz4 rfl rfl bv (qT _) ?_
     refine ae (aa (af (ab (zz0 (bK rfl aP au) ?_))))
     refine zz0 (ad rfl) (bu cK rfl rfl au ?_)
     refine zz0 (ac rfl) (ae (aa (ao (bf (an ?_)))))
     refine d5 gf rfl rfl aP au (fun w' hw => ?_)
     have hq : cS l inp s i s.m.pc = ({ (s.setR 7 (s.m.r7 + 4)).to (cP l s.w s.m.r7 4).1 with done := decide ((cP l s.w s.m.r7 4).1 = 4294967295) }, 0) := by
      unfold cS dX dj eF eY de; repeat (first | rw [if_pos (by first | assumption | omega | (simp; omega))] | rw [if_neg (by first | assumption | omega | (simp; omega))])
      try simp only [Mach.set_to_pc, Mach.set2_to_pc]
      try rfl
     exact ⟨(cs, x), by rw [hq]; try rfl, hw.below (Bg.le.refl _), by rw [hq]; exact ((hA0.mono (bU hw.hp)).with_ rfl rfl rfl), Nat.le_add_right _ _⟩
    ·refine ax (aa (af (ab (zz0 (bK rfl aP au) ?_))))
     refine zz0 (ad rfl) (bu cK rfl rfl au ?_)
     refine zz0 (ac rfl) (ae (aa (ao (bf (an ?_)))))
     refine d5 gf rfl rfl aP au (fun w' hw => ?_)
     obtain ⟨hl0, hpe⟩ := yd (l := l) (s := s) (by assumption)
     rw [hpe] at hw ⊢
     have hq : cS l inp s i s.m.pc = (s, (cP l s.w s.m.r7 4).2) := by
      unfold cS dX dj eF eY de; repeat (first | rw [if_pos (by first | assumption | omega | (simp; omega))] | rw [if_neg (by first | assumption | omega | (simp; omega))])
      try simp only [Mach.set_to_pc, Mach.set2_to_pc]
      try rfl
     exact ⟨(cs, x), by rw [hq]; try rfl, hw.below (Bg.le.refl _), by rw [hq]; exact (hA0.mono (bU hw.hp)), Nat.le_add_right _ _⟩
   ·refine ax (ba (aa (af (ab (zz0 (bK rfl aP au) ?_)))))
    refine zz0 (zz3 (off := 0) (ft := 23) rfl ag rfl ah) ?_
    refine zz0 (aM rfl ay) ?_
    refine zz0 (zz3 (off := 8) (ft := 3) rfl ag rfl aj) ?_
    refine zz0 (aM rfl aC) ?_
    refine zz0 (eX rfl aO aT) (zz0 (cJ rfl rfl) ?_)
    refine fS (H0 := H) (n := w.heap.size) (R := fun h (j : List CellV × RP) => RefAt h l inp (iK l s (i.addr + u32 i.size)).1 j.1 j.2 ∧ j.1.length ≤ cs.length + 4) (fun j : List CellV × RP => .tuple #[.agg (ee (iK l s (i.addr + u32 i.size)).1 j.2).toArray, .int .i64 (iK l s (i.addr + u32 i.size)).2]) (rfl : (Bg.of w).lo = _) hH (fun h h' j hh r => ⟨r.1.mono hh, r.2⟩) rfl Tryz.call132 (fun w2 hw2 hv2 => oe (vis H w.heap.size (Bg.of w).blk) l inp s cs x (i.addr + u32 i.size) w2 hv2 hA0 hB (by omega)) rfl (fun j F1 hF1 hj => ?_)
    refine zz0 (ad rfl) (zz0 (az rfl rfl) (zz0 (az rfl rfl) ?_))
    refine cZ cA rfl (fun b11 => ?_)
    refine bu cK rfl rfl au ?_
    refine zz0 (ac rfl) (ae (aa (af (af ?_))))
    rw [hnx] at hj ⊢
    refine ab (zz0 (ad rfl) (zz0 (dN rfl rfl) (ae (aa ?_))))
    refine ak rfl ?_ ?_ <;> intro h12 <;> try simp only [bs] at h12
    ·refine af (ab (zz0 (bK rfl aP au) ?_))
     refine zz0 (ad rfl) (bu cK rfl rfl au ?_)
     refine zz0 (ac rfl) (ae (aa (ao (an ?_))))
     refine d5 gf rfl rfl aP au (fun w' hw => ?_)
     obtain ⟨hse, hpe⟩ := zT (l := l) (s := s) (y := s.m.pc) (by assumption)
     rw [hpe] at hj ⊢
     have hq : cS l inp s i s.m.pc = (s, (bS l s.w (s.m.r7 - 4) 4 s.m.pc).2) := by
      unfold cS dX dj eF eY de; repeat (first | rw [if_pos (by first | assumption | omega | (simp; omega))] | rw [if_neg (by first | assumption | omega | (simp; omega))])
      try simp only [Mach.set_to_pc, Mach.set2_to_pc]
      try rfl
     exact ⟨(cs, x), by rw [hq]; try rfl, hw.below hF1, by rw [hq]; exact ((hA0.mono (bU hF1.blk)).mono (bU hw.hp)), Nat.le_add_right _ _⟩
    ·refine ax (aa (af ?_))
     obtain ⟨hse, hpe⟩ := zS (l := l) (s := s) (y := s.m.pc) (by simp_all)
     have hj0 := hj
     rw [hpe] at hj0
     rw [hpe]
     refine ab (zz0 (zz3 (off := 1) (ft := 23) rfl ag rfl ah) ?_)
     refine zz0 (aM rfl ay) ?_
     refine zz0 (zz3 (off := 0) (ft := 40) rfl aG rfl aS) ?_
     refine zz0 (zz3 (off := 8) (ft := 23) rfl aA rfl ah) ?_
     refine zz4 rfl rfl ah (lN _) ?_
     refine ae (aa (af (af (ab (zz0 (zz3 (off := 2) (ft := 3) rfl ag rfl aj) ?_)))))
     refine zz0 (aM rfl aC) ?_
     refine zz0 (aN rfl rfl) (ae (aa ?_))
     refine ak rfl ?_ ?_ <;> intro h13 <;> try simp only [bs] at h13
     ·refine ab (zz0 (ad rfl) (zz0 (zz3 (off := 0) (ft := 40) rfl aG rfl aS) ?_))
      refine zz0 (zz3 (off := 8) (ft := 23) rfl aA rfl ah) ?_
      refine zz4 rfl rfl ah (lN _) ?_
      refine ae (aa (af (ab (zz0 (bK rfl aP au) ?_))))
      refine bu cK rfl rfl au ?_
      refine zz0 (ac rfl) (ae (aa (ao ?_)))
      refine d5 gf rfl rfl aP au (fun w' hw => ?_)
      have hq : cS l inp s i s.m.pc = ({ s with w := (bS l s.w (s.m.r7 - 4) 4 s.m.pc).1, m := (s.m.set 7 (s.m.r7 - 4)).to (s.m.reg i.a) }, 0) := by
       unfold cS dX dj eF eY de; repeat (first | rw [if_pos (by first | assumption | omega | (simp; omega))] | rw [if_neg (by first | assumption | omega | (simp; omega))])
       try simp only [Mach.set_to_pc, Mach.set2_to_pc]
       try rfl
      exact ⟨j, by rw [hq]; try rfl, hw.below hF1, by rw [hq]; exact ((hj0.1.mono (bU hw.hp)).with_ rfl rfl rfl), hj0.2⟩
     ·refine ax (aa (af (ab (zz0 (bK rfl aP au) ?_))))
      refine bu cK rfl rfl au ?_
      refine zz0 (ac rfl) (ae (aa (ao ?_)))
      refine d5 gf rfl rfl aP au (fun w' hw => ?_)
      have hq : cS l inp s i s.m.pc = ({ s with w := (bS l s.w (s.m.r7 - 4) 4 s.m.pc).1, m := (s.m.set 7 (s.m.r7 - 4)).to i.imm }, 0) := by
       unfold cS dX dj eF eY de; repeat (first | rw [if_pos (by first | assumption | omega | (simp; omega))] | rw [if_neg (by first | assumption | omega | (simp; omega))])
       try simp only [Mach.set_to_pc, Mach.set2_to_pc]
       try rfl
      exact ⟨j, by rw [hq]; try rfl, hw.below hF1, by rw [hq]; exact ((hj0.1.mono (bU hw.hp)).with_ rfl rfl rfl), hj0.2⟩
theorem uy (x : Bool) (w : World) :
  Calls Tryz.prog 98 #[.bool x] w (fun e w' => e = .returned (.int .u32 (jM x).toNat) ∧ Ext w w') := by
 refine enter Tryz.func98 rfl Tryz.ntmps98 rfl ?_
 refine af (ab (zz0 (ac rfl) (ae (aa (af (af (ab (zz0 (ad rfl) (ae (aa ?_))))))))))
 refine ak rfl ?_ ?_ <;> intro h1 <;> try simp only [bs] at h1
 ·refine af (ab (zz0 (ac rfl) (ae (aa (ao (an ?_))))))
  refine aI Tryz.results98 rfl (fun w' hw => ?_)
  exact ⟨by rw [show x = true by assumption]; rfl, hw.below (Bg.le.refl _)⟩
 ·refine ax (aa (af (ab (zz0 (ac rfl) (ae (aa (ao ?_)))))))
  refine aI Tryz.results98 rfl (fun w' hw => ?_)
  exact ⟨by rw [show x = false by simp_all]; rfl, hw.below (Bg.le.refl _)⟩
theorem s6 (H : Hp) (l : List SecV) (inp : List UInt32) (s : St) (cs : List CellV) (x : RP) (i : Ins) (w : World) (hH : Hp.le H (hp w)) (hR : RefAt H l inp s cs x) (hB : SecB l) (hcb : cs.length ≤ 1000000) (hI : InsOK i) (hA : 0 ≤ i.a ∧ i.a < 8) (hB' : 0 ≤ i.b ∧ i.b < 8) (hnx : i.addr + u32 i.size = s.m.pc) (hol : s.out.length ≤ 4096) :
  Calls Tryz.prog 64 #[.agg (ee s x).toArray, .agg (em.enc i).toArray] w (fun e w' => ∃ j : List CellV × RP, e = .returned (.tuple #[.agg (ee (cS l inp s i s.m.pc).1 j.2).toArray, .int .i64 (cS l inp s i s.m.pc).2]) ∧ Ext w w' ∧ RefAt (vis H w.heap.size (hp w')) l inp (cS l inp s i s.m.pc).1 j.1 j.2 ∧ j.1.length ≤ cs.length + 4) := by
 have hA0 : RefAt (vis H w.heap.size (Bg.of w).blk) l inp s cs x := hR.mono (lQ hH)
 have hS : RefAt (Bg.of w).blk l inp s cs x := hR.mono hH
 have hfn := hS.fn
 have hL' := hS.secs
 have hD' := hS.data
 have hC' := hS.cells
 have hX' := hS.inp
 have hO' := hS.out
 have hil := hX'.len_le
 have hin := hX'.len_v
 have hon := hO'.len_v
 have hdl : (inp.drop s.read).length = inp.length - s.read := List.length_drop
 refine enter Tryz.func64 rfl Tryz.ntmps64 rfl ?_
 refine af (ab ?_)
 refine cH rfl rfl rfl (fun b1 => ?_)
 refine cH rfl rfl rfl (fun b2 => ?_)
 refine cZ cA rfl (fun b3 => ?_)
 refine zz0 (ac rfl) (ae (aa (af (af (ab (zz0 (zz3 (off := 2) (ft := 3) rfl ag rfl aj) ?_))))))
 refine zz0 (aM rfl aC) ?_
 refine zz0 (dh rfl rfl) (zz0 (ad rfl) ?_)
 apply bJ
 ·exact (rfl : _ = (4, 10, 14))
 ·exact rfl
 ·intro hT4; have hT4' := hT4
  try simp only [bs] at hT4'
  refine zz5 hT4 (zz3 (off := 2) (ft := 3) rfl ag rfl aj) ?_
  refine zz5 hT4 (aM rfl aC) ?_
  refine zz5 hT4 (dO rfl rfl) (zz0 (aL rfl hT4 rfl) ?_)
  refine ae (aa ?_)
  exact av (Sub.cons rfl (zz8 4 rfl))
 ·intro hF4
  refine zz6 hF4 (zz6 hF4 (zz6 hF4 (zz0 (aK rfl hF4 rfl) ?_)))
  refine ae (aa ?_)
  exact av (Sub.cons rfl (zz8 4 rfl))
 refine ae (aa ?_)
 refine ak rfl ?_ ?_ <;> intro h5 <;> try simp only [bs] at h5
 ·refine af (ab (zz0 (bK rfl aP au) ?_))
  refine zz0 (bK rfl bo aH) ?_
  refine zz0 (aF rfl Tryz.call94 (fun w hw => pu s x i w hI hA hB' (by omega))) ?_
  refine bu cK rfl rfl au ?_
  refine zz0 (ac rfl) (ae (aa (ao (an ?_))))
  refine d5 dT rfl rfl aP au (fun w' hw => ?_)
  have hq : cS l inp s i s.m.pc = (fW s i s.m.pc, 0) := by
   exact kh (by omega)
  exact ⟨(cs, x), by rw [hq]; try rfl, hw.below (Bg.le.refl _), by rw [hq]; exact ((hA0.mono (bU hw.hp)).with_ rfl rfl rfl), Nat.le_add_right _ _⟩
 ·refine ax (aa (af (af (ab (zz0 (zz3 (off := 2) (ft := 3) rfl ag rfl aj) ?_)))))
  refine zz0 (aM rfl aC) ?_
  refine ae (aa (aQ (af (ab (zz0 (aN rfl rfl) (zz0 (ac rfl) (ae (aa ?_))))))))
  refine ak rfl ?_ ?_ <;> intro h6 <;> try simp only [bs] at h6
  ·refine ab (zz0 (zz3 (off := 18) (ft := 4) rfl aG rfl bv) ?_)
   refine zz4 rfl rfl bv (qT _) ?_
   refine ae (ba (aa (af (ab (zz0 (bK rfl aP au) ?_)))))
   refine bu cK rfl rfl au ?_
   refine zz0 (ac rfl) (ae (aa (ao ?_)))
   refine d5 dT rfl rfl aP au (fun w' hw => ?_)
   have hq : cS l inp s i s.m.pc = ({ s with done := true }, 0) := by
    rw [kh (by omega), tg (by omega), decide_eq_true (by assumption)]; rfl
   exact ⟨(cs, x), by rw [hq]; try rfl, hw.below (Bg.le.refl _), by rw [hq]; exact ((hA0.mono (bU hw.hp)).with_ rfl rfl rfl), Nat.le_add_right _ _⟩
  ·refine af (af (ab (zz0 (aN rfl rfl) (zz0 (ac rfl) (ae (aa ?_))))))
   apply cE
   ·exact rfl
   ·intro hO7
    try simp only [bs] at hO7
    refine af (ab (zz0 (aN rfl rfl) (zz0 (ac rfl) (ae (aa ?_)))))
    apply cE
    ·exact rfl
    ·intro hO8
     try simp only [bs] at hO8
     refine af (ab (zz0 (aN rfl rfl) (zz0 (ac rfl) (ae (aa ?_)))))
     apply cE
     ·exact rfl
     ·intro hO9
      try simp only [bs] at hO9
      refine af (ab (zz0 (aN rfl rfl) (zz0 (ac rfl) (ae (aa ?_)))))
      apply cE
      ·exact rfl
      ·intro hO10
       try simp only [bs] at hO10
       refine ab (zz0 (aN rfl rfl) (zz0 (ac rfl) (ae (aa ?_))))
       exact cT rfl (bR 2 rfl)
      refine aa ?_
      exact cT rfl (bR 3 rfl)
     refine aa ?_
     exact cT rfl (bR 3 rfl)
    refine aa ?_
    exact cT rfl (bR 3 rfl)
   refine aa ?_
   refine ak rfl ?_ ?_ <;> intro h11 <;> try simp only [bs] at h11
   ·refine af (ab (zz0 (bK rfl aP au) ?_))
    refine zz0 (bK rfl bo aH) ?_
    refine fS (H0 := H) (n := w.heap.size) (R := fun h (j : List CellV × RP) => RefAt h l inp (cS l inp s i s.m.pc).1 j.1 j.2 ∧ j.1.length ≤ cs.length + 4) (fun j : List CellV × RP => .tuple #[.agg (ee (cS l inp s i s.m.pc).1 j.2).toArray, .int .i64 (cS l inp s i s.m.pc).2]) (rfl : (Bg.of w).lo = _) hH (fun h h' j hh r => ⟨r.1.mono hh, r.2⟩) rfl Tryz.call95 (fun w2 hw2 hv2 => rJ (vis H w.heap.size (Bg.of w).blk) l inp s cs x i w2 hv2 hA0 hB (by omega) hI hA hB' (by omega) hnx) rfl (fun j F1 hF1 hj => ?_)
    refine zz0 (az rfl rfl) (zz0 (az rfl rfl) (bu cK rfl rfl au ?_))
    refine zz0 (ac rfl) (ae (aa (ao (bf (an ?_)))))
    refine d5 dT rfl rfl aP au (fun w' hw => ?_)
    exact ⟨j, rfl, hw.below hF1, hj.1.mono (bU hw.hp), hj.2⟩
   ·refine af (af (ab (zz0 (aN rfl rfl) (zz0 (ac rfl) (ae (aa ?_))))))
    apply cE
    ·exact rfl
    ·intro hO12
     try simp only [bs] at hO12
     refine af (ab (zz0 (aN rfl rfl) (zz0 (ac rfl) (ae (aa ?_)))))
     apply cE
     ·exact rfl
     ·intro hO13
      try simp only [bs] at hO13
      refine af (ab (zz0 (aN rfl rfl) (zz0 (ac rfl) (ae (aa ?_)))))
      apply cE
      ·exact rfl
      ·intro hO14
       try simp only [bs] at hO14
       refine ab (zz0 (aN rfl rfl) (zz0 (ac rfl) (ae (aa ?_))))
       exact cT rfl (bR 2 rfl)
      refine aa ?_
      exact cT rfl (bR 3 rfl)
     refine aa ?_
     exact cT rfl (bR 3 rfl)
    refine aa ?_
    refine ak rfl ?_ ?_ <;> intro h15 <;> try simp only [bs] at h15
    ·refine af (ab (zz0 (bK rfl aP au) ?_))
     refine zz0 (bK rfl bo aH) ?_
     refine fS (H0 := H) (n := w.heap.size) (R := fun h (j : List CellV × RP) => RefAt h l inp (cS l inp s i s.m.pc).1 j.1 j.2 ∧ j.1.length ≤ cs.length + 4) (fun j : List CellV × RP => .tuple #[.agg (ee (cS l inp s i s.m.pc).1 j.2).toArray, .int .i64 (cS l inp s i s.m.pc).2]) (rfl : (Bg.of w).lo = _) hH (fun h h' j hh r => ⟨r.1.mono hh, r.2⟩) rfl Tryz.call96 (fun w2 hw2 hv2 => qy (vis H w.heap.size (Bg.of w).blk) l inp s cs x i w2 hv2 hA0 hB (by omega) hI hA hB' (by omega)) rfl (fun j F1 hF1 hj => ?_)
     refine zz0 (az rfl rfl) (zz0 (az rfl rfl) (bu cK rfl rfl au ?_))
     refine zz0 (ac rfl) (ae (aa (ao (bf (an ?_)))))
     refine d5 dT rfl rfl aP au (fun w' hw => ?_)
     exact ⟨j, rfl, hw.below hF1, hj.1.mono (bU hw.hp), hj.2⟩
    ·refine af (ab (zz0 (aN rfl rfl) (zz0 (ac rfl) (ae (aa ?_)))))
     refine ak rfl ?_ ?_ <;> intro h16 <;> try simp only [bs] at h16
     ·refine bH ([cellE b2 (em.enc i) 114]) 15 rfl aU ?_
      refine zz2 0 rfl (zz3 (off := 6) (ft := 3) rfl ag rfl aj) ?_
      refine zz2 1 rfl (aM rfl aC) ?_
      refine zz2 2 rfl (zz3 (off := 7) (ft := 3) rfl ag rfl aj) ?_
      refine zz2 3 rfl (aM rfl aC) ?_
      refine zz2 4 rfl (zz3 (off := 0) (ft := 40) rfl aG rfl aS) ?_
      refine zz2 5 rfl (zz3 (off := 0) (ft := 36) rfl aA rfl bF) ?_
      refine zz2 6 rfl (ff rfl rfl aZ ah) ?_
      refine zz2 8 rfl (zz3 (off := 1) (ft := 23) rfl ag rfl ah) ?_
      refine zz2 9 rfl (aM rfl ay) ?_
      refine zz2 11 rfl (zz3 (off := 0) (ft := 40) rfl aG rfl aS) ?_
      refine zz2 12 rfl (zz3 (off := 0) (ft := 36) rfl aA rfl bF) ?_
      refine bX [7] (fun iq hq => ?_)
      obtain rfl := List.mem_singleton.1 hq
      refine aV rfl ?_
      refine zz0 (dU (v := .int .u32 (s.m.reg i.b).toNat) rfl (by repeat constructor) ay (i5 hB' (by simp))) ?_
      refine bB ?_
      refine zz2 10 rfl (cJ rfl rfl) ?_
      refine zz2 13 rfl (ff rfl rfl aZ ah) ?_
      refine bX [14] (fun iq hq => ?_)
      obtain rfl := List.mem_singleton.1 hq
      refine aV rfl ?_
      refine ka rfl rfl ah (by repeat constructor) (gY hA (by simp) _) (by rfl) (by rw [gZ]; first | (simp; done) | (simp; omega)) ?_
      refine bB ?_
      refine dZ ?_
      refine ba (aa (af (ab (zz0 (bK rfl aP au) ?_))))
      refine bu cK rfl rfl au ?_
      refine zz0 (ac rfl) (ae (aa (ao ?_)))
      refine d5 dT rfl rfl aP au (fun w' hw => ?_)
      have hq : cS l inp s i s.m.pc = (s.setR i.a (s.m.reg i.b + i.imm), 0) := by
       rw [kh (by omega), wy (by assumption)]
      exact ⟨(cs, x), by rw [hq]; try rfl, hw.below (Bg.le.refl _), by rw [hq]; exact ((hA0.mono (bU hw.hp)).with_ rfl rfl rfl), Nat.le_add_right _ _⟩
     ·refine af (ab (zz0 (aN rfl rfl) (zz0 (ac rfl) (ae (aa ?_)))))
      refine ak rfl ?_ ?_ <;> intro h17 <;> try simp only [bs] at h17
      ·refine af (ab (zz0 (zz3 (off := 5) (ft := 3) rfl ag rfl aj) ?_))
       refine zz0 (aM rfl aC) ?_
       refine zz0 (zz3 (off := 0) (ft := 40) rfl aG rfl aS) ?_
       refine zz0 (zz3 (off := 9) (ft := 38) rfl aA rfl bG) ?_
       refine zz0 (fe (vs := gR.enc s.m.f) rfl (by repeat constructor) dM bG rfl rfl) ?_
       refine zz0 (aF rfl Tryz.call97 (fun w hw => pm i.cc s.m.f w)) ?_
       refine ae (aa ?_)
       refine ak rfl ?_ ?_ <;> intro h18 <;> try simp only [bs] at h18
       ·refine ab (zz0 (zz3 (off := 1) (ft := 23) rfl ag rfl ah) ?_)
        refine zz0 (aM rfl ay) ?_
        refine zz0 (zz3 (off := 0) (ft := 40) rfl aG rfl aS) ?_
        refine zz0 (zz3 (off := 8) (ft := 23) rfl aA rfl ah) ?_
        refine zz4 rfl rfl ah (lN _) ?_
        refine ae (ba (aa (af (ab (zz0 (bK rfl aP au) ?_)))))
        refine bu cK rfl rfl au ?_
        refine zz0 (ac rfl) (ae (aa (ao ?_)))
        refine d5 dT rfl rfl aP au (fun w' hw => ?_)
        have hh : d6 i.cc s.m.f = true := by assumption
        have hq : cS l inp s i s.m.pc = (s.to i.imm, 0) := by
         unfold cS eF de; repeat (first | rw [if_pos (by first | assumption | omega)] | rw [if_neg (by first | assumption | omega)])
         rfl
        exact ⟨(cs, x), by rw [hq]; try rfl, hw.below (Bg.le.refl _), by rw [hq]; exact ((hA0.mono (bU hw.hp)).with_ rfl rfl rfl), Nat.le_add_right _ _⟩
       ·refine ax (ba (aa (af (ab (zz0 (bK rfl aP au) ?_)))))
        refine bu cK rfl rfl au ?_
        refine zz0 (ac rfl) (ae (aa (ao ?_)))
        refine d5 dT rfl rfl aP au (fun w' hw => ?_)
        have hh : d6 i.cc s.m.f = false := by simp_all
        have hq : cS l inp s i s.m.pc = (s, 0) := by
         unfold cS eF de; repeat (first | rw [if_pos (by first | assumption | omega)] | rw [if_neg (by first | assumption | omega)])
         rw [hh]; rfl
        exact ⟨(cs, x), by rw [hq]; try rfl, hw.below (Bg.le.refl _), by rw [hq]; exact ((hA0.mono (bU hw.hp)).with_ rfl rfl rfl), Nat.le_add_right _ _⟩
      ·refine af (ab (zz0 (aN rfl rfl) (zz0 (ac rfl) (ae (aa ?_)))))
       refine ak rfl ?_ ?_ <;> intro h19 <;> try simp only [bs] at h19
       ·refine ab (zz0 (zz3 (off := 6) (ft := 3) rfl ag rfl aj) ?_)
        refine zz0 (aM rfl aC) ?_
        refine zz0 (zz3 (off := 0) (ft := 40) rfl aG rfl aS) ?_
        refine zz0 (zz3 (off := 0) (ft := 36) rfl aA rfl bF) ?_
        refine zz0 (ff rfl rfl aZ ah) ?_
        refine zz0 (dU (v := .int .u32 (s.m.reg i.a).toNat) rfl (by repeat constructor) ay (i5 hA (by simp))) ?_
        refine zz0 (zz3 (off := 0) (ft := 40) rfl aG rfl aS) ?_
        refine zz0 (zz3 (off := 8) (ft := 23) rfl aA rfl ah) ?_
        refine zz4 rfl rfl ah (lN _) ?_
        refine ae (ba (aa (af (ab (zz0 (bK rfl aP au) ?_)))))
        refine bu cK rfl rfl au ?_
        refine zz0 (ac rfl) (ae (aa (ao ?_)))
        refine d5 dT rfl rfl aP au (fun w' hw => ?_)
        have hq : cS l inp s i s.m.pc = (s.to (s.m.reg i.a), 0) := by
         unfold cS eF de; repeat (first | rw [if_pos (by first | assumption | omega)] | rw [if_neg (by first | assumption | omega)])
         rfl
        exact ⟨(cs, x), by rw [hq]; try rfl, hw.below (Bg.le.refl _), by rw [hq]; exact ((hA0.mono (bU hw.hp)).with_ rfl rfl rfl), Nat.le_add_right _ _⟩
       ·refine af (ab (zz0 (aN rfl rfl) (zz0 (ac rfl) (ae (aa ?_)))))
        refine ak rfl ?_ ?_ <;> intro h20 <;> try simp only [bs] at h20
        ·refine bH ([cellE b2 (em.enc i) 114]) 13 rfl aU ?_
         refine zz2 0 rfl (zz3 (off := 6) (ft := 3) rfl ag rfl aj) ?_
         refine zz2 1 rfl (aM rfl aC) ?_
         refine zz2 2 rfl (zz3 (off := 5) (ft := 3) rfl ag rfl aj) ?_
         refine zz2 3 rfl (aM rfl aC) ?_
         refine zz2 4 rfl (zz3 (off := 0) (ft := 40) rfl aG rfl aS) ?_
         refine zz2 5 rfl (zz3 (off := 9) (ft := 38) rfl aA rfl bG) ?_
         refine zz2 9 rfl (zz3 (off := 0) (ft := 40) rfl aG rfl aS) ?_
         refine zz2 10 rfl (zz3 (off := 0) (ft := 36) rfl aA rfl bF) ?_
         refine bX [6] (fun iq hq => ?_)
         obtain rfl := List.mem_singleton.1 hq
         refine aV rfl ?_
         refine zz0 (fe (vs := gR.enc s.m.f) rfl (by repeat constructor) dM bG rfl rfl) ?_
         refine bB ?_
         refine bX [7] (fun iq hq => ?_)
         obtain rfl := List.mem_singleton.1 hq
         refine aV rfl ?_
         refine zz0 (aF rfl Tryz.call97 (fun w hw => pm i.cc s.m.f w)) ?_
         refine bB ?_
         refine bX [8] (fun iq hq => ?_)
         obtain rfl := List.mem_singleton.1 hq
         refine aV rfl ?_
         refine zz0 (aF rfl Tryz.call98 (fun w hw => uy (d6 i.cc s.m.f) w)) ?_
         refine bB ?_
         refine zz2 11 rfl (ff rfl rfl aZ ah) ?_
         refine bX [12] (fun iq hq => ?_)
         obtain rfl := List.mem_singleton.1 hq
         refine aV rfl ?_
         refine ka rfl rfl ah (by repeat constructor) (gY hA (by simp) _) (by rfl) (by rw [gZ]; first | (simp; done) | (simp; omega)) ?_
         refine bB ?_
         refine dZ ?_
         refine ba (aa (af (ab (zz0 (bK rfl aP au) ?_))))
         refine bu cK rfl rfl au ?_
         refine zz0 (ac rfl) (ae (aa (ao ?_)))
         refine d5 dT rfl rfl aP au (fun w' hw => ?_)
         have hq : cS l inp s i s.m.pc = (s.setR i.a (jM (d6 i.cc s.m.f)), 0) := by
          rw [kh (by omega), ww (by assumption)]
         exact ⟨(cs, x), by rw [hq]; try rfl, hw.below (Bg.le.refl _), by rw [hq]; exact ((hA0.mono (bU hw.hp)).with_ rfl rfl rfl), Nat.le_add_right _ _⟩
        ·refine af (ab (zz0 (aN rfl rfl) (zz0 (ac rfl) (ae (aa ?_)))))
         refine ak rfl ?_ ?_ <;> intro h21 <;> try simp only [bs] at h21
         ·refine af (af (ab (zz0 (zz3 (off := 16) (ft := 24) rfl aG rfl cC) ?_)))
          refine zz0 (aM rfl dD) ?_
          refine zz0 (gA rfl al) ?_
          refine zz0 (aN rfl rfl) (ae (aa ?_))
          refine ak rfl ?_ ?_ <;> intro h22 <;> try simp only [bs] at h22
          ·refine af (ab (zz0 (bK rfl aP au) ?_))
           refine bu cK rfl rfl au ?_
           refine zz0 (ac rfl) (ae (aa (ao (an (bf (an ?_))))))
           refine d5 dT rfl rfl aP au (fun w' hw => ?_)
           have hq : cS l inp s i s.m.pc = (s, 14) := by
            unfold cS eF de; repeat (first | rw [if_pos (by first | assumption | omega)] | rw [if_neg (by first | assumption | omega)])
           exact ⟨(cs, x), by rw [hq]; try rfl, hw.below (Bg.le.refl _), by rw [hq]; exact (hA0.mono (bU hw.hp)), Nat.le_add_right _ _⟩
          ·refine ax (aa (af (bH ([cellE b2 (em.enc i) 114]) 10 rfl aU ?_)))
           refine zz2 0 rfl (zz3 (off := 6) (ft := 3) rfl ag rfl aj) ?_
           refine zz2 1 rfl (aM rfl aC) ?_
           refine zz2 2 rfl (zz3 (off := 16) (ft := 24) rfl aG rfl cC) ?_
           refine zz2 6 rfl (zz3 (off := 0) (ft := 40) rfl aG rfl aS) ?_
           refine zz2 7 rfl (zz3 (off := 0) (ft := 36) rfl aA rfl bF) ?_
           refine bX [3] (fun iq hq => ?_)
           obtain rfl := List.mem_singleton.1 hq
           refine aV rfl ?_
           refine zz0 (aM rfl dD) ?_
           refine bB ?_
           refine zz2 4 rfl (gK rfl rfl al ah) ?_
           refine zz2 5 rfl (gJ rfl ay) ?_
           refine zz2 8 rfl (ff rfl rfl aZ ah) ?_
           refine bX [9] (fun iq hq => ?_)
           obtain rfl := List.mem_singleton.1 hq
           refine aV rfl ?_
           refine ka rfl rfl ah (by repeat constructor) (gY hA (by simp) _) (by rfl) (by rw [gZ]; first | (simp; done) | (simp; omega)) ?_
           refine bB ?_
           refine dZ ?_
           refine aa (ab (zz0 (zz3 (off := 16) (ft := 24) rfl aG rfl cC) ?_))
           refine zz0 (aM rfl dD) ?_
           refine zz0 (t6 (xs := inp.drop s.read) (lv := some (_, 1)) (hv := none) rfl hX' rfl rfl al ah (by rfl) (by decide) (by simp only [mh, lp]; omega) (by simp only [lp]; omega)) ?_
           refine zz0 (zz3 (off := 16) (ft := 24) rfl aG rfl cC) ?_
           refine zz4 rfl rfl cC (zP ⟨_, _, _⟩) ?_
           refine ae (ba (aa (af (ab (zz0 (bK rfl aP au) ?_)))))
           refine bu cK rfl rfl au ?_
           refine zz0 (ac rfl) (ae (aa (ao ?_)))
           refine d5 dT rfl rfl aP au (fun w' hw => ?_)
           have hg : (inp.drop s.read).getD 0 default = inp.getD s.read default := by simp [List.getD_eq_getElem?_getD, List.getElem?_drop]
           have hq : cS l inp s i s.m.pc = ({ s.setR i.a (inp.getD s.read default) with read := s.read + 1 }, 0) := by
            unfold cS eF de; repeat (first | rw [if_pos (by first | assumption | omega)] | rw [if_neg (by first | assumption | omega)])
            show (({ s with m := (s.m.set i.a _).to s.m.pc, read := _ } : St), _) = _; rw [Mach.set_to_pc]; rfl
           exact ⟨(cs, { x with i := ⟨if x.i.c = 1 then x.i.a else x.i.a.map (·.add (1 * aw.k)), (inp.drop s.read).length - 1, x.i.c - 1⟩ }), by rw [hq, ← hg]; rfl, hw.below (Bg.le.refl _), by rw [hq]; exact ((hA0.mono (bU hw.hp)).next_ (by omega)), Nat.le_add_right _ _⟩
         ·refine af (ab (zz0 (aN rfl rfl) (zz0 (ac rfl) (ae (aa ?_)))))
          refine ak rfl ?_ ?_ <;> intro h23 <;> try simp only [bs] at h23
          ·refine af (af (ab (zz0 (zz3 (off := 17) (ft := 24) rfl aG rfl cC) ?_)))
           refine zz0 (aM rfl dD) ?_
           refine zz0 (gA rfl al) ?_
           refine zz0 (dh rfl rfl) (ae (aa ?_))
           refine ak rfl ?_ ?_ <;> intro h24 <;> try simp only [bs] at h24
           ·refine af (ab (zz0 (bK rfl aP au) ?_))
            refine bu cK rfl rfl au ?_
            refine zz0 (ac rfl) (ae (aa (ao (an (bf (an ?_))))))
            refine d5 dT rfl rfl aP au (fun w' hw => ?_)
            have hq : cS l inp s i s.m.pc = (s, 6) := by
             unfold cS eF de; repeat (first | rw [if_pos (by first | assumption | omega)] | rw [if_neg (by first | assumption | omega)])
            exact ⟨(cs, x), by rw [hq]; try rfl, hw.below (Bg.le.refl _), by rw [hq]; exact (hA0.mono (bU hw.hp)), Nat.le_add_right _ _⟩
           ·refine ax (aa (af (ab (zz0 (ac rfl) (ae (aa (af (ab (zz0 (ad rfl) (zz0 (zz3 (off := 17) (ft := 24) rfl aG rfl cC) ?_))))))))))
            refine zz0 (aM rfl dD) ?_
            refine f8 _ _ (gI (ys := s.out) rfl rfl (by repeat constructor) (fun w hw => hw.slF hO') al gr (by rfl) (by rfl) (by (try simp only [List.length_cons, List.length_nil, List.length_append, List.length_take, List.length_drop]); omega) (by unfold maxLen; (try simp only [List.length_cons, List.length_nil, List.length_append, List.length_take, List.length_drop]); omega) rfl (fun V43 => ?_))
            rw [List.nil_append]
            refine zz0 (ac rfl) (ae (aa (ab (zz0 (ad rfl) (zz0 (zz3 (off := 6) (ft := 3) rfl ag rfl aj) ?_)))))
            refine zz0 (aM rfl aC) ?_
            refine zz0 (zz3 (off := 0) (ft := 40) rfl aG rfl aS) ?_
            refine zz0 (zz3 (off := 0) (ft := 36) rfl aA rfl bF) ?_
            refine zz0 (ff rfl rfl aZ ah) ?_
            refine zz0 (dU (v := .int .u32 (s.m.reg i.a).toNat) rfl (by repeat constructor) ay (i5 hA (by simp))) ?_
            refine fu (E := aw) (s.m.reg i.a) rfl rfl al ah fj (by rfl) (by rfl) rfl (fun V25 => ?_)
            refine zz7 rfl rfl al gr (fun V44 => ?_)
            refine jx (V := V44) (fun pn cn hpv => ?_)
            subst hpv
            refine zz0 (zz3 (off := 17) (ft := 24) rfl aG rfl cC) ?_
            refine zz4 rfl rfl cC (xT ⟨_, _, _⟩) ?_
            refine ae (ba (aa (af (ab (zz0 (bK rfl aP au) ?_)))))
            refine bu cK rfl rfl au ?_
            refine zz0 (ac rfl) (ae (aa (ao ?_)))
            refine d5 dT rfl rfl aP au (fun w' hw => ?_)
            have hq : cS l inp s i s.m.pc = ({ s with out := s.out ++ [s.m.reg i.a] }, 0) := by
             exact Au (by assumption) (by omega)
            exact ⟨(cs, { x with o := ⟨pn, _, cn⟩ }), by rw [hq]; try rfl, hw.below (Bg.le.refl _), by rw [hq]; exact ((hA0.mono (bU hw.hp)).out_ ((hw.new (.head _)).sl.mono jk)), Nat.le_add_right _ _⟩
          ·refine ax (ba (aa (af (ab (zz0 (bK rfl aP au) ?_)))))
           refine bu cK rfl rfl au ?_
           refine zz0 (ac rfl) (ae (aa (ao ?_)))
           refine d5 dT rfl rfl aP au (fun w' hw => ?_)
           have hq : cS l inp s i s.m.pc = (s, 0) := by
            rw [kh (by omega), tg (by omega), decide_eq_false (by assumption)]; rfl
           exact ⟨(cs, x), by rw [hq]; try rfl, hw.below (Bg.le.refl _), by rw [hq]; exact ((hA0.mono (bU hw.hp)).with_ rfl rfl rfl), Nat.le_add_right _ _⟩
theorem s5 (H : Hp) (l : List SecV) (inp : List UInt32) (s : St) (cs : List CellV) (x : RP) (w : World) (hH : Hp.le H (hp w)) (hR : RefAt H l inp s cs x) (hB : SecB l) (hcb : cs.length ≤ 1000000) (hol : s.out.length ≤ 4096) :
  Calls Tryz.prog 39 #[.agg (ee s x).toArray] w (fun e w' => ∃ j : List CellV × RP, e = .returned (.tuple #[.agg (ee (eN l inp s).1 j.2).toArray, .int .i64 (eN l inp s).2]) ∧ Ext w w' ∧ RefAt (vis H w.heap.size (hp w')) l inp (eN l inp s).1 j.1 j.2 ∧ j.1.length ≤ cs.length + 4) := by
 have hA0 : RefAt (vis H w.heap.size (Bg.of w).blk) l inp s cs x := hR.mono (lQ hH)
 have hS : RefAt (Bg.of w).blk l inp s cs x := hR.mono hH
 have hfn := hS.fn
 have hL' := hS.secs
 have hD' := hS.data
 have hC' := hS.cells
 have hX' := hS.inp
 have hO' := hS.out
 refine enter Tryz.func39 rfl Tryz.ntmps39 rfl ?_
 refine af (ab ?_)
 refine cH rfl rfl rfl (fun b1 => ?_)
 refine cZ cA rfl (fun b2 => ?_)
 refine zz0 (ac rfl) (ae (aa (af (ab (zz0 (zz3 (off := 13) (ft := 30) rfl aG rfl bb) ?_)))))
 refine zz0 (fe (vs := fX x.l x.c) rfl (by repeat constructor) bY bb rfl rfl) ?_
 refine zz0 (zz3 (off := 0) (ft := 40) rfl aG rfl aS) ?_
 refine zz0 (zz3 (off := 8) (ft := 23) rfl aA rfl ah) ?_
 refine zz0 (aM rfl ay) ?_
 refine ow (fun V => .tuple #[V, .int .i64 (dK l s.w s.m.pc).2]) rfl Tryz.call62 (fun w hw => by have q := sW l cs x.l x.c s.m.pc w (hw.slF hL') (hw.slF hC') (hD'.mono hw.bg) hB; rw [hfn] at q; exact q) rfl (fun V51 => ?_)
 refine zz0 (ad rfl) (zz0 (az rfl rfl) (zz0 (az rfl rfl) (zz0 (ac rfl) (zz0 (ac rfl) (ae (aa (af (af (ab (zz0 (ad rfl) (zz0 (dN rfl rfl) (ae (aa ?_)))))))))))))
 refine ak rfl ?_ ?_ <;> intro h3 <;> try simp only [bs] at h3
 ·refine af (ab (zz0 (bK rfl aP au) ?_))
  refine zz0 (ad rfl) (bu cK rfl rfl au ?_)
  refine zz0 (ac rfl) (ae (aa (ao (an ?_))))
  refine d5 jY rfl rfl aP au (fun w' hw => ?_)
  have hq : eN l inp s = (s, (dK l s.w s.m.pc).2) := by unfold eN; rw [if_pos (by assumption)]
  exact ⟨(cs, x), by rw [hq]; try rfl, hw.below (Bg.le.refl _), by rw [hq]; exact (hA0.mono (bU hw.hp)), Nat.le_add_right _ _⟩
 ·refine ax (aa (af (ab (zz0 (ad rfl) (zz0 (zz3 (off := 0) (ft := 40) rfl aG rfl aS) ?_)))))
  refine zz0 (zz3 (off := 8) (ft := 23) rfl aA rfl ah) ?_
  refine zz0 (aM rfl ay) ?_
  refine zz0 (aF rfl Tryz.call63 (fun w hw => (by have q := qq (dK l s.w s.m.pc).1 _ s.m.pc w (hw.row (by repeat constructor)); rw [Ay] at q; exact q))) ?_
  refine zz0 (ad rfl) (zz0 (az rfl rfl) (zz0 (az rfl rfl) ?_))
  refine cZ dq rfl (fun b4 => ?_)
  refine bA em rfl rfl aH ?_
  obtain ⟨ii, hii⟩ : ∃ ii, ii = (gB (dK l s.w s.m.pc).1 s.m.pc).1 := ⟨_, rfl⟩
  rw [← hii]
  refine zz0 (ac rfl) (ae (aa (af (af (ab (zz0 (ad rfl) (zz0 (dN rfl rfl) (ae (aa ?_)))))))))
  refine ak rfl ?_ ?_ <;> intro h5 <;> try simp only [bs] at h5
  ·refine af (ab (zz0 (bK rfl aP au) ?_))
   refine zz0 (ad rfl) (bu cK rfl rfl au ?_)
   refine zz0 (ac rfl) (ae (aa (ao (an ?_))))
   refine d5 jY rfl rfl aP au (fun w' hw => ?_)
   have hq : eN l inp s = (s, (gB (dK l s.w s.m.pc).1 s.m.pc).2) := by unfold eN; rw [if_neg (by simp_all), if_pos (by assumption)]
   exact ⟨(cs, x), by rw [hq]; try rfl, hw.below (Bg.le.refl _), by rw [hq]; exact (hA0.mono (bU hw.hp)), Nat.le_add_right _ _⟩
  ·refine ax (aa (af ?_))
   have hf0 : (dK l s.w s.m.pc).2 = 0 := by simp_all
   have hd0 : (gB (dK l s.w s.m.pc).1 s.m.pc).2 = 0 := by simp_all
   have hIi : InsOK ii := by rw [hii]; exact yS
   obtain ⟨hAi, hBi⟩ := tN hd0
   have hnx := yT hd0
   rw [← hii] at hAi hBi hnx
   have hex : eN l inp s = cS l inp s ii (ii.addr + u32 ii.size) := by unfold eN; rw [if_neg (by simp_all), if_neg (by simp_all), ← hii, hnx]
   have het := Bi (l := l) (inp := inp) (s := s) (i := ii) (nx := ii.addr + u32 ii.size)
   refine ab (zz0 (bK rfl aP au) ?_)
   refine cZ cA rfl (fun b6 => ?_)
   refine bu cK rfl rfl au ?_
   refine ae (aa (af (ab (zz0 (zz3 (off := 0) (ft := 23) rfl ag rfl ah) ?_))))
   refine zz0 (aM rfl ay) ?_
   refine zz0 (zz3 (off := 8) (ft := 3) rfl ag rfl aj) ?_
   refine zz0 (aM rfl aC) ?_
   refine zz0 (eX rfl aO aT) (zz0 (cJ rfl rfl) ?_)
   refine zz0 (zz3 (off := 0) (ft := 40) rfl aG rfl aS) ?_
   refine zz0 (zz3 (off := 8) (ft := 23) rfl aA rfl ah) ?_
   refine zz4 rfl rfl ah (lN _) ?_
   refine ae (aa (af (ab (zz0 (bK rfl aP au) ?_))))
   refine zz0 (bK rfl bo aH) ?_
   refine fS (H0 := H) (n := w.heap.size) (R := fun h (j : List CellV × RP) => RefAt h l inp (cS l inp (s.to (ii.addr + u32 ii.size)) ii (s.to (ii.addr + u32 ii.size)).m.pc).1 j.1 j.2 ∧ j.1.length ≤ cs.length + 4) (fun j : List CellV × RP => .tuple #[.agg (ee (cS l inp (s.to (ii.addr + u32 ii.size)) ii (s.to (ii.addr + u32 ii.size)).m.pc).1 j.2).toArray, .int .i64 (cS l inp (s.to (ii.addr + u32 ii.size)) ii (s.to (ii.addr + u32 ii.size)).m.pc).2]) (rfl : (Bg.of w).lo = _) hH (fun h h' j hh r => ⟨r.1.mono hh, r.2⟩) rfl Tryz.call64 (fun w2 hw2 hv2 => s6 (vis H w.heap.size (Bg.of w).blk) l inp (s.to (ii.addr + u32 ii.size)) cs x ii w2 hv2 (hA0.with_ rfl rfl rfl) hB (by omega) hIi hAi hBi rfl hol) rfl (fun j F1 hF1 hj => ?_)
   refine zz0 (ad rfl) (zz0 (az rfl rfl) (zz0 (az rfl rfl) (bu cK rfl rfl au ?_)))
   refine zz0 (ac rfl) (ae (aa (af (af (ab (zz0 (ad rfl) (zz0 (dN rfl rfl) (ae (aa ?_)))))))))
   refine ak rfl ?_ ?_ <;> intro h7 <;> try simp only [bs] at h7
   ·refine af (ab (zz0 (bK rfl aP au) ?_))
    refine zz0 (ad rfl) (bu cK rfl rfl au ?_)
    refine zz0 (ac rfl) (ae (aa (ao (an ?_))))
    refine d5 jY rfl rfl aP au (fun w' hw => ?_)
    have he1 : (cS l inp s ii (ii.addr + u32 ii.size)).2 ≠ 0 := by rw [← het.1]; assumption
    exact ⟨(cs, x), by rw [hex, vR he1, ← het.1]; rfl, hw.below hF1, by rw [hex, vR he1]; exact ((hA0.mono (bU hF1.blk)).mono (bU hw.hp)), Nat.le_add_right _ _⟩
   ·refine ax (aa (af (ab (zz0 (bK rfl aP au) ?_))))
    refine bu cK rfl rfl au ?_
    refine zz0 (ac rfl) (ae (aa (ao ?_)))
    refine d5 jY rfl rfl aP au (fun w' hw => ?_)
    have he0 : (cS l inp s ii (ii.addr + u32 ii.size)).2 = 0 := by rw [← het.1]; assumption
    have he1 := het.2 he0
    exact ⟨j, by rw [hex, he0, ← he1]; rfl, hw.below hF1, by rw [hex, ← he1]; exact hj.1.mono (bU hw.hp), hj.2⟩
theorem sY (H : Hp) (l : List SecV) (inp : List UInt32) (s : St) (cs : List CellV) (x : RP) (w : World) (hH : Hp.le H (hp w)) (hR : RefAt H l inp s cs x) (hB : SecB l) (hcb : cs.length ≤ 1000000) (hol : s.out.length ≤ 4096) :
  Calls Tryz.prog 20 #[.agg (ee s x).toArray] w (fun e w' => ∃ j : List CellV × RP, e = .returned (.tuple #[.agg (ee (stepS l inp s).1 j.2).toArray, .int .i64 (stepS l inp s).2]) ∧ Ext w w' ∧ RefAt (vis H w.heap.size (hp w')) l inp (stepS l inp s).1 j.1 j.2 ∧ j.1.length ≤ cs.length + 4) := by
 have hA0 : RefAt (vis H w.heap.size (Bg.of w).blk) l inp s cs x := hR.mono (lQ hH)
 have hS : RefAt (Bg.of w).blk l inp s cs x := hR.mono hH
 have hfn := hS.fn
 have hL' := hS.secs
 have hD' := hS.data
 have hC' := hS.cells
 have hX' := hS.inp
 have hO' := hS.out
 refine enter Tryz.func20 rfl Tryz.ntmps20 rfl ?_
 refine af (ab ?_)
 refine cH rfl rfl rfl (fun b1 => ?_)
 refine cZ cA rfl (fun b2 => ?_)
 refine zz0 (ac rfl) (ae (aa (af (af (ab (zz0 (zz3 (off := 18) (ft := 4) rfl aG rfl bv) ?_))))))
 refine zz0 (aM rfl bP) ?_
 refine ae (aa ?_)
 refine ak rfl ?_ ?_ <;> intro h3 <;> try simp only [bs] at h3
 ·refine af (ab (zz0 (bK rfl aP au) ?_))
  refine bu cK rfl rfl au ?_
  refine zz0 (ac rfl) (ae (aa (ao (an ?_))))
  refine d5 Tryz.results20 rfl rfl aP au (fun w' hw => ?_)
  have hq : stepS l inp s = (s, 21) := by unfold stepS; rw [if_pos (by assumption)]
  exact ⟨(cs, x), by rw [hq]; try rfl, hw.below (Bg.le.refl _), by rw [hq]; exact (hA0.mono (bU hw.hp)), Nat.le_add_right _ _⟩
 ·refine ax (aa (af (af (ab (zz0 (zz3 (off := 19) (ft := 31) rfl aG rfl da) ?_)))))
  refine zz0 (aM rfl eH) ?_
  refine zz0 (dN rfl rfl) (ae (aa ?_))
  refine ak rfl ?_ ?_ <;> intro h4 <;> try simp only [bs] at h4
  ·refine af (bH ([cellE b1 (ee s x) 42]) 5 rfl aU ?_)
   refine zz2 0 rfl (bK rfl aP au) ?_
   refine zz2 1 rfl (zz3 (off := 19) (ft := 31) rfl aG rfl da) ?_
   refine zz2 2 rfl (aM rfl eH) ?_
   refine bX [3] (fun iq hq => ?_)
   obtain rfl := List.mem_singleton.1 hq
   refine aV rfl ?_
   refine bu cK rfl rfl au ?_
   refine bB ?_
   refine zz2 4 rfl (ac rfl) ?_
   refine dZ ?_
   refine aa (ao (an ?_))
   refine d5 Tryz.results20 rfl rfl aP au (fun w' hw => ?_)
   have hq : stepS l inp s = (s, s.err) := by unfold stepS; rw [if_neg (by rw [show s.done = false by assumption]; simp), if_pos (by assumption)]
   exact ⟨(cs, x), by rw [hq]; try rfl, hw.below (Bg.le.refl _), by rw [hq]; exact (hA0.mono (bU hw.hp)), Nat.le_add_right _ _⟩
  ·refine ax (aa (af (ab (zz0 (bK rfl aP au) ?_))))
   refine fS (H0 := H) (n := w.heap.size) (R := fun h (j : List CellV × RP) => RefAt h l inp (eN l inp s).1 j.1 j.2 ∧ j.1.length ≤ cs.length + 4) (fun j : List CellV × RP => .tuple #[.agg (ee (eN l inp s).1 j.2).toArray, .int .i64 (eN l inp s).2]) (rfl : (Bg.of w).lo = _) hH (fun h h' j hh r => ⟨r.1.mono hh, r.2⟩) rfl Tryz.call39 (fun w2 hw2 hv2 => s5 (vis H w.heap.size (Bg.of w).blk) l inp s cs x  w2 hv2 hA0 hB (by omega) hol) rfl (fun j F1 hF1 hj => ?_)
   refine zz0 (ad rfl) (zz0 (az rfl rfl) (zz0 (az rfl rfl) ?_))
   refine cZ cA rfl (fun b5 => ?_)
   refine bu cK rfl rfl au ?_
   refine zz0 (ac rfl) (ae (aa (af (ab (zz0 (ad rfl) (zz0 (zz3 (off := 19) (ft := 31) rfl aG rfl da) ?_))))))
   refine zz4 rfl rfl da (xU _) ?_
   refine ae (aa (af (ab (zz0 (bK rfl aP au) ?_))))
   refine zz0 (ad rfl) (bu cK rfl rfl au ?_)
   refine zz0 (ac rfl) (ae (aa (ao ?_)))
   refine d5 Tryz.results20 rfl rfl aP au (fun w' hw => ?_)
   have hq : stepS l inp s = ({ (eN l inp s).1 with err := (eN l inp s).2 }, (eN l inp s).2) := by unfold stepS; rw [if_neg (by simp_all), if_neg (by simp_all)]
   exact ⟨j, by rw [hq]; try rfl, hw.below hF1, by rw [hq]; exact (hj.1.mono (bU hw.hp)).with_ rfl rfl rfl, hj.2⟩
theorem rH (H : Hp) (l : List SecV) (inp : List UInt32) (s : St) (cs : List CellV) (x : RP) (n : Int) (w : World) (hH : Hp.le H (hp w)) (hR : RefAt H l inp s cs x) (hB : SecB l) (hcb : cs.length ≤ 500000) (hol : s.out.length ≤ 4096) :
  Calls Tryz.prog 16 #[.agg (ee s x).toArray, .int .i64 n] w (fun e w' => ∃ j : List CellV × RP × Value, e = .returned (.tuple #[.agg (ee (dl l inp (min n 65536).toNat s) j.2.1).toArray, j.2.2, .agg #[.int .i64 (jl (dl l inp (min n 65536).toNat s)), .slice j.2.1.o.a j.2.1.o.n j.2.1.o.c, .int .i64 ((cX l inp (min n 65536).toNat s).length : Nat)]]) ∧ Ext w w' ∧ (RefAt (vis H w.heap.size (hp w')) l inp (dl l inp (min n 65536).toNat s) j.1 j.2.1 ∧ Sl (vis H w.heap.size (hp w')) aw (cX l inp (min n 65536).toNat s) j.2.2) ∧ j.1.length ≤ cs.length + 4 * (cX l inp (min n 65536).toNat s).length) := by
 have hA0 : RefAt (vis H w.heap.size (Bg.of w).blk) l inp s cs x := hR.mono (lQ hH)
 have hS : RefAt (Bg.of w).blk l inp s cs x := hR.mono hH
 have hfn := hS.fn
 have hL' := hS.secs
 have hD' := hS.data
 have hC' := hS.cells
 have hX' := hS.inp
 have hO' := hS.out
 refine enter Tryz.func16 rfl Tryz.ntmps16 rfl ?_
 refine af (ab ?_)
 refine cH rfl rfl rfl (fun b1 => ?_)
 refine cZ cA rfl (fun b2 => ?_)
 refine zz0 (ac rfl) ?_
 refine cZ cY rfl (fun b3 => ?_)
 refine ae (aa (af (ab (zz0 (ac rfl) (ae (aa (af (aQ (f8 23 aw ?_)))))))))
 refine cu (ι := Nat × St × List UInt32 × List CellV × RP × Value × Bg) (fun ⟨k, t, tr, ct, xt, vt, G⟩ => Ran l inp s k t tr ∧ k ≤ (min n 65536).toNat ∧ (Bg.of w).le G ∧ RefAt (vis H w.heap.size G.blk) l inp t ct xt ∧ ct.length ≤ cs.length + 4 * k) (fun ⟨k, t, tr, ct, xt, vt, G⟩ => G) (fun ⟨k, t, tr, ct, xt, vt, G⟩ => [rowE vt 23 aw tr, cellE b3 [.int .i64 0, .slice none 0 0, .int .i64 0] 46, cellE b2 [.int .u32 0, .int .u32 0, .int .u32 0, .int .u32 0, .int .u32 0, .int .u32 0, .int .u32 0, .int .u32 0, .int .u32 0, .bool false, .bool false, .bool false, .bool false, .bool false, .slice none 0 0, .slice none 0 0, .slice none 0 0, .slice none 0 0, .bool false, .int .i64 0] 42, cellE b1 (ee t xt) 42]) (fun ⟨k, t, tr, ct, xt, vt, G⟩ => [(7, vt)]) (fun ⟨k, t, tr, ct, xt, vt, G⟩ => (min n 65536).toNat - k) (0, s, [], cs, x, _, Bg.of w) ⟨.nil, Nat.zero_le _, Bg.le.refl _, hA0, Nat.le_refl _⟩ (.cons (by first | rfl | exact am rfl (by omega) | exact am rfl (by simp) | exact aR rfl (by simp)) Front.nil) (by repeat' constructor) rfl (fun i hi m hm => ?_)
 obtain ⟨k, t, tr, ct, xt, vt, G⟩ := i
 replace hi : Ran l inp s k t tr ∧ k ≤ (min n 65536).toNat ∧ (Bg.of w).le G ∧ RefAt (vis H w.heap.size G.blk) l inp t ct xt ∧ ct.length ≤ cs.length + 4 * k := hi
 replace hm : m = (min n 65536).toNat - k := hm
 change Tr _ (G) [rowE vt 23 aw tr, cellE b3 [.int .i64 0, .slice none 0 0, .int .i64 0] 46, cellE b2 [.int .u32 0, .int .u32 0, .int .u32 0, .int .u32 0, .int .u32 0, .int .u32 0, .int .u32 0, .int .u32 0, .int .u32 0, .bool false, .bool false, .bool false, .bool false, .bool false, .slice none 0 0, .slice none 0 0, .slice none 0 0, .slice none 0 0, .bool false, .int .i64 0] 42, cellE b1 (ee t xt) 42] ([(7, vt)] ++ _) _
 obtain ⟨hR0, hk, hG, hRA, hcl⟩ := hi
 have hrl := hR0.len
 have hSt := hRA.mono (nA (hH.trans hG.blk))
 refine af (af (ab (zz0 (ad rfl) (zz0 (fN rfl (by repeat constructor) al) ?_))))
 refine zz0 (ad rfl) (zz0 (kN rfl rfl) ?_)
 refine zz0 (cI rfl rfl) (zz0 (ad rfl) ?_)
 apply bJ
 ·exact (rfl : _ = (4, 16, 20))
 ·exact rfl
 ·intro hT4; have hT4' := hT4
  try simp only [bs] at hT4'
  refine zz5 hT4 (zz3 (off := 18) (ft := 4) rfl aG rfl bv) ?_
  refine zz5 hT4 (aM rfl bP) ?_
  refine zz5 hT4 (cp rfl) (zz0 (aL rfl hT4 rfl) ?_)
  refine ae (aa ?_)
  exact av (Sub.cons rfl (zz8 4 rfl))
 ·intro hF4
  refine zz6 hF4 (zz6 hF4 (zz6 hF4 (zz0 (aK rfl hF4 rfl) ?_)))
  refine ae (aa ?_)
  exact av (Sub.cons rfl (zz8 4 rfl))
 refine zz0 (ad rfl) ?_
 apply bJ
 ·exact (rfl : _ = (4, 21, 25))
 ·exact rfl
 ·intro hT5; have hT5' := hT5
  try simp only [bs] at hT5'
  refine zz5 hT5 (zz3 (off := 19) (ft := 31) rfl aG rfl da) ?_
  refine zz5 hT5 (aM rfl eH) ?_
  refine zz5 hT5 (aN rfl rfl) (zz0 (aL rfl hT5 rfl) ?_)
  refine ae (aa ?_)
  exact av (Sub.cons rfl (zz8 4 rfl))
 ·intro hF5
  refine zz6 hF5 (zz6 hF5 (zz6 hF5 (zz0 (aK rfl hF5 rfl) ?_)))
  refine ae (aa ?_)
  exact av (Sub.cons rfl (zz8 4 rfl))
 refine ae (aa ?_)
 refine ak rfl ?_ ?_ <;> intro h6 <;> try simp only [bs] at h6
 ·refine ax (aa (aQ (af (ab (zz0 (ad rfl) (zz0 (zz3 (off := 0) (ft := 40) rfl aG rfl aS) ?_))))))
  refine zz0 (zz3 (off := 8) (ft := 23) rfl aA rfl ah) ?_
  refine zz0 (aM rfl ay) ?_
  refine fu (E := aw) t.m.pc rfl rfl al ah fj (by rfl) (by rfl) rfl (fun V7 => ?_)
  refine zz7 rfl rfl al gr (fun V44 => ?_)
  refine zz0 (ac rfl) (ae (aa (af (ab (zz0 (bK rfl aP au) ?_)))))
  refine fS (H0 := H) (n := w.heap.size) (R := fun h (j : List CellV × RP) => RefAt h l inp (stepS l inp t).1 j.1 j.2 ∧ j.1.length ≤ ct.length + 4) (fun j : List CellV × RP => .tuple #[.agg (ee (stepS l inp t).1 j.2).toArray, .int .i64 (stepS l inp t).2]) hG.lo (hH.trans hG.blk) (fun h h' j hh r => ⟨r.1.mono hh, r.2⟩) rfl Tryz.call20 (fun w2 hw2 hv2 => sY (vis H w.heap.size G.blk) l inp t ct xt w2 hv2 hRA hB (by omega) (hR0.out_len hol)) rfl (fun j F1 hF1 hj => ?_)
  refine zz0 (ad rfl) (zz0 (az rfl rfl) (zz0 (az rfl rfl) ?_))
  refine cZ cA rfl (fun b8 => ?_)
  refine bu cK rfl rfl au ?_
  refine zz0 (ac rfl) (ae (aa (ab (zz0 (bK rfl aP au) ?_))))
  refine bu cK rfl rfl au ?_
  refine ae (ba (aa ?_))
  apply bT (k + 1, (stepS l inp t).1, tr ++ [t.m.pc], j.1, j.2, V44, F1)
  ·exact rfl
  ·exact (.cons (by first | rfl | exact am rfl (by omega) | exact am rfl (by simp) | exact aR rfl (by simp)) Front.nil)
  ·exact bR 25 rfl
  ·exact (by repeat' constructor)
  ·exact ⟨.snoc hR0 (by simp_all) (by simp_all), by omega, hG.trans hF1, hj.1, by have := hj.2; show j.1.length ≤ _; omega⟩
  ·exact (by show (min n 65536).toNat - (k + 1) < m; omega)
 ·refine cj (aY (aY (bV (aa (af ?_)))))
  have hfu := hR0.full (n := (min n 65536).toNat) hk (by by_cases hq : k = (min n 65536).toNat; exact .inl hq; right; rintro ⟨q1, q2⟩; simp_all; omega)
  refine vd (H0 := H) (n := w.heap.size) hG.lo (.here _) (fun F2 hF2 hvt => ?_)
  have hvt2 : Sl F2.blk aw tr vt := hvt.mono (nA (hH.trans (hG.trans hF2).blk))
  refine ab (zz0 (zz3 (off := 19) (ft := 31) rfl aG rfl da) ?_)
  refine zz0 (aM rfl eH) ?_
  refine zz0 (ac rfl) (ae (aa ?_))
  refine eE (ι := Int) (fun er => er = jl t) (fun _ => F2) (fun er => [cellE b3 [.int .i64 0, .slice none 0 0, .int .i64 0] 46, cellE b2 [.int .u32 0, .int .u32 0, .int .u32 0, .int .u32 0, .int .u32 0, .int .u32 0, .int .u32 0, .int .u32 0, .int .u32 0, .bool false, .bool false, .bool false, .bool false, .bool false, .slice none 0 0, .slice none 0 0, .slice none 0 0, .slice none 0 0, .bool false, .int .i64 0] 42, cellE b1 (ee t xt) 42]) (fun er => [(10, .int .i64 er)]) ?_ (fun er hi => ?_)
  ·skip
   refine af (ab (zz0 (zz3 (off := 18) (ft := 4) rfl aG rfl bv) ?_))
   refine zz0 (aM rfl bP) ?_
   refine zz0 (cp rfl) (zz0 (ad rfl) ?_)
   apply bJ
   ·exact (rfl : _ = (3, 43, 46))
   ·exact rfl
   ·intro hT9; have hT9' := hT9
    try simp only [bs] at hT9'
    refine zz5 hT9 (ad rfl) (zz5 hT9 (aN rfl rfl) (zz0 (aL rfl hT9 rfl) ?_))
    refine ae (aa ?_)
    exact av (Sub.cons rfl (zz8 3 rfl))
   ·intro hF9
    refine zz6 hF9 (zz6 hF9 (zz0 (aK rfl hF9 rfl) ?_))
    refine ae (aa ?_)
    exact av (Sub.cons rfl (zz8 3 rfl))
   refine ae (aa ?_)
   refine ak rfl ?_ ?_ <;> intro h10 <;> try simp only [bs] at h10
   ·refine ab (zz0 (ac rfl) (ae (aa ?_)))
    apply a9 15
    ·exact rfl
    ·exact (.cons (by first | rfl | exact am rfl (by omega) | exact am rfl (by simp) | exact aR rfl (by simp)) Front.nil)
    ·exact bR 6 rfl
    ·exact (by repeat' constructor)
    ·exact (by show _ = _; unfold jl; clear hfu; rw [if_pos (by simp_all)])
   ·refine ax (aa ?_)
    apply a9 t.err
    ·exact rfl
    ·exact (.cons (by first | rfl | exact am rfl (by omega) | exact am rfl (by simp) | exact aR rfl (by simp)) Front.nil)
    ·exact bR 5 rfl
    ·exact (by repeat' constructor)
    ·exact (by show _ = _; unfold jl; clear hfu; rw [if_neg (fun q => by obtain ⟨q1, q2⟩ := q; simp_all)])
  ·skip
   replace hi : er = jl t := hi
   change Tr _ _ [cellE b3 [.int .i64 0, .slice none 0 0, .int .i64 0] 46, cellE b2 [.int .u32 0, .int .u32 0, .int .u32 0, .int .u32 0, .int .u32 0, .int .u32 0, .int .u32 0, .int .u32 0, .int .u32 0, .bool false, .bool false, .bool false, .bool false, .bool false, .slice none 0 0, .slice none 0 0, .slice none 0 0, .slice none 0 0, .bool false, .int .i64 0] 42, cellE b1 (ee t xt) 42] ([(10, .int .i64 er)] ++ _) _
   refine af (bH ([cellE b1 (ee t xt) 42]) 11 rfl aU ?_)
   refine zz2 0 rfl (bK rfl aP au) ?_
   refine zz2 1 rfl (ad rfl) ?_
   refine zz2 2 rfl (ad rfl) ?_
   refine zz2 3 rfl (zz3 (off := 17) (ft := 24) rfl aG rfl cC) ?_
   refine zz2 4 rfl (aM rfl dD) ?_
   refine zz2 5 rfl (ad rfl) ?_
   refine bX [6, 8] (fun iq hq => ?_)
   rcases List.mem_cons.1 hq with rfl | hq
   ·skip
    refine aV rfl ?_
    refine zz0 (gA rfl al) ?_
    refine bB ?_
    refine zz2 7 rfl (bE (vs := [(0, _), (1, _), (2, _)]) rfl rfl rfl) ?_
    refine bX [8] (fun iq hq => ?_)
    obtain rfl := List.mem_singleton.1 hq
    refine aV rfl ?_
    refine bu cK rfl rfl au ?_
    refine bB ?_
    refine zz2 9 rfl (ac rfl) ?_
    refine bX [10] (fun iq hq => ?_)
    obtain rfl := List.mem_singleton.1 hq
    refine aV rfl ?_
    refine zz9 rfl rfl cF ?_
    refine bB ?_
    refine dZ ?_
    refine aa (ao ?_)
    refine rq Tryz.results16 rfl rfl rfl (by repeat constructor) (by repeat constructor) aP au (by rfl) ip cF (by rfl) (fun w' hw => ?_)
    obtain ⟨e1, e2⟩ := hfu
    have hrl2 := hR0.len
    subst hi
    exact ⟨(ct, xt, vt), by rw [← e1, ← e2]; try rfl, hw.below (hG.trans hF2), by rw [← e1, ← e2]; exact ⟨(hRA.mono (bU hF2.blk)).mono (bU hw.hp), hvt.mono (bU hw.hp)⟩, by rw [← e2]; show ct.length ≤ _; omega⟩
   obtain rfl := List.mem_singleton.1 hq
   refine aV rfl ?_
   refine bu cK rfl rfl au ?_
   refine bB ?_
   refine zz2 9 rfl (ac rfl) ?_
   refine bX [6] (fun iq hq => ?_)
   obtain rfl := List.mem_singleton.1 hq
   refine aV rfl ?_
   refine zz0 (gA rfl al) ?_
   refine bB ?_
   refine zz2 7 rfl (bE (vs := [(0, _), (1, _), (2, _)]) rfl rfl rfl) ?_
   refine bX [10] (fun iq hq => ?_)
   obtain rfl := List.mem_singleton.1 hq
   refine aV rfl ?_
   refine zz9 rfl rfl cF ?_
   refine bB ?_
   refine dZ ?_
   refine aa (ao ?_)
   refine rq Tryz.results16 rfl rfl rfl (by repeat constructor) (by repeat constructor) aP au (by rfl) ip cF (by rfl) (fun w' hw => ?_)
   obtain ⟨e1, e2⟩ := hfu
   have hrl2 := hR0.len
   subst hi
   exact ⟨(ct, xt, vt), by rw [← e1, ← e2]; try rfl, hw.below (hG.trans hF2), by rw [← e1, ← e2]; exact ⟨(hRA.mono (bU hF2.blk)).mono (bU hw.hp), hvt.mono (bU hw.hp)⟩, by rw [← e2]; show ct.length ≤ _; omega⟩
theorem uw (H : Hp) (l : List SecV) (inp : List UInt32) (s : St) (cs : List CellV) (x : RP) (n : Int) (w : World) (hH : Hp.le H (hp w)) (hR : RefAt H l inp s cs x) (hB : SecB l) (hcb : cs.length ≤ 500000) (hol : s.out.length ≤ 4096) :
  Calls Tryz.prog 12 #[.agg (ee s x).toArray, .int .i64 n] w (fun e w' => ∃ j : List CellV × RP, e = .returned (.tuple #[.agg (ee (dl l inp (min n 65536).toNat s) j.2).toArray, .agg #[.int .i64 (jl (dl l inp (min n 65536).toNat s)), .slice j.2.o.a j.2.o.n j.2.o.c, .int .i64 ((cX l inp (min n 65536).toNat s).length : Nat)]]) ∧ Ext w w' ∧ RefAt (vis H w.heap.size (hp w')) l inp (dl l inp (min n 65536).toNat s) j.1 j.2 ∧ j.1.length ≤ cs.length + 4 * (cX l inp (min n 65536).toNat s).length) := by
 have hA0 : RefAt (vis H w.heap.size (Bg.of w).blk) l inp s cs x := hR.mono (lQ hH)
 have hS : RefAt (Bg.of w).blk l inp s cs x := hR.mono hH
 have hfn := hS.fn
 have hL' := hS.secs
 have hD' := hS.data
 have hC' := hS.cells
 have hX' := hS.inp
 have hO' := hS.out
 refine enter Tryz.func12 rfl Tryz.ntmps12 rfl ?_
 refine af (ab ?_)
 refine cH rfl rfl rfl (fun b1 => ?_)
 refine cZ cA rfl (fun b2 => ?_)
 refine cZ cY rfl (fun b3 => ?_)
 refine ae (aa (af (ab (zz0 (bK rfl aP au) ?_))))
 refine zz0 (ad rfl) ?_
 refine fS (H0 := H) (n := w.heap.size) (R := fun h (j : List CellV × RP × Value) => (RefAt h l inp (dl l inp (min n 65536).toNat s) j.1 j.2.1 ∧ Sl h aw (cX l inp (min n 65536).toNat s) j.2.2) ∧ j.1.length ≤ cs.length + 4 * (cX l inp (min n 65536).toNat s).length) (fun j : List CellV × RP × Value => .tuple #[.agg (ee (dl l inp (min n 65536).toNat s) j.2.1).toArray, j.2.2, .agg #[.int .i64 (jl (dl l inp (min n 65536).toNat s)), .slice j.2.1.o.a j.2.1.o.n j.2.1.o.c, .int .i64 ((cX l inp (min n 65536).toNat s).length : Nat)]]) (rfl : (Bg.of w).lo = _) hH (fun h h' j hh r => ⟨⟨r.1.1.mono hh, r.1.2.mono hh⟩, r.2⟩) rfl Tryz.call16 (fun w2 hw2 hv2 => rH (vis H w.heap.size (Bg.of w).blk) l inp s cs x n w2 hv2 hA0 hB hcb hol) rfl (fun j F1 hF1 hj => ?_)
 refine zz0 (ad rfl) (zz0 (az rfl rfl) (zz0 (az rfl rfl) (zz0 (az rfl rfl) ?_)))
 refine cZ cA rfl (fun b4 => ?_)
 refine cZ cY rfl (fun b5 => ?_)
 refine bu cK rfl rfl au ?_
 refine zz0 (ac rfl) (zz9 rfl rfl cF ?_)
 refine ae (aa (af (bH ([cellE b4 (ee (dl l inp (min n 65536).toNat s) j.2.1) 42, cellE b5 [.int .i64 (jl (dl l inp (min n 65536).toNat s)), .slice j.2.1.o.a j.2.1.o.n j.2.1.o.c, .int .i64 ((cX l inp (min n 65536).toNat s).length : Nat)] 46]) 4 rfl aU ?_)))
 refine zz2 0 rfl (bK rfl aP au) ?_
 refine zz2 1 rfl (bK rfl ip cF) ?_
 refine bX [2] (fun iq hq => ?_)
 obtain rfl := List.mem_singleton.1 hq
 refine aV rfl ?_
 refine bu cK rfl rfl au ?_
 refine bB ?_
 refine bX [3] (fun iq hq => ?_)
 obtain rfl := List.mem_singleton.1 hq
 refine aV rfl ?_
 refine zz9 rfl rfl cF ?_
 refine bB ?_
 refine dZ ?_
 refine aa (ao ?_)
 refine zh Tryz.results12 rfl rfl (by repeat constructor) (by repeat constructor) aP au (by rfl) ip cF (by rfl) (fun w' hw => ?_)
 exact ⟨(j.1, j.2.1), rfl, hw.below hF1, hj.1.1.mono (bU hw.hp), hj.2⟩
theorem ux (l : List SecV) (inp : List UInt32) (xl xi : SV) (p : UInt32) (w : World) (hL : Sl (hp w) cm l (.slice xl.a xl.n xl.c)) (hD : DataIn (hp w) l) (hB : SecB l) (hin : Sl (hp w) aw inp (.slice xi.a xi.n xi.c)) (hil : inp.length ≤ 4096) :
  Calls Tryz.prog 10 #[.agg #[.bool true, .slice xl.a xl.n xl.c, .slice none 0 0], .int .u32 p.toNat, .slice xi.a xi.n xi.c] w (fun e w' => ∃ j : SV, e = .returned (.tuple #[.agg (ee (di p) ⟨xl, j, xi, ⟨none, 0, 0⟩⟩).toArray, .int .i64 0]) ∧ Ext w w' ∧ Sl (pG w w') cQ (fr [] 983036 4294967295 4) (.slice j.a j.n j.c)) := by
 have hL' : Sl (Bg.of w).blk cm l (.slice xl.a xl.n xl.c) := hL
 have hD' : DataIn (Bg.of w).blk l := hD
 have hin' : Sl (Bg.of w).blk aw inp (.slice xi.a xi.n xi.c) := hin
 have hst : bS l (dz []) 983036 4 4294967295 = (mL (dz []) 983036 4294967295 4, 0) := qL
 refine enter Tryz.func10 rfl Tryz.ntmps10 rfl ?_
 refine af (ab ?_)
 refine cH rfl rfl rfl (fun b1 => ?_)
 refine cZ cA rfl (fun b2 => ?_)
 refine zz0 (ac rfl) (ae (aa (af (ab (zz0 (bK rfl bY bb) ?_)))))
 refine fS (H0 := wF) (n := w.heap.size) (R := fun h (j : SV) => Sl h cQ (fr [] 983036 4294967295 4) (.slice j.a j.n j.c)) (fun j : SV => .tuple #[.agg (fX xl j).toArray, .int .i64 0]) (rfl : (Bg.of w).lo = _) (nc _) (fun h h' j hh r => r.mono hh) rfl mH (fun w2 hw2 hv2 => by have q := kB l [] xl ⟨none, 0, 0⟩ 983036 4 4294967295 w2 (hw2.slF hL') (Sl.nil _ _) (hD'.mono hw2.bg) hB (by simp); rw [hst] at q; exact q.mono fun e w' ⟨j, q1, q2, q3, q4⟩ => ⟨j, q1, q2, (q4 rfl).mono jk⟩) rfl (fun j F1 hF1 hj => ?_)
 refine zz0 (ad rfl) (zz0 (az rfl rfl) (zz0 (az rfl rfl) ?_))
 refine cZ eB rfl (fun b3 => ?_)
 refine bu ia rfl rfl bb ?_
 refine zz0 (ac rfl) (ae (aa (af (af (ab (zz0 (ad rfl) (zz0 (dN rfl rfl) (ae (aa ?_)))))))))
 refine ak rfl ?_ ?_ <;> intro h4 <;> try simp only [bs] at h4
 ·first | contradiction | (exfalso; omega) | simp_all
 ·refine ax (aa (af (af ?_)))
  have hin1 := hin'.mono hF1.blk
  refine ab (zz0 (ad rfl) (zz0 (gA rfl al) ?_))
  refine zz0 (fC rfl rfl) (ae (aa ?_))
  refine ak rfl ?_ ?_ <;> intro h5 <;> try simp only [bs] at h5
  ·first | contradiction | (exfalso; omega) | simp_all
  ·refine ax (aa (af (bH ([cellE b3 (fX xl j) 30]) 7 rfl aU ?_)))
   refine zz2 0 rfl (ad rfl) ?_
   refine zz2 2 rfl (bK rfl bY bb) ?_
   refine zz2 3 rfl (ad rfl) ?_
   refine bX [1] (fun iq hq => ?_)
   obtain rfl := List.mem_singleton.1 hq
   refine aV rfl ?_
   refine zz0 (aF rfl Tryz.call28 (fun w hw => rI p w)) ?_
   refine bB ?_
   refine eU 4 rfl (by kernel_rfl) (aX bL) (bE (vs := [(0, _), (1, _), (2, _)]) (cs := (ee (di p) ⟨xl, j, xi, ⟨none, 0, 0⟩⟩).toArray) rfl rfl (by kernel_rfl)) ?_
   refine bX [5] (fun iq hq => ?_)
   obtain rfl := List.mem_singleton.1 hq
   refine aV rfl ?_
   refine bu cK rfl rfl au ?_
   refine bB ?_
   refine zz2 6 rfl (ac rfl) ?_
   refine dZ ?_
   refine aa (ao ?_)
   refine d5 Tryz.results10 rfl rfl aP au (fun w' hw => ?_)
   exact ⟨j, rfl, hw.below hF1, hj.mono (bU hw.hp)⟩
end Go.Proofs.YtpeaodkfbjenpaaGreat
namespace Go.HL
open Go Go.RowKit
theorem xn (h : Hp) (n : Nat) : Hp.le h (vis h n h) := fun b o e => by
  unfold vis
  split <;> exact e
theorem zK {h : Hp} {T U : TypeId} {V : Value} {ks : List SecV} (k : ∀ e ∈ lL T U V ks, e.ok (e.blk.bind h)) : Sl h cm ks V ∧ DataIn h ks :=
  ⟨RowOK.sl (k _ (.head _)), fun s hs => RowOK.sl (k _ (sN hs))⟩
theorem SecB.pl {l k : List SecV} (hp : k.map SecV.pl = l.map SecV.pl) (hB : SecB l) : SecB k := by
  refine ⟨by rw [uA hp]; exact hB.1, fun s hs => ?_⟩
  have hm : s.pl ∈ k.map SecV.pl := List.mem_map.2 ⟨s, hs, rfl⟩
  rw [hp] at hm
  obtain ⟨s', h1, h2⟩ := List.mem_map.1 hm
  have e : s.data = s'.data := (congrArg Sec.data h2).symm
  rw [e]
  exact hB.2 _ h1
theorem zO {h : Hp} {l : List SecV} {inp : List UInt32} {p : UInt32} {xl j xi : SV} (h1 : Sl h cm l (.slice xl.a xl.n xl.c)) (h2 : DataIn h l) (h3 : Sl h cQ (fr [] 983036 4294967295 4) (.slice j.a j.n j.c)) (h4 : Sl h aw inp (.slice xi.a xi.n xi.c)) :
    RefAt h l inp (di p) (fr [] 983036 4294967295 4) ⟨xl, j, xi, ⟨none, 0, 0⟩⟩ :=
  ⟨h1, h2, h3, h4, Sl.nil _ _, kb _ _ _ _, i6 List.Pairwise.nil _ _ _⟩
theorem Bj {l k : List SecV} (hp : k.map SecV.pl = l.map SecV.pl) {wl : WL} {cs : List CellV} {s : St} (h1 : cO wl = s.w) (h2 : dz cs = s.w) (hs : ny cs) {xs : List UInt32} (h : IsChg l (cO wl) xs) : xs = ki k cs := by
  refine h.uniq ?_
  rw [h1, ← h2]
  exact A7 hp _ _ (AB hs)
end Go.HL
namespace Go.Proofs.YtpeaodkfbjenpaaGreat
open Go Go.HL Go.RowKit
theorem u4 (l k : List SecV) (inp : List UInt32) (s : St) (cs : List CellV) (x : RP) (bc1 : Nat) (vi1 vo1 eff1 : Value) (bM1 bm1 : Nat) (VR1 : Value) (rs1 : List RegV) (wl1 : WL) (w : World) (hM1 : MemAt (hp w) bM1 bm1 VR1 rs1) (hO1 : MemOK l rs1) (hW1 : MapIn (hp w) bm1 u8V wl1) (hn1 : wl1.length ≤ 1000000) (hI : kq l s.w) (hs1 : cO wl1 = s.w) (hol : s.out.length ≤ 4096) (hc1 : CellsIn (hp w) bc1 (bN s bM1 vi1 vo1 eff1)) (ho1 : Sl (hp w) aw s.out vo1) (hR : RefAt (hp w) k inp s cs x) (hB : SecB k) (hcb : cs.length ≤ 2000000) (hpl : k.map SecV.pl = l.map SecV.pl) :
  Calls Tryz.prog 14 #[.pointer (some ⟨bc1, 0, none⟩), .agg (ee s x).toArray] w (fun e w' => e = .returned (.bool true) ∧ Ext w w') := by
 have hM1 : MemAt (Bg.of w).blk bM1 bm1 VR1 rs1 := hM1
 have hW1 : MapIn (Bg.of w).blk bm1 u8V wl1 := hW1
 have hc1 : CellsIn (Bg.of w).blk bc1 (bN s bM1 vi1 vo1 eff1) := hc1
 have ho1 : Sl (Bg.of w).blk aw s.out vo1 := ho1
 have hS : RefAt (Bg.of w).blk k inp s cs x := hR
 have hfn := hS.fn
 have hL' := hS.secs
 have hD' := hS.data
 have hC' := hS.cells
 have hO2 := hS.out
 refine enter Tryz.func14 rfl Tryz.ntmps14 rfl ?_
 refine af (ab ?_)
 refine cH rfl rfl rfl (fun b1 => ?_)
 refine zz0 (ac rfl) (ae (aa (af (ab (zz0 (ad rfl) ?_)))))
 refine gG (fun i : Nat × Nat × Value => .pointer (some ⟨i.1, 0, none⟩)) (fun i => [cellE i.1 [i.2.2, .map (some i.2.1)] 91, mapE i.2.1 u8V wl1, rowE i.2.2 97 cN rs1]) (ok := fun _ => True) rfl Tryz.call29 (fun w hw => uI s bc1 bM1 vi1 vo1 eff1 bm1 VR1 rs1 wl1 w (hc1.mono hw.bg) (hM1.mono hw.bg) (hW1.mono hw.bg) (Nat.le_trans hO1.bounds.1 (by omega))) rfl (fun i1 _ => ?_)
 refine zz0 (ac rfl) (ae (aa (af (af (bH ([cellE b1 (ee s x) 42]) 24 rfl aU ?_)))))
 refine zz2 0 rfl (ad rfl) ?_
 refine zz2 1 rfl (jG rfl rfl g7 rfl) ?_
 refine zz2 2 rfl (ad rfl) ?_
 refine nS (t := 16) rfl (fun hG2 => ?_) (fun hG2 => ?_)
 ·exact absurd hG2 (by simp)
 ·have hG2' := hG2
  try simp only [bs] at hG2'
  refine f9 3 rfl (by kernel_rfl) (aX (aX bL)) rfl rfl rfl hG2 (ad rfl) (by repeat' constructor) rfl ?_
  refine f9 5 rfl (by kernel_rfl) (aX (aX bL)) rfl rfl rfl hG2 (zz3 (off := 0) (ft := 40) rfl aG rfl aS) (by repeat' constructor) rfl ?_
  refine f9 6 rfl (by kernel_rfl) (aX (aX bL)) rfl rfl rfl hG2 (fe (vs := nn.enc s.m) rfl (by repeat constructor) iU aS rfl rfl) (by repeat' constructor) rfl ?_
  refine bX [4] (fun iq hq => ?_)
  obtain rfl := List.mem_singleton.1 hq
  refine aV rfl ?_
  refine zz5 hG2 (aF rfl Tryz.call18 (fun w hw => qM s bc1 bM1 vi1 vo1 eff1 w (hc1.mono hw.bg))) ?_
  refine bB ?_
  refine f9 7 rfl (by kernel_rfl) (aX (aX bL)) rfl rfl rfl hG2 (AN (p := s.m) (q := s.m) rfl rfl yv BO) (by repeat' constructor) rfl ?_
  refine zz2 8 rfl (aK rfl hG2 rfl) ?_
  refine zz2 9 rfl (ad rfl) ?_
  refine nS (t := 23) rfl (fun hG3 => ?_) (fun hG3 => ?_)
  ·exact absurd hG3 (by simp)
  ·have hG3' := hG3
   try simp only [bs] at hG3'
   refine f9 10 rfl (by kernel_rfl) (aX (aX bL)) rfl rfl rfl hG3 (ad rfl) (by repeat' constructor) rfl ?_
   refine f9 12 rfl (by kernel_rfl) (aX (aX bL)) rfl rfl rfl hG3 (zz3 (off := 18) (ft := 4) rfl aG rfl bv) (by repeat' constructor) rfl ?_
   refine f9 13 rfl (by kernel_rfl) (aX (aX bL)) rfl rfl rfl hG3 (aM rfl bP) (by repeat' constructor) rfl ?_
   refine bX [11] (fun iq hq => ?_)
   obtain rfl := List.mem_singleton.1 hq
   refine aV rfl ?_
   refine zz5 hG3 (aF rfl Tryz.call21 (fun w hw => pP s bc1 bM1 vi1 vo1 eff1 w (hc1.mono hw.bg))) ?_
   refine bB ?_
   refine f9 14 rfl (by kernel_rfl) (aX (aX bL)) rfl rfl rfl hG3 (iu rfl rfl eC) (by repeat' constructor) rfl ?_
   refine zz2 15 rfl (aK rfl hG3 rfl) ?_
   refine zz2 16 rfl (ad rfl) ?_
   refine nS (t := 30) rfl (fun hG4 => ?_) (fun hG4 => ?_)
   ·exact absurd hG4 (by simp)
   ·have hG4' := hG4
    try simp only [bs] at hG4'
    refine f9 17 rfl (by kernel_rfl) (aX (aX bL)) rfl rfl rfl hG4 (ad rfl) (by repeat' constructor) rfl ?_
    refine f9 19 rfl (by kernel_rfl) (aX (aX bL)) rfl rfl rfl hG4 (zz3 (off := 17) (ft := 24) rfl aG rfl cC) (by repeat' constructor) rfl ?_
    refine f9 20 rfl (by kernel_rfl) (aX (aX bL)) rfl rfl rfl hG4 (aM rfl dD) (by repeat' constructor) rfl ?_
    refine bX [18] (fun iq hq => ?_)
    obtain rfl := List.mem_singleton.1 hq
    refine aV rfl ?_
    refine Bq rfl rfl hG4 ?_
    refine eo rfl Tryz.call30 (fun w hw => uF s bc1 bM1 vi1 vo1 eff1 w (hc1.mono hw.bg) (hw.slF ho1) hol) rfl (fun V5 => ?_)
    refine bB ?_
    refine bX [21] (fun iq hq => ?_)
    obtain rfl := List.mem_singleton.1 hq
    refine aV rfl ?_
    refine zz5 hG4 (aF rfl Tryz.call13 (fun w hw => nz s.out s.out _ _ w (hw.row (by repeat constructor)) (hw.slF hO2))) ?_
    refine bB ?_
    refine f9 22 rfl (by kernel_rfl) (aX (aX bL)) rfl rfl rfl hG4 (cp rfl) (by repeat' constructor) rfl ?_
    refine zz2 23 rfl (aK rfl hG4 rfl) ?_
    refine dZ ?_
    refine aa ?_
    refine ak rfl ?_ ?_ <;> intro h6 <;> try simp only [bs] at h6
    ·exact absurd h6 (by simp)
    ·refine ax (aa (af (ab (zz0 (ad rfl) ?_))))
     refine gG (fun i : Value × List UInt32 => i.1) (fun i => [rowE i.1 23 aw i.2]) (ok := fun i => IsChg l (cO wl1) i.2) rfl Tryz.call31 (fun w hw => yt i1.1 i1.2.1 i1.2.2 rs1 l wl1 w ⟨cellE.cellsIn (hw.ent _ (by repeat constructor)) (Ext.refl _), hw.row (by repeat constructor), (hM1.mono hw.bg).data⟩ hO1 (mapE.in_ (hw.ent _ (by repeat constructor))) (hs1 ▸ hI) hn1) rfl (fun i hi => ?_)
     obtain ⟨V1, xs⟩ := i
     obtain rfl := Bj hpl hs1 hfn hS.srt hi
     have hxl := tO k cs
     refine zz0 (ac rfl) (ae (aa (af (af (ab (zz0 (ad rfl) (zz0 (zz3 (off := 13) (ft := 30) rfl aG rfl bb) ?_)))))))
     refine zz0 (fe (vs := fX x.l x.c) rfl (by repeat constructor) bY bb rfl rfl) ?_
     refine eo rfl Tryz.call32 (fun w hw => qw k cs x.l x.c w (hw.slF hL') (hw.slF hC') (hD'.mono hw.bg) hB hcb) rfl (fun V7 => ?_)
     refine zz0 (aF rfl Tryz.call13 (fun w hw => nz (ki k cs) (ki k cs) _ _ w (hw.row (by repeat constructor)) (hw.row (by repeat constructor)))) ?_
     refine zz0 (cp rfl) (ae (aa ?_))
     refine ak rfl ?_ ?_ <;> intro h8 <;> try simp only [bs] at h8
     ·exact absurd h8 (by simp)
     ·refine ax (aa (af (af (ab (zz0 (ac rfl) (ae (aa (aQ ?_))))))))
      refine cu (ι := Nat) (fun n => n ≤ (ki k cs).length) (fun _ => _) (fun n => [rowE V1 23 aw (ki k cs), cellE b1 (ee s x) 42, cellE i1.1 [i1.2.2, .map (some i1.2.1)] 91, mapE i1.2.1 u8V wl1, rowE i1.2.2 97 cN rs1]) (fun n => [(7, .int .i64 (n : Nat))]) (fun n => (ki k cs).length - n) 0 (Nat.zero_le _) (.cons (by first | rfl | exact am rfl (by omega) | exact am rfl (by simp) | exact aR rfl (by simp)) Front.nil) (by repeat' constructor) rfl (fun n hi m hm => ?_)
      replace hi : n ≤ (ki k cs).length := hi
      replace hm : m = (ki k cs).length - n := hm
      change Tr _ _ [rowE V1 23 aw (ki k cs), cellE b1 (ee s x) 42, cellE i1.1 [i1.2.2, .map (some i1.2.1)] 91, mapE i1.2.1 u8V wl1, rowE i1.2.2 97 cN rs1] ([(7, .int .i64 (n : Nat))] ++ _) _
      have hk1 : n ≤ (ki k cs).length := hi
      refine af (af (ab (zz0 (ad rfl) (zz0 (ad rfl) (zz0 (fN rfl (by repeat constructor) al) ?_)))))
      refine zz0 (cI rfl rfl) (ae (aa ?_))
      refine ak rfl ?_ ?_ <;> intro h9 <;> try simp only [bs] at h9
      ·refine ax (aa (af (aQ (af (ab (zz0 (ad rfl) (zz0 (ad rfl) (zz0 (ad rfl) (zz0 (dR rfl rfl al ah) ?_)))))))))
       refine zz0 (eI rfl ay) ?_
       refine zz0 (aF rfl lx (fun w hw => ll i1.1 i1.2.1 i1.2.2 rs1 l ((ki k cs).getD n default) 1 wl1 w ⟨cellE.cellsIn (hw.ent _ (by repeat constructor)) (Ext.refl _), hw.row (by repeat constructor), (hM1.mono hw.bg).data⟩ hO1 (mapE.in_ (hw.ent _ (by repeat constructor))))) ?_
       refine zz0 (ad rfl) (zz0 (az rfl rfl) (zz0 (az rfl rfl) (zz0 (ac rfl) (zz0 (ac rfl) (ae (aa (af (jf aU ?_))))))))
       refine aJ (zz3 (off := 13) (ft := 30) rfl aG rfl bb) ?_
       refine aJ (fe (vs := fX x.l x.c) rfl (by repeat constructor) bY bb rfl rfl) ?_
       refine aJ (ad rfl) (aJ (ad rfl) (aJ (dR rfl rfl al ah) ?_))
       refine aJ (eI rfl ay) ?_
       refine aJ (aF rfl mG (fun w hw => (by have q := lO k cs x.l x.c ((ki k cs).getD n default) 1 w (hw.slF hL') (hw.slF hC') (hD'.mono hw.bg) hB; rw [hfn, vG hpl, ← hs1] at q; exact q))) ?_
       refine aJ (ad rfl) (aJ (az rfl rfl) (aJ (az rfl rfl) (aJ (ac rfl) (aJ (ac rfl) (cG ?_)))))
       refine aa (af (ab (zz0 (ad rfl) (zz0 (ad rfl) (zz0 (jF rfl rfl) ?_)))))
       refine zz0 (ad rfl) ?_
       apply dk
       ·exact (rfl : _ = (4, 74, 78))
       ·exact rfl
       ·intro hF10; have hF10' := hF10
        try simp only [bs] at hF10'
        refine zz5 hF10 (ad rfl) (zz5 hF10 (ad rfl) (zz5 hF10 (dN rfl rfl) (zz0 (aK rfl hF10 rfl) ?_)))
        refine ae (aa ?_)
        exact av (Sub.cons rfl (zz8 4 rfl))
       ·intro hT10
        refine zz6 hT10 (zz6 hT10 (zz6 hT10 (zz0 (aL rfl hT10 rfl) ?_)))
        refine ae (aa ?_)
        exact av (Sub.cons rfl (zz8 4 rfl))
       refine ae (aa ?_)
       refine ak rfl ?_ ?_ <;> intro h11 <;> try simp only [bs] at h11
       ·exact absurd h11 (by simp)
       ·refine ax (ba (aa (ab (zz0 (ad rfl) (zz0 (dy rfl rfl) ?_)))))
        refine zz0 (ac rfl) (ae (aa ?_))
        apply bT (n + 1)
        ·exact rfl
        ·exact (.cons (by first | rfl | exact am rfl (by omega) | exact am rfl (by simp) | exact aR rfl (by simp)) Front.nil)
        ·exact bR 36 rfl
        ·exact (by repeat' constructor)
        ·exact (by show n + 1 ≤ _; omega)
        ·exact (by (try dsimp only); omega)
      ·refine cj (aY (aY (bV (aa (af (ab (zz0 (ac rfl) (ae (aa (ao ?_))))))))))
       refine aI Tryz.results14 rfl (fun w' hw => ?_)
       exact ⟨rfl, hw.below (Bg.le.refl _)⟩
theorem zL (l : List SecV) (inp : List UInt32) (V vi0 : Value) (p : UInt32) (m3 : Int) (w : World) (hV : Sl (hp w) cm l V) (hin : Sl (hp w) aw inp vi0) (hD : DataIn (hp w) l) (hN : ∀ s ∈ l, s.name.size ≤ 140737488351232) (hm3 : -128 ≤ m3 ∧ m3 ≤ 127) (hs : kQ l inp = false) :
  Calls Tryz.prog 3 #[V, .int .u32 p.toNat, vi0, .int .i8 m3] w (fun e w' => e = .returned (.bool true) ∧ Below w.heap.size w w') := by
 have hV' : Sl (Bg.of0 w).blk cm l V := hV
 have hD' : DataIn (Bg.of0 w).blk l := hD
 have hin' : Sl (Bg.of0 w).blk aw inp vi0 := hin
 refine nO Tryz.func3 rfl Tryz.ntmps3 rfl ?_
 refine af (ab (zz0 (ac rfl) (ae (aa (af (af (ab (zz0 (ad rfl) (zz0 (ad rfl) (zz0 (aF rfl Tryz.call6 (fun w hw => nF l inp V vi0 w (hw.slF hV') (hw.slF hin'))) ?_))))))))))
 refine zz0 (cp rfl) (ae (aa ?_))
 refine ak rfl ?_ ?_ <;> intro h1 <;> try simp only [bs] at h1
 ·refine af (ab (zz0 (qh rfl rfl Tryz.call7 (fun w hw => kV w)) ?_))
  refine zz0 (ac rfl) (ae (aa (ao (an ?_))))
  refine aI Tryz.results3 rfl (fun w' hw => ?_)
  exact ⟨rfl, hw.below0 (Bg.le.refl _)⟩
 ·exact absurd h1 (by rw [hs]; simp)
theorem A3 (l : List SecV) (inp : List UInt32) (V vi0 : Value) (p : UInt32) (m3 : Int) (w : World) (hV : Sl (hp w) cm l V) (hin : Sl (hp w) aw inp vi0) (hD : DataIn (hp w) l) (hN : ∀ s ∈ l, s.name.size ≤ 140737488351232) (hm3 : -128 ≤ m3 ∧ m3 ≤ 127) (hs : kQ l inp = true) (h : dV l ≠ 0) :
  Calls Tryz.prog 3 #[V, .int .u32 p.toNat, vi0, .int .i8 m3] w (fun e w' => e = .returned (.bool true) ∧ Below w.heap.size w w') := by
 have hV' : Sl (Bg.of0 w).blk cm l V := hV
 have hD' : DataIn (Bg.of0 w).blk l := hD
 have hin' : Sl (Bg.of0 w).blk aw inp vi0 := hin
 obtain ⟨hB, hil⟩ := sH hs
 have hil' : inp.length ≤ 4096 := by omega
 refine nO Tryz.func3 rfl Tryz.ntmps3 rfl ?_
 refine af (ab (zz0 (ac rfl) (ae (aa (af (af (ab (zz0 (ad rfl) (zz0 (ad rfl) (zz0 (aF rfl Tryz.call6 (fun w hw => nF l inp V vi0 w (hw.slF hV') (hw.slF hin'))) ?_))))))))))
 refine zz0 (cp rfl) (ae (aa ?_))
 refine ak rfl ?_ ?_ <;> intro h1 <;> try simp only [bs] at h1
 ·exact absurd h1 (by rw [hs]; simp)
 ·refine ax (aa (af (ab (zz0 (ad rfl) (zz0 (aF rfl Tryz.call8 (fun w hw => yb l V w (hw.slF hV') hB hN h)) ?_)))))
  refine zz0 (ad rfl) (zz0 (az rfl rfl) (zz0 (az rfl rfl) ?_))
  refine cZ eB rfl (fun b2 => ?_)
  refine bu ia rfl rfl bb ?_
  refine zz0 (ac rfl) (ae (aa (af (ab (zz0 (ad rfl) (zz0 (ad rfl) (zz0 (ad rfl) (zz0 (aF rfl Tryz.call9 (fun w hw => AC l V p inp vi0 w (hw.slF hV') hB hN (hD'.mono hw.bg) (hw.slF hin') hil' h)) ?_))))))))
  refine zz0 (ac rfl) (ae (aa (af (af (ab (zz0 (ad rfl) (zz0 (dN rfl rfl) (zz0 (ad rfl) ?_))))))))
  apply dk
  ·exact (rfl : _ = (3, 34, 37))
  ·exact rfl
  ·intro hF3; have hF3' := hF3
   try simp only [bs] at hF3'
   refine zz5 hF3 (ad rfl) (zz5 hF3 (jG rfl rfl fZ rfl) ?_)
   refine zz0 (aK rfl hF3 rfl) ?_
   refine ae (aa ?_)
   exact av (Sub.cons rfl (zz8 3 rfl))
  ·intro hT3
   refine zz6 hT3 (zz6 hT3 (zz0 (aL rfl hT3 rfl) ?_))
   refine ae (aa ?_)
   exact av (Sub.cons rfl (zz8 3 rfl))
  refine ae (aa ?_)
  refine ak rfl ?_ ?_ <;> intro h4 <;> try simp only [bs] at h4
  ·refine af (ab (zz0 (ad rfl) (zz0 (dN rfl rfl) (zz0 (ad rfl) ?_))))
   apply bJ
   ·exact (rfl : _ = (3, 40, 43))
   ·exact rfl
   ·intro hT5; have hT5' := hT5
    try simp only [bs] at hT5'
    refine zz5 hT5 (ad rfl) (zz5 hT5 (jG rfl rfl fZ rfl) ?_)
    refine zz0 (aL rfl hT5 rfl) ?_
    refine ae (aa ?_)
    exact av (Sub.cons rfl (zz8 3 rfl))
   ·intro hF5
    refine zz6 hF5 (zz6 hF5 (zz0 (aK rfl hF5 rfl) ?_))
    refine ae (aa ?_)
    exact av (Sub.cons rfl (zz8 3 rfl))
   refine zz0 (ad rfl) ?_
   apply bJ
   ·exact (rfl : _ = (2, 44, 46))
   ·exact rfl
   ·intro hT6; have hT6' := hT6
    try simp only [bs] at hT6'
    refine zz5 hT6 (qh rfl rfl Tryz.call7 (fun w hw => kV w)) ?_
    refine zz0 (aL rfl hT6 rfl) ?_
    refine ae (aa ?_)
    exact av (Sub.cons rfl (zz8 2 rfl))
   ·intro hF6
    refine zz6 hF6 (zz0 (aK rfl hF6 rfl) ?_)
    refine ae (aa ?_)
    exact av (Sub.cons rfl (zz8 2 rfl))
   refine zz0 (ac rfl) (ae (aa (ao (an ?_))))
   refine aI Tryz.results3 rfl (fun w' hw => ?_)
   exact ⟨by simp [h], hw.below0 (Bg.le.refl _)⟩
  ·exact absurd h4 (by simp [h])
theorem A2 (l : List SecV) (inp : List UInt32) (V vi0 : Value) (p : UInt32) (m3 : Int) (w : World) (hV : Sl (hp w) cm l V) (hin : Sl (hp w) aw inp vi0) (hD : DataIn (hp w) l) (hN : ∀ s ∈ l, s.name.size ≤ 140737488351232) (hm3 : -128 ≤ m3 ∧ m3 ≤ 127) (hs : kQ l inp = true) (h : dV l = 0) :
  Calls Tryz.prog 3 #[V, .int .u32 p.toNat, vi0, .int .i8 m3] w (fun e w' => e = .returned (.bool true) ∧ Below w.heap.size w w') := by
 have hV' : Sl (Bg.of0 w).blk cm l V := hV
 have hD' : DataIn (Bg.of0 w).blk l := hD
 have hin' : Sl (Bg.of0 w).blk aw inp vi0 := hin
 obtain ⟨hB, hil⟩ := sH hs
 have hil' : inp.length ≤ 4096 := by omega
 obtain ⟨xi, hxi1, hxi2⟩ := BB hin'
 subst hxi1
 have hcs : (fr [] 983036 4294967295 4).length ≤ 500000 := by have q := j4 [] 983036 4294967295 4; rw [List.length_nil] at q; omega
 refine nO Tryz.func3 rfl Tryz.ntmps3 rfl ?_
 refine af (ab (zz0 (ac rfl) (ae (aa (af (af (ab (zz0 (ad rfl) (zz0 (ad rfl) (zz0 (aF rfl Tryz.call6 (fun w hw => nF l inp V xi.v w (hw.slF hV') (hw.slF hin'))) ?_))))))))))
 refine zz0 (cp rfl) (ae (aa ?_))
 refine ak rfl ?_ ?_ <;> intro h1 <;> try simp only [bs] at h1
 ·exact absurd h1 (by rw [hs]; simp)
 ·refine ax (aa (af (ab (zz0 (ad rfl) ?_))))
  refine kL (fun i : Value × List SecV => .tuple #[.agg #[.bool true, i.1, .slice none 0 0], .int .i64 0]) (fun _ => []) (fun i => lL 64 5 i.1 i.2) (ok := fun i => i.2.map SecV.pl = l.map SecV.pl) rfl rfl Tryz.call8 (fun w hw => (ya l V w (hw.slF hV') hB (hD'.mono hw.bg) hN h).mono fun e w' ⟨i, q1, q2, q3, q4⟩ => ⟨i, q1, q2.below, q3, q4⟩) rfl (fun i F0 hi hF0 hk0 => ?_)
  obtain ⟨Vk, k⟩ := i
  replace hi : k.map SecV.pl = l.map SecV.pl := hi
  obtain ⟨hkV, hkD⟩ := zK hk0
  obtain ⟨xl, hxl1, hxl2⟩ := BB hkV
  subst hxl1
  have hkB := hB.pl hi
  replace hV' := hV'.mono hF0.blk
  replace hD' := hD'.mono hF0.blk
  replace hin' := hin'.mono hF0.blk
  rw [List.nil_append]
  refine zz0 (ad rfl) (zz0 (az rfl rfl) (zz0 (az rfl rfl) ?_))
  refine cZ eB rfl (fun b2 => ?_)
  refine bu ia rfl rfl bb ?_
  refine zz0 (ac rfl) (ae (aa (af (ab (zz0 (ad rfl) (zz0 (ad rfl) (zz0 (ad rfl) ?_)))))))
  refine kL (fun j : Nat × Nat × Nat × Value × Value × WL × List RegV => .pointer (some ⟨j.1, 0, none⟩)) (fun j => [cellE j.1 (bN (di p) j.2.1 j.2.2.2.2.1 (.slice none 0 0) .nilFunc) 82, mapE j.2.2.1 u8V j.2.2.2.2.2.1, rowE (.slice none 0 0) 23 aw []]) (fun j => (cellE j.2.1 [j.2.2.2.1, .map (some j.2.2.1)] 91 :: rowE j.2.2.2.1 97 cN j.2.2.2.2.2.2 :: rowE j.2.2.2.2.1 23 aw inp :: eP 5 j.2.2.2.2.2.2)) (ok := fun j => (cO j.2.2.2.2.2.1 = (di p).w ∧ j.2.2.2.2.2.1.length ≤ 4) ∧ MemOK l j.2.2.2.2.2.2) (hF0.dr) rfl Tryz.call9 (fun w hw => sb l V p inp xi.v w (hw.slF hV') hB hN (hD'.mono hw.bg) (hw.slF hin') hil' h) rfl (fun j F1 hj hF1 hk => ?_)
  obtain ⟨bc1, bM1, bm1, VR1, vi1, wl1, rs1⟩ := j
  have hC1 : CpuAt F1.blk bM1 bm1 VR1 vi1 rs1 inp := pU hk
  obtain ⟨⟨hw1, hn1⟩, hO1⟩ := hj
  replace hO1 : MemOK l rs1 := hO1
  change Tr _ _ ([cellE bc1 (bN (di p) bM1 vi1 (.slice none 0 0) .nilFunc) 82, mapE bm1 u8V wl1, rowE (.slice none 0 0) 23 aw (di p).out] ++ _) _ _
  replace hkV := hkV.mono hF1.blk
  replace hkD := hkD.mono hF1.blk
  replace hin' := hin'.mono hF1.blk
  refine zz0 (ac rfl) (ae (aa (af (af (ab (zz0 (ad rfl) (zz0 (dN rfl rfl) (zz0 (ad rfl) ?_))))))))
  apply dk
  ·exact (rfl : _ = (3, 34, 37))
  ·exact rfl
  ·intro hF3; have hF3' := hF3
   try simp only [bs] at hF3'
   refine zz5 hF3 (ad rfl) (zz5 hF3 (jG rfl rfl fZ rfl) ?_)
   refine zz0 (aK rfl hF3 rfl) ?_
   refine ae (aa ?_)
   exact av (Sub.cons rfl (zz8 3 rfl))
  ·intro hT3
   refine zz6 hT3 (zz6 hT3 (zz0 (aL rfl hT3 rfl) ?_))
   refine ae (aa ?_)
   exact av (Sub.cons rfl (zz8 3 rfl))
  refine ae (aa ?_)
  refine ak rfl ?_ ?_ <;> intro h4 <;> try simp only [bs] at h4
  ·first | contradiction | (exfalso; omega) | simp_all
  ·refine ax (aa (af (ab (zz0 (bK rfl bY bb) ?_))))
   refine zz0 (ad rfl) (zz0 (ad rfl) ?_)
   refine fS (H0 := wF) (n := F1.lo) (R := fun h (j : SV) => Sl h cQ (fr [] 983036 4294967295 4) (.slice j.a j.n j.c)) (fun j : SV => .tuple #[.agg (ee (di p) ⟨xl, j, xi, ⟨none, 0, 0⟩⟩).toArray, .int .i64 0]) rfl (nc _) (fun h h' i hh r => r.mono hh) rfl Tryz.call10 (fun w2 hw2 hv2 => (ux k inp xl xi p w2 (hw2.slF hkV) (hkD.mono hw2.bg) hkB (hw2.slF hin') hil').mono fun e w' ⟨j, q1, q2, q3⟩ => ⟨j, q1, q2, q3.mono jk⟩) rfl (fun jn FN hFN hjn => ?_)
   have hRf := zO (p := p) (hkV.mono hFN.blk) (hkD.mono hFN.blk) (hjn.mono (nA (nc _))) (hin'.mono hFN.blk)
   have hF01 := hF0.trans (hF1.trans hFN)
   have hdr : FN.dr = 0 := hF01.dr
   replace hC1 := hC1.mono hFN.blk
   refine zz0 (ad rfl) (zz0 (az rfl rfl) (zz0 (az rfl rfl) ?_))
   refine cZ cA rfl (fun b5 => ?_)
   refine bu cK rfl rfl au ?_
   refine zz0 (ac rfl) (ae (aa (af (ab (zz0 (ad rfl) (zz0 (fU rfl jL aO (IntWalk.i64_in _ (by omega))) ?_))))))
   refine zz0 (kN rfl rfl) ?_
   refine zz0 (ac rfl) (ae (aa (af (ab (zz0 (ad rfl) (zz0 (ad rfl) ?_))))))
   refine db (fun j : WL × Value × Value × Value × Value => .agg #[.int .i64 (jl (dl l inp (min (min m3 63) 65536).toNat (di p))), j.2.2.2.2, .int .i64 ((cX l inp (min (min m3 63) 65536).toNat (di p)).length : Nat)]) [cellE bc1 (bN (di p) bM1 vi1 (.slice none 0 0) .nilFunc) 82, mapE bm1 u8V wl1, rowE (.slice none 0 0) 23 aw (di p).out] (fun j => [cellE bc1 (bN (dl l inp (min (min m3 63) 65536).toNat (di p)) bM1 vi1 j.2.1 j.2.2.1) 82, mapE bm1 u8V j.1, rowE j.2.1 23 aw (dl l inp (min (min m3 63) 65536).toNat (di p)).out, rowE j.2.2.2.2 23 aw (dl l inp (min (min m3 63) 65536).toNat (di p)).out]) (ok := fun j => cO j.1 = (dl l inp (min (min m3 63) 65536).toNat (di p)).w ∧ j.1.length ≤ wl1.length + 4 * (cX l inp (min (min m3 63) 65536).toNat (di p)).length ∧ ∃ a n c, j.2.1 = .slice a n c) (dd := fun _ => 0) rfl mI (by repeat' constructor) (fun w hw => Nat.le_of_eq (hdr)) (fun w hw => oN (di p) bc1 bM1 bm1 VR1 vi1 (.slice none 0 0) .nilFunc rs1 l wl1 inp (min m3 63) w (hw.own (by repeat' constructor)) (hC1.mono (hw.lessB (Lo := [cellE bc1 (bN (di p) bM1 vi1 (.slice none 0 0) .nilFunc) 82, mapE bm1 u8V wl1, rowE (.slice none 0 0) 23 aw (di p).out]) (by repeat' constructor))) hO1 hw1 ⟨_, _, _, rfl⟩ (by show (0 : Nat) ≤ 4096; omega)) rfl (fun j hj => ?_)
   obtain ⟨wl3, vo3, ef3, vt3, vq3⟩ := j
   obtain ⟨hw3, hn3, hv3⟩ := hj
   change Tr _ _ (cellE bc1 (bN (dl l inp (min (min m3 63) 65536).toNat (di p)) bM1 vi1 vo3 ef3) 82 :: mapE bm1 u8V wl3 :: rowE vo3 23 aw (dl l inp (min (min m3 63) 65536).toNat (di p)).out :: rowE vq3 23 aw (dl l inp (min (min m3 63) 65536).toNat (di p)).out :: _) _ _
   obtain ⟨n3, hm3⟩ : ∃ n, n = (cX l inp (min (min m3 63) 65536).toNat (di p)).length := ⟨_, rfl⟩
   rw [← hm3] at hn3 ⊢
   obtain ⟨t3, ht3⟩ : ∃ t, t = (dl l inp (min (min m3 63) 65536).toNat (di p)) := ⟨_, rfl⟩
   rw [← ht3] at hw3 ⊢
   refine jx (V := vq3) (fun pq3 cq3 hpv => ?_)
   subst hpv
   have ho3 : t3.out.length ≤ 4096 := by rw [ht3]; exact vE _ (by show (0 : Nat) ≤ 4096; omega)
   have hI : kq l t3.w := by rw [ht3]; exact vD hO1 _ (zZ hO1 p)
   have e1 : dl k inp (min (min m3 63) 65536).toNat (di p) = t3 := by rw [(rM hi _ _ _).1, ht3]
   have e2 : (cX k inp (min (min m3 63) 65536).toNat (di p)).length = n3 := by rw [(rM hi _ _ _).2, hm3]
   have hn3b : n3 ≤ 64 := by rw [hm3]; exact Nat.le_trans (qJ _ _) (by omega)
   have g1 : wl1.length ≤ 4 := hn1
   have g3 : wl3.length ≤ wl1.length + 4 * n3 := hn3
   have hl3 : wl3.length ≤ 1000000 := by omega
   refine cZ cY rfl (fun b6 => ?_)
   refine zz9 rfl rfl cF ?_
   refine ae (aa (af (ab (zz0 (bK rfl aP au) ?_))))
   refine zz0 (ad rfl) ?_
   refine fS (H0 := FN.blk) (n := FN.lo) (R := fun h2 (j : List CellV × RP) => RefAt h2 k inp t3 j.1 j.2 ∧ j.1.length ≤ (fr [] 983036 4294967295 4).length + 4 * n3) (fun j : List CellV × RP => .tuple #[.agg (ee t3 j.2).toArray, .agg #[.int .i64 (jl t3), .slice j.2.o.a j.2.o.n j.2.o.c, .int .i64 (n3 : Nat)]]) rfl (Hp.le.refl _) (fun h2 h2' j hh r => ⟨r.1.mono hh, r.2⟩) rfl Tryz.call12 (fun w2 hw2 hv2 => by have q := uw (vis FN.blk FN.lo FN.blk) k inp (di p) (fr [] 983036 4294967295 4) _ (min m3 63) w2 hv2 (hRf.mono (xn _ _)) hkB hcs (by show (0 : Nat) ≤ 4096; omega); rw [e1, e2] at q; exact q) rfl (fun jr FR hFR hjr => ?_)
   have hjr2 : RefAt FR.blk k inp t3 jr.1 jr.2 := hjr.1.mono (nA (Hp.le.trans (Hp.le.refl _) hFR.blk))
   have hRo := hjr2.out
   have hjl := hjr.2
   replace hdr : FR.dr = 0 := (hF01.trans hFR).dr
   replace hC1 := hC1.mono hFR.blk
   refine zz0 (ad rfl) (zz0 (az rfl rfl) (zz0 (az rfl rfl) ?_))
   refine cZ cA rfl (fun b7 => ?_)
   refine cZ cY rfl (fun b8 => ?_)
   refine bu cK rfl rfl au ?_
   refine zz9 rfl rfl cF ?_
   refine ae (aa (af (ab (zz0 (zz3 (off := 0) (ft := 31) rfl cV rfl da) ?_))))
   refine zz0 (aM rfl eH) ?_
   refine zz0 (zz3 (off := 0) (ft := 31) rfl cV rfl da) ?_
   refine zz0 (aM rfl eH) ?_
   refine zz0 (aN rfl rfl) (zz0 (ad rfl) ?_)
   apply bJ
   ·exact (rfl : _ = (6, 71, 77))
   ·exact rfl
   ·intro hT9; have hT9' := hT9
    try simp only [bs] at hT9'
    refine zz5 hT9 (zz3 (off := 2) (ft := 3) rfl cV rfl aj) ?_
    refine zz5 hT9 (aM rfl aC) ?_
    refine zz5 hT9 (zz3 (off := 2) (ft := 3) rfl cV rfl aj) ?_
    refine zz5 hT9 (aM rfl aC) ?_
    refine zz5 hT9 (aN rfl rfl) (zz0 (aL rfl hT9 rfl) ?_)
    refine ae (aa ?_)
    exact av (Sub.cons rfl (zz8 6 rfl))
   ·intro hF9
    refine zz6 hF9 (zz6 hF9 (zz6 hF9 (zz6 hF9 (zz6 hF9 (zz0 (aK rfl hF9 rfl) ?_)))))
    refine ae (aa ?_)
    exact av (Sub.cons rfl (zz8 6 rfl))
   refine zz0 (ad rfl) ?_
   apply bJ
   ·exact (rfl : _ = (6, 78, 84))
   ·exact rfl
   ·intro hT10; have hT10' := hT10
    try simp only [bs] at hT10'
    refine zz5 hT10 (zz3 (off := 1) (ft := 24) rfl cV rfl cC) ?_
    refine zz5 hT10 (aM rfl dD) ?_
    refine zz5 hT10 (zz3 (off := 1) (ft := 24) rfl cV rfl cC) ?_
    refine zz5 hT10 (aM rfl dD) ?_
    refine zz5 hT10 (aF rfl Tryz.call13 (fun w hw => nz t3.out t3.out _ _ w (hw.row (by repeat constructor)) (hw.slF hRo))) ?_
    refine zz0 (aL rfl hT10 rfl) ?_
    refine ae (aa ?_)
    exact av (Sub.cons rfl (zz8 6 rfl))
   ·intro hF10
    refine zz6 hF10 (zz6 hF10 (zz6 hF10 (zz6 hF10 (zz6 hF10 (zz0 (aK rfl hF10 rfl) ?_)))))
    refine ae (aa ?_)
    exact av (Sub.cons rfl (zz8 6 rfl))
   refine zz0 (ad rfl) ?_
   apply bJ
   ·exact (rfl : _ = (4, 85, 89))
   ·exact rfl
   ·intro hT11; have hT11' := hT11
    try simp only [bs] at hT11'
    refine zz5 hT11 (ad rfl) (zz5 hT11 (bK rfl aP au) ?_)
    refine zz5 hT11 (aF rfl Tryz.call14 (fun w hw => u4 l k inp t3 jr.1 jr.2 bc1 vi1 vo3 ef3 bM1 bm1 VR1 rs1 wl3 w (hC1.mem.mono hw.bg) hO1 (mapE.in_ (hw.ent _ (by repeat constructor))) hl3 hI hw3 ho3 (cellE.cellsIn (hw.ent _ (by repeat constructor)) (Ext.refl _)) (hw.row (by repeat constructor)) (hjr2.mono hw.bg) hkB (by omega) hi)) ?_
    refine zz0 (aL rfl hT11 rfl) ?_
    refine ae (aa ?_)
    exact av (Sub.cons rfl (zz8 4 rfl))
   ·intro hF11
    refine zz6 hF11 (zz6 hF11 (zz6 hF11 (zz0 (aK rfl hF11 rfl) ?_)))
    refine ae (aa ?_)
    exact av (Sub.cons rfl (zz8 4 rfl))
   refine zz0 (ad rfl) ?_
   apply bJ
   ·exact (rfl : _ = (2, 90, 92))
   ·exact rfl
   ·intro hT12; have hT12' := hT12
    try simp only [bs] at hT12'
    refine zz5 hT12 (qh hdr rfl Tryz.call7 (fun w hw => kV w)) ?_
    refine zz0 (aL rfl hT12 rfl) ?_
    refine ae (aa ?_)
    exact av (Sub.cons rfl (zz8 2 rfl))
   ·intro hF12
    refine zz6 hF12 (zz0 (aK rfl hF12 rfl) ?_)
    refine ae (aa ?_)
    exact av (Sub.cons rfl (zz8 2 rfl))
   refine zz0 (ac rfl) (ae (aa (ao ?_)))
   refine aI Tryz.results3 rfl (fun w' hw => ?_)
   exact ⟨by simp, hw.below0 (hF01.trans hFR)⟩
theorem xG (l : List SecV) (inp : List UInt32) (V vi0 : Value) (p : UInt32) (m3 : Int) (w : World) (hV : Sl (hp w) cm l V) (hin : Sl (hp w) aw inp vi0) (hD : DataIn (hp w) l) (hN : ∀ s ∈ l, s.name.size ≤ 140737488351232) (hm3 : -128 ≤ m3 ∧ m3 ≤ 127) : Calls Tryz.prog 3 #[V, .int .u32 p.toNat, vi0, .int .i8 m3] w (fun e w' => e = .returned (.bool true) ∧ Below w.heap.size w w') := by
 by_cases hs : kQ l inp = true
 ·by_cases h : dV l = 0
  ·exact A2 l inp V vi0 p m3 w hV hin hD hN hm3 hs h
  ·exact A3 l inp V vi0 p m3 w hV hin hD hN hm3 hs h
 ·exact zL l inp V vi0 p m3 w hV hin hD hN hm3 (by simpa using hs)
end Go.Proofs.YtpeaodkfbjenpaaGreat
namespace Go.HL
open Go Go.Deep Go.ChangeShapes Go.WideShapes
section
variable {H : Type} {enc : TypeId × Value → H} {P : Program} {w : World} {base : Nat} {spare : Nat → Bool} {held : Bool}
theorem um {α : Type} [Inhabited α] {E : Enc α} {R : α → Prop} {t e : TypeId} {fuel : Nat} {V : Value} {x : DataW H × List MemPlace} (ht : P.underlying t = some (.slice e)) (hc : P.cellsOf e = E.k) (hk : 0 < E.k)
    (hf : ∀ n cs y, cs.length = E.k → DataW.trod enc P w base spare held n e cs = some y → ∃ a : α, cs = E.enc a ∧ R a)
    (h : DataW.trod enc P w base spare held fuel t [V] = some x) : ∃ l : List α, Sl (hp w) E l V ∧ ∀ a ∈ l, R a := by
  rcases open_slice ht h with ⟨h0, _⟩ | ⟨a, len, cap, m, n, D, Pl, hv, hb, hl, hm, hmm, _, hx⟩
  · simp only [List.cons.injEq, and_true] at h0
    subst h0
    exact ⟨[], Sl.nil _ _, by simp⟩
  · simp only [List.cons.injEq, and_true] at hv
    subst hv
    have hlm : len ≤ m := by rw [hmm]; split <;> omega
    have each : ∀ i, i < len → ∃ q : α, w.cells? base (a.add (i * E.k)) E.k = some (E.enc q) ∧ R q := fun i hi => by
      obtain ⟨cs', h1, h2⟩ := hx i (by omega)
      rw [hc] at h1
      obtain ⟨q, rfl, hq⟩ := hf n cs' _ (World.cells?_some h1).2.1 h2
      exact ⟨q, h1, hq⟩
    obtain ⟨f, hfn⟩ := choose_lt each
    have hsp : 0 < len → a = ⟨a.block, a.off, none⟩ := fun hl0 => by
      have h1 := (World.cells?_some (hfn 0 hl0).1).2.2 0 hk
      have hlen : 0 < (E.enc (f 0)).length := by rw [E.len]; exact hk
      rw [List.getElem?_eq_getElem hlen] at h1
      have hsp := World.cell?_spot h1
      obtain ⟨b, o, sp⟩ := a
      have : sp = none := by simpa [Addr.add] using hsp
      subst this
      rfl
    refine ⟨(List.range len).map f, ⟨⟨some a, cap, by simp, by simpa using hl, hm, fun hne => ?_⟩, fun i q hq => ?_⟩, fun q hq => ?_⟩
    · have hl0 : 0 < len := by
        rcases Nat.eq_zero_or_pos len with h | h
        · subst h; simp at hne
        · exact h
      rw [hsp hl0]; rfl
    · have hi : i < len := by
        have := (List.getElem?_eq_some_iff.1 hq).1
        simpa using this
      have hq' : f i = q := by simpa [hi] using hq
      subst hq'
      have ha := hsp (by omega)
      obtain ⟨b, o, sp⟩ := a
      obtain rfl : sp = none := by simpa using ha
      have hc' := (World.cells?_some (hfn i hi).1).2.2
      have hlen : (E.enc (f i)).length = E.k := E.len _
      have eA : ∀ j, (((⟨b, o, none⟩ : Addr).add (i * E.k)).add j) = ⟨b, o + i * E.k + j, none⟩ := fun j => by
        rw [Go.Deep.add_add]; simp only [Addr.add]
        by_cases h0 : i * E.k + j = 0
        · rw [if_pos h0]
          have : i * E.k = 0 := by omega
          have : j = 0 := by omega
          simp_all
        · rw [if_neg h0, Nat.add_assoc]
      have h1 := hc' 0 hk
      rw [List.getElem?_eq_getElem (by omega), eA] at h1
      have hb1 : ∃ cs T fz, w.heap[b]? = some (.cells cs T fz) := by
        unfold World.cell? at h1
        split at h1
        · rename_i cs T fz hh; exact ⟨cs, T, fz, hh⟩
        · simp at h1
      obtain ⟨cs, T, fz, hh⟩ := hb1
      refine ⟨cs, T, fz, hh, fun j v hj => ?_⟩
      have hjk : j < E.k := by have := (List.getElem?_eq_some_iff.1 hj).1; omega
      have h2 := hc' j hjk
      rw [hj, eA] at h2
      unfold World.cell? at h2
      simp only [hh] at h2
      simp only [ofs]
      simpa using h2
    · obtain ⟨i, hi, rfl⟩ := List.mem_map.1 hq
      exact (hfn i (List.mem_range.1 hi)).2
theorem xq {n : Int} (h : (Lit.int .u8 n).wf = true) : ∃ x : UInt8, n = (x.toNat : Int) := by
  have := bounds_u8 h
  refine ⟨UInt8.ofNat n.toNat, ?_⟩
  rw [UInt8.toNat_ofNat']; omega
theorem nB {n : Int} (h : (Lit.int .u32 n).wf = true) : ∃ x : UInt32, n = (x.toNat : Int) := by
  have := bounds_u32 h
  refine ⟨UInt32.ofNat n.toNat, ?_⟩
  rw [UInt32.toNat_ofNat']; omega
theorem Ah {e : TypeId} (he : P.underlying e = some (.int .u8)) {n : Nat} {cs : List Value} {y : DataW H × List MemPlace} (h : DataW.trod enc P w base spare held n e cs = some y) : ∃ a, cs = dJ.enc a ∧ True := by
  obtain ⟨z, rfl, _, hw⟩ := DataW.trod_int he h
  obtain ⟨x, rfl⟩ := xq hw
  exact ⟨x, rfl, trivial⟩
end
end Go.HL
namespace Go.HL
open Go Go.Deep Go.ChangeShapes Go.WideShapes
section
variable {H : Type} {enc : TypeId × Value → H} {P : Program} {w : World} {base : Nat} {spare : Nat → Bool} {held : Bool}
def uc (P : Program) (t : TypeId) (d : DataW H) : Prop := ∀ n ∈ d.weights P t, n ≤ reachBytes
theorem weightsAll_mem {P : Program} {e : TypeId} : ∀ {l : List (DataW H)} {d : DataW H}, d ∈ l → ∀ n ∈ d.weights P e, n ∈ DataW.weightsAll P e l
  | x :: l, d, h, n, hn => by
    simp only [DataW.weightsAll, List.mem_append]
    rcases List.mem_cons.1 h with rfl | h
    · exact .inl hn
    · exact .inr (weightsAll_mem h n hn)
theorem nZ {α : Type} [Inhabited α] {E : Enc α} {R : α → Prop} {t e : TypeId} {fuel : Nat} {V : Value} {x : DataW H × List MemPlace} (ht : P.underlying t = some (.slice e)) (hc : P.cellsOf e = E.k) (hk : 0 < E.k) (hL : uc P t x.1)
    (hf : ∀ n cs y, cs.length = E.k → DataW.trod enc P w base spare held n e cs = some y → uc P e y.1 → ∃ a : α, cs = E.enc a ∧ R a)
    (h : DataW.trod enc P w base spare held fuel t [V] = some x) : ∃ l : List α, Sl (hp w) E l V ∧ (∀ a ∈ l, R a) ∧ l.length * P.bytesOf e ≤ reachBytes := by
  rcases open_slice ht h with ⟨h0, _⟩ | ⟨a, len, cap, m, n, D, Pl, hv, hb, hl, hm, hmm, hxx, hx⟩
  · simp only [List.cons.injEq, and_true] at h0
    subst h0
    exact ⟨[], Sl.nil _ _, by simp, by simp⟩
  · simp only [List.cons.injEq, and_true] at hv
    subst hv
    subst hxx
    have hlm : len ≤ m := by rw [hmm]; split <;> omega
    have hw : DataW.weights P t (.slice ((List.range len).map D) ((List.range (m - len)).map fun j => D (len + j))) = (((List.range len).map D).length + ((List.range (m - len)).map fun j => D (len + j)).length) * P.bytesOf e :: (DataW.weightsAll P e ((List.range len).map D) ++ DataW.weightsAll P e ((List.range (m - len)).map fun j => D (len + j))) := by
      simp only [DataW.weights, ht]
    have each : ∀ i, i < len → ∃ q : α, w.cells? base (a.add (i * E.k)) E.k = some (E.enc q) ∧ R q := fun i hi => by
      obtain ⟨cs', h1, h2⟩ := hx i (by omega)
      rw [hc] at h1
      obtain ⟨q, rfl, hq⟩ := hf n cs' _ (World.cells?_some h1).2.1 h2 (fun z hz => hL z (by
        rw [hw]
        exact .tail _ (List.mem_append.2 (.inl (weightsAll_mem (List.mem_map.2 ⟨i, List.mem_range.2 hi, rfl⟩) z hz)))))
      exact ⟨q, h1, hq⟩
    obtain ⟨f, hfn⟩ := choose_lt each
    have hsp : 0 < len → a = ⟨a.block, a.off, none⟩ := fun hl0 => by
      have h1 := (World.cells?_some (hfn 0 hl0).1).2.2 0 hk
      have hlen : 0 < (E.enc (f 0)).length := by rw [E.len]; exact hk
      rw [List.getElem?_eq_getElem hlen] at h1
      have hsp := World.cell?_spot h1
      obtain ⟨b, o, sp⟩ := a
      have : sp = none := by simpa [Addr.add] using hsp
      subst this
      rfl
    refine ⟨(List.range len).map f, ⟨⟨some a, cap, by simp, by simpa using hl, hm, fun hne => ?_⟩, fun i q hq => ?_⟩, fun q hq => ?_, ?_⟩
    · have hl0 : 0 < len := by
        rcases Nat.eq_zero_or_pos len with h | h
        · subst h; simp at hne
        · exact h
      rw [hsp hl0]; rfl
    · have hi : i < len := by
        have := (List.getElem?_eq_some_iff.1 hq).1
        simpa using this
      have hq' : f i = q := by simpa [hi] using hq
      subst hq'
      have ha := hsp (by omega)
      obtain ⟨b, o, sp⟩ := a
      obtain rfl : sp = none := by simpa using ha
      have hc' := (World.cells?_some (hfn i hi).1).2.2
      have hlen : (E.enc (f i)).length = E.k := E.len _
      have eA : ∀ j, (((⟨b, o, none⟩ : Addr).add (i * E.k)).add j) = ⟨b, o + i * E.k + j, none⟩ := fun j => by
        rw [Go.Deep.add_add]; simp only [Addr.add]
        by_cases h0 : i * E.k + j = 0
        · rw [if_pos h0]
          have : i * E.k = 0 := by omega
          have : j = 0 := by omega
          simp_all
        · rw [if_neg h0, Nat.add_assoc]
      have h1 := hc' 0 hk
      rw [List.getElem?_eq_getElem (by omega), eA] at h1
      have hb1 : ∃ cs T fz, w.heap[b]? = some (.cells cs T fz) := by
        unfold World.cell? at h1
        split at h1
        · rename_i cs T fz hh; exact ⟨cs, T, fz, hh⟩
        · simp at h1
      obtain ⟨cs, T, fz, hh⟩ := hb1
      refine ⟨cs, T, fz, hh, fun j v hj => ?_⟩
      have hjk : j < E.k := by have := (List.getElem?_eq_some_iff.1 hj).1; omega
      have h2 := hc' j hjk
      rw [hj, eA] at h2
      unfold World.cell? at h2
      simp only [hh] at h2
      simp only [ofs]
      simpa using h2
    · obtain ⟨i, hi, rfl⟩ := List.mem_map.1 hq
      exact (hfn i (List.mem_range.1 hi)).2
    · have := hL _ (by rw [hw]; exact .head _)
      simp only [List.length_map, List.length_range] at this ⊢
      exact Nat.le_trans (Nat.mul_le_mul_right _ (by omega)) this
theorem yK {e ts tu tb tB eu : TypeId} {f0 f1 f2 f3 f4 : Field} (he : P.underlying e = some (.struct #[f0, f1, f2, f3, f4]))
    (ho : [f0.offset, f1.offset, f2.offset, f3.offset, f4.offset] = [0, 1, 2, 3, 4]) (ht : [f0.type, f1.type, f2.type, f3.type, f4.type] = [ts, tu, tb, tB, tB])
    (c0 : P.cellsOf ts = 1) (c1 : P.cellsOf tu = 1) (c2 : P.cellsOf tb = 1) (c3 : P.cellsOf tB = 1) (us : P.underlying ts = some .string) (uu : P.underlying tu = some (.int .u32))
    (ub : P.underlying tb = some (.slice eu)) (ue : P.underlying eu = some (.int .u8)) (ce : P.cellsOf eu = 1) (be : P.bytesOf eu = 1) (uB : P.underlying tB = some .bool)
    {n : Nat} {cs : List Value} {y : DataW H × List MemPlace} (hl : cs.length = 5) (h : DataW.trod enc P w base spare held n e cs = some y) (hL : uc P e y.1) :
    ∃ s : SecV, cs = cm.enc s ∧ Sl (hp w) dJ s.data (.slice s.dp s.data.length s.dc) ∧ s.data.length ≤ reachBytes ∧ s.name.size ≤ reachBytes := by
  simp only [List.cons.injEq, and_true] at ho ht
  obtain ⟨o0, o1, o2, o3, o4⟩ := ho
  obtain ⟨t0, t1, t2, t3, t4⟩ := ht
  obtain ⟨xs, k, hk, hxy, _, hxl, hf⟩ := DataW.trod_struct he h
  match xs, hxl, cs, hl with
  | [y0, y1, y2, y3, y4], _, [v0, v1, v2, v3, v4], _ =>
    have g0 := hf 0 f0 rfl
    have g1 := hf 1 f1 rfl
    have g2 := hf 2 f2 rfl
    have g3 := hf 3 f3 rfl
    have g4 := hf 4 f4 rfl
    simp [o0, o1, o2, o3, o4, t0, t1, t2, t3, t4, c0, c1, c2, c3] at g0 g1 g2 g3 g4
    subst hxy
    have hw : ∀ j t d, [ts, tu, tb, tB, tB][j]? = some t → [y0.1, y1.1, y2.1, y3.1, y4.1][j]? = some d → uc P t d := fun j t d q1 q2 z hz => hL z (by
      simp only [DataW.weights, he, List.map_cons, List.map_nil, t0, t1, t2, t3, t4]
      exact DataW.weights_mem_each (j := j) q1 q2 z hz)
    have w0' := hw 0 ts y0.1 rfl rfl
    have w2' := hw 2 tb y2.1 rfl rfl
    obtain ⟨z0, e0, q0, w0⟩ := DataW.trod_string us g0
    obtain ⟨z1, e1, _, w1⟩ := DataW.trod_int uu g1
    obtain ⟨l, s2, _, hbl⟩ := nZ (E := dJ) (R := fun _ => True) ub ce (by decide) w2' (fun n cs y _ hh _ => Ah ue hh) g2
    obtain ⟨z3, e3, _⟩ := DataW.trod_bool uB g3
    obtain ⟨z4, e4, _⟩ := DataW.trod_bool uB g4
    obtain ⟨x1, rfl⟩ := nB w1
    simp only [List.cons.injEq, and_true] at e0 e1 e3 e4
    subst e0; subst e1; subst e3; subst e4
    obtain ⟨a, c, hv, _⟩ := s2.shape
    subst hv
    refine ⟨⟨z0, x1, l, a, c, z3, z4⟩, rfl, s2, by rw [be, Nat.mul_one] at hbl; exact hbl, ?_⟩
    have := w0' z0.data.toList.length (by rw [q0]; simp [DataW.weights])
    rw [Array.length_toList] at this
    exact this
end
end Go.HL
namespace Go.HL
open Go Go.Deep Go.ChangeShapes Go.WideShapes
section
variable {H : Type} {enc : TypeId × Value → H} {P : Program} {w : World} {base : Nat} {spare : Nat → Bool} {held : Bool}
theorem yJ {e : TypeId} (he : P.underlying e = some (.int .u32)) {n : Nat} {cs : List Value} {y : DataW H × List MemPlace} (h : DataW.trod enc P w base spare held n e cs = some y) : ∃ a, cs = aw.enc a ∧ True := by
  obtain ⟨z, rfl, _, hw⟩ := DataW.trod_int he h
  obtain ⟨x, rfl⟩ := nB hw
  exact ⟨x, rfl, trivial⟩
end
end Go.HL
