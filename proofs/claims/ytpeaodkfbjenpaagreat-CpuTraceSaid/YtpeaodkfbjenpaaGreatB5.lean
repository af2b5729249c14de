/- Own rules and walks, part 5. -/
import Derived.Test.YtpeaodkfbjenpaaGreatB4
set_option linter.unusedSimpArgs false
set_option linter.unusedVariables false
set_option linter.unusedSectionVars false
set_option maxRecDepth 100000
set_option maxHeartbeats 16000000
namespace Go.Proofs.YtpeaodkfbjenpaaGreat
open Go Go.HL Go.RowKit
theorem wX (c : Int) (w : World) :
  Calls Tryz.prog 91 #[.int .i64 c] w (fun e w' => e = .returned (.int .i64 (ew c)) ∧ Ext w w') := by
 refine enter Tryz.func91 rfl Tryz.ntmps91 rfl ?_
 refine af (ab (zz0 (ad rfl) (ae (aa (af (aQ (af (ab (zz0 (ac rfl) (zz0 (dO rfl rfl) (zz0 (ac rfl) ?_)))))))))))
 apply cZ
 ·exact (rfl : _ = (7, 6, 13))
 ·exact rfl
 ·intro hF1; have hF1' := hF1
  try simp only [bs] at hF1'
  refine zz5 hF1 (ac rfl) (zz5 hF1 (dl rfl rfl) (zz5 hF1 (ac rfl) ?_))
  apply bF
  ·exact (rfl : _ = (3, 9, 12))
  ·exact rfl
  ·intro hT2; have hT2' := hT2
   try simp only [bs] at hT2'
   refine zz5 hT2 (ac rfl) (zz5 hT2 (dO rfl rfl) (zz5 hF1 (aE rfl hT2 rfl) ?_))
   refine ae (aa ?_)
   exact aw (Sub.cons rfl (zz7 3 rfl))
  ·intro hF2
   refine zz6 hF2 (zz6 hF2 (zz5 hF1 (aF rfl hF2 rfl) ?_))
   refine ae (aa ?_)
   exact aw (Sub.cons rfl (zz7 3 rfl))
  refine zz0 (aF rfl hF1 rfl) ?_
  refine ae (aa ?_)
  exact aw (Sub.cons rfl (zz7 5 rfl))
 ·intro hT1
  refine zz6 hT1 (zz6 hT1 (zz6 hT1 (dC rfl rfl rfl ?_)))
  refine dC rfl rfl rfl ?_
  refine zz6 hT1 (zz0 (aE rfl hT1 rfl) ?_)
  refine ae (aa ?_)
  exact aw (Sub.cons rfl (zz7 7 rfl))
 refine zz0 (ad rfl) (ae (aa ?_))
 refine ak rfl ?_ ?_ <;> intro h3 <;> try simp only [bs] at h3
 ·refine af (ab (zz0 (ad rfl) (ae (aa (ao (bf (an ?_)))))))
  refine aI iE rfl (fun w' hw => ?_)
  exact ⟨by clear hw; unfold ew; (repeat (first | rw [if_pos (by first | assumption | omega | grind)] | rw [if_neg (by first | assumption | omega | grind)])) <;> rfl, hw.below (Bg.le.refl _)⟩
 ·refine af (ab (zz0 (ac rfl) (zz0 (dl rfl rfl) (zz0 (ac rfl) ?_))))
  apply bF
  ·exact (rfl : _ = (3, 17, 20))
  ·exact rfl
  ·intro hT4; have hT4' := hT4
   try simp only [bs] at hT4'
   refine zz5 hT4 (ac rfl) (zz5 hT4 (dO rfl rfl) (zz0 (aE rfl hT4 rfl) ?_))
   refine ae (aa ?_)
   exact aw (Sub.cons rfl (zz7 3 rfl))
  ·intro hF4
   refine zz6 hF4 (zz6 hF4 (zz0 (aF rfl hF4 rfl) ?_))
   refine ae (aa ?_)
   exact aw (Sub.cons rfl (zz7 3 rfl))
  refine zz0 (ac rfl) ?_
  apply cZ
  ·exact (rfl : _ = (7, 21, 28))
  ·exact rfl
  ·intro hF5; have hF5' := hF5
   try simp only [bs] at hF5'
   refine zz5 hF5 (ac rfl) (zz5 hF5 (dl rfl rfl) (zz5 hF5 (ac rfl) ?_))
   apply bF
   ·exact (rfl : _ = (3, 24, 27))
   ·exact rfl
   ·intro hT6; have hT6' := hT6
    try simp only [bs] at hT6'
    refine zz5 hT6 (ac rfl) (zz5 hT6 (dO rfl rfl) (zz5 hF5 (aE rfl hT6 rfl) ?_))
    refine ae (aa ?_)
    exact aw (Sub.cons rfl (zz7 3 rfl))
   ·intro hF6
    refine zz6 hF6 (zz6 hF6 (zz5 hF5 (aF rfl hF6 rfl) ?_))
    refine ae (aa ?_)
    exact aw (Sub.cons rfl (zz7 3 rfl))
   refine zz0 (aF rfl hF5 rfl) ?_
   refine ae (aa ?_)
   exact aw (Sub.cons rfl (zz7 5 rfl))
  ·intro hT5
   refine zz6 hT5 (zz6 hT5 (zz6 hT5 (dC rfl rfl rfl ?_)))
   refine dC rfl rfl rfl ?_
   refine zz6 hT5 (zz0 (aE rfl hT5 rfl) ?_)
   refine ae (aa ?_)
   exact aw (Sub.cons rfl (zz7 7 rfl))
  refine zz0 (ac rfl) ?_
  apply cZ
  ·exact (rfl : _ = (3, 29, 32))
  ·exact rfl
  ·intro hF7; have hF7' := hF7
   try simp only [bs] at hF7'
   refine zz5 hF7 (ac rfl) (zz5 hF7 (aN rfl rfl) (zz0 (aF rfl hF7 rfl) ?_))
   refine ae (aa ?_)
   exact aw (Sub.cons rfl (zz7 3 rfl))
  ·intro hT7
   refine zz6 hT7 (zz6 hT7 (zz0 (aE rfl hT7 rfl) ?_))
   refine ae (aa ?_)
   exact aw (Sub.cons rfl (zz7 3 rfl))
  refine zz0 (ac rfl) ?_
  apply cZ
  ·exact (rfl : _ = (3, 33, 36))
  ·exact rfl
  ·intro hF8; have hF8' := hF8
   try simp only [bs] at hF8'
   refine zz5 hF8 (ac rfl) (zz5 hF8 (aN rfl rfl) (zz0 (aF rfl hF8 rfl) ?_))
   refine ae (aa ?_)
   exact aw (Sub.cons rfl (zz7 3 rfl))
  ·intro hT8
   refine zz6 hT8 (zz6 hT8 (zz0 (aE rfl hT8 rfl) ?_))
   refine ae (aa ?_)
   exact aw (Sub.cons rfl (zz7 3 rfl))
  refine zz0 (ac rfl) ?_
  apply cZ
  ·exact (rfl : _ = (7, 37, 44))
  ·exact rfl
  ·intro hF9; have hF9' := hF9
   try simp only [bs] at hF9'
   refine zz5 hF9 (ac rfl) (zz5 hF9 (dl rfl rfl) (zz5 hF9 (ac rfl) ?_))
   apply bF
   ·exact (rfl : _ = (3, 40, 43))
   ·exact rfl
   ·intro hT10; have hT10' := hT10
    try simp only [bs] at hT10'
    refine zz5 hT10 (ac rfl) (zz5 hT10 (dO rfl rfl) (zz5 hF9 (aE rfl hT10 rfl) ?_))
    refine ae (aa ?_)
    exact aw (Sub.cons rfl (zz7 3 rfl))
   ·intro hF10
    refine zz6 hF10 (zz6 hF10 (zz5 hF9 (aF rfl hF10 rfl) ?_))
    refine ae (aa ?_)
    exact aw (Sub.cons rfl (zz7 3 rfl))
   refine zz0 (aF rfl hF9 rfl) ?_
   refine ae (aa ?_)
   exact aw (Sub.cons rfl (zz7 5 rfl))
  ·intro hT9
   refine zz6 hT9 (zz6 hT9 (zz6 hT9 (dC rfl rfl rfl ?_)))
   refine dC rfl rfl rfl ?_
   refine zz6 hT9 (zz0 (aE rfl hT9 rfl) ?_)
   refine ae (aa ?_)
   exact aw (Sub.cons rfl (zz7 7 rfl))
  refine zz0 (ac rfl) ?_
  apply cZ
  ·exact (rfl : _ = (3, 45, 48))
  ·exact rfl
  ·intro hF11; have hF11' := hF11
   try simp only [bs] at hF11'
   refine zz5 hF11 (ac rfl) (zz5 hF11 (aN rfl rfl) (zz0 (aF rfl hF11 rfl) ?_))
   refine ae (aa ?_)
   exact aw (Sub.cons rfl (zz7 3 rfl))
  ·intro hT11
   refine zz6 hT11 (zz6 hT11 (zz0 (aE rfl hT11 rfl) ?_))
   refine ae (aa ?_)
   exact aw (Sub.cons rfl (zz7 3 rfl))
  refine zz0 (ac rfl) ?_
  apply cZ
  ·exact (rfl : _ = (3, 49, 52))
  ·exact rfl
  ·intro hF12; have hF12' := hF12
   try simp only [bs] at hF12'
   refine zz5 hF12 (ac rfl) (zz5 hF12 (aN rfl rfl) (zz0 (aF rfl hF12 rfl) ?_))
   refine ae (aa ?_)
   exact aw (Sub.cons rfl (zz7 3 rfl))
  ·intro hT12
   refine zz6 hT12 (zz6 hT12 (zz0 (aE rfl hT12 rfl) ?_))
   refine ae (aa ?_)
   exact aw (Sub.cons rfl (zz7 3 rfl))
  refine zz0 (ad rfl) (ae (aa ?_))
  refine ak rfl ?_ ?_ <;> intro h13 <;> try simp only [bs] at h13
  ·refine af (ab (zz0 (ad rfl) (ae (aa (ao (bf (an ?_)))))))
   refine aI iE rfl (fun w' hw => ?_)
   exact ⟨by clear hw; unfold ew; (repeat (first | rw [if_pos (by first | assumption | omega | grind)] | rw [if_neg (by first | assumption | omega | grind)])) <;> rfl, hw.below (Bg.le.refl _)⟩
  ·refine af (ab (zz0 (ac rfl) (zz0 (dl rfl rfl) (zz0 (ac rfl) ?_))))
   apply bF
   ·exact (rfl : _ = (3, 56, 59))
   ·exact rfl
   ·intro hT14; have hT14' := hT14
    try simp only [bs] at hT14'
    refine zz5 hT14 (ac rfl) (zz5 hT14 (dO rfl rfl) (zz0 (aE rfl hT14 rfl) ?_))
    refine ae (aa ?_)
    exact aw (Sub.cons rfl (zz7 3 rfl))
   ·intro hF14
    refine zz6 hF14 (zz6 hF14 (zz0 (aF rfl hF14 rfl) ?_))
    refine ae (aa ?_)
    exact aw (Sub.cons rfl (zz7 3 rfl))
   refine zz0 (ac rfl) ?_
   apply cZ
   ·exact (rfl : _ = (7, 60, 67))
   ·exact rfl
   ·intro hF15; have hF15' := hF15
    try simp only [bs] at hF15'
    refine zz5 hF15 (ac rfl) (zz5 hF15 (dl rfl rfl) (zz5 hF15 (ac rfl) ?_))
    apply bF
    ·exact (rfl : _ = (3, 63, 66))
    ·exact rfl
    ·intro hT16; have hT16' := hT16
     try simp only [bs] at hT16'
     refine zz5 hT16 (ac rfl) (zz5 hT16 (dO rfl rfl) (zz5 hF15 (aE rfl hT16 rfl) ?_))
     refine ae (aa ?_)
     exact aw (Sub.cons rfl (zz7 3 rfl))
    ·intro hF16
     refine zz6 hF16 (zz6 hF16 (zz5 hF15 (aF rfl hF16 rfl) ?_))
     refine ae (aa ?_)
     exact aw (Sub.cons rfl (zz7 3 rfl))
    refine zz0 (aF rfl hF15 rfl) ?_
    refine ae (aa ?_)
    exact aw (Sub.cons rfl (zz7 5 rfl))
   ·intro hT15
    refine zz6 hT15 (zz6 hT15 (zz6 hT15 (dC rfl rfl rfl ?_)))
    refine dC rfl rfl rfl ?_
    refine zz6 hT15 (zz0 (aE rfl hT15 rfl) ?_)
    refine ae (aa ?_)
    exact aw (Sub.cons rfl (zz7 7 rfl))
   refine zz0 (ac rfl) ?_
   apply cZ
   ·exact (rfl : _ = (3, 68, 71))
   ·exact rfl
   ·intro hF17; have hF17' := hF17
    try simp only [bs] at hF17'
    refine zz5 hF17 (ac rfl) (zz5 hF17 (aN rfl rfl) (zz0 (aF rfl hF17 rfl) ?_))
    refine ae (aa ?_)
    exact aw (Sub.cons rfl (zz7 3 rfl))
   ·intro hT17
    refine zz6 hT17 (zz6 hT17 (zz0 (aE rfl hT17 rfl) ?_))
    refine ae (aa ?_)
    exact aw (Sub.cons rfl (zz7 3 rfl))
   refine zz0 (ad rfl) (ae (aa ?_))
   refine ak rfl ?_ ?_ <;> intro h18 <;> try simp only [bs] at h18
   ·refine af (ab (zz0 (ad rfl) (ae (aa (ao (bf (an ?_)))))))
    refine aI iE rfl (fun w' hw => ?_)
    exact ⟨by clear hw; unfold ew; (repeat (first | rw [if_pos (by first | assumption | omega | grind)] | rw [if_neg (by first | assumption | omega | grind)])) <;> rfl, hw.below (Bg.le.refl _)⟩
   ·refine af (ab (zz0 (ac rfl) (zz0 (dl rfl rfl) (zz0 (ac rfl) ?_))))
    apply bF
    ·exact (rfl : _ = (3, 75, 78))
    ·exact rfl
    ·intro hT19; have hT19' := hT19
     try simp only [bs] at hT19'
     refine zz5 hT19 (ac rfl) (zz5 hT19 (dO rfl rfl) (zz0 (aE rfl hT19 rfl) ?_))
     refine ae (aa ?_)
     exact aw (Sub.cons rfl (zz7 3 rfl))
    ·intro hF19
     refine zz6 hF19 (zz6 hF19 (zz0 (aF rfl hF19 rfl) ?_))
     refine ae (aa ?_)
     exact aw (Sub.cons rfl (zz7 3 rfl))
    refine zz0 (ac rfl) ?_
    apply cZ
    ·exact (rfl : _ = (3, 79, 82))
    ·exact rfl
    ·intro hF20; have hF20' := hF20
     try simp only [bs] at hF20'
     refine zz5 hF20 (ac rfl) (zz5 hF20 (aN rfl rfl) (zz0 (aF rfl hF20 rfl) ?_))
     refine ae (aa ?_)
     exact aw (Sub.cons rfl (zz7 3 rfl))
    ·intro hT20
     refine zz6 hT20 (zz6 hT20 (zz0 (aE rfl hT20 rfl) ?_))
     refine ae (aa ?_)
     exact aw (Sub.cons rfl (zz7 3 rfl))
    refine zz0 (ad rfl) (ae (aa ?_))
    refine ak rfl ?_ ?_ <;> intro h21 <;> try simp only [bs] at h21
    ·refine af (ab (zz0 (ad rfl) (ae (aa (ao (bf (an ?_)))))))
     refine aI iE rfl (fun w' hw => ?_)
     exact ⟨by clear hw; unfold ew; (repeat (first | rw [if_pos (by first | assumption | omega | grind)] | rw [if_neg (by first | assumption | omega | grind)])) <;> rfl, hw.below (Bg.le.refl _)⟩
    ·refine af (ab (zz0 (ac rfl) (zz0 (dl rfl rfl) (zz0 (ac rfl) ?_))))
     apply bF
     ·exact (rfl : _ = (3, 86, 89))
     ·exact rfl
     ·intro hT22; have hT22' := hT22
      try simp only [bs] at hT22'
      refine zz5 hT22 (ac rfl) (zz5 hT22 (dO rfl rfl) (zz0 (aE rfl hT22 rfl) ?_))
      refine ae (aa ?_)
      exact aw (Sub.cons rfl (zz7 3 rfl))
     ·intro hF22
      refine zz6 hF22 (zz6 hF22 (zz0 (aF rfl hF22 rfl) ?_))
      refine ae (aa ?_)
      exact aw (Sub.cons rfl (zz7 3 rfl))
     refine zz0 (ac rfl) ?_
     apply cZ
     ·exact (rfl : _ = (3, 90, 93))
     ·exact rfl
     ·intro hF23; have hF23' := hF23
      try simp only [bs] at hF23'
      refine zz5 hF23 (ac rfl) (zz5 hF23 (aN rfl rfl) (zz0 (aF rfl hF23 rfl) ?_))
      refine ae (aa ?_)
      exact aw (Sub.cons rfl (zz7 3 rfl))
     ·intro hT23
      refine zz6 hT23 (zz6 hT23 (zz0 (aE rfl hT23 rfl) ?_))
      refine ae (aa ?_)
      exact aw (Sub.cons rfl (zz7 3 rfl))
     refine zz0 (ad rfl) (ae (aa ?_))
     refine ak rfl ?_ ?_ <;> intro h24 <;> try simp only [bs] at h24
     ·refine af (ab (zz0 (ad rfl) (ae (aa (ao (bf (an ?_)))))))
      refine aI iE rfl (fun w' hw => ?_)
      exact ⟨by clear hw; unfold ew; (repeat (first | rw [if_pos (by first | assumption | omega | grind)] | rw [if_neg (by first | assumption | omega | grind)])) <;> rfl, hw.below (Bg.le.refl _)⟩
     ·refine ax (a9 (aa (af (ab (zz0 (ad rfl) (ae (aa (ao ?_))))))))
      refine aI iE rfl (fun w' hw => ?_)
      exact ⟨by clear hw; unfold ew; (repeat (first | rw [if_pos (by first | assumption | omega | grind)] | rw [if_neg (by first | assumption | omega | grind)])) <;> rfl, hw.below (Bg.le.refl _)⟩
theorem lZ (c : UInt8) (w : World) :
  Calls Tryz.prog 123 #[.int .u8 c.toNat] w (fun e w' => e = .returned (.int .u32 (gz c).toNat) ∧ Ext w w') := by
 refine enter Tryz.func123 rfl Tryz.ntmps123 rfl ?_
 refine af (ab (zz0 (ad rfl) (ae (aa (af (af (ab (zz0 (ac rfl) (zz0 (mw (n := 128) rfl rfl) ?_)))))))))
 refine ae (aa ?_)
 refine ak rfl ?_ ?_ <;> intro h1 <;> try simp only [bs] at h1
 ·refine af (ab (zz0 (ac rfl) (zz0 (fq rfl bu aT) (zz0 (ad rfl) (ae (aa (ao (an ?_))))))))
  refine aI Tryz.results123 rfl (fun w' hw => ?_)
  exact ⟨by clear hw; unfold gz; (repeat (first | rw [if_pos (by first | assumption | omega | grind)] | rw [if_neg (by first | assumption | omega | grind)])) <;> rfl, hw.below (Bg.le.refl _)⟩
 ·refine ax (aa (af (ab (zz0 (ac rfl) (zz0 (fq rfl bu aT) (zz0 (cL (n := 4294967040) rfl rfl) ?_))))))
  refine zz0 (ad rfl) (ae (aa (ao ?_)))
  refine aI Tryz.results123 rfl (fun w' hw => ?_)
  exact ⟨by clear hw; unfold gz; (repeat (first | rw [if_pos (by first | assumption | omega | grind)] | rw [if_neg (by first | assumption | omega | grind)])) <;> rfl, hw.below (Bg.le.refl _)⟩
theorem kT (l : List UInt8) (V : Value) (w : World) (hV : Sl (hp w) dH l V) (hl : 4 ≤ l.length) :
  Calls Tryz.prog 124 #[V] w (fun e w' => e = .returned (.int .u32 (fk l 0).toNat) ∧ Ext w w') := by
 have hV' : Sl (Bg.of w).blk dH l V := hV
 have hlen := hV.len_le
 refine enter Tryz.func124 rfl Tryz.ntmps124 rfl ?_
 refine af (ab (zz0 (ad rfl) (ae (aa (af (ja aU ?_))))))
 refine aK (ac rfl) (aK (gP rfl rfl aG bN) ?_)
 refine aK (gK rfl cw) ?_
 refine aK (fq rfl bu aT) (aK (ac rfl) (aK (gP rfl rfl aG bN) ?_))
 refine aK (gK rfl cw) ?_
 refine aK (fq rfl bu aT) (aK (jl (m := 256) rfl rfl) ?_)
 refine aK (cL rfl rfl) ?_
 refine aK (ac rfl) (aK (gP rfl rfl aG bN) ?_)
 refine aK (gK rfl cw) ?_
 refine aK (fq rfl bu aT) (aK (jl (m := 65536) rfl rfl) ?_)
 refine aK (cL rfl rfl) ?_
 refine aK (ac rfl) (aK (gP rfl rfl aG bN) ?_)
 refine aK (gK rfl cw) ?_
 refine aK (fq rfl bu aT) (aK (jl (m := 16777216) rfl rfl) ?_)
 refine aK (cL rfl rfl) ?_
 refine aK (ad rfl) (cH ?_)
 refine aa (ao ?_)
 refine aI Tryz.results124 rfl (fun w' hw => ?_)
 exact ⟨rfl, hw.below (Bg.le.refl _)⟩
theorem qU (c : Int) (w : World) :
  Calls Tryz.prog 147 #[.int .i64 c] w (fun e w' => e = .returned (.tuple #[.int .i64 (ib c).1, .int .i64 (ib c).2]) ∧ Ext w w') := by
 refine enter Tryz.func147 rfl Tryz.ntmps147 rfl ?_
 refine af (ab (zz0 (ad rfl) (zz0 (ad rfl) (ae (aa (af (af (ab (zz0 (ac rfl) (ae (aa (aQ (af ?_)))))))))))))
 refine ab (zz0 (aN rfl rfl) (zz0 (ad rfl) (ae (aa ?_))))
 refine ak rfl ?_ ?_ <;> intro h1 <;> try simp only [bs] at h1
 ·refine af (ab (zz0 (ad rfl) (zz0 (ad rfl) (ae (aa (ao (bf (an ?_))))))))
  refine cy fO rfl rfl (fun w' hw => ?_)
  exact ⟨by clear hw; unfold ib; (repeat (first | rw [if_pos (by first | assumption | omega | grind)] | rw [if_neg (by first | assumption | omega | grind)])) <;> rfl, hw.below (Bg.le.refl _)⟩
 ·refine af (ab (zz0 (aN rfl rfl) (zz0 (ad rfl) (ae (aa ?_)))))
  refine ak rfl ?_ ?_ <;> intro h2 <;> try simp only [bs] at h2
  ·refine af (ab (zz0 (ad rfl) (zz0 (ad rfl) (ae (aa (ao (bf (an ?_))))))))
   refine cy fO rfl rfl (fun w' hw => ?_)
   exact ⟨by clear hw; unfold ib; (repeat (first | rw [if_pos (by first | assumption | omega | grind)] | rw [if_neg (by first | assumption | omega | grind)])) <;> rfl, hw.below (Bg.le.refl _)⟩
  ·refine af (ab (zz0 (aN rfl rfl) (zz0 (ad rfl) (ae (aa ?_)))))
   refine ak rfl ?_ ?_ <;> intro h3 <;> try simp only [bs] at h3
   ·refine af (ab (zz0 (ad rfl) (zz0 (ad rfl) (ae (aa (ao (bf (an ?_))))))))
    refine cy fO rfl rfl (fun w' hw => ?_)
    exact ⟨by clear hw; unfold ib; (repeat (first | rw [if_pos (by first | assumption | omega | grind)] | rw [if_neg (by first | assumption | omega | grind)])) <;> rfl, hw.below (Bg.le.refl _)⟩
   ·refine af (ab (zz0 (aN rfl rfl) (zz0 (ad rfl) (ae (aa ?_)))))
    refine ak rfl ?_ ?_ <;> intro h4 <;> try simp only [bs] at h4
    ·refine af (ab (zz0 (ad rfl) (zz0 (ad rfl) (ae (aa (ao (bf (an ?_))))))))
     refine cy fO rfl rfl (fun w' hw => ?_)
     exact ⟨by clear hw; unfold ib; (repeat (first | rw [if_pos (by first | assumption | omega | grind)] | rw [if_neg (by first | assumption | omega | grind)])) <;> rfl, hw.below (Bg.le.refl _)⟩
    ·refine af (ab (zz0 (aN rfl rfl) (zz0 (ad rfl) (ae (aa ?_)))))
     refine ak rfl ?_ ?_ <;> intro h5 <;> try simp only [bs] at h5
     ·refine af (ab (zz0 (ad rfl) (zz0 (ad rfl) (ae (aa (ao (bf (an ?_))))))))
      refine cy fO rfl rfl (fun w' hw => ?_)
      exact ⟨by clear hw; unfold ib; (repeat (first | rw [if_pos (by first | assumption | omega | grind)] | rw [if_neg (by first | assumption | omega | grind)])) <;> rfl, hw.below (Bg.le.refl _)⟩
     ·refine af (ab (zz0 (aN rfl rfl) (zz0 (ad rfl) (ae (aa ?_)))))
      refine ak rfl ?_ ?_ <;> intro h6 <;> try simp only [bs] at h6
      ·refine af (ab (zz0 (ad rfl) (zz0 (ad rfl) (ae (aa (ao (bf (an ?_))))))))
       refine cy fO rfl rfl (fun w' hw => ?_)
       exact ⟨by clear hw; unfold ib; (repeat (first | rw [if_pos (by first | assumption | omega | grind)] | rw [if_neg (by first | assumption | omega | grind)])) <;> rfl, hw.below (Bg.le.refl _)⟩
      ·refine af (ab (zz0 (aN rfl rfl) (zz0 (ad rfl) (ae (aa ?_)))))
       refine ak rfl ?_ ?_ <;> intro h7 <;> try simp only [bs] at h7
       ·refine af (ab (zz0 (ad rfl) (zz0 (ad rfl) (ae (aa (ao (bf (an ?_))))))))
        refine cy fO rfl rfl (fun w' hw => ?_)
        exact ⟨by clear hw; unfold ib; (repeat (first | rw [if_pos (by first | assumption | omega | grind)] | rw [if_neg (by first | assumption | omega | grind)])) <;> rfl, hw.below (Bg.le.refl _)⟩
       ·refine ax (a9 (aa (af (ab (zz0 (ad rfl) (zz0 (ad rfl) (ae (aa (ao ?_)))))))))
        refine cy fO rfl rfl (fun w' hw => ?_)
        exact ⟨by clear hw; unfold ib; (repeat (first | rw [if_pos (by first | assumption | omega | grind)] | rw [if_neg (by first | assumption | omega | grind)])) <;> rfl, hw.below (Bg.le.refl _)⟩
theorem sA (c : Int) (b : List UInt8) (V : Value) (addr : UInt32) (sz : Int) (w : World) (hV : Sl (hp w) dH b V) (hb : (b.length : Int) = ew c) (hc : 0 ≤ c ∧ c ≤ 255) (hz : ew c ≠ 0) (hn : ¬ (32 ≤ c ∧ c ≤ 42 ∨ 48 ≤ c ∧ c ≤ 58 ∨ 64 ≤ c ∧ c ≤ 74)) :
  Calls Tryz.prog 125 #[.int .i64 c, V, .agg (eC.enc ⟨addr, 0, 0, 0, 0, 0, 0, 0, sz⟩).toArray] w (fun e w' => e = .returned (.agg (eC.enc (dK c b ⟨addr, 0, 0, 0, 0, 0, 0, 0, sz⟩)).toArray) ∧ Ext w w') := by
 have hV' : Sl (Bg.of w).blk dH b V := hV
 have hlen := hV.len_le
 have hsp := oH (c := c)
 have hsz := rx hz
 refine enter Tryz.func125 rfl Tryz.ntmps125 rfl ?_
 refine af (ab ?_)
 refine cM rfl rfl rfl (fun b1 => ?_)
 refine c9 du rfl (fun b2 => ?_)
 refine ae (aa (af (ab (zz0 (zz3 (off := 0) (ft := 23) rfl ag rfl ah) ?_))))
 refine zz0 (aM rfl az) ?_
 refine zz0 (zz3 (off := 8) (ft := 3) rfl ag rfl aj) ?_
 refine zz0 (aM rfl aD) ?_
 refine zz0 (eY rfl aO aT) (zz0 (cL rfl rfl) ?_)
 refine zz0 (ad rfl) (ae (aa ?_))
 refine eJ (ι := Ins) (fun k => k = dK c b ⟨addr, 0, 0, 0, 0, 0, 0, 0, sz⟩) (fun _ => Bg.of w) (fun k => [cellE b1 (eC.enc k) 114, cellE b2 (eC.enc bU) 114]) (fun k => []) ?_ (fun k hi => ?_)
 ·skip
  refine aQ (af (ab (zz0 (ac rfl) (zz0 (dO rfl rfl) (zz0 (ad rfl) (ae (aa ?_)))))))
  refine ak rfl ?_ ?_ <;> intro h3 <;> try simp only [bs] at h3
  ·refine ab (zz0 (ac rfl) (zz0 (zz3 (off := 2) (ft := 3) rfl ag rfl aj) ?_))
   refine zz1 (cs' := [_, _, _, _, _, _, _, _, _]) rfl rfl aj rfl ?_
   refine ae (a9 (aa ?_))
   apply aZ ⟨addr, 0, c, 0, 0, 0, 0, 0, sz⟩
   ·exact rfl
   ·exact Front.nil
   ·exact bQ 5 rfl
   ·exact (by repeat' constructor)
   ·exact (by unfold dK iN; (repeat (first | rw [if_pos (by omega)] | rw [if_neg (by omega)])) <;> rfl)
  ·refine af (ab (zz0 (ac rfl) (zz0 (dO rfl rfl) (zz0 (ad rfl) (ae (aa ?_))))))
   refine ak rfl ?_ ?_ <;> intro h4 <;> try simp only [bs] at h4
   ·refine ab (zz0 (ac rfl) (zz0 (eE rfl rfl) ?_))
    refine zz0 (zz3 (off := 2) (ft := 3) rfl ag rfl aj) ?_
    refine zz1 (cs' := [_, _, _, _, _, _, _, _, _]) rfl rfl aj rfl ?_
    refine zz0 (zz3 (off := 6) (ft := 3) rfl ag rfl aj) ?_
    refine zz1 (cs' := [_, _, _, _, _, _, _, _, _]) rfl rfl aj rfl ?_
    refine ae (a9 (aa ?_))
    apply aZ ⟨addr, 0, 3, 0, 0, 0, c - 8, 0, sz⟩
    ·exact rfl
    ·exact Front.nil
    ·exact bQ 10 rfl
    ·exact (by repeat' constructor)
    ·exact (by unfold dK iN; (repeat (first | rw [if_pos (by omega)] | rw [if_neg (by omega)])) <;> rfl)
   ·refine af (ab (zz0 (ac rfl) (zz0 (dO rfl rfl) (zz0 (ad rfl) (ae (aa ?_))))))
    refine ak rfl ?_ ?_ <;> intro h5 <;> try simp only [bs] at h5
    ·refine ab (zz0 (ac rfl) (zz0 (eE rfl rfl) ?_))
     refine zz0 (zz3 (off := 2) (ft := 3) rfl ag rfl aj) ?_
     refine zz1 (cs' := [_, _, _, _, _, _, _, _, _]) rfl rfl aj rfl ?_
     refine zz0 (zz3 (off := 6) (ft := 3) rfl ag rfl aj) ?_
     refine zz1 (cs' := [_, _, _, _, _, _, _, _, _]) rfl rfl aj rfl ?_
     refine ae (a9 (aa ?_))
     apply aZ ⟨addr, 0, 4, 0, 0, 0, c - 16, 0, sz⟩
     ·exact rfl
     ·exact Front.nil
     ·exact bQ 13 rfl
     ·exact (by repeat' constructor)
     ·exact (by unfold dK iN; (repeat (first | rw [if_pos (by omega)] | rw [if_neg (by omega)])) <;> rfl)
    ·refine af (ab (zz0 (ac rfl) (zz0 (dO rfl rfl) (zz0 (ad rfl) (ae (aa ?_))))))
     refine ak rfl ?_ ?_ <;> intro h6 <;> try simp only [bs] at h6
     ·refine af (ab (zz0 (ac rfl) (zz0 (aB rfl Tryz.call147 (fun w hw => qU c w)) ?_)))
      refine zz0 (ac rfl) (zz0 (ay rfl rfl) (zz0 (ay rfl rfl) (zz0 (zz3 (off := 2) (ft := 3) rfl ag rfl aj) ?_)))
      refine zz1 (cs' := [_, _, _, _, _, _, _, _, _]) rfl rfl aj rfl ?_
      refine zz0 (zz3 (off := 4) (ft := 3) rfl ag rfl aj) ?_
      refine zz1 (cs' := [_, _, _, _, _, _, _, _, _]) rfl rfl aj rfl ?_
      refine ae (aa (bI ([cellE b2 (eC.enc bU) 114]) 20 rfl aU ?_))
      refine zz2 0 rfl (ac rfl) ?_
      refine zz2 1 rfl (gP rfl rfl aG bN) ?_
      refine zz2 2 rfl (gK rfl cw) ?_
      refine eV 3 rfl (by kernel_rfl) (dG (bA bW)) (sW (n := 16) rfl rfl (by first | decide | assumption)) ?_
      refine zz2 4 rfl (db rfl bu aO) ?_
      refine zz2 5 rfl (ac rfl) ?_
      refine zz2 6 rfl (gP rfl rfl aG bN) ?_
      refine zz2 7 rfl (gK rfl cw) ?_
      refine eV 8 rfl (by kernel_rfl) (dG (bA bW)) (pC (n := 16) rfl rfl (by first | decide | assumption)) ?_
      refine zz2 9 rfl (db rfl bu aO) ?_
      refine zz2 10 rfl (ac rfl) ?_
      refine zz2 11 rfl (gP rfl rfl aG bN) ?_
      refine zz2 12 rfl (gK rfl cw) ?_
      refine zz2 14 rfl (zz3 (off := 6) (ft := 3) rfl ag rfl aj) ?_
      refine zz9 [13] (fun iq hq => ?_)
      obtain rfl := List.mem_singleton.1 hq
      refine aX rfl ?_
      refine zz0 (aB rfl mn (fun w hw => lZ (b.getD 2 default) w)) ?_
      refine bB ?_
      refine zz9 [15] (fun iq hq => ?_)
      obtain rfl := List.mem_singleton.1 hq
      refine aX rfl ?_
      refine zz1 (cs' := [_, _, _, _, _, _, _, _, _]) rfl rfl aj rfl ?_
      refine bB ?_
      refine zz2 16 rfl (zz3 (off := 7) (ft := 3) rfl ag rfl aj) ?_
      refine zz9 [17] (fun iq hq => ?_)
      obtain rfl := List.mem_singleton.1 hq
      refine aX rfl ?_
      refine zz1 (cs' := [_, _, _, _, _, _, _, _, _]) rfl rfl aj rfl ?_
      refine bB ?_
      refine zz2 18 rfl (zz3 (off := 1) (ft := 23) rfl ag rfl ah) ?_
      refine zz9 [19] (fun iq hq => ?_)
      obtain rfl := List.mem_singleton.1 hq
      refine aX rfl ?_
      refine zz1 (cs' := [_, _, _, _, _, _, _, _, _]) rfl rfl ah rfl ?_
      refine bB ?_
      refine eh ?_
      refine a9 (aa ?_)
      apply aZ ⟨addr, gz (b.getD 2 default), (ib c).1, 0, (ib c).2, 0, ((b.getD 1 default) / 16).toNat, ((b.getD 1 default) % 16).toNat, sz⟩
      ·exact rfl
      ·exact Front.nil
      ·exact bQ 36 rfl
      ·exact (by repeat' constructor)
      ·exact (by unfold dK iN; (repeat (first | rw [if_pos (by omega)] | rw [if_neg (by omega)])) <;> rfl)
     ·refine af (ab (zz0 (ac rfl) (zz0 (aN rfl rfl) (zz0 (ad rfl) (ae (aa ?_))))))
      refine ak rfl ?_ ?_ <;> intro h7 <;> try simp only [bs] at h7
      ·refine bI ([cellE b2 (eC.enc bU) 114]) 22 rfl aU ?_
       refine zz2 0 rfl (ac rfl) ?_
       refine zz2 1 rfl (gP rfl rfl aG bN) ?_
       refine zz2 2 rfl (gK rfl cw) ?_
       refine eV 3 rfl (by kernel_rfl) (dG (bA bW)) (sW (n := 16) rfl rfl (by first | decide | assumption)) ?_
       refine zz2 4 rfl (db rfl bu aO) ?_
       refine zz2 5 rfl (ac rfl) ?_
       refine zz2 6 rfl (gP rfl rfl aG bN) ?_
       refine zz2 7 rfl (gK rfl cw) ?_
       refine eV 8 rfl (by kernel_rfl) (dG (bA bW)) (pC (n := 16) rfl rfl (by first | decide | assumption)) ?_
       refine zz2 9 rfl (db rfl bu aO) ?_
       refine zz2 10 rfl (ac rfl) ?_
       refine zz2 11 rfl (gP rfl rfl aG bN) ?_
       refine zz2 12 rfl (gK rfl cw) ?_
       refine zz2 14 rfl (zz3 (off := 2) (ft := 3) rfl ag rfl aj) ?_
       refine zz9 [13] (fun iq hq => ?_)
       obtain rfl := List.mem_singleton.1 hq
       refine aX rfl ?_
       refine zz0 (aB rfl mn (fun w hw => lZ (b.getD 2 default) w)) ?_
       refine bB ?_
       refine zz9 [15] (fun iq hq => ?_)
       obtain rfl := List.mem_singleton.1 hq
       refine aX rfl ?_
       refine zz1 (cs' := [_, _, _, _, _, _, _, _, _]) rfl rfl aj rfl ?_
       refine bB ?_
       refine zz2 16 rfl (zz3 (off := 6) (ft := 3) rfl ag rfl aj) ?_
       refine zz9 [17] (fun iq hq => ?_)
       obtain rfl := List.mem_singleton.1 hq
       refine aX rfl ?_
       refine zz1 (cs' := [_, _, _, _, _, _, _, _, _]) rfl rfl aj rfl ?_
       refine bB ?_
       refine zz2 18 rfl (zz3 (off := 7) (ft := 3) rfl ag rfl aj) ?_
       refine zz9 [19] (fun iq hq => ?_)
       obtain rfl := List.mem_singleton.1 hq
       refine aX rfl ?_
       refine zz1 (cs' := [_, _, _, _, _, _, _, _, _]) rfl rfl aj rfl ?_
       refine bB ?_
       refine zz2 20 rfl (zz3 (off := 1) (ft := 23) rfl ag rfl ah) ?_
       refine zz9 [21] (fun iq hq => ?_)
       obtain rfl := List.mem_singleton.1 hq
       refine aX rfl ?_
       refine zz1 (cs' := [_, _, _, _, _, _, _, _, _]) rfl rfl ah rfl ?_
       refine bB ?_
       refine eh ?_
       refine a9 (aa ?_)
       apply aZ ⟨addr, gz (b.getD 2 default), 19, 0, 0, 0, ((b.getD 1 default) / 16).toNat, ((b.getD 1 default) % 16).toNat, sz⟩
       ·exact rfl
       ·exact Front.nil
       ·exact bQ 33 rfl
       ·exact (by repeat' constructor)
       ·exact (by unfold dK iN; (repeat (first | rw [if_pos (by omega)] | rw [if_neg (by omega)])) <;> rfl)
      ·refine af (ab (zz0 (ac rfl) (zz0 (dO rfl rfl) (zz0 (ad rfl) (ae (aa ?_))))))
       refine ak rfl ?_ ?_ <;> intro h8 <;> try simp only [bs] at h8
       ·refine ab (zz0 (ac rfl) (zz0 (eE rfl rfl) ?_))
        refine zz0 (ac rfl) (zz0 (ac rfl) (zz0 (gP rfl rfl aG bN) ?_))
        refine zz0 (gK rfl cw) ?_
        refine zz0 (aB rfl mn (fun w hw => lZ (b.getD 1 default) w)) ?_
        refine zz0 (cL rfl rfl) ?_
        refine zz0 (zz3 (off := 2) (ft := 3) rfl ag rfl aj) ?_
        refine zz1 (cs' := [_, _, _, _, _, _, _, _, _]) rfl rfl aj rfl ?_
        refine zz0 (zz3 (off := 3) (ft := 3) rfl ag rfl aj) ?_
        refine zz1 (cs' := [_, _, _, _, _, _, _, _, _]) rfl rfl aj rfl ?_
        refine zz0 (zz3 (off := 5) (ft := 3) rfl ag rfl aj) ?_
        refine zz1 (cs' := [_, _, _, _, _, _, _, _, _]) rfl rfl aj rfl ?_
        refine zz0 (zz3 (off := 1) (ft := 23) rfl ag rfl ah) ?_
        refine zz1 (cs' := [_, _, _, _, _, _, _, _, _]) rfl rfl ah rfl ?_
        refine ae (a9 (aa ?_))
        apply aZ ⟨addr, (addr + u32 sz) + gz (b.getD 1 default), 20, 1, 0, c - 96, 0, 0, sz⟩
        ·exact rfl
        ·exact Front.nil
        ·exact bQ 30 rfl
        ·exact (by repeat' constructor)
        ·exact (by unfold dK iN; (repeat (first | rw [if_pos (by omega)] | rw [if_neg (by omega)])) <;> rfl)
       ·refine af (ab (zz0 (ac rfl) (zz0 (dO rfl rfl) (zz0 (ad rfl) (ae (aa ?_))))))
        refine ak rfl ?_ ?_ <;> intro h9 <;> try simp only [bs] at h9
        ·refine ab (zz0 (ac rfl) (zz0 (eE rfl rfl) ?_))
         refine zz0 (ac rfl) (zz0 (ac rfl) (zz0 (qN (lv := some (_, _)) (hv := none) rfl rfl rfl aG bN) ?_))
         refine zz0 (aB rfl mm (fun w hw => kT ((b.take (b.length : Int).toNat).drop (1 : Int).toNat) _ w (hw.slF (Sl.resl hV' (by omega) (by omega))) (by simp; omega))) ?_
         refine zz0 (cL rfl rfl) ?_
         refine zz0 (zz3 (off := 2) (ft := 3) rfl ag rfl aj) ?_
         refine zz1 (cs' := [_, _, _, _, _, _, _, _, _]) rfl rfl aj rfl ?_
         refine zz0 (zz3 (off := 3) (ft := 3) rfl ag rfl aj) ?_
         refine zz1 (cs' := [_, _, _, _, _, _, _, _, _]) rfl rfl aj rfl ?_
         refine zz0 (zz3 (off := 5) (ft := 3) rfl ag rfl aj) ?_
         refine zz1 (cs' := [_, _, _, _, _, _, _, _, _]) rfl rfl aj rfl ?_
         refine zz0 (zz3 (off := 1) (ft := 23) rfl ag rfl ah) ?_
         refine zz1 (cs' := [_, _, _, _, _, _, _, _, _]) rfl rfl ah rfl ?_
         refine ae (a9 (aa ?_))
         rw [show fk ((b.take (b.length : Int).toNat).drop (1 : Int).toNat) 0 = fk b 1 from mX (k := 1) (by omega)]
         apply aZ ⟨addr, (addr + u32 sz) + fk b 1, 20, 2, 0, c - 112, 0, 0, sz⟩
         ·exact rfl
         ·exact Front.nil
         ·exact bQ 32 rfl
         ·exact (by repeat' constructor)
         ·exact (by unfold dK iN; (repeat (first | rw [if_pos (by omega)] | rw [if_neg (by omega)])) <;> rfl)
        ·refine af (ab (zz0 (ac rfl) (zz0 (aN rfl rfl) (zz0 (ad rfl) (ae (aa ?_))))))
         refine ak rfl ?_ ?_ <;> intro h10 <;> try simp only [bs] at h10
         ·refine ab (zz0 (ac rfl) (zz0 (ac rfl) (zz0 (qN (lv := some (_, _)) (hv := none) rfl rfl rfl aG bN) ?_)))
          refine zz0 (aB rfl mm (fun w hw => kT ((b.take (b.length : Int).toNat).drop (1 : Int).toNat) _ w (hw.slF (Sl.resl hV' (by omega) (by omega))) (by simp; omega))) ?_
          refine zz0 (cL rfl rfl) ?_
          refine zz0 (zz3 (off := 2) (ft := 3) rfl ag rfl aj) ?_
          refine zz1 (cs' := [_, _, _, _, _, _, _, _, _]) rfl rfl aj rfl ?_
          refine zz0 (zz3 (off := 1) (ft := 23) rfl ag rfl ah) ?_
          refine zz1 (cs' := [_, _, _, _, _, _, _, _, _]) rfl rfl ah rfl ?_
          refine ae (a9 (aa ?_))
          rw [show fk ((b.take (b.length : Int).toNat).drop (1 : Int).toNat) 0 = fk b 1 from mX (k := 1) (by omega)]
          apply aZ ⟨addr, (addr + u32 sz) + fk b 1, 23, 0, 0, 0, 0, 0, sz⟩
          ·exact rfl
          ·exact Front.nil
          ·exact bQ 31 rfl
          ·exact (by repeat' constructor)
          ·exact (by unfold dK iN; (repeat (first | rw [if_pos (by omega)] | rw [if_neg (by omega)])) <;> rfl)
         ·refine af (ab (zz0 (ac rfl) (zz0 (aN rfl rfl) (zz0 (ad rfl) (ae (aa ?_))))))
          refine ak rfl ?_ ?_ <;> intro h11 <;> try simp only [bs] at h11
          ·refine bI ([cellE b2 (eC.enc bU) 114]) 8 rfl aU ?_
           refine zz2 0 rfl (ac rfl) ?_
           refine zz2 1 rfl (gP rfl rfl aG bN) ?_
           refine zz2 2 rfl (gK rfl cw) ?_
           refine zz2 3 rfl (db rfl bu aO) ?_
           refine zz2 4 rfl (zz3 (off := 2) (ft := 3) rfl ag rfl aj) ?_
           refine zz9 [5] (fun iq hq => ?_)
           obtain rfl := List.mem_singleton.1 hq
           refine aX rfl ?_
           refine zz1 (cs' := [_, _, _, _, _, _, _, _, _]) rfl rfl aj rfl ?_
           refine bB ?_
           refine zz2 6 rfl (zz3 (off := 6) (ft := 3) rfl ag rfl aj) ?_
           refine zz9 [7] (fun iq hq => ?_)
           obtain rfl := List.mem_singleton.1 hq
           refine aX rfl ?_
           refine zz1 (cs' := [_, _, _, _, _, _, _, _, _]) rfl rfl aj rfl ?_
           refine bB ?_
           refine eh ?_
           refine a9 (aa ?_)
           apply aZ ⟨addr, 0, 24, 0, 0, 0, (b.getD 1 default).toNat, 0, sz⟩
           ·exact rfl
           ·exact Front.nil
           ·exact bQ 33 rfl
           ·exact (by repeat' constructor)
           ·exact (by unfold dK iN; (repeat (first | rw [if_pos (by omega)] | rw [if_neg (by omega)])) <;> rfl)
          ·refine af (ab (zz0 (ac rfl) (zz0 (aN rfl rfl) (zz0 (ad rfl) (ae (aa ?_))))))
           refine ak rfl ?_ ?_ <;> intro h12 <;> try simp only [bs] at h12
           ·refine bI ([cellE b2 (eC.enc bU) 114]) 8 rfl aU ?_
            refine zz2 0 rfl (ac rfl) ?_
            refine zz2 1 rfl (gP rfl rfl aG bN) ?_
            refine zz2 2 rfl (gK rfl cw) ?_
            refine zz2 3 rfl (db rfl bu aO) ?_
            refine zz2 4 rfl (zz3 (off := 2) (ft := 3) rfl ag rfl aj) ?_
            refine zz9 [5] (fun iq hq => ?_)
            obtain rfl := List.mem_singleton.1 hq
            refine aX rfl ?_
            refine zz1 (cs' := [_, _, _, _, _, _, _, _, _]) rfl rfl aj rfl ?_
            refine bB ?_
            refine zz2 6 rfl (zz3 (off := 6) (ft := 3) rfl ag rfl aj) ?_
            refine zz9 [7] (fun iq hq => ?_)
            obtain rfl := List.mem_singleton.1 hq
            refine aX rfl ?_
            refine zz1 (cs' := [_, _, _, _, _, _, _, _, _]) rfl rfl aj rfl ?_
            refine bB ?_
            refine eh ?_
            refine a9 (aa ?_)
            apply aZ ⟨addr, 0, 21, 0, 0, 0, (b.getD 1 default).toNat, 0, sz⟩
            ·exact rfl
            ·exact Front.nil
            ·exact bQ 36 rfl
            ·exact (by repeat' constructor)
            ·exact (by unfold dK iN; (repeat (first | rw [if_pos (by omega)] | rw [if_neg (by omega)])) <;> rfl)
           ·refine af (ab (zz0 (ac rfl) (zz0 (aN rfl rfl) (zz0 (ad rfl) (ae (aa ?_))))))
            refine ak rfl ?_ ?_ <;> intro h13 <;> try simp only [bs] at h13
            ·refine bI ([cellE b2 (eC.enc bU) 114]) 13 rfl aU ?_
             refine zz2 0 rfl (ac rfl) ?_
             refine zz2 1 rfl (gP rfl rfl aG bN) ?_
             refine zz2 2 rfl (gK rfl cw) ?_
             refine zz2 3 rfl (db rfl bu aO) ?_
             refine zz2 4 rfl (ac rfl) ?_
             refine zz2 5 rfl (qN (lv := some (_, _)) (hv := none) rfl rfl rfl aG bN) ?_
             refine zz2 7 rfl (zz3 (off := 2) (ft := 3) rfl ag rfl aj) ?_
             refine zz9 [6] (fun iq hq => ?_)
             obtain rfl := List.mem_singleton.1 hq
             refine aX rfl ?_
             refine zz0 (aB rfl mm (fun w hw => kT ((b.take (b.length : Int).toNat).drop (2 : Int).toNat) _ w (hw.slF (Sl.resl hV' (by omega) (by omega))) (by simp; omega))) ?_
             refine bB ?_
             refine zz9 [8] (fun iq hq => ?_)
             obtain rfl := List.mem_singleton.1 hq
             refine aX rfl ?_
             refine zz1 (cs' := [_, _, _, _, _, _, _, _, _]) rfl rfl aj rfl ?_
             refine bB ?_
             refine zz2 9 rfl (zz3 (off := 6) (ft := 3) rfl ag rfl aj) ?_
             refine zz9 [10] (fun iq hq => ?_)
             obtain rfl := List.mem_singleton.1 hq
             refine aX rfl ?_
             refine zz1 (cs' := [_, _, _, _, _, _, _, _, _]) rfl rfl aj rfl ?_
             refine bB ?_
             refine zz2 11 rfl (zz3 (off := 1) (ft := 23) rfl ag rfl ah) ?_
             refine zz9 [12] (fun iq hq => ?_)
             obtain rfl := List.mem_singleton.1 hq
             refine aX rfl ?_
             refine zz1 (cs' := [_, _, _, _, _, _, _, _, _]) rfl rfl ah rfl ?_
             refine bB ?_
             refine eh ?_
             refine a9 (aa ?_)
             rw [show fk ((b.take (b.length : Int).toNat).drop (2 : Int).toNat) 0 = fk b 2 from mX (k := 2) (by omega)]
             apply aZ ⟨addr, fk b 2, 22, 0, 0, 0, (b.getD 1 default).toNat, 0, sz⟩
             ·exact rfl
             ·exact Front.nil
             ·exact bQ 43 rfl
             ·exact (by repeat' constructor)
             ·exact (by unfold dK iN; (repeat (first | rw [if_pos (by omega)] | rw [if_neg (by omega)])) <;> rfl)
            ·refine af (ab (zz0 (ac rfl) (zz0 (dO rfl rfl) (zz0 (ad rfl) (ae (aa ?_))))))
             refine ak rfl ?_ ?_ <;> intro h14 <;> try simp only [bs] at h14
             ·refine bI ([cellE b2 (eC.enc bU) 114]) 12 rfl aU ?_
              refine zz2 0 rfl (ac rfl) ?_
              refine zz2 1 rfl (eE rfl rfl) ?_
              refine zz2 2 rfl (ac rfl) ?_
              refine zz2 3 rfl (gP rfl rfl aG bN) ?_
              refine zz2 4 rfl (gK rfl cw) ?_
              refine zz2 5 rfl (db rfl bu aO) ?_
              refine zz2 6 rfl (zz3 (off := 2) (ft := 3) rfl ag rfl aj) ?_
              refine zz9 [7] (fun iq hq => ?_)
              obtain rfl := List.mem_singleton.1 hq
              refine aX rfl ?_
              refine zz1 (cs' := [_, _, _, _, _, _, _, _, _]) rfl rfl aj rfl ?_
              refine bB ?_
              refine zz2 8 rfl (zz3 (off := 5) (ft := 3) rfl ag rfl aj) ?_
              refine zz9 [9] (fun iq hq => ?_)
              obtain rfl := List.mem_singleton.1 hq
              refine aX rfl ?_
              refine zz1 (cs' := [_, _, _, _, _, _, _, _, _]) rfl rfl aj rfl ?_
              refine bB ?_
              refine zz2 10 rfl (zz3 (off := 6) (ft := 3) rfl ag rfl aj) ?_
              refine zz9 [11] (fun iq hq => ?_)
              obtain rfl := List.mem_singleton.1 hq
              refine aX rfl ?_
              refine zz1 (cs' := [_, _, _, _, _, _, _, _, _]) rfl rfl aj rfl ?_
              refine bB ?_
              refine eh ?_
              refine a9 (aa ?_)
              apply aZ ⟨addr, 0, 25, 0, 0, c - 144, (b.getD 1 default).toNat, 0, sz⟩
              ·exact rfl
              ·exact Front.nil
              ·exact bQ 45 rfl
              ·exact (by repeat' constructor)
              ·exact (by unfold dK iN; (repeat (first | rw [if_pos (by omega)] | rw [if_neg (by omega)])) <;> rfl)
             ·refine af (ab (zz0 (ac rfl) (zz0 (aN rfl rfl) (zz0 (ad rfl) (ae (aa ?_))))))
              refine ak rfl ?_ ?_ <;> intro h15 <;> try simp only [bs] at h15
              ·refine bI ([cellE b2 (eC.enc bU) 114]) 8 rfl aU ?_
               refine zz2 0 rfl (ac rfl) ?_
               refine zz2 1 rfl (gP rfl rfl aG bN) ?_
               refine zz2 2 rfl (gK rfl cw) ?_
               refine zz2 3 rfl (db rfl bu aO) ?_
               refine zz2 4 rfl (zz3 (off := 2) (ft := 3) rfl ag rfl aj) ?_
               refine zz9 [5] (fun iq hq => ?_)
               obtain rfl := List.mem_singleton.1 hq
               refine aX rfl ?_
               refine zz1 (cs' := [_, _, _, _, _, _, _, _, _]) rfl rfl aj rfl ?_
               refine bB ?_
               refine zz2 6 rfl (zz3 (off := 6) (ft := 3) rfl ag rfl aj) ?_
               refine zz9 [7] (fun iq hq => ?_)
               obtain rfl := List.mem_singleton.1 hq
               refine aX rfl ?_
               refine zz1 (cs' := [_, _, _, _, _, _, _, _, _]) rfl rfl aj rfl ?_
               refine bB ?_
               refine eh ?_
               refine a9 (aa ?_)
               apply aZ ⟨addr, 0, 26, 0, 0, 0, (b.getD 1 default).toNat, 0, sz⟩
               ·exact rfl
               ·exact Front.nil
               ·exact bQ 45 rfl
               ·exact (by repeat' constructor)
               ·exact (by unfold dK iN; (repeat (first | rw [if_pos (by omega)] | rw [if_neg (by omega)])) <;> rfl)
              ·refine bI ([cellE b2 (eC.enc bU) 114]) 8 rfl aU ?_
               refine zz2 0 rfl (ac rfl) ?_
               refine zz2 1 rfl (gP rfl rfl aG bN) ?_
               refine zz2 2 rfl (gK rfl cw) ?_
               refine zz2 3 rfl (db rfl bu aO) ?_
               refine zz2 4 rfl (zz3 (off := 2) (ft := 3) rfl ag rfl aj) ?_
               refine zz9 [5] (fun iq hq => ?_)
               obtain rfl := List.mem_singleton.1 hq
               refine aX rfl ?_
               refine zz1 (cs' := [_, _, _, _, _, _, _, _, _]) rfl rfl aj rfl ?_
               refine bB ?_
               refine zz2 6 rfl (zz3 (off := 6) (ft := 3) rfl ag rfl aj) ?_
               refine zz9 [7] (fun iq hq => ?_)
               obtain rfl := List.mem_singleton.1 hq
               refine aX rfl ?_
               refine zz1 (cs' := [_, _, _, _, _, _, _, _, _]) rfl rfl aj rfl ?_
               refine bB ?_
               refine eh ?_
               refine a9 (aa ?_)
               apply aZ ⟨addr, 0, 27, 0, 0, 0, (b.getD 1 default).toNat, 0, sz⟩
               ·exact rfl
               ·exact Front.nil
               ·exact bQ 45 rfl
               ·exact (by repeat' constructor)
               ·exact (by unfold dK iN; (repeat (first | rw [if_pos (by omega)] | rw [if_neg (by omega)])) <;> rfl)
 ·skip
  replace hi : k = dK c b ⟨addr, 0, 0, 0, 0, 0, 0, 0, sz⟩ := hi
  change Tr _ _ [cellE b1 (eC.enc k) 114, cellE b2 (eC.enc bU) 114] ([] ++ _) _
  refine af (ab (zz0 (bK rfl bo aL) ?_))
  refine bw eC rfl rfl aL ?_
  refine ae (aa (ao ?_))
  refine fJ Tryz.results125 rfl (by repeat constructor) bo aL (by rfl) (fun w' hw => ?_)
  exact ⟨by rw [hi]; rfl, hw.below (Bg.le.refl _)⟩
theorem vl (b : List UInt8) (V : Value) (addr : UInt32) (sz : Int) (w : World) (hV : Sl (hp w) dH b V) (hb : (b.length : Int) = ew (b.getD 0 default).toNat) (hz : ew (b.getD 0 default).toNat ≠ 0) :
  Calls Tryz.prog 92 #[V, .agg (eC.enc ⟨addr, 0, 0, 0, 0, 0, 0, 0, sz⟩).toArray] w (fun e w' => e = .returned (.agg (eC.enc (dK (b.getD 0 default).toNat b ⟨addr, 0, 0, 0, 0, 0, 0, 0, sz⟩)).toArray) ∧ Ext w w') := by
 have hV' : Sl (Bg.of w).blk dH b V := hV
 have hlen := hV.len_le
 have hsp := oH (c := ((b.getD 0 default).toNat : Nat))
 have hsz := rx hz
 have hc0 := (b.getD 0 default).toNat_lt
 generalize hcc : (((b.getD 0 default).toNat : Nat) : Int) = c at *
 refine enter Tryz.func92 rfl Tryz.ntmps92 rfl ?_
 refine af (ab ?_)
 refine cM rfl rfl rfl (fun b1 => ?_)
 refine c9 du rfl (fun b2 => ?_)
 refine ae (aa (af (ab (zz0 (ac rfl) (zz0 (gP rfl rfl aG bN) ?_)))))
 refine zz0 (gK rfl cw) ?_
 refine zz0 (db rfl bu aO) ?_
 rw [show Int.toNat 0 = 0 from rfl, hcc]
 refine zz0 (ad rfl) (ae (aa ?_))
 refine eJ (ι := Ins) (fun k => k = dK c b ⟨addr, 0, 0, 0, 0, 0, 0, 0, sz⟩) (fun _ => Bg.of w) (fun k => [cellE b1 (eC.enc k) 114, cellE b2 (eC.enc bU) 114]) (fun k => []) ?_ (fun k hi => ?_)
 ·skip
  refine aQ (af (ab (zz0 (ac rfl) (zz0 (dl rfl rfl) (zz0 (ac rfl) ?_)))))
  apply bF
  ·exact (rfl : _ = (3, 17, 20))
  ·exact rfl
  ·intro hT3; have hT3' := hT3
   try simp only [bs] at hT3'
   refine zz5 hT3 (ac rfl) (zz5 hT3 (dO rfl rfl) (zz0 (aE rfl hT3 rfl) ?_))
   refine ae (aa ?_)
   exact aw (Sub.cons rfl (zz7 3 rfl))
  ·intro hF3
   refine zz6 hF3 (zz6 hF3 (zz0 (aF rfl hF3 rfl) ?_))
   refine ae (aa ?_)
   exact aw (Sub.cons rfl (zz7 3 rfl))
  refine zz0 (ad rfl) (ae (aa ?_))
  refine ak rfl ?_ ?_ <;> intro h4 <;> try simp only [bs] at h4
  ·refine bI ([cellE b2 (eC.enc bU) 114]) 21 rfl aU ?_
   refine zz2 0 rfl (ac rfl) ?_
   refine zz2 1 rfl (dq rfl rfl) ?_
   refine zz2 2 rfl (eE rfl rfl) ?_
   refine zz2 3 rfl (ac rfl) ?_
   refine zz2 4 rfl (gP rfl rfl aG bN) ?_
   refine zz2 5 rfl (gK rfl cw) ?_
   refine eV 6 rfl (by kernel_rfl) (dG (bA bW)) (sW (n := 16) rfl rfl (by first | decide | assumption)) ?_
   refine zz2 7 rfl (db rfl bu aO) ?_
   refine zz2 8 rfl (ac rfl) ?_
   refine zz2 9 rfl (gP rfl rfl aG bN) ?_
   refine zz2 10 rfl (gK rfl cw) ?_
   refine eV 11 rfl (by kernel_rfl) (dG (bA bW)) (pC (n := 16) rfl rfl (by first | decide | assumption)) ?_
   refine zz2 12 rfl (db rfl bu aO) ?_
   refine zz2 13 rfl (zz3 (off := 2) (ft := 3) rfl ag rfl aj) ?_
   refine zz9 [14] (fun iq hq => ?_)
   obtain rfl := List.mem_singleton.1 hq
   refine aX rfl ?_
   refine zz1 (cs' := [_, _, _, _, _, _, _, _, _]) rfl rfl aj rfl ?_
   refine bB ?_
   refine zz2 15 rfl (zz3 (off := 3) (ft := 3) rfl ag rfl aj) ?_
   refine zz9 [16] (fun iq hq => ?_)
   obtain rfl := List.mem_singleton.1 hq
   refine aX rfl ?_
   refine zz1 (cs' := [_, _, _, _, _, _, _, _, _]) rfl rfl aj rfl ?_
   refine bB ?_
   refine zz2 17 rfl (zz3 (off := 6) (ft := 3) rfl ag rfl aj) ?_
   refine zz9 [18] (fun iq hq => ?_)
   obtain rfl := List.mem_singleton.1 hq
   refine aX rfl ?_
   refine zz1 (cs' := [_, _, _, _, _, _, _, _, _]) rfl rfl aj rfl ?_
   refine bB ?_
   refine zz2 19 rfl (zz3 (off := 7) (ft := 3) rfl ag rfl aj) ?_
   refine zz9 [20] (fun iq hq => ?_)
   obtain rfl := List.mem_singleton.1 hq
   refine aX rfl ?_
   refine zz1 (cs' := [_, _, _, _, _, _, _, _, _]) rfl rfl aj rfl ?_
   refine bB ?_
   refine eh ?_
   refine a9 (aa ?_)
   apply aZ ⟨addr, 0, 5 + c - 32, 0, 0, 0, ((b.getD 1 default) / 16).toNat, ((b.getD 1 default) % 16).toNat, sz⟩
   ·exact rfl
   ·exact Front.nil
   ·exact bQ 22 rfl
   ·exact (by repeat' constructor)
   ·exact (by unfold dK iN; (repeat (first | rw [if_pos (by omega)] | rw [if_neg (by omega)])) <;> rfl)
  ·refine af (ab (zz0 (ac rfl) (zz0 (dl rfl rfl) (zz0 (ac rfl) ?_))))
   apply bF
   ·exact (rfl : _ = (3, 41, 44))
   ·exact rfl
   ·intro hT5; have hT5' := hT5
    try simp only [bs] at hT5'
    refine zz5 hT5 (ac rfl) (zz5 hT5 (dO rfl rfl) (zz0 (aE rfl hT5 rfl) ?_))
    refine ae (aa ?_)
    exact aw (Sub.cons rfl (zz7 3 rfl))
   ·intro hF5
    refine zz6 hF5 (zz6 hF5 (zz0 (aF rfl hF5 rfl) ?_))
    refine ae (aa ?_)
    exact aw (Sub.cons rfl (zz7 3 rfl))
   refine zz0 (ad rfl) (ae (aa ?_))
   refine ak rfl ?_ ?_ <;> intro h6 <;> try simp only [bs] at h6
   ·refine bI ([cellE b2 (eC.enc bU) 114]) 19 rfl aU ?_
    refine zz2 0 rfl (ac rfl) ?_
    refine zz2 1 rfl (dq rfl rfl) ?_
    refine zz2 2 rfl (eE rfl rfl) ?_
    refine zz2 3 rfl (ac rfl) ?_
    refine zz2 4 rfl (gP rfl rfl aG bN) ?_
    refine zz2 5 rfl (gK rfl cw) ?_
    refine zz2 6 rfl (db rfl bu aO) ?_
    refine zz2 7 rfl (ac rfl) ?_
    refine zz2 8 rfl (gP rfl rfl aG bN) ?_
    refine zz2 9 rfl (gK rfl cw) ?_
    refine zz2 11 rfl (zz3 (off := 2) (ft := 3) rfl ag rfl aj) ?_
    refine zz9 [10] (fun iq hq => ?_)
    obtain rfl := List.mem_singleton.1 hq
    refine aX rfl ?_
    refine zz0 (aB rfl mn (fun w hw => lZ (b.getD 2 default) w)) ?_
    refine bB ?_
    refine zz9 [12] (fun iq hq => ?_)
    obtain rfl := List.mem_singleton.1 hq
    refine aX rfl ?_
    refine zz1 (cs' := [_, _, _, _, _, _, _, _, _]) rfl rfl aj rfl ?_
    refine bB ?_
    refine zz2 13 rfl (zz3 (off := 3) (ft := 3) rfl ag rfl aj) ?_
    refine zz9 [14] (fun iq hq => ?_)
    obtain rfl := List.mem_singleton.1 hq
    refine aX rfl ?_
    refine zz1 (cs' := [_, _, _, _, _, _, _, _, _]) rfl rfl aj rfl ?_
    refine bB ?_
    refine zz2 15 rfl (zz3 (off := 6) (ft := 3) rfl ag rfl aj) ?_
    refine zz9 [16] (fun iq hq => ?_)
    obtain rfl := List.mem_singleton.1 hq
    refine aX rfl ?_
    refine zz1 (cs' := [_, _, _, _, _, _, _, _, _]) rfl rfl aj rfl ?_
    refine bB ?_
    refine zz2 17 rfl (zz3 (off := 1) (ft := 23) rfl ag rfl ah) ?_
    refine zz9 [18] (fun iq hq => ?_)
    obtain rfl := List.mem_singleton.1 hq
    refine aX rfl ?_
    refine zz1 (cs' := [_, _, _, _, _, _, _, _, _]) rfl rfl ah rfl ?_
    refine bB ?_
    refine eh ?_
    refine a9 (aa ?_)
    apply aZ ⟨addr, gz (b.getD 2 default), 5 + c - 48, 1, 0, 0, (b.getD 1 default).toNat, 0, sz⟩
    ·exact rfl
    ·exact Front.nil
    ·exact bQ 25 rfl
    ·exact (by repeat' constructor)
    ·exact (by unfold dK iN; (repeat (first | rw [if_pos (by omega)] | rw [if_neg (by omega)])) <;> rfl)
   ·refine af (ab (zz0 (ac rfl) (zz0 (dl rfl rfl) (zz0 (ac rfl) ?_))))
    apply bF
    ·exact (rfl : _ = (3, 63, 66))
    ·exact rfl
    ·intro hT7; have hT7' := hT7
     try simp only [bs] at hT7'
     refine zz5 hT7 (ac rfl) (zz5 hT7 (dO rfl rfl) (zz0 (aE rfl hT7 rfl) ?_))
     refine ae (aa ?_)
     exact aw (Sub.cons rfl (zz7 3 rfl))
    ·intro hF7
     refine zz6 hF7 (zz6 hF7 (zz0 (aF rfl hF7 rfl) ?_))
     refine ae (aa ?_)
     exact aw (Sub.cons rfl (zz7 3 rfl))
    refine zz0 (ad rfl) (ae (aa ?_))
    refine ak rfl ?_ ?_ <;> intro h8 <;> try simp only [bs] at h8
    ·refine bI ([cellE b2 (eC.enc bU) 114]) 18 rfl aU ?_
     refine zz2 0 rfl (ac rfl) ?_
     refine zz2 1 rfl (dq rfl rfl) ?_
     refine zz2 2 rfl (eE rfl rfl) ?_
     refine zz2 3 rfl (ac rfl) ?_
     refine zz2 4 rfl (gP rfl rfl aG bN) ?_
     refine zz2 5 rfl (gK rfl cw) ?_
     refine zz2 6 rfl (db rfl bu aO) ?_
     refine zz2 7 rfl (ac rfl) ?_
     refine zz2 8 rfl (qN (lv := some (_, _)) (hv := none) rfl rfl rfl aG bN) ?_
     refine zz2 10 rfl (zz3 (off := 2) (ft := 3) rfl ag rfl aj) ?_
     refine zz9 [9] (fun iq hq => ?_)
     obtain rfl := List.mem_singleton.1 hq
     refine aX rfl ?_
     refine zz0 (aB rfl mm (fun w hw => kT ((b.take (b.length : Int).toNat).drop (2 : Int).toNat) _ w (hw.slF (Sl.resl hV' (by omega) (by omega))) (by simp; omega))) ?_
     refine bB ?_
     refine zz9 [11] (fun iq hq => ?_)
     obtain rfl := List.mem_singleton.1 hq
     refine aX rfl ?_
     refine zz1 (cs' := [_, _, _, _, _, _, _, _, _]) rfl rfl aj rfl ?_
     refine bB ?_
     refine zz2 12 rfl (zz3 (off := 3) (ft := 3) rfl ag rfl aj) ?_
     refine zz9 [13] (fun iq hq => ?_)
     obtain rfl := List.mem_singleton.1 hq
     refine aX rfl ?_
     refine zz1 (cs' := [_, _, _, _, _, _, _, _, _]) rfl rfl aj rfl ?_
     refine bB ?_
     refine zz2 14 rfl (zz3 (off := 6) (ft := 3) rfl ag rfl aj) ?_
     refine zz9 [15] (fun iq hq => ?_)
     obtain rfl := List.mem_singleton.1 hq
     refine aX rfl ?_
     refine zz1 (cs' := [_, _, _, _, _, _, _, _, _]) rfl rfl aj rfl ?_
     refine bB ?_
     refine zz2 16 rfl (zz3 (off := 1) (ft := 23) rfl ag rfl ah) ?_
     refine zz9 [17] (fun iq hq => ?_)
     obtain rfl := List.mem_singleton.1 hq
     refine aX rfl ?_
     refine zz1 (cs' := [_, _, _, _, _, _, _, _, _]) rfl rfl ah rfl ?_
     refine bB ?_
     refine eh ?_
     refine a9 (aa ?_)
     rw [show fk ((b.take (b.length : Int).toNat).drop (2 : Int).toNat) 0 = fk b 2 from mX (k := 2) (by omega)]
     apply aZ ⟨addr, fk b 2, 5 + c - 64, 2, 0, 0, (b.getD 1 default).toNat, 0, sz⟩
     ·exact rfl
     ·exact Front.nil
     ·exact bQ 29 rfl
     ·exact (by repeat' constructor)
     ·exact (by unfold dK iN; (repeat (first | rw [if_pos (by omega)] | rw [if_neg (by omega)])) <;> rfl)
    ·refine af (ab (zz0 (ac rfl) (zz0 (ac rfl) (zz0 (bK rfl bo aL) ?_))))
     refine zz0 (aB rfl Tryz.call125 (fun w hw => sA c b V addr sz w (hw.slF hV) hb (by omega) hz (by omega))) ?_
     refine bw eC rfl rfl aL ?_
     refine ae (aa (ao (bf (an ?_))))
     refine fJ Tryz.results92 rfl (by repeat constructor) bo aL (by rfl) (fun w' hw => ?_)
     exact ⟨rfl, hw.below (Bg.le.refl _)⟩
 ·skip
  replace hi : k = dK c b ⟨addr, 0, 0, 0, 0, 0, 0, 0, sz⟩ := hi
  change Tr _ _ [cellE b1 (eC.enc k) 114, cellE b2 (eC.enc bU) 114] ([] ++ _) _
  refine af (ab (zz0 (bK rfl bo aL) ?_))
  refine bw eC rfl rfl aL ?_
  refine ae (aa (ao ?_))
  refine fJ Tryz.results92 rfl (by repeat constructor) bo aL (by rfl) (fun w' hw => ?_)
  exact ⟨by rw [hi]; rfl, hw.below (Bg.le.refl _)⟩
theorem qS (b : List UInt8) (V : Value) (addr : UInt32) (w : World) (hV : Sl (hp w) dH b V) :
  Calls Tryz.prog 63 #[V, .int .u32 addr.toNat] w (fun e w' => e = .returned (.tuple #[.agg (eC.enc (j4 b addr).1).toArray, .int .i64 (j4 b addr).2]) ∧ Ext w w') := by
 have hV' : Sl (Bg.of w).blk dH b V := hV
 have hlen := hV.len_le
 have hpos := qP (((b.getD 0 default).toNat : Nat) : Int)
 refine enter Tryz.func63 rfl Tryz.ntmps63 rfl ?_
 refine af (ab ?_)
 refine c9 du rfl (fun b1 => ?_)
 refine zz0 (ad rfl) (ae (aa (af (af (ab (zz0 (ac rfl) (zz0 (gI rfl aG) ?_)))))))
 refine zz0 (aN rfl rfl) (ae (aa ?_))
 refine ak rfl ?_ ?_ <;> intro h2 <;> try simp only [bs] at h2
 ·refine af (ab (zz0 (bE (vs := []) rfl rfl (gr)) ?_))
  refine bw eC rfl rfl aL ?_
  refine zz0 (ad rfl) (ae (aa (ao (an ?_))))
  refine ei ji rfl rfl bo aL (fun w' hw => ?_)
  exact ⟨by unfold j4; rw [if_pos (by omega)]; rfl, hw.below (Bg.le.refl _)⟩
 ·refine ax (aa (af (ab (zz0 (ac rfl) (zz0 (gP rfl rfl aG bN) ?_)))))
  refine zz0 (gK rfl cw) ?_
  refine zz0 (db rfl bu aO) (zz0 (aB rfl Tryz.call91 (fun w hw => wX (b.getD 0 default).toNat w)) ?_)
  generalize hq : ew (b.getD 0 default).toNat = n at *
  refine zz0 (ad rfl) (ae (aa (af (af (ab (zz0 (ac rfl) (zz0 (aN rfl rfl) (ae (aa ?_)))))))))
  refine ak rfl ?_ ?_ <;> intro h3 <;> try simp only [bs] at h3
  ·refine af (ab (zz0 (bE (vs := []) rfl rfl (gr)) ?_))
   refine bw eC rfl rfl aL ?_
   refine zz0 (ad rfl) (ae (aa (ao (an ?_))))
   refine ei ji rfl rfl bo aL (fun w' hw => ?_)
   exact ⟨by unfold j4; rw [if_neg (by omega), if_pos (by rw [hq]; assumption)]; rfl, hw.below (Bg.le.refl _)⟩
  ·refine ax (aa (af (af (ab (zz0 (ac rfl) (zz0 (gI rfl aG) ?_))))))
   refine zz0 (ac rfl) (zz0 (cE rfl rfl) (ae (aa ?_)))
   refine ak rfl ?_ ?_ <;> intro h4 <;> try simp only [bs] at h4
   ·refine af (ab (zz0 (bE (vs := []) rfl rfl (gr)) ?_))
    refine bw eC rfl rfl aL ?_
    refine zz0 (ad rfl) (ae (aa (ao (an ?_))))
    refine ei ji rfl rfl bo aL (fun w' hw => ?_)
    exact ⟨by unfold j4; rw [if_neg (by omega), if_neg (by rw [hq]; assumption), if_pos (by rw [hq]; assumption)]; rfl, hw.below (Bg.le.refl _)⟩
   ·refine ax (aa (af (ab (zz0 (ac rfl) (zz0 (ac rfl) (zz0 (qN (lv := none) (hv := some (_, _)) rfl rfl rfl aG bN) ?_))))))
    refine zz0 (ac rfl) (zz0 (ac rfl) (zz0 (bE (vs := [(0, _), (8, _)]) rfl rfl (oD _ _)) ?_))
    refine zz0 (aB rfl Tryz.call92 (fun w hw => vl ((b.take n.toNat).drop 0) _ addr n w (hw.slF (Sl.resl hV' (by omega) (by omega))) (by rw [List.drop_zero]; exact wQ (by omega) (by omega) (lA (by omega)) hq) (by rw [List.drop_zero, lA (by omega), hq]; assumption))) ?_
    refine c9 du rfl (fun b5 => ?_)
    refine bw eC rfl rfl aL ?_
    refine ae (aa (af (af (ab (zz0 (zz3 (off := 6) (ft := 3) rfl ag rfl aj) ?_)))))
    refine zz0 (aM rfl aD) ?_
    refine zz0 (aB rfl Tryz.call93 (fun w hw => rI _ w)) ?_
    refine zz0 (cj rfl) (zz0 (ac rfl) ?_)
    apply cZ
    ·exact (rfl : _ = (5, 36, 41))
    ·exact rfl
    ·intro hF6; have hF6' := hF6
     try simp only [bs] at hF6'
     refine zz5 hF6 (zz3 (off := 7) (ft := 3) rfl ag rfl aj) ?_
     refine zz5 hF6 (aM rfl aD) ?_
     refine zz5 hF6 (aB rfl Tryz.call93 (fun w hw => rI _ w)) ?_
     refine zz5 hF6 (cj rfl) (zz0 (aF rfl hF6 rfl) ?_)
     refine ae (aa ?_)
     exact aw (Sub.cons rfl (zz7 5 rfl))
    ·intro hT6
     refine zz6 hT6 (zz6 hT6 (zz6 hT6 (zz6 hT6 (zz0 (aE rfl hT6 rfl) ?_))))
     refine ae (aa ?_)
     exact aw (Sub.cons rfl (zz7 5 rfl))
    refine ae (aa ?_)
    refine ak rfl ?_ ?_ <;> intro h7 <;> try simp only [bs] at h7
    ·refine af (ab (zz0 (bE (vs := []) rfl rfl (gr)) ?_))
     refine bw eC rfl rfl aL ?_
     refine zz0 (ad rfl) (ae (aa (ao (an ?_))))
     refine ei ji rfl rfl bo aL (fun w' hw => ?_)
     exact ⟨by unfold j4; rw [if_neg (by omega), if_neg (by rw [hq]; assumption), if_neg (by rw [hq]; assumption), hq]; simp only [List.drop_zero, lA (show 0 < n.toNat by omega)] at *; (first | rw [if_pos (by assumption)] | rw [if_neg (by grind)]); rfl, hw.below (Bg.le.refl _)⟩
    ·refine ax (aa (af (ab (zz0 (bK rfl bo aL) ?_))))
     refine bw eC rfl rfl aL ?_
     refine zz0 (ad rfl) (ae (aa (ao ?_)))
     refine ei ji rfl rfl bo aL (fun w' hw => ?_)
     exact ⟨by unfold j4; rw [if_neg (by omega), if_neg (by rw [hq]; assumption), if_neg (by rw [hq]; assumption), hq]; simp only [List.drop_zero, lA (show 0 < n.toNat by omega)] at *; (first | rw [if_pos (by assumption)] | rw [if_neg (by grind)]); rfl, hw.below (Bg.le.refl _)⟩
end Go.Proofs.YtpeaodkfbjenpaaGreat
namespace Go.Proofs.YtpeaodkfbjenpaaGreat
open Go Go.HL Go.RowKit
theorem l6 (s : SecV) (w : World) (hs : s.data.length ≤ 200000) :
  Calls Tryz.prog 41 #[.agg (cf.enc s).toArray] w (fun e w' => e = .returned (.int .i64 (jW s)) ∧ Ext w w') := by
 have hadr := s.addr.toNat_lt
 refine enter Tryz.func41 rfl Tryz.ntmps41 rfl ?_
 refine af (ab ?_)
 refine cM rfl rfl rfl (fun b1 => ?_)
 refine zz0 (ad rfl) (ae (aa (af (ab (zz0 (zz3 (off := 1) (ft := 23) rfl bC rfl ah) ?_)))))
 refine zz0 (aM rfl az) ?_
 refine zz0 (gm rfl aT aO) (zz0 (zz3 (off := 2) (ft := 62) rfl bC rfl de) ?_)
 refine zz0 (aM rfl dM) ?_
 refine zz0 (fR rfl aG) ?_
 refine zz0 (dq rfl rfl) ?_
 refine zz0 (ad rfl) (ae (aa (af (af (ab (zz0 (ac rfl) (zz0 (fG rfl rfl) (ae (aa ?_)))))))))
 refine ak rfl ?_ ?_ <;> intro h2 <;> try simp only [bs] at h2
 ·refine af (ab (zz0 (ad rfl) (ae (aa (ao (an ?_))))))
  refine aI Tryz.results41 rfl (fun w' hw => ?_)
  exact ⟨by unfold jW; rw [Int.min_eq_right (by omega)], hw.below (Bg.le.refl _)⟩
 ·refine ax (aa (af (ab (zz0 (ac rfl) (zz0 (ad rfl) (ae (aa (ao ?_))))))))
  refine aI Tryz.results41 rfl (fun w' hw => ?_)
  exact ⟨by unfold jW; rw [Int.min_eq_left (by omega)], hw.below (Bg.le.refl _)⟩
theorem tA (s : ByteArray) (w : World) (hs : s.size ≤ 9223372036854775807) :
  Calls Tryz.prog 65 #[.string s] w (fun e w' => e = .returned (.bool (qk s)) ∧ Ext w w') := by
 have hbl := nQ s
 refine enter Tryz.func65 rfl Tryz.ntmps65 rfl ?_
 refine af (ab (zz0 (ad rfl) (ae (aa (af (af (ab (zz0 (ad rfl) (ae (aa (aQ ?_)))))))))))
 refine cp (ι := Nat) (fun k => k ≤ s.size ∧ ((bts s).take k).any m9 = false) (fun _ => _) (fun k => []) (fun k => [(3, .int .i64 (k : Nat))]) (fun k => s.size - k) 0 ⟨Nat.zero_le _, rfl⟩ (.cons (by first | rfl | exact am rfl (by omega) | exact am rfl (by simp) | exact aS rfl (by simp)) Front.nil) (by repeat' constructor) rfl (fun k hi m hm => ?_)
 replace hi : k ≤ s.size ∧ ((bts s).take k).any m9 = false := hi
 replace hm : m = s.size - k := hm
 change Tr _ _ [] ([(3, .int .i64 (k : Nat))] ++ _) _
 obtain ⟨hk1, hk2⟩ := hi
 refine af (af (ab (zz0 (ac rfl) (zz0 (ac rfl) (zz0 (lQ rfl eS) ?_)))))
 refine zz0 (cE rfl rfl) (ae (aa ?_))
 refine ak rfl ?_ ?_ <;> intro h1 <;> try simp only [bs] at h1
 ·refine ax (aa (af (aQ (af (ab (zz0 (ac rfl) (zz0 (ac rfl) (zz0 (oy rfl rfl eS (by omega)) ?_))))))))
  refine zz0 (ad rfl) (ae (aa (af (ab (zz0 (ac rfl) (zz0 (pF (n := 97) rfl rfl) ?_))))))
  refine zz0 (ac rfl) ?_
  apply bF
  ·exact (rfl : _ = (3, 17, 20))
  ·exact rfl
  ·intro hT2; have hT2' := hT2
   try simp only [bs] at hT2'
   refine zz5 hT2 (ac rfl) (zz5 hT2 (sX (n := 122) rfl rfl) ?_)
   refine zz0 (aE rfl hT2 rfl) ?_
   refine ae (aa ?_)
   exact aw (Sub.cons rfl (zz7 3 rfl))
  ·intro hF2
   refine zz6 hF2 (zz6 hF2 (zz0 (aF rfl hF2 rfl) ?_))
   refine ae (aa ?_)
   exact aw (Sub.cons rfl (zz7 3 rfl))
  refine zz0 (ac rfl) ?_
  apply cZ
  ·exact (rfl : _ = (7, 21, 28))
  ·exact rfl
  ·intro hF3; have hF3' := hF3
   try simp only [bs] at hF3'
   refine zz5 hF3 (ac rfl) (zz5 hF3 (pF (n := 65) rfl rfl) ?_)
   refine zz5 hF3 (ac rfl) ?_
   apply bF
   ·exact (rfl : _ = (3, 24, 27))
   ·exact rfl
   ·intro hT4; have hT4' := hT4
    try simp only [bs] at hT4'
    refine zz5 hT4 (ac rfl) (zz5 hT4 (sX (n := 90) rfl rfl) ?_)
    refine zz5 hF3 (aE rfl hT4 rfl) ?_
    refine ae (aa ?_)
    exact aw (Sub.cons rfl (zz7 3 rfl))
   ·intro hF4
    refine zz6 hF4 (zz6 hF4 (zz5 hF3 (aF rfl hF4 rfl) ?_))
    refine ae (aa ?_)
    exact aw (Sub.cons rfl (zz7 3 rfl))
   refine zz0 (aF rfl hF3 rfl) ?_
   refine ae (aa ?_)
   exact aw (Sub.cons rfl (zz7 5 rfl))
  ·intro hT3
   refine zz6 hT3 (zz6 hT3 (zz6 hT3 (dC rfl rfl rfl ?_)))
   refine dC rfl rfl rfl ?_
   refine zz6 hT3 (zz0 (aE rfl hT3 rfl) ?_)
   refine ae (aa ?_)
   exact aw (Sub.cons rfl (zz7 7 rfl))
  refine zz0 (ad rfl) (ae (aa (af (ab (zz0 (ac rfl) (zz0 (cj rfl) (zz0 (ac rfl) ?_)))))))
  apply bF
  ·exact (rfl : _ = (7, 31, 38))
  ·exact rfl
  ·intro hT5; have hT5' := hT5
   try simp only [bs] at hT5'
   refine zz5 hT5 (ac rfl) (zz5 hT5 (mw (n := 48) rfl rfl) ?_)
   refine zz5 hT5 (ac rfl) ?_
   apply cZ
   ·exact (rfl : _ = (3, 34, 37))
   ·exact rfl
   ·intro hF6; have hF6' := hF6
    try simp only [bs] at hF6'
    refine zz5 hF6 (ac rfl) (zz5 hF6 (pE (n := 57) rfl rfl) ?_)
    refine zz5 hT5 (aF rfl hF6 rfl) ?_
    refine ae (aa ?_)
    exact aw (Sub.cons rfl (zz7 3 rfl))
   ·intro hT6
    refine zz6 hT6 (zz6 hT6 (zz5 hT5 (aE rfl hT6 rfl) ?_))
    refine ae (aa ?_)
    exact aw (Sub.cons rfl (zz7 3 rfl))
   refine zz0 (aE rfl hT5 rfl) ?_
   refine ae (aa ?_)
   exact aw (Sub.cons rfl (zz7 5 rfl))
  ·intro hF5
   refine zz6 hF5 (zz6 hF5 (zz6 hF5 (dC rfl rfl rfl ?_)))
   refine dC rfl rfl rfl ?_
   refine zz6 hF5 (zz0 (aF rfl hF5 rfl) ?_)
   refine ae (aa ?_)
   exact aw (Sub.cons rfl (zz7 7 rfl))
  refine zz0 (ac rfl) ?_
  apply bF
  ·exact (rfl : _ = (3, 39, 42))
  ·exact rfl
  ·intro hT7; have hT7' := hT7
   try simp only [bs] at hT7'
   refine zz5 hT7 (ac rfl) (zz5 hT7 (mt (n := 95) rfl rfl) ?_)
   refine zz0 (aE rfl hT7 rfl) ?_
   refine ae (aa ?_)
   exact aw (Sub.cons rfl (zz7 3 rfl))
  ·intro hF7
   refine zz6 hF7 (zz6 hF7 (zz0 (aF rfl hF7 rfl) ?_))
   refine ae (aa ?_)
   exact aw (Sub.cons rfl (zz7 3 rfl))
  refine zz0 (ac rfl) ?_
  apply bF
  ·exact (rfl : _ = (3, 43, 46))
  ·exact rfl
  ·intro hT8; have hT8' := hT8
   try simp only [bs] at hT8'
   refine zz5 hT8 (ac rfl) (zz5 hT8 (mt (n := 46) rfl rfl) ?_)
   refine zz0 (aE rfl hT8 rfl) ?_
   refine ae (aa ?_)
   exact aw (Sub.cons rfl (zz7 3 rfl))
  ·intro hF8
   refine zz6 hF8 (zz6 hF8 (zz0 (aF rfl hF8 rfl) ?_))
   refine ae (aa ?_)
   exact aw (Sub.cons rfl (zz7 3 rfl))
  refine ae (aa ?_)
  refine ak rfl ?_ ?_ <;> intro h9 <;> try simp only [bs] at h9
  ·refine af (ab (zz0 (ad rfl) (ae (aa (ao (bf (an (an (bf (an ?_))))))))))
   refine aI Tryz.results65 rfl (fun w' hw => ?_)
   have hbad : m9 ((bts s).getD k default) = true := by rw [yC]; simp only [bs]; assumption
   exact ⟨by rw [rD (by omega) hbad], hw.below (Bg.le.refl _)⟩
  ·refine ax (a9 (aa (ab (zz0 (ac rfl) (zz0 (dq rfl rfl) ?_)))))
   refine zz0 (ad rfl) (ae (aa ?_))
   have hbad : m9 ((bts s).getD k default) = false := by rw [yC]; simp only [bs]; assumption
   apply bP (k + 1)
   ·exact rfl
   ·exact (.cons (by first | rfl | exact am rfl (by omega) | exact am rfl (by simp) | exact aS rfl (by simp)) Front.nil)
   ·exact bQ 27 rfl
   ·exact (by repeat' constructor)
   ·exact ⟨by omega, by rw [any_take_succ (by omega), hk2, hbad]; rfl⟩
   ·exact (by (try dsimp only); omega)
 ·refine cm (aV (aV (bT (aa (af (ab (zz0 (ac rfl) (zz0 (lQ rfl eS) ?_))))))))
  refine zz0 (fG rfl rfl) (zz0 (ac rfl) ?_)
  apply bF
  ·exact (rfl : _ = (4, 50, 54))
  ·exact rfl
  ·intro hT10; have hT10' := hT10
   try simp only [bs] at hT10'
   refine zz5 hT10 (ac rfl) (zz5 hT10 (lQ rfl eS) ?_)
   refine zz5 hT10 (dO rfl rfl) (zz0 (aE rfl hT10 rfl) ?_)
   refine ae (aa ?_)
   exact aw (Sub.cons rfl (zz7 4 rfl))
  ·intro hF10
   refine zz6 hF10 (zz6 hF10 (zz6 hF10 (zz0 (aF rfl hF10 rfl) ?_)))
   refine ae (aa ?_)
   exact aw (Sub.cons rfl (zz7 4 rfl))
  refine zz0 (ad rfl) (ae (aa (ao ?_)))
  refine aI Tryz.results65 rfl (fun w' hw => ?_)
  exact ⟨by rw [rC (by omega) hk2]; congr 2, hw.below (Bg.le.refl _)⟩
theorem tC (l : List SecV) (V : Value) (a : UInt32) (w : World) (hV : Sl (hp w) cf l V) (hB : SecB l) :
  Calls Tryz.prog 75 #[V, .int .u32 a.toNat] w (fun e w' => e = .returned (.int .i64 (cV l a)) ∧ Ext w w') := by
 have hV' : Sl (Bg.of w).blk cf l V := hV
 have hlen := hB.1
 refine enter Tryz.func75 rfl Tryz.ntmps75 rfl ?_
 refine af (ab (zz0 (ad rfl) (ae (aa (af (af (ab (zz0 (ad rfl) (ae (aa (aQ ?_)))))))))))
 refine cp (ι := Nat) (fun k => k ≤ l.length ∧ eP (inS a) k (l.drop k) = eP (inS a) 0 l) (fun _ => _) (fun k => []) (fun k => [(5, .int .i64 (k : Nat))]) (fun k => l.length - k) 0 ⟨Nat.zero_le _, rfl⟩ (.cons (by first | rfl | exact am rfl (by omega) | exact am rfl (by simp) | exact aS rfl (by simp)) Front.nil) (by repeat' constructor) rfl (fun k hi m hm => ?_)
 replace hi : k ≤ l.length ∧ eP (inS a) k (l.drop k) = eP (inS a) 0 l := hi
 replace hm : m = l.length - k := hm
 change Tr _ _ [] ([(5, .int .i64 (k : Nat))] ++ _) _
 obtain ⟨hk1, hk2⟩ := hi
 refine af (af (ab (zz0 (ac rfl) (zz0 (ac rfl) (zz0 (gI rfl bh) ?_)))))
 refine zz0 (cE rfl rfl) (ae (aa ?_))
 refine ak rfl ?_ ?_ <;> intro h1 <;> try simp only [bs] at h1
 ·refine ax (aa (af (aQ (af (ab (zz0 (ac rfl) (zz0 (ac rfl) (zz0 (i9 rfl rfl bh bL) ?_))))))))
  refine zz0 (zz3 (off := 1) (ft := 23) rfl bC rfl ah) ?_
  refine zz0 (ly rfl az) ?_
  refine zz0 (ac rfl) (zz0 (uL rfl rfl) ?_)
  refine zz0 (ac rfl) ?_
  apply bF
  ·exact (rfl : _ = (9, 19, 28))
  ·exact rfl
  ·intro hT2; have hT2' := hT2
   try simp only [bs] at hT2'
   refine zz5 hT2 (ac rfl) (zz5 hT2 (gm rfl aT aO) (zz5 hT2 (ac rfl) (zz5 hT2 (ac rfl) (zz5 hT2 (i9 rfl rfl bh bL) ?_))))
   refine zz5 hT2 (lx rfl (by assumption) eK bL (by rfl) (by omega)) ?_
   refine zz5 hT2 (aB rfl m1 (fun w hw => l6 (l.getD k default) w (hB.at (by omega)))) ?_
   refine zz5 hT2 (cE rfl rfl) (zz0 (aE rfl hT2 rfl) ?_)
   refine ae (aa ?_)
   exact aw (Sub.cons rfl (zz7 9 rfl))
  ·intro hF2
   refine zz6 hF2 (zz6 hF2 (zz6 hF2 (zz6 hF2 (zz6 hF2 (zz6 hF2 (zz6 hF2 (zz6 hF2 (zz0 (aF rfl hF2 rfl) ?_))))))))
   refine ae (aa ?_)
   exact aw (Sub.cons rfl (zz7 9 rfl))
  refine ae (aa ?_)
  refine ak rfl ?_ ?_ <;> intro h3 <;> try simp only [bs] at h3
  ·refine af (ab (zz0 (ac rfl) (zz0 (ad rfl) (ae (aa (ao (bf (an (an (bf (an ?_)))))))))))
   refine aI Tryz.results75 rfl (fun w' hw => ?_)
   exact ⟨by unfold cV; rw [← hk2, drop_cons (k := k) (by omega), eP, if_pos (by rw [jG]; simp only [UInt32.le_iff_toNat_le] at *; omega)], hw.below (Bg.le.refl _)⟩
  ·refine ax (a9 (aa (ab (zz0 (ac rfl) (zz0 (dq rfl rfl) ?_)))))
   refine zz0 (ad rfl) (ae (aa ?_))
   apply bP (k + 1)
   ·exact rfl
   ·exact (.cons (by first | rfl | exact am rfl (by omega) | exact am rfl (by simp) | exact aS rfl (by simp)) Front.nil)
   ·exact bQ 17 rfl
   ·exact (by repeat' constructor)
   ·exact ⟨by omega, by rw [← hk2, drop_cons (k := k) (by omega), eP, if_neg (by rw [jG]; simp only [UInt32.le_iff_toNat_le] at *; omega)]⟩
   ·exact (by (try dsimp only); omega)
 ·refine cm (aV (aV (bT (aa (af (ab (zz0 (ad rfl) (ae (aa (ao ?_))))))))))
  refine aI Tryz.results75 rfl (fun w' hw => ?_)
  exact ⟨by unfold cV; rw [← hk2, List.drop_of_length_le (by omega)]; rfl, hw.below (Bg.le.refl _)⟩
theorem tD (s : SecV) (w : World) (hs : s.data.length ≤ 200000) (hd : Sl (hp w) dH s.data (.slice s.dp s.data.length s.dc)) :
  Calls Tryz.prog 42 #[.agg (cf.enc s).toArray] w (fun e w' => ∃ i : SecV, e = .returned (.agg (cf.enc i).toArray) ∧ Ext w w' ∧ NewEnts w w' [vu 5 i] ∧ i.pl = s.pl) := by
 have hd' : Sl (Bg.of w).blk dH s.data (.slice s.dp s.data.length s.dc) := hd
 refine enter Tryz.func42 rfl Tryz.ntmps42 rfl ?_
 refine af (ab ?_)
 refine cM rfl rfl rfl (fun b1 => ?_)
 refine c9 fl rfl (fun b2 => ?_)
 refine ae (aa (af (ab (zz0 (ad rfl) (ae (aa (af (ab (zz0 (ac rfl) (zz0 (zz3 (off := 2) (ft := 62) rfl bC rfl de) ?_))))))))))
 refine zz0 (aM rfl dM) ?_
 refine gd _ _ (gJ rfl rfl (by repeat constructor) (fun w hw => hw.slF (by assumption)) aG lR (by rfl) (by rfl) (by (try simp only [List.length_cons, List.length_nil, List.length_append, List.length_take]); omega) (by unfold maxLen; (try simp only [List.length_cons, List.length_nil, List.length_append, List.length_take]); omega) rfl (fun V3 => ?_))
 rw [List.nil_append]
 refine k7 (.head _) (fun pa pc hpv => ?_)
 subst hpv
 refine zz0 (ad rfl) (ae (aa (af (ab (zz0 (ac rfl) (zz0 (zz3 (off := 2) (ft := 62) rfl bC rfl de) ?_))))))
 refine zz1 (cs' := [_, _, _, _, _]) rfl rfl de rfl ?_
 refine ae (aa (af (ab (zz0 (bK rfl eK bL) ?_))))
 refine bw cf rfl rfl bL ?_
 refine ae (aa (ao ?_))
 refine fJ Tryz.results42 rfl (by repeat constructor) eK bL (by rfl) (fun w' hw => ?_)
 exact ⟨{ s with dp := pa, dc := pc }, rfl, hw.below (Bg.le.refl _), hw.ents (Bg.le.refl _) (by repeat' constructor), rfl⟩
theorem qT (l : List SecV) (V : Value) (w : World) (hV : Sl (hp w) cf l V) (hB : SecB l) (hD : DataIn (hp w) l) :
  Calls Tryz.prog 24 #[V] w (fun e w' => ∃ i : Value × List SecV, e = .returned i.1 ∧ Ext w w' ∧ NewEnts w w' (kR 64 5 i.1 i.2) ∧ i.2.map SecV.pl = l.map SecV.pl) := by
 have hV' : Sl (Bg.of w).blk cf l V := hV
 have hlen := hB.1
 refine enter Tryz.func24 rfl Tryz.ntmps24 rfl ?_
 refine af (ab (zz0 (ad rfl) (ae (aa (af (ab (zz0 (ad rfl) (ae (aa (af (af (ab (zz0 (ad rfl) ?_)))))))))))))
 refine ae (aa (aQ (gd 64 cf ?_)))
 refine cp (ι := Nat × Value × List SecV) (fun ⟨k, V', xs⟩ => k ≤ l.length ∧ xs.length = k ∧ xs.map SecV.pl = (l.take k).map SecV.pl) (fun _ => _) (fun ⟨k, V', xs⟩ => (rowE V' 64 cf xs :: xs.reverse.map (vu 5))) (fun ⟨k, V', xs⟩ => [(4, .int .i64 (k : Nat)), (3, V')]) (fun ⟨k, V', xs⟩ => l.length - k) (0, _, []) ⟨Nat.zero_le _, rfl, rfl⟩ (.cons (by first | rfl | exact am rfl (by omega) | exact am rfl (by simp) | exact aS rfl (by simp)) (.cons (by first | rfl | exact am rfl (by omega) | exact am rfl (by simp) | exact aS rfl (by simp)) Front.nil)) (by repeat' constructor) rfl (fun i hi m hm => ?_)
 obtain ⟨k, V', xs⟩ := i
 replace hi : k ≤ l.length ∧ xs.length = k ∧ xs.map SecV.pl = (l.take k).map SecV.pl := hi
 replace hm : m = l.length - k := hm
 change Tr _ _ (rowE V' 64 cf xs :: xs.reverse.map (vu 5)) ([(4, .int .i64 (k : Nat)), (3, V')] ++ _) _
 obtain ⟨hk1, hk2, hk3⟩ := hi
 refine af (af (ab (zz0 (ac rfl) (zz0 (ac rfl) (zz0 (gI rfl bh) ?_)))))
 refine zz0 (cE rfl rfl) (ae (aa ?_))
 refine ak rfl ?_ ?_ <;> intro h1 <;> try simp only [bs] at h1
 ·refine ax (aa (af (aQ (ab (zz0 (ac rfl) (zz0 (ac rfl) (zz0 (ac rfl) (zz0 (i9 rfl rfl bh bL) ?_))))))))
  refine zz0 (lx rfl (by assumption) eK bL (by rfl) (by omega)) ?_
  refine e7 (fun s' : SecV => .agg (cf.enc s').toArray) (fun s' => [vu 5 s']) (ok := fun s' => s'.pl = (l.getD k default).pl) rfl Tryz.call42 (fun w hw => tD (l.getD k default) w (hB.at (by omega)) ((hD.mono hw.bg) _ (fU (by omega)))) rfl (fun s' hs' => ?_)
  rw [List.singleton_append]
  refine fB (E := cf) s' rfl rfl bh bL fl (by rfl) (by rfl) rfl (fun V2 => ?_)
  refine zz8 rfl rfl bh vR (fun V3 => ?_)
  refine zz0 (ad rfl) (ae (a9 (aa (ab (zz0 (ac rfl) (zz0 (dq rfl rfl) ?_))))))
  refine zz0 (ad rfl) (ae (aa ?_))
  apply bP (k + 1, _, xs ++ [s'])
  ·exact rfl
  ·exact (.cons (by first | rfl | exact am rfl (by omega) | exact am rfl (by simp) | exact aS rfl (by simp)) (.cons (by first | rfl | exact am rfl (by omega) | exact am rfl (by simp) | exact aS rfl (by simp)) Front.nil))
  ·exact bQ 18 rfl
  ·exact (by show Pick _ (rowE _ _ _ _ :: (xs ++ [s']).reverse.map (vu 5)); rw [List.reverse_append]; exact Pick.refl _)
  ·exact ⟨by omega, by simp [hk2], by rw [List.map_append, hk3, hZ (by omega), List.map_append, List.map_cons, hs']; rfl⟩
  ·exact (by (try dsimp only); omega)
 ·refine cm (aV (aV (bT (aa (af (ab (zz0 (ac rfl) (zz0 (ad rfl) (ae (aa (ao ?_)))))))))))
  refine aI Tryz.results24 rfl (fun w' hw => ?_)
  exact ⟨(V', xs), rfl, hw.below (Bg.le.refl _), hw.ents (Bg.le.refl _) (Pick.refl _), by rw [hk3, List.take_of_length_le (by omega)]⟩
theorem uY (l : List SecV) (V : Value) (i : Nat) (w : World) (hV : Sl (hp w) cf l V) (hB : SecB l) (hi : i < l.length) (hN : (l.getD i default).name.size ≤ 9223372036854775807) :
  Calls Tryz.prog 40 #[V, .int .i64 (i : Nat)] w (fun e w' => e = .returned (.int .i64 (iz l i)) ∧ Ext w w') := by
 have hV' : Sl (Bg.of w).blk cf l V := hV
 have hlen := hB.1
 obtain ⟨s, hs⟩ : ∃ s, s = l.getD i default := ⟨_, rfl⟩
 have hsd : s.data.length ≤ 200000 := by rw [hs]; exact hB.at hi
 have hadr := s.addr.toNat_lt
 have hst := ob s
 refine enter Tryz.func40 rfl Tryz.ntmps40 rfl ?_
 refine af (ab (zz0 (ad rfl) (ae (aa (af (ab (zz0 (ac rfl) (zz0 (ac rfl) (zz0 (i9 rfl rfl bh bL) ?_)))))))))
 refine zz0 (lx rfl (by assumption) eK bL (by rfl) (by omega)) ?_
 refine c9 fl rfl (fun b1 => ?_)
 refine bw cf rfl rfl bL ?_
 refine ae (aa (af (af ?_)))
 rw [← hs]
 refine ab (zz0 (zz3 (off := 2) (ft := 62) rfl bC rfl de) ?_)
 refine zz0 (aM rfl dM) ?_
 refine zz0 (fR rfl aG) ?_
 refine zz0 (fG rfl rfl) (ae (aa ?_))
 refine ak rfl ?_ ?_ <;> intro h2 <;> try simp only [bs] at h2
 ·refine af (ab (zz0 (ad rfl) (ae (aa (ao (an ?_))))))
  refine aI iI rfl (fun w' hw => ?_)
  exact ⟨by unfold iz; dsimp only; rw [← hs, if_pos (by assumption)], hw.below (Bg.le.refl _)⟩
 ·refine ax (aa (af (af (ab (zz0 (zz3 (off := 0) (ft := 9) rfl bC rfl jx) ?_)))))
  refine zz0 (aM rfl kl) ?_
  refine zz0 (aB rfl Tryz.call65 (fun w hw => tA s.name w (by rw [hs]; exact hN))) ?_
  refine zz0 (cj rfl) (ae (aa ?_))
  refine ak rfl ?_ ?_ <;> intro h3 <;> try simp only [bs] at h3
  ·refine af (ab (zz0 (ad rfl) (ae (aa (ao (an ?_))))))
   refine aI iI rfl (fun w' hw => ?_)
   exact ⟨by unfold iz; dsimp only; rw [← hs, if_neg (by assumption), if_pos (by assumption)], hw.below (Bg.le.refl _)⟩
  ·refine ax (aa (af (af (ab (zz0 (ad rfl) (ae (aa (aQ ?_))))))))
   refine cp (ι := Nat) (fun k => k ≤ i ∧ (l.take k).any (fun x => decide (x.name = s.name)) = false) (fun _ => _) (fun k => [cellE b1 (cf.enc s) 64]) (fun k => [(6, .int .i64 (k : Nat))]) (fun k => i - k) 0 ⟨Nat.zero_le _, rfl⟩ (.cons (by first | rfl | exact am rfl (by omega) | exact am rfl (by simp) | exact aS rfl (by simp)) Front.nil) (by repeat' constructor) rfl (fun k hi m hm => ?_)
   replace hi : k ≤ i ∧ (l.take k).any (fun x => decide (x.name = s.name)) = false := hi
   replace hm : m = i - k := hm
   change Tr _ _ [cellE b1 (cf.enc s) 64] ([(6, .int .i64 (k : Nat))] ++ _) _
   obtain ⟨hk1, hk2⟩ := hi
   refine af (af (ab (zz0 (ac rfl) (zz0 (ac rfl) (zz0 (cE rfl rfl) (ae (aa ?_)))))))
   refine ak rfl ?_ ?_ <;> intro h4 <;> try simp only [bs] at h4
   ·refine ax (aa (af (aQ (af (ja aU ?_)))))
    refine aK (ac rfl) (aK (ac rfl) (aK (i9 rfl rfl bh bL) ?_))
    refine aK (zz3 (off := 0) (ft := 9) rfl bC rfl jx) ?_
    refine aK (ly rfl kl) ?_
    refine aK (zz3 (off := 0) (ft := 9) rfl bC rfl jx) ?_
    refine aK (aM rfl kl) ?_
    refine aK (qG rfl rfl) ?_
    refine cH ?_
    refine aa ?_
    refine ak rfl ?_ ?_ <;> intro h5 <;> try simp only [bs] at h5
    ·refine af (ab (zz0 (ad rfl) (ae (aa (ao (bf (an (an (bf (an ?_))))))))))
     refine aI iI rfl (fun w' hw => ?_)
     have hany : (l.take i).any (fun x => decide (x.name = s.name)) = true := List.any_eq_true.2 ⟨l.getD k default, by rw [List.mem_take_iff_getElem]; exact ⟨k, by omega, by simp [List.getD_eq_getElem?_getD, show k < l.length by omega]⟩, decide_eq_true (by assumption)⟩
     exact ⟨by unfold iz; dsimp only; rw [← hs, if_neg (by assumption), if_neg (by simp_all), if_pos hany], hw.below (Bg.le.refl _)⟩
    ·refine ax (a9 (aa (ab (zz0 (ac rfl) (zz0 (dq rfl rfl) ?_)))))
     refine zz0 (ad rfl) (ae (aa ?_))
     apply bP (k + 1)
     ·exact rfl
     ·exact (.cons (by first | rfl | exact am rfl (by omega) | exact am rfl (by simp) | exact aS rfl (by simp)) Front.nil)
     ·exact bQ 15 rfl
     ·exact (by repeat' constructor)
     ·exact ⟨by omega, by rw [any_take_succ (by omega), hk2, Bool.false_or]; exact decide_eq_false (by assumption)⟩
     ·exact (by (try dsimp only); omega)
   ·refine cm (aV (aV (bT (aa (af (af (ab (zz0 (zz3 (off := 1) (ft := 23) rfl bC rfl ah) ?_))))))))
    refine zz0 (aM rfl az) ?_
    refine zz0 (gm rfl aT aO) (zz0 (zz3 (off := 2) (ft := 62) rfl bC rfl de) ?_)
    refine zz0 (aM rfl dM) ?_
    refine zz0 (fR rfl aG) ?_
    refine zz0 (dq rfl rfl) ?_
    refine zz0 (fG rfl rfl) (ae (aa ?_))
    refine ak rfl ?_ ?_ <;> intro h6 <;> try simp only [bs] at h6
    ·refine af (ab (zz0 (ad rfl) (ae (aa (ao (an ?_))))))
     refine aI iI rfl (fun w' hw => ?_)
     have hany : ¬ (l.take i).any (fun x => decide (x.name = s.name)) = true := by obtain rfl : k = i := (by omega); rw [hk2]; decide
     exact ⟨by unfold iz; dsimp only; rw [← hs, if_neg (by assumption), if_neg (by simp_all), if_neg hany, if_pos (.inl (by assumption))], hw.below (Bg.le.refl _)⟩
    ·refine ax (aa (af (af (ab (zz0 (zz3 (off := 2) (ft := 62) rfl bC rfl de) ?_)))))
     refine zz0 (aM rfl dM) ?_
     refine zz0 (fR rfl aG) ?_
     refine zz0 (fG rfl rfl) (zz0 (ac rfl) ?_)
     apply bF
     ·exact (rfl : _ = (5, 44, 49))
     ·exact rfl
     ·intro hT7; have hT7' := hT7
      try simp only [bs] at hT7'
      refine zz5 hT7 (zz3 (off := 1) (ft := 23) rfl bC rfl ah) ?_
      refine zz5 hT7 (aM rfl az) ?_
      refine zz5 hT7 (gm rfl aT aO) (zz5 hT7 (cE rfl rfl) (zz0 (aE rfl hT7 rfl) ?_))
      refine ae (aa ?_)
      exact aw (Sub.cons rfl (zz7 5 rfl))
     ·intro hF7
      refine zz6 hF7 (zz6 hF7 (zz6 hF7 (zz6 hF7 (zz0 (aF rfl hF7 rfl) ?_))))
      refine ae (aa ?_)
      exact aw (Sub.cons rfl (zz7 5 rfl))
     refine zz0 (ac rfl) ?_
     apply bF
     ·exact (rfl : _ = (4, 50, 54))
     ·exact rfl
     ·intro hT8; have hT8' := hT8
      try simp only [bs] at hT8'
      refine zz5 hT8 (bK rfl eK bL) ?_
      refine zz5 hT8 (aB rfl m1 (fun w hw => l6 s w hsd)) ?_
      refine zz5 hT8 (fG rfl rfl) (zz0 (aE rfl hT8 rfl) ?_)
      refine ae (aa ?_)
      exact aw (Sub.cons rfl (zz7 4 rfl))
     ·intro hF8
      refine zz6 hF8 (zz6 hF8 (zz6 hF8 (zz0 (aF rfl hF8 rfl) ?_)))
      refine ae (aa ?_)
      exact aw (Sub.cons rfl (zz7 4 rfl))
     refine ae (aa ?_)
     refine ak rfl ?_ ?_ <;> intro h9 <;> try simp only [bs] at h9
     ·refine af (ab (zz0 (ad rfl) (ae (aa (ao (an ?_))))))
      refine aI iI rfl (fun w' hw => ?_)
      have hany : ¬ (l.take i).any (fun x => decide (x.name = s.name)) = true := by obtain rfl : k = i := (by omega); rw [hk2]; decide
      exact ⟨by unfold iz; dsimp only; rw [← hs, if_neg (by assumption), if_neg (by simp_all), if_neg hany, if_pos (.inr (hst.2 (by omega)))], hw.below (Bg.le.refl _)⟩
     ·refine ax (aa (af (ab (zz0 (ad rfl) (ae (aa (ao ?_)))))))
      refine aI iI rfl (fun w' hw => ?_)
      have hany : ¬ (l.take i).any (fun x => decide (x.name = s.name)) = true := by obtain rfl : k = i := (by omega); rw [hk2]; decide
      exact ⟨by unfold iz; dsimp only; rw [← hs, if_neg (by assumption), if_neg (by simp_all), if_neg hany, if_neg (fun q => q.elim (by assumption) (fun q => by have := hst.1 q; omega))], hw.below (Bg.le.refl _)⟩
theorem nc (l : List SecV) (V : Value) (w : World) (hV : Sl (hp w) cf l V) (hB : SecB l) (hN : ∀ s ∈ l, s.name.size ≤ 9223372036854775807) :
  Calls Tryz.prog 23 #[V] w (fun e w' => e = .returned (.int .i64 (dL l)) ∧ Ext w w') := by
 have hV' : Sl (Bg.of w).blk cf l V := hV
 have hlen := hB.1
 refine enter Tryz.func23 rfl Tryz.ntmps23 rfl ?_
 refine af (ab (zz0 (ad rfl) (ae (aa (af (af (ab (zz0 (ac rfl) (zz0 (gI rfl bh) ?_)))))))))
 refine zz0 (fG rfl rfl) (ae (aa ?_))
 refine ak rfl ?_ ?_ <;> intro h1 <;> try simp only [bs] at h1
 ·refine af (ab (zz0 (ad rfl) (ae (aa (ao (an ?_))))))
  refine aI ke rfl (fun w' hw => ?_)
  exact ⟨by rw [sJ (by assumption)], hw.below (Bg.le.refl _)⟩
 ·refine ax (aa (af (af (ab (zz0 (ad rfl) (ae (aa (aQ ?_))))))))
  refine cp (ι := Nat) (fun k => k ≤ l.length ∧ dQ (iz l) k (l.length - k) = dQ (iz l) 0 l.length) (fun _ => _) (fun k => []) (fun k => [(3, .int .i64 (k : Nat))]) (fun k => l.length - k) 0 ⟨Nat.zero_le _, rfl⟩ (.cons (by first | rfl | exact am rfl (by omega) | exact am rfl (by simp) | exact aS rfl (by simp)) Front.nil) (by repeat' constructor) rfl (fun k hi m hm => ?_)
  replace hi : k ≤ l.length ∧ dQ (iz l) k (l.length - k) = dQ (iz l) 0 l.length := hi
  replace hm : m = l.length - k := hm
  change Tr _ _ [] ([(3, .int .i64 (k : Nat))] ++ _) _
  obtain ⟨hk1, hk2⟩ := hi
  refine af (af (ab (zz0 (ac rfl) (zz0 (ac rfl) (zz0 (gI rfl bh) ?_)))))
  refine zz0 (cE rfl rfl) (ae (aa ?_))
  refine ak rfl ?_ ?_ <;> intro h2 <;> try simp only [bs] at h2
  ·refine ax (aa (af (aQ (af (ab (zz0 (ac rfl) (zz0 (ac rfl) (zz0 (aB rfl Tryz.call40 (fun w hw => uY l V k w (hw.slF hV) hB (by omega) (hN _ (fU (by omega))))) ?_))))))))
   refine zz0 (ad rfl) (ae (aa (af (ab (zz0 (ac rfl) (zz0 (dk rfl rfl) (ae (aa ?_))))))))
   refine ak rfl ?_ ?_ <;> intro h3 <;> try simp only [bs] at h3
   ·refine af (ab (zz0 (ac rfl) (zz0 (ad rfl) (ae (aa (ao (bf (an (an (bf (an ?_)))))))))))
    refine aI ke rfl (fun w' hw => ?_)
    exact ⟨by rw [nP (v := iz l k) (by assumption) (by omega) hk2 rfl (by assumption)], hw.below (Bg.le.refl _)⟩
   ·refine ax (a9 (aa (ab (zz0 (ac rfl) (zz0 (dq rfl rfl) ?_)))))
    refine zz0 (ad rfl) (ae (aa ?_))
    apply bP (k + 1)
    ·exact rfl
    ·exact (.cons (by first | rfl | exact am rfl (by omega) | exact am rfl (by simp) | exact aS rfl (by simp)) Front.nil)
    ·exact bQ 14 rfl
    ·exact (by repeat' constructor)
    ·exact ⟨by omega, by rw [kY (by omega) (by omega), hk2]⟩
    ·exact (by (try dsimp only); omega)
  ·refine cm (aV (aV (bT (aa (af (af (ab (zz0 (ad rfl) (ae (aa (aQ ?_)))))))))))
   have hz1 : dQ (iz l) 0 l.length = 0 := by rw [← hk2]; exact kX (by omega)
   clear hk2 hk1 hm
   refine cp (ι := Nat) (fun k => k ≤ l.length ∧ dQ (fun i => if je l i = true then 10 else 0) k (l.length - k) = dQ (fun i => if je l i = true then 10 else 0) 0 l.length) (fun _ => _) (fun k => []) (fun k => [(5, .int .i64 (k : Nat))]) (fun k => l.length - k) 0 ⟨Nat.zero_le _, rfl⟩ (.cons (by first | rfl | exact am rfl (by omega) | exact am rfl (by simp) | exact aS rfl (by simp)) Front.nil) (by repeat' constructor) rfl (fun k hi m hm => ?_)
   replace hi : k ≤ l.length ∧ dQ (fun i => if je l i = true then 10 else 0) k (l.length - k) = dQ (fun i => if je l i = true then 10 else 0) 0 l.length := hi
   replace hm : m = l.length - k := hm
   change Tr _ _ [] ([(5, .int .i64 (k : Nat))] ++ _) _
   obtain ⟨hk1, hk2⟩ := hi
   refine af (af (ab (zz0 (ac rfl) (zz0 (ac rfl) (zz0 (gI rfl bh) ?_)))))
   refine zz0 (cE rfl rfl) (ae (aa ?_))
   refine ak rfl ?_ ?_ <;> intro h4 <;> try simp only [bs] at h4
   ·refine ax (aa (af (aQ (af (ab (zz0 (ad rfl) (ae (aa (aQ ?_)))))))))
    refine cp (ι := Nat) (fun j => j ≤ k ∧ (l.take j).any (fun x => kW (eO x) (eO (l.getD k default))) = false) (fun _ => _) (fun j => []) (fun j => [(6, .int .i64 (j : Nat))]) (fun j => k - j) 0 ⟨Nat.zero_le _, rfl⟩ (.cons (by first | rfl | exact am rfl (by omega) | exact am rfl (by simp) | exact aS rfl (by simp)) Front.nil) (by repeat' constructor) rfl (fun j hi m hm => ?_)
    replace hi : j ≤ k ∧ (l.take j).any (fun x => kW (eO x) (eO (l.getD k default))) = false := hi
    replace hm : m = k - j := hm
    change Tr _ _ [] ([(6, .int .i64 (j : Nat))] ++ _) _
    obtain ⟨hj1, hj2⟩ := hi
    have hmi := t9 (l.getD j default) (l.getD k default)
    refine af (af (ab (zz0 (ac rfl) (zz0 (ac rfl) (zz0 (cE rfl rfl) (ae (aa ?_)))))))
    refine ak rfl ?_ ?_ <;> intro h5 <;> try simp only [bs] at h5
    ·refine ax (aa (af (aQ (af (ja aU ?_)))))
     refine aK (ac rfl) (aK (ac rfl) (aK (i9 rfl rfl bh bL) ?_))
     refine aK (zz3 (off := 2) (ft := 62) rfl bC rfl de) ?_
     refine aK (ly rfl dM) ?_
     refine aK (fR rfl aG) ?_
     refine aK (fG rfl rfl) (aK (ac rfl) ?_)
     apply gi
     ·exact (rfl : _ = (8, 40, 48))
     ·exact rfl
     ·intro hT6; have hT6' := hT6
      try simp only [bs] at hT6'
      refine bY hT6 (ac rfl) (bY hT6 (ac rfl) (bY hT6 (i9 rfl rfl bh bL) ?_))
      refine bY hT6 (zz3 (off := 2) (ft := 62) rfl bC rfl de) ?_
      refine bY hT6 (ly rfl dM) ?_
      refine bY hT6 (fR rfl aG) ?_
      refine bY hT6 (fG rfl rfl) (aK (aE rfl hT6 rfl) ?_)
      exact dh (Sub.cons rfl (zz7 8 rfl))
     ·intro hF6
      refine bZ hF6 (bZ hF6 (bZ hF6 (bZ hF6 (bZ hF6 (bZ hF6 (bZ hF6 (aK (aF rfl hF6 rfl) ?_)))))))
      exact dh (Sub.cons rfl (zz7 8 rfl))
     refine aK (ac rfl) ?_
     apply gi
     ·exact (rfl : _ = (13, 49, 62))
     ·exact rfl
     ·intro hT7; have hT7' := hT7
      try simp only [bs] at hT7'
      refine bY hT7 (ac rfl) (bY hT7 (ac rfl) (bY hT7 (i9 rfl rfl bh bL) ?_))
      refine bY hT7 (zz3 (off := 1) (ft := 23) rfl bC rfl ah) ?_
      refine bY hT7 (ly rfl az) ?_
      refine bY hT7 (gm rfl aT aO) (bY hT7 (ac rfl) (bY hT7 (ac rfl) (bY hT7 (i9 rfl rfl bh bL) ?_)))
      refine bY hT7 (lx rfl (by assumption) eK bL (by rfl) (by omega)) ?_
      refine bY hT7 (aB rfl m1 (fun w hw => l6 (l.getD j default) w (hB.at (by omega)))) ?_
      refine bY hT7 (cE rfl rfl) (aK (aE rfl hT7 rfl) ?_)
      exact dh (Sub.cons rfl (zz7 13 rfl))
     ·intro hF7
      refine bZ hF7 (bZ hF7 (bZ hF7 (bZ hF7 (bZ hF7 (bZ hF7 (bZ hF7 (bZ hF7 (bZ hF7 (bZ hF7 (bZ hF7 (bZ hF7 (aK (aF rfl hF7 rfl) ?_))))))))))))
      exact dh (Sub.cons rfl (zz7 13 rfl))
     refine aK (ac rfl) ?_
     apply gi
     ·exact (rfl : _ = (13, 63, 76))
     ·exact rfl
     ·intro hT8; have hT8' := hT8
      try simp only [bs] at hT8'
      refine bY hT8 (ac rfl) (bY hT8 (ac rfl) (bY hT8 (i9 rfl rfl bh bL) ?_))
      refine bY hT8 (zz3 (off := 1) (ft := 23) rfl bC rfl ah) ?_
      refine bY hT8 (ly rfl az) ?_
      refine bY hT8 (gm rfl aT aO) (bY hT8 (ac rfl) (bY hT8 (ac rfl) (bY hT8 (i9 rfl rfl bh bL) ?_)))
      refine bY hT8 (lx rfl (by assumption) eK bL (by rfl) (by omega)) ?_
      refine bY hT8 (aB rfl m1 (fun w hw => l6 (l.getD k default) w (hB.at (by omega)))) ?_
      refine bY hT8 (cE rfl rfl) (aK (aE rfl hT8 rfl) ?_)
      exact dh (Sub.cons rfl (zz7 13 rfl))
     ·intro hF8
      refine bZ hF8 (bZ hF8 (bZ hF8 (bZ hF8 (bZ hF8 (bZ hF8 (bZ hF8 (bZ hF8 (bZ hF8 (bZ hF8 (bZ hF8 (bZ hF8 (aK (aF rfl hF8 rfl) ?_))))))))))))
      exact dh (Sub.cons rfl (zz7 13 rfl))
     refine cH ?_
     refine aa ?_
     refine ak rfl ?_ ?_ <;> intro h9 <;> try simp only [bs] at h9
     ·refine af (ab (zz0 (ad rfl) (ae (aa (ao (bf (an (an (bf (bf (an (an (bf ?_)))))))))))))
      refine an ?_
      refine aI ke rfl (fun w' hw => ?_)
      have hov : je l k = true := List.any_eq_true.2 ⟨l.getD j default, by rw [List.mem_take_iff_getElem]; exact ⟨j, by omega, by simp [List.getD_eq_getElem?_getD, show j < l.length by omega]⟩, hmi.2 (by omega)⟩
      exact ⟨by rw [wC (k := k) (by assumption) hz1 (by omega) hk2 hov], hw.below (Bg.le.refl _)⟩
     ·refine ax (a9 (aa (ab (zz0 (ac rfl) (zz0 (dq rfl rfl) ?_)))))
      refine zz0 (ad rfl) (ae (aa ?_))
      have hmf : kW (eO (l.getD j default)) (eO (l.getD k default)) = false := by rw [← Bool.not_eq_true, hmi]; omega
      apply bP (j + 1)
      ·exact rfl
      ·exact (.cons (by first | rfl | exact am rfl (by omega) | exact am rfl (by simp) | exact aS rfl (by simp)) Front.nil)
      ·exact bQ 20 rfl
      ·exact (by repeat' constructor)
      ·exact ⟨by omega, by rw [any_take_succ (by omega), hj2, hmf]; rfl⟩
      ·exact (by (try dsimp only); omega)
    ·refine cm (aV (aV (bT (a9 (aa (ab (zz0 (ac rfl) (zz0 (dq rfl rfl) ?_))))))))
     refine zz0 (ad rfl) (ae (aa ?_))
     have hz : je l k = false := by obtain rfl : j = k := (by omega); exact hj2
     apply bP (k + 1)
     ·exact rfl
     ·exact (.cons (by first | rfl | exact am rfl (by omega) | exact am rfl (by simp) | exact aS rfl (by simp)) Front.nil)
     ·exact bQ 13 rfl
     ·exact (by repeat' constructor)
     ·exact ⟨by omega, by rw [kY (by omega) (by rw [if_neg (by rw [hz]; decide)]), hk2]⟩
     ·exact (by (try dsimp only); omega)
   ·refine cm (aV (aV (bT (aa (af (ab (zz0 (ad rfl) (ae (aa (ao ?_))))))))))
    refine aI ke rfl (fun w' hw => ?_)
    exact ⟨by rw [wB (by assumption) hz1 (by rw [← hk2]; exact kX (by omega))], hw.below (Bg.le.refl _)⟩
end Go.Proofs.YtpeaodkfbjenpaaGreat
namespace Go.Proofs.YtpeaodkfbjenpaaGreat
open Go Go.HL Go.RowKit
theorem j5 (l : List SecV) (cs : List CellV) (xl xc : SV) (a : UInt32) (w : World) (hL : Sl (hp w) cf l (.slice xl.a xl.n xl.c)) (hC : Sl (hp w) cQ cs (.slice xc.a xc.n xc.c)) (hD : DataIn (hp w) l) (hB : SecB l) :
  Calls Tryz.prog 49 #[.agg (f8 xl xc).toArray, .int .u32 a.toNat] w (fun e w' => e = .returned (.int .i64 (fu l a)) ∧ Ext w w') := by
 have hL' : Sl (Bg.of w).blk cf l (.slice xl.a xl.n xl.c) := hL
 have hC' : Sl (Bg.of w).blk cQ cs (.slice xc.a xc.n xc.c) := hC
 have hD' : DataIn (Bg.of w).blk l := hD
 have hln := hL.len_v
 have hcn := hC.len_v
 have hcl := hC.len_le
 have hrg := kS (l := l) (a := a)
 have hal := a.toNat_lt
 have hll := hB.1
 refine enter Tryz.func49 rfl Tryz.ntmps49 rfl ?_
 refine af (ab ?_)
 refine cM rfl rfl rfl (fun b1 => ?_)
 refine zz0 (ad rfl) (ae (aa (af (af (ab (zz0 (ac rfl) (zz0 (mR (n := 978944) rfl rfl) ?_)))))))
 refine zz0 (ac rfl) ?_
 apply bF
 ·exact (rfl : _ = (3, 7, 10))
 ·exact rfl
 ·intro hT2; have hT2' := hT2
  try simp only [bs] at hT2'
  refine zz5 hT2 (ac rfl) (zz5 hT2 (gG (n := 983040) rfl rfl) ?_)
  refine zz0 (aE rfl hT2 rfl) ?_
  refine ae (aa ?_)
  exact aw (Sub.cons rfl (zz7 3 rfl))
 ·intro hF2
  refine zz6 hF2 (zz6 hF2 (zz0 (aF rfl hF2 rfl) ?_))
  refine ae (aa ?_)
  exact aw (Sub.cons rfl (zz7 3 rfl))
 refine ae (aa ?_)
 refine ak rfl ?_ ?_ <;> intro h3 <;> try simp only [bs] at h3
 ·refine af (ab (zz0 (zz3 (off := 1) (ft := 22) rfl bS rfl eZ) ?_))
  refine zz0 (aM rfl fD) ?_
  refine zz0 (gI rfl bh) ?_
  refine zz0 (ad rfl) (ae (aa (ao (an ?_))))
  refine aI Tryz.results49 rfl (fun w' hw => ?_)
  exact ⟨by unfold fu e9; rw [if_pos (by simp_all)], hw.below (Bg.le.refl _)⟩
 ·refine ax (aa (af (ab (zz0 (zz3 (off := 1) (ft := 22) rfl bS rfl eZ) ?_))))
  refine zz0 (aM rfl fD) ?_
  refine zz0 (ac rfl) (zz0 (aB rfl Tryz.call75 (fun w hw => tC l _ a w (hw.slF hL') hB)) ?_)
  refine zz0 (ad rfl) (ae (aa (ao ?_)))
  refine aI Tryz.results49 rfl (fun w' hw => ?_)
  exact ⟨by unfold fu e9; rw [if_neg (by simp only [Bool.and_eq_true, decide_eq_true_eq]; simp only [UInt32.lt_iff_toNat_lt, UInt32.le_iff_toNat_le] at *; omega)], hw.below (Bg.le.refl _)⟩
theorem nl (l : List SecV) (cs : List CellV) (xl xc : SV) (a : UInt32) (w : World) (hL : Sl (hp w) cf l (.slice xl.a xl.n xl.c)) (hC : Sl (hp w) cQ cs (.slice xc.a xc.n xc.c)) (hD : DataIn (hp w) l) (hB : SecB l) :
  Calls Tryz.prog 48 #[.agg (f8 xl xc).toArray, .int .u32 a.toNat] w (fun e w' => e = .returned (.int .i64 (dW l a)) ∧ Ext w w') := by
 have hL' : Sl (Bg.of w).blk cf l (.slice xl.a xl.n xl.c) := hL
 have hC' : Sl (Bg.of w).blk cQ cs (.slice xc.a xc.n xc.c) := hC
 have hD' : DataIn (Bg.of w).blk l := hD
 have hln := hL.len_v
 have hcn := hC.len_v
 have hcl := hC.len_le
 have hrg := kS (l := l) (a := a)
 have hal := a.toNat_lt
 have hll := hB.1
 refine enter Tryz.func48 rfl Tryz.ntmps48 rfl ?_
 refine af (ab ?_)
 refine cM rfl rfl rfl (fun b1 => ?_)
 refine zz0 (ad rfl) (ae (aa (af (ab (zz0 (bK rfl bX ba) ?_)))))
 refine zz0 (ac rfl) (zz0 (aB rfl m0 (fun w hw => j5 l cs xl xc a w (hw.slF hL') (hw.slF hC') (hD'.mono hw.bg) hB)) ?_)
 refine zz0 (ad rfl) (ae (aa (af (af (ab (zz0 (ac rfl) (zz0 (cE rfl rfl) (ae (aa ?_)))))))))
 refine ak rfl ?_ ?_ <;> intro h2 <;> try simp only [bs] at h2
 ·refine af (ab (zz0 (ad rfl) (ae (aa (ao (an ?_))))))
  refine aI Tryz.results48 rfl (fun w' hw => ?_)
  exact ⟨by rw [we (by assumption)], hw.below (Bg.le.refl _)⟩
 ·refine ax (aa (af (af (ab (zz0 (ac rfl) (zz0 (zz3 (off := 1) (ft := 22) rfl bS rfl eZ) ?_))))))
  refine zz0 (aM rfl fD) ?_
  refine zz0 (gI rfl bh) ?_
  refine zz0 (aN rfl rfl) (ae (aa ?_))
  refine ak rfl ?_ ?_ <;> intro h3 <;> try simp only [bs] at h3
  ·refine af (ab (zz0 (ac rfl) (zz0 (eX (m := 983040) rfl rfl) ?_)))
   refine zz0 (gm rfl aT aO) (zz0 (ad rfl) (ae (aa (ao (an ?_)))))
   refine aI Tryz.results48 rfl (fun w' hw => ?_)
   exact ⟨by rw [yx (by omega)], hw.below (Bg.le.refl _)⟩
  ·refine ax (aa (af ?_))
   have hdl := hB.at (k := (fu l a).toNat) (by omega)
   have hdd := (a - (l.getD (fu l a).toNat default).addr).toNat_lt
   refine ja aU ?_
   refine aK (zz3 (off := 1) (ft := 22) rfl bS rfl eZ) ?_
   refine aK (aM rfl fD) ?_
   refine aK (ac rfl) (aK (gP rfl rfl bh bL) ?_)
   refine aK (zz3 (off := 2) (ft := 62) rfl bC rfl de) ?_
   refine aK (ly rfl dM) ?_
   refine aK (fR rfl aG) ?_
   refine aK (ac rfl) (aK (zz3 (off := 1) (ft := 22) rfl bS rfl eZ) ?_)
   refine aK (aM rfl fD) ?_
   refine aK (ac rfl) (aK (gP rfl rfl bh bL) ?_)
   refine aK (zz3 (off := 1) (ft := 23) rfl bC rfl ah) ?_
   refine aK (ly rfl az) ?_
   refine aK (eX rfl rfl) ?_
   refine aK (gm rfl aT aO) (aK (eE rfl rfl) ?_)
   refine aK (ad rfl) (cH ?_)
   refine aa (ao ?_)
   refine aI Tryz.results48 rfl (fun w' hw => ?_)
   have hsx : eB l a = (l.getD (fu l a).toNat default) := by unfold eB; rw [(ie (by assumption) (by first | assumption | simp_all)).2.1]
   exact ⟨by rw [yy (by assumption) (by omega), hsx], hw.below (Bg.le.refl _)⟩
theorem ng (l : List SecV) (cs : List CellV) (xl xc : SV) (a : UInt32) (w : World) (hL : Sl (hp w) cf l (.slice xl.a xl.n xl.c)) (hC : Sl (hp w) cQ cs (.slice xc.a xc.n xc.c)) (hD : DataIn (hp w) l) (hB : SecB l) :
  Calls Tryz.prog 54 #[.agg (f8 xl xc).toArray, .int .u32 a.toNat] w (fun e w' => e = .returned (.int .u8 (jf l a).toNat) ∧ Ext w w') := by
 have hL' : Sl (Bg.of w).blk cf l (.slice xl.a xl.n xl.c) := hL
 have hC' : Sl (Bg.of w).blk cQ cs (.slice xc.a xc.n xc.c) := hC
 have hD' : DataIn (Bg.of w).blk l := hD
 have hln := hL.len_v
 have hcn := hC.len_v
 have hcl := hC.len_le
 have hrg := kS (l := l) (a := a)
 have hal := a.toNat_lt
 have hll := hB.1
 refine enter Tryz.func54 rfl Tryz.ntmps54 rfl ?_
 refine af (ab ?_)
 refine cM rfl rfl rfl (fun b1 => ?_)
 refine zz0 (ad rfl) (ae (aa (af (ab (zz0 (bK rfl bX ba) ?_)))))
 refine zz0 (ac rfl) (zz0 (aB rfl m0 (fun w hw => j5 l cs xl xc a w (hw.slF hL') (hw.slF hC') (hD'.mono hw.bg) hB)) ?_)
 refine zz0 (ad rfl) (ae (aa (af (af (ab (zz0 (ac rfl) (zz0 (cE rfl rfl) (zz0 (ac rfl) ?_))))))))
 apply cZ
 ·exact (rfl : _ = (6, 11, 17))
 ·exact rfl
 ·intro hF2; have hF2' := hF2
  try simp only [bs] at hF2'
  refine zz5 hF2 (ac rfl) (zz5 hF2 (zz3 (off := 1) (ft := 22) rfl bS rfl eZ) ?_)
  refine zz5 hF2 (aM rfl fD) ?_
  refine zz5 hF2 (gI rfl bh) ?_
  refine zz5 hF2 (aN rfl rfl) (zz0 (aF rfl hF2 rfl) ?_)
  refine ae (aa ?_)
  exact aw (Sub.cons rfl (zz7 6 rfl))
 ·intro hT2
  refine zz6 hT2 (zz6 hT2 (zz6 hT2 (zz6 hT2 (zz6 hT2 (zz0 (aE rfl hT2 rfl) ?_)))))
  refine ae (aa ?_)
  exact aw (Sub.cons rfl (zz7 6 rfl))
 refine ae (aa ?_)
 refine ak rfl ?_ ?_ <;> intro h3 <;> try simp only [bs] at h3
 ·refine af (ab (zz0 (ad rfl) (ae (aa (ao (an ?_))))))
  refine aI Tryz.results54 rfl (fun w' hw => ?_)
  exact ⟨by rw [AE (by first | (simp only [bs] at *; omega) | (rcases (by assumption : _ ∨ _) with q | q <;> first | (left; omega) | (right; omega)) | (by_cases q : fu l a < 0 <;> first | (left; exact q) | (right; simp_all)))]; rfl, hw.below (Bg.le.refl _)⟩
 ·refine ax (aa (af ?_))
  have hr1 : ¬ fu l a < 0 := by intro q; simp_all
  have hr2 : ¬ fu l a = (l.length : Int) := by intro q; simp_all
  have hsx : eB l a = (l.getD (fu l a).toNat default) := by unfold eB; rw [(ie hr1 hr2).2.1]
  have hat := ym hr1 hr2
  rw [hsx] at hat
  have hDk : Sl (Bg.of w).blk dH (l.getD (fu l a).toNat default).data (.slice (l.getD (fu l a).toNat default).dp (l.getD (fu l a).toNat default).data.length (l.getD (fu l a).toNat default).dc) := hD' _ (fU (by omega))
  refine ja aU ?_
  refine aK (zz3 (off := 1) (ft := 22) rfl bS rfl eZ) ?_
  refine aK (aM rfl fD) ?_
  refine aK (ac rfl) (aK (gP rfl rfl bh bL) ?_)
  refine aK (zz3 (off := 2) (ft := 62) rfl bC rfl de) ?_
  refine aK (ly rfl dM) ?_
  refine aK (ac rfl) (aK (zz3 (off := 1) (ft := 22) rfl bS rfl eZ) ?_)
  refine aK (aM rfl fD) ?_
  refine aK (ac rfl) (aK (gP rfl rfl bh bL) ?_)
  refine aK (zz3 (off := 1) (ft := 23) rfl bC rfl ah) ?_
  refine aK (ly rfl az) ?_
  refine aK (eX rfl rfl) ?_
  refine aK (gm rfl aT aO) (aK (i9 rfl rfl aG bN) ?_)
  refine aK (gK rfl cw) ?_
  refine aK (ad rfl) (cH ?_)
  refine aa (ao ?_)
  refine aI Tryz.results54 rfl (fun w' hw => ?_)
  exact ⟨by rw [y9 hr1 hr2, hsx]; first | rfl | simp [List.getD_eq_getElem?_getD] | (congr 2; omega), hw.below (Bg.le.refl _)⟩
theorem nf (l : List SecV) (cs : List CellV) (xl xc : SV) (a : UInt32) (w : World) (hL : Sl (hp w) cf l (.slice xl.a xl.n xl.c)) (hC : Sl (hp w) cQ cs (.slice xc.a xc.n xc.c)) (hD : DataIn (hp w) l) (hB : SecB l) :
  Calls Tryz.prog 58 #[.agg (f8 xl xc).toArray, .int .u32 a.toNat] w (fun e w' => e = .returned (.int .u8 (nj l (dA cs) a).toNat) ∧ Ext w w') := by
 have hL' : Sl (Bg.of w).blk cf l (.slice xl.a xl.n xl.c) := hL
 have hC' : Sl (Bg.of w).blk cQ cs (.slice xc.a xc.n xc.c) := hC
 have hD' : DataIn (Bg.of w).blk l := hD
 have hln := hL.len_v
 have hcn := hC.len_v
 have hcl := hC.len_le
 have hrg := kS (l := l) (a := a)
 have hal := a.toNat_lt
 have hll := hB.1
 refine enter Tryz.func58 rfl Tryz.ntmps58 rfl ?_
 refine af (ab ?_)
 refine cM rfl rfl rfl (fun b1 => ?_)
 refine zz0 (ad rfl) (ae (aa (af (af (ab (zz0 (ad rfl) (ae (aa (aQ ?_)))))))))
 refine cp (ι := Nat) (fun k => k ≤ cs.length ∧ dA (cs.drop k) a = dA cs a) (fun _ => _) (fun k => [cellE b1 (f8 xl xc) 30]) (fun k => [(5, .int .i64 (k : Nat))]) (fun k => cs.length - k) 0 ⟨Nat.zero_le _, rfl⟩ (.cons (by first | rfl | exact am rfl (by omega) | exact am rfl (by simp) | exact aS rfl (by simp)) Front.nil) (by repeat' constructor) rfl (fun k hi m hm => ?_)
 replace hi : k ≤ cs.length ∧ dA (cs.drop k) a = dA cs a := hi
 replace hm : m = cs.length - k := hm
 change Tr _ _ [cellE b1 (f8 xl xc) 30] ([(5, .int .i64 (k : Nat))] ++ _) _
 obtain ⟨hk1, hk2⟩ := hi
 refine af (af (ab (zz0 (ac rfl) (zz0 (zz3 (off := 2) (ft := 28) rfl bS rfl ed) ?_))))
 refine zz0 (aM rfl ff) ?_
 refine zz0 (gI rfl cG) ?_
 refine zz0 (cE rfl rfl) (ae (aa ?_))
 refine ak rfl ?_ ?_ <;> intro h2 <;> try simp only [bs] at h2
 ·refine ax (aa (af (aQ (af (ab (zz0 (zz3 (off := 2) (ft := 28) rfl bS rfl ed) ?_))))))
  refine zz0 (aM rfl ff) ?_
  refine zz0 (ac rfl) (zz0 (i9 rfl rfl cG eT) ?_)
  refine zz0 (zz3 (off := 0) (ft := 23) rfl fe rfl ah) ?_
  refine zz0 (ly rfl az) ?_
  refine zz0 (ac rfl) (zz0 (gk rfl rfl) ?_)
  refine ae (aa ?_)
  refine ak rfl ?_ ?_ <;> intro h3 <;> try simp only [bs] at h3
  ·refine af (ab (zz0 (zz3 (off := 2) (ft := 28) rfl bS rfl ed) ?_))
   refine zz0 (aM rfl ff) ?_
   refine zz0 (ac rfl) (zz0 (i9 rfl rfl cG eT) ?_)
   refine zz0 (zz3 (off := 1) (ft := 5) rfl fe rfl bN) ?_
   refine zz0 (ly rfl cw) ?_
   refine zz0 (ad rfl) (ae (aa (ao (bf (an (an (bf (an ?_))))))))
   refine aI Tryz.results58 rfl (fun w' hw => ?_)
   exact ⟨by unfold nj; rw [← hk2, qB (k := k) (by omega), if_pos (by assumption)]; rfl, hw.below (Bg.le.refl _)⟩
  ·refine ax (a9 (aa (ab (zz0 (ac rfl) (zz0 (dq rfl rfl) ?_)))))
   refine zz0 (ad rfl) (ae (aa ?_))
   apply bP (k + 1)
   ·exact rfl
   ·exact (.cons (by first | rfl | exact am rfl (by omega) | exact am rfl (by simp) | exact aS rfl (by simp)) Front.nil)
   ·exact bQ 17 rfl
   ·exact (by repeat' constructor)
   ·exact ⟨by omega, by rw [← hk2, qB (k := k) (by omega), if_neg (by assumption)]⟩
   ·exact (by (try dsimp only); omega)
 ·refine cm (aV (aV (bT (aa (af (ab (zz0 (bK rfl bX ba) ?_)))))))
  refine zz0 (ac rfl) (zz0 (aB rfl Tryz.call54 (fun w hw => ng l cs xl xc a w (hw.slF hL') (hw.slF hC') (hD'.mono hw.bg) hB)) ?_)
  refine zz0 (ad rfl) (ae (aa (ao ?_)))
  refine aI Tryz.results58 rfl (fun w' hw => ?_)
  exact ⟨by unfold nj; rw [← hk2, List.drop_of_length_le (by omega)]; rfl, hw.below (Bg.le.refl _)⟩
theorem tK (l : List SecV) (cs : List CellV) (xl xc : SV) (a : UInt32) (n : Int) (w : World) (hL : Sl (hp w) cf l (.slice xl.a xl.n xl.c)) (hC : Sl (hp w) cQ cs (.slice xc.a xc.n xc.c)) (hD : DataIn (hp w) l) (hB : SecB l) (hn : n ≤ 1000000) :
  Calls Tryz.prog 90 #[.agg (f8 xl xc).toArray, .int .u32 a.toNat, .int .i64 n] w (fun e w' => ∃ V', e = .returned V' ∧ Ext w w' ∧ NewRow w w' 5 dH ((d6 l (dA cs) a n.toNat)) V') := by
 have hL' : Sl (Bg.of w).blk cf l (.slice xl.a xl.n xl.c) := hL
 have hC' : Sl (Bg.of w).blk cQ cs (.slice xc.a xc.n xc.c) := hC
 have hD' : DataIn (Bg.of w).blk l := hD
 have hln := hL.len_v
 have hcn := hC.len_v
 have hcl := hC.len_le
 have hrg := kS (l := l) (a := a)
 have hal := a.toNat_lt
 have hll := hB.1
 have hbl := kD l (dA cs) n.toNat a
 refine enter Tryz.func90 rfl Tryz.ntmps90 rfl ?_
 refine af (ab ?_)
 refine cM rfl rfl rfl (fun b1 => ?_)
 refine zz0 (ad rfl) (ae (aa (af (ab (zz0 (ad rfl) (ae (aa (af (af (ab (zz0 (ad rfl) (ae (aa ?_)))))))))))))
 refine aQ (gd 5 dH ?_)
 refine cp (ι := Nat × Value) (fun ⟨k, V⟩ => k ≤ n.toNat) (fun _ => _) (fun ⟨k, V⟩ => [rowE V 5 dH ((d6 l (dA cs) a n.toNat).take k), cellE b1 (f8 xl xc) 30]) (fun ⟨k, V⟩ => [(8, .int .i64 (k : Nat)), (7, V)]) (fun ⟨k, V⟩ => n.toNat - k) (0, _) (Nat.zero_le _) (.cons (by first | rfl | exact am rfl (by omega) | exact am rfl (by simp) | exact aS rfl (by simp)) (.cons (by first | rfl | exact am rfl (by omega) | exact am rfl (by simp) | exact aS rfl (by simp)) Front.nil)) (by repeat' constructor) rfl (fun i hi m hm => ?_)
 obtain ⟨k, V⟩ := i
 replace hi : k ≤ n.toNat := hi
 replace hm : m = n.toNat - k := hm
 change Tr _ _ [rowE V 5 dH ((d6 l (dA cs) a n.toNat).take k), cellE b1 (f8 xl xc) 30] ([(8, .int .i64 (k : Nat)), (7, V)] ++ _) _
 have hk1 : k ≤ n.toNat := hi
 refine af (af (ab (zz0 (ac rfl) (zz0 (ac rfl) (zz0 (cE rfl rfl) (ae (aa ?_)))))))
 refine ak rfl ?_ ?_ <;> intro h2 <;> try simp only [bs] at h2
 ·refine ax (aa (af (aQ (ab (zz0 (ac rfl) (zz0 (bK rfl bX ba) ?_))))))
  refine zz0 (ac rfl) (zz0 (ac rfl) (zz0 (eY rfl aO aT) (zz0 (cL rfl rfl) ?_)))
  refine zz0 (aB rfl Tryz.call58 (fun w hw => nf l cs xl xc (a + u32 (k : Int)) w (hw.slF hL') (hw.slF hC') (hD'.mono hw.bg) hB)) ?_
  refine fB (E := dH) (nj l (dA cs) (a + u32 (k : Int))) rfl rfl aG bN jH (by rfl) (by rfl) rfl (fun V3 => ?_)
  refine zz8 rfl rfl aG lR (fun V4 => ?_)
  refine zz0 (ad rfl) (ae (a9 (aa (ab (zz0 (ac rfl) (zz0 (dq rfl rfl) ?_))))))
  refine zz0 (ad rfl) (ae (aa ?_))
  have hst := hZ (l := (d6 l (dA cs) a n.toNat)) (k := k) (by omega)
  have hgd : ((d6 l (dA cs) a n.toNat)).getD k default = nj l (dA cs) (a + u32 (k : Int)) := by rw [List.getD_eq_getElem?_getD, mi l _ _ a k (by omega), mU]; rfl
  rw [hgd] at hst
  rw [← hst]
  apply bP (k + 1, _)
  ·exact rfl
  ·exact (.cons (by first | rfl | exact am rfl (by omega) | exact am rfl (by simp) | exact aS rfl (by simp)) (.cons (by first | rfl | exact am rfl (by omega) | exact am rfl (by simp) | exact aS rfl (by simp)) Front.nil))
  ·exact bQ 18 rfl
  ·exact (by repeat' constructor)
  ·exact (by show k + 1 ≤ _; omega)
  ·exact (by show n.toNat - (k + 1) < m; omega)
 ·refine cm (aV (aV (bT (aa (af ?_)))))
  obtain rfl : k = n.toNat := by omega
  refine nT (l' := (d6 l (dA cs) a n.toNat)) (List.take_of_length_le (by omega)) ?_
  refine ab (zz0 (ac rfl) (zz0 (ad rfl) (ae (aa (ao ?_)))))
  refine aI Tryz.results90 rfl (fun w' hw => ?_)
  exact ⟨_, rfl, hw.below (Bg.le.refl _), hw.new (.head _)⟩
theorem oK (n : Int) (w : World) :
  Calls Tryz.prog 47 #[.int .i64 n] w (fun e w' => e = .returned (.bool (jp n)) ∧ Ext w w') := by
 refine enter Tryz.func47 rfl Tryz.ntmps47 rfl ?_
 refine af (ab (zz0 (ad rfl) (ae (aa (af (ab (zz0 (ac rfl) (zz0 (aN rfl rfl) (zz0 (ac rfl) ?_)))))))))
 apply cZ
 ·exact (rfl : _ = (3, 5, 8))
 ·exact rfl
 ·intro hF1; have hF1' := hF1
  try simp only [bs] at hF1'
  refine zz5 hF1 (ac rfl) (zz5 hF1 (aN rfl rfl) (zz0 (aF rfl hF1 rfl) ?_))
  refine ae (aa ?_)
  exact aw (Sub.cons rfl (zz7 3 rfl))
 ·intro hT1
  refine zz6 hT1 (zz6 hT1 (zz0 (aE rfl hT1 rfl) ?_))
  refine ae (aa ?_)
  exact aw (Sub.cons rfl (zz7 3 rfl))
 refine zz0 (ac rfl) ?_
 apply cZ
 ·exact (rfl : _ = (3, 9, 12))
 ·exact rfl
 ·intro hF2; have hF2' := hF2
  try simp only [bs] at hF2'
  refine zz5 hF2 (ac rfl) (zz5 hF2 (aN rfl rfl) (zz0 (aF rfl hF2 rfl) ?_))
  refine ae (aa ?_)
  exact aw (Sub.cons rfl (zz7 3 rfl))
 ·intro hT2
  refine zz6 hT2 (zz6 hT2 (zz0 (aE rfl hT2 rfl) ?_))
  refine ae (aa ?_)
  exact aw (Sub.cons rfl (zz7 3 rfl))
 refine zz0 (ad rfl) (ae (aa (ao ?_)))
 refine aI Tryz.results47 rfl (fun w' hw => ?_)
 exact ⟨by unfold jp; congr 2; rw [Bool.eq_iff_iff]; simp [or_assoc], hw.below (Bg.le.refl _)⟩
theorem l8 (l : List SecV) (cs : List CellV) (xl xc : SV) (a : UInt32) (n : Int) (w : World) (hL : Sl (hp w) cf l (.slice xl.a xl.n xl.c)) (hC : Sl (hp w) cQ cs (.slice xc.a xc.n xc.c)) (hD : DataIn (hp w) l) (hB : SecB l) :
  Calls Tryz.prog 34 #[.agg (f8 xl xc).toArray, .int .u32 a.toNat, .int .i64 n] w (fun e w' => e = .returned (.tuple #[.int .u32 (cP l (dA cs) a n).1.toNat, .int .i64 (cP l (dA cs) a n).2]) ∧ Ext w w') := by
 have hL' : Sl (Bg.of w).blk cf l (.slice xl.a xl.n xl.c) := hL
 have hC' : Sl (Bg.of w).blk cQ cs (.slice xc.a xc.n xc.c) := hC
 have hD' : DataIn (Bg.of w).blk l := hD
 have hln := hL.len_v
 have hcn := hC.len_v
 have hcl := hC.len_le
 have hrg := kS (l := l) (a := a)
 have hal := a.toNat_lt
 have hll := hB.1
 have hbl := kD l (dA cs) n.toNat a
 refine enter Tryz.func34 rfl Tryz.ntmps34 rfl ?_
 refine af (ab ?_)
 refine cM rfl rfl rfl (fun b1 => ?_)
 refine zz0 (ad rfl) (zz0 (ad rfl) (ae (aa (af (af (ab (zz0 (zz3 (off := 0) (ft := 4) rfl bS rfl bv) ?_)))))))
 refine zz0 (aM rfl bR) ?_
 refine zz0 (cj rfl) (ae (aa ?_))
 refine ak rfl ?_ ?_ <;> intro h2 <;> try simp only [bs] at h2
 ·first | contradiction | (exfalso; omega) | simp_all
 ·refine ax (aa (af (af (ab (zz0 (ac rfl) (zz0 (aB rfl Tryz.call47 (fun w hw => oK n w)) ?_))))))
  refine zz0 (cj rfl) (ae (aa ?_))
  refine ak rfl ?_ ?_ <;> intro h3 <;> try simp only [bs] at h3
  ·refine af (ab (zz0 (ad rfl) (zz0 (ad rfl) (ae (aa (ao (an ?_)))))))
   refine cy Tryz.results34 rfl rfl (fun w' hw => ?_)
   exact ⟨by rw [yZ (by simp_all)]; rfl, hw.below (Bg.le.refl _)⟩
  ·refine ax (aa (af (af (ab (zz0 (bK rfl bX ba) ?_)))))
   refine zz0 (ac rfl) (zz0 (aB rfl Tryz.call48 (fun w hw => nl l cs xl xc a w (hw.slF hL') (hw.slF hC') (hD'.mono hw.bg) hB)) ?_)
   refine zz0 (ac rfl) (zz0 (cE rfl rfl) (ae (aa ?_)))
   refine ak rfl ?_ ?_ <;> intro h4 <;> try simp only [bs] at h4
   ·refine af (ab (zz0 (ad rfl) (zz0 (ad rfl) (ae (aa (ao (an ?_)))))))
    refine cy Tryz.results34 rfl rfl (fun w' hw => ?_)
    exact ⟨by rw [yY (by simp_all) (by assumption)]; rfl, hw.below (Bg.le.refl _)⟩
   ·refine ax (aa (af ?_))
    have hwd : jp n = true := by simp_all
    have hwn : n = 1 ∨ n = 2 ∨ n = 4 := by unfold jp at hwd; simp at hwd; omega
    refine ab (zz0 (ad rfl) (ae (aa (af (af (ab (zz0 (ac rfl) (zz0 (eE rfl rfl) ?_))))))))
    refine zz0 (ad rfl) (ae (aa (aQ ?_)))
    refine cp (ι := Nat) (fun k => k ≤ n.toNat) (fun _ => _) (fun k => [cellE b1 (f8 xl xc) 30]) (fun k => [(9, .int .i64 ((k : Int) - 1)), (8, .int .u32 (leP ((d6 l (dA cs) a n.toNat).drop k)).toNat)]) (fun k => k) n.toNat (Nat.le_refl _) (.cons (by first | rfl | exact am rfl (by omega) | exact am rfl (by rw [hup]) | exact am rfl (by rw [List.drop_of_length_le (by omega)]; rfl) | exact am rfl (by simp) | exact aS rfl (by simp)) (.cons (by first | rfl | exact am rfl (by omega) | exact am rfl (by rw [hup]) | exact am rfl (by rw [List.drop_of_length_le (by omega)]; rfl) | exact am rfl (by simp) | exact aS rfl (by simp)) Front.nil)) (by repeat' constructor) rfl (fun k hi m hm => ?_)
    replace hi : k ≤ n.toNat := hi
    replace hm : m = k := hm
    change Tr _ _ [cellE b1 (f8 xl xc) 30] ([(9, .int .i64 ((k : Int) - 1)), (8, .int .u32 (leP ((d6 l (dA cs) a n.toNat).drop k)).toNat)] ++ _) _
    have hk1 : k ≤ n.toNat := hi
    refine af (af (ab (zz0 (ac rfl) (zz0 (dl rfl rfl) (ae (aa ?_))))))
    refine ak rfl ?_ ?_ <;> intro h5 <;> try simp only [bs] at h5
    ·refine ax (aa (af (aQ (ab (zz0 (ac rfl) (zz0 (jl (m := 256) rfl rfl) ?_))))))
     refine zz0 (bK rfl bX ba) ?_
     refine zz0 (ac rfl) (zz0 (ac rfl) (zz0 (eY rfl aO aT) (zz0 (cL rfl rfl) ?_)))
     refine zz0 (aB rfl Tryz.call58 (fun w hw => nf l cs xl xc (a + u32 ((k : Int) - 1)) w (hw.slF hL') (hw.slF hC') (hD'.mono hw.bg) hB)) ?_
     refine zz0 (fq rfl bu aT) (zz0 (cL rfl rfl) ?_)
     refine zz0 (ad rfl) (ae (a9 (aa (ab (zz0 (ac rfl) (zz0 (eE rfl rfl) ?_))))))
     refine zz0 (ad rfl) (ae (aa ?_))
     have hup := Cd (b := (d6 l (dA cs) a n.toNat)) (k := k - 1) (by omega)
     rw [show k - 1 + 1 = k by omega] at hup
     have hgd : ((d6 l (dA cs) a n.toNat)).getD (k - 1) default = nj l (dA cs) (a + u32 ((k : Int) - 1)) := by rw [List.getD_eq_getElem?_getD, mi l _ _ a (k - 1) (by omega), ← mU, show ((k - 1 : Nat) : Int) = (k : Int) - 1 by omega]; rfl
     rw [hgd] at hup
     apply bP (k - 1)
     ·exact rfl
     ·exact (.cons (by first | rfl | exact am rfl (by omega) | exact am rfl (by rw [hup]) | exact am rfl (by rw [List.drop_of_length_le (by omega)]; rfl) | exact am rfl (by simp) | exact aS rfl (by simp)) (.cons (by first | rfl | exact am rfl (by omega) | exact am rfl (by rw [hup]) | exact am rfl (by rw [List.drop_of_length_le (by omega)]; rfl) | exact am rfl (by simp) | exact aS rfl (by simp)) Front.nil))
     ·exact bQ 18 rfl
     ·exact (by repeat' constructor)
     ·exact (by show k - 1 ≤ _; omega)
     ·exact (by show k - 1 < m; omega)
    ·refine cm (aV (aV (bT (aa (af (ab (zz0 (ac rfl) (zz0 (ad rfl) (zz0 (ad rfl) (ae (aa (ao ?_))))))))))))
     refine cy Tryz.results34 rfl rfl (fun w' hw => ?_)
     obtain rfl : k = 0 := by omega
     exact ⟨by rw [yX (by simp_all) (by assumption)]; rfl, hw.below (Bg.le.refl _)⟩
theorem tG (cs : List CellV) (xl xc : SV) (a : UInt32) (y : UInt8) (w : World) (hC : Sl (hp w) cQ cs (.slice xc.a xc.n xc.c)) (hcb : cs.length ≤ 10000000) :
  Calls Tryz.prog 50 #[.agg (f8 xl xc).toArray, .int .u32 a.toNat, .int .u8 y.toNat] w (fun e w' => ∃ j : SV, e = .returned (.agg (f8 xl j).toArray) ∧ Ext w w' ∧ NewRow w w' 106 cQ (lk a y cs) (.slice j.a j.n j.c)) := by
 have hC' : Sl (Bg.of w).blk cQ cs (.slice xc.a xc.n xc.c) := hC
 have hcn := hC.len_v
 refine enter Tryz.func50 rfl Tryz.ntmps50 rfl ?_
 refine af (ab ?_)
 refine cM rfl rfl rfl (fun b1 => ?_)
 refine c9 dR rfl (fun b2 => ?_)
 refine ae (aa (af (ab (zz0 (ad rfl) (ae (aa (af (aQ ?_))))))))
 refine cp (ι := Nat) (fun k => k ≤ cs.length ∧ ∀ j, j < k → (cs.getD j default).addr < a) (fun _ => _) (fun k => [cellE b2 [.bool false, .slice none 0 0, .slice none 0 0] 30, cellE b1 (f8 xl xc) 30]) (fun k => [(7, .int .i64 (k : Nat))]) (fun k => cs.length - k) 0 ⟨Nat.zero_le _, fun j hj => by omega⟩ (.cons (by first | rfl | exact am rfl (by omega) | exact am rfl (by simp) | exact aS rfl (by simp)) Front.nil) (by repeat' constructor) rfl (fun k hi m hm => ?_)
 replace hi : k ≤ cs.length ∧ ∀ j, j < k → (cs.getD j default).addr < a := hi
 replace hm : m = cs.length - k := hm
 change Tr _ _ [cellE b2 [.bool false, .slice none 0 0, .slice none 0 0] 30, cellE b1 (f8 xl xc) 30] ([(7, .int .i64 (k : Nat))] ++ _) _
 obtain ⟨hk1, hk2⟩ := hi
 refine af (af (ab (zz0 (ac rfl) (zz0 (zz3 (off := 2) (ft := 28) rfl bS rfl ed) ?_))))
 refine zz0 (aM rfl ff) ?_
 refine zz0 (gI rfl cG) ?_
 refine zz0 (cE rfl rfl) (zz0 (ac rfl) ?_)
 apply bF
 ·exact (rfl : _ = (9, 14, 23))
 ·exact rfl
 ·intro hT3; have hT3' := hT3
  try simp only [bs] at hT3'
  refine zz5 hT3 (zz3 (off := 2) (ft := 28) rfl bS rfl ed) ?_
  refine zz5 hT3 (aM rfl ff) ?_
  refine zz5 hT3 (ac rfl) (zz5 hT3 (i9 rfl rfl cG eT) ?_)
  refine zz5 hT3 (zz3 (off := 0) (ft := 23) rfl fe rfl ah) ?_
  refine zz5 hT3 (ly rfl az) ?_
  refine zz5 hT3 (ac rfl) (zz5 hT3 (gG rfl rfl) ?_)
  refine zz0 (aE rfl hT3 rfl) ?_
  refine ae (aa ?_)
  exact aw (Sub.cons rfl (zz7 9 rfl))
 ·intro hF3
  refine zz6 hF3 (zz6 hF3 (zz6 hF3 (zz6 hF3 (zz6 hF3 (zz6 hF3 (zz6 hF3 (zz6 hF3 (zz0 (aF rfl hF3 rfl) ?_))))))))
  refine ae (aa ?_)
  exact aw (Sub.cons rfl (zz7 9 rfl))
 refine ae (aa ?_)
 refine ak rfl ?_ ?_ <;> intro h4 <;> try simp only [bs] at h4
 ·refine ax (aa (aQ (ab (zz0 (ac rfl) (zz0 (dq rfl rfl) ?_)))))
  refine zz0 (ad rfl) (ae (a9 (aa ?_)))
  have hlow : (cs.getD k default).addr < a := (by assumption : (k : Int) < (cs.length : Int) ∧ (cs.getD k default).addr < a).2
  have hnext : ∀ j, j < k + 1 → (cs.getD j default).addr < a := by
   intro j hj
   rcases Nat.lt_or_eq_of_le (Nat.lt_succ_iff.1 hj) with q | q
   ·exact hk2 j q
   ·subst q; exact hlow
  apply bP (k + 1)
  ·exact rfl
  ·exact (.cons (by first | rfl | exact am rfl (by omega) | exact am rfl (by simp) | exact aS rfl (by simp)) Front.nil)
  ·exact bQ 11 rfl
  ·exact (by repeat' constructor)
  ·exact ⟨by omega, hnext⟩
  ·exact (by show cs.length - (k + 1) < m; omega)
 ·refine cm (aV (aV (bT (aa (af ?_)))))
  have hstop : k < cs.length → ¬ (cs.getD k default).addr < a := by
   intro q1 q2
   rcases (by assumption : ¬ (k : Int) < (cs.length : Int) ∨ ¬ (cs.getD k default).addr < a) with q | q
   ·omega
   ·exact q q2
  have hparts := pZ (b := y) cs k hk1 hk2 hstop
  have hs1 : Sl (Bg.of w).blk cQ (cs.take k) (HL.Cs (.slice xc.a xc.n xc.c) 0 k cQ.k) := by
   have q := Sl.resl hC' (l := 0) (h := k) (by omega) (by omega)
   rw [List.drop_zero] at q; exact q
  refine ab ?_
  refine pA cQ cG eT rfl (fun V5 => ?_)
  refine zz0 (zz3 (off := 2) (ft := 28) rfl bS rfl ed) ?_
  refine zz0 (aM rfl ff) ?_
  refine zz0 (ac rfl) (zz0 (qN (lv := none) (hv := some (_, _)) rfl rfl rfl cG eT) ?_)
  refine gJ (ys := cs.take k) rfl rfl (by repeat constructor) (fun w hw => hw.slF hs1) cG mS (by rfl) (by rfl) (by (try simp only [List.length_cons, List.length_nil, List.length_append, List.length_take, List.length_drop]); omega) (by unfold maxLen; (try simp only [List.length_cons, List.length_nil, List.length_append, List.length_take, List.length_drop]); omega) rfl (fun V71 => ?_)
  rw [List.nil_append]
  refine zz0 (ad rfl) (ae (aa (af (ab (zz0 (ac rfl) (zz0 (ac rfl) (zz0 (ac rfl) (zz0 (bE (vs := [(0, _), (1, _)]) rfl rfl (oG _ _)) ?_))))))))
  refine fB (E := cQ) (⟨a, y⟩ : CellV) rfl rfl cG eT Tryz.zeroValue106 (by rfl) (by rfl) rfl (fun V6 => ?_)
  refine zz8 rfl rfl cG mS (fun V7 => ?_)
  refine zz0 (ad rfl) (ae (aa ?_))
  refine eJ (ι := Nat × Value) (fun ⟨k2, Vj⟩ => k2 = (if k < cs.length ∧ (cs.getD k default).addr = a then k + 1 else k)) (fun _ => Bg.of w) (fun ⟨k2, Vj⟩ => [rowE Vj 106 cQ (cs.take k ++ [⟨a, y⟩]), cellE b2 [.bool false, .slice none 0 0, .slice none 0 0] 30, cellE b1 (f8 xl xc) 30]) (fun ⟨k2, Vj⟩ => [(7, .int .i64 (k2 : Nat)), (8, Vj)]) ?_ (fun i hi => ?_)
  ·skip
   refine af (ab (zz0 (ac rfl) (zz0 (zz3 (off := 2) (ft := 28) rfl bS rfl ed) ?_)))
   refine zz0 (aM rfl ff) ?_
   refine zz0 (gI rfl cG) ?_
   refine zz0 (cE rfl rfl) (zz0 (ac rfl) ?_)
   apply bF
   ·exact (rfl : _ = (9, 43, 52))
   ·exact rfl
   ·intro hT8; have hT8' := hT8
    try simp only [bs] at hT8'
    refine zz5 hT8 (zz3 (off := 2) (ft := 28) rfl bS rfl ed) ?_
    refine zz5 hT8 (aM rfl ff) ?_
    refine zz5 hT8 (ac rfl) (zz5 hT8 (i9 rfl rfl cG eT) ?_)
    refine zz5 hT8 (zz3 (off := 0) (ft := 23) rfl fe rfl ah) ?_
    refine zz5 hT8 (ly rfl az) ?_
    refine zz5 hT8 (ac rfl) (zz5 hT8 (gk rfl rfl) ?_)
    refine zz0 (aE rfl hT8 rfl) ?_
    refine ae (aa ?_)
    exact aw (Sub.cons rfl (zz7 9 rfl))
   ·intro hF8
    refine zz6 hF8 (zz6 hF8 (zz6 hF8 (zz6 hF8 (zz6 hF8 (zz6 hF8 (zz6 hF8 (zz6 hF8 (zz0 (aF rfl hF8 rfl) ?_))))))))
    refine ae (aa ?_)
    exact aw (Sub.cons rfl (zz7 9 rfl))
   refine ae (aa ?_)
   refine ak rfl ?_ ?_ <;> intro h9 <;> try simp only [bs] at h9
   ·refine ab (zz0 (ac rfl) (zz0 (dq rfl rfl) ?_))
    refine zz0 (ad rfl) (ae (aa ?_))
    have hc2 : k < cs.length ∧ (cs.getD k default).addr = a := by
     obtain ⟨q1, q2⟩ := (by assumption : (k : Int) < (cs.length : Int) ∧ (cs.getD k default).addr = a)
     exact ⟨by omega, q2⟩
    apply aZ (k + 1, _)
    ·exact rfl
    ·exact (.cons (by first | rfl | exact am rfl (by omega) | exact am rfl (by simp) | exact aS rfl (by simp)) (.cons (by first | rfl | exact am rfl (by omega) | exact am rfl (by simp) | exact aS rfl (by simp)) Front.nil))
    ·exact bQ 10 rfl
    ·exact (by repeat' constructor)
    ·exact (by show k + 1 = _; rw [if_pos hc2])
   ·refine ax (aa ?_)
    have hc2 : ¬ (k < cs.length ∧ (cs.getD k default).addr = a) := by
     rintro ⟨q1, q2⟩
     rcases (by assumption : ¬ (k : Int) < (cs.length : Int) ∨ ¬ (cs.getD k default).addr = a) with q | q
     ·omega
     ·exact q q2
    apply aZ (k, _)
    ·exact rfl
    ·exact (.cons (by first | rfl | exact am rfl (by omega) | exact am rfl (by simp) | exact aS rfl (by simp)) (.cons (by first | rfl | exact am rfl (by omega) | exact am rfl (by simp) | exact aS rfl (by simp)) Front.nil))
    ·exact bQ 7 rfl
    ·exact (by repeat' constructor)
    ·exact (by show k = _; rw [if_neg hc2])
  ·obtain ⟨k2, Vj⟩ := i
   replace hi : k2 = (if k < cs.length ∧ (cs.getD k default).addr = a then k + 1 else k) := hi
   change Tr _ _ [rowE Vj 106 cQ (cs.take k ++ [⟨a, y⟩]), cellE b2 [.bool false, .slice none 0 0, .slice none 0 0] 30, cellE b1 (f8 xl xc) 30] ([(7, .int .i64 (k2 : Nat)), (8, Vj)] ++ _) _
   have hk2' : k2 = (if k < cs.length ∧ (cs.getD k default).addr = a then k + 1 else k) := hi
   have hk2l : k2 ≤ cs.length := by rw [hk2']; split <;> omega
   have hs2 : Sl (Bg.of w).blk cQ (cs.drop k2) (HL.Cs (.slice xc.a xc.n xc.c) k2 cs.length cQ.k) := by
    have q := Sl.resl hC' (l := k2) (h := cs.length) (by omega) (by omega)
    rw [List.take_length] at q; exact q
   rw [← hk2'] at hparts
   have hdl : (cs.drop k2).length = cs.length - k2 := List.length_drop
   refine af (ab (zz0 (ac rfl) (zz0 (zz3 (off := 2) (ft := 28) rfl bS rfl ed) ?_)))
   refine zz0 (aM rfl ff) ?_
   refine zz0 (ac rfl) (zz0 (qN (lv := some (_, _)) (hv := none) rfl rfl rfl cG eT) ?_)
   refine gJ (ys := cs.drop k2) rfl rfl (by repeat constructor) (fun w hw => hw.slF hs2) cG mS (by rfl) (by rfl) (by (try simp only [List.length_cons, List.length_nil, List.length_append, List.length_take, List.length_drop]); omega) (by unfold maxLen; (try simp only [List.length_cons, List.length_nil, List.length_append, List.length_take, List.length_drop]); omega) rfl (fun V73 => ?_)
   have hres : cs.take k ++ [⟨a, y⟩] ++ cs.drop k2 = lk a y cs := by rw [hparts]
   rw [hres]
   refine jm (V := V73) (fun p73 c73 hpv => ?_)
   subst hpv
   refine zz0 (zz3 (off := 2) (ft := 28) rfl bS rfl ed) ?_
   refine zz4 rfl rfl ed (rfl : splice (f8 xl xc) 2 [.slice p73 _ c73] = f8 xl ⟨p73, _, c73⟩) ?_
   refine ae (aa (af (ab (zz0 (bK rfl bX ba) ?_))))
   refine bb gA rfl rfl ba ?_
   refine ae (aa (ao ?_))
   refine fJ Tryz.results50 rfl (by repeat constructor) bX ba (by rfl) (fun w' hw => ?_)
   exact ⟨⟨p73, _, c73⟩, rfl, hw.below (Bg.le.refl _), hw.new (by repeat constructor)⟩
theorem kU (l : List SecV) (cs : List CellV) (xl xc : SV) (a : UInt32) (n : Int) (y : UInt32) (w : World) (hL : Sl (hp w) cf l (.slice xl.a xl.n xl.c)) (hC : Sl (hp w) cQ cs (.slice xc.a xc.n xc.c)) (hD : DataIn (hp w) l) (hB : SecB l) (hcb : cs.length ≤ 2000000) :
  Calls Tryz.prog 27 #[.agg (f8 xl xc).toArray, .int .u32 a.toNat, .int .i64 n, .int .u32 y.toNat] w (fun e w' => ∃ j : SV, e = .returned (.tuple #[.agg (f8 xl j).toArray, .int .i64 (bO l (dA cs) a n y).2]) ∧ Ext w w' ∧ ((bO l (dA cs) a n y).2 ≠ 0 → j = xc) ∧ ((bO l (dA cs) a n y).2 = 0 → Sl (qi w w') cQ (e8 cs a y n.toNat) (.slice j.a j.n j.c))) := by
 have hL' : Sl (Bg.of w).blk cf l (.slice xl.a xl.n xl.c) := hL
 have hC' : Sl (Bg.of w).blk cQ cs (.slice xc.a xc.n xc.c) := hC
 have hD' : DataIn (Bg.of w).blk l := hD
 have hln := hL.len_v
 have hcn := hC.len_v
 have hcl := hC.len_le
 have hrg := kS (l := l) (a := a)
 have hal := a.toNat_lt
 have hll := hB.1
 refine enter Tryz.func27 rfl Tryz.ntmps27 rfl ?_
 refine af (ab ?_)
 refine cM rfl rfl rfl (fun b1 => ?_)
 refine c9 dR rfl (fun b2 => ?_)
 refine zz0 (ad rfl) (ae (aa (af (af (ab (zz0 (zz3 (off := 0) (ft := 4) rfl bS rfl bv) ?_))))))
 refine zz0 (aM rfl bR) ?_
 refine zz0 (cj rfl) (ae (aa ?_))
 refine ak rfl ?_ ?_ <;> intro h3 <;> try simp only [bs] at h3
 ·first | contradiction | (exfalso; omega) | simp_all
 ·refine ax (aa (af (af (ab (zz0 (ac rfl) (zz0 (aB rfl Tryz.call47 (fun w hw => oK n w)) ?_))))))
  refine zz0 (cj rfl) (ae (aa ?_))
  refine ak rfl ?_ ?_ <;> intro h4 <;> try simp only [bs] at h4
  ·refine af (ab (zz0 (bK rfl bX ba) ?_))
   refine bb gA rfl rfl ba ?_
   refine zz0 (ad rfl) (ae (aa (ao (an ?_))))
   refine ei kc rfl rfl bX ba (fun w' hw => ?_)
   exact ⟨xc, by rw [bO, if_pos (by simp_all)] <;> rfl, hw.below (Bg.le.refl _), fun _ => rfl, fun q => by rw [bO, if_pos (by simp_all)] at q; cases q⟩
  ·refine ax (aa (af (af (ab (zz0 (bK rfl bX ba) ?_)))))
   refine zz0 (ac rfl) (zz0 (aB rfl Tryz.call48 (fun w hw => nl l cs xl xc a w (hw.slF hL') (hw.slF hC') (hD'.mono hw.bg) hB)) ?_)
   refine zz0 (ac rfl) (zz0 (cE rfl rfl) (ae (aa ?_)))
   refine ak rfl ?_ ?_ <;> intro h5 <;> try simp only [bs] at h5
   ·refine af (ab (zz0 (bK rfl bX ba) ?_))
    refine bb gA rfl rfl ba ?_
    refine zz0 (ad rfl) (ae (aa (ao (an ?_))))
    refine ei kc rfl rfl bX ba (fun w' hw => ?_)
    exact ⟨xc, by rw [bO, if_neg (by simp_all), if_pos (by assumption)] <;> rfl, hw.below (Bg.le.refl _), fun _ => rfl, fun q => by rw [bO, if_neg (by simp_all), if_pos (by assumption)] at q; cases q⟩
   ·refine ax (aa (af ?_))
    have hwd : jp n = true := by simp_all
    have hwn : n = 1 ∨ n = 2 ∨ n = 4 := by unfold jp at hwd; simp at hwd; omega
    have hrn := yz (l := l) (a := a) (by omega)
    refine ab (zz0 (bK rfl bX ba) ?_)
    refine zz0 (ac rfl) (zz0 (aB rfl m0 (fun w hw => j5 l cs xl xc a w (hw.slF hL') (hw.slF hC') (hD'.mono hw.bg) hB)) ?_)
    refine zz0 (ad rfl) (ae (aa (af (af (ab (zz0 (ac rfl) (zz0 (zz3 (off := 1) (ft := 22) rfl bS rfl eZ) ?_)))))))
    refine zz0 (aM rfl fD) ?_
    refine zz0 (gI rfl bh) ?_
    refine zz0 (cE rfl rfl) (zz0 (ac rfl) ?_)
    apply bF
    ·exact (rfl : _ = (8, 34, 42))
    ·exact rfl
    ·intro hT6; have hT6' := hT6
     try simp only [bs] at hT6'
     refine zz5 hT6 (zz3 (off := 1) (ft := 22) rfl bS rfl eZ) ?_
     refine zz5 hT6 (aM rfl fD) ?_
     refine zz5 hT6 (ac rfl) (zz5 hT6 (gP rfl rfl bh bL) ?_)
     refine zz5 hT6 (zz3 (off := 3) (ft := 4) rfl bC rfl bv) ?_
     refine zz5 hT6 (ly rfl bR) ?_
     refine zz5 hT6 (cj rfl) (zz0 (aE rfl hT6 rfl) ?_)
     refine ae (aa ?_)
     exact aw (Sub.cons rfl (zz7 8 rfl))
    ·intro hF6
     refine zz6 hF6 (zz6 hF6 (zz6 hF6 (zz6 hF6 (zz6 hF6 (zz6 hF6 (zz6 hF6 (zz0 (aF rfl hF6 rfl) ?_)))))))
     refine ae (aa ?_)
     exact aw (Sub.cons rfl (zz7 8 rfl))
    refine ae (aa ?_)
    refine ak rfl ?_ ?_ <;> intro h7 <;> try simp only [bs] at h7
    ·refine af (ab (zz0 (bK rfl bX ba) ?_))
     refine bb gA rfl rfl ba ?_
     refine zz0 (ad rfl) (ae (aa (ao (an ?_))))
     refine ei kc rfl rfl bX ba (fun w' hw => ?_)
     have hlt : fu l a < (l.length : Int) := by simp_all
     have hsx : eB l a = (l.getD (fu l a).toNat default) := by unfold eB; rw [(ie hrn (by omega)).2.1]
     have hwr : wrA l a = false := by rw [ya hrn (by omega), hsx]; simp_all
     exact ⟨xc, by rw [bO, if_neg (by simp_all), if_neg (by assumption), if_pos hwr] <;> rfl, hw.below (Bg.le.refl _), fun _ => rfl, fun q => by rw [bO, if_neg (by simp_all), if_neg (by assumption), if_pos hwr] at q; cases q⟩
    ·refine ax (aa (af (af ?_)))
     have hwr : wrA l a = true := by
      by_cases q : fu l a = (l.length : Int)
      ·exact Bo q
      ·rw [ya hrn q]
       have hsx : eB l a = (l.getD (fu l a).toNat default) := by unfold eB; rw [(ie hrn q).2.1]
       rw [hsx]
       have hlt : fu l a < (l.length : Int) := by omega
       simp_all
     refine ab (zz0 (ad rfl) (ae (aa (aQ ?_))))
     refine cp (ι := Nat × SV × Bg) (fun ⟨k, xg, G⟩ => k ≤ n.toNat ∧ (Bg.of w).le G ∧ Sl G.blk cQ (e8 cs a y k) (.slice xg.a xg.n xg.c) ∧ (0 < k → Sl (vis u7 w.heap.size G.blk) cQ (e8 cs a y k) (.slice xg.a xg.n xg.c))) (fun ⟨k, xg, G⟩ => G) (fun ⟨k, xg, G⟩ => [cellE b2 [.bool false, .slice none 0 0, .slice none 0 0] 30, cellE b1 (f8 xl xg) 30]) (fun ⟨k, xg, G⟩ => [(11, .int .i64 (k : Nat)), (3, .int .u32 (fS y (8 * k)).toNat)]) (fun ⟨k, xg, G⟩ => n.toNat - k) (0, xc, Bg.of w) ⟨Nat.zero_le _, Bg.le.refl _, hC', fun q => by omega⟩ (.cons (by first | rfl | exact am rfl (by omega) | exact am rfl (by rw [kP]) | exact am rfl (by rw [Nat.mul_zero, kQ]) | exact am rfl (by simp) | exact aS rfl (by simp)) (.cons (by first | rfl | exact am rfl (by omega) | exact am rfl (by rw [kP]) | exact am rfl (by rw [Nat.mul_zero, kQ]) | exact am rfl (by simp) | exact aS rfl (by simp)) Front.nil)) (by repeat' constructor) rfl (fun i hi m hm => ?_)
     obtain ⟨k, xg, G⟩ := i
     replace hi : k ≤ n.toNat ∧ (Bg.of w).le G ∧ Sl G.blk cQ (e8 cs a y k) (.slice xg.a xg.n xg.c) ∧ (0 < k → Sl (vis u7 w.heap.size G.blk) cQ (e8 cs a y k) (.slice xg.a xg.n xg.c)) := hi
     replace hm : m = n.toNat - k := hm
     change Tr _ (G) [cellE b2 [.bool false, .slice none 0 0, .slice none 0 0] 30, cellE b1 (f8 xl xg) 30] ([(11, .int .i64 (k : Nat)), (3, .int .u32 (fS y (8 * k)).toNat)] ++ _) _
     obtain ⟨hk1, hG, hxg, hxn⟩ := hi
     have hpl := iZ cs a y k
     refine af (af (ab (zz0 (ac rfl) (zz0 (ac rfl) (zz0 (cE rfl rfl) (ae (aa ?_)))))))
     refine ak rfl ?_ ?_ <;> intro h8 <;> try simp only [bs] at h8
     ·refine ax (aa (af (aQ (af (ab (zz0 (bK rfl bX ba) ?_))))))
      refine zz0 (ac rfl) (zz0 (ac rfl) (zz0 (eY rfl aO aT) (zz0 (cL rfl rfl) ?_)))
      refine zz0 (ac rfl) (zz0 (kJ (n := 256) rfl rfl (by first | decide | assumption)) ?_)
      refine zz0 (oZ rfl aT bu) ?_
      refine fK (H0 := u7) (n := w.heap.size) (R := fun h (j : SV) => Sl h cQ (lk (a + u32 (k : Int)) (fS y (8 * k) % 256).toUInt8 (e8 cs a y k)) (.slice j.a j.n j.c)) (fun j : SV => .agg (f8 xl j).toArray) hG.lo (l9 _) (fun h h' i hh r => r.mono hh) rfl Tryz.call50 (fun w hw hv => (tG (e8 cs a y k) xl xg (a + u32 (k : Int)) (fS y (8 * k) % 256).toUInt8 w (hw.slF hxg) (by omega)).mono fun e w' ⟨j, q1, q2, q3⟩ => ⟨j, q1, q2, q3.sl.mono i5⟩) rfl (fun j F1 hF1 hj => ?_)
      refine bb gA rfl rfl ba ?_
      refine ae (aa (ab (zz0 (ac rfl) (zz0 (nV (n := 256) rfl rfl (by first | decide | assumption)) ?_))))
      refine zz0 (ad rfl) (ae (a9 (aa (ab (zz0 (ac rfl) (zz0 (dq rfl rfl) ?_))))))
      refine zz0 (ad rfl) (ae (aa ?_))
      have hput : lk (a + u32 (k : Int)) (fS y (8 * k) % 256).toUInt8 (e8 cs a y k) = e8 cs a y (k + 1) := by rw [W.u32_byteI, mU]; rfl
      rw [hput] at hj
      apply bP (k + 1, j, F1)
      ·exact rfl
      ·exact (.cons (by first | rfl | exact am rfl (by omega) | exact am rfl (by rw [kP]) | exact am rfl (by rw [Nat.mul_zero, kQ]) | exact am rfl (by simp) | exact aS rfl (by simp)) (.cons (by first | rfl | exact am rfl (by omega) | exact am rfl (by rw [kP]) | exact am rfl (by rw [Nat.mul_zero, kQ]) | exact am rfl (by simp) | exact aS rfl (by simp)) Front.nil))
      ·exact bQ 20 rfl
      ·exact (by repeat' constructor)
      ·exact ⟨by omega, hG.trans hF1, hj.mono (lg (l9 _)), fun _ => hj⟩
      ·exact (by show n.toNat - (k + 1) < m; omega)
     ·refine cm (aV (aV (bT (aa (af (ab (zz0 (bK rfl bX ba) ?_)))))))
      refine bb gA rfl rfl ba ?_
      refine zz0 (ad rfl) (ae (aa (ao ?_)))
      refine ei kc rfl rfl bX ba (fun w' hw => ?_)
      obtain rfl : k = n.toNat := by omega
      have hst : bO l (dA cs) a n y = (m8 (dA cs) a y n.toNat, 0) := pg (by simp_all) (by assumption) (by rw [hwr]; simp)
      exact ⟨xg, by rw [hst] <;> rfl, hw.below hG, fun q => by rw [hst] at q; exact absurd rfl q, fun _ => (hxn (by omega)).mono (bV hw.hp)⟩
theorem tJ (l : List SecV) (cs : List CellV) (xl xc : SV) (a : UInt32) (w : World) (hL : Sl (hp w) cf l (.slice xl.a xl.n xl.c)) (hC : Sl (hp w) cQ cs (.slice xc.a xc.n xc.c)) (hD : DataIn (hp w) l) (hB : SecB l) :
  Calls Tryz.prog 62 #[.agg (f8 xl xc).toArray, .int .u32 a.toNat] w (fun e w' => ∃ V', e = .returned (.tuple #[V', .int .i64 (dB l (dA cs) a).2]) ∧ Ext w w' ∧ NewRow w w' 5 dH (dB l (dA cs) a).1 V') := by
 have hL' : Sl (Bg.of w).blk cf l (.slice xl.a xl.n xl.c) := hL
 have hC' : Sl (Bg.of w).blk cQ cs (.slice xc.a xc.n xc.c) := hC
 have hD' : DataIn (Bg.of w).blk l := hD
 have hln := hL.len_v
 have hcn := hC.len_v
 have hcl := hC.len_le
 have hrg := kS (l := l) (a := a)
 have hal := a.toNat_lt
 have hll := hB.1
 refine enter Tryz.func62 rfl Tryz.ntmps62 rfl ?_
 refine af (ab ?_)
 refine cM rfl rfl rfl (fun b1 => ?_)
 refine zz0 (ad rfl) (zz0 (ad rfl) (ae (aa (af (af (ab (zz0 (zz3 (off := 0) (ft := 4) rfl bS rfl bv) ?_)))))))
 refine zz0 (aM rfl bR) ?_
 refine zz0 (cj rfl) (ae (aa ?_))
 refine ak rfl ?_ ?_ <;> intro h2 <;> try simp only [bs] at h2
 ·first | contradiction | (exfalso; omega) | simp_all
 ·refine ax (aa (af (ab (zz0 (bK rfl bX ba) ?_))))
  refine zz0 (ac rfl) (zz0 (aB rfl m0 (fun w hw => j5 l cs xl xc a w (hw.slF hL') (hw.slF hC') (hD'.mono hw.bg) hB)) ?_)
  refine zz0 (ad rfl) (ae (aa (af (af (ab (zz0 (ac rfl) (zz0 (cE rfl rfl) (ae (aa ?_)))))))))
  refine ak rfl ?_ ?_ <;> intro h3 <;> try simp only [bs] at h3
  ·refine af (ab (zz0 (ad rfl) (zz0 (ad rfl) (ae (aa (ao (an ?_)))))))
   refine cy Tryz.results62 rfl rfl (fun w' hw => ?_)
   have hq : dB l (dA cs) a = ([], 11) := by unfold dB; rw [if_pos (nC.1 (by assumption))]
   exact ⟨_, by rw [hq], hw.below (Bg.le.refl _), ku (by rw [hq])⟩
  ·refine ax (aa (af (af (ab (zz0 (ac rfl) (zz0 (zz3 (off := 1) (ft := 22) rfl bS rfl eZ) ?_))))))
   refine zz0 (aM rfl fD) ?_
   refine zz0 (gI rfl bh) ?_
   refine zz0 (aN rfl rfl) (zz0 (ac rfl) ?_)
   apply cZ
   ·exact (rfl : _ = (8, 20, 28))
   ·exact rfl
   ·intro hF4; have hF4' := hF4
    try simp only [bs] at hF4'
    refine zz5 hF4 (zz3 (off := 1) (ft := 22) rfl bS rfl eZ) ?_
    refine zz5 hF4 (aM rfl fD) ?_
    refine zz5 hF4 (ac rfl) (zz5 hF4 (gP rfl rfl bh bL) ?_)
    refine zz5 hF4 (zz3 (off := 4) (ft := 4) rfl bC rfl bv) ?_
    refine zz5 hF4 (ly rfl bR) ?_
    refine zz5 hF4 (cj rfl) (zz0 (aF rfl hF4 rfl) ?_)
    refine ae (aa ?_)
    exact aw (Sub.cons rfl (zz7 8 rfl))
   ·intro hT4
    refine zz6 hT4 (zz6 hT4 (zz6 hT4 (zz6 hT4 (zz6 hT4 (zz6 hT4 (zz6 hT4 (zz0 (aE rfl hT4 rfl) ?_)))))))
    refine ae (aa ?_)
    exact aw (Sub.cons rfl (zz7 8 rfl))
   refine ae (aa ?_)
   refine ak rfl ?_ ?_ <;> intro h5 <;> try simp only [bs] at h5
   ·refine af (ab (zz0 (ad rfl) (zz0 (ad rfl) (ae (aa (ao (an ?_)))))))
    refine cy Tryz.results62 rfl rfl (fun w' hw => ?_)
    have hx : exA l a = false := by
     by_cases q : fu l a = (l.length : Int)
     ·exact BB q
     ·have hsx : eB l a = (l.getD (fu l a).toNat default) := by unfold eB; rw [(ie (by assumption) q).2.1]
      rw [zj (by assumption) q, hsx]; simp_all
    have hq : dB l (dA cs) a = ([], 12) := by unfold dB; rw [if_neg (fun q => absurd (nC.2 q) (by assumption)), if_pos hx]
    exact ⟨_, by rw [hq], hw.below (Bg.le.refl _), ku (by rw [hq])⟩
   ·refine ax (aa (af (lU 0 6 aU ?_)))
    refine dz ?_
    refine aK (bK rfl bX ba) ?_
    refine aK (ac rfl) (aK (bK rfl bX ba) ?_)
    refine aK (ac rfl) (aK (aB rfl Tryz.call48 (fun w hw => nl l cs xl xc a w (hw.slF hL') (hw.slF hC') (hD'.mono hw.bg) hB)) ?_)
    refine aK (lb rfl rfl) ?_
    refine cH ?_
    refine dV rfl Tryz.call90 (fun w hw => tK l cs xl xc a (min 6 (dW l a)) w (hw.slF hL') (hw.slF hC') (hD'.mono hw.bg) hB (by omega)) rfl (fun V6 => ?_)
    refine zz0 (ad rfl) (zz0 (ad rfl) (ae (aa (ao ?_))))
    refine cy Tryz.results62 rfl rfl (fun w' hw => ?_)
    have hq1 : ¬ fu l a = (l.length : Int) := by intro q; simp_all
    have hx : exA l a = true := by
     have hsx : eB l a = (l.getD (fu l a).toNat default) := by unfold eB; rw [(ie (by assumption) hq1).2.1]
     rw [zj (by assumption) hq1, hsx]; simp_all
    have hq : dB l (dA cs) a = (d6 l (dA cs) a (min 6 (dW l a)).toNat, 0) := by unfold dB; rw [if_neg (fun q => absurd (nC.2 q) (by assumption)), if_neg (by rw [hx]; simp)]
    exact ⟨_, by rw [hq], hw.below (Bg.le.refl _), by rw [hq]; exact hw.new (.head _)⟩
theorem qV (l : List SecV) (cs : List CellV) (xl xc : SV) (w : World) (hL : Sl (hp w) cf l (.slice xl.a xl.n xl.c)) (hC : Sl (hp w) cQ cs (.slice xc.a xc.n xc.c)) (hD : DataIn (hp w) l) (hB : SecB l) (hcb : cs.length ≤ 2000000) :
  Calls Tryz.prog 32 #[.agg (f8 xl xc).toArray] w (fun e w' => ∃ V', e = .returned V' ∧ Ext w w' ∧ NewRow w w' 23 av (kC l cs) V') := by
 have hL' : Sl (Bg.of w).blk cf l (.slice xl.a xl.n xl.c) := hL
 have hC' : Sl (Bg.of w).blk cQ cs (.slice xc.a xc.n xc.c) := hC
 have hD' : DataIn (Bg.of w).blk l := hD
 have hln := hL.len_v
 have hcn := hC.len_v
 have hcl := hC.len_le
 have hll := hB.1
 refine enter Tryz.func32 rfl Tryz.ntmps32 rfl ?_
 refine af (ab ?_)
 refine cM rfl rfl rfl (fun b1 => ?_)
 refine zz0 (ad rfl) (ae (aa (af (ab (zz0 (ad rfl) (ae (aa (af (af (ab (zz0 (ad rfl) (ae (aa ?_)))))))))))))
 refine aQ (gd 23 av ?_)
 refine cp (ι := Nat × Value) (fun ⟨k, V⟩ => k ≤ cs.length) (fun _ => _) (fun ⟨k, V⟩ => [rowE V 23 av (kC l (cs.take k)), cellE b1 (f8 xl xc) 30]) (fun ⟨k, V⟩ => [(4, .int .i64 (k : Nat)), (3, V)]) (fun ⟨k, V⟩ => cs.length - k) (0, _) (Nat.zero_le _) (.cons (by first | rfl | exact am rfl (by omega) | exact am rfl (by simp) | exact aS rfl (by simp)) (.cons (by first | rfl | exact am rfl (by omega) | exact am rfl (by simp) | exact aS rfl (by simp)) Front.nil)) (by repeat' constructor) rfl (fun i hi m hm => ?_)
 obtain ⟨k, V⟩ := i
 replace hi : k ≤ cs.length := hi
 replace hm : m = cs.length - k := hm
 change Tr _ _ [rowE V 23 av (kC l (cs.take k)), cellE b1 (f8 xl xc) 30] ([(4, .int .i64 (k : Nat)), (3, V)] ++ _) _
 have hk1 : k ≤ cs.length := hi
 have hchl := uw l (cs.take k)
 rw [List.length_take] at hchl
 refine af (af (ab (zz0 (ac rfl) (zz0 (zz3 (off := 2) (ft := 28) rfl bS rfl ed) ?_))))
 refine zz0 (aM rfl ff) ?_
 refine zz0 (gI rfl cG) ?_
 refine zz0 (cE rfl rfl) (ae (aa ?_))
 refine ak rfl ?_ ?_ <;> intro h2 <;> try simp only [bs] at h2
 ·refine ax (aa (af (aQ (af (ja aU ?_)))))
  refine aK (zz3 (off := 2) (ft := 28) rfl bS rfl ed) ?_
  refine aK (aM rfl ff) ?_
  refine aK (ac rfl) (aK (i9 rfl rfl cG eT) ?_)
  refine aK (zz3 (off := 1) (ft := 5) rfl fe rfl bN) ?_
  refine aK (ly rfl cw) ?_
  refine aK (bK rfl bX ba) ?_
  refine aK (zz3 (off := 2) (ft := 28) rfl bS rfl ed) ?_
  refine aK (aM rfl ff) ?_
  refine aK (ac rfl) (aK (i9 rfl rfl cG eT) ?_)
  refine aK (zz3 (off := 0) (ft := 23) rfl fe rfl ah) ?_
  refine aK (ly rfl az) ?_
  refine aK (aB rfl Tryz.call54 (fun w hw => ng l cs xl xc (cs.getD k default).addr w (hw.slF hL') (hw.slF hC') (hD'.mono hw.bg) hB)) ?_
  refine aK (mt rfl rfl) ?_
  refine cH ?_
  refine aa ?_
  refine ak rfl ?_ ?_ <;> intro h3 <;> try simp only [bs] at h3
  ·refine ab (zz0 (ac rfl) (zz0 (zz3 (off := 2) (ft := 28) rfl bS rfl ed) ?_))
   refine zz0 (aM rfl ff) ?_
   refine zz0 (ac rfl) (zz0 (i9 rfl rfl cG eT) ?_)
   refine zz0 (zz3 (off := 0) (ft := 23) rfl fe rfl ah) ?_
   refine zz0 (ly rfl az) ?_
   refine fB (E := av) (cs.getD k default).addr rfl rfl al ah fm (by rfl) (by rfl) rfl (fun V4 => ?_)
   refine zz8 rfl rfl al gy (fun V5 => ?_)
   refine zz0 (ad rfl) (ae (a9 (aa (ab (zz0 (ac rfl) (zz0 (dq rfl rfl) ?_))))))
   refine zz0 (ad rfl) (ae (aa ?_))
   have hst := rN (l := l) (cs := cs) (k := k) (by omega)
   rw [if_pos (by simp_all)] at hst
   rw [← hst]
   apply bP (k + 1, _)
   ·exact rfl
   ·exact (.cons (by first | rfl | exact am rfl (by omega) | exact am rfl (by simp) | exact aS rfl (by simp)) (.cons (by first | rfl | exact am rfl (by omega) | exact am rfl (by simp) | exact aS rfl (by simp)) Front.nil))
   ·exact bQ 35 rfl
   ·exact (by repeat' constructor)
   ·exact (by show k + 1 ≤ _; omega)
   ·exact (by show cs.length - (k + 1) < m; omega)
  ·refine ax (a9 (aa (ab (zz0 (ac rfl) (zz0 (dq rfl rfl) ?_)))))
   refine zz0 (ad rfl) (ae (aa ?_))
   have hst := rN (l := l) (cs := cs) (k := k) (by omega)
   rw [if_neg (by simp_all), List.append_nil] at hst
   rw [← hst]
   apply bP (k + 1, _)
   ·exact rfl
   ·exact (.cons (by first | rfl | exact am rfl (by omega) | exact am rfl (by simp) | exact aS rfl (by simp)) (.cons (by first | rfl | exact am rfl (by omega) | exact am rfl (by simp) | exact aS rfl (by simp)) Front.nil))
   ·exact bQ 25 rfl
   ·exact (by repeat' constructor)
   ·exact (by show k + 1 ≤ _; omega)
   ·exact (by show cs.length - (k + 1) < m; omega)
 ·refine cm (aV (aV (bT (aa (af ?_)))))
  obtain rfl : k = cs.length := by omega
  rw [List.take_length]
  refine ab (zz0 (ac rfl) (zz0 (ad rfl) (ae (aa (ao ?_)))))
  refine aI Tryz.results32 rfl (fun w' hw => ?_)
  exact ⟨_, rfl, hw.below (Bg.le.refl _), hw.new (.head _)⟩
theorem tH (l : List SecV) (V : Value) (w : World) (hV : Sl (hp w) cf l V) (hB : SecB l) (hD : DataIn (hp w) l) (hN : ∀ s ∈ l, s.name.size ≤ 140737488351232) (h : dL l = 0) :
  Calls Tryz.prog 8 #[V] w (fun e w' => ∃ i : Value × List SecV, e = .returned (.tuple #[.agg #[.bool true, i.1, .slice none 0 0], .int .i64 0]) ∧ Ext w w' ∧ NewEnts w w' (kR 64 5 i.1 i.2) ∧ i.2.map SecV.pl = l.map SecV.pl) := by
 have hV' : Sl (Bg.of w).blk cf l V := hV
 have hD' : DataIn (Bg.of w).blk l := hD
 refine enter Tryz.func8 rfl Tryz.ntmps8 rfl ?_
 refine af (ab ?_)
 refine c9 dR rfl (fun b1 => ?_)
 refine zz0 (ad rfl) (ae (aa (af (ab (zz0 (ac rfl) (zz0 (aB rfl Tryz.call23 (fun w hw => (by have q := nc l V w (hw.slF hV') hB (fun s hs => by have := hN s hs; omega); rw [h] at q; exact q))) ?_))))))
 refine zz0 (ad rfl) (ae (aa (af (af (ab (zz0 (ac rfl) (zz0 (dk rfl rfl) (ae (aa ?_)))))))))
 refine ak rfl ?_ ?_ <;> intro h2 <;> try simp only [bs] at h2
 ·first | contradiction | (exfalso; omega) | simp_all
 ·refine ax (aa (af (ab (zz0 (ac rfl) ?_))))
  refine e7 (fun i : Value × List SecV => i.1) (fun i => kR 64 5 i.1 i.2) (ok := fun i => i.2.map SecV.pl = l.map SecV.pl) rfl Tryz.call24 (fun w hw => qT l V w (hw.slF hV') hB (hD'.mono hw.bg)) rfl (fun i hi => ?_)
  obtain ⟨Vo, ks⟩ := i
  replace hi : ks.map SecV.pl = l.map SecV.pl := hi
  change Tr _ _ (rowE Vo 64 cf ks :: _) _ _
  refine jm (V := Vo) (fun po co hpv => ?_)
  subst hpv
  refine sR (L' := [_] ++ kR 64 5 (.slice po ks.length co) ks) List.perm_append_comm ?_
  refine zz0 (bE (vs := [(0, _), (1, _)]) rfl rfl rfl) ?_
  refine bb gA rfl rfl ba ?_
  refine zz0 (ad rfl) (ae (aa (ao ?_)))
  refine ei Tryz.results8 rfl rfl bX ba (fun w' hw => ?_)
  exact ⟨(.slice po ks.length co, ks), rfl, hw.below (Bg.le.refl _), hw.ents (Bg.le.refl _) (Pick.skip (Pick.refl _)), hi⟩
theorem tI (l : List SecV) (V : Value) (w : World) (hV : Sl (hp w) cf l V) (hB : SecB l) (hN : ∀ s ∈ l, s.name.size ≤ 140737488351232) (h : dL l ≠ 0) :
  Calls Tryz.prog 8 #[V] w (fun e w' => e = .returned (.tuple #[.agg #[.bool false, .slice none 0 0, .slice none 0 0], .int .i64 (dL l)]) ∧ Ext w w') := by
 have hV' : Sl (Bg.of w).blk cf l V := hV
 refine enter Tryz.func8 rfl Tryz.ntmps8 rfl ?_
 refine af (ab ?_)
 refine c9 dR rfl (fun b1 => ?_)
 refine zz0 (ad rfl) (ae (aa (af (ab (zz0 (ac rfl) (zz0 (aB rfl Tryz.call23 (fun w hw => nc l V w (hw.slF hV') hB (fun s hs => by have := hN s hs; omega))) ?_))))))
 refine zz0 (ad rfl) (ae (aa (af (af (ab (zz0 (ac rfl) (zz0 (dk rfl rfl) (ae (aa ?_)))))))))
 refine ak rfl ?_ ?_ <;> intro h2 <;> try simp only [bs] at h2
 ·refine af (ab (zz0 (bE (vs := []) rfl rfl (uP)) ?_))
  refine zz0 (ac rfl) (bb gA rfl rfl ba ?_)
  refine zz0 (ad rfl) (ae (aa (ao (an ?_))))
  refine ei Tryz.results8 rfl rfl bX ba (fun w' hw => ?_)
  exact ⟨rfl, hw.below (Bg.le.refl _)⟩
 ·first | contradiction | (exfalso; omega) | simp_all
end Go.Proofs.YtpeaodkfbjenpaaGreat
namespace Go.Proofs.YtpeaodkfbjenpaaGreat
open Go Go.HL Go.RowKit
theorem sj (p : UInt32) (w : World) :
  Calls Tryz.prog 28 #[.int .u32 p.toNat] w (fun e w' => e = .returned (.agg (mY.enc (sg p)).toArray) ∧ Ext w w') := by
 refine enter Tryz.func28 rfl Tryz.ntmps28 rfl ?_
 refine af (ab ?_)
 refine c9 fV rfl (fun b1 => ?_)
 refine ae (aa (af (ab ?_)))
 refine c9 fV rfl (fun b2 => ?_)
 refine ae (aa (af (ab (zz0 (zz3 (off := 0) (ft := 36) rfl aA rfl bG) ?_))))
 refine zz0 (fj rfl rfl aY ah) ?_
 refine zz1 (cs' := [_, _, _, _, _, _, _, _, _, _, _, _, _]) rfl rfl ah rfl ?_
 refine ae (aa (af (ab (zz0 (ac rfl) (zz0 (zz3 (off := 8) (ft := 23) rfl aA rfl ah) ?_)))))
 refine zz1 (cs' := [_, _, _, _, _, _, _, _, _, _, _, _, _]) rfl rfl ah rfl ?_
 refine ae (aa (af (ab (zz0 (bK rfl gX aP) ?_))))
 refine bw mY rfl rfl aP ?_
 refine ae (aa (ao ?_))
 refine fJ Tryz.results28 rfl (by repeat constructor) gX aP (by rfl) (fun w' hw => ?_)
 exact ⟨rfl, hw.below (Bg.le.refl _)⟩
theorem qW (s : St) (x : RP) (i : Ins) (w : World) (hB' : 0 ≤ i.b ∧ i.b < 8) :
  Calls Tryz.prog 126 #[.agg (ev s x).toArray, .agg (eC.enc i).toArray] w (fun e w' => e = .returned (.int .u32 (fP s.m i).toNat) ∧ Ext w w') := by
 refine enter Tryz.func126 rfl Tryz.ntmps126 rfl ?_
 refine af (ab ?_)
 refine cM rfl rfl rfl (fun b1 => ?_)
 refine cM rfl rfl rfl (fun b2 => ?_)
 refine zz0 (ad rfl) (ae (aa (af (af (ab (zz0 (zz3 (off := 3) (ft := 3) rfl ag rfl aj) ?_))))))
 refine zz0 (aM rfl aD) ?_
 refine zz0 (aN rfl rfl) (ae (aa ?_))
 refine ak rfl ?_ ?_ <;> intro h3 <;> try simp only [bs] at h3
 ·refine af (ab (zz0 (zz3 (off := 7) (ft := 3) rfl ag rfl aj) ?_))
  refine zz0 (aM rfl aD) ?_
  refine zz0 (zz3 (off := 0) (ft := 40) rfl aJ rfl aP) ?_
  refine zz0 (zz3 (off := 0) (ft := 36) rfl aA rfl bG) ?_
  refine zz0 (fj rfl rfl aY ah) ?_
  refine zz0 (dZ (v := .int .u32 (s.m.reg i.b).toNat) rfl (by repeat constructor) az (jc hB' (by simp))) ?_
  refine zz0 (ad rfl) (ae (aa (ao (an ?_))))
  refine aI Tryz.results126 rfl (fun w' hw => ?_)
  exact ⟨by unfold fP; rw [if_pos (by assumption)], hw.below (Bg.le.refl _)⟩
 ·refine ax (aa (af (ab (zz0 (zz3 (off := 1) (ft := 23) rfl ag rfl ah) ?_))))
  refine zz0 (aM rfl az) ?_
  refine zz0 (ad rfl) (ae (aa (ao ?_)))
  refine aI Tryz.results126 rfl (fun w' hw => ?_)
  exact ⟨by unfold fP; rw [if_neg (by assumption)], hw.below (Bg.le.refl _)⟩
theorem tL (op : Int) (w : World) (h : 8 ≤ op ∧ op ≤ 14) :
  Calls Tryz.prog 130 #[.int .i64 op] w (fun e w' => e = .returned (.int .i64 (gg.opX op)) ∧ Ext w w') := by
 refine enter Tryz.func130 rfl Tryz.ntmps130 rfl ?_
 refine af (ab (zz0 (ad rfl) (ae (aa (af (af (ab (zz0 (ac rfl) (ae (aa (aQ (af (ab ?_)))))))))))))
 refine zz0 (aN rfl rfl) (zz0 (ad rfl) (ae (aa ?_)))
 refine ak rfl ?_ ?_ <;> intro h1 <;> try simp only [bs] at h1
 ·refine af (ab (zz0 (ad rfl) (ae (aa (ao (bf (an ?_)))))))
  refine aI gw rfl (fun w' hw => ?_)
  exact ⟨by unfold gg.opX; (repeat (first | rw [if_pos (by assumption)] | rw [if_neg (by assumption)])); try (congr 2; omega), hw.below (Bg.le.refl _)⟩
 ·refine af (ab (zz0 (aN rfl rfl) (zz0 (ad rfl) (ae (aa ?_)))))
  refine ak rfl ?_ ?_ <;> intro h2 <;> try simp only [bs] at h2
  ·refine af (ab (zz0 (ad rfl) (ae (aa (ao (bf (an ?_)))))))
   refine aI gw rfl (fun w' hw => ?_)
   exact ⟨by unfold gg.opX; (repeat (first | rw [if_pos (by assumption)] | rw [if_neg (by assumption)])); try (congr 2; omega), hw.below (Bg.le.refl _)⟩
  ·refine af (ab (zz0 (aN rfl rfl) (zz0 (ad rfl) (ae (aa ?_)))))
   refine ak rfl ?_ ?_ <;> intro h3 <;> try simp only [bs] at h3
   ·refine af (ab (zz0 (ad rfl) (ae (aa (ao (bf (an ?_)))))))
    refine aI gw rfl (fun w' hw => ?_)
    exact ⟨by unfold gg.opX; (repeat (first | rw [if_pos (by assumption)] | rw [if_neg (by assumption)])); try (congr 2; omega), hw.below (Bg.le.refl _)⟩
   ·refine af (ab (zz0 (aN rfl rfl) (zz0 (ad rfl) (ae (aa ?_)))))
    refine ak rfl ?_ ?_ <;> intro h4 <;> try simp only [bs] at h4
    ·refine af (ab (zz0 (ad rfl) (ae (aa (ao (bf (an ?_)))))))
     refine aI gw rfl (fun w' hw => ?_)
     exact ⟨by unfold gg.opX; (repeat (first | rw [if_pos (by assumption)] | rw [if_neg (by assumption)])); try (congr 2; omega), hw.below (Bg.le.refl _)⟩
    ·refine af (ab (zz0 (aN rfl rfl) (zz0 (ad rfl) (ae (aa ?_)))))
     refine ak rfl ?_ ?_ <;> intro h5 <;> try simp only [bs] at h5
     ·refine af (ab (zz0 (ad rfl) (ae (aa (ao (bf (an ?_)))))))
      refine aI gw rfl (fun w' hw => ?_)
      exact ⟨by unfold gg.opX; (repeat (first | rw [if_pos (by assumption)] | rw [if_neg (by assumption)])); try (congr 2; omega), hw.below (Bg.le.refl _)⟩
     ·refine af (ab (zz0 (aN rfl rfl) (zz0 (ad rfl) (ae (aa ?_)))))
      refine ak rfl ?_ ?_ <;> intro h6 <;> try simp only [bs] at h6
      ·refine af (ab (zz0 (ad rfl) (ae (aa (ao (bf (an ?_)))))))
       refine aI gw rfl (fun w' hw => ?_)
       exact ⟨by unfold gg.opX; (repeat (first | rw [if_pos (by assumption)] | rw [if_neg (by assumption)])); try (congr 2; omega), hw.below (Bg.le.refl _)⟩
      ·refine ax (a9 (aa (af (ab (zz0 (ad rfl) (ae (aa (ao ?_))))))))
       refine aI gw rfl (fun w' hw => ?_)
       exact ⟨by unfold gg.opX; (repeat (first | rw [if_pos (by assumption)] | rw [if_neg (by assumption)])); try (congr 2; omega), hw.below (Bg.le.refl _)⟩
theorem pY (s : St) (x : RP) (i : Ins) (w : World) (hI : InsOK i) (hA : 0 ≤ i.a ∧ i.a < 8) (hB' : 0 ≤ i.b ∧ i.b < 8) (hop : 5 ≤ i.op ∧ i.op ≤ 15) :
  Calls Tryz.prog 94 #[.agg (ev s x).toArray, .agg (eC.enc i).toArray] w (fun e w' => e = .returned (.agg (ev (f6 s i s.m.pc) x).toArray) ∧ Ext w w') := by
 refine enter Tryz.func94 rfl Tryz.ntmps94 rfl ?_
 refine af (ab ?_)
 refine cM rfl rfl rfl (fun b1 => ?_)
 refine cM rfl rfl rfl (fun b2 => ?_)
 refine c9 cA rfl (fun b3 => ?_)
 refine ae (aa (af (ja aU ?_)))
 refine aK (zz3 (off := 6) (ft := 3) rfl ag rfl aj) ?_
 refine aK (aM rfl aD) ?_
 refine aK (zz3 (off := 0) (ft := 40) rfl aJ rfl aP) ?_
 refine aK (zz3 (off := 0) (ft := 36) rfl aA rfl bG) ?_
 refine aK (fj rfl rfl aY ah) ?_
 refine aK (dZ (v := .int .u32 (s.m.reg i.a).toNat) rfl (by repeat constructor) az (jc hA (by simp))) ?_
 refine aK (bK rfl aR au) ?_
 refine aK (bK rfl bo aL) ?_
 refine aK (aB rfl Tryz.call126 (fun w hw => qW s x i w hB')) ?_
 refine aK (ad rfl) (aK (ad rfl) (cH ?_))
 refine aa ?_
 refine eJ (ι := St) (fun t => t = f6 s i s.m.pc) (fun _ => Bg.of w) (fun t => [cellE b1 (ev t x) 42, cellE b3 [.int .u32 0, .int .u32 0, .int .u32 0, .int .u32 0, .int .u32 0, .int .u32 0, .int .u32 0, .int .u32 0, .int .u32 0, .bool false, .bool false, .bool false, .bool false, .bool false, .slice none 0 0, .slice none 0 0, .slice none 0 0, .slice none 0 0, .bool false, .int .i64 0] 42]) (fun t => []) ?_ (fun t hi => ?_)
 ·skip
  refine af (ab (zz0 (zz3 (off := 2) (ft := 3) rfl ag rfl aj) ?_))
  refine zz0 (aM rfl aD) ?_
  refine ae (aa (aQ (af (ab (zz0 (aN rfl rfl) (zz0 (ad rfl) (ae (aa ?_))))))))
  refine ak rfl ?_ ?_ <;> intro h4 <;> try simp only [bs] at h4
  ·refine ab (zz0 (zz3 (off := 6) (ft := 3) rfl ag rfl aj) ?_)
   refine zz0 (aM rfl aD) ?_
   refine zz0 (ac rfl) (zz0 (zz3 (off := 0) (ft := 40) rfl aJ rfl aP) ?_)
   refine zz0 (zz3 (off := 0) (ft := 36) rfl aA rfl bG) ?_
   refine zz0 (fj rfl rfl aY ah) ?_
   refine kr rfl rfl ah (by repeat constructor) (g6 hA (by simp) _) (by rfl) (by rw [g7]; first | (simp; done) | (simp; omega)) ?_
   refine ae (a9 (aa ?_))
   apply aZ (s.setR i.a (fP s.m i))
   ·exact rfl
   ·exact Front.nil
   ·exact bQ 10 rfl
   ·exact (by repeat' constructor)
   ·exact ((xf (by assumption)).symm)
  ·refine af (ab (zz0 (aN rfl rfl) (zz0 (ad rfl) (ae (aa ?_)))))
   refine ak rfl ?_ ?_ <;> intro h5 <;> try simp only [bs] at h5
   ·refine af (ab (zz0 (ac rfl) (zz0 (ac rfl) (zz0 (aB rfl Tryz.call127 (fun w hw => yF (s.m.reg i.a) (fP s.m i) w)) ?_))))
    refine zz0 (ac rfl) (zz0 (ay rfl rfl) (zz0 (ay rfl rfl) ?_))
    refine c9 dE rfl (fun b6 => ?_)
    refine zz0 (ad rfl) (bw gU rfl rfl bH ?_)
    refine ae (aa (af (ab (zz0 (zz3 (off := 6) (ft := 3) rfl ag rfl aj) ?_))))
    refine zz0 (aM rfl aD) ?_
    refine zz0 (ac rfl) (zz0 (zz3 (off := 0) (ft := 40) rfl aJ rfl aP) ?_)
    refine zz0 (zz3 (off := 0) (ft := 36) rfl aA rfl bG) ?_
    refine zz0 (fj rfl rfl aY ah) ?_
    refine kr rfl rfl ah (by repeat constructor) (g6 hA (by simp) _) (by rfl) (by rw [g7]; first | (simp; done) | (simp; omega)) ?_
    refine ae (aa (ab (zz0 (bK rfl dN bH) ?_)))
    refine zz0 (zz3 (off := 0) (ft := 40) rfl aJ rfl aP) ?_
    refine zz0 (zz3 (off := 9) (ft := 38) rfl aA rfl bH) ?_
    refine zz4 rfl rfl bH (nE _) ?_
    refine ae (a9 (aa ?_))
    apply aZ ((s.setR i.a ((s.m.reg i.a) + (fP s.m i))).setF (uD (s.m.reg i.a) (fP s.m i)))
    ·exact rfl
    ·exact Front.nil
    ·exact bQ 23 rfl
    ·exact (by repeat' constructor)
    ·exact ((xn (by assumption)).symm)
   ·refine af (ab (zz0 (aN rfl rfl) (zz0 (ad rfl) (ae (aa ?_)))))
    refine ak rfl ?_ ?_ <;> intro h7 <;> try simp only [bs] at h7
    ·refine af (ab (zz0 (ac rfl) (zz0 (ac rfl) (zz0 (aB rfl Tryz.call128 (fun w hw => tt (s.m.reg i.a) (fP s.m i) w)) ?_))))
     refine zz0 (ac rfl) (zz0 (ay rfl rfl) (zz0 (ay rfl rfl) ?_))
     refine c9 dE rfl (fun b8 => ?_)
     refine zz0 (ad rfl) (bw gU rfl rfl bH ?_)
     refine ae (aa (af (ab (zz0 (zz3 (off := 6) (ft := 3) rfl ag rfl aj) ?_))))
     refine zz0 (aM rfl aD) ?_
     refine zz0 (ac rfl) (zz0 (zz3 (off := 0) (ft := 40) rfl aJ rfl aP) ?_)
     refine zz0 (zz3 (off := 0) (ft := 36) rfl aA rfl bG) ?_
     refine zz0 (fj rfl rfl aY ah) ?_
     refine kr rfl rfl ah (by repeat constructor) (g6 hA (by simp) _) (by rfl) (by rw [g7]; first | (simp; done) | (simp; omega)) ?_
     refine ae (aa (ab (zz0 (bK rfl dN bH) ?_)))
     refine zz0 (zz3 (off := 0) (ft := 40) rfl aJ rfl aP) ?_
     refine zz0 (zz3 (off := 9) (ft := 38) rfl aA rfl bH) ?_
     refine zz4 rfl rfl bH (nE _) ?_
     refine ae (a9 (aa ?_))
     apply aZ ((s.setR i.a ((s.m.reg i.a) - (fP s.m i))).setF (pI (s.m.reg i.a) (fP s.m i)))
     ·exact rfl
     ·exact Front.nil
     ·exact bQ 25 rfl
     ·exact (by repeat' constructor)
     ·exact ((xd (by assumption)).symm)
    ·refine af (ab (zz0 (aN rfl rfl) (zz0 (ad rfl) (ae (aa ?_)))))
     refine ak rfl ?_ ?_ <;> intro h9 <;> try simp only [bs] at h9
     ·refine af (ab (zz0 (ac rfl) (zz0 (ac rfl) (zz0 (aB rfl Tryz.call128 (fun w hw => tt (s.m.reg i.a) (fP s.m i) w)) ?_))))
      refine zz0 (ac rfl) (zz0 (ay rfl rfl) (zz0 (ay rfl rfl) ?_))
      refine c9 dE rfl (fun b10 => ?_)
      refine zz0 (ad rfl) (bw gU rfl rfl bH ?_)
      refine ae (aa (ab (zz0 (bK rfl dN bH) ?_)))
      refine zz0 (zz3 (off := 0) (ft := 40) rfl aJ rfl aP) ?_
      refine zz0 (zz3 (off := 9) (ft := 38) rfl aA rfl bH) ?_
      refine zz4 rfl rfl bH (nE _) ?_
      refine ae (a9 (aa ?_))
      apply aZ (s.setF (pI (s.m.reg i.a) (fP s.m i)))
      ·exact rfl
      ·exact Front.nil
      ·exact bQ 21 rfl
      ·exact (by repeat' constructor)
      ·exact ((xk (by assumption)).symm)
     ·refine af (ab (zz0 (zz3 (off := 2) (ft := 3) rfl ag rfl aj) ?_))
      refine zz0 (aM rfl aD) ?_
      refine zz0 (aB rfl Tryz.call130 (fun w hw => tL i.op w (by omega))) ?_
      refine zz0 (ac rfl) (zz0 (ac rfl) (zz0 (aB rfl Tryz.call129 (fun w hw => uZ (gg.opX i.op) (s.m.reg i.a) (fP s.m i) w)) ?_))
      rw [wE (by omega)]
      refine zz0 (ac rfl) (zz0 (ay rfl rfl) (zz0 (ay rfl rfl) (zz0 (ad rfl) (zz0 (ad rfl) (ae (aa (af (ab (zz0 (zz3 (off := 6) (ft := 3) rfl ag rfl aj) ?_)))))))))
      refine zz0 (aM rfl aD) ?_
      refine zz0 (ac rfl) (zz0 (zz3 (off := 0) (ft := 40) rfl aJ rfl aP) ?_)
      refine zz0 (zz3 (off := 0) (ft := 36) rfl aA rfl bG) ?_
      refine zz0 (fj rfl rfl aY ah) ?_
      refine kr rfl rfl ah (by repeat constructor) (g6 hA (by simp) _) (by rfl) (by rw [g7]; first | (simp; done) | (simp; omega)) ?_
      refine ae (aa (ab (zz0 (ac rfl) (zz0 (aB rfl Tryz.call131 (fun w hw => uX (jM (gg.opX i.op) (s.m.reg i.a) (fP s.m i)) w)) ?_))))
      refine zz0 (zz3 (off := 0) (ft := 40) rfl aJ rfl aP) ?_
      refine zz0 (zz3 (off := 9) (ft := 38) rfl aA rfl bH) ?_
      refine zz4 rfl rfl bH (nE _) ?_
      refine ae (a9 (aa ?_))
      apply aZ ((s.setR i.a (jM (gg.opX i.op) (s.m.reg i.a) (fP s.m i))).setF (vg (jM (gg.opX i.op) (s.m.reg i.a) (fP s.m i))))
      ·exact rfl
      ·exact Front.nil
      ·exact bQ 31 rfl
      ·exact (by repeat' constructor)
      ·exact ((xm (by omega)).symm)
 ·skip
  replace hi : t = f6 s i s.m.pc := hi
  change Tr _ _ [cellE b1 (ev t x) 42, cellE b3 [.int .u32 0, .int .u32 0, .int .u32 0, .int .u32 0, .int .u32 0, .int .u32 0, .int .u32 0, .int .u32 0, .int .u32 0, .bool false, .bool false, .bool false, .bool false, .bool false, .slice none 0 0, .slice none 0 0, .slice none 0 0, .slice none 0 0, .bool false, .int .i64 0] 42] ([] ++ _) _
  refine af (ab (zz0 (bK rfl aR au) ?_))
  refine bb cK rfl rfl au ?_
  refine ae (aa (ao ?_))
  refine fJ Tryz.results94 rfl (by repeat constructor) aR au (by rfl) (fun w' hw => ?_)
  subst hi
  exact ⟨rfl, hw.below (Bg.le.refl _)⟩
theorem oM (H : Hp) (l : List SecV) (inp : List UInt32) (s : St) (cs : List CellV) (x : RP) (y : UInt32) (w : World) (hH : Hp.le H (hp w)) (hR : RefAt H l inp s cs x) (hB : SecB l) (hcb : cs.length ≤ 1000000) :
  Calls Tryz.prog 132 #[.agg (ev s x).toArray, .int .u32 y.toNat] w (fun e w' => ∃ j : List CellV × RP, e = .returned (.tuple #[.agg (ev (iL l s y).1 j.2).toArray, .int .i64 (iL l s y).2]) ∧ Ext w w' ∧ RefAt (vis H w.heap.size (hp w')) l inp (iL l s y).1 j.1 j.2 ∧ j.1.length ≤ cs.length + 4) := by
 have hA0 : RefAt (vis H w.heap.size (Bg.of w).blk) l inp s cs x := hR.mono (mG hH)
 have hS : RefAt (Bg.of w).blk l inp s cs x := hR.mono hH
 have hfn := hS.fn
 have hL' := hS.secs
 have hD' := hS.data
 have hC' := hS.cells
 have hX' := hS.inp
 have hO' := hS.out
 refine enter Tryz.func132 rfl Tryz.ntmps132 rfl ?_
 refine af (ab ?_)
 refine cM rfl rfl rfl (fun b1 => ?_)
 refine c9 cA rfl (fun b2 => ?_)
 refine zz0 (ad rfl) (ae (aa (af (ab (zz0 (zz3 (off := 13) (ft := 30) rfl aJ rfl ba) ?_)))))
 refine zz0 (fg (vs := f8 x.l x.c) rfl (by repeat constructor) bX ba rfl rfl) ?_
 refine zz0 (zz3 (off := 0) (ft := 40) rfl aJ rfl aP) ?_
 refine zz0 (zz3 (off := 0) (ft := 36) rfl aA rfl bG) ?_
 refine zz0 (fj rfl rfl aY ah) ?_
 refine zz0 (aM rfl az) ?_
 refine zz0 (eX (n := 4) rfl rfl) ?_
 refine zz0 (ac rfl) ?_
 refine fK (H0 := H) (n := w.heap.size) (R := fun h (j : SV) => ((bO l s.w (s.m.r7 - 4) 4 y).2 ≠ 0 → j = x.c) ∧ ((bO l s.w (s.m.r7 - 4) 4 y).2 = 0 → Sl h cQ (e8 cs (s.m.r7 - 4) y (4 : Int).toNat) (.slice j.a j.n j.c))) (fun j : SV => .tuple #[.agg (f8 x.l j).toArray, .int .i64 (bO l s.w (s.m.r7 - 4) 4 y).2]) (rfl : (Bg.of w).lo = _) hH (fun h h' j hh r => ⟨r.1, fun z => (r.2 z).mono hh⟩) rfl m4 (fun w2 hw2 hv2 => by have q := kU l cs x.l x.c (s.m.r7 - 4) 4 y w2 (hw2.slF hL') (hw2.slF hC') (hD'.mono hw2.bg) hB (by omega); rw [hfn] at q; exact q.mono fun e w' ⟨j, q1, q2, q3, q4⟩ => ⟨j, q1, q2, q3, fun z => (q4 z).mono i5⟩) rfl (fun j F1 hF1 hj => ?_)
 refine zz0 (ac rfl) (zz0 (ay rfl rfl) (zz0 (ay rfl rfl) ?_))
 refine c9 dR rfl (fun b3 => ?_)
 refine bb gA rfl rfl ba ?_
 refine zz0 (ad rfl) (ae (aa (af (af (ab (zz0 (ac rfl) (zz0 (dk rfl rfl) (ae (aa ?_)))))))))
 refine ak rfl ?_ ?_ <;> intro h4 <;> try simp only [bs] at h4
 ·refine af (ab (zz0 (bK rfl aR au) ?_))
  refine zz0 (ac rfl) (bb cK rfl rfl au ?_)
  refine zz0 (ad rfl) (ae (aa (ao (an ?_))))
  refine ei Tryz.results132 rfl rfl aR au (fun w' hw => ?_)
  have hq : iL l s y = (s, (bO l s.w (s.m.r7 - 4) 4 y).2) := by
   unfold iL; repeat (first | rw [if_pos (by first | assumption | omega)] | rw [if_neg (by first | assumption | omega)])
   try simp only [Mach.set_to_pc, Mach.set2_to_pc]
   try rfl
  exact ⟨(cs, x), by rw [hq]; try rfl, hw.below hF1, by rw [hq]; exact ((hA0.mono (bV hF1.blk)).mono (bV hw.hp)), Nat.le_add_right _ _⟩
 ·refine ax (aa (af (ab (zz0 (bK rfl bX ba) ?_))))
  refine zz0 (zz3 (off := 13) (ft := 30) rfl aJ rfl ba) ?_
  refine zz4 rfl rfl ba (pV _) ?_
  refine ae (aa (af (ab (zz0 (zz3 (off := 0) (ft := 40) rfl aJ rfl aP) ?_))))
  refine zz0 (zz3 (off := 0) (ft := 36) rfl aA rfl bG) ?_
  refine zz0 (fj rfl rfl aY ah) ?_
  refine zz0 (aM rfl az) ?_
  refine zz0 (eX (n := 4) rfl rfl) ?_
  refine zz0 (zz3 (off := 0) (ft := 40) rfl aJ rfl aP) ?_
  refine zz0 (zz3 (off := 0) (ft := 36) rfl aA rfl bG) ?_
  refine zz0 (fj rfl rfl aY ah) ?_
  refine kr rfl rfl ah (by repeat constructor) (g6 (k := 7) (by omega) (by simp) _) (by rfl) (by rw [g7]; first | (simp; done) | (simp; omega)) ?_
  refine ae (aa (af (ab (zz0 (bK rfl aR au) ?_))))
  refine bb cK rfl rfl au ?_
  refine zz0 (ad rfl) (ae (aa (ao ?_)))
  refine ei Tryz.results132 rfl rfl aR au (fun w' hw => ?_)
  have hse : (bO l s.w (s.m.r7 - 4) 4 y).2 = 0 := by simp_all
  have hpn := iZ cs (s.m.r7 - 4) y 4
  have hq : iL l s y = ({ s with w := (bO l s.w (s.m.r7 - 4) 4 y).1, m := s.m.set 7 (s.m.r7 - 4) }, 0) := by
   unfold iL; repeat (first | rw [if_pos (by first | assumption | omega)] | rw [if_neg (by first | assumption | omega)])
   try simp only [Mach.set_to_pc, Mach.set2_to_pc]
   try rfl
  exact ⟨(e8 cs (s.m.r7 - 4) y 4, { x with c := j }), by rw [hq]; try rfl, hw.below hF1, by rw [hq]; exact (((hA0.mono (bV hF1.blk)).cell_ (cs' := e8 cs (s.m.r7 - 4) y (4 : Int).toNat) (t := { s with w := (bO l s.w (s.m.r7 - 4) 4 y).1, m := s.m.set 7 (s.m.r7 - 4) }) rfl rfl (by rw [kt, hfn]; show _ = (bO l s.w (s.m.r7 - 4) 4 y).1; rw [pJ hse]) (jd hS.srt _ _ _) (hj.2 hse)).mono (bV hw.hp)), by show (e8 _ _ _ _).length ≤ _; omega⟩
theorem pW (H : Hp) (l : List SecV) (inp : List UInt32) (s : St) (cs : List CellV) (x : RP) (w : World) (hH : Hp.le H (hp w)) (hR : RefAt H l inp s cs x) (hB : SecB l) (hcb : cs.length ≤ 1000000) :
  Calls Tryz.prog 133 #[.agg (ev s x).toArray] w (fun e w' => e = .returned (.tuple #[.agg (ev (oe l s).1 x).toArray, .int .u32 (oe l s).2.1.toNat, .int .i64 (oe l s).2.2]) ∧ Ext w w') := by
 have hA0 : RefAt (vis H w.heap.size (Bg.of w).blk) l inp s cs x := hR.mono (mG hH)
 have hS : RefAt (Bg.of w).blk l inp s cs x := hR.mono hH
 have hfn := hS.fn
 have hL' := hS.secs
 have hD' := hS.data
 have hC' := hS.cells
 have hX' := hS.inp
 have hO' := hS.out
 refine enter Tryz.func133 rfl Tryz.ntmps133 rfl ?_
 refine af (ab ?_)
 refine cM rfl rfl rfl (fun b1 => ?_)
 refine c9 cA rfl (fun b2 => ?_)
 refine zz0 (ad rfl) (zz0 (ad rfl) (ae (aa (af (ab (zz0 (zz3 (off := 13) (ft := 30) rfl aJ rfl ba) ?_))))))
 refine zz0 (fg (vs := f8 x.l x.c) rfl (by repeat constructor) bX ba rfl rfl) ?_
 refine zz0 (zz3 (off := 0) (ft := 40) rfl aJ rfl aP) ?_
 refine zz0 (zz3 (off := 0) (ft := 36) rfl aA rfl bG) ?_
 refine zz0 (fj rfl rfl aY ah) ?_
 refine zz0 (aM rfl az) ?_
 refine zz0 (aB rfl m2 (fun w hw => (by have q := l8 l cs x.l x.c s.m.r7 4 w (hw.slF hL') (hw.slF hC') (hD'.mono hw.bg) hB; rw [hfn] at q; exact q))) ?_
 refine zz0 (ac rfl) (zz0 (ay rfl rfl) (zz0 (ay rfl rfl) (zz0 (ad rfl) (zz0 (ad rfl) (ae (aa (af (af (ab (zz0 (ac rfl) (zz0 (dk rfl rfl) (ae (aa ?_)))))))))))))
 refine ak rfl ?_ ?_ <;> intro h3 <;> try simp only [bs] at h3
 ·refine af (ab (zz0 (bK rfl aR au) ?_))
  refine zz0 (ac rfl) (bb cK rfl rfl au ?_)
  refine zz0 (ad rfl) (zz0 (ad rfl) (ae (aa (ao (an ?_)))))
  refine uG Tryz.results133 rfl rfl rfl (by repeat constructor) aR au (by rfl) (fun w' hw => ?_)
  have hq : oe l s = (s, 0, (cP l s.w s.m.r7 4).2) := by unfold oe; rw [if_pos (by assumption)]
  exact ⟨by rw [hq]; rfl, hw.below (Bg.le.refl _)⟩
 ·refine ax (aa (af (ab (zz0 (zz3 (off := 0) (ft := 40) rfl aJ rfl aP) ?_))))
  refine zz0 (zz3 (off := 0) (ft := 36) rfl aA rfl bG) ?_
  refine zz0 (fj rfl rfl aY ah) ?_
  refine zz0 (aM rfl az) ?_
  refine zz0 (cL (n := 4) rfl rfl) ?_
  refine zz0 (zz3 (off := 0) (ft := 40) rfl aJ rfl aP) ?_
  refine zz0 (zz3 (off := 0) (ft := 36) rfl aA rfl bG) ?_
  refine zz0 (fj rfl rfl aY ah) ?_
  refine kr rfl rfl ah (by repeat constructor) (g6 (k := 7) (by omega) (by simp) _) (by rfl) (by rw [g7]; first | (simp; done) | (simp; omega)) ?_
  refine ae (aa (af (ab (zz0 (bK rfl aR au) ?_))))
  refine zz0 (ac rfl) (bb cK rfl rfl au ?_)
  refine zz0 (ad rfl) (zz0 (ad rfl) (ae (aa (ao ?_))))
  refine uG Tryz.results133 rfl rfl rfl (by repeat constructor) aR au (by rfl) (fun w' hw => ?_)
  have hq : oe l s = ({ s with m := s.m.set 7 (s.m.r7 + 4) }, (cP l s.w s.m.r7 4).1, 0) := by unfold oe; rw [if_neg (by omega)]
  exact ⟨by rw [hq]; rfl, hw.below (Bg.le.refl _)⟩
theorem qX (H : Hp) (l : List SecV) (inp : List UInt32) (s : St) (cs : List CellV) (x : RP) (i : Ins) (w : World) (hH : Hp.le H (hp w)) (hR : RefAt H l inp s cs x) (hB : SecB l) (hcb : cs.length ≤ 1000000) (hI : InsOK i) (hA : 0 ≤ i.a ∧ i.a < 8) (hB' : 0 ≤ i.b ∧ i.b < 8) (hop : i.op = 16 ∨ i.op = 17 ∨ i.op = 18 ∨ i.op = 22) :
  Calls Tryz.prog 96 #[.agg (ev s x).toArray, .agg (eC.enc i).toArray] w (fun e w' => ∃ j : List CellV × RP, e = .returned (.tuple #[.agg (ev (cU l inp s i s.m.pc).1 j.2).toArray, .int .i64 (cU l inp s i s.m.pc).2]) ∧ Ext w w' ∧ RefAt (vis H w.heap.size (hp w')) l inp (cU l inp s i s.m.pc).1 j.1 j.2 ∧ j.1.length ≤ cs.length + 4) := by
 have hA0 : RefAt (vis H w.heap.size (Bg.of w).blk) l inp s cs x := hR.mono (mG hH)
 have hS : RefAt (Bg.of w).blk l inp s cs x := hR.mono hH
 have hfn := hS.fn
 have hL' := hS.secs
 have hD' := hS.data
 have hC' := hS.cells
 have hX' := hS.inp
 have hO' := hS.out
 refine enter Tryz.func96 rfl Tryz.ntmps96 rfl ?_
 refine af (ab ?_)
 refine cM rfl rfl rfl (fun b1 => ?_)
 refine cM rfl rfl rfl (fun b2 => ?_)
 refine c9 cA rfl (fun b3 => ?_)
 refine zz0 (ad rfl) (ae (aa (af (ja aU ?_))))
 refine aK (zz3 (off := 7) (ft := 3) rfl ag rfl aj) ?_
 refine aK (aM rfl aD) ?_
 refine aK (zz3 (off := 0) (ft := 40) rfl aJ rfl aP) ?_
 refine aK (zz3 (off := 0) (ft := 36) rfl aA rfl bG) ?_
 refine aK (fj rfl rfl aY ah) ?_
 refine aK (dZ (v := .int .u32 (s.m.reg i.b).toNat) rfl (by repeat constructor) az (jc hB' (by simp))) ?_
 refine aK (zz3 (off := 1) (ft := 23) rfl ag rfl ah) ?_
 refine aK (aM rfl az) ?_
 refine aK (cL rfl rfl) ?_
 refine aK (ad rfl) (cH ?_)
 refine aa (af (af (ab (zz0 (zz3 (off := 2) (ft := 3) rfl ag rfl aj) ?_))))
 refine zz0 (aM rfl aD) ?_
 refine ae (aa (aQ (af (ab (zz0 (aN rfl rfl) (zz0 (ad rfl) (ae (aa ?_))))))))
 refine ak rfl ?_ ?_ <;> intro h4 <;> try simp only [bs] at h4
 ·refine af (bI ([cellE b1 (ev s x) 42, cellE b2 (eC.enc i) 114, cellE b3 [.int .u32 0, .int .u32 0, .int .u32 0, .int .u32 0, .int .u32 0, .int .u32 0, .int .u32 0, .int .u32 0, .int .u32 0, .bool false, .bool false, .bool false, .bool false, .bool false, .slice none 0 0, .slice none 0 0, .slice none 0 0, .slice none 0 0, .bool false, .int .i64 0] 42]) 18 rfl aU ?_)
  refine zz2 0 rfl (zz3 (off := 13) (ft := 30) rfl aJ rfl ba) ?_
  refine eV 1 rfl (by kernel_rfl) (bA (dG (bA bW))) (fg (vs := f8 x.l x.c) rfl (by repeat constructor) bX ba rfl rfl) ?_
  refine zz2 2 rfl (ac rfl) ?_
  refine zz2 3 rfl (zz3 (off := 4) (ft := 3) rfl ag rfl aj) ?_
  refine zz2 4 rfl (aM rfl aD) ?_
  refine zz2 5 rfl (zz3 (off := 6) (ft := 3) rfl ag rfl aj) ?_
  refine zz2 6 rfl (aM rfl aD) ?_
  refine zz2 7 rfl (zz3 (off := 0) (ft := 40) rfl aJ rfl aP) ?_
  refine zz2 8 rfl (zz3 (off := 0) (ft := 36) rfl aA rfl bG) ?_
  refine zz2 9 rfl (fj rfl rfl aY ah) ?_
  refine eV 10 rfl (by kernel_rfl) (bA (dG (bA bW))) (dZ (v := .int .u32 (s.m.reg i.a).toNat) rfl (by repeat constructor) az (jc hA (by simp))) ?_
  refine zz9 [11, 15] (fun iq hq => ?_)
  rcases List.mem_cons.1 hq with rfl | hq
  ·skip
   refine aX rfl ?_
   refine fK (H0 := H) (n := w.heap.size) (R := fun h (j : SV) => ((bO l s.w (s.m.reg i.b + i.imm) i.width (s.m.reg i.a)).2 ≠ 0 → j = x.c) ∧ ((bO l s.w (s.m.reg i.b + i.imm) i.width (s.m.reg i.a)).2 = 0 → Sl h cQ (e8 cs (s.m.reg i.b + i.imm) (s.m.reg i.a) (i.width : Int).toNat) (.slice j.a j.n j.c))) (fun j : SV => .tuple #[.agg (f8 x.l j).toArray, .int .i64 (bO l s.w (s.m.reg i.b + i.imm) i.width (s.m.reg i.a)).2]) (rfl : (Bg.of w).lo = _) hH (fun h h' j hh r => ⟨r.1, fun z => (r.2 z).mono hh⟩) rfl m4 (fun w2 hw2 hv2 => by have q := kU l cs x.l x.c (s.m.reg i.b + i.imm) i.width (s.m.reg i.a) w2 (hw2.slF hL') (hw2.slF hC') (hD'.mono hw2.bg) hB (by omega); rw [hfn] at q; exact q.mono fun e w' ⟨j, q1, q2, q3, q4⟩ => ⟨j, q1, q2, q3, fun z => (q4 z).mono i5⟩) rfl (fun j F1 hF1 hj => ?_)
   refine qE hF1 ?_
   refine mP hF1 12 rfl (by kernel_rfl) (bA (dG (bA bW))) (ac rfl) ?_
   refine mP hF1 13 rfl (by kernel_rfl) (bA (dG (bA bW))) (ay rfl rfl) ?_
   refine mP hF1 14 rfl (by kernel_rfl) (bA (dG (bA bW))) (ay rfl rfl) ?_
   refine zz9 [15] (fun iq hq => ?_)
   obtain rfl := List.mem_singleton.1 hq
   refine aX rfl ?_
   refine c9 dR rfl (fun b5 => ?_)
   refine qE hF1 ?_
   refine zz9 [16] (fun iq hq => ?_)
   obtain rfl := List.mem_singleton.1 hq
   refine aX rfl ?_
   refine bb gA rfl rfl ba ?_
   refine qE hF1 ?_
   refine mP hF1 17 rfl (by kernel_rfl) (bA (dG (bA bW))) (ad rfl) ?_
   refine eh ?_
   refine aa (af (af (ab (zz0 (ac rfl) (zz0 (dk rfl rfl) (ae (aa ?_)))))))
   refine ak rfl ?_ ?_ <;> intro h6 <;> try simp only [bs] at h6
   ·refine af (ab (zz0 (bK rfl aR au) ?_))
    refine zz0 (ac rfl) (bb cK rfl rfl au ?_)
    refine zz0 (ad rfl) (ae (aa (ao (an (bf (an ?_))))))
    refine ei fM rfl rfl aR au (fun w' hw => ?_)
    have hq : cU l inp s i s.m.pc = (s, (bO l s.w (s.m.reg i.b + i.imm) i.width (s.m.reg i.a)).2) := by
     unfold cU d5 dj eF eR df; repeat (first | rw [if_pos (by first | assumption | omega | (simp; omega))] | rw [if_neg (by first | assumption | omega | (simp; omega))])
     try simp only [Mach.set_to_pc, Mach.set2_to_pc]
     try rfl
    exact ⟨(cs, x), by rw [hq]; try rfl, hw.below hF1, by rw [hq]; exact ((hA0.mono (bV hF1.blk)).mono (bV hw.hp)), Nat.le_add_right _ _⟩
   ·refine ax (aa (af (ab (zz0 (bK rfl bX ba) ?_))))
    refine zz0 (zz3 (off := 13) (ft := 30) rfl aJ rfl ba) ?_
    refine zz4 rfl rfl ba (pV _) ?_
    refine ae (aa (af (ab (zz0 (bK rfl aR au) ?_))))
    refine bb cK rfl rfl au ?_
    refine zz0 (ad rfl) (ae (aa (ao (bf (an ?_)))))
    refine ei fM rfl rfl aR au (fun w' hw => ?_)
    have hse : (bO l s.w (s.m.reg i.b + i.imm) i.width (s.m.reg i.a)).2 = 0 := by simp_all
    have hpn := iZ cs (s.m.reg i.b + i.imm) (s.m.reg i.a) i.width.toNat
    have hwd := rl hse
    have hq : cU l inp s i s.m.pc = ({ s with w := (bO l s.w (s.m.reg i.b + i.imm) i.width (s.m.reg i.a)).1 }, 0) := by
     unfold cU d5 dj eF eR df; repeat (first | rw [if_pos (by first | assumption | omega | (simp; omega))] | rw [if_neg (by first | assumption | omega | (simp; omega))])
     try simp only [Mach.set_to_pc, Mach.set2_to_pc]
     try rfl
    exact ⟨(e8 cs (s.m.reg i.b + i.imm) (s.m.reg i.a) i.width.toNat, { x with c := j }), by rw [hq]; try rfl, hw.below hF1, by rw [hq]; exact (((hA0.mono (bV hF1.blk)).cell_ (cs' := e8 cs (s.m.reg i.b + i.imm) (s.m.reg i.a) (i.width : Int).toNat) (t := { s with w := (bO l s.w (s.m.reg i.b + i.imm) i.width (s.m.reg i.a)).1 }) rfl rfl (by rw [kt, hfn]; show _ = (bO l s.w (s.m.reg i.b + i.imm) i.width (s.m.reg i.a)).1; rw [pJ hse]) (jd hS.srt _ _ _) (hj.2 hse)).mono (bV hw.hp)), by show (e8 _ _ _ _).length ≤ _; omega⟩
  obtain rfl := List.mem_singleton.1 hq
  refine aX rfl ?_
  refine c9 dR rfl (fun b7 => ?_)
  refine bB ?_
  refine zz9 [11] (fun iq hq => ?_)
  obtain rfl := List.mem_singleton.1 hq
  refine aX rfl ?_
  refine fK (H0 := H) (n := w.heap.size) (R := fun h (j : SV) => ((bO l s.w (s.m.reg i.b + i.imm) i.width (s.m.reg i.a)).2 ≠ 0 → j = x.c) ∧ ((bO l s.w (s.m.reg i.b + i.imm) i.width (s.m.reg i.a)).2 = 0 → Sl h cQ (e8 cs (s.m.reg i.b + i.imm) (s.m.reg i.a) (i.width : Int).toNat) (.slice j.a j.n j.c))) (fun j : SV => .tuple #[.agg (f8 x.l j).toArray, .int .i64 (bO l s.w (s.m.reg i.b + i.imm) i.width (s.m.reg i.a)).2]) (rfl : (Bg.of w).lo = _) hH (fun h h' j hh r => ⟨r.1, fun z => (r.2 z).mono hh⟩) rfl m4 (fun w2 hw2 hv2 => by have q := kU l cs x.l x.c (s.m.reg i.b + i.imm) i.width (s.m.reg i.a) w2 (hw2.slF hL') (hw2.slF hC') (hD'.mono hw2.bg) hB (by omega); rw [hfn] at q; exact q.mono fun e w' ⟨j, q1, q2, q3, q4⟩ => ⟨j, q1, q2, q3, fun z => (q4 z).mono i5⟩) rfl (fun j F1 hF1 hj => ?_)
  refine qE hF1 ?_
  refine mP hF1 12 rfl (by kernel_rfl) (bA (dG (bA bW))) (ac rfl) ?_
  refine mP hF1 13 rfl (by kernel_rfl) (bA (dG (bA bW))) (ay rfl rfl) ?_
  refine mP hF1 14 rfl (by kernel_rfl) (bA (dG (bA bW))) (ay rfl rfl) ?_
  refine zz9 [16] (fun iq hq => ?_)
  obtain rfl := List.mem_singleton.1 hq
  refine aX rfl ?_
  refine bb gA rfl rfl ba ?_
  refine qE hF1 ?_
  refine mP hF1 17 rfl (by kernel_rfl) (bA (dG (bA bW))) (ad rfl) ?_
  refine eh ?_
  refine aa (af (af (ab (zz0 (ac rfl) (zz0 (dk rfl rfl) (ae (aa ?_)))))))
  refine ak rfl ?_ ?_ <;> intro h8 <;> try simp only [bs] at h8
  ·refine af (ab (zz0 (bK rfl aR au) ?_))
   refine zz0 (ac rfl) (bb cK rfl rfl au ?_)
   refine zz0 (ad rfl) (ae (aa (ao (an (bf (an ?_))))))
   refine ei fM rfl rfl aR au (fun w' hw => ?_)
   have hq : cU l inp s i s.m.pc = (s, (bO l s.w (s.m.reg i.b + i.imm) i.width (s.m.reg i.a)).2) := by
    unfold cU d5 dj eF eR df; repeat (first | rw [if_pos (by first | assumption | omega | (simp; omega))] | rw [if_neg (by first | assumption | omega | (simp; omega))])
    try simp only [Mach.set_to_pc, Mach.set2_to_pc]
    try rfl
   exact ⟨(cs, x), by rw [hq]; try rfl, hw.below hF1, by rw [hq]; exact ((hA0.mono (bV hF1.blk)).mono (bV hw.hp)), Nat.le_add_right _ _⟩
  ·refine ax (aa (af (ab (zz0 (bK rfl bX ba) ?_))))
   refine zz0 (zz3 (off := 13) (ft := 30) rfl aJ rfl ba) ?_
   refine zz4 rfl rfl ba (pV _) ?_
   refine ae (aa (af (ab (zz0 (bK rfl aR au) ?_))))
   refine bb cK rfl rfl au ?_
   refine zz0 (ad rfl) (ae (aa (ao (bf (an ?_)))))
   refine ei fM rfl rfl aR au (fun w' hw => ?_)
   have hse : (bO l s.w (s.m.reg i.b + i.imm) i.width (s.m.reg i.a)).2 = 0 := by simp_all
   have hpn := iZ cs (s.m.reg i.b + i.imm) (s.m.reg i.a) i.width.toNat
   have hwd := rl hse
   have hq : cU l inp s i s.m.pc = ({ s with w := (bO l s.w (s.m.reg i.b + i.imm) i.width (s.m.reg i.a)).1 }, 0) := by
    unfold cU d5 dj eF eR df; repeat (first | rw [if_pos (by first | assumption | omega | (simp; omega))] | rw [if_neg (by first | assumption | omega | (simp; omega))])
    try simp only [Mach.set_to_pc, Mach.set2_to_pc]
    try rfl
   exact ⟨(e8 cs (s.m.reg i.b + i.imm) (s.m.reg i.a) i.width.toNat, { x with c := j }), by rw [hq]; try rfl, hw.below hF1, by rw [hq]; exact (((hA0.mono (bV hF1.blk)).cell_ (cs' := e8 cs (s.m.reg i.b + i.imm) (s.m.reg i.a) (i.width : Int).toNat) (t := { s with w := (bO l s.w (s.m.reg i.b + i.imm) i.width (s.m.reg i.a)).1 }) rfl rfl (by rw [kt, hfn]; show _ = (bO l s.w (s.m.reg i.b + i.imm) i.width (s.m.reg i.a)).1; rw [pJ hse]) (jd hS.srt _ _ _) (hj.2 hse)).mono (bV hw.hp)), by show (e8 _ _ _ _).length ≤ _; omega⟩
 ·refine af (ab (zz0 (aN rfl rfl) (zz0 (ad rfl) (ae (aa ?_)))))
  refine ak rfl ?_ ?_ <;> intro h9 <;> try simp only [bs] at h9
  ·refine af (ja aU ?_)
   refine aK (zz3 (off := 13) (ft := 30) rfl aJ rfl ba) ?_
   refine aK (fg (vs := f8 x.l x.c) rfl (by repeat constructor) bX ba rfl rfl) ?_
   refine aK (zz3 (off := 1) (ft := 23) rfl ag rfl ah) ?_
   refine aK (aM rfl az) ?_
   refine aK (zz3 (off := 6) (ft := 3) rfl ag rfl aj) ?_
   refine aK (aM rfl aD) ?_
   refine aK (zz3 (off := 0) (ft := 40) rfl aJ rfl aP) ?_
   refine aK (zz3 (off := 0) (ft := 36) rfl aA rfl bG) ?_
   refine aK (fj rfl rfl aY ah) ?_
   refine aK (dZ (v := .int .u32 (s.m.reg i.a).toNat) rfl (by repeat constructor) az (jc hA (by simp))) ?_
   refine aK (jl (m := 4) rfl rfl) ?_
   refine aK (cL rfl rfl) ?_
   refine aK (aB rfl m2 (fun w hw => (by have q := l8 l cs x.l x.c (i.imm + 4 * s.m.reg i.a) 4 w (hw.slF hL') (hw.slF hC') (hD'.mono hw.bg) hB; rw [hfn] at q; exact q))) ?_
   refine aK (ac rfl) (aK (ay rfl rfl) (aK (ay rfl rfl) (aK (ad rfl) (aK (ad rfl) (cH ?_)))))
   refine aa (af (af (ab (zz0 (ac rfl) (zz0 (aN rfl rfl) (ae (aa ?_)))))))
   refine ak rfl ?_ ?_ <;> intro h10 <;> try simp only [bs] at h10
   ·refine ab (zz0 (ac rfl) (zz0 (zz3 (off := 0) (ft := 40) rfl aJ rfl aP) ?_))
    refine zz0 (zz3 (off := 8) (ft := 23) rfl aA rfl ah) ?_
    refine zz4 rfl rfl ah (l7 _) ?_
    refine ae (aa (af (ab (zz0 (bK rfl aR au) ?_))))
    refine zz0 (ac rfl) (bb cK rfl rfl au ?_)
    refine zz0 (ad rfl) (ae (aa (ao (bf (an ?_)))))
    refine ei fM rfl rfl aR au (fun w' hw => ?_)
    have hq : cU l inp s i s.m.pc = (s.to (cP l s.w (i.imm + 4 * s.m.reg i.a) 4).1, (cP l s.w (i.imm + 4 * s.m.reg i.a) 4).2) := by
     rw [show (cP l s.w (i.imm + 4 * s.m.reg i.a) 4).2 = 0 by assumption]
     unfold cU d5 dj eF eR df; repeat (first | rw [if_pos (by first | assumption | omega | (simp; omega))] | rw [if_neg (by first | assumption | omega | (simp; omega))])
     try simp only [Mach.set_to_pc, Mach.set2_to_pc]
     try rfl
    exact ⟨(cs, x), by rw [hq]; try rfl, hw.below (Bg.le.refl _), by rw [hq]; exact ((hA0.mono (bV hw.hp)).with_ rfl rfl rfl), Nat.le_add_right _ _⟩
   ·refine ax (aa (af (ab (zz0 (bK rfl aR au) ?_))))
    refine zz0 (ac rfl) (bb cK rfl rfl au ?_)
    refine zz0 (ad rfl) (ae (aa (ao (bf (an ?_)))))
    refine ei fM rfl rfl aR au (fun w' hw => ?_)
    have hq : cU l inp s i s.m.pc = (s, (cP l s.w (i.imm + 4 * s.m.reg i.a) 4).2) := by
     unfold cU d5 dj eF eR df; repeat (first | rw [if_pos (by first | assumption | omega | (simp; omega))] | rw [if_neg (by first | assumption | omega | (simp; omega))])
     try simp only [Mach.set_to_pc, Mach.set2_to_pc]
     try rfl
    exact ⟨(cs, x), by rw [hq]; try rfl, hw.below (Bg.le.refl _), by rw [hq]; exact (hA0.mono (bV hw.hp)), Nat.le_add_right _ _⟩
  ·refine ax (a9 (aa (af (ab (zz0 (zz3 (off := 13) (ft := 30) rfl aJ rfl ba) ?_)))))
   refine zz0 (fg (vs := f8 x.l x.c) rfl (by repeat constructor) bX ba rfl rfl) ?_
   refine zz0 (ac rfl) (zz0 (zz3 (off := 4) (ft := 3) rfl ag rfl aj) ?_)
   refine zz0 (aM rfl aD) ?_
   refine zz0 (aB rfl m2 (fun w hw => (by have q := l8 l cs x.l x.c (s.m.reg i.b + i.imm) i.width w (hw.slF hL') (hw.slF hC') (hD'.mono hw.bg) hB; rw [hfn] at q; exact q))) ?_
   refine zz0 (ac rfl) (zz0 (ay rfl rfl) (zz0 (ay rfl rfl) (zz0 (ad rfl) (zz0 (ad rfl) (ae (aa (af (af (ab (zz0 (ac rfl) (zz0 (dk rfl rfl) (ae (aa ?_)))))))))))))
   refine ak rfl ?_ ?_ <;> intro h11 <;> try simp only [bs] at h11
   ·refine af (ab (zz0 (bK rfl aR au) ?_))
    refine zz0 (ac rfl) (bb cK rfl rfl au ?_)
    refine zz0 (ad rfl) (ae (aa (ao (an ?_))))
    refine ei fM rfl rfl aR au (fun w' hw => ?_)
    have hq : cU l inp s i s.m.pc = (s, (cP l s.w (s.m.reg i.b + i.imm) i.width).2) := by
     unfold cU d5 dj eF eR df; repeat (first | rw [if_pos (by first | assumption | omega | (simp; omega))] | rw [if_neg (by first | assumption | omega | (simp; omega))])
     try simp only [Mach.set_to_pc, Mach.set2_to_pc]
     try rfl
    exact ⟨(cs, x), by rw [hq]; try rfl, hw.below (Bg.le.refl _), by rw [hq]; exact (hA0.mono (bV hw.hp)), Nat.le_add_right _ _⟩
   ·refine ax (aa (af (af (ab (zz0 (zz3 (off := 2) (ft := 3) rfl ag rfl aj) ?_)))))
    refine zz0 (aM rfl aD) ?_
    refine zz0 (aN rfl rfl) (ae (aa ?_))
    refine ak rfl ?_ ?_ <;> intro h12 <;> try simp only [bs] at h12
    ·refine ab (zz0 (ac rfl) (zz0 (zz3 (off := 4) (ft := 3) rfl ag rfl aj) ?_))
     refine zz0 (aM rfl aD) ?_
     refine zz0 (aB rfl Tryz.call134 (fun w hw => tw (cP l s.w (s.m.reg i.b + i.imm) i.width).1 i.width w)) ?_
     refine zz0 (ad rfl) (ae (aa (af (ab (zz0 (zz3 (off := 6) (ft := 3) rfl ag rfl aj) ?_)))))
     refine zz0 (aM rfl aD) ?_
     refine zz0 (ac rfl) (zz0 (zz3 (off := 0) (ft := 40) rfl aJ rfl aP) ?_)
     refine zz0 (zz3 (off := 0) (ft := 36) rfl aA rfl bG) ?_
     refine zz0 (fj rfl rfl aY ah) ?_
     refine kr rfl rfl ah (by repeat constructor) (g6 hA (by simp) _) (by rfl) (by rw [g7]; first | (simp; done) | (simp; omega)) ?_
     refine ae (aa (af (ab (zz0 (bK rfl aR au) ?_))))
     refine bb cK rfl rfl au ?_
     refine zz0 (ad rfl) (ae (aa (ao ?_)))
     refine ei fM rfl rfl aR au (fun w' hw => ?_)
     have hq : cU l inp s i s.m.pc = (s.setR i.a (jU (cP l s.w (s.m.reg i.b + i.imm) i.width).1 i.width), 0) := by
      unfold cU d5 dj eF eR df; repeat (first | rw [if_pos (by first | assumption | omega | (simp; omega))] | rw [if_neg (by first | assumption | omega | (simp; omega))])
      try simp only [Mach.set_to_pc, Mach.set2_to_pc]
      try rfl
     exact ⟨(cs, x), by rw [hq]; try rfl, hw.below (Bg.le.refl _), by rw [hq]; exact ((hA0.mono (bV hw.hp)).with_ rfl rfl rfl), Nat.le_add_right _ _⟩
    ·refine ax (aa (af (ab (zz0 (zz3 (off := 6) (ft := 3) rfl ag rfl aj) ?_))))
     refine zz0 (aM rfl aD) ?_
     refine zz0 (ac rfl) (zz0 (zz3 (off := 0) (ft := 40) rfl aJ rfl aP) ?_)
     refine zz0 (zz3 (off := 0) (ft := 36) rfl aA rfl bG) ?_
     refine zz0 (fj rfl rfl aY ah) ?_
     refine kr rfl rfl ah (by repeat constructor) (g6 hA (by simp) _) (by rfl) (by rw [g7]; first | (simp; done) | (simp; omega)) ?_
     refine ae (aa (af (ab (zz0 (bK rfl aR au) ?_))))
     refine bb cK rfl rfl au ?_
     refine zz0 (ad rfl) (ae (aa (ao ?_)))
     refine ei fM rfl rfl aR au (fun w' hw => ?_)
     have hq : cU l inp s i s.m.pc = (s.setR i.a (cP l s.w (s.m.reg i.b + i.imm) i.width).1, 0) := by
      unfold cU d5 dj eF eR df; repeat (first | rw [if_pos (by first | assumption | omega | (simp; omega))] | rw [if_neg (by first | assumption | omega | (simp; omega))])
      try simp only [Mach.set_to_pc, Mach.set2_to_pc]
      try rfl
     exact ⟨(cs, x), by rw [hq]; try rfl, hw.below (Bg.le.refl _), by rw [hq]; exact ((hA0.mono (bV hw.hp)).with_ rfl rfl rfl), Nat.le_add_right _ _⟩
theorem sk (H : Hp) (l : List SecV) (inp : List UInt32) (s : St) (cs : List CellV) (x : RP) (i : Ins) (w : World) (hH : Hp.le H (hp w)) (hR : RefAt H l inp s cs x) (hB : SecB l) (hcb : cs.length ≤ 1000000) (hI : InsOK i) (hA : 0 ≤ i.a ∧ i.a < 8) (hB' : 0 ≤ i.b ∧ i.b < 8) (hop : i.op = 3 ∨ i.op = 4 ∨ i.op = 2 ∨ i.op = 23 ∨ i.op = 24) (hnx : i.addr + u32 i.size = s.m.pc) :
  Calls Tryz.prog 95 #[.agg (ev s x).toArray, .agg (eC.enc i).toArray] w (fun e w' => ∃ j : List CellV × RP, e = .returned (.tuple #[.agg (ev (cU l inp s i s.m.pc).1 j.2).toArray, .int .i64 (cU l inp s i s.m.pc).2]) ∧ Ext w w' ∧ RefAt (vis H w.heap.size (hp w')) l inp (cU l inp s i s.m.pc).1 j.1 j.2 ∧ j.1.length ≤ cs.length + 4) := by
 have hA0 : RefAt (vis H w.heap.size (Bg.of w).blk) l inp s cs x := hR.mono (mG hH)
 have hS : RefAt (Bg.of w).blk l inp s cs x := hR.mono hH
 have hfn := hS.fn
 have hL' := hS.secs
 have hD' := hS.data
 have hC' := hS.cells
 have hX' := hS.inp
 have hO' := hS.out
 refine enter Tryz.func95 rfl Tryz.ntmps95 rfl ?_
 refine af (ab ?_)
 refine cM rfl rfl rfl (fun b1 => ?_)
 refine cM rfl rfl rfl (fun b2 => ?_)
 refine c9 cA rfl (fun b3 => ?_)
 refine zz0 (ad rfl) (ae (aa (af (ab (zz0 (zz3 (off := 6) (ft := 3) rfl ag rfl aj) ?_)))))
 refine zz0 (aM rfl aD) ?_
 refine zz0 (zz3 (off := 0) (ft := 40) rfl aJ rfl aP) ?_
 refine zz0 (zz3 (off := 0) (ft := 36) rfl aA rfl bG) ?_
 refine zz0 (fj rfl rfl aY ah) ?_
 refine zz0 (dZ (v := .int .u32 (s.m.reg i.a).toNat) rfl (by repeat constructor) az (jc hA (by simp))) ?_
 refine zz0 (ad rfl) (ae (aa (af (af (ab (zz0 (zz3 (off := 2) (ft := 3) rfl ag rfl aj) ?_))))))
 refine zz0 (aM rfl aD) ?_
 refine ae (aa (aQ (af (ab (zz0 (aN rfl rfl) (zz0 (ad rfl) (ae (aa ?_))))))))
 refine ak rfl ?_ ?_ <;> intro h4 <;> try simp only [bs] at h4
 ·refine af (ab (zz0 (bK rfl aR au) ?_))
  refine zz0 (ac rfl) ?_
  refine fK (H0 := H) (n := w.heap.size) (R := fun h (j : List CellV × RP) => RefAt h l inp (iL l s (s.m.reg i.a)).1 j.1 j.2 ∧ j.1.length ≤ cs.length + 4) (fun j : List CellV × RP => .tuple #[.agg (ev (iL l s (s.m.reg i.a)).1 j.2).toArray, .int .i64 (iL l s (s.m.reg i.a)).2]) (rfl : (Bg.of w).lo = _) hH (fun h h' j hh r => ⟨r.1.mono hh, r.2⟩) rfl Tryz.call132 (fun w2 hw2 hv2 => oM (vis H w.heap.size (Bg.of w).blk) l inp s cs x (s.m.reg i.a) w2 hv2 hA0 hB (by omega)) rfl (fun j F1 hF1 hj => ?_)
  refine zz0 (ay rfl rfl) (zz0 (ay rfl rfl) (bb cK rfl rfl au ?_))
  refine zz0 (ad rfl) (ae (aa (ao (bf (an ?_)))))
  refine ei gh rfl rfl aR au (fun w' hw => ?_)
  rw [zn (by assumption)]
  exact ⟨j, rfl, hw.below hF1, hj.1.mono (bV hw.hp), hj.2⟩
 ·refine af (ab (zz0 (aN rfl rfl) (zz0 (ad rfl) (ae (aa ?_)))))
  refine ak rfl ?_ ?_ <;> intro h5 <;> try simp only [bs] at h5
  ·refine af (ab (zz0 (bK rfl aR au) ?_))
   refine zz0 (aB rfl Tryz.call133 (fun w hw => pW _ l inp s cs x w hw.hp hS hB hcb)) ?_
   refine zz0 (ac rfl) (zz0 (ay rfl rfl) (zz0 (ay rfl rfl) (zz0 (ay rfl rfl) ?_)))
   refine c9 cA rfl (fun b6 => ?_)
   refine bb cK rfl rfl au ?_
   refine zz0 (ad rfl) (zz0 (ad rfl) (ae (aa (af (af (ab (zz0 (ac rfl) (zz0 (aN rfl rfl) (ae (aa ?_))))))))))
   refine ak rfl ?_ ?_ <;> intro h7 <;> try simp only [bs] at h7
   ·obtain ⟨hl0, hpe⟩ := yG (l := l) (s := s) (by assumption)
    rw [hpe]
    refine ab (zz0 (zz3 (off := 6) (ft := 3) rfl ag rfl aj) ?_)
    refine zz0 (aM rfl aD) ?_
    refine zz0 (ac rfl) (zz0 (zz3 (off := 0) (ft := 40) rfl aJ rfl aP) ?_)
    refine zz0 (zz3 (off := 0) (ft := 36) rfl aA rfl bG) ?_
    refine zz0 (fj rfl rfl aY ah) ?_
    refine kr rfl rfl ah (by repeat constructor) (g6 hA (by simp) _) (by rfl) (by rw [g7]; first | (simp; done) | (simp; omega)) ?_
    refine ae (aa (af (ab (zz0 (bK rfl aR au) ?_))))
    refine zz0 (ac rfl) (bb cK rfl rfl au ?_)
    refine zz0 (ad rfl) (ae (aa (ao (bf (an ?_)))))
    refine ei gh rfl rfl aR au (fun w' hw => ?_)
    have hq : cU l inp s i s.m.pc = ((s.setR 7 (s.m.r7 + 4)).setR i.a (cP l s.w s.m.r7 4).1, 0) := by
     unfold cU d5 dj eF eR df; repeat (first | rw [if_pos (by first | assumption | omega | (simp; omega))] | rw [if_neg (by first | assumption | omega | (simp; omega))])
     try simp only [Mach.set_to_pc, Mach.set2_to_pc]
     try rfl
    exact ⟨(cs, x), by rw [hq]; try rfl, hw.below (Bg.le.refl _), by rw [hq]; exact ((hA0.mono (bV hw.hp)).with_ rfl rfl rfl), Nat.le_add_right _ _⟩
   ·refine ax (aa (af (ab (zz0 (bK rfl aR au) ?_))))
    refine zz0 (ac rfl) (bb cK rfl rfl au ?_)
    refine zz0 (ad rfl) (ae (aa (ao (bf (an ?_)))))
    refine ei gh rfl rfl aR au (fun w' hw => ?_)
    obtain ⟨hl0, hpe⟩ := yH (l := l) (s := s) (by assumption)
    rw [hpe] at hw ⊢
    have hq : cU l inp s i s.m.pc = (s, (cP l s.w s.m.r7 4).2) := by
     unfold cU d5 dj eF eR df; repeat (first | rw [if_pos (by first | assumption | omega | (simp; omega))] | rw [if_neg (by first | assumption | omega | (simp; omega))])
     try simp only [Mach.set_to_pc, Mach.set2_to_pc]
     try rfl
    exact ⟨(cs, x), by rw [hq]; try rfl, hw.below (Bg.le.refl _), by rw [hq]; exact (hA0.mono (bV hw.hp)), Nat.le_add_right _ _⟩
  ·refine af (ab (zz0 (aN rfl rfl) (zz0 (ad rfl) (ae (aa ?_)))))
   refine ak rfl ?_ ?_ <;> intro h8 <;> try simp only [bs] at h8
   ·refine af (ab (zz0 (bK rfl aR au) ?_))
    refine zz0 (aB rfl Tryz.call133 (fun w hw => pW _ l inp s cs x w hw.hp hS hB hcb)) ?_
    refine zz0 (ac rfl) (zz0 (ay rfl rfl) (zz0 (ay rfl rfl) (zz0 (ay rfl rfl) ?_)))
    refine c9 cA rfl (fun b9 => ?_)
    refine bb cK rfl rfl au ?_
    refine zz0 (ad rfl) (zz0 (ad rfl) (ae (aa (af (af (ab (zz0 (ac rfl) (zz0 (aN rfl rfl) (ae (aa ?_))))))))))
    refine ak rfl ?_ ?_ <;> intro h10 <;> try simp only [bs] at h10
    ·refine af ?_
     obtain ⟨hl0, hpe⟩ := yG (l := l) (s := s) (by assumption)
     rw [hpe]
     refine ab (zz0 (ac rfl) (zz0 (zz3 (off := 0) (ft := 40) rfl aJ rfl aP) ?_))
     refine zz0 (zz3 (off := 8) (ft := 23) rfl aA rfl ah) ?_
     refine zz4 rfl rfl ah (l7 _) ?_
     refine ae (aa (ab (zz0 (ac rfl) (zz0 (gk (n := 4294967295) rfl rfl) ?_))))
     refine zz0 (zz3 (off := 18) (ft := 4) rfl aJ rfl bv) ?_
     refine zz4 rfl rfl bv (rz _) ?_
     refine ae (aa (af (ab (zz0 (bK rfl aR au) ?_))))
     refine zz0 (ac rfl) (bb cK rfl rfl au ?_)
     refine zz0 (ad rfl) (ae (aa (ao (bf (an ?_)))))
     refine ei gh rfl rfl aR au (fun w' hw => ?_)
     have hq : cU l inp s i s.m.pc = ({ (s.setR 7 (s.m.r7 + 4)).to (cP l s.w s.m.r7 4).1 with done := decide ((cP l s.w s.m.r7 4).1 = 4294967295) }, 0) := by
      unfold cU d5 dj eF eR df; repeat (first | rw [if_pos (by first | assumption | omega | (simp; omega))] | rw [if_neg (by first | assumption | omega | (simp; omega))])
      try simp only [Mach.set_to_pc, Mach.set2_to_pc]
      try rfl
     exact ⟨(cs, x), by rw [hq]; try rfl, hw.below (Bg.le.refl _), by rw [hq]; exact ((hA0.mono (bV hw.hp)).with_ rfl rfl rfl), Nat.le_add_right _ _⟩
    ·refine ax (aa (af (ab (zz0 (bK rfl aR au) ?_))))
     refine zz0 (ac rfl) (bb cK rfl rfl au ?_)
     refine zz0 (ad rfl) (ae (aa (ao (bf (an ?_)))))
     refine ei gh rfl rfl aR au (fun w' hw => ?_)
     obtain ⟨hl0, hpe⟩ := yH (l := l) (s := s) (by assumption)
     rw [hpe] at hw ⊢
     have hq : cU l inp s i s.m.pc = (s, (cP l s.w s.m.r7 4).2) := by
      unfold cU d5 dj eF eR df; repeat (first | rw [if_pos (by first | assumption | omega | (simp; omega))] | rw [if_neg (by first | assumption | omega | (simp; omega))])
      try simp only [Mach.set_to_pc, Mach.set2_to_pc]
      try rfl
     exact ⟨(cs, x), by rw [hq]; try rfl, hw.below (Bg.le.refl _), by rw [hq]; exact (hA0.mono (bV hw.hp)), Nat.le_add_right _ _⟩
   ·refine ax (a9 (aa (af (ab (zz0 (bK rfl aR au) ?_)))))
    refine zz0 (zz3 (off := 0) (ft := 23) rfl ag rfl ah) ?_
    refine zz0 (aM rfl az) ?_
    refine zz0 (zz3 (off := 8) (ft := 3) rfl ag rfl aj) ?_
    refine zz0 (aM rfl aD) ?_
    refine zz0 (eY rfl aO aT) (zz0 (cL rfl rfl) ?_)
    refine fK (H0 := H) (n := w.heap.size) (R := fun h (j : List CellV × RP) => RefAt h l inp (iL l s (i.addr + u32 i.size)).1 j.1 j.2 ∧ j.1.length ≤ cs.length + 4) (fun j : List CellV × RP => .tuple #[.agg (ev (iL l s (i.addr + u32 i.size)).1 j.2).toArray, .int .i64 (iL l s (i.addr + u32 i.size)).2]) (rfl : (Bg.of w).lo = _) hH (fun h h' j hh r => ⟨r.1.mono hh, r.2⟩) rfl Tryz.call132 (fun w2 hw2 hv2 => oM (vis H w.heap.size (Bg.of w).blk) l inp s cs x (i.addr + u32 i.size) w2 hv2 hA0 hB (by omega)) rfl (fun j F1 hF1 hj => ?_)
    refine zz0 (ac rfl) (zz0 (ay rfl rfl) (zz0 (ay rfl rfl) ?_))
    refine c9 cA rfl (fun b11 => ?_)
    refine bb cK rfl rfl au ?_
    refine zz0 (ad rfl) (ae (aa (af (af ?_))))
    rw [hnx] at hj ⊢
    refine ab (zz0 (ac rfl) (zz0 (dk rfl rfl) (ae (aa ?_))))
    refine ak rfl ?_ ?_ <;> intro h12 <;> try simp only [bs] at h12
    ·refine af (ab (zz0 (bK rfl aR au) ?_))
     refine zz0 (ac rfl) (bb cK rfl rfl au ?_)
     refine zz0 (ad rfl) (ae (aa (ao (an ?_))))
     refine ei gh rfl rfl aR au (fun w' hw => ?_)
     obtain ⟨hse, hpe⟩ := Ar (l := l) (s := s) (y := s.m.pc) (by assumption)
     rw [hpe] at hj ⊢
     have hq : cU l inp s i s.m.pc = (s, (bO l s.w (s.m.r7 - 4) 4 s.m.pc).2) := by
      unfold cU d5 dj eF eR df; repeat (first | rw [if_pos (by first | assumption | omega | (simp; omega))] | rw [if_neg (by first | assumption | omega | (simp; omega))])
      try simp only [Mach.set_to_pc, Mach.set2_to_pc]
      try rfl
     exact ⟨(cs, x), by rw [hq]; try rfl, hw.below hF1, by rw [hq]; exact ((hA0.mono (bV hF1.blk)).mono (bV hw.hp)), Nat.le_add_right _ _⟩
    ·refine ax (aa (af ?_))
     obtain ⟨hse, hpe⟩ := Aq (l := l) (s := s) (y := s.m.pc) (by simp_all)
     have hj0 := hj
     rw [hpe] at hj0
     rw [hpe]
     refine ab (zz0 (zz3 (off := 1) (ft := 23) rfl ag rfl ah) ?_)
     refine zz0 (aM rfl az) ?_
     refine zz0 (zz3 (off := 0) (ft := 40) rfl aJ rfl aP) ?_
     refine zz0 (zz3 (off := 8) (ft := 23) rfl aA rfl ah) ?_
     refine zz4 rfl rfl ah (l7 _) ?_
     refine ae (aa (af (af (ab (zz0 (zz3 (off := 2) (ft := 3) rfl ag rfl aj) ?_)))))
     refine zz0 (aM rfl aD) ?_
     refine zz0 (aN rfl rfl) (ae (aa ?_))
     refine ak rfl ?_ ?_ <;> intro h13 <;> try simp only [bs] at h13
     ·refine ab (zz0 (ac rfl) (zz0 (zz3 (off := 0) (ft := 40) rfl aJ rfl aP) ?_))
      refine zz0 (zz3 (off := 8) (ft := 23) rfl aA rfl ah) ?_
      refine zz4 rfl rfl ah (l7 _) ?_
      refine ae (aa (af (ab (zz0 (bK rfl aR au) ?_))))
      refine bb cK rfl rfl au ?_
      refine zz0 (ad rfl) (ae (aa (ao ?_)))
      refine ei gh rfl rfl aR au (fun w' hw => ?_)
      have hq : cU l inp s i s.m.pc = ({ s with w := (bO l s.w (s.m.r7 - 4) 4 s.m.pc).1, m := (s.m.set 7 (s.m.r7 - 4)).to (s.m.reg i.a) }, 0) := by
       unfold cU d5 dj eF eR df; repeat (first | rw [if_pos (by first | assumption | omega | (simp; omega))] | rw [if_neg (by first | assumption | omega | (simp; omega))])
       try simp only [Mach.set_to_pc, Mach.set2_to_pc]
       try rfl
      exact ⟨j, by rw [hq]; try rfl, hw.below hF1, by rw [hq]; exact ((hj0.1.mono (bV hw.hp)).with_ rfl rfl rfl), hj0.2⟩
     ·refine ax (aa (af (ab (zz0 (bK rfl aR au) ?_))))
      refine bb cK rfl rfl au ?_
      refine zz0 (ad rfl) (ae (aa (ao ?_)))
      refine ei gh rfl rfl aR au (fun w' hw => ?_)
      have hq : cU l inp s i s.m.pc = ({ s with w := (bO l s.w (s.m.r7 - 4) 4 s.m.pc).1, m := (s.m.set 7 (s.m.r7 - 4)).to i.imm }, 0) := by
       unfold cU d5 dj eF eR df; repeat (first | rw [if_pos (by first | assumption | omega | (simp; omega))] | rw [if_neg (by first | assumption | omega | (simp; omega))])
       try simp only [Mach.set_to_pc, Mach.set2_to_pc]
       try rfl
      exact ⟨j, by rw [hq]; try rfl, hw.below hF1, by rw [hq]; exact ((hj0.1.mono (bV hw.hp)).with_ rfl rfl rfl), hj0.2⟩
theorem u0 (x : Bool) (w : World) :
  Calls Tryz.prog 98 #[.bool x] w (fun e w' => e = .returned (.int .u32 (jY x).toNat) ∧ Ext w w') := by
 refine enter Tryz.func98 rfl Tryz.ntmps98 rfl ?_
 refine af (ab (zz0 (ad rfl) (ae (aa (af (af (ab (zz0 (ac rfl) (ae (aa ?_))))))))))
 refine ak rfl ?_ ?_ <;> intro h1 <;> try simp only [bs] at h1
 ·refine af (ab (zz0 (ad rfl) (ae (aa (ao (an ?_))))))
  refine aI Tryz.results98 rfl (fun w' hw => ?_)
  exact ⟨by rw [show x = true by assumption]; rfl, hw.below (Bg.le.refl _)⟩
 ·refine ax (aa (af (ab (zz0 (ad rfl) (ae (aa (ao ?_)))))))
  refine aI Tryz.results98 rfl (fun w' hw => ?_)
  exact ⟨by rw [show x = false by simp_all]; rfl, hw.below (Bg.le.refl _)⟩
theorem tN (H : Hp) (l : List SecV) (inp : List UInt32) (s : St) (cs : List CellV) (x : RP) (i : Ins) (w : World) (hH : Hp.le H (hp w)) (hR : RefAt H l inp s cs x) (hB : SecB l) (hcb : cs.length ≤ 1000000) (hI : InsOK i) (hA : 0 ≤ i.a ∧ i.a < 8) (hB' : 0 ≤ i.b ∧ i.b < 8) (hnx : i.addr + u32 i.size = s.m.pc) (hol : s.out.length ≤ 4096) :
  Calls Tryz.prog 64 #[.agg (ev s x).toArray, .agg (eC.enc i).toArray] w (fun e w' => ∃ j : List CellV × RP, e = .returned (.tuple #[.agg (ev (cU l inp s i s.m.pc).1 j.2).toArray, .int .i64 (cU l inp s i s.m.pc).2]) ∧ Ext w w' ∧ RefAt (vis H w.heap.size (hp w')) l inp (cU l inp s i s.m.pc).1 j.1 j.2 ∧ j.1.length ≤ cs.length + 4) := by
 have hA0 : RefAt (vis H w.heap.size (Bg.of w).blk) l inp s cs x := hR.mono (mG hH)
 have hS : RefAt (Bg.of w).blk l inp s cs x := hR.mono hH
 have hfn := hS.fn
 have hL' := hS.secs
 have hD' := hS.data
 have hC' := hS.cells
 have hX' := hS.inp
 have hO' := hS.out
 have hil := hX'.len_le
 have hin := hX'.len_v
 have hon := hO'.len_v
 have hdl : (inp.drop s.read).length = inp.length - s.read := List.length_drop
 refine enter Tryz.func64 rfl Tryz.ntmps64 rfl ?_
 refine af (ab ?_)
 refine cM rfl rfl rfl (fun b1 => ?_)
 refine cM rfl rfl rfl (fun b2 => ?_)
 refine c9 cA rfl (fun b3 => ?_)
 refine zz0 (ad rfl) (ae (aa (af (af (ab (zz0 (zz3 (off := 2) (ft := 3) rfl ag rfl aj) ?_))))))
 refine zz0 (aM rfl aD) ?_
 refine zz0 (dl rfl rfl) (zz0 (ac rfl) ?_)
 apply bF
 ·exact (rfl : _ = (4, 10, 14))
 ·exact rfl
 ·intro hT4; have hT4' := hT4
  try simp only [bs] at hT4'
  refine zz5 hT4 (zz3 (off := 2) (ft := 3) rfl ag rfl aj) ?_
  refine zz5 hT4 (aM rfl aD) ?_
  refine zz5 hT4 (dO rfl rfl) (zz0 (aE rfl hT4 rfl) ?_)
  refine ae (aa ?_)
  exact aw (Sub.cons rfl (zz7 4 rfl))
 ·intro hF4
  refine zz6 hF4 (zz6 hF4 (zz6 hF4 (zz0 (aF rfl hF4 rfl) ?_)))
  refine ae (aa ?_)
  exact aw (Sub.cons rfl (zz7 4 rfl))
 refine ae (aa ?_)
 refine ak rfl ?_ ?_ <;> intro h5 <;> try simp only [bs] at h5
 ·refine af (ab (zz0 (bK rfl aR au) ?_))
  refine zz0 (bK rfl bo aL) ?_
  refine zz0 (aB rfl Tryz.call94 (fun w hw => pY s x i w hI hA hB' (by omega))) ?_
  refine bb cK rfl rfl au ?_
  refine zz0 (ad rfl) (ae (aa (ao (an ?_))))
  refine ei dY rfl rfl aR au (fun w' hw => ?_)
  have hq : cU l inp s i s.m.pc = (f6 s i s.m.pc, 0) := by
   exact kB (by omega)
  exact ⟨(cs, x), by rw [hq]; try rfl, hw.below (Bg.le.refl _), by rw [hq]; exact ((hA0.mono (bV hw.hp)).with_ rfl rfl rfl), Nat.le_add_right _ _⟩
 ·refine ax (aa (af (af (ab (zz0 (zz3 (off := 2) (ft := 3) rfl ag rfl aj) ?_)))))
  refine zz0 (aM rfl aD) ?_
  refine ae (aa (aQ (af (ab (zz0 (aN rfl rfl) (zz0 (ad rfl) (ae (aa ?_))))))))
  refine ak rfl ?_ ?_ <;> intro h6 <;> try simp only [bs] at h6
  ·refine ab (zz0 (zz3 (off := 18) (ft := 4) rfl aJ rfl bv) ?_)
   refine zz4 rfl rfl bv (rz _) ?_
   refine ae (a9 (aa (af (ab (zz0 (bK rfl aR au) ?_)))))
   refine bb cK rfl rfl au ?_
   refine zz0 (ad rfl) (ae (aa (ao ?_)))
   refine ei dY rfl rfl aR au (fun w' hw => ?_)
   have hq : cU l inp s i s.m.pc = ({ s with done := true }, 0) := by
    rw [kB (by omega), tX (by omega), decide_eq_true (by assumption)]; rfl
   exact ⟨(cs, x), by rw [hq]; try rfl, hw.below (Bg.le.refl _), by rw [hq]; exact ((hA0.mono (bV hw.hp)).with_ rfl rfl rfl), Nat.le_add_right _ _⟩
  ·refine af (af (ab (zz0 (aN rfl rfl) (zz0 (ad rfl) (ae (aa ?_))))))
   apply cI
   ·exact rfl
   ·intro hO7
    try simp only [bs] at hO7
    refine af (ab (zz0 (aN rfl rfl) (zz0 (ad rfl) (ae (aa ?_)))))
    apply cI
    ·exact rfl
    ·intro hO8
     try simp only [bs] at hO8
     refine af (ab (zz0 (aN rfl rfl) (zz0 (ad rfl) (ae (aa ?_)))))
     apply cI
     ·exact rfl
     ·intro hO9
      try simp only [bs] at hO9
      refine af (ab (zz0 (aN rfl rfl) (zz0 (ad rfl) (ae (aa ?_)))))
      apply cI
      ·exact rfl
      ·intro hO10
       try simp only [bs] at hO10
       refine ab (zz0 (aN rfl rfl) (zz0 (ad rfl) (ae (aa ?_))))
       exact cX rfl (bQ 2 rfl)
      refine aa ?_
      exact cX rfl (bQ 3 rfl)
     refine aa ?_
     exact cX rfl (bQ 3 rfl)
    refine aa ?_
    exact cX rfl (bQ 3 rfl)
   refine aa ?_
   refine ak rfl ?_ ?_ <;> intro h11 <;> try simp only [bs] at h11
   ·refine af (ab (zz0 (bK rfl aR au) ?_))
    refine zz0 (bK rfl bo aL) ?_
    refine fK (H0 := H) (n := w.heap.size) (R := fun h (j : List CellV × RP) => RefAt h l inp (cU l inp s i s.m.pc).1 j.1 j.2 ∧ j.1.length ≤ cs.length + 4) (fun j : List CellV × RP => .tuple #[.agg (ev (cU l inp s i s.m.pc).1 j.2).toArray, .int .i64 (cU l inp s i s.m.pc).2]) (rfl : (Bg.of w).lo = _) hH (fun h h' j hh r => ⟨r.1.mono hh, r.2⟩) rfl Tryz.call95 (fun w2 hw2 hv2 => sk (vis H w.heap.size (Bg.of w).blk) l inp s cs x i w2 hv2 hA0 hB (by omega) hI hA hB' (by omega) hnx) rfl (fun j F1 hF1 hj => ?_)
    refine zz0 (ay rfl rfl) (zz0 (ay rfl rfl) (bb cK rfl rfl au ?_))
    refine zz0 (ad rfl) (ae (aa (ao (bf (an ?_)))))
    refine ei dY rfl rfl aR au (fun w' hw => ?_)
    exact ⟨j, rfl, hw.below hF1, hj.1.mono (bV hw.hp), hj.2⟩
   ·refine af (af (ab (zz0 (aN rfl rfl) (zz0 (ad rfl) (ae (aa ?_))))))
    apply cI
    ·exact rfl
    ·intro hO12
     try simp only [bs] at hO12
     refine af (ab (zz0 (aN rfl rfl) (zz0 (ad rfl) (ae (aa ?_)))))
     apply cI
     ·exact rfl
     ·intro hO13
      try simp only [bs] at hO13
      refine af (ab (zz0 (aN rfl rfl) (zz0 (ad rfl) (ae (aa ?_)))))
      apply cI
      ·exact rfl
      ·intro hO14
       try simp only [bs] at hO14
       refine ab (zz0 (aN rfl rfl) (zz0 (ad rfl) (ae (aa ?_))))
       exact cX rfl (bQ 2 rfl)
      refine aa ?_
      exact cX rfl (bQ 3 rfl)
     refine aa ?_
     exact cX rfl (bQ 3 rfl)
    refine aa ?_
    refine ak rfl ?_ ?_ <;> intro h15 <;> try simp only [bs] at h15
    ·refine af (ab (zz0 (bK rfl aR au) ?_))
     refine zz0 (bK rfl bo aL) ?_
     refine fK (H0 := H) (n := w.heap.size) (R := fun h (j : List CellV × RP) => RefAt h l inp (cU l inp s i s.m.pc).1 j.1 j.2 ∧ j.1.length ≤ cs.length + 4) (fun j : List CellV × RP => .tuple #[.agg (ev (cU l inp s i s.m.pc).1 j.2).toArray, .int .i64 (cU l inp s i s.m.pc).2]) (rfl : (Bg.of w).lo = _) hH (fun h h' j hh r => ⟨r.1.mono hh, r.2⟩) rfl Tryz.call96 (fun w2 hw2 hv2 => qX (vis H w.heap.size (Bg.of w).blk) l inp s cs x i w2 hv2 hA0 hB (by omega) hI hA hB' (by omega)) rfl (fun j F1 hF1 hj => ?_)
     refine zz0 (ay rfl rfl) (zz0 (ay rfl rfl) (bb cK rfl rfl au ?_))
     refine zz0 (ad rfl) (ae (aa (ao (bf (an ?_)))))
     refine ei dY rfl rfl aR au (fun w' hw => ?_)
     exact ⟨j, rfl, hw.below hF1, hj.1.mono (bV hw.hp), hj.2⟩
    ·refine af (ab (zz0 (aN rfl rfl) (zz0 (ad rfl) (ae (aa ?_)))))
     refine ak rfl ?_ ?_ <;> intro h16 <;> try simp only [bs] at h16
     ·refine bI ([cellE b2 (eC.enc i) 114]) 15 rfl aU ?_
      refine zz2 0 rfl (zz3 (off := 6) (ft := 3) rfl ag rfl aj) ?_
      refine zz2 1 rfl (aM rfl aD) ?_
      refine zz2 2 rfl (zz3 (off := 7) (ft := 3) rfl ag rfl aj) ?_
      refine zz2 3 rfl (aM rfl aD) ?_
      refine zz2 4 rfl (zz3 (off := 0) (ft := 40) rfl aJ rfl aP) ?_
      refine zz2 5 rfl (zz3 (off := 0) (ft := 36) rfl aA rfl bG) ?_
      refine zz2 6 rfl (fj rfl rfl aY ah) ?_
      refine zz2 8 rfl (zz3 (off := 1) (ft := 23) rfl ag rfl ah) ?_
      refine zz2 9 rfl (aM rfl az) ?_
      refine zz2 11 rfl (zz3 (off := 0) (ft := 40) rfl aJ rfl aP) ?_
      refine zz2 12 rfl (zz3 (off := 0) (ft := 36) rfl aA rfl bG) ?_
      refine zz9 [7] (fun iq hq => ?_)
      obtain rfl := List.mem_singleton.1 hq
      refine aX rfl ?_
      refine zz0 (dZ (v := .int .u32 (s.m.reg i.b).toNat) rfl (by repeat constructor) az (jc hB' (by simp))) ?_
      refine bB ?_
      refine zz2 10 rfl (cL rfl rfl) ?_
      refine zz2 13 rfl (fj rfl rfl aY ah) ?_
      refine zz9 [14] (fun iq hq => ?_)
      obtain rfl := List.mem_singleton.1 hq
      refine aX rfl ?_
      refine kr rfl rfl ah (by repeat constructor) (g6 hA (by simp) _) (by rfl) (by rw [g7]; first | (simp; done) | (simp; omega)) ?_
      refine bB ?_
      refine eh ?_
      refine a9 (aa (af (ab (zz0 (bK rfl aR au) ?_))))
      refine bb cK rfl rfl au ?_
      refine zz0 (ad rfl) (ae (aa (ao ?_)))
      refine ei dY rfl rfl aR au (fun w' hw => ?_)
      have hq : cU l inp s i s.m.pc = (s.setR i.a (s.m.reg i.b + i.imm), 0) := by
       rw [kB (by omega), xh (by assumption)]
      exact ⟨(cs, x), by rw [hq]; try rfl, hw.below (Bg.le.refl _), by rw [hq]; exact ((hA0.mono (bV hw.hp)).with_ rfl rfl rfl), Nat.le_add_right _ _⟩
     ·refine af (ab (zz0 (aN rfl rfl) (zz0 (ad rfl) (ae (aa ?_)))))
      refine ak rfl ?_ ?_ <;> intro h17 <;> try simp only [bs] at h17
      ·refine af (ab (zz0 (zz3 (off := 5) (ft := 3) rfl ag rfl aj) ?_))
       refine zz0 (aM rfl aD) ?_
       refine zz0 (zz3 (off := 0) (ft := 40) rfl aJ rfl aP) ?_
       refine zz0 (zz3 (off := 9) (ft := 38) rfl aA rfl bH) ?_
       refine zz0 (fg (vs := gU.enc s.m.f) rfl (by repeat constructor) dN bH rfl rfl) ?_
       refine zz0 (aB rfl Tryz.call97 (fun w hw => pU i.cc s.m.f w)) ?_
       refine ae (aa ?_)
       refine ak rfl ?_ ?_ <;> intro h18 <;> try simp only [bs] at h18
       ·refine ab (zz0 (zz3 (off := 1) (ft := 23) rfl ag rfl ah) ?_)
        refine zz0 (aM rfl az) ?_
        refine zz0 (zz3 (off := 0) (ft := 40) rfl aJ rfl aP) ?_
        refine zz0 (zz3 (off := 8) (ft := 23) rfl aA rfl ah) ?_
        refine zz4 rfl rfl ah (l7 _) ?_
        refine ae (a9 (aa (af (ab (zz0 (bK rfl aR au) ?_)))))
        refine bb cK rfl rfl au ?_
        refine zz0 (ad rfl) (ae (aa (ao ?_)))
        refine ei dY rfl rfl aR au (fun w' hw => ?_)
        have hh : em i.cc s.m.f = true := by assumption
        have hq : cU l inp s i s.m.pc = (s.to i.imm, 0) := by
         unfold cU eF df; repeat (first | rw [if_pos (by first | assumption | omega)] | rw [if_neg (by first | assumption | omega)])
         rfl
        exact ⟨(cs, x), by rw [hq]; try rfl, hw.below (Bg.le.refl _), by rw [hq]; exact ((hA0.mono (bV hw.hp)).with_ rfl rfl rfl), Nat.le_add_right _ _⟩
       ·refine ax (a9 (aa (af (ab (zz0 (bK rfl aR au) ?_)))))
        refine bb cK rfl rfl au ?_
        refine zz0 (ad rfl) (ae (aa (ao ?_)))
        refine ei dY rfl rfl aR au (fun w' hw => ?_)
        have hh : em i.cc s.m.f = false := by simp_all
        have hq : cU l inp s i s.m.pc = (s, 0) := by
         unfold cU eF df; repeat (first | rw [if_pos (by first | assumption | omega)] | rw [if_neg (by first | assumption | omega)])
         rw [hh]; rfl
        exact ⟨(cs, x), by rw [hq]; try rfl, hw.below (Bg.le.refl _), by rw [hq]; exact ((hA0.mono (bV hw.hp)).with_ rfl rfl rfl), Nat.le_add_right _ _⟩
      ·refine af (ab (zz0 (aN rfl rfl) (zz0 (ad rfl) (ae (aa ?_)))))
       refine ak rfl ?_ ?_ <;> intro h19 <;> try simp only [bs] at h19
       ·refine ab (zz0 (zz3 (off := 6) (ft := 3) rfl ag rfl aj) ?_)
        refine zz0 (aM rfl aD) ?_
        refine zz0 (zz3 (off := 0) (ft := 40) rfl aJ rfl aP) ?_
        refine zz0 (zz3 (off := 0) (ft := 36) rfl aA rfl bG) ?_
        refine zz0 (fj rfl rfl aY ah) ?_
        refine zz0 (dZ (v := .int .u32 (s.m.reg i.a).toNat) rfl (by repeat constructor) az (jc hA (by simp))) ?_
        refine zz0 (zz3 (off := 0) (ft := 40) rfl aJ rfl aP) ?_
        refine zz0 (zz3 (off := 8) (ft := 23) rfl aA rfl ah) ?_
        refine zz4 rfl rfl ah (l7 _) ?_
        refine ae (a9 (aa (af (ab (zz0 (bK rfl aR au) ?_)))))
        refine bb cK rfl rfl au ?_
        refine zz0 (ad rfl) (ae (aa (ao ?_)))
        refine ei dY rfl rfl aR au (fun w' hw => ?_)
        have hq : cU l inp s i s.m.pc = (s.to (s.m.reg i.a), 0) := by
         unfold cU eF df; repeat (first | rw [if_pos (by first | assumption | omega)] | rw [if_neg (by first | assumption | omega)])
         rfl
        exact ⟨(cs, x), by rw [hq]; try rfl, hw.below (Bg.le.refl _), by rw [hq]; exact ((hA0.mono (bV hw.hp)).with_ rfl rfl rfl), Nat.le_add_right _ _⟩
       ·refine af (ab (zz0 (aN rfl rfl) (zz0 (ad rfl) (ae (aa ?_)))))
        refine ak rfl ?_ ?_ <;> intro h20 <;> try simp only [bs] at h20
        ·refine bI ([cellE b2 (eC.enc i) 114]) 13 rfl aU ?_
         refine zz2 0 rfl (zz3 (off := 6) (ft := 3) rfl ag rfl aj) ?_
         refine zz2 1 rfl (aM rfl aD) ?_
         refine zz2 2 rfl (zz3 (off := 5) (ft := 3) rfl ag rfl aj) ?_
         refine zz2 3 rfl (aM rfl aD) ?_
         refine zz2 4 rfl (zz3 (off := 0) (ft := 40) rfl aJ rfl aP) ?_
         refine zz2 5 rfl (zz3 (off := 9) (ft := 38) rfl aA rfl bH) ?_
         refine zz2 9 rfl (zz3 (off := 0) (ft := 40) rfl aJ rfl aP) ?_
         refine zz2 10 rfl (zz3 (off := 0) (ft := 36) rfl aA rfl bG) ?_
         refine zz9 [6] (fun iq hq => ?_)
         obtain rfl := List.mem_singleton.1 hq
         refine aX rfl ?_
         refine zz0 (fg (vs := gU.enc s.m.f) rfl (by repeat constructor) dN bH rfl rfl) ?_
         refine bB ?_
         refine zz9 [7] (fun iq hq => ?_)
         obtain rfl := List.mem_singleton.1 hq
         refine aX rfl ?_
         refine zz0 (aB rfl Tryz.call97 (fun w hw => pU i.cc s.m.f w)) ?_
         refine bB ?_
         refine zz9 [8] (fun iq hq => ?_)
         obtain rfl := List.mem_singleton.1 hq
         refine aX rfl ?_
         refine zz0 (aB rfl Tryz.call98 (fun w hw => u0 (em i.cc s.m.f) w)) ?_
         refine bB ?_
         refine zz2 11 rfl (fj rfl rfl aY ah) ?_
         refine zz9 [12] (fun iq hq => ?_)
         obtain rfl := List.mem_singleton.1 hq
         refine aX rfl ?_
         refine kr rfl rfl ah (by repeat constructor) (g6 hA (by simp) _) (by rfl) (by rw [g7]; first | (simp; done) | (simp; omega)) ?_
         refine bB ?_
         refine eh ?_
         refine a9 (aa (af (ab (zz0 (bK rfl aR au) ?_))))
         refine bb cK rfl rfl au ?_
         refine zz0 (ad rfl) (ae (aa (ao ?_)))
         refine ei dY rfl rfl aR au (fun w' hw => ?_)
         have hq : cU l inp s i s.m.pc = (s.setR i.a (jY (em i.cc s.m.f)), 0) := by
          rw [kB (by omega), xe (by assumption)]
         exact ⟨(cs, x), by rw [hq]; try rfl, hw.below (Bg.le.refl _), by rw [hq]; exact ((hA0.mono (bV hw.hp)).with_ rfl rfl rfl), Nat.le_add_right _ _⟩
        ·refine af (ab (zz0 (aN rfl rfl) (zz0 (ad rfl) (ae (aa ?_)))))
         refine ak rfl ?_ ?_ <;> intro h21 <;> try simp only [bs] at h21
         ·refine af (af (ab (zz0 (zz3 (off := 16) (ft := 24) rfl aJ rfl cC) ?_)))
          refine zz0 (aM rfl dF) ?_
          refine zz0 (gI rfl al) ?_
          refine zz0 (aN rfl rfl) (ae (aa ?_))
          refine ak rfl ?_ ?_ <;> intro h22 <;> try simp only [bs] at h22
          ·refine af (ab (zz0 (bK rfl aR au) ?_))
           refine bb cK rfl rfl au ?_
           refine zz0 (ad rfl) (ae (aa (ao (an (bf (an ?_))))))
           refine ei dY rfl rfl aR au (fun w' hw => ?_)
           have hq : cU l inp s i s.m.pc = (s, 14) := by
            unfold cU eF df; repeat (first | rw [if_pos (by first | assumption | omega)] | rw [if_neg (by first | assumption | omega)])
           exact ⟨(cs, x), by rw [hq]; try rfl, hw.below (Bg.le.refl _), by rw [hq]; exact (hA0.mono (bV hw.hp)), Nat.le_add_right _ _⟩
          ·refine ax (aa (af (bI ([cellE b2 (eC.enc i) 114]) 10 rfl aU ?_)))
           refine zz2 0 rfl (zz3 (off := 6) (ft := 3) rfl ag rfl aj) ?_
           refine zz2 1 rfl (aM rfl aD) ?_
           refine zz2 2 rfl (zz3 (off := 16) (ft := 24) rfl aJ rfl cC) ?_
           refine zz2 6 rfl (zz3 (off := 0) (ft := 40) rfl aJ rfl aP) ?_
           refine zz2 7 rfl (zz3 (off := 0) (ft := 36) rfl aA rfl bG) ?_
           refine zz9 [3] (fun iq hq => ?_)
           obtain rfl := List.mem_singleton.1 hq
           refine aX rfl ?_
           refine zz0 (aM rfl dF) ?_
           refine bB ?_
           refine zz2 4 rfl (gP rfl rfl al ah) ?_
           refine zz2 5 rfl (gK rfl az) ?_
           refine zz2 8 rfl (fj rfl rfl aY ah) ?_
           refine zz9 [9] (fun iq hq => ?_)
           obtain rfl := List.mem_singleton.1 hq
           refine aX rfl ?_
           refine kr rfl rfl ah (by repeat constructor) (g6 hA (by simp) _) (by rfl) (by rw [g7]; first | (simp; done) | (simp; omega)) ?_
           refine bB ?_
           refine eh ?_
           refine aa (ab (zz0 (zz3 (off := 16) (ft := 24) rfl aJ rfl cC) ?_))
           refine zz0 (aM rfl dF) ?_
           refine zz0 (uH (xs := inp.drop s.read) (lv := some (_, 1)) (hv := none) rfl hX' rfl rfl al ah (by rfl) (by decide) (by simp only [mF, lH]; omega) (by simp only [lH]; omega)) ?_
           refine zz0 (zz3 (off := 16) (ft := 24) rfl aJ rfl cC) ?_
           refine zz4 rfl rfl cC (An ⟨_, _, _⟩) ?_
           refine ae (a9 (aa (af (ab (zz0 (bK rfl aR au) ?_)))))
           refine bb cK rfl rfl au ?_
           refine zz0 (ad rfl) (ae (aa (ao ?_)))
           refine ei dY rfl rfl aR au (fun w' hw => ?_)
           have hg : (inp.drop s.read).getD 0 default = inp.getD s.read default := by simp [List.getD_eq_getElem?_getD, List.getElem?_drop]
           have hq : cU l inp s i s.m.pc = ({ s.setR i.a (inp.getD s.read default) with read := s.read + 1 }, 0) := by
            unfold cU eF df; repeat (first | rw [if_pos (by first | assumption | omega)] | rw [if_neg (by first | assumption | omega)])
            show (({ s with m := (s.m.set i.a _).to s.m.pc, read := _ } : St), _) = _; rw [Mach.set_to_pc]; rfl
           exact ⟨(cs, { x with i := ⟨if x.i.c = 1 then x.i.a else x.i.a.map (·.add (1 * av.k)), (inp.drop s.read).length - 1, x.i.c - 1⟩ }), by rw [hq, ← hg]; rfl, hw.below (Bg.le.refl _), by rw [hq]; exact ((hA0.mono (bV hw.hp)).next_ (by omega)), Nat.le_add_right _ _⟩
         ·refine af (ab (zz0 (aN rfl rfl) (zz0 (ad rfl) (ae (aa ?_)))))
          refine ak rfl ?_ ?_ <;> intro h23 <;> try simp only [bs] at h23
          ·refine af (af (ab (zz0 (zz3 (off := 17) (ft := 24) rfl aJ rfl cC) ?_)))
           refine zz0 (aM rfl dF) ?_
           refine zz0 (gI rfl al) ?_
           refine zz0 (dl rfl rfl) (ae (aa ?_))
           refine ak rfl ?_ ?_ <;> intro h24 <;> try simp only [bs] at h24
           ·refine af (ab (zz0 (bK rfl aR au) ?_))
            refine bb cK rfl rfl au ?_
            refine zz0 (ad rfl) (ae (aa (ao (an (bf (an ?_))))))
            refine ei dY rfl rfl aR au (fun w' hw => ?_)
            have hq : cU l inp s i s.m.pc = (s, 6) := by
             unfold cU eF df; repeat (first | rw [if_pos (by first | assumption | omega)] | rw [if_neg (by first | assumption | omega)])
            exact ⟨(cs, x), by rw [hq]; try rfl, hw.below (Bg.le.refl _), by rw [hq]; exact (hA0.mono (bV hw.hp)), Nat.le_add_right _ _⟩
           ·refine ax (aa (af (ab (zz0 (ad rfl) (ae (aa (af (ab (zz0 (ac rfl) (zz0 (zz3 (off := 17) (ft := 24) rfl aJ rfl cC) ?_))))))))))
            refine zz0 (aM rfl dF) ?_
            refine gd _ _ (gJ (ys := s.out) rfl rfl (by repeat constructor) (fun w hw => hw.slF hO') al gy (by rfl) (by rfl) (by (try simp only [List.length_cons, List.length_nil, List.length_append, List.length_take, List.length_drop]); omega) (by unfold maxLen; (try simp only [List.length_cons, List.length_nil, List.length_append, List.length_take, List.length_drop]); omega) rfl (fun V43 => ?_))
            rw [List.nil_append]
            refine zz0 (ad rfl) (ae (aa (ab (zz0 (ac rfl) (zz0 (zz3 (off := 6) (ft := 3) rfl ag rfl aj) ?_)))))
            refine zz0 (aM rfl aD) ?_
            refine zz0 (zz3 (off := 0) (ft := 40) rfl aJ rfl aP) ?_
            refine zz0 (zz3 (off := 0) (ft := 36) rfl aA rfl bG) ?_
            refine zz0 (fj rfl rfl aY ah) ?_
            refine zz0 (dZ (v := .int .u32 (s.m.reg i.a).toNat) rfl (by repeat constructor) az (jc hA (by simp))) ?_
            refine fB (E := av) (s.m.reg i.a) rfl rfl al ah fm (by rfl) (by rfl) rfl (fun V25 => ?_)
            refine zz8 rfl rfl al gy (fun V44 => ?_)
            refine jm (V := V44) (fun pn cn hpv => ?_)
            subst hpv
            refine zz0 (zz3 (off := 17) (ft := 24) rfl aJ rfl cC) ?_
            refine zz4 rfl rfl cC (yA ⟨_, _, _⟩) ?_
            refine ae (a9 (aa (af (ab (zz0 (bK rfl aR au) ?_)))))
            refine bb cK rfl rfl au ?_
            refine zz0 (ad rfl) (ae (aa (ao ?_)))
            refine ei dY rfl rfl aR au (fun w' hw => ?_)
            have hq : cU l inp s i s.m.pc = ({ s with out := s.out ++ [s.m.reg i.a] }, 0) := by
             exact AV (by assumption) (by omega)
            exact ⟨(cs, { x with o := ⟨pn, _, cn⟩ }), by rw [hq]; try rfl, hw.below (Bg.le.refl _), by rw [hq]; exact ((hA0.mono (bV hw.hp)).out_ ((hw.new (.head _)).sl.mono i5)), Nat.le_add_right _ _⟩
          ·refine ax (a9 (aa (af (ab (zz0 (bK rfl aR au) ?_)))))
           refine bb cK rfl rfl au ?_
           refine zz0 (ad rfl) (ae (aa (ao ?_)))
           refine ei dY rfl rfl aR au (fun w' hw => ?_)
           have hq : cU l inp s i s.m.pc = (s, 0) := by
            rw [kB (by omega), tX (by omega), decide_eq_false (by assumption)]; rfl
           exact ⟨(cs, x), by rw [hq]; try rfl, hw.below (Bg.le.refl _), by rw [hq]; exact ((hA0.mono (bV hw.hp)).with_ rfl rfl rfl), Nat.le_add_right _ _⟩
theorem tM (H : Hp) (l : List SecV) (inp : List UInt32) (s : St) (cs : List CellV) (x : RP) (w : World) (hH : Hp.le H (hp w)) (hR : RefAt H l inp s cs x) (hB : SecB l) (hcb : cs.length ≤ 1000000) (hol : s.out.length ≤ 4096) :
  Calls Tryz.prog 39 #[.agg (ev s x).toArray] w (fun e w' => ∃ j : List CellV × RP, e = .returned (.tuple #[.agg (ev (dX l inp s).1 j.2).toArray, .int .i64 (dX l inp s).2]) ∧ Ext w w' ∧ RefAt (vis H w.heap.size (hp w')) l inp (dX l inp s).1 j.1 j.2 ∧ j.1.length ≤ cs.length + 4) := by
 have hA0 : RefAt (vis H w.heap.size (Bg.of w).blk) l inp s cs x := hR.mono (mG hH)
 have hS : RefAt (Bg.of w).blk l inp s cs x := hR.mono hH
 have hfn := hS.fn
 have hL' := hS.secs
 have hD' := hS.data
 have hC' := hS.cells
 have hX' := hS.inp
 have hO' := hS.out
 refine enter Tryz.func39 rfl Tryz.ntmps39 rfl ?_
 refine af (ab ?_)
 refine cM rfl rfl rfl (fun b1 => ?_)
 refine c9 cA rfl (fun b2 => ?_)
 refine zz0 (ad rfl) (ae (aa (af (ab (zz0 (zz3 (off := 13) (ft := 30) rfl aJ rfl ba) ?_)))))
 refine zz0 (fg (vs := f8 x.l x.c) rfl (by repeat constructor) bX ba rfl rfl) ?_
 refine zz0 (zz3 (off := 0) (ft := 40) rfl aJ rfl aP) ?_
 refine zz0 (zz3 (off := 8) (ft := 23) rfl aA rfl ah) ?_
 refine zz0 (aM rfl az) ?_
 refine oW (fun V => .tuple #[V, .int .i64 (dB l s.w s.m.pc).2]) rfl Tryz.call62 (fun w hw => by have q := tJ l cs x.l x.c s.m.pc w (hw.slF hL') (hw.slF hC') (hD'.mono hw.bg) hB; rw [hfn] at q; exact q) rfl (fun V51 => ?_)
 refine zz0 (ac rfl) (zz0 (ay rfl rfl) (zz0 (ay rfl rfl) (zz0 (ad rfl) (zz0 (ad rfl) (ae (aa (af (af (ab (zz0 (ac rfl) (zz0 (dk rfl rfl) (ae (aa ?_)))))))))))))
 refine ak rfl ?_ ?_ <;> intro h3 <;> try simp only [bs] at h3
 ·refine af (ab (zz0 (bK rfl aR au) ?_))
  refine zz0 (ac rfl) (bb cK rfl rfl au ?_)
  refine zz0 (ad rfl) (ae (aa (ao (an ?_))))
  refine ei kb rfl rfl aR au (fun w' hw => ?_)
  have hq : dX l inp s = (s, (dB l s.w s.m.pc).2) := by unfold dX; rw [if_pos (by assumption)]
  exact ⟨(cs, x), by rw [hq]; try rfl, hw.below (Bg.le.refl _), by rw [hq]; exact (hA0.mono (bV hw.hp)), Nat.le_add_right _ _⟩
 ·refine ax (aa (af (ab (zz0 (ac rfl) (zz0 (zz3 (off := 0) (ft := 40) rfl aJ rfl aP) ?_)))))
  refine zz0 (zz3 (off := 8) (ft := 23) rfl aA rfl ah) ?_
  refine zz0 (aM rfl az) ?_
  refine zz0 (aB rfl Tryz.call63 (fun w hw => (by have q := qS (dB l s.w s.m.pc).1 _ s.m.pc w (hw.row (by repeat constructor)); rw [AZ] at q; exact q))) ?_
  refine zz0 (ac rfl) (zz0 (ay rfl rfl) (zz0 (ay rfl rfl) ?_))
  refine c9 du rfl (fun b4 => ?_)
  refine bw eC rfl rfl aL ?_
  obtain ⟨ii, hii⟩ : ∃ ii, ii = (gv (dB l s.w s.m.pc).1 s.m.pc).1 := ⟨_, rfl⟩
  rw [← hii]
  refine zz0 (ad rfl) (ae (aa (af (af (ab (zz0 (ac rfl) (zz0 (dk rfl rfl) (ae (aa ?_)))))))))
  refine ak rfl ?_ ?_ <;> intro h5 <;> try simp only [bs] at h5
  ·refine af (ab (zz0 (bK rfl aR au) ?_))
   refine zz0 (ac rfl) (bb cK rfl rfl au ?_)
   refine zz0 (ad rfl) (ae (aa (ao (an ?_))))
   refine ei kb rfl rfl aR au (fun w' hw => ?_)
   have hq : dX l inp s = (s, (gv (dB l s.w s.m.pc).1 s.m.pc).2) := by unfold dX; rw [if_neg (by simp_all), if_pos (by assumption)]
   exact ⟨(cs, x), by rw [hq]; try rfl, hw.below (Bg.le.refl _), by rw [hq]; exact (hA0.mono (bV hw.hp)), Nat.le_add_right _ _⟩
  ·refine ax (aa (af ?_))
   have hf0 : (dB l s.w s.m.pc).2 = 0 := by simp_all
   have hd0 : (gv (dB l s.w s.m.pc).1 s.m.pc).2 = 0 := by simp_all
   have hIi : InsOK ii := by rw [hii]; exact zo
   obtain ⟨hAi, hBi⟩ := uv hd0
   have hnx := zp hd0
   rw [← hii] at hAi hBi hnx
   have hex : dX l inp s = cU l inp s ii (ii.addr + u32 ii.size) := by unfold dX; rw [if_neg (by simp_all), if_neg (by simp_all), ← hii, hnx]
   have het := BG (l := l) (inp := inp) (s := s) (i := ii) (nx := ii.addr + u32 ii.size)
   refine ab (zz0 (bK rfl aR au) ?_)
   refine c9 cA rfl (fun b6 => ?_)
   refine bb cK rfl rfl au ?_
   refine ae (aa (af (ab (zz0 (zz3 (off := 0) (ft := 23) rfl ag rfl ah) ?_))))
   refine zz0 (aM rfl az) ?_
   refine zz0 (zz3 (off := 8) (ft := 3) rfl ag rfl aj) ?_
   refine zz0 (aM rfl aD) ?_
   refine zz0 (eY rfl aO aT) (zz0 (cL rfl rfl) ?_)
   refine zz0 (zz3 (off := 0) (ft := 40) rfl aJ rfl aP) ?_
   refine zz0 (zz3 (off := 8) (ft := 23) rfl aA rfl ah) ?_
   refine zz4 rfl rfl ah (l7 _) ?_
   refine ae (aa (af (ab (zz0 (bK rfl aR au) ?_))))
   refine zz0 (bK rfl bo aL) ?_
   refine fK (H0 := H) (n := w.heap.size) (R := fun h (j : List CellV × RP) => RefAt h l inp (cU l inp (s.to (ii.addr + u32 ii.size)) ii (s.to (ii.addr + u32 ii.size)).m.pc).1 j.1 j.2 ∧ j.1.length ≤ cs.length + 4) (fun j : List CellV × RP => .tuple #[.agg (ev (cU l inp (s.to (ii.addr + u32 ii.size)) ii (s.to (ii.addr + u32 ii.size)).m.pc).1 j.2).toArray, .int .i64 (cU l inp (s.to (ii.addr + u32 ii.size)) ii (s.to (ii.addr + u32 ii.size)).m.pc).2]) (rfl : (Bg.of w).lo = _) hH (fun h h' j hh r => ⟨r.1.mono hh, r.2⟩) rfl Tryz.call64 (fun w2 hw2 hv2 => tN (vis H w.heap.size (Bg.of w).blk) l inp (s.to (ii.addr + u32 ii.size)) cs x ii w2 hv2 (hA0.with_ rfl rfl rfl) hB (by omega) hIi hAi hBi rfl hol) rfl (fun j F1 hF1 hj => ?_)
   refine zz0 (ac rfl) (zz0 (ay rfl rfl) (zz0 (ay rfl rfl) (bb cK rfl rfl au ?_)))
   refine zz0 (ad rfl) (ae (aa (af (af (ab (zz0 (ac rfl) (zz0 (dk rfl rfl) (ae (aa ?_)))))))))
   refine ak rfl ?_ ?_ <;> intro h7 <;> try simp only [bs] at h7
   ·refine af (ab (zz0 (bK rfl aR au) ?_))
    refine zz0 (ac rfl) (bb cK rfl rfl au ?_)
    refine zz0 (ad rfl) (ae (aa (ao (an ?_))))
    refine ei kb rfl rfl aR au (fun w' hw => ?_)
    have he1 : (cU l inp s ii (ii.addr + u32 ii.size)).2 ≠ 0 := by rw [← het.1]; assumption
    exact ⟨(cs, x), by rw [hex, sG he1, ← het.1]; rfl, hw.below hF1, by rw [hex, sG he1]; exact ((hA0.mono (bV hF1.blk)).mono (bV hw.hp)), Nat.le_add_right _ _⟩
   ·refine ax (aa (af (ab (zz0 (bK rfl aR au) ?_))))
    refine bb cK rfl rfl au ?_
    refine zz0 (ad rfl) (ae (aa (ao ?_)))
    refine ei kb rfl rfl aR au (fun w' hw => ?_)
    have he0 : (cU l inp s ii (ii.addr + u32 ii.size)).2 = 0 := by rw [← het.1]; assumption
    have he1 := het.2 he0
    exact ⟨j, by rw [hex, he0, ← he1]; rfl, hw.below hF1, by rw [hex, ← he1]; exact hj.1.mono (bV hw.hp), hj.2⟩
theorem oL (H : Hp) (l : List SecV) (inp : List UInt32) (s : St) (cs : List CellV) (x : RP) (w : World) (hH : Hp.le H (hp w)) (hR : RefAt H l inp s cs x) (hB : SecB l) (hcb : cs.length ≤ 1000000) (hol : s.out.length ≤ 4096) :
  Calls Tryz.prog 20 #[.agg (ev s x).toArray] w (fun e w' => ∃ j : List CellV × RP, e = .returned (.tuple #[.agg (ev (stepS l inp s).1 j.2).toArray, .int .i64 (stepS l inp s).2]) ∧ Ext w w' ∧ RefAt (vis H w.heap.size (hp w')) l inp (stepS l inp s).1 j.1 j.2 ∧ j.1.length ≤ cs.length + 4) := by
 have hA0 : RefAt (vis H w.heap.size (Bg.of w).blk) l inp s cs x := hR.mono (mG hH)
 have hS : RefAt (Bg.of w).blk l inp s cs x := hR.mono hH
 have hfn := hS.fn
 have hL' := hS.secs
 have hD' := hS.data
 have hC' := hS.cells
 have hX' := hS.inp
 have hO' := hS.out
 refine enter Tryz.func20 rfl Tryz.ntmps20 rfl ?_
 refine af (ab ?_)
 refine cM rfl rfl rfl (fun b1 => ?_)
 refine c9 cA rfl (fun b2 => ?_)
 refine zz0 (ad rfl) (ae (aa (af (af (ab (zz0 (zz3 (off := 18) (ft := 4) rfl aJ rfl bv) ?_))))))
 refine zz0 (aM rfl bR) ?_
 refine ae (aa ?_)
 refine ak rfl ?_ ?_ <;> intro h3 <;> try simp only [bs] at h3
 ·refine af (ab (zz0 (bK rfl aR au) ?_))
  refine bb cK rfl rfl au ?_
  refine zz0 (ad rfl) (ae (aa (ao (an ?_))))
  refine ei Tryz.results20 rfl rfl aR au (fun w' hw => ?_)
  have hq : stepS l inp s = (s, 21) := by unfold stepS; rw [if_pos (by assumption)]
  exact ⟨(cs, x), by rw [hq]; try rfl, hw.below (Bg.le.refl _), by rw [hq]; exact (hA0.mono (bV hw.hp)), Nat.le_add_right _ _⟩
 ·refine ax (aa (af (af (ab (zz0 (zz3 (off := 19) (ft := 31) rfl aJ rfl cS) ?_)))))
  refine zz0 (aM rfl ee) ?_
  refine zz0 (dk rfl rfl) (ae (aa ?_))
  refine ak rfl ?_ ?_ <;> intro h4 <;> try simp only [bs] at h4
  ·refine af (bI ([cellE b1 (ev s x) 42]) 5 rfl aU ?_)
   refine zz2 0 rfl (bK rfl aR au) ?_
   refine zz2 1 rfl (zz3 (off := 19) (ft := 31) rfl aJ rfl cS) ?_
   refine zz2 2 rfl (aM rfl ee) ?_
   refine zz9 [3] (fun iq hq => ?_)
   obtain rfl := List.mem_singleton.1 hq
   refine aX rfl ?_
   refine bb cK rfl rfl au ?_
   refine bB ?_
   refine zz2 4 rfl (ad rfl) ?_
   refine eh ?_
   refine aa (ao (an ?_))
   refine ei Tryz.results20 rfl rfl aR au (fun w' hw => ?_)
   have hq : stepS l inp s = (s, s.err) := by unfold stepS; rw [if_neg (by rw [show s.done = false by assumption]; simp), if_pos (by assumption)]
   exact ⟨(cs, x), by rw [hq]; try rfl, hw.below (Bg.le.refl _), by rw [hq]; exact (hA0.mono (bV hw.hp)), Nat.le_add_right _ _⟩
  ·refine ax (aa (af (ab (zz0 (bK rfl aR au) ?_))))
   refine fK (H0 := H) (n := w.heap.size) (R := fun h (j : List CellV × RP) => RefAt h l inp (dX l inp s).1 j.1 j.2 ∧ j.1.length ≤ cs.length + 4) (fun j : List CellV × RP => .tuple #[.agg (ev (dX l inp s).1 j.2).toArray, .int .i64 (dX l inp s).2]) (rfl : (Bg.of w).lo = _) hH (fun h h' j hh r => ⟨r.1.mono hh, r.2⟩) rfl Tryz.call39 (fun w2 hw2 hv2 => tM (vis H w.heap.size (Bg.of w).blk) l inp s cs x  w2 hv2 hA0 hB (by omega) hol) rfl (fun j F1 hF1 hj => ?_)
   refine zz0 (ac rfl) (zz0 (ay rfl rfl) (zz0 (ay rfl rfl) ?_))
   refine c9 cA rfl (fun b5 => ?_)
   refine bb cK rfl rfl au ?_
   refine zz0 (ad rfl) (ae (aa (af (ab (zz0 (ac rfl) (zz0 (zz3 (off := 19) (ft := 31) rfl aJ rfl cS) ?_))))))
   refine zz4 rfl rfl cS (yB _) ?_
   refine ae (aa (af (ab (zz0 (bK rfl aR au) ?_))))
   refine zz0 (ac rfl) (bb cK rfl rfl au ?_)
   refine zz0 (ad rfl) (ae (aa (ao ?_)))
   refine ei Tryz.results20 rfl rfl aR au (fun w' hw => ?_)
   have hq : stepS l inp s = ({ (dX l inp s).1 with err := (dX l inp s).2 }, (dX l inp s).2) := by unfold stepS; rw [if_neg (by simp_all), if_neg (by simp_all)]
   exact ⟨j, by rw [hq]; try rfl, hw.below hF1, by rw [hq]; exact (hj.1.mono (bV hw.hp)).with_ rfl rfl rfl, hj.2⟩
theorem si (H : Hp) (l : List SecV) (inp : List UInt32) (s : St) (cs : List CellV) (x : RP) (n : Int) (w : World) (hH : Hp.le H (hp w)) (hR : RefAt H l inp s cs x) (hB : SecB l) (hcb : cs.length ≤ 500000) (hol : s.out.length ≤ 4096) :
  Calls Tryz.prog 16 #[.agg (ev s x).toArray, .int .i64 n] w (fun e w' => ∃ j : List CellV × RP × Value, e = .returned (.tuple #[.agg (ev (dm l inp (min n 65536).toNat s) j.2.1).toArray, j.2.2, .agg #[.int .i64 (jV (dm l inp (min n 65536).toNat s)), .slice j.2.1.o.a j.2.1.o.n j.2.1.o.c, .int .i64 ((da l inp (min n 65536).toNat s).length : Nat)]]) ∧ Ext w w' ∧ (RefAt (vis H w.heap.size (hp w')) l inp (dm l inp (min n 65536).toNat s) j.1 j.2.1 ∧ Sl (vis H w.heap.size (hp w')) av (da l inp (min n 65536).toNat s) j.2.2) ∧ j.1.length ≤ cs.length + 4 * (da l inp (min n 65536).toNat s).length) := by
 have hA0 : RefAt (vis H w.heap.size (Bg.of w).blk) l inp s cs x := hR.mono (mG hH)
 have hS : RefAt (Bg.of w).blk l inp s cs x := hR.mono hH
 have hfn := hS.fn
 have hL' := hS.secs
 have hD' := hS.data
 have hC' := hS.cells
 have hX' := hS.inp
 have hO' := hS.out
 refine enter Tryz.func16 rfl Tryz.ntmps16 rfl ?_
 refine af (ab ?_)
 refine cM rfl rfl rfl (fun b1 => ?_)
 refine c9 cA rfl (fun b2 => ?_)
 refine zz0 (ad rfl) ?_
 refine c9 di rfl (fun b3 => ?_)
 refine ae (aa (af (ab (zz0 (ad rfl) (ae (aa (af (aQ (gd 23 av ?_)))))))))
 refine cp (ι := Nat × St × List UInt32 × List CellV × RP × Value × Bg) (fun ⟨k, t, tr, ct, xt, vt, G⟩ => Ran l inp s k t tr ∧ k ≤ (min n 65536).toNat ∧ (Bg.of w).le G ∧ RefAt (vis H w.heap.size G.blk) l inp t ct xt ∧ ct.length ≤ cs.length + 4 * k) (fun ⟨k, t, tr, ct, xt, vt, G⟩ => G) (fun ⟨k, t, tr, ct, xt, vt, G⟩ => [rowE vt 23 av tr, cellE b3 [.int .i64 0, .slice none 0 0, .int .i64 0] 46, cellE b2 [.int .u32 0, .int .u32 0, .int .u32 0, .int .u32 0, .int .u32 0, .int .u32 0, .int .u32 0, .int .u32 0, .int .u32 0, .bool false, .bool false, .bool false, .bool false, .bool false, .slice none 0 0, .slice none 0 0, .slice none 0 0, .slice none 0 0, .bool false, .int .i64 0] 42, cellE b1 (ev t xt) 42]) (fun ⟨k, t, tr, ct, xt, vt, G⟩ => [(7, vt)]) (fun ⟨k, t, tr, ct, xt, vt, G⟩ => (min n 65536).toNat - k) (0, s, [], cs, x, _, Bg.of w) ⟨.nil, Nat.zero_le _, Bg.le.refl _, hA0, Nat.le_refl _⟩ (.cons (by first | rfl | exact am rfl (by omega) | exact am rfl (by simp) | exact aS rfl (by simp)) Front.nil) (by repeat' constructor) rfl (fun i hi m hm => ?_)
 obtain ⟨k, t, tr, ct, xt, vt, G⟩ := i
 replace hi : Ran l inp s k t tr ∧ k ≤ (min n 65536).toNat ∧ (Bg.of w).le G ∧ RefAt (vis H w.heap.size G.blk) l inp t ct xt ∧ ct.length ≤ cs.length + 4 * k := hi
 replace hm : m = (min n 65536).toNat - k := hm
 change Tr _ (G) [rowE vt 23 av tr, cellE b3 [.int .i64 0, .slice none 0 0, .int .i64 0] 46, cellE b2 [.int .u32 0, .int .u32 0, .int .u32 0, .int .u32 0, .int .u32 0, .int .u32 0, .int .u32 0, .int .u32 0, .int .u32 0, .bool false, .bool false, .bool false, .bool false, .bool false, .slice none 0 0, .slice none 0 0, .slice none 0 0, .slice none 0 0, .bool false, .int .i64 0] 42, cellE b1 (ev t xt) 42] ([(7, vt)] ++ _) _
 obtain ⟨hR0, hk, hG, hRA, hcl⟩ := hi
 have hrl := hR0.len
 have hSt := hRA.mono (lg (hH.trans hG.blk))
 refine af (af (ab (zz0 (ac rfl) (zz0 (fh rfl (by repeat constructor) al) ?_))))
 refine zz0 (ac rfl) (zz0 (lb rfl rfl) ?_)
 refine zz0 (cE rfl rfl) (zz0 (ac rfl) ?_)
 apply bF
 ·exact (rfl : _ = (4, 16, 20))
 ·exact rfl
 ·intro hT4; have hT4' := hT4
  try simp only [bs] at hT4'
  refine zz5 hT4 (zz3 (off := 18) (ft := 4) rfl aJ rfl bv) ?_
  refine zz5 hT4 (aM rfl bR) ?_
  refine zz5 hT4 (cj rfl) (zz0 (aE rfl hT4 rfl) ?_)
  refine ae (aa ?_)
  exact aw (Sub.cons rfl (zz7 4 rfl))
 ·intro hF4
  refine zz6 hF4 (zz6 hF4 (zz6 hF4 (zz0 (aF rfl hF4 rfl) ?_)))
  refine ae (aa ?_)
  exact aw (Sub.cons rfl (zz7 4 rfl))
 refine zz0 (ac rfl) ?_
 apply bF
 ·exact (rfl : _ = (4, 21, 25))
 ·exact rfl
 ·intro hT5; have hT5' := hT5
  try simp only [bs] at hT5'
  refine zz5 hT5 (zz3 (off := 19) (ft := 31) rfl aJ rfl cS) ?_
  refine zz5 hT5 (aM rfl ee) ?_
  refine zz5 hT5 (aN rfl rfl) (zz0 (aE rfl hT5 rfl) ?_)
  refine ae (aa ?_)
  exact aw (Sub.cons rfl (zz7 4 rfl))
 ·intro hF5
  refine zz6 hF5 (zz6 hF5 (zz6 hF5 (zz0 (aF rfl hF5 rfl) ?_)))
  refine ae (aa ?_)
  exact aw (Sub.cons rfl (zz7 4 rfl))
 refine ae (aa ?_)
 refine ak rfl ?_ ?_ <;> intro h6 <;> try simp only [bs] at h6
 ·refine ax (aa (aQ (af (ab (zz0 (ac rfl) (zz0 (zz3 (off := 0) (ft := 40) rfl aJ rfl aP) ?_))))))
  refine zz0 (zz3 (off := 8) (ft := 23) rfl aA rfl ah) ?_
  refine zz0 (aM rfl az) ?_
  refine fB (E := av) t.m.pc rfl rfl al ah fm (by rfl) (by rfl) rfl (fun V7 => ?_)
  refine zz8 rfl rfl al gy (fun V44 => ?_)
  refine zz0 (ad rfl) (ae (aa (af (ab (zz0 (bK rfl aR au) ?_)))))
  refine fK (H0 := H) (n := w.heap.size) (R := fun h (j : List CellV × RP) => RefAt h l inp (stepS l inp t).1 j.1 j.2 ∧ j.1.length ≤ ct.length + 4) (fun j : List CellV × RP => .tuple #[.agg (ev (stepS l inp t).1 j.2).toArray, .int .i64 (stepS l inp t).2]) hG.lo (hH.trans hG.blk) (fun h h' j hh r => ⟨r.1.mono hh, r.2⟩) rfl Tryz.call20 (fun w2 hw2 hv2 => oL (vis H w.heap.size G.blk) l inp t ct xt w2 hv2 hRA hB (by omega) (hR0.out_len hol)) rfl (fun j F1 hF1 hj => ?_)
  refine zz0 (ac rfl) (zz0 (ay rfl rfl) (zz0 (ay rfl rfl) ?_))
  refine c9 cA rfl (fun b8 => ?_)
  refine bb cK rfl rfl au ?_
  refine zz0 (ad rfl) (ae (aa (ab (zz0 (bK rfl aR au) ?_))))
  refine bb cK rfl rfl au ?_
  refine ae (a9 (aa ?_))
  apply bP (k + 1, (stepS l inp t).1, tr ++ [t.m.pc], j.1, j.2, V44, F1)
  ·exact rfl
  ·exact (.cons (by first | rfl | exact am rfl (by omega) | exact am rfl (by simp) | exact aS rfl (by simp)) Front.nil)
  ·exact bQ 25 rfl
  ·exact (by repeat' constructor)
  ·exact ⟨.snoc hR0 (by simp_all) (by simp_all), by omega, hG.trans hF1, hj.1, by have := hj.2; show j.1.length ≤ _; omega⟩
  ·exact (by show (min n 65536).toNat - (k + 1) < m; omega)
 ·refine cm (aV (aV (bT (aa (af ?_)))))
  have hfu := hR0.full (n := (min n 65536).toNat) hk (by by_cases hq : k = (min n 65536).toNat; exact .inl hq; right; rintro ⟨q1, q2⟩; simp_all; omega)
  refine vJ (H0 := H) (n := w.heap.size) hG.lo (.here _) (fun F2 hF2 hvt => ?_)
  have hvt2 : Sl F2.blk av tr vt := hvt.mono (lg (hH.trans (hG.trans hF2).blk))
  refine ab (zz0 (zz3 (off := 19) (ft := 31) rfl aJ rfl cS) ?_)
  refine zz0 (aM rfl ee) ?_
  refine zz0 (ad rfl) (ae (aa ?_))
  refine eJ (ι := Int) (fun er => er = jV t) (fun _ => F2) (fun er => [cellE b3 [.int .i64 0, .slice none 0 0, .int .i64 0] 46, cellE b2 [.int .u32 0, .int .u32 0, .int .u32 0, .int .u32 0, .int .u32 0, .int .u32 0, .int .u32 0, .int .u32 0, .int .u32 0, .bool false, .bool false, .bool false, .bool false, .bool false, .slice none 0 0, .slice none 0 0, .slice none 0 0, .slice none 0 0, .bool false, .int .i64 0] 42, cellE b1 (ev t xt) 42]) (fun er => [(10, .int .i64 er)]) ?_ (fun er hi => ?_)
  ·skip
   refine af (ab (zz0 (zz3 (off := 18) (ft := 4) rfl aJ rfl bv) ?_))
   refine zz0 (aM rfl bR) ?_
   refine zz0 (cj rfl) (zz0 (ac rfl) ?_)
   apply bF
   ·exact (rfl : _ = (3, 43, 46))
   ·exact rfl
   ·intro hT9; have hT9' := hT9
    try simp only [bs] at hT9'
    refine zz5 hT9 (ac rfl) (zz5 hT9 (aN rfl rfl) (zz0 (aE rfl hT9 rfl) ?_))
    refine ae (aa ?_)
    exact aw (Sub.cons rfl (zz7 3 rfl))
   ·intro hF9
    refine zz6 hF9 (zz6 hF9 (zz0 (aF rfl hF9 rfl) ?_))
    refine ae (aa ?_)
    exact aw (Sub.cons rfl (zz7 3 rfl))
   refine ae (aa ?_)
   refine ak rfl ?_ ?_ <;> intro h10 <;> try simp only [bs] at h10
   ·refine ab (zz0 (ad rfl) (ae (aa ?_)))
    apply aZ 15
    ·exact rfl
    ·exact (.cons (by first | rfl | exact am rfl (by omega) | exact am rfl (by simp) | exact aS rfl (by simp)) Front.nil)
    ·exact bQ 6 rfl
    ·exact (by repeat' constructor)
    ·exact (by show _ = _; unfold jV; clear hfu; rw [if_pos (by simp_all)])
   ·refine ax (aa ?_)
    apply aZ t.err
    ·exact rfl
    ·exact (.cons (by first | rfl | exact am rfl (by omega) | exact am rfl (by simp) | exact aS rfl (by simp)) Front.nil)
    ·exact bQ 5 rfl
    ·exact (by repeat' constructor)
    ·exact (by show _ = _; unfold jV; clear hfu; rw [if_neg (fun q => by obtain ⟨q1, q2⟩ := q; simp_all)])
  ·skip
   replace hi : er = jV t := hi
   change Tr _ _ [cellE b3 [.int .i64 0, .slice none 0 0, .int .i64 0] 46, cellE b2 [.int .u32 0, .int .u32 0, .int .u32 0, .int .u32 0, .int .u32 0, .int .u32 0, .int .u32 0, .int .u32 0, .int .u32 0, .bool false, .bool false, .bool false, .bool false, .bool false, .slice none 0 0, .slice none 0 0, .slice none 0 0, .slice none 0 0, .bool false, .int .i64 0] 42, cellE b1 (ev t xt) 42] ([(10, .int .i64 er)] ++ _) _
   refine af (bI ([cellE b1 (ev t xt) 42]) 11 rfl aU ?_)
   refine zz2 0 rfl (bK rfl aR au) ?_
   refine zz2 1 rfl (ac rfl) ?_
   refine zz2 2 rfl (ac rfl) ?_
   refine zz2 3 rfl (zz3 (off := 17) (ft := 24) rfl aJ rfl cC) ?_
   refine zz2 4 rfl (aM rfl dF) ?_
   refine zz2 5 rfl (ac rfl) ?_
   refine zz9 [6, 8] (fun iq hq => ?_)
   rcases List.mem_cons.1 hq with rfl | hq
   ·skip
    refine aX rfl ?_
    refine zz0 (gI rfl al) ?_
    refine bB ?_
    refine zz2 7 rfl (bE (vs := [(0, _), (1, _), (2, _)]) rfl rfl rfl) ?_
    refine zz9 [8] (fun iq hq => ?_)
    obtain rfl := List.mem_singleton.1 hq
    refine aX rfl ?_
    refine bb cK rfl rfl au ?_
    refine bB ?_
    refine zz2 9 rfl (ad rfl) ?_
    refine zz9 [10] (fun iq hq => ?_)
    obtain rfl := List.mem_singleton.1 hq
    refine aX rfl ?_
    refine j0 rfl rfl cR ?_
    refine bB ?_
    refine eh ?_
    refine aa (ao ?_)
    refine rU Tryz.results16 rfl rfl rfl (by repeat constructor) (by repeat constructor) aR au (by rfl) jy cR (by rfl) (fun w' hw => ?_)
    obtain ⟨e1, e2⟩ := hfu
    have hrl2 := hR0.len
    subst hi
    exact ⟨(ct, xt, vt), by rw [← e1, ← e2]; try rfl, hw.below (hG.trans hF2), by rw [← e1, ← e2]; exact ⟨(hRA.mono (bV hF2.blk)).mono (bV hw.hp), hvt.mono (bV hw.hp)⟩, by rw [← e2]; show ct.length ≤ _; omega⟩
   obtain rfl := List.mem_singleton.1 hq
   refine aX rfl ?_
   refine bb cK rfl rfl au ?_
   refine bB ?_
   refine zz2 9 rfl (ad rfl) ?_
   refine zz9 [6] (fun iq hq => ?_)
   obtain rfl := List.mem_singleton.1 hq
   refine aX rfl ?_
   refine zz0 (gI rfl al) ?_
   refine bB ?_
   refine zz2 7 rfl (bE (vs := [(0, _), (1, _), (2, _)]) rfl rfl rfl) ?_
   refine zz9 [10] (fun iq hq => ?_)
   obtain rfl := List.mem_singleton.1 hq
   refine aX rfl ?_
   refine j0 rfl rfl cR ?_
   refine bB ?_
   refine eh ?_
   refine aa (ao ?_)
   refine rU Tryz.results16 rfl rfl rfl (by repeat constructor) (by repeat constructor) aR au (by rfl) jy cR (by rfl) (fun w' hw => ?_)
   obtain ⟨e1, e2⟩ := hfu
   have hrl2 := hR0.len
   subst hi
   exact ⟨(ct, xt, vt), by rw [← e1, ← e2]; try rfl, hw.below (hG.trans hF2), by rw [← e1, ← e2]; exact ⟨(hRA.mono (bV hF2.blk)).mono (bV hw.hp), hvt.mono (bV hw.hp)⟩, by rw [← e2]; show ct.length ≤ _; omega⟩
theorem pX (l : List SecV) (inp : List UInt32) (xl xi : SV) (p : UInt32) (w : World) (hL : Sl (hp w) cf l (.slice xl.a xl.n xl.c)) (hD : DataIn (hp w) l) (hB : SecB l) (hin : Sl (hp w) av inp (.slice xi.a xi.n xi.c)) (hil : inp.length ≤ 4096) :
  Calls Tryz.prog 10 #[.agg #[.bool true, .slice xl.a xl.n xl.c, .slice none 0 0], .int .u32 p.toNat, .slice xi.a xi.n xi.c] w (fun e w' => ∃ j : SV, e = .returned (.tuple #[.agg (ev (cJ p) ⟨xl, j, xi, ⟨none, 0, 0⟩⟩).toArray, .int .i64 0]) ∧ Ext w w' ∧ Sl (qi w w') cQ (e8 [] 983036 4294967295 4) (.slice j.a j.n j.c)) := by
 have hL' : Sl (Bg.of w).blk cf l (.slice xl.a xl.n xl.c) := hL
 have hD' : DataIn (Bg.of w).blk l := hD
 have hin' : Sl (Bg.of w).blk av inp (.slice xi.a xi.n xi.c) := hin
 have hst : bO l (dA []) 983036 4 4294967295 = (m8 (dA []) 983036 4294967295 4, 0) := rm
 refine enter Tryz.func10 rfl Tryz.ntmps10 rfl ?_
 refine af (ab ?_)
 refine cM rfl rfl rfl (fun b1 => ?_)
 refine c9 cA rfl (fun b2 => ?_)
 refine zz0 (ad rfl) (ae (aa (af (ab (zz0 (bK rfl bX ba) ?_)))))
 refine fK (H0 := u7) (n := w.heap.size) (R := fun h (j : SV) => Sl h cQ (e8 [] 983036 4294967295 4) (.slice j.a j.n j.c)) (fun j : SV => .tuple #[.agg (f8 xl j).toArray, .int .i64 0]) (rfl : (Bg.of w).lo = _) (l9 _) (fun h h' j hh r => r.mono hh) rfl m4 (fun w2 hw2 hv2 => by have q := kU l [] xl ⟨none, 0, 0⟩ 983036 4 4294967295 w2 (hw2.slF hL') (Sl.nil _ _) (hD'.mono hw2.bg) hB (by simp); rw [hst] at q; exact q.mono fun e w' ⟨j, q1, q2, q3, q4⟩ => ⟨j, q1, q2, (q4 rfl).mono i5⟩) rfl (fun j F1 hF1 hj => ?_)
 refine zz0 (ac rfl) (zz0 (ay rfl rfl) (zz0 (ay rfl rfl) ?_))
 refine c9 dR rfl (fun b3 => ?_)
 refine bb gA rfl rfl ba ?_
 refine zz0 (ad rfl) (ae (aa (af (af (ab (zz0 (ac rfl) (zz0 (dk rfl rfl) (ae (aa ?_)))))))))
 refine ak rfl ?_ ?_ <;> intro h4 <;> try simp only [bs] at h4
 ·first | contradiction | (exfalso; omega) | simp_all
 ·refine ax (aa (af (af ?_)))
  have hin1 := hin'.mono hF1.blk
  refine ab (zz0 (ac rfl) (zz0 (gI rfl al) ?_))
  refine zz0 (fG rfl rfl) (ae (aa ?_))
  refine ak rfl ?_ ?_ <;> intro h5 <;> try simp only [bs] at h5
  ·first | contradiction | (exfalso; omega) | simp_all
  ·refine ax (aa (af (bI ([cellE b3 (f8 xl j) 30]) 7 rfl aU ?_)))
   refine zz2 0 rfl (ac rfl) ?_
   refine zz2 2 rfl (bK rfl bX ba) ?_
   refine zz2 3 rfl (ac rfl) ?_
   refine zz9 [1] (fun iq hq => ?_)
   obtain rfl := List.mem_singleton.1 hq
   refine aX rfl ?_
   refine zz0 (aB rfl Tryz.call28 (fun w hw => sj p w)) ?_
   refine bB ?_
   refine eV 4 rfl (by kernel_rfl) (bA bW) (bE (vs := [(0, _), (1, _), (2, _)]) (cs := (ev (cJ p) ⟨xl, j, xi, ⟨none, 0, 0⟩⟩).toArray) rfl rfl (by kernel_rfl)) ?_
   refine zz9 [5] (fun iq hq => ?_)
   obtain rfl := List.mem_singleton.1 hq
   refine aX rfl ?_
   refine bb cK rfl rfl au ?_
   refine bB ?_
   refine zz2 6 rfl (ad rfl) ?_
   refine eh ?_
   refine aa (ao ?_)
   refine ei Tryz.results10 rfl rfl aR au (fun w' hw => ?_)
   exact ⟨j, rfl, hw.below hF1, hj.mono (bV hw.hp)⟩
end Go.Proofs.YtpeaodkfbjenpaaGreat
namespace Go.HL
open Go Go.RowKit
theorem s8 (h : Hp) (n : Nat) : Hp.le h (vis h n h) := fun b o e => by
  unfold vis
  split <;> exact e
theorem v9 {h : Hp} {T U : TypeId} {V : Value} {ks : List SecV} (k : ∀ e ∈ kR T U V ks, e.ok (e.blk.bind h)) : Sl h cf ks V ∧ DataIn h ks :=
  ⟨RowOK.sl (k _ (.head _)), fun s hs => RowOK.sl (k _ (tn hs))⟩
theorem SecB.pl {l k : List SecV} (hp : k.map SecV.pl = l.map SecV.pl) (hB : SecB l) : SecB k := by
  refine ⟨by rw [u2 hp]; exact hB.1, fun s hs => ?_⟩
  have hm : s.pl ∈ k.map SecV.pl := List.mem_map.2 ⟨s, hs, rfl⟩
  rw [hp] at hm
  obtain ⟨s', h1, h2⟩ := List.mem_map.1 hm
  have e : s.data = s'.data := (congrArg Sec.data h2).symm
  rw [e]
  exact hB.2 _ h1
theorem wh {h : Hp} {l : List SecV} {inp : List UInt32} {p : UInt32} {xl j xi : SV} (h1 : Sl h cf l (.slice xl.a xl.n xl.c)) (h2 : DataIn h l) (h3 : Sl h cQ (e8 [] 983036 4294967295 4) (.slice j.a j.n j.c)) (h4 : Sl h av inp (.slice xi.a xi.n xi.c)) :
    RefAt h l inp (cJ p) (e8 [] 983036 4294967295 4) ⟨xl, j, xi, ⟨none, 0, 0⟩⟩ :=
  ⟨h1, h2, h3, h4, Sl.nil _ _, kt _ _ _ _, jd List.Pairwise.nil _ _ _⟩
theorem BJ {l k : List SecV} (hp : k.map SecV.pl = l.map SecV.pl) {wl : WL} {cs : List CellV} {s : St} (h1 : cx wl = s.w) (h2 : dA cs = s.w) (hs : nZ cs) {xs : List UInt32} (h : IsChg l (cx wl) xs) : xs = kC k cs := by
  refine h.uniq ?_
  rw [h1, ← h2]
  exact Bv hp _ _ (A2 hs)
section
variable {l : List SecV} {inp : List UInt32} {s : St}
theorem AB {w : WrF} {a : UInt32} {n : Int} : (cP l w a n).2 ≠ 21 := by
  unfold cP
  repeat' split
  all_goals (intro q; cases q)
theorem ye {w : WrF} {a x : UInt32} {n : Int} : (bO l w a n x).2 ≠ 21 := by
  unfold bO
  repeat' split
  all_goals (intro q; cases q)
theorem BH {i : Ins} {nx : UInt32} : (cU l inp s i nx).2 ≠ 21 := by
  unfold cU d5 dj eF eR df
  repeat' split
  all_goals first | exact AB | exact ye | (intro q; cases q)
theorem BI {b : List UInt8} {a : UInt32} : (gv b a).2 ≠ 21 := by
  unfold gv
  dsimp only
  repeat' split
  all_goals (intro q; cases q)
theorem zg {w : WrF} {a : UInt32} : (dB l w a).2 ≠ 21 := by
  unfold dB
  repeat' split
  all_goals (intro q; cases q)
theorem AM : (dX l inp s).2 ≠ 21 := by
  unfold dX
  repeat' split
  · exact zg
  · exact BI
  · exact BH
theorem zh (h : (dX l inp s).2 ≠ 0) : (dX l inp s).1 = s := by
  unfold dX at h ⊢
  by_cases h1 : (dB l s.w s.m.pc).2 ≠ 0
  · rw [if_pos h1]
  · rw [if_neg h1] at h ⊢
    by_cases h2 : (gv (dB l s.w s.m.pc).1 s.m.pc).2 ≠ 0
    · rw [if_pos h2]
    · rw [if_neg h2] at h ⊢
      exact sG h
theorem uU (h : s.err = 0) {t : St} {e : Int} (ht : t = (stepS l inp s).1) (he : e = (stepS l inp s).2) :
    (e = 0 → t.err = 0) ∧ (e ≠ 0 → t.m = s.m ∧ (stepS l inp t).2 = e ∧ (stepS l inp t).1.m = s.m ∧ (stepS l inp t).1.done = decide (e = 21)) := by
  by_cases hd : s.done = true
  · have q : stepS l inp s = (s, 21) := by unfold stepS; rw [if_pos hd]
    rw [q] at ht he
    subst ht he
    exact ⟨fun c => absurd c (by show ¬ (21 : Int) = 0; decide), fun _ => ⟨rfl, by rw [q], by rw [q], by rw [q]; exact hd⟩⟩
  · have q : stepS l inp s = ({ (dX l inp s).1 with err := (dX l inp s).2 }, (dX l inp s).2) := by unfold stepS; rw [if_neg hd, if_neg (by omega)]
    rw [q] at ht he
    refine ⟨fun c => by rw [ht]; exact he ▸ c, fun c => ?_⟩
    have hx : (dX l inp s).2 ≠ 0 := by rw [← he]; exact c
    have h1 := zh hx
    rw [h1] at ht
    have hd2 : t.done = false := by rw [ht]; simpa using hd
    have he2 : t.err = e := by rw [ht]; exact he.symm
    have q2 : stepS l inp t = (t, t.err) := by unfold stepS; rw [if_neg (by rw [hd2]; simp), if_pos (by rw [he2]; exact c)]
    refine ⟨by rw [ht], by rw [q2]; exact he2, by rw [q2, ht], ?_⟩
    rw [q2, hd2, decide_eq_false (by rw [he]; exact AM)]
end
end Go.HL
namespace Go.Proofs.YtpeaodkfbjenpaaGreat
open Go Go.HL Go.RowKit
theorem vA (l k : List SecV) (inp : List UInt32) (s : St) (cs : List CellV) (x : RP) (bc1 : Nat) (vi1 vo1 eff1 : Value) (bM1 bm1 : Nat) (VR1 : Value) (rs1 : List RegV) (wl1 : WL) (w : World) (hM1 : MemAt (hp w) bM1 bm1 VR1 rs1) (hO1 : MemOK l rs1) (hW1 : MapIn (hp w) bm1 u8V wl1) (hn1 : wl1.length ≤ 1000000) (hI : i7 l s.w) (hs1 : cx wl1 = s.w) (hol : s.out.length ≤ 4096) (hc1 : CellsIn (hp w) bc1 (bJ s bM1 vi1 vo1 eff1)) (ho1 : Sl (hp w) av s.out vo1) (hR : RefAt (hp w) k inp s cs x) (hB : SecB k) (hcb : cs.length ≤ 2000000) (hpl : k.map SecV.pl = l.map SecV.pl) :
  Calls Tryz.prog 14 #[.pointer (some ⟨bc1, 0, none⟩), .agg (ev s x).toArray] w (fun e w' => e = .returned (.bool true) ∧ Ext w w') := by
 have hM1 : MemAt (Bg.of w).blk bM1 bm1 VR1 rs1 := hM1
 have hW1 : MapIn (Bg.of w).blk bm1 u8V wl1 := hW1
 have hc1 : CellsIn (Bg.of w).blk bc1 (bJ s bM1 vi1 vo1 eff1) := hc1
 have ho1 : Sl (Bg.of w).blk av s.out vo1 := ho1
 have hS : RefAt (Bg.of w).blk k inp s cs x := hR
 have hfn := hS.fn
 have hL' := hS.secs
 have hD' := hS.data
 have hC' := hS.cells
 have hO2 := hS.out
 refine enter Tryz.func14 rfl Tryz.ntmps14 rfl ?_
 refine af (ab ?_)
 refine cM rfl rfl rfl (fun b1 => ?_)
 refine zz0 (ad rfl) (ae (aa (af (ab (zz0 (ac rfl) ?_)))))
 refine e7 (fun i : Nat × Nat × Value => .pointer (some ⟨i.1, 0, none⟩)) (fun i => [cellE i.1 [i.2.2, .map (some i.2.1)] 91, mapE i.2.1 u8V wl1, rowE i.2.2 97 cD rs1]) (ok := fun _ => True) rfl Tryz.call29 (fun w hw => nq s bc1 bM1 vi1 vo1 eff1 bm1 VR1 rs1 wl1 w (hc1.mono hw.bg) (hM1.mono hw.bg) (hW1.mono hw.bg) (Nat.le_trans hO1.bounds.1 (by omega))) rfl (fun i1 _ => ?_)
 refine zz0 (ad rfl) (ae (aa (af (af (bI ([cellE b1 (ev s x) 42]) 24 rfl aU ?_)))))
 refine zz2 0 rfl (ac rfl) ?_
 refine zz2 1 rfl (fX rfl rfl fC rfl) ?_
 refine zz2 2 rfl (ac rfl) ?_
 refine kq (t := 16) rfl (fun hG2 => ?_) (fun hG2 => ?_)
 ·exact absurd hG2 (by simp)
 ·have hG2' := hG2
  try simp only [bs] at hG2'
  refine mA 3 rfl hG2 (ac rfl) ?_
  refine mA 5 rfl hG2 (zz3 (off := 0) (ft := 40) rfl aJ rfl aP) ?_
  refine rV 6 rfl (by kernel_rfl) (bA (bA bW)) rfl rfl rfl hG2 (fg (vs := mY.enc s.m) rfl (by repeat constructor) gX aP rfl rfl) (by repeat' constructor) rfl ?_
  refine zz9 [4] (fun iq hq => ?_)
  obtain rfl := List.mem_singleton.1 hq
  refine aX rfl ?_
  refine zz5 hG2 (aB rfl jB (fun w hw => js s bc1 bM1 vi1 vo1 eff1 w (hc1.mono hw.bg))) ?_
  refine bB ?_
  refine mA 7 rfl hG2 (wJ (p := s.m) (q := s.m) rfl rfl nI wy) ?_
  refine zz2 8 rfl (aF rfl hG2 rfl) ?_
  refine zz2 9 rfl (ac rfl) ?_
  refine kq (t := 23) rfl (fun hG3 => ?_) (fun hG3 => ?_)
  ·exact absurd hG3 (by simp)
  ·have hG3' := hG3
   try simp only [bs] at hG3'
   refine mA 10 rfl hG3 (ac rfl) ?_
   refine mA 12 rfl hG3 (zz3 (off := 18) (ft := 4) rfl aJ rfl bv) ?_
   refine mA 13 rfl hG3 (aM rfl bR) ?_
   refine zz9 [11] (fun iq hq => ?_)
   obtain rfl := List.mem_singleton.1 hq
   refine aX rfl ?_
   refine zz5 hG3 (aB rfl lN (fun w hw => kz s bc1 bM1 vi1 vo1 eff1 w (hc1.mono hw.bg))) ?_
   refine bB ?_
   refine mA 14 rfl hG3 (iv rfl rfl dS) ?_
   refine zz2 15 rfl (aF rfl hG3 rfl) ?_
   refine zz2 16 rfl (ac rfl) ?_
   refine kq (t := 30) rfl (fun hG4 => ?_) (fun hG4 => ?_)
   ·exact absurd hG4 (by simp)
   ·have hG4' := hG4
    try simp only [bs] at hG4'
    refine mA 17 rfl hG4 (ac rfl) ?_
    refine mA 19 rfl hG4 (zz3 (off := 17) (ft := 24) rfl aJ rfl cC) ?_
    refine mA 20 rfl hG4 (aM rfl dF) ?_
    refine zz9 [18] (fun iq hq => ?_)
    obtain rfl := List.mem_singleton.1 hq
    refine aX rfl ?_
    refine vI rfl rfl hG4 ?_
    refine dV rfl Tryz.call30 (fun w hw => nm s bc1 bM1 vi1 vo1 eff1 w (hc1.mono hw.bg) (hw.slF ho1) hol) rfl (fun V5 => ?_)
    refine bB ?_
    refine zz9 [21] (fun iq hq => ?_)
    obtain rfl := List.mem_singleton.1 hq
    refine aX rfl ?_
    refine zz5 hG4 (aB rfl kn (fun w hw => kf s.out s.out _ _ w (hw.row (by repeat constructor)) (hw.slF hO2))) ?_
    refine bB ?_
    refine mA 22 rfl hG4 (cj rfl) ?_
    refine zz2 23 rfl (aF rfl hG4 rfl) ?_
    refine eh ?_
    refine aa ?_
    refine ak rfl ?_ ?_ <;> intro h6 <;> try simp only [bs] at h6
    ·exact absurd h6 (by simp)
    ·refine ax (aa (af (ab (zz0 (ac rfl) ?_))))
     refine e7 (fun i : Value × List UInt32 => i.1) (fun i => [rowE i.1 23 av i.2]) (ok := fun i => IsChg l (cx wl1) i.2) rfl Tryz.call31 (fun w hw => qo i1.1 i1.2.1 i1.2.2 rs1 l wl1 w ⟨cellE.cellsIn (hw.ent _ (by repeat constructor)) (Ext.refl _), hw.row (by repeat constructor), (hM1.mono hw.bg).data⟩ hO1 (mapE.in_ (hw.ent _ (by repeat constructor))) (hs1 ▸ hI) hn1) rfl (fun i hi => ?_)
     obtain ⟨V1, xs⟩ := i
     obtain rfl := BJ hpl hs1 hfn hS.srt hi
     have hxl := uw k cs
     refine zz0 (ad rfl) (ae (aa (af (af (ab (zz0 (ac rfl) (zz0 (zz3 (off := 13) (ft := 30) rfl aJ rfl ba) ?_)))))))
     refine zz0 (fg (vs := f8 x.l x.c) rfl (by repeat constructor) bX ba rfl rfl) ?_
     refine dV rfl Tryz.call32 (fun w hw => qV k cs x.l x.c w (hw.slF hL') (hw.slF hC') (hD'.mono hw.bg) hB hcb) rfl (fun V7 => ?_)
     refine zz0 (aB rfl kn (fun w hw => kf (kC k cs) (kC k cs) _ _ w (hw.row (by repeat constructor)) (hw.row (by repeat constructor)))) ?_
     refine zz0 (cj rfl) (ae (aa ?_))
     refine ak rfl ?_ ?_ <;> intro h8 <;> try simp only [bs] at h8
     ·exact absurd h8 (by simp)
     ·refine ax (aa (af (af (ab (zz0 (ad rfl) (ae (aa (aQ ?_))))))))
      refine cp (ι := Nat) (fun n => n ≤ (kC k cs).length) (fun _ => _) (fun n => [rowE V1 23 av (kC k cs), cellE b1 (ev s x) 42, cellE i1.1 [i1.2.2, .map (some i1.2.1)] 91, mapE i1.2.1 u8V wl1, rowE i1.2.2 97 cD rs1]) (fun n => [(7, .int .i64 (n : Nat))]) (fun n => (kC k cs).length - n) 0 (Nat.zero_le _) (.cons (by first | rfl | exact am rfl (by omega) | exact am rfl (by simp) | exact aS rfl (by simp)) Front.nil) (by repeat' constructor) rfl (fun n hi m hm => ?_)
      replace hi : n ≤ (kC k cs).length := hi
      replace hm : m = (kC k cs).length - n := hm
      change Tr _ _ [rowE V1 23 av (kC k cs), cellE b1 (ev s x) 42, cellE i1.1 [i1.2.2, .map (some i1.2.1)] 91, mapE i1.2.1 u8V wl1, rowE i1.2.2 97 cD rs1] ([(7, .int .i64 (n : Nat))] ++ _) _
      have hk1 : n ≤ (kC k cs).length := hi
      refine af (af (ab (zz0 (ac rfl) (zz0 (ac rfl) (zz0 (fh rfl (by repeat constructor) al) ?_)))))
      refine zz0 (cE rfl rfl) (ae (aa ?_))
      refine ak rfl ?_ ?_ <;> intro h9 <;> try simp only [bs] at h9
      ·refine ax (aa (af (aQ (af (ab (zz0 (ac rfl) (zz0 (ac rfl) (zz0 (ac rfl) (zz0 (dP rfl rfl al ah) ?_)))))))))
       refine zz0 (eH rfl az) ?_
       refine zz0 (aB rfl jA (fun w hw => ju i1.1 i1.2.1 i1.2.2 rs1 l ((kC k cs).getD n default) 1 wl1 w ⟨cellE.cellsIn (hw.ent _ (by repeat constructor)) (Ext.refl _), hw.row (by repeat constructor), (hM1.mono hw.bg).data⟩ hO1 (mapE.in_ (hw.ent _ (by repeat constructor))))) ?_
       refine zz0 (ac rfl) (zz0 (ay rfl rfl) (zz0 (ay rfl rfl) (zz0 (ad rfl) (zz0 (ad rfl) (ae (aa (af (ja aU ?_))))))))
       refine aK (zz3 (off := 13) (ft := 30) rfl aJ rfl ba) ?_
       refine aK (fg (vs := f8 x.l x.c) rfl (by repeat constructor) bX ba rfl rfl) ?_
       refine aK (ac rfl) (aK (ac rfl) (aK (dP rfl rfl al ah) ?_))
       refine aK (eH rfl az) ?_
       refine aK (aB rfl m2 (fun w hw => (by have q := l8 k cs x.l x.c ((kC k cs).getD n default) 1 w (hw.slF hL') (hw.slF hC') (hD'.mono hw.bg) hB; rw [hfn, wj hpl, ← hs1] at q; exact q))) ?_
       refine aK (ac rfl) (aK (ay rfl rfl) (aK (ay rfl rfl) (aK (ad rfl) (aK (ad rfl) (cH ?_)))))
       refine aa (af (ab (zz0 (ac rfl) (zz0 (ac rfl) (zz0 (jk rfl rfl) ?_)))))
       refine zz0 (ac rfl) ?_
       apply cZ
       ·exact (rfl : _ = (4, 74, 78))
       ·exact rfl
       ·intro hF10; have hF10' := hF10
        try simp only [bs] at hF10'
        refine zz5 hF10 (ac rfl) (zz5 hF10 (ac rfl) (zz5 hF10 (dk rfl rfl) (zz0 (aF rfl hF10 rfl) ?_)))
        refine ae (aa ?_)
        exact aw (Sub.cons rfl (zz7 4 rfl))
       ·intro hT10
        refine zz6 hT10 (zz6 hT10 (zz6 hT10 (zz0 (aE rfl hT10 rfl) ?_)))
        refine ae (aa ?_)
        exact aw (Sub.cons rfl (zz7 4 rfl))
       refine ae (aa ?_)
       refine ak rfl ?_ ?_ <;> intro h11 <;> try simp only [bs] at h11
       ·exact absurd h11 (by simp)
       ·refine ax (a9 (aa (ab (zz0 (ac rfl) (zz0 (dq rfl rfl) ?_)))))
        refine zz0 (ad rfl) (ae (aa ?_))
        apply bP (n + 1)
        ·exact rfl
        ·exact (.cons (by first | rfl | exact am rfl (by omega) | exact am rfl (by simp) | exact aS rfl (by simp)) Front.nil)
        ·exact bQ 36 rfl
        ·exact (by repeat' constructor)
        ·exact (by show n + 1 ≤ _; omega)
        ·exact (by (try dsimp only); omega)
      ·refine cm (aV (aV (bT (aa (af (ab (zz0 (ad rfl) (ae (aa (ao ?_))))))))))
       refine aI Tryz.results14 rfl (fun w' hw => ?_)
       exact ⟨rfl, hw.below (Bg.le.refl _)⟩
end Go.Proofs.YtpeaodkfbjenpaaGreat
namespace Go.Proofs.YtpeaodkfbjenpaaGreat
open Go Go.HL Go.RowKit
theorem Bp (l : List SecV) (inp : List UInt32) (V vi0 : Value) (p : UInt32) (m3 : Int) (w : World) (hV : Sl (hp w) cf l V) (hin : Sl (hp w) av inp vi0) (hD : DataIn (hp w) l) (hN : ∀ s ∈ l, s.name.size ≤ 140737488351232) (hm3 : -128 ≤ m3 ∧ m3 ≤ 127) (hs : jb l inp = false) :
  Calls Tryz.prog 4 #[V, .int .u32 p.toNat, vi0, .int .i8 m3] w (fun e w' => e = .returned (.bool true) ∧ Below w.heap.size w w') := by
 have hV' : Sl (Bg.of0 w).blk cf l V := hV
 have hD' : DataIn (Bg.of0 w).blk l := hD
 have hin' : Sl (Bg.of0 w).blk av inp vi0 := hin
 refine mf Tryz.func4 rfl Tryz.ntmps4 rfl ?_
 refine af (ab (zz0 (ad rfl) (ae (aa (af (af (ab (zz0 (ac rfl) (zz0 (ac rfl) (zz0 (aB rfl lK (fun w hw => kg l inp V vi0 w (hw.slF hV') (hw.slF hin'))) ?_))))))))))
 refine zz0 (cj rfl) (ae (aa ?_))
 refine ak rfl ?_ ?_ <;> intro h1 <;> try simp only [bs] at h1
 ·refine af (ab (zz0 (kK rfl rfl kH (fun w hw => gu w)) ?_))
  refine zz0 (ad rfl) (ae (aa (ao (an ?_))))
  refine aI Tryz.results4 rfl (fun w' hw => ?_)
  exact ⟨rfl, hw.below0 (Bg.le.refl _)⟩
 ·exact absurd h1 (by rw [hs]; simp)
theorem BX (l : List SecV) (inp : List UInt32) (V vi0 : Value) (p : UInt32) (m3 : Int) (w : World) (hV : Sl (hp w) cf l V) (hin : Sl (hp w) av inp vi0) (hD : DataIn (hp w) l) (hN : ∀ s ∈ l, s.name.size ≤ 140737488351232) (hm3 : -128 ≤ m3 ∧ m3 ≤ 127) (hs : jb l inp = true) (h : dL l ≠ 0) :
  Calls Tryz.prog 4 #[V, .int .u32 p.toNat, vi0, .int .i8 m3] w (fun e w' => e = .returned (.bool true) ∧ Below w.heap.size w w') := by
 have hV' : Sl (Bg.of0 w).blk cf l V := hV
 have hD' : DataIn (Bg.of0 w).blk l := hD
 have hin' : Sl (Bg.of0 w).blk av inp vi0 := hin
 obtain ⟨hB, hil⟩ := nz hs
 have hil' : inp.length ≤ 4096 := by omega
 refine mf Tryz.func4 rfl Tryz.ntmps4 rfl ?_
 refine af (ab (zz0 (ad rfl) (ae (aa (af (af (ab (zz0 (ac rfl) (zz0 (ac rfl) (zz0 (aB rfl lK (fun w hw => kg l inp V vi0 w (hw.slF hV') (hw.slF hin'))) ?_))))))))))
 refine zz0 (cj rfl) (ae (aa ?_))
 refine ak rfl ?_ ?_ <;> intro h1 <;> try simp only [bs] at h1
 ·exact absurd h1 (by rw [hs]; simp)
 ·refine ax (aa (af (ab (zz0 (ac rfl) (zz0 (aB rfl Tryz.call8 (fun w hw => tI l V w (hw.slF hV') hB hN h)) ?_)))))
  refine zz0 (ac rfl) (zz0 (ay rfl rfl) (zz0 (ay rfl rfl) ?_))
  refine c9 dR rfl (fun b2 => ?_)
  refine bb gA rfl rfl ba ?_
  refine zz0 (ad rfl) (ae (aa (af (ab (zz0 (ac rfl) (zz0 (ac rfl) (zz0 (ac rfl) (zz0 (aB rfl jQ (fun w hw => sL l V p inp vi0 w (hw.slF hV') hB hN (hD'.mono hw.bg) (hw.slF hin') hil' h)) ?_))))))))
  refine zz0 (ac rfl) (zz0 (ac rfl) (zz0 (ac rfl) (zz0 (aB rfl jQ (fun w hw => sL l V p inp vi0 w (hw.slF hV') hB hN (hD'.mono hw.bg) (hw.slF hin') hil' h)) ?_)))
  refine zz0 (ad rfl) (zz0 (ad rfl) (ae (aa (af (af (ab (zz0 (ac rfl) (zz0 (dk rfl rfl) (zz0 (ac rfl) ?_)))))))))
  apply cZ
  ·exact (rfl : _ = (3, 42, 45))
  ·exact rfl
  ·intro hF3; have hF3' := hF3
   try simp only [bs] at hF3'
   refine zz5 hF3 (ac rfl) (zz5 hF3 (fX rfl rfl dT rfl) ?_)
   refine zz0 (aF rfl hF3 rfl) ?_
   refine ae (aa ?_)
   exact aw (Sub.cons rfl (zz7 3 rfl))
  ·intro hT3
   refine zz6 hT3 (zz6 hT3 (zz0 (aE rfl hT3 rfl) ?_))
   refine ae (aa ?_)
   exact aw (Sub.cons rfl (zz7 3 rfl))
  refine zz0 (ac rfl) ?_
  apply cZ
  ·exact (rfl : _ = (3, 46, 49))
  ·exact rfl
  ·intro hF4; have hF4' := hF4
   try simp only [bs] at hF4'
   refine zz5 hF4 (ac rfl) (zz5 hF4 (fX rfl rfl dT rfl) ?_)
   refine zz0 (aF rfl hF4 rfl) ?_
   refine ae (aa ?_)
   exact aw (Sub.cons rfl (zz7 3 rfl))
  ·intro hT4
   refine zz6 hT4 (zz6 hT4 (zz0 (aE rfl hT4 rfl) ?_))
   refine ae (aa ?_)
   exact aw (Sub.cons rfl (zz7 3 rfl))
  refine ae (aa ?_)
  refine ak rfl ?_ ?_ <;> intro h5 <;> try simp only [bs] at h5
  ·refine af (ab (zz0 (ac rfl) (zz0 (dk rfl rfl) (zz0 (ac rfl) ?_))))
   apply bF
   ·exact (rfl : _ = (3, 52, 55))
   ·exact rfl
   ·intro hT6; have hT6' := hT6
    try simp only [bs] at hT6'
    refine zz5 hT6 (ac rfl) (zz5 hT6 (fX rfl rfl dT rfl) ?_)
    refine zz0 (aE rfl hT6 rfl) ?_
    refine ae (aa ?_)
    exact aw (Sub.cons rfl (zz7 3 rfl))
   ·intro hF6
    refine zz6 hF6 (zz6 hF6 (zz0 (aF rfl hF6 rfl) ?_))
    refine ae (aa ?_)
    exact aw (Sub.cons rfl (zz7 3 rfl))
   refine zz0 (ac rfl) ?_
   apply bF
   ·exact (rfl : _ = (2, 56, 58))
   ·exact rfl
   ·intro hT7; have hT7' := hT7
    try simp only [bs] at hT7'
    refine zz5 hT7 (kK rfl rfl kH (fun w hw => gu w)) ?_
    refine zz0 (aE rfl hT7 rfl) ?_
    refine ae (aa ?_)
    exact aw (Sub.cons rfl (zz7 2 rfl))
   ·intro hF7
    refine zz6 hF7 (zz0 (aF rfl hF7 rfl) ?_)
    refine ae (aa ?_)
    exact aw (Sub.cons rfl (zz7 2 rfl))
   refine zz0 (ad rfl) (ae (aa (ao (an ?_))))
   refine aI Tryz.results4 rfl (fun w' hw => ?_)
   exact ⟨by simp [h], hw.below0 (Bg.le.refl _)⟩
  ·exact absurd h5 (by simp [h])
theorem BW (l : List SecV) (inp : List UInt32) (V vi0 : Value) (p : UInt32) (m3 : Int) (w : World) (hV : Sl (hp w) cf l V) (hin : Sl (hp w) av inp vi0) (hD : DataIn (hp w) l) (hN : ∀ s ∈ l, s.name.size ≤ 140737488351232) (hm3 : -128 ≤ m3 ∧ m3 ≤ 127) (hs : jb l inp = true) (h : dL l = 0) :
  Calls Tryz.prog 4 #[V, .int .u32 p.toNat, vi0, .int .i8 m3] w (fun e w' => e = .returned (.bool true) ∧ Below w.heap.size w w') := by
 have hV' : Sl (Bg.of0 w).blk cf l V := hV
 have hD' : DataIn (Bg.of0 w).blk l := hD
 have hin' : Sl (Bg.of0 w).blk av inp vi0 := hin
 obtain ⟨hB, hil⟩ := nz hs
 have hil' : inp.length ≤ 4096 := by omega
 obtain ⟨xi, hxi1, hxi2⟩ := Ak hin'
 subst hxi1
 have hcs : (e8 [] 983036 4294967295 4).length ≤ 500000 := by have q := iZ [] 983036 4294967295 4; rw [List.length_nil] at q; omega
 refine mf Tryz.func4 rfl Tryz.ntmps4 rfl ?_
 refine af (ab (zz0 (ad rfl) (ae (aa (af (af (ab (zz0 (ac rfl) (zz0 (ac rfl) (zz0 (aB rfl lK (fun w hw => kg l inp V xi.v w (hw.slF hV') (hw.slF hin'))) ?_))))))))))
 refine zz0 (cj rfl) (ae (aa ?_))
 refine ak rfl ?_ ?_ <;> intro h1 <;> try simp only [bs] at h1
 ·exact absurd h1 (by rw [hs]; simp)
 ·refine ax (aa (af (ab (zz0 (ac rfl) ?_))))
  refine iu (fun i : Value × List SecV => .tuple #[.agg #[.bool true, i.1, .slice none 0 0], .int .i64 0]) (fun _ => []) (fun i => kR 64 5 i.1 i.2) (ok := fun i => i.2.map SecV.pl = l.map SecV.pl) rfl rfl Tryz.call8 (fun w hw => (tH l V w (hw.slF hV') hB (hD'.mono hw.bg) hN h).mono fun e w' ⟨i, q1, q2, q3, q4⟩ => ⟨i, q1, q2.below, q3, q4⟩) rfl (fun i F0 hi hF0 hk0 => ?_)
  obtain ⟨Vk, k⟩ := i
  replace hi : k.map SecV.pl = l.map SecV.pl := hi
  obtain ⟨hkV, hkD⟩ := v9 hk0
  obtain ⟨xl, hxl1, hxl2⟩ := Ak hkV
  subst hxl1
  have hkB := hB.pl hi
  replace hV' := hV'.mono hF0.blk
  replace hD' := hD'.mono hF0.blk
  replace hin' := hin'.mono hF0.blk
  rw [List.nil_append]
  refine zz0 (ac rfl) (zz0 (ay rfl rfl) (zz0 (ay rfl rfl) ?_))
  refine c9 dR rfl (fun b2 => ?_)
  refine bb gA rfl rfl ba ?_
  refine zz0 (ad rfl) (ae (aa (af (ab (zz0 (ac rfl) (zz0 (ac rfl) (zz0 (ac rfl) ?_)))))))
  refine iu (fun j : Nat × Nat × Nat × Value × Value × WL × List RegV => .pointer (some ⟨j.1, 0, none⟩)) (fun j => [cellE j.1 (bJ (cJ p) j.2.1 j.2.2.2.2.1 (.slice none 0 0) .nilFunc) 82, mapE j.2.2.1 u8V j.2.2.2.2.2.1, rowE (.slice none 0 0) 23 av []]) (fun j => (cellE j.2.1 [j.2.2.2.1, .map (some j.2.2.1)] 91 :: rowE j.2.2.2.1 97 cD j.2.2.2.2.2.2 :: rowE j.2.2.2.2.1 23 av inp :: eI 5 j.2.2.2.2.2.2)) (ok := fun j => (cx j.2.2.2.2.2.1 = (cJ p).w ∧ j.2.2.2.2.2.1.length ≤ 4) ∧ MemOK l j.2.2.2.2.2.2) (hF0.dr) rfl jQ (fun w hw => nR l V p inp xi.v w (hw.slF hV') hB hN (hD'.mono hw.bg) (hw.slF hin') hil' h) rfl (fun j F1 hj hF1 hk => ?_)
  obtain ⟨bc1, bM1, bm1, VR1, vi1, wl1, rs1⟩ := j
  have hC1 : CpuAt F1.blk bM1 bm1 VR1 vi1 rs1 inp := mL hk
  obtain ⟨⟨hw1, hn1⟩, hO1⟩ := hj
  replace hO1 : MemOK l rs1 := hO1
  change Tr _ _ ([cellE bc1 (bJ (cJ p) bM1 vi1 (.slice none 0 0) .nilFunc) 82, mapE bm1 u8V wl1, rowE (.slice none 0 0) 23 av (cJ p).out] ++ _) _ _
  replace hV' := hV'.mono hF1.blk
  replace hD' := hD'.mono hF1.blk
  replace hin' := hin'.mono hF1.blk
  replace hkV := hkV.mono hF1.blk
  replace hkD := hkD.mono hF1.blk
  refine zz0 (ac rfl) (zz0 (ac rfl) (zz0 (ac rfl) ?_))
  refine iu (fun j : Nat × Nat × Nat × Value × Value × WL × List RegV => .pointer (some ⟨j.1, 0, none⟩)) (fun j => [cellE j.1 (bJ (cJ p) j.2.1 j.2.2.2.2.1 (.slice none 0 0) .nilFunc) 82, mapE j.2.2.1 u8V j.2.2.2.2.2.1, rowE (.slice none 0 0) 23 av []]) (fun j => (cellE j.2.1 [j.2.2.2.1, .map (some j.2.2.1)] 91 :: rowE j.2.2.2.1 97 cD j.2.2.2.2.2.2 :: rowE j.2.2.2.2.1 23 av inp :: eI 5 j.2.2.2.2.2.2)) (ok := fun j => (cx j.2.2.2.2.2.1 = (cJ p).w ∧ j.2.2.2.2.2.1.length ≤ 4) ∧ MemOK l j.2.2.2.2.2.2) ((hF0.trans hF1).dr) rfl jQ (fun w hw => nR l V p inp xi.v w (hw.slF hV') hB hN (hD'.mono hw.bg) (hw.slF hin') hil' h) rfl (fun j F2 hj hF2 hk => ?_)
  obtain ⟨bc2, bM2, bm2, VR2, vi2, wl2, rs2⟩ := j
  have hC2 : CpuAt F2.blk bM2 bm2 VR2 vi2 rs2 inp := mL hk
  obtain ⟨⟨hw2, hn2⟩, hO2⟩ := hj
  replace hO2 : MemOK l rs2 := hO2
  change Tr _ _ ([cellE bc2 (bJ (cJ p) bM2 vi2 (.slice none 0 0) .nilFunc) 82, mapE bm2 u8V wl2, rowE (.slice none 0 0) 23 av (cJ p).out] ++ _) _ _
  replace hkV := hkV.mono hF2.blk
  replace hkD := hkD.mono hF2.blk
  replace hin' := hin'.mono hF2.blk
  replace hC1 := hC1.mono hF2.blk
  refine zz0 (ad rfl) (zz0 (ad rfl) (ae (aa (af (af (ab (zz0 (ac rfl) (zz0 (dk rfl rfl) (zz0 (ac rfl) ?_)))))))))
  apply cZ
  ·exact (rfl : _ = (3, 42, 45))
  ·exact rfl
  ·intro hF3; have hF3' := hF3
   try simp only [bs] at hF3'
   refine zz5 hF3 (ac rfl) (zz5 hF3 (fX rfl rfl dT rfl) ?_)
   refine zz0 (aF rfl hF3 rfl) ?_
   refine ae (aa ?_)
   exact aw (Sub.cons rfl (zz7 3 rfl))
  ·intro hT3
   refine zz6 hT3 (zz6 hT3 (zz0 (aE rfl hT3 rfl) ?_))
   refine ae (aa ?_)
   exact aw (Sub.cons rfl (zz7 3 rfl))
  refine zz0 (ac rfl) ?_
  apply cZ
  ·exact (rfl : _ = (3, 46, 49))
  ·exact rfl
  ·intro hF4; have hF4' := hF4
   try simp only [bs] at hF4'
   refine zz5 hF4 (ac rfl) (zz5 hF4 (fX rfl rfl dT rfl) ?_)
   refine zz0 (aF rfl hF4 rfl) ?_
   refine ae (aa ?_)
   exact aw (Sub.cons rfl (zz7 3 rfl))
  ·intro hT4
   refine zz6 hT4 (zz6 hT4 (zz0 (aE rfl hT4 rfl) ?_))
   refine ae (aa ?_)
   exact aw (Sub.cons rfl (zz7 3 rfl))
  refine ae (aa ?_)
  refine ak rfl ?_ ?_ <;> intro h5 <;> try simp only [bs] at h5
  ·first | contradiction | (exfalso; omega) | simp_all
  ·refine ax (aa (af (ab (zz0 (bK rfl bX ba) ?_))))
   refine zz0 (ac rfl) (zz0 (ac rfl) ?_)
   refine fK (H0 := u7) (n := F2.lo) (R := fun h (j : SV) => Sl h cQ (e8 [] 983036 4294967295 4) (.slice j.a j.n j.c)) (fun j : SV => .tuple #[.agg (ev (cJ p) ⟨xl, j, xi, ⟨none, 0, 0⟩⟩).toArray, .int .i64 0]) rfl (l9 _) (fun h h' i hh r => r.mono hh) rfl Tryz.call10 (fun w2 hw2 hv2 => (pX k inp xl xi p w2 (hw2.slF hkV) (hkD.mono hw2.bg) hkB (hw2.slF hin') hil').mono fun e w' ⟨j, q1, q2, q3⟩ => ⟨j, q1, q2, q3.mono i5⟩) rfl (fun jn FN hFN hjn => ?_)
   have hRf := wh (p := p) (hkV.mono hFN.blk) (hkD.mono hFN.blk) (hjn.mono (lg (l9 _))) (hin'.mono hFN.blk)
   have hF01 := hF0.trans (hF1.trans (hF2.trans hFN))
   have hdr : FN.dr = 0 := hF01.dr
   replace hC1 := hC1.mono hFN.blk
   replace hC2 := hC2.mono hFN.blk
   refine zz0 (ac rfl) (zz0 (ay rfl rfl) (zz0 (ay rfl rfl) ?_))
   refine c9 cA rfl (fun b6 => ?_)
   refine bb cK rfl rfl au ?_
   refine zz0 (ad rfl) (ae (aa (af (ab (zz0 (ac rfl) (zz0 (fY rfl jX aO (IntWalk.i64_in _ (by omega))) ?_))))))
   refine zz0 (lb rfl rfl) ?_
   refine zz0 (ad rfl) (ae (aa (af (ab (zz0 (ac rfl) (zz0 (ac rfl) ?_))))))
   refine cT (fun j : WL × Value × Value × Value × Value => .tuple #[j.2.2.2.1, .agg #[.int .i64 (jV (dm l inp (min (min m3 63) 65536).toNat (cJ p))), j.2.2.2.2, .int .i64 ((da l inp (min (min m3 63) 65536).toNat (cJ p)).length : Nat)]]) [cellE bc1 (bJ (cJ p) bM1 vi1 (.slice none 0 0) .nilFunc) 82, mapE bm1 u8V wl1, rowE (.slice none 0 0) 23 av (cJ p).out] (fun j => [cellE bc1 (bJ (dm l inp (min (min m3 63) 65536).toNat (cJ p)) bM1 vi1 j.2.1 j.2.2.1) 82, mapE bm1 u8V j.1, rowE j.2.1 23 av (dm l inp (min (min m3 63) 65536).toNat (cJ p)).out, rowE j.2.2.2.1 23 av (da l inp (min (min m3 63) 65536).toNat (cJ p)), rowE j.2.2.2.2 23 av (dm l inp (min (min m3 63) 65536).toNat (cJ p)).out]) (ok := fun j => cx j.1 = (dm l inp (min (min m3 63) 65536).toNat (cJ p)).w ∧ j.1.length ≤ wl1.length + 4 * (da l inp (min (min m3 63) 65536).toNat (cJ p)).length ∧ ∃ a n c, j.2.1 = .slice a n c) (dd := fun _ => 0) rfl Tryz.call15 (by repeat' constructor) (fun w hw => Nat.le_of_eq (hdr)) (fun w hw => rk (cJ p) bc1 bM1 bm1 VR1 vi1 (.slice none 0 0) .nilFunc rs1 l wl1 inp (min m3 63) w (hw.own (by repeat' constructor)) (hC1.mono (hw.lessB (Lo := [cellE bc1 (bJ (cJ p) bM1 vi1 (.slice none 0 0) .nilFunc) 82, mapE bm1 u8V wl1, rowE (.slice none 0 0) 23 av (cJ p).out]) (by repeat' constructor))) hO1 hw1 ⟨_, _, _, rfl⟩ (by show (0 : Nat) ≤ 4096; omega)) rfl (fun j hj => ?_)
   obtain ⟨wl3, vo3, ef3, vt3, vq3⟩ := j
   obtain ⟨hw3, hn3, hv3⟩ := hj
   change Tr _ _ (cellE bc1 (bJ (dm l inp (min (min m3 63) 65536).toNat (cJ p)) bM1 vi1 vo3 ef3) 82 :: mapE bm1 u8V wl3 :: rowE vo3 23 av (dm l inp (min (min m3 63) 65536).toNat (cJ p)).out :: rowE vt3 23 av (da l inp (min (min m3 63) 65536).toNat (cJ p)) :: rowE vq3 23 av (dm l inp (min (min m3 63) 65536).toNat (cJ p)).out :: _) _ _
   obtain ⟨tr3, hr3⟩ : ∃ n, n = (da l inp (min (min m3 63) 65536).toNat (cJ p)) := ⟨_, rfl⟩
   rw [← hr3] at hn3 ⊢
   obtain ⟨t3, ht3⟩ : ∃ t, t = (dm l inp (min (min m3 63) 65536).toNat (cJ p)) := ⟨_, rfl⟩
   rw [← ht3] at hw3 ⊢
   refine jm (V := vq3) (fun pq3 cq3 hpv => ?_)
   subst hpv
   have ho3 : t3.out.length ≤ 4096 := by rw [ht3]; exact wd _ (by show (0 : Nat) ≤ 4096; omega)
   have hI : i7 l t3.w := by rw [ht3]; exact wc hO1 _ (wn hO1 p)
   have e1 : dm k inp (min (min m3 63) 65536).toNat (cJ p) = t3 := by rw [(sq hi _ _ _).1, ht3]
   have e2 : da k inp (min (min m3 63) 65536).toNat (cJ p) = tr3 := by rw [(sq hi _ _ _).2, hr3]
   have hn3b : tr3.length ≤ 64 := by rw [hr3]; exact Nat.le_trans (rj _ _) (by omega)
   have g1 : wl1.length ≤ 4 := hn1
   have g2 : wl2.length ≤ 4 := hn2
   have g3 : wl3.length ≤ wl1.length + 4 * tr3.length := hn3
   have hl3 : wl3.length ≤ 1000000 := by omega
   refine zz0 (ac rfl) (zz0 (ay rfl rfl) (zz0 (ay rfl rfl) ?_))
   refine c9 di rfl (fun b7 => ?_)
   refine zz0 (ad rfl) (j0 rfl rfl cR ?_)
   refine ae (aa (af (ab (zz0 (bK rfl aR au) ?_))))
   refine zz0 (ac rfl) ?_
   refine fK (H0 := FN.blk) (n := FN.lo) (R := fun h2 (j : List CellV × RP × Value) => (RefAt h2 k inp t3 j.1 j.2.1 ∧ Sl h2 av tr3 j.2.2) ∧ j.1.length ≤ (e8 [] 983036 4294967295 4).length + 4 * tr3.length) (fun j : List CellV × RP × Value => .tuple #[.agg (ev t3 j.2.1).toArray, j.2.2, .agg #[.int .i64 (jV t3), .slice j.2.1.o.a j.2.1.o.n j.2.1.o.c, .int .i64 (tr3.length : Nat)]]) rfl (Hp.le.refl _) (fun h2 h2' j hh r => ⟨⟨r.1.1.mono hh, r.1.2.mono hh⟩, r.2⟩) rfl Tryz.call16 (fun w2 hw2 hv2 => by have q := si (vis FN.blk FN.lo FN.blk) k inp (cJ p) (e8 [] 983036 4294967295 4) _ (min m3 63) w2 hv2 (hRf.mono (s8 _ _)) hkB hcs (by show (0 : Nat) ≤ 4096; omega); rw [e1, e2] at q; exact q) rfl (fun jr FR hFR hjr => ?_)
   have hjr2 : RefAt FR.blk k inp t3 jr.1 jr.2.1 := hjr.1.1.mono (lg hFR.blk)
   have hRo := hjr2.out
   have hRt : Sl FR.blk av tr3 jr.2.2 := hjr.1.2.mono (lg hFR.blk)
   replace hdr : FR.dr = 0 := (hF01.trans hFR).dr
   replace hC1 := hC1.mono hFR.blk
   replace hC2 := hC2.mono hFR.blk
   refine zz0 (ac rfl) (zz0 (ay rfl rfl) (zz0 (ay rfl rfl) (zz0 (ay rfl rfl) ?_)))
   refine c9 cA rfl (fun b8 => ?_)
   refine c9 di rfl (fun b9 => ?_)
   refine bb cK rfl rfl au ?_
   refine zz0 (ad rfl) (j0 rfl rfl cR ?_)
   refine ae (aa (af (ab (zz0 (ac rfl) (zz0 (ac rfl) ?_)))))
   refine cT (fun j : WL × Value × Value × Value × Value => .agg #[.int .i64 (jV (dm l inp (min (min m3 63) 65536).toNat (cJ p))), j.2.2.2.2, .int .i64 ((da l inp (min (min m3 63) 65536).toNat (cJ p)).length : Nat)]) [cellE bc2 (bJ (cJ p) bM2 vi2 (.slice none 0 0) .nilFunc) 82, mapE bm2 u8V wl2, rowE (.slice none 0 0) 23 av (cJ p).out] (fun j => [cellE bc2 (bJ (dm l inp (min (min m3 63) 65536).toNat (cJ p)) bM2 vi2 j.2.1 j.2.2.1) 82, mapE bm2 u8V j.1, rowE j.2.1 23 av (dm l inp (min (min m3 63) 65536).toNat (cJ p)).out, rowE j.2.2.2.2 23 av (dm l inp (min (min m3 63) 65536).toNat (cJ p)).out]) (ok := fun j => cx j.1 = (dm l inp (min (min m3 63) 65536).toNat (cJ p)).w ∧ j.1.length ≤ wl2.length + 4 * (da l inp (min (min m3 63) 65536).toNat (cJ p)).length ∧ ∃ a n c, j.2.1 = .slice a n c) (dd := fun _ => 0) rfl m5 (by repeat' constructor) (fun w hw => Nat.le_of_eq (hdr)) (fun w hw => pp (cJ p) bc2 bM2 bm2 VR2 vi2 (.slice none 0 0) .nilFunc rs2 l wl2 inp (min m3 63) w (hw.own (by repeat' constructor)) (hC2.mono (hw.lessB (Lo := [cellE bc2 (bJ (cJ p) bM2 vi2 (.slice none 0 0) .nilFunc) 82, mapE bm2 u8V wl2, rowE (.slice none 0 0) 23 av (cJ p).out]) (by repeat' constructor))) hO2 hw2 ⟨_, _, _, rfl⟩ (by show (0 : Nat) ≤ 4096; omega)) rfl (fun j hj => ?_)
   obtain ⟨wl5, vo5, ef5, vt5, vq5⟩ := j
   obtain ⟨hw5, hn5, hv5⟩ := hj
   change Tr _ _ (cellE bc2 (bJ (dm l inp (min (min m3 63) 65536).toNat (cJ p)) bM2 vi2 vo5 ef5) 82 :: mapE bm2 u8V wl5 :: rowE vo5 23 av (dm l inp (min (min m3 63) 65536).toNat (cJ p)).out :: rowE vq5 23 av (dm l inp (min (min m3 63) 65536).toNat (cJ p)).out :: _) _ _
   obtain ⟨n5, hm5⟩ : ∃ n, n = (da l inp (min (min m3 63) 65536).toNat (cJ p)).length := ⟨_, rfl⟩
   rw [← hm5] at hn5 ⊢
   obtain ⟨t5, ht5⟩ : ∃ t, t = (dm l inp (min (min m3 63) 65536).toNat (cJ p)) := ⟨_, rfl⟩
   rw [← ht5] at hw5 ⊢
   refine jm (V := vq5) (fun pq5 cq5 hpv => ?_)
   subst hpv
   obtain rfl : t3 = t5 := ht3.trans ht5.symm
   obtain rfl : tr3.length = n5 := by rw [hm5, hr3]
   have g5 : wl5.length ≤ wl2.length + 4 * tr3.length := hn5
   have hl5 : wl5.length ≤ 1000000 := by omega
   refine c9 di rfl (fun b10 => ?_)
   refine j0 rfl rfl cR ?_
   refine ae (aa (af (ab (zz0 (ac rfl) (zz0 (ac rfl) (zz0 (aB rfl kn (fun w hw => kf tr3 tr3 _ _ w (hw.row (by repeat constructor)) (hw.slF hRt))) ?_))))))
   refine zz0 (ac rfl) ?_
   apply bF
   ·exact (rfl : _ = (6, 88, 94))
   ·exact rfl
   ·intro hT11; have hT11' := hT11
    try simp only [bs] at hT11'
    refine zz5 hT11 (ac rfl) (zz5 hT11 (fh rfl (by repeat constructor) al) ?_)
    refine zz5 hT11 (zz3 (off := 2) (ft := 3) rfl cF rfl aj) ?_
    refine zz5 hT11 (aM rfl aD) ?_
    refine zz5 hT11 (aN rfl rfl) (zz0 (aE rfl hT11 rfl) ?_)
    refine ae (aa ?_)
    exact aw (Sub.cons rfl (zz7 6 rfl))
   ·intro hF11
    refine zz6 hF11 (zz6 hF11 (zz6 hF11 (zz6 hF11 (zz6 hF11 (zz0 (aF rfl hF11 rfl) ?_)))))
    refine ae (aa ?_)
    exact aw (Sub.cons rfl (zz7 6 rfl))
   refine zz0 (ac rfl) ?_
   apply bF
   ·exact (rfl : _ = (6, 95, 101))
   ·exact rfl
   ·intro hT12; have hT12' := hT12
    try simp only [bs] at hT12'
    refine zz5 hT12 (zz3 (off := 0) (ft := 31) rfl cF rfl cS) ?_
    refine zz5 hT12 (aM rfl ee) ?_
    refine zz5 hT12 (zz3 (off := 0) (ft := 31) rfl cF rfl cS) ?_
    refine zz5 hT12 (aM rfl ee) ?_
    refine zz5 hT12 (aN rfl rfl) (zz0 (aE rfl hT12 rfl) ?_)
    refine ae (aa ?_)
    exact aw (Sub.cons rfl (zz7 6 rfl))
   ·intro hF12
    refine zz6 hF12 (zz6 hF12 (zz6 hF12 (zz6 hF12 (zz6 hF12 (zz0 (aF rfl hF12 rfl) ?_)))))
    refine ae (aa ?_)
    exact aw (Sub.cons rfl (zz7 6 rfl))
   refine zz0 (ac rfl) ?_
   apply bF
   ·exact (rfl : _ = (6, 102, 108))
   ·exact rfl
   ·intro hT13; have hT13' := hT13
    try simp only [bs] at hT13'
    refine zz5 hT13 (zz3 (off := 0) (ft := 31) rfl cF rfl cS) ?_
    refine zz5 hT13 (aM rfl ee) ?_
    refine zz5 hT13 (zz3 (off := 0) (ft := 31) rfl cF rfl cS) ?_
    refine zz5 hT13 (aM rfl ee) ?_
    refine zz5 hT13 (aN rfl rfl) (zz0 (aE rfl hT13 rfl) ?_)
    refine ae (aa ?_)
    exact aw (Sub.cons rfl (zz7 6 rfl))
   ·intro hF13
    refine zz6 hF13 (zz6 hF13 (zz6 hF13 (zz6 hF13 (zz6 hF13 (zz0 (aF rfl hF13 rfl) ?_)))))
    refine ae (aa ?_)
    exact aw (Sub.cons rfl (zz7 6 rfl))
   refine zz0 (ac rfl) ?_
   apply bF
   ·exact (rfl : _ = (6, 109, 115))
   ·exact rfl
   ·intro hT14; have hT14' := hT14
    try simp only [bs] at hT14'
    refine zz5 hT14 (zz3 (off := 2) (ft := 3) rfl cF rfl aj) ?_
    refine zz5 hT14 (aM rfl aD) ?_
    refine zz5 hT14 (zz3 (off := 2) (ft := 3) rfl cF rfl aj) ?_
    refine zz5 hT14 (aM rfl aD) ?_
    refine zz5 hT14 (aN rfl rfl) (zz0 (aE rfl hT14 rfl) ?_)
    refine ae (aa ?_)
    exact aw (Sub.cons rfl (zz7 6 rfl))
   ·intro hF14
    refine zz6 hF14 (zz6 hF14 (zz6 hF14 (zz6 hF14 (zz6 hF14 (zz0 (aF rfl hF14 rfl) ?_)))))
    refine ae (aa ?_)
    exact aw (Sub.cons rfl (zz7 6 rfl))
   refine zz0 (ac rfl) ?_
   apply bF
   ·exact (rfl : _ = (6, 116, 122))
   ·exact rfl
   ·intro hT15; have hT15' := hT15
    try simp only [bs] at hT15'
    refine zz5 hT15 (zz3 (off := 1) (ft := 24) rfl cF rfl cC) ?_
    refine zz5 hT15 (aM rfl dF) ?_
    refine zz5 hT15 (zz3 (off := 1) (ft := 24) rfl cF rfl cC) ?_
    refine zz5 hT15 (aM rfl dF) ?_
    refine zz5 hT15 (aB rfl kn (fun w hw => kf t3.out t3.out _ _ w (hw.row (by repeat constructor)) (hw.slF hRo))) ?_
    refine zz0 (aE rfl hT15 rfl) ?_
    refine ae (aa ?_)
    exact aw (Sub.cons rfl (zz7 6 rfl))
   ·intro hF15
    refine zz6 hF15 (zz6 hF15 (zz6 hF15 (zz6 hF15 (zz6 hF15 (zz0 (aF rfl hF15 rfl) ?_)))))
    refine ae (aa ?_)
    exact aw (Sub.cons rfl (zz7 6 rfl))
   refine zz0 (ac rfl) ?_
   apply bF
   ·exact (rfl : _ = (4, 123, 127))
   ·exact rfl
   ·intro hT16; have hT16' := hT16
    try simp only [bs] at hT16'
    refine zz5 hT16 (ac rfl) (zz5 hT16 (ac rfl) (zz5 hT16 (aB rfl Tryz.call17 (fun w hw => yo l t3 bc2 bc1 vi2 vo5 ef5 vi1 vo3 ef3 bM2 bm2 VR2 rs2 wl5 bM1 bm1 VR1 rs1 wl3 w (hC2.mem.mono hw.bg) hO2 (mapE.in_ (hw.ent _ (by repeat constructor))) hl5 (hC1.mem.mono hw.bg) hO1 (mapE.in_ (hw.ent _ (by repeat constructor))) hl3 hI hw5 hw3 ho3 (cellE.cellsIn (hw.ent _ (by repeat constructor)) (Ext.refl _)) (cellE.cellsIn (hw.ent _ (by repeat constructor)) (Ext.refl _)) (hw.row (by repeat constructor)) (hw.row (by repeat constructor)))) ?_))
    refine zz0 (aE rfl hT16 rfl) ?_
    refine ae (aa ?_)
    exact aw (Sub.cons rfl (zz7 4 rfl))
   ·intro hF16
    refine zz6 hF16 (zz6 hF16 (zz6 hF16 (zz0 (aF rfl hF16 rfl) ?_)))
    refine ae (aa ?_)
    exact aw (Sub.cons rfl (zz7 4 rfl))
   refine zz0 (ac rfl) ?_
   apply bF
   ·exact (rfl : _ = (2, 128, 130))
   ·exact rfl
   ·intro hT17; have hT17' := hT17
    try simp only [bs] at hT17'
    refine zz5 hT17 (kK hdr rfl kH (fun w hw => gu w)) ?_
    refine zz0 (aE rfl hT17 rfl) ?_
    refine ae (aa ?_)
    exact aw (Sub.cons rfl (zz7 2 rfl))
   ·intro hF17
    refine zz6 hF17 (zz0 (aF rfl hF17 rfl) ?_)
    refine ae (aa ?_)
    exact aw (Sub.cons rfl (zz7 2 rfl))
   refine zz0 (ad rfl) (ae (aa (ao ?_)))
   refine aI Tryz.results4 rfl (fun w' hw => ?_)
   exact ⟨by simp, hw.below0 (hF01.trans hFR)⟩
theorem uS (l : List SecV) (inp : List UInt32) (V vi0 : Value) (p : UInt32) (m3 : Int) (w : World) (hV : Sl (hp w) cf l V) (hin : Sl (hp w) av inp vi0) (hD : DataIn (hp w) l) (hN : ∀ s ∈ l, s.name.size ≤ 140737488351232) (hm3 : -128 ≤ m3 ∧ m3 ≤ 127) : Calls Tryz.prog 4 #[V, .int .u32 p.toNat, vi0, .int .i8 m3] w (fun e w' => e = .returned (.bool true) ∧ Below w.heap.size w w') := by
 by_cases hs : jb l inp = true
 ·by_cases h : dL l = 0
  ·exact BW l inp V vi0 p m3 w hV hin hD hN hm3 hs h
  ·exact BX l inp V vi0 p m3 w hV hin hD hN hm3 hs h
 ·exact Bp l inp V vi0 p m3 w hV hin hD hN hm3 (by simpa using hs)
end Go.Proofs.YtpeaodkfbjenpaaGreat
