/- Own rules and walks, part 6. -/
import Derived.Test.YtiajjbhcpeadfaaGreatB5
set_option linter.unusedSimpArgs false
set_option linter.unusedVariables false
set_option linter.unusedSectionVars false
set_option maxRecDepth 100000
set_option maxHeartbeats 16000000
namespace Go.Proofs.YtiajjbhcpeadfaaGreat
open Go Go.HL Go.RowKit
theorem xz (r : Int) (w : World) :
  Cr Tryz.prog 213 #[.int .i64 r] w (.bool (lS r)) := by
 refine enter Tryz.func213 rfl Tryz.ntmps213 rfl ?_
 refine ah (zz0 (ab rfl) (aM (zz0 (aa rfl) (zz0 (d6 rfl rfl) (zz0 (aa rfl) ?_)))))
 apply bQ
 ·exact (rfl : _ = (3, 5, 8))
 ·exact rfl
 ·intro hT1; have hT1' := hT1
  try simp only [bs] at hT1'
  refine zz3 hT1 (aa rfl) (zz3 hT1 (bT rfl rfl) (zz0 (aK rfl hT1 rfl) ?_))
  refine ax (ac ?_)
  exact az (Sub.cons rfl (zz6 3 rfl))
 ·intro hF1
  refine zz4 hF1 (zz4 hF1 (zz0 (aL rfl hF1 rfl) ?_))
  refine ax (ac ?_)
  exact az (Sub.cons rfl (zz6 3 rfl))
 refine zz0 (ab rfl) (ad (aC ?_))
 refine aO Tryz.results213 rfl (fun w' hw => ?_)
 exact ⟨rfl, hw.b0⟩
theorem Gk (r : Int) (w : World) :
  Cr Tryz.prog 216 #[.int .i64 r] w (.bool (Dh r)) := by
 refine enter Tryz.func216 rfl Tryz.ntmps216 rfl ?_
 refine ah (zz0 (ab rfl) (aM (zz0 (aa rfl) (zz0 (d6 rfl rfl) (zz0 (aa rfl) ?_)))))
 apply bQ
 ·exact (rfl : _ = (3, 5, 8))
 ·exact rfl
 ·intro hT1; have hT1' := hT1
  try simp only [bs] at hT1'
  refine zz3 hT1 (aa rfl) (zz3 hT1 (fJ rfl rfl) (zz0 (aK rfl hT1 rfl) ?_))
  refine ax (ac ?_)
  exact az (Sub.cons rfl (zz6 3 rfl))
 ·intro hF1
  refine zz4 hF1 (zz4 hF1 (zz0 (aL rfl hF1 rfl) ?_))
  refine ax (ac ?_)
  exact az (Sub.cons rfl (zz6 3 rfl))
 refine zz0 (ab rfl) (ad (aC ?_))
 refine aO Tryz.results216 rfl (fun w' hw => ?_)
 exact ⟨rfl, hw.b0⟩
theorem vD (n : UInt32) (w : World) :
  Cr Tryz.prog 220 #[.int .u32 n.toNat] w (.bool (lU n)) := by
 refine enter Tryz.func220 rfl Tryz.ntmps220 rfl ?_
 refine ah (zz0 (ab rfl) (aM (zz0 (aa rfl) (zz0 (om (n := 127) rfl rfl) ?_))))
 refine zz0 (aa rfl) ?_
 apply cw
 ·exact (rfl : _ = (3, 5, 8))
 ·exact rfl
 ·intro hF1; have hF1' := hF1
  try simp only [bs] at hF1'
  refine zz3 hF1 (aa rfl) (zz3 hF1 (ky (n := 4294967168) rfl rfl) ?_)
  refine zz0 (aL rfl hF1 rfl) ?_
  refine ax (ac ?_)
  exact az (Sub.cons rfl (zz6 3 rfl))
 ·intro hT1
  refine zz4 hT1 (zz4 hT1 (zz0 (aK rfl hT1 rfl) ?_))
  refine ax (ac ?_)
  exact az (Sub.cons rfl (zz6 3 rfl))
 refine zz0 (ab rfl) (ad (aC ?_))
 refine aO Tryz.results220 rfl (fun w' hw => ?_)
 exact ⟨rfl, hw.b0⟩
theorem qE (op : Int) (w : World) :
  Cr Tryz.prog 218 #[.int .i64 op] w (.bool (mB op)) := by
 refine enter Tryz.func218 rfl Tryz.ntmps218 rfl ?_
 refine ah (zz0 (ab rfl) (aM (zz0 (aa rfl) (zz0 (d6 rfl rfl) (zz0 (aa rfl) ?_)))))
 apply bQ
 ·exact (rfl : _ = (3, 5, 8))
 ·exact rfl
 ·intro hT1; have hT1' := hT1
  try simp only [bs] at hT1'
  refine zz3 hT1 (aa rfl) (zz3 hT1 (fJ rfl rfl) (zz0 (aK rfl hT1 rfl) ?_))
  refine ax (ac ?_)
  exact az (Sub.cons rfl (zz6 3 rfl))
 ·intro hF1
  refine zz4 hF1 (zz4 hF1 (zz0 (aL rfl hF1 rfl) ?_))
  refine ax (ac ?_)
  exact az (Sub.cons rfl (zz6 3 rfl))
 refine zz0 (ab rfl) (ad (aC ?_))
 refine aO Tryz.results218 rfl (fun w' hw => ?_)
 exact ⟨rfl, hw.b0⟩
theorem lX (op : Int) (w : World) :
  Cr Tryz.prog 219 #[.int .i64 op] w (.bool (mC op)) := by
 refine enter Tryz.func219 rfl Tryz.ntmps219 rfl ?_
 refine ah (zz0 (ab rfl) (aM (zz0 (aa rfl) (zz0 (bh rfl rfl) (zz0 (aa rfl) ?_)))))
 apply cw
 ·exact (rfl : _ = (3, 5, 8))
 ·exact rfl
 ·intro hF1; have hF1' := hF1
  try simp only [bs] at hF1'
  refine zz3 hF1 (aa rfl) (zz3 hF1 (bh rfl rfl) (zz0 (aL rfl hF1 rfl) ?_))
  refine ax (ac ?_)
  exact az (Sub.cons rfl (zz6 3 rfl))
 ·intro hT1
  refine zz4 hT1 (zz4 hT1 (zz0 (aK rfl hT1 rfl) ?_))
  refine ax (ac ?_)
  exact az (Sub.cons rfl (zz6 3 rfl))
 refine zz0 (aa rfl) ?_
 apply cw
 ·exact (rfl : _ = (3, 9, 12))
 ·exact rfl
 ·intro hF2; have hF2' := hF2
  try simp only [bs] at hF2'
  refine zz3 hF2 (aa rfl) (zz3 hF2 (bh rfl rfl) (zz0 (aL rfl hF2 rfl) ?_))
  refine ax (ac ?_)
  exact az (Sub.cons rfl (zz6 3 rfl))
 ·intro hT2
  refine zz4 hT2 (zz4 hT2 (zz0 (aK rfl hT2 rfl) ?_))
  refine ax (ac ?_)
  exact az (Sub.cons rfl (zz6 3 rfl))
 refine zz0 (ab rfl) (ad (aC ?_))
 refine aO Tryz.results219 rfl (fun w' hw => ?_)
 exact ⟨rfl, hw.b0⟩
theorem AM (op : Int) (w : World) :
  Cr Tryz.prog 212 #[.int .i64 op] w (.bool (AN op)) := by
 refine enter Tryz.func212 rfl Tryz.ntmps212 rfl ?_
 refine ah (zz0 (ab rfl) (aM (zz0 (aa rfl) (zz0 (d6 rfl rfl) (zz0 (aa rfl) ?_)))))
 apply bQ
 ·exact (rfl : _ = (3, 5, 8))
 ·exact rfl
 ·intro hT1; have hT1' := hT1
  try simp only [bs] at hT1'
  refine zz3 hT1 (aa rfl) (zz3 hT1 (fJ rfl rfl) (zz0 (aK rfl hT1 rfl) ?_))
  refine ax (ac ?_)
  exact az (Sub.cons rfl (zz6 3 rfl))
 ·intro hF1
  refine zz4 hF1 (zz4 hF1 (zz0 (aL rfl hF1 rfl) ?_))
  refine ax (ac ?_)
  exact az (Sub.cons rfl (zz6 3 rfl))
 refine zz0 (aa rfl) ?_
 apply bQ
 ·exact (rfl : _ = (3, 9, 12))
 ·exact rfl
 ·intro hT2; have hT2' := hT2
  try simp only [bs] at hT2'
  refine zz3 hT2 (aa rfl) (zz3 hT2 (ff rfl rfl) (zz0 (aK rfl hT2 rfl) ?_))
  refine ax (ac ?_)
  exact az (Sub.cons rfl (zz6 3 rfl))
 ·intro hF2
  refine zz4 hF2 (zz4 hF2 (zz0 (aL rfl hF2 rfl) ?_))
  refine ax (ac ?_)
  exact az (Sub.cons rfl (zz6 3 rfl))
 refine zz0 (aa rfl) ?_
 apply bQ
 ·exact (rfl : _ = (3, 13, 16))
 ·exact rfl
 ·intro hT3; have hT3' := hT3
  try simp only [bs] at hT3'
  refine zz3 hT3 (aa rfl) (zz3 hT3 (ff rfl rfl) (zz0 (aK rfl hT3 rfl) ?_))
  refine ax (ac ?_)
  exact az (Sub.cons rfl (zz6 3 rfl))
 ·intro hF3
  refine zz4 hF3 (zz4 hF3 (zz0 (aL rfl hF3 rfl) ?_))
  refine ax (ac ?_)
  exact az (Sub.cons rfl (zz6 3 rfl))
 refine zz0 (ab rfl) (ad (aC ?_))
 refine aO Tryz.results212 rfl (fun w' hw => ?_)
 exact ⟨rfl, hw.b0⟩
theorem AK (i : Ins) (w : World) :
  Cr Tryz.prog 214 #[.agg (aT.enc i).toArray] w (.bool (AL i)) := by
 refine enter Tryz.func214 rfl Tryz.ntmps214 rfl ?_
 refine ah ?_
 refine dq rfl rfl (fun b1 => ?_)
 refine zz0 (ab rfl) (aM (zz0 (zz2 (off := 2) (ft := 3) rfl af rfl aB) ?_))
 refine zz0 (aG rfl aJ) ?_
 refine zz0 (aD rfl pd (fun w hw => qE i.op w)) ?_
 refine zz0 (aa rfl) ?_
 apply bQ
 ·exact (rfl : _ = (4, 6, 10))
 ·exact rfl
 ·intro hT2; have hT2' := hT2
  try simp only [bs] at hT2'
  refine zz3 hT2 (zz2 (off := 3) (ft := 3) rfl af rfl aB) ?_
  refine zz3 hT2 (aG rfl aJ) ?_
  refine zz3 hT2 (bh rfl rfl) (zz0 (aK rfl hT2 rfl) ?_)
  refine ax (ac ?_)
  exact az (Sub.cons rfl (zz6 4 rfl))
 ·intro hF2
  refine zz4 hF2 (zz4 hF2 (zz4 hF2 (zz0 (aL rfl hF2 rfl) ?_)))
  refine ax (ac ?_)
  exact az (Sub.cons rfl (zz6 4 rfl))
 refine zz0 (aa rfl) ?_
 apply cw
 ·exact (rfl : _ = (4, 11, 15))
 ·exact rfl
 ·intro hF3; have hF3' := hF3
  try simp only [bs] at hF3'
  refine zz3 hF3 (zz2 (off := 2) (ft := 3) rfl af rfl aB) ?_
  refine zz3 hF3 (aG rfl aJ) ?_
  refine zz3 hF3 (aD rfl o9 (fun w hw => lX i.op w)) ?_
  refine zz0 (aL rfl hF3 rfl) ?_
  refine ax (ac ?_)
  exact az (Sub.cons rfl (zz6 4 rfl))
 ·intro hT3
  refine zz4 hT3 (zz4 hT3 (zz4 hT3 (zz0 (aK rfl hT3 rfl) ?_)))
  refine ax (ac ?_)
  exact az (Sub.cons rfl (zz6 4 rfl))
 refine zz0 (aa rfl) ?_
 apply cw
 ·exact (rfl : _ = (4, 16, 20))
 ·exact rfl
 ·intro hF4; have hF4' := hF4
  try simp only [bs] at hF4'
  refine zz3 hF4 (zz2 (off := 2) (ft := 3) rfl af rfl aB) ?_
  refine zz3 hF4 (aG rfl aJ) ?_
  refine zz3 hF4 (bh rfl rfl) (zz0 (aL rfl hF4 rfl) ?_)
  refine ax (ac ?_)
  exact az (Sub.cons rfl (zz6 4 rfl))
 ·intro hT4
  refine zz4 hT4 (zz4 hT4 (zz4 hT4 (zz0 (aK rfl hT4 rfl) ?_)))
  refine ax (ac ?_)
  exact az (Sub.cons rfl (zz6 4 rfl))
 refine zz0 (ab rfl) (ad (aC ?_))
 refine aO Tryz.results214 rfl (fun w' hw => ?_)
 exact ⟨rfl, hw.b0⟩
theorem Cb (i : Ins) (w : World) :
  Cr Tryz.prog 217 #[.agg (aT.enc i).toArray] w (.bool (uE i)) := by
 refine enter Tryz.func217 rfl Tryz.ntmps217 rfl ?_
 refine ah ?_
 refine dq rfl rfl (fun b1 => ?_)
 refine zz0 (ab rfl) (aM (zz0 (zz2 (off := 2) (ft := 3) rfl af rfl aB) ?_))
 refine zz0 (aG rfl aJ) ?_
 refine zz0 (aD rfl pd (fun w hw => qE i.op w)) ?_
 refine zz0 (aa rfl) ?_
 apply bQ
 ·exact (rfl : _ = (4, 6, 10))
 ·exact rfl
 ·intro hT2; have hT2' := hT2
  try simp only [bs] at hT2'
  refine zz3 hT2 (zz2 (off := 3) (ft := 3) rfl af rfl aB) ?_
  refine zz3 hT2 (aG rfl aJ) ?_
  refine zz3 hT2 (ff rfl rfl) (zz0 (aK rfl hT2 rfl) ?_)
  refine ax (ac ?_)
  exact az (Sub.cons rfl (zz6 4 rfl))
 ·intro hF2
  refine zz4 hF2 (zz4 hF2 (zz4 hF2 (zz0 (aL rfl hF2 rfl) ?_)))
  refine ax (ac ?_)
  exact az (Sub.cons rfl (zz6 4 rfl))
 refine zz0 (aa rfl) ?_
 apply cw
 ·exact (rfl : _ = (4, 11, 15))
 ·exact rfl
 ·intro hF3; have hF3' := hF3
  try simp only [bs] at hF3'
  refine zz3 hF3 (zz2 (off := 2) (ft := 3) rfl af rfl aB) ?_
  refine zz3 hF3 (aG rfl aJ) ?_
  refine zz3 hF3 (aD rfl o9 (fun w hw => lX i.op w)) ?_
  refine zz0 (aL rfl hF3 rfl) ?_
  refine ax (ac ?_)
  exact az (Sub.cons rfl (zz6 4 rfl))
 ·intro hT3
  refine zz4 hT3 (zz4 hT3 (zz4 hT3 (zz0 (aK rfl hT3 rfl) ?_)))
  refine ax (ac ?_)
  exact az (Sub.cons rfl (zz6 4 rfl))
 refine zz0 (aa rfl) ?_
 apply cw
 ·exact (rfl : _ = (4, 16, 20))
 ·exact rfl
 ·intro hF4; have hF4' := hF4
  try simp only [bs] at hF4'
  refine zz3 hF4 (zz2 (off := 2) (ft := 3) rfl af rfl aB) ?_
  refine zz3 hF4 (aG rfl aJ) ?_
  refine zz3 hF4 (bh rfl rfl) (zz0 (aL rfl hF4 rfl) ?_)
  refine ax (ac ?_)
  exact az (Sub.cons rfl (zz6 4 rfl))
 ·intro hT4
  refine zz4 hT4 (zz4 hT4 (zz4 hT4 (zz0 (aK rfl hT4 rfl) ?_)))
  refine ax (ac ?_)
  exact az (Sub.cons rfl (zz6 4 rfl))
 refine zz0 (aa rfl) ?_
 apply cw
 ·exact (rfl : _ = (4, 21, 25))
 ·exact rfl
 ·intro hF5; have hF5' := hF5
  try simp only [bs] at hF5'
  refine zz3 hF5 (zz2 (off := 2) (ft := 3) rfl af rfl aB) ?_
  refine zz3 hF5 (aG rfl aJ) ?_
  refine zz3 hF5 (bh rfl rfl) (zz0 (aL rfl hF5 rfl) ?_)
  refine ax (ac ?_)
  exact az (Sub.cons rfl (zz6 4 rfl))
 ·intro hT5
  refine zz4 hT5 (zz4 hT5 (zz4 hT5 (zz0 (aK rfl hT5 rfl) ?_)))
  refine ax (ac ?_)
  exact az (Sub.cons rfl (zz6 4 rfl))
 refine zz0 (aa rfl) ?_
 apply cw
 ·exact (rfl : _ = (4, 26, 30))
 ·exact rfl
 ·intro hF6; have hF6' := hF6
  try simp only [bs] at hF6'
  refine zz3 hF6 (zz2 (off := 2) (ft := 3) rfl af rfl aB) ?_
  refine zz3 hF6 (aG rfl aJ) ?_
  refine zz3 hF6 (bh rfl rfl) (zz0 (aL rfl hF6 rfl) ?_)
  refine ax (ac ?_)
  exact az (Sub.cons rfl (zz6 4 rfl))
 ·intro hT6
  refine zz4 hT6 (zz4 hT6 (zz4 hT6 (zz0 (aK rfl hT6 rfl) ?_)))
  refine ax (ac ?_)
  exact az (Sub.cons rfl (zz6 4 rfl))
 refine zz0 (aa rfl) ?_
 apply cw
 ·exact (rfl : _ = (4, 31, 35))
 ·exact rfl
 ·intro hF7; have hF7' := hF7
  try simp only [bs] at hF7'
  refine zz3 hF7 (zz2 (off := 2) (ft := 3) rfl af rfl aB) ?_
  refine zz3 hF7 (aG rfl aJ) ?_
  refine zz3 hF7 (bh rfl rfl) (zz0 (aL rfl hF7 rfl) ?_)
  refine ax (ac ?_)
  exact az (Sub.cons rfl (zz6 4 rfl))
 ·intro hT7
  refine zz4 hT7 (zz4 hT7 (zz4 hT7 (zz0 (aK rfl hT7 rfl) ?_)))
  refine ax (ac ?_)
  exact az (Sub.cons rfl (zz6 4 rfl))
 refine zz0 (ab rfl) (ad (aC ?_))
 refine aO Tryz.results217 rfl (fun w' hw => ?_)
 exact ⟨rfl, hw.b0⟩
theorem xC (op : Int) (w : World) :
  Cr Tryz.prog 215 #[.int .i64 op] w (.bool (vI op)) := by
 refine enter Tryz.func215 rfl Tryz.ntmps215 rfl ?_
 refine ah (zz0 (ab rfl) (aM (zz0 (aa rfl) (zz0 (bh rfl rfl) (zz0 (aa rfl) ?_)))))
 apply cw
 ·exact (rfl : _ = (3, 5, 8))
 ·exact rfl
 ·intro hF1; have hF1' := hF1
  try simp only [bs] at hF1'
  refine zz3 hF1 (aa rfl) (zz3 hF1 (bh rfl rfl) (zz0 (aL rfl hF1 rfl) ?_))
  refine ax (ac ?_)
  exact az (Sub.cons rfl (zz6 3 rfl))
 ·intro hT1
  refine zz4 hT1 (zz4 hT1 (zz0 (aK rfl hT1 rfl) ?_))
  refine ax (ac ?_)
  exact az (Sub.cons rfl (zz6 3 rfl))
 refine zz0 (ab rfl) (ad (aC ?_))
 refine aO Tryz.results215 rfl (fun w' hw => ?_)
 exact ⟨rfl, hw.b0⟩
theorem wF (i : Ins) (w : World) :
  Cr Tryz.prog 210 #[.agg (aT.enc i).toArray] w (.bool (j9 i)) := by
 refine enter Tryz.func210 rfl Tryz.ntmps210 rfl ?_
 refine ah ?_
 refine dq rfl rfl (fun b1 => ?_)
 refine zz0 (ab rfl) (ad (an (ah (zz0 (zz2 (off := 2) (ft := 3) rfl af rfl aB) ?_))))
 refine zz0 (aG rfl aJ) ?_
 refine zz0 (aD rfl pd (fun w hw => qE i.op w)) ?_
 refine ad ?_
 refine ao rfl ?_ ?_ <;> intro h2 <;> try simp only [bs] at h2
 ·refine ah (zz0 (zz2 (off := 3) (ft := 3) rfl af rfl aB) ?_)
  refine zz0 (aG rfl aJ) ?_
  refine zz0 (d6 rfl rfl) (zz0 (aa rfl) ?_)
  apply bQ
  ·exact (rfl : _ = (4, 9, 13))
  ·exact rfl
  ·intro hT3; have hT3' := hT3
   try simp only [bs] at hT3'
   refine zz3 hT3 (zz2 (off := 3) (ft := 3) rfl af rfl aB) ?_
   refine zz3 hT3 (aG rfl aJ) ?_
   refine zz3 hT3 (fJ rfl rfl) (zz0 (aK rfl hT3 rfl) ?_)
   refine ax (ac ?_)
   exact az (Sub.cons rfl (zz6 4 rfl))
  ·intro hF3
   refine zz4 hF3 (zz4 hF3 (zz4 hF3 (zz0 (aL rfl hF3 rfl) ?_)))
   refine ax (ac ?_)
   exact az (Sub.cons rfl (zz6 4 rfl))
  refine zz0 (ab rfl) (ad (aC (aA ?_)))
  refine aO nA rfl (fun w' hw => ?_)
  exact ⟨by clear hw; unfold j9; (repeat (first | rw [if_pos (by first | assumption | omega | grind)] | rw [if_neg (by first | assumption | omega | grind)])) <;> rfl, hw.b0⟩
 refine bA (an (ah (zz0 (zz2 (off := 2) (ft := 3) rfl af rfl aB) ?_)))
 refine zz0 (aG rfl aJ) ?_
 refine zz0 (bh rfl rfl) (ad ?_)
 refine ao rfl ?_ ?_ <;> intro h4 <;> try simp only [bs] at h4
 ·refine ah (zz0 (zz2 (off := 3) (ft := 3) rfl af rfl aB) ?_)
  refine zz0 (aG rfl aJ) ?_
  refine zz0 (bh rfl rfl) (zz0 (aa rfl) ?_)
  apply cw
  ·exact (rfl : _ = (4, 20, 24))
  ·exact rfl
  ·intro hF5; have hF5' := hF5
   try simp only [bs] at hF5'
   refine zz3 hF5 (zz2 (off := 3) (ft := 3) rfl af rfl aB) ?_
   refine zz3 hF5 (aG rfl aJ) ?_
   refine zz3 hF5 (bh rfl rfl) (zz0 (aL rfl hF5 rfl) ?_)
   refine ax (ac ?_)
   exact az (Sub.cons rfl (zz6 4 rfl))
  ·intro hT5
   refine zz4 hT5 (zz4 hT5 (zz4 hT5 (zz0 (aK rfl hT5 rfl) ?_)))
   refine ax (ac ?_)
   exact az (Sub.cons rfl (zz6 4 rfl))
  refine zz0 (ab rfl) (ad (aC (aA ?_)))
  refine aO nA rfl (fun w' hw => ?_)
  exact ⟨by clear hw; unfold j9; (repeat (first | rw [if_pos (by first | assumption | omega | grind)] | rw [if_neg (by first | assumption | omega | grind)])) <;> rfl, hw.b0⟩
 refine cT (zz0 (zz2 (off := 3) (ft := 3) rfl af rfl aB) ?_)
 refine zz0 (aG rfl aJ) ?_
 refine zz0 (bh rfl rfl) (zz0 (ab rfl) (ad (aC ?_)))
 refine aO nA rfl (fun w' hw => ?_)
 exact ⟨by clear hw; unfold j9; (repeat (first | rw [if_pos (by first | assumption | omega | grind)] | rw [if_neg (by first | assumption | omega | grind)])) <;> rfl, hw.b0⟩
theorem uP (i : Ins) (w : World) :
  Cr Tryz.prog 211 #[.agg (aT.enc i).toArray] w (.bool (jm i)) := by
 refine enter Tryz.func211 rfl Tryz.ntmps211 rfl ?_
 refine ah ?_
 refine dq rfl rfl (fun b1 => ?_)
 refine zz0 (ab rfl) (ad (an (ah (zz0 (zz2 (off := 2) (ft := 3) rfl af rfl aB) ?_))))
 refine zz0 (aG rfl aJ) ?_
 refine zz0 (bh rfl rfl) (ad ?_)
 refine ao rfl ?_ ?_ <;> intro h2 <;> try simp only [bs] at h2
 ·refine ah (zz0 (zz2 (off := 4) (ft := 3) rfl af rfl aB) ?_)
  refine zz0 (aG rfl aJ) ?_
  refine zz0 (bh rfl rfl) (zz0 (aa rfl) ?_)
  apply cw
  ·exact (rfl : _ = (4, 9, 13))
  ·exact rfl
  ·intro hF3; have hF3' := hF3
   try simp only [bs] at hF3'
   refine zz3 hF3 (zz2 (off := 4) (ft := 3) rfl af rfl aB) ?_
   refine zz3 hF3 (aG rfl aJ) ?_
   refine zz3 hF3 (bh rfl rfl) (zz0 (aL rfl hF3 rfl) ?_)
   refine ax (ac ?_)
   exact az (Sub.cons rfl (zz6 4 rfl))
  ·intro hT3
   refine zz4 hT3 (zz4 hT3 (zz4 hT3 (zz0 (aK rfl hT3 rfl) ?_)))
   refine ax (ac ?_)
   exact az (Sub.cons rfl (zz6 4 rfl))
  refine zz0 (ab rfl) (ad (aC (aA ?_)))
  refine aO nz rfl (fun w' hw => ?_)
  exact ⟨by clear hw; unfold jm; (repeat (first | rw [if_pos (by first | assumption | omega | grind)] | rw [if_neg (by first | assumption | omega | grind)])) <;> rfl, hw.b0⟩
 refine bA (an (ah (zz0 (zz2 (off := 2) (ft := 3) rfl af rfl aB) ?_)))
 refine zz0 (aG rfl aJ) ?_
 refine zz0 (aD rfl o9 (fun w hw => lX i.op w)) ?_
 refine ad ?_
 refine ao rfl ?_ ?_ <;> intro h4 <;> try simp only [bs] at h4
 ·refine ah (zz0 (zz2 (off := 4) (ft := 3) rfl af rfl aB) ?_)
  refine zz0 (aG rfl aJ) ?_
  refine zz0 (bh rfl rfl) (zz0 (aa rfl) ?_)
  apply cw
  ·exact (rfl : _ = (4, 20, 24))
  ·exact rfl
  ·intro hF5; have hF5' := hF5
   try simp only [bs] at hF5'
   refine zz3 hF5 (zz2 (off := 4) (ft := 3) rfl af rfl aB) ?_
   refine zz3 hF5 (aG rfl aJ) ?_
   refine zz3 hF5 (bh rfl rfl) (zz0 (aL rfl hF5 rfl) ?_)
   refine ax (ac ?_)
   exact az (Sub.cons rfl (zz6 4 rfl))
  ·intro hT5
   refine zz4 hT5 (zz4 hT5 (zz4 hT5 (zz0 (aK rfl hT5 rfl) ?_)))
   refine ax (ac ?_)
   exact az (Sub.cons rfl (zz6 4 rfl))
  refine zz0 (aa rfl) ?_
  apply cw
  ·exact (rfl : _ = (4, 25, 29))
  ·exact rfl
  ·intro hF6; have hF6' := hF6
   try simp only [bs] at hF6'
   refine zz3 hF6 (zz2 (off := 4) (ft := 3) rfl af rfl aB) ?_
   refine zz3 hF6 (aG rfl aJ) ?_
   refine zz3 hF6 (bh rfl rfl) (zz0 (aL rfl hF6 rfl) ?_)
   refine ax (ac ?_)
   exact az (Sub.cons rfl (zz6 4 rfl))
  ·intro hT6
   refine zz4 hT6 (zz4 hT6 (zz4 hT6 (zz0 (aK rfl hT6 rfl) ?_)))
   refine ax (ac ?_)
   exact az (Sub.cons rfl (zz6 4 rfl))
  refine zz0 (ab rfl) (ad (aC (aA ?_)))
  refine aO nz rfl (fun w' hw => ?_)
  exact ⟨by clear hw; unfold jm; (repeat (first | rw [if_pos (by first | assumption | omega | grind)] | rw [if_neg (by first | assumption | omega | grind)])) <;> rfl, hw.b0⟩
 refine cT (zz0 (zz2 (off := 4) (ft := 3) rfl af rfl aB) ?_)
 refine zz0 (aG rfl aJ) ?_
 refine zz0 (bh rfl rfl) (zz0 (ab rfl) (ad (aC ?_)))
 refine aO nz rfl (fun w' hw => ?_)
 exact ⟨by clear hw; unfold jm; (repeat (first | rw [if_pos (by first | assumption | omega | grind)] | rw [if_neg (by first | assumption | omega | grind)])) <;> rfl, hw.b0⟩
theorem yy (i : Ins) (w : World) :
  Cr Tryz.prog 153 #[.agg (aT.enc i).toArray] w (.int .i64 (jw i)) := by
 refine enter Tryz.func153 rfl Tryz.ntmps153 rfl ?_
 refine ah ?_
 refine dq rfl rfl (fun b1 => ?_)
 refine zz0 (ab rfl) (ad (an (ah (zz0 (zz2 (off := 2) (ft := 3) rfl af rfl aB) ?_))))
 refine zz0 (aG rfl aJ) ?_
 refine zz0 (bT rfl rfl) (zz0 (aa rfl) ?_)
 apply cw
 ·exact (rfl : _ = (4, 6, 10))
 ·exact rfl
 ·intro hF2; have hF2' := hF2
  try simp only [bs] at hF2'
  refine zz3 hF2 (zz2 (off := 2) (ft := 3) rfl af rfl aB) ?_
  refine zz3 hF2 (aG rfl aJ) ?_
  refine zz3 hF2 (eo rfl rfl) (zz0 (aL rfl hF2 rfl) ?_)
  refine ax (ac ?_)
  exact az (Sub.cons rfl (zz6 4 rfl))
 ·intro hT2
  refine zz4 hT2 (zz4 hT2 (zz4 hT2 (zz0 (aK rfl hT2 rfl) ?_)))
  refine ax (ac ?_)
  exact az (Sub.cons rfl (zz6 4 rfl))
 refine zz0 (aa rfl) ?_
 apply cw
 ·exact (rfl : _ = (4, 11, 15))
 ·exact rfl
 ·intro hF3; have hF3' := hF3
  try simp only [bs] at hF3'
  refine zz3 hF3 (bC rfl aS ay) ?_
  refine zz3 hF3 (aD rfl Tryz.call210 (fun w hw => wF i w)) ?_
  refine zz3 hF3 (cp rfl) (zz0 (aL rfl hF3 rfl) ?_)
  refine ax (ac ?_)
  exact az (Sub.cons rfl (zz6 4 rfl))
 ·intro hT3
  refine zz4 hT3 (zz4 hT3 (zz4 hT3 (zz0 (aK rfl hT3 rfl) ?_)))
  refine ax (ac ?_)
  exact az (Sub.cons rfl (zz6 4 rfl))
 refine zz0 (aa rfl) ?_
 apply cw
 ·exact (rfl : _ = (4, 16, 20))
 ·exact rfl
 ·intro hF4; have hF4' := hF4
  try simp only [bs] at hF4'
  refine zz3 hF4 (bC rfl aS ay) ?_
  refine zz3 hF4 (aD rfl Tryz.call211 (fun w hw => uP i w)) ?_
  refine zz3 hF4 (cp rfl) (zz0 (aL rfl hF4 rfl) ?_)
  refine ax (ac ?_)
  exact az (Sub.cons rfl (zz6 4 rfl))
 ·intro hT4
  refine zz4 hT4 (zz4 hT4 (zz4 hT4 (zz0 (aK rfl hT4 rfl) ?_)))
  refine ax (ac ?_)
  exact az (Sub.cons rfl (zz6 4 rfl))
 refine ad ?_
 refine ao rfl ?_ ?_ <;> intro h5 <;> try simp only [bs] at h5
 ·refine ah (zz0 (ab rfl) (ad (aC (aA ?_))))
  refine aO jb rfl (fun w' hw => ?_)
  exact ⟨by clear hw; unfold jw; (repeat (first | rw [if_pos (by first | assumption | omega | grind)] | rw [if_neg (by first | assumption | omega | grind)])) <;> rfl, hw.b0⟩
 refine bA (an (ah (zz0 (zz2 (off := 2) (ft := 3) rfl af rfl aB) ?_)))
 refine zz0 (aG rfl aJ) ?_
 refine zz0 (aD rfl Tryz.call212 (fun w hw => AM i.op w)) ?_
 refine zz0 (aa rfl) ?_
 apply bQ
 ·exact (rfl : _ = (5, 24, 29))
 ·exact rfl
 ·intro hT6; have hT6' := hT6
  try simp only [bs] at hT6'
  refine zz3 hT6 (zz2 (off := 6) (ft := 3) rfl af rfl aB) ?_
  refine zz3 hT6 (aG rfl aJ) ?_
  refine zz3 hT6 (aD rfl Tryz.call213 (fun w hw => xz i.a w)) ?_
  refine zz3 hT6 (cp rfl) (zz0 (aK rfl hT6 rfl) ?_)
  refine ax (ac ?_)
  exact az (Sub.cons rfl (zz6 5 rfl))
 ·intro hF6
  refine zz4 hF6 (zz4 hF6 (zz4 hF6 (zz4 hF6 (zz0 (aL rfl hF6 rfl) ?_))))
  refine ax (ac ?_)
  exact az (Sub.cons rfl (zz6 5 rfl))
 refine zz0 (aa rfl) ?_
 apply cw
 ·exact (rfl : _ = (10, 30, 40))
 ·exact rfl
 ·intro hF7; have hF7' := hF7
  try simp only [bs] at hF7'
  refine zz3 hF7 (zz2 (off := 2) (ft := 3) rfl af rfl aB) ?_
  refine zz3 hF7 (aG rfl aJ) ?_
  refine zz3 hF7 (aD rfl Tryz.call212 (fun w hw => AM i.op w)) ?_
  refine zz3 hF7 (cp rfl) (zz3 hF7 (aa rfl) ?_)
  apply bQ
  ·exact (rfl : _ = (4, 35, 39))
  ·exact rfl
  ·intro hT8; have hT8' := hT8
   try simp only [bs] at hT8'
   refine zz3 hT8 (zz2 (off := 6) (ft := 3) rfl af rfl aB) ?_
   refine zz3 hT8 (aG rfl aJ) ?_
   refine zz3 hT8 (ff rfl rfl) (zz3 hF7 (aK rfl hT8 rfl) ?_)
   refine ax (ac ?_)
   exact az (Sub.cons rfl (zz6 4 rfl))
  ·intro hF8
   refine zz4 hF8 (zz4 hF8 (zz4 hF8 (zz3 hF7 (aL rfl hF8 rfl) ?_)))
   refine ax (ac ?_)
   exact az (Sub.cons rfl (zz6 4 rfl))
  refine zz0 (aL rfl hF7 rfl) ?_
  refine ax (ac ?_)
  exact az (Sub.cons rfl (zz6 7 rfl))
 ·intro hT7
  refine zz4 hT7 (zz4 hT7 (zz4 hT7 (zz4 hT7 (zz4 hT7 (eX ?_)))))
  refine eX ?_
  refine eX ?_
  refine zz4 hT7 (zz0 (aK rfl hT7 rfl) ?_)
  refine ax (ac ?_)
  exact az (Sub.cons rfl (zz6 10 rfl))
 refine zz0 (aa rfl) ?_
 apply cw
 ·exact (rfl : _ = (9, 41, 50))
 ·exact rfl
 ·intro hF9; have hF9' := hF9
  try simp only [bs] at hF9'
  refine zz3 hF9 (bC rfl aS ay) ?_
  refine zz3 hF9 (aD rfl Tryz.call214 (fun w hw => AK i w)) ?_
  refine zz3 hF9 (aa rfl) ?_
  apply bQ
  ·exact (rfl : _ = (5, 44, 49))
  ·exact rfl
  ·intro hT10; have hT10' := hT10
   try simp only [bs] at hT10'
   refine zz3 hT10 (zz2 (off := 7) (ft := 3) rfl af rfl aB) ?_
   refine zz3 hT10 (aG rfl aJ) ?_
   refine zz3 hT10 (aD rfl Tryz.call213 (fun w hw => xz i.b w)) ?_
   refine zz3 hT10 (cp rfl) (zz3 hF9 (aK rfl hT10 rfl) ?_)
   refine ax (ac ?_)
   exact az (Sub.cons rfl (zz6 5 rfl))
  ·intro hF10
   refine zz4 hF10 (zz4 hF10 (zz4 hF10 (zz4 hF10 (zz3 hF9 (aL rfl hF10 rfl) ?_))))
   refine ax (ac ?_)
   exact az (Sub.cons rfl (zz6 5 rfl))
  refine zz0 (aL rfl hF9 rfl) ?_
  refine ax (ac ?_)
  exact az (Sub.cons rfl (zz6 5 rfl))
 ·intro hT9
  refine zz4 hT9 (zz4 hT9 (zz4 hT9 (eX ?_)))
  refine eX ?_
  refine eX ?_
  refine eX ?_
  refine zz4 hT9 (zz0 (aK rfl hT9 rfl) ?_)
  refine ax (ac ?_)
  exact az (Sub.cons rfl (zz6 9 rfl))
 refine zz0 (aa rfl) ?_
 apply cw
 ·exact (rfl : _ = (9, 51, 60))
 ·exact rfl
 ·intro hF11; have hF11' := hF11
  try simp only [bs] at hF11'
  refine zz3 hF11 (bC rfl aS ay) ?_
  refine zz3 hF11 (aD rfl Tryz.call214 (fun w hw => AK i w)) ?_
  refine zz3 hF11 (cp rfl) (zz3 hF11 (aa rfl) ?_)
  apply bQ
  ·exact (rfl : _ = (4, 55, 59))
  ·exact rfl
  ·intro hT12; have hT12' := hT12
   try simp only [bs] at hT12'
   refine zz3 hT12 (zz2 (off := 7) (ft := 3) rfl af rfl aB) ?_
   refine zz3 hT12 (aG rfl aJ) ?_
   refine zz3 hT12 (ff rfl rfl) (zz3 hF11 (aK rfl hT12 rfl) ?_)
   refine ax (ac ?_)
   exact az (Sub.cons rfl (zz6 4 rfl))
  ·intro hF12
   refine zz4 hF12 (zz4 hF12 (zz4 hF12 (zz3 hF11 (aL rfl hF12 rfl) ?_)))
   refine ax (ac ?_)
   exact az (Sub.cons rfl (zz6 4 rfl))
  refine zz0 (aL rfl hF11 rfl) ?_
  refine ax (ac ?_)
  exact az (Sub.cons rfl (zz6 6 rfl))
 ·intro hT11
  refine zz4 hT11 (zz4 hT11 (zz4 hT11 (zz4 hT11 (eX ?_))))
  refine eX ?_
  refine eX ?_
  refine zz4 hT11 (zz0 (aK rfl hT11 rfl) ?_)
  refine ax (ac ?_)
  exact az (Sub.cons rfl (zz6 9 rfl))
 refine ad ?_
 refine ao rfl ?_ ?_ <;> intro h13 <;> try simp only [bs] at h13
 ·refine ah (zz0 (ab rfl) (ad (aC (aA ?_))))
  refine aO jb rfl (fun w' hw => ?_)
  exact ⟨by clear hw; unfold jw; (repeat (first | rw [if_pos (by first | assumption | omega | grind)] | rw [if_neg (by first | assumption | omega | grind)])) <;> rfl, hw.b0⟩
 refine bA (an (ah (zz0 (zz2 (off := 2) (ft := 3) rfl af rfl aB) ?_)))
 refine zz0 (aG rfl aJ) ?_
 refine zz0 (aD rfl Tryz.call215 (fun w hw => xC i.op w)) ?_
 refine zz0 (aa rfl) ?_
 apply bQ
 ·exact (rfl : _ = (5, 64, 69))
 ·exact rfl
 ·intro hT14; have hT14' := hT14
  try simp only [bs] at hT14'
  refine zz3 hT14 (zz2 (off := 5) (ft := 3) rfl af rfl aB) ?_
  refine zz3 hT14 (aG rfl aJ) ?_
  refine zz3 hT14 (aD rfl Tryz.call216 (fun w hw => Gk i.cc w)) ?_
  refine zz3 hT14 (cp rfl) (zz0 (aK rfl hT14 rfl) ?_)
  refine ax (ac ?_)
  exact az (Sub.cons rfl (zz6 5 rfl))
 ·intro hF14
  refine zz4 hF14 (zz4 hF14 (zz4 hF14 (zz4 hF14 (zz0 (aL rfl hF14 rfl) ?_))))
  refine ax (ac ?_)
  exact az (Sub.cons rfl (zz6 5 rfl))
 refine zz0 (aa rfl) ?_
 apply cw
 ·exact (rfl : _ = (10, 70, 80))
 ·exact rfl
 ·intro hF15; have hF15' := hF15
  try simp only [bs] at hF15'
  refine zz3 hF15 (zz2 (off := 2) (ft := 3) rfl af rfl aB) ?_
  refine zz3 hF15 (aG rfl aJ) ?_
  refine zz3 hF15 (aD rfl Tryz.call215 (fun w hw => xC i.op w)) ?_
  refine zz3 hF15 (cp rfl) (zz3 hF15 (aa rfl) ?_)
  apply bQ
  ·exact (rfl : _ = (4, 75, 79))
  ·exact rfl
  ·intro hT16; have hT16' := hT16
   try simp only [bs] at hT16'
   refine zz3 hT16 (zz2 (off := 5) (ft := 3) rfl af rfl aB) ?_
   refine zz3 hT16 (aG rfl aJ) ?_
   refine zz3 hT16 (ff rfl rfl) (zz3 hF15 (aK rfl hT16 rfl) ?_)
   refine ax (ac ?_)
   exact az (Sub.cons rfl (zz6 4 rfl))
  ·intro hF16
   refine zz4 hF16 (zz4 hF16 (zz4 hF16 (zz3 hF15 (aL rfl hF16 rfl) ?_)))
   refine ax (ac ?_)
   exact az (Sub.cons rfl (zz6 4 rfl))
  refine zz0 (aL rfl hF15 rfl) ?_
  refine ax (ac ?_)
  exact az (Sub.cons rfl (zz6 7 rfl))
 ·intro hT15
  refine zz4 hT15 (zz4 hT15 (zz4 hT15 (zz4 hT15 (zz4 hT15 (eX ?_)))))
  refine eX ?_
  refine eX ?_
  refine zz4 hT15 (zz0 (aK rfl hT15 rfl) ?_)
  refine ax (ac ?_)
  exact az (Sub.cons rfl (zz6 10 rfl))
 refine zz0 (aa rfl) ?_
 apply cw
 ·exact (rfl : _ = (9, 81, 90))
 ·exact rfl
 ·intro hF17; have hF17' := hF17
  try simp only [bs] at hF17'
  refine zz3 hF17 (bC rfl aS ay) ?_
  refine zz3 hF17 (aD rfl Tryz.call217 (fun w hw => Cb i w)) ?_
  refine zz3 hF17 (cp rfl) (zz3 hF17 (aa rfl) ?_)
  apply bQ
  ·exact (rfl : _ = (4, 85, 89))
  ·exact rfl
  ·intro hT18; have hT18' := hT18
   try simp only [bs] at hT18'
   refine zz3 hT18 (zz2 (off := 1) (ft := 23) rfl af rfl ae) ?_
   refine zz3 hT18 (aG rfl am) ?_
   refine zz3 hT18 (ij (n := 0) rfl rfl) ?_
   refine zz3 hF17 (aK rfl hT18 rfl) ?_
   refine ax (ac ?_)
   exact az (Sub.cons rfl (zz6 4 rfl))
  ·intro hF18
   refine zz4 hF18 (zz4 hF18 (zz4 hF18 (zz3 hF17 (aL rfl hF18 rfl) ?_)))
   refine ax (ac ?_)
   exact az (Sub.cons rfl (zz6 4 rfl))
  refine zz0 (aL rfl hF17 rfl) ?_
  refine ax (ac ?_)
  exact az (Sub.cons rfl (zz6 6 rfl))
 ·intro hT17
  refine zz4 hT17 (zz4 hT17 (zz4 hT17 (zz4 hT17 (eX ?_))))
  refine eX ?_
  refine eX ?_
  refine zz4 hT17 (zz0 (aK rfl hT17 rfl) ?_)
  refine ax (ac ?_)
  exact az (Sub.cons rfl (zz6 9 rfl))
 refine ad ?_
 refine ao rfl ?_ ?_ <;> intro h19 <;> try simp only [bs] at h19
 ·refine ah (zz0 (ab rfl) (ad (aC (aA ?_))))
  refine aO jb rfl (fun w' hw => ?_)
  exact ⟨by clear hw; unfold jw; (repeat (first | rw [if_pos (by first | assumption | omega | grind)] | rw [if_neg (by first | assumption | omega | grind)])) <;> rfl, hw.b0⟩
 refine bA ?_
 refine dj (ι := Unit) (fun u => ¬ (((mB i.op = true ∧ i.form = 1) ∨ mC i.op = true ∨ i.op = 19) ∧ lU i.imm = false)) (fun _ => Bg.of w) (fun u => [cellE b1 (aT.enc i) 36]) (fun u => []) ?_ (fun u hi => ?_)
 ·skip
  refine ah (zz0 (zz2 (off := 2) (ft := 3) rfl af rfl aB) ?_)
  refine zz0 (aG rfl aJ) ?_
  refine zz0 (aD rfl pd (fun w hw => qE i.op w)) ?_
  refine zz0 (aa rfl) ?_
  apply bQ
  ·exact (rfl : _ = (4, 94, 98))
  ·exact rfl
  ·intro hT20; have hT20' := hT20
   try simp only [bs] at hT20'
   refine zz3 hT20 (zz2 (off := 3) (ft := 3) rfl af rfl aB) ?_
   refine zz3 hT20 (aG rfl aJ) ?_
   refine zz3 hT20 (bh rfl rfl) (zz0 (aK rfl hT20 rfl) ?_)
   refine ax (ac ?_)
   exact az (Sub.cons rfl (zz6 4 rfl))
  ·intro hF20
   refine zz4 hF20 (zz4 hF20 (zz4 hF20 (zz0 (aL rfl hF20 rfl) ?_)))
   refine ax (ac ?_)
   exact az (Sub.cons rfl (zz6 4 rfl))
  refine zz0 (aa rfl) ?_
  apply cw
  ·exact (rfl : _ = (4, 99, 103))
  ·exact rfl
  ·intro hF21; have hF21' := hF21
   try simp only [bs] at hF21'
   refine zz3 hF21 (zz2 (off := 2) (ft := 3) rfl af rfl aB) ?_
   refine zz3 hF21 (aG rfl aJ) ?_
   refine zz3 hF21 (aD rfl o9 (fun w hw => lX i.op w)) ?_
   refine zz0 (aL rfl hF21 rfl) ?_
   refine ax (ac ?_)
   exact az (Sub.cons rfl (zz6 4 rfl))
  ·intro hT21
   refine zz4 hT21 (zz4 hT21 (zz4 hT21 (zz0 (aK rfl hT21 rfl) ?_)))
   refine ax (ac ?_)
   exact az (Sub.cons rfl (zz6 4 rfl))
  refine zz0 (aa rfl) ?_
  apply cw
  ·exact (rfl : _ = (4, 104, 108))
  ·exact rfl
  ·intro hF22; have hF22' := hF22
   try simp only [bs] at hF22'
   refine zz3 hF22 (zz2 (off := 2) (ft := 3) rfl af rfl aB) ?_
   refine zz3 hF22 (aG rfl aJ) ?_
   refine zz3 hF22 (bh rfl rfl) (zz0 (aL rfl hF22 rfl) ?_)
   refine ax (ac ?_)
   exact az (Sub.cons rfl (zz6 4 rfl))
  ·intro hT22
   refine zz4 hT22 (zz4 hT22 (zz4 hT22 (zz0 (aK rfl hT22 rfl) ?_)))
   refine ax (ac ?_)
   exact az (Sub.cons rfl (zz6 4 rfl))
  refine ad ?_
  refine ao rfl ?_ ?_ <;> intro h23 <;> try simp only [bs] at h23
  ·refine ah (zz0 (zz2 (off := 1) (ft := 23) rfl af rfl ae) ?_)
   refine zz0 (aG rfl am) ?_
   refine zz0 (aD rfl Tryz.call220 (fun w hw => vD i.imm w)) ?_
   refine zz0 (cp rfl) (ad ?_)
   refine ao rfl ?_ ?_ <;> intro h24 <;> try simp only [bs] at h24
   ·refine ah (zz0 (ab rfl) (ad (aC (aA ?_))))
    refine aO jb rfl (fun w' hw => ?_)
    exact ⟨by clear hw; unfold jw; (repeat (first | rw [if_pos (by first | assumption | omega | grind)] | rw [if_neg (by first | assumption | omega | grind)])) <;> rfl, hw.b0⟩
   refine bA ?_
   refine cD () Front.nil (bD 13 rfl) (o := (by grind))
  refine bA ?_
  refine cD () Front.nil (bD 9 rfl) (o := (by grind))
 skip
 replace hi : ¬ (((mB i.op = true ∧ i.form = 1) ∨ mC i.op = true ∨ i.op = 19) ∧ lU i.imm = false) := hi
 change Tr _ _ [cellE b1 (aT.enc i) 36] ([] ++ _) _
 refine an (ah (zz0 (zz2 (off := 2) (ft := 3) rfl af rfl aB) ?_))
 refine zz0 (aG rfl aJ) ?_
 refine zz0 (bh rfl rfl) (zz0 (aa rfl) ?_)
 apply bQ
 ·exact (rfl : _ = (4, 116, 120))
 ·exact rfl
 ·intro hT25; have hT25' := hT25
  try simp only [bs] at hT25'
  refine zz3 hT25 (zz2 (off := 3) (ft := 3) rfl af rfl aB) ?_
  refine zz3 hT25 (aG rfl aJ) ?_
  refine zz3 hT25 (bh rfl rfl) (zz0 (aK rfl hT25 rfl) ?_)
  refine ax (ac ?_)
  exact az (Sub.cons rfl (zz6 4 rfl))
 ·intro hF25
  refine zz4 hF25 (zz4 hF25 (zz4 hF25 (zz0 (aL rfl hF25 rfl) ?_)))
  refine ax (ac ?_)
  exact az (Sub.cons rfl (zz6 4 rfl))
 refine zz0 (aa rfl) ?_
 apply bQ
 ·exact (rfl : _ = (9, 121, 130))
 ·exact rfl
 ·intro hT26; have hT26' := hT26
  try simp only [bs] at hT26'
  refine zz3 hT26 (zz2 (off := 1) (ft := 23) rfl af rfl ae) ?_
  refine zz3 hT26 (aG rfl am) ?_
  refine zz3 hT26 (zz2 (off := 0) (ft := 23) rfl af rfl ae) ?_
  refine zz3 hT26 (aG rfl am) ?_
  refine zz3 hT26 (eU rfl rfl) ?_
  refine zz3 hT26 (eU (n := 2) rfl rfl) ?_
  refine zz3 hT26 (aD rfl Tryz.call220 (fun w hw => vD (i.imm - i.addr - 2) w)) ?_
  refine zz3 hT26 (cp rfl) (zz0 (aK rfl hT26 rfl) ?_)
  refine ax (ac ?_)
  exact az (Sub.cons rfl (zz6 9 rfl))
 ·intro hF26
  refine zz4 hF26 (zz4 hF26 (zz4 hF26 (zz4 hF26 (zz4 hF26 (zz4 hF26 (zz4 hF26 (zz4 hF26 (zz0 (aL rfl hF26 rfl) ?_))))))))
  refine ax (ac ?_)
  exact az (Sub.cons rfl (zz6 9 rfl))
 refine ad ?_
 refine ao rfl ?_ ?_ <;> intro h27 <;> try simp only [bs] at h27
 ·refine ah (zz0 (ab rfl) (ad (aC (aA ?_))))
  refine aO jb rfl (fun w' hw => ?_)
  exact ⟨by clear hw; unfold jw; (repeat (first | rw [if_pos (by first | assumption | omega | grind)] | rw [if_neg (by first | assumption | omega | grind)])) <;> rfl, hw.b0⟩
 refine cT (zz0 (ab rfl) (ad (aC ?_)))
 refine aO jb rfl (fun w' hw => ?_)
 exact ⟨by clear hw; unfold jw; (repeat (first | rw [if_pos (by first | assumption | omega | grind)] | rw [if_neg (by first | assumption | omega | grind)])) <;> rfl, hw.b0⟩
theorem yx (i : Ins) (w : World) :
  Cr Tryz.prog 88 #[.agg (aT.enc i).toArray] w (.bool (decide (jw i = 0))) := by
 refine enter Tryz.func88 rfl Tryz.ntmps88 rfl ?_
 refine ah ?_
 refine dq rfl rfl (fun b1 => ?_)
 refine zz0 (ab rfl) (aM (zz0 (bC rfl aS ay) ?_))
 refine zz0 (aD rfl Tryz.call153 (fun w hw => yy i w)) ?_
 refine zz0 (bh rfl rfl) (zz0 (ab rfl) (ad (aC ?_)))
 refine aO Tryz.results88 rfl (fun w' hw => ?_)
 exact ⟨rfl, hw.b0⟩
end Go.Proofs.YtiajjbhcpeadfaaGreat
namespace Go.HL
open Go
theorem E6 {s : VSet} (h : ¬(s.top = true ∨ s.em = true)) (h2 : s.hi ≤ s.lo) : fG s = (decide (s.lo = s.hi) && decide (s.st = 0)) := by
 unfold fG
 rw [if_neg h]
 split
 ·rename_i q; rw [decide_eq_true q, Bool.and_true]
 ·rename_i q
  rw [decide_eq_false q, Bool.and_false, decide_eq_false (by rw [UInt32.not_lt]; exact h2), Bool.false_and, Bool.false_and]
theorem E5 {s : VSet} (h : ¬(s.top = true ∨ s.em = true)) (h2 : s.lo < s.hi) : fG s = (decide (0 < s.st) && (decide ((s.hi - s.lo) % s.st = 0) && (decide (s.lo ≠ 0) || decide (s.hi ≠ 4294967295) || decide (s.st ≠ 1)))) := by
 unfold fG
 rw [if_neg h]
 split
 ·rename_i q
  rw [q, decide_eq_false (fun e => by rw [e] at h2; exact absurd h2 (UInt32.lt_irrefl _)), decide_eq_false (by decide : ¬(0 : UInt32) < 0), Bool.false_and]
 ·rename_i q
  have q0 : 0 < s.st := by
   rw [UInt32.lt_iff_toNat_lt]
   rcases Nat.eq_zero_or_pos s.st.toNat with e | e
   ·exact absurd (UInt32.toNat_inj.1 e) q
   ·exact e
  have e1 : decide (0 < s.lo) = decide (s.lo ≠ 0) := by
   congr 1; rw [eq_iff_iff]
   constructor
   ·intro e1 e2; rw [e2] at e1; exact absurd e1 (by decide)
   ·intro e1; rw [UInt32.lt_iff_toNat_lt]
    rcases Nat.eq_zero_or_pos s.lo.toNat with e | e
    ·exact absurd (UInt32.toNat_inj.1 e) e1
    ·exact e
  have e2 : decide (s.hi < 4294967295) = decide (s.hi ≠ 4294967295) := by
   congr 1; rw [eq_iff_iff]
   constructor
   ·intro e1 e2; rw [e2] at e1; exact absurd e1 (by decide)
   ·intro e1; rw [UInt32.lt_iff_toNat_lt]
    have h3 := s.hi.toNat_lt
    have h4 : s.hi.toNat ≠ 4294967295 := fun e => e1 (UInt32.toNat_inj.1 e)
    show s.hi.toNat < 4294967295
    omega
  have e3 : decide (1 < s.st) = decide (s.st ≠ 1) := by
   congr 1; rw [eq_iff_iff]
   constructor
   ·intro e1 e2; rw [e2] at e1; exact absurd e1 (by decide)
   ·intro e1; rw [UInt32.lt_iff_toNat_lt]
    rw [UInt32.lt_iff_toNat_lt] at q0
    have h4 : s.st.toNat ≠ 1 := fun e => e1 (UInt32.toNat_inj.1 e)
    have h5 : (0 : UInt32).toNat = 0 := rfl
    show 1 < s.st.toNat
    omega
  rw [decide_eq_true h2, decide_eq_true q0, e1, e2, e3]; simp
theorem wU {s : VSet} (hv : fG s = true) (h : ¬(s.top = true ∨ s.em = true)) (h0 : s.st = 0) : s.lo = s.hi := by
 unfold fG at hv
 rw [if_neg h, if_pos h0, decide_eq_true_eq] at hv; exact hv
theorem Je {s : VSet} {n : UInt32} (h : (aX s).top = true ∨ (aX s).em = true) : oS s n = (aX s).top := by
 unfold oS vG; rw [if_pos h]
theorem Jd {s : VSet} {n : UInt32} (h : ¬((aX s).top = true ∨ (aX s).em = true)) (h2 : n < (aX s).lo ∨ (aX s).hi < n) : oS s n = false := by
 unfold oS vG
 rw [if_neg h]
 split
 ·rename_i q
  rw [decide_eq_false_iff_not]
  have := wU (ll s) h q
  rintro rfl
  rw [← this] at h2
  rcases h2 with h2 | h2 <;> exact absurd h2 (UInt32.lt_irrefl _)
 ·rcases h2 with h2 | h2
  ·rw [decide_eq_false (by rw [UInt32.not_le]; exact h2), Bool.false_and, Bool.false_and]
  ·rw [decide_eq_false (p := n ≤ _) (by rw [UInt32.not_le]; exact h2), Bool.and_false, Bool.false_and]
theorem Jc {s : VSet} {n : UInt32} (h : ¬((aX s).top = true ∨ (aX s).em = true)) (h2 : (aX s).lo ≤ n) (h3 : n ≤ (aX s).hi) : oS s n = (decide ((aX s).st = 0) || decide ((n - (aX s).lo) % (aX s).st = 0)) := by
 unfold oS vG
 rw [if_neg h]
 split
 ·rename_i q
  rw [decide_eq_true q, Bool.true_or, decide_eq_true_eq]
  have := wU (ll s) h q
  rw [← this] at h3
  exact UInt32.le_antisymm h3 h2
 ·rename_i q
  rw [decide_eq_true h2, decide_eq_true h3, decide_eq_false q]; simp
theorem EE (s : VSet) : 0 ≤ dM s ∧ dM s ≤ 4294967296 := by
 unfold dM jy
 split
 ·omega
 split
 ·omega
 split
 ·omega
 ·have := ((((aX s).hi - (aX s).lo) / (aX s).st)).toNat_lt
  omega
theorem tZ (s : VSet) : dM (aX s) = dM s := by unfold dM; rw [jq]
theorem zN {l : List SecV} {i : Ins} {x : VSet} (h1 : qT i = true) (h2 : gh l = 0) (h3 : ¬((fG x = false ∨ x.em = true) ∨ x.top = true)) (h4 : i.op = 22) : co l i x = uT l i.imm x := by
 unfold co uT
 rw [if_neg (by rw [h1]; simp), if_neg (by rw [h2]; simp), if_neg h3, if_neg (fun q => q h4)]
 split
 ·rfl
 ·cases nf l i.imm x (x.hi.toNat + 1) <;> rfl
end Go.HL
namespace Go.Proofs.YtiajjbhcpeadfaaGreat
open Go Go.HL Go.RowKit
theorem CX (w : World) :
  Cr Tryz.prog 120 #[] w (.agg (bR.enc oG).toArray) := by
 refine enter Tryz.func120 rfl Tryz.ntmps120 rfl ?_
 refine ah ?_
 refine dB cB rfl (fun b1 => ?_)
 refine aM (zz0 (bL (vs := [(1, _)]) rfl rfl (q9 _)) ?_)
 refine aF bR rfl rfl aj ?_
 refine ad (aC ?_)
 refine eM Tryz.results120 rfl aN aj (fun w' hw => ?_)
 exact ⟨rfl, hw.b0⟩
theorem EC (w : World) :
  Cr Tryz.prog 121 #[] w (.agg (bR.enc emptyS).toArray) := by
 refine enter Tryz.func121 rfl Tryz.ntmps121 rfl ?_
 refine ah ?_
 refine dB cB rfl (fun b1 => ?_)
 refine aM (zz0 (bL (vs := [(0, _)]) rfl rfl (ra _)) ?_)
 refine aF bR rfl rfl aj ?_
 refine ad (aC ?_)
 refine eM Tryz.results121 rfl aN aj (fun w' hw => ?_)
 exact ⟨rfl, hw.b0⟩
theorem wT (a : VSet) (w : World) :
  Cr Tryz.prog 62 #[.agg (bR.enc a).toArray] w (.bool (fG a)) := by
 refine enter Tryz.func62 rfl Tryz.ntmps62 rfl ?_
 refine ah ?_
 refine dq rfl rfl (fun b1 => ?_)
 refine zz0 (ab rfl) (ad (an (ah (zz0 (zz2 (off := 1) (ft := 4) rfl ak rfl bN) ?_))))
 refine zz0 (aG rfl cm) ?_
 refine zz0 (aa rfl) ?_
 apply cw
 ·exact (rfl : _ = (3, 5, 8))
 ·exact rfl
 ·intro hF2; have hF2' := hF2
  try simp only [bs] at hF2'
  refine zz3 hF2 (zz2 (off := 0) (ft := 4) rfl ak rfl bN) ?_
  refine zz3 hF2 (aG rfl cm) ?_
  refine zz0 (aL rfl hF2 rfl) ?_
  refine ax (ac ?_)
  exact az (Sub.cons rfl (zz6 3 rfl))
 ·intro hT2
  refine zz4 hT2 (zz4 hT2 (zz0 (aK rfl hT2 rfl) ?_))
  refine ax (ac ?_)
  exact az (Sub.cons rfl (zz6 3 rfl))
 refine ad ?_
 refine ao rfl ?_ ?_ <;> intro h3 <;> try simp only [bs] at h3
 ·have hq1 := h3
  refine an (g9 aU ?_)
  refine aw (bC rfl aN aj) ?_
  refine aw (aD rfl Tryz.call120 (fun w hw => CX w)) ?_
  refine aw (uM rfl rfl pT ak (lx _ ak) rfl mN qR) ?_
  refine aw (aa rfl) ?_
  apply su
  ·exact (rfl : _ = (4, 12, 16))
  ·exact rfl
  ·intro hF4; have hF4' := hF4
   try simp only [bs] at hF4'
   refine bV hF4 (bC rfl aN aj) ?_
   refine bV hF4 (aD rfl Tryz.call121 (fun w hw => EC w)) ?_
   refine bV hF4 (uM rfl rfl pT ak (lx _ ak) rfl mN qR) ?_
   refine aw (aL rfl hF4 rfl) ?_
   exact db (Sub.cons rfl (zz6 4 rfl))
  ·intro hT4
   refine bU hT4 (bU hT4 (bU hT4 (aw (aK rfl hT4 rfl) ?_)))
   exact db (Sub.cons rfl (zz6 4 rfl))
  refine aw (ab rfl) (bI ?_)
  refine ac (aC (aA ?_))
  refine aO Tryz.results62 rfl (fun w' hw => ?_)
  exact ⟨by unfold fG; rw [if_pos hq1], hw.b0⟩
 have hq1 : ¬(a.top = true ∨ a.em = true) := fun q => by have := h3; rcases q with q | q <;> simp_all
 refine bA (an (ah (zz0 (zz2 (off := 2) (ft := 23) rfl ak rfl ae) ?_)))
 refine zz0 (aG rfl am) ?_
 refine zz0 (zz2 (off := 3) (ft := 23) rfl ak rfl ae) ?_
 refine zz0 (aG rfl am) ?_
 refine zz0 (ky rfl rfl) ?_
 refine ad ?_
 refine ao rfl ?_ ?_ <;> intro h5 <;> try simp only [bs] at h5
 ·have hq2 := h5
  refine ah (zz0 (zz2 (off := 2) (ft := 23) rfl ak rfl ae) ?_)
  refine zz0 (aG rfl am) ?_
  refine zz0 (zz2 (off := 3) (ft := 23) rfl ak rfl ae) ?_
  refine zz0 (aG rfl am) ?_
  refine zz0 (dO rfl rfl) ?_
  refine zz0 (aa rfl) ?_
  apply bQ
  ·exact (rfl : _ = (4, 27, 31))
  ·exact rfl
  ·intro hT6; have hT6' := hT6
   try simp only [bs] at hT6'
   refine zz3 hT6 (zz2 (off := 4) (ft := 23) rfl ak rfl ae) ?_
   refine zz3 hT6 (aG rfl am) ?_
   refine zz3 hT6 (dO (n := 0) rfl rfl) ?_
   refine zz0 (aK rfl hT6 rfl) ?_
   refine ax (ac ?_)
   exact az (Sub.cons rfl (zz6 4 rfl))
  ·intro hF6
   refine zz4 hF6 (zz4 hF6 (zz4 hF6 (zz0 (aL rfl hF6 rfl) ?_)))
   refine ax (ac ?_)
   exact az (Sub.cons rfl (zz6 4 rfl))
  refine zz0 (ab rfl) (ad (aC (aA ?_)))
  refine aO Tryz.results62 rfl (fun w' hw => ?_)
  exact ⟨by rw [E6 hq1 hq2], hw.b0⟩
 have hq2 := h5
 refine cT (zz0 (zz2 (off := 4) (ft := 23) rfl ak rfl ae) ?_)
 refine zz0 (aG rfl am) ?_
 refine zz0 (jY (n := 0) rfl rfl) ?_
 refine zz0 (aa rfl) ?_
 apply bQ
 ·exact (rfl : _ = (10, 35, 45))
 ·exact rfl
 ·intro hT7; have hT7' := hT7
  try simp only [bs] at hT7'
  refine zz3 hT7 (zz2 (off := 3) (ft := 23) rfl ak rfl ae) ?_
  have hst0 : a.st ≠ 0 := fun q => by rw [q] at hT7'; exact absurd hT7' (by decide)
  refine zz3 hT7 (aG rfl am) ?_
  refine zz3 hT7 (zz2 (off := 2) (ft := 23) rfl ak rfl ae) ?_
  refine zz3 hT7 (aG rfl am) ?_
  refine zz3 hT7 (eU rfl rfl) ?_
  refine zz3 hT7 (zz2 (off := 4) (ft := 23) rfl ak rfl ae) ?_
  refine zz3 hT7 (aG rfl am) ?_
  refine zz3 hT7 (lr rfl rfl (by first | decide | assumption)) ?_
  refine zz3 hT7 (dO (n := 0) rfl rfl) ?_
  refine zz0 (aK rfl hT7 rfl) ?_
  refine ax (ac ?_)
  exact az (Sub.cons rfl (zz6 10 rfl))
 ·intro hF7
  refine zz4 hF7 (zz4 hF7 (zz4 hF7 (zz4 hF7 (zz4 hF7 (zz4 hF7 (zz4 hF7 (zz4 hF7 (zz4 hF7 (zz0 (aL rfl hF7 rfl) ?_)))))))))
  refine ax (ac ?_)
  exact az (Sub.cons rfl (zz6 10 rfl))
 refine zz0 (aa rfl) ?_
 apply bQ
 ·exact (rfl : _ = (14, 46, 60))
 ·exact rfl
 ·intro hT8; have hT8' := hT8
  try simp only [bs] at hT8'
  refine zz3 hT8 (zz2 (off := 2) (ft := 23) rfl ak rfl ae) ?_
  refine zz3 hT8 (aG rfl am) ?_
  refine zz3 hT8 (ij (n := 0) rfl rfl) ?_
  refine zz3 hT8 (aa rfl) ?_
  apply cw
  ·exact (rfl : _ = (4, 50, 54))
  ·exact rfl
  ·intro hF9; have hF9' := hF9
   try simp only [bs] at hF9'
   refine zz3 hF9 (zz2 (off := 3) (ft := 23) rfl ak rfl ae) ?_
   refine zz3 hF9 (aG rfl am) ?_
   refine zz3 hF9 (ij (n := 4294967295) rfl rfl) ?_
   refine zz3 hT8 (aL rfl hF9 rfl) ?_
   refine ax (ac ?_)
   exact az (Sub.cons rfl (zz6 4 rfl))
  ·intro hT9
   refine zz4 hT9 (zz4 hT9 (zz4 hT9 (zz3 hT8 (aK rfl hT9 rfl) ?_)))
   refine ax (ac ?_)
   exact az (Sub.cons rfl (zz6 4 rfl))
  refine zz3 hT8 (aa rfl) ?_
  apply cw
  ·exact (rfl : _ = (4, 55, 59))
  ·exact rfl
  ·intro hF10; have hF10' := hF10
   try simp only [bs] at hF10'
   refine zz3 hF10 (zz2 (off := 4) (ft := 23) rfl ak rfl ae) ?_
   refine zz3 hF10 (aG rfl am) ?_
   refine zz3 hF10 (ij (n := 1) rfl rfl) ?_
   refine zz3 hT8 (aL rfl hF10 rfl) ?_
   refine ax (ac ?_)
   exact az (Sub.cons rfl (zz6 4 rfl))
  ·intro hT10
   refine zz4 hT10 (zz4 hT10 (zz4 hT10 (zz3 hT8 (aK rfl hT10 rfl) ?_)))
   refine ax (ac ?_)
   exact az (Sub.cons rfl (zz6 4 rfl))
  refine zz0 (aK rfl hT8 rfl) ?_
  refine ax (ac ?_)
  exact az (Sub.cons rfl (zz6 8 rfl))
 ·intro hF8
  refine zz4 hF8 (zz4 hF8 (zz4 hF8 (zz4 hF8 (eX ?_))))
  refine eX ?_
  refine eX ?_
  refine zz4 hF8 (zz4 hF8 (eX ?_))
  refine eX ?_
  refine eX ?_
  refine zz4 hF8 (zz0 (aL rfl hF8 rfl) ?_)
  refine ax (ac ?_)
  exact az (Sub.cons rfl (zz6 14 rfl))
 refine zz0 (ab rfl) (ad (aC ?_))
 refine aO Tryz.results62 rfl (fun w' hw => ?_)
 exact ⟨by rw [E5 hq1 (by rw [UInt32.not_le] at hq2; exact hq2)]; simp [Bool.and_assoc], hw.b0⟩
theorem vf (a : VSet) (w : World) :
  Cr Tryz.prog 123 #[.agg (bR.enc a).toArray] w (.agg (bR.enc (aX a)).toArray) := by
 refine enter Tryz.func123 rfl Tryz.ntmps123 rfl ?_
 refine ah ?_
 refine dq rfl rfl (fun b1 => ?_)
 refine dB cB rfl (fun b2 => ?_)
 refine ad (an (ah (zz0 (bC rfl aN aj) ?_)))
 refine zz0 (aD rfl Tryz.call62 (fun w hw => wT a w)) ?_
 refine zz0 (cp rfl) (ad ?_)
 refine ao rfl ?_ ?_ <;> intro h3 <;> try simp only [bs] at h3
 ·refine ah (zz0 (aD rfl Tryz.call120 (fun w hw => CX w)) ?_)
  refine aF bR rfl rfl aj ?_
  refine ad (aC (aA ?_))
  refine eM Tryz.results123 rfl aN aj (fun w' hw => ?_)
  refine ⟨?_, hw.b0⟩
  unfold aX
  repeat' (first | rfl | (exfalso; first | (simp_all; done) | grind) | split)
 refine cT (zz0 (bC rfl aN aj) ?_)
 refine aF bR rfl rfl aj ?_
 refine ad (aC ?_)
 refine eM Tryz.results123 rfl aN aj (fun w' hw => ?_)
 refine ⟨?_, hw.b0⟩
 unfold aX
 repeat' (first | rfl | (exfalso; first | (simp_all; done) | grind) | split)
theorem za (a : VSet) (n : UInt32) (w : World) :
  Cr Tryz.prog 122 #[.agg (bR.enc a).toArray, .int .u32 n.toNat] w (.bool (oS a n)) := by
 refine enter Tryz.func122 rfl Tryz.ntmps122 rfl ?_
 refine ah ?_
 refine dq rfl rfl (fun b1 => ?_)
 refine zz0 (ab rfl) (aM (zz0 (bC rfl aN aj) ?_))
 refine zz0 (aD rfl Tryz.call123 (fun w hw => vf a w)) ?_
 refine aF bR rfl rfl aj ?_
 refine ad (an (ah (zz0 (zz2 (off := 1) (ft := 4) rfl ak rfl bN) ?_)))
 refine zz0 (aG rfl cm) ?_
 refine zz0 (aa rfl) ?_
 apply cw
 ·exact (rfl : _ = (3, 9, 12))
 ·exact rfl
 ·intro hF2; have hF2' := hF2
  try simp only [bs] at hF2'
  refine zz3 hF2 (zz2 (off := 0) (ft := 4) rfl ak rfl bN) ?_
  refine zz3 hF2 (aG rfl cm) ?_
  refine zz0 (aL rfl hF2 rfl) ?_
  refine ax (ac ?_)
  exact az (Sub.cons rfl (zz6 3 rfl))
 ·intro hT2
  refine zz4 hT2 (zz4 hT2 (zz0 (aK rfl hT2 rfl) ?_))
  refine ax (ac ?_)
  exact az (Sub.cons rfl (zz6 3 rfl))
 refine ad ?_
 refine ao rfl ?_ ?_ <;> intro h3 <;> try simp only [bs] at h3
 ·have hq1 := h3
  refine ah (zz0 (zz2 (off := 1) (ft := 4) rfl ak rfl bN) ?_)
  refine zz0 (aG rfl cm) ?_
  refine zz0 (ab rfl) (ad (aC (aA ?_)))
  refine aO nG rfl (fun w' hw => ?_)
  exact ⟨by rw [Je hq1], hw.b0⟩
 have hq1 : ¬((aX a).top = true ∨ (aX a).em = true) := fun q => by have := h3; rcases q with q | q <;> simp_all
 refine bA (an (ah (zz0 (aa rfl) (zz0 (zz2 (off := 2) (ft := 23) rfl ak rfl ae) ?_))))
 refine zz0 (aG rfl am) ?_
 refine zz0 (iH rfl rfl) ?_
 refine zz0 (aa rfl) ?_
 apply cw
 ·exact (rfl : _ = (5, 19, 24))
 ·exact rfl
 ·intro hF4; have hF4' := hF4
  try simp only [bs] at hF4'
  refine zz3 hF4 (aa rfl) (zz3 hF4 (zz2 (off := 3) (ft := 23) rfl ak rfl ae) ?_)
  refine zz3 hF4 (aG rfl am) ?_
  refine zz3 hF4 (jY rfl rfl) ?_
  refine zz0 (aL rfl hF4 rfl) ?_
  refine ax (ac ?_)
  exact az (Sub.cons rfl (zz6 5 rfl))
 ·intro hT4
  refine zz4 hT4 (zz4 hT4 (zz4 hT4 (zz4 hT4 (zz0 (aK rfl hT4 rfl) ?_))))
  refine ax (ac ?_)
  exact az (Sub.cons rfl (zz6 5 rfl))
 refine ad ?_
 refine ao rfl ?_ ?_ <;> intro h5 <;> try simp only [bs] at h5
 ·have hq2 := h5
  refine ah (zz0 (ab rfl) (ad (aC (aA ?_))))
  refine aO nG rfl (fun w' hw => ?_)
  exact ⟨by rw [Jd hq1 hq2], hw.b0⟩
 have hq2 : ¬(n < (aX a).lo ∨ (aX a).hi < n) := fun q => by have := h5; rcases q with q | q <;> simp_all
 refine cT (zz0 (zz2 (off := 4) (ft := 23) rfl ak rfl ae) ?_)
 refine zz0 (aG rfl am) ?_
 refine zz0 (dO (n := 0) rfl rfl) ?_
 refine zz0 (aa rfl) ?_
 apply cw
 ·exact (rfl : _ = (9, 28, 37))
 ·exact rfl
 ·intro hF6; have hF6' := hF6
  try simp only [bs] at hF6'
  refine zz3 hF6 (aa rfl) (zz3 hF6 (zz2 (off := 2) (ft := 23) rfl ak rfl ae) ?_)
  refine zz3 hF6 (aG rfl am) ?_
  refine zz3 hF6 (eU rfl rfl) ?_
  refine zz3 hF6 (zz2 (off := 4) (ft := 23) rfl ak rfl ae) ?_
  refine zz3 hF6 (aG rfl am) ?_
  refine zz3 hF6 (lr rfl rfl (by first | decide | assumption)) ?_
  refine zz3 hF6 (dO (n := 0) rfl rfl) ?_
  refine zz0 (aL rfl hF6 rfl) ?_
  refine ax (ac ?_)
  exact az (Sub.cons rfl (zz6 9 rfl))
 ·intro hT6
  refine zz4 hT6 (zz4 hT6 (zz4 hT6 (zz4 hT6 (zz4 hT6 (zz4 hT6 (zz4 hT6 (zz4 hT6 (zz0 (aK rfl hT6 rfl) ?_))))))))
  refine ax (ac ?_)
  exact az (Sub.cons rfl (zz6 9 rfl))
 refine zz0 (ab rfl) (ad (aC ?_))
 refine aO nG rfl (fun w' hw => ?_)
 exact ⟨by rw [Jc hq1 (by rw [← UInt32.not_lt]; exact fun q => hq2 (.inl q)) (by rw [← UInt32.not_lt]; exact fun q => hq2 (.inr q))], hw.b0⟩
theorem xK (a : VSet) (w : World) :
  Cr Tryz.prog 124 #[.agg (bR.enc a).toArray] w (.int .i64 (dM a)) := by
 have hd := ((aX a).hi - (aX a).lo).toNat_lt
 have hq : (((aX a).hi - (aX a).lo) / (aX a).st).toNat ≤ ((aX a).hi - (aX a).lo).toNat := by rw [UInt32.toNat_div]; exact Nat.div_le_self _ _
 refine enter Tryz.func124 rfl Tryz.ntmps124 rfl ?_
 refine ah ?_
 refine dq rfl rfl (fun b1 => ?_)
 refine zz0 (ab rfl) (aM (zz0 (bC rfl aN aj) ?_))
 refine zz0 (aD rfl Tryz.call123 (fun w hw => vf a w)) ?_
 refine aF bR rfl rfl aj ?_
 refine ad (an (ah (zz0 (zz2 (off := 1) (ft := 4) rfl ak rfl bN) ?_)))
 refine zz0 (aG rfl cm) ?_
 refine ad ?_
 refine ao rfl ?_ ?_ <;> intro h2 <;> try simp only [bs] at h2
 ·refine ah (zz0 (ab rfl) (ad (aC (aA ?_))))
  refine aO kY rfl (fun w' hw => ?_)
  refine ⟨?_, hw.b0⟩
  unfold dM jy
  repeat' (first | rfl | (exfalso; first | (simp_all; done) | grind) | split)
 refine bA (an (ah (zz0 (zz2 (off := 0) (ft := 4) rfl ak rfl bN) ?_)))
 refine zz0 (aG rfl cm) ?_
 refine ad ?_
 refine ao rfl ?_ ?_ <;> intro h3 <;> try simp only [bs] at h3
 ·refine ah (zz0 (ab rfl) (ad (aC (aA ?_))))
  refine aO kY rfl (fun w' hw => ?_)
  refine ⟨?_, hw.b0⟩
  unfold dM jy
  repeat' (first | rfl | (exfalso; first | (simp_all; done) | grind) | split)
 refine bA (an (ah (zz0 (zz2 (off := 4) (ft := 23) rfl ak rfl ae) ?_)))
 refine zz0 (aG rfl am) ?_
 refine zz0 (dO (n := 0) rfl rfl) ?_
 refine ad ?_
 refine ao rfl ?_ ?_ <;> intro h4 <;> try simp only [bs] at h4
 ·refine ah (zz0 (ab rfl) (ad (aC (aA ?_))))
  refine aO kY rfl (fun w' hw => ?_)
  refine ⟨?_, hw.b0⟩
  unfold dM jy
  repeat' (first | rfl | (exfalso; first | (simp_all; done) | grind) | split)
 refine cT (zz0 (zz2 (off := 3) (ft := 23) rfl ak rfl ae) ?_)
 refine zz0 (aG rfl am) ?_
 refine zz0 (zz2 (off := 2) (ft := 23) rfl ak rfl ae) ?_
 refine zz0 (aG rfl am) ?_
 refine zz0 (eU rfl rfl) ?_
 refine zz0 (zz2 (off := 4) (ft := 23) rfl ak rfl ae) ?_
 refine zz0 (aG rfl am) ?_
 refine zz0 (Bv rfl rfl (by first | decide | assumption)) ?_
 refine zz0 (fO rfl aP aZ) (zz0 (cE rfl rfl) ?_)
 refine zz0 (ab rfl) (ad (aC ?_))
 refine aO kY rfl (fun w' hw => ?_)
 refine ⟨?_, hw.b0⟩
 unfold dM jy
 repeat' (first | rfl | (exfalso; first | (simp_all; done) | grind) | split)
theorem Ge (a : VSet) (w : World) (hc : dM a ≤ 64) :
  Calls Tryz.prog 125 #[.agg (bR.enc a).toArray] w (fun e w' => ∃ V', e = .returned V' ∧ Ext w w' ∧ iu w w' 23 au (qK a) V') := by
 have hcr := EE a
 refine enter Tryz.func125 rfl Tryz.ntmps125 rfl ?_
 refine ah ?_
 refine dq rfl rfl (fun b1 => ?_)
 refine zz0 (ab rfl) (aM (zz0 (ab rfl) (aM (zz0 (bC rfl aN aj) ?_))))
 refine zz0 (aD rfl Tryz.call124 (fun w hw => xK a w)) ?_
 refine zz0 (ab rfl) (ad (an (ah (zz0 (ab rfl) (ad (aH (cn 23 au ?_)))))))
 refine bK (ι := Nat × Value) (fun ⟨k, V'⟩ => (k : Int) ≤ dM a) (fun _ => _) (fun ⟨k, V'⟩ => [rowE V' 23 au (elK a k), cellE b1 (bR.enc a) 25]) (fun ⟨k, V'⟩ => [(5, .int .i64 (k : Nat)), (3, V')]) (fun ⟨k, V'⟩ => (dM a).toNat - k) (0, _) (by show ((0 : Nat) : Int) ≤ _; omega) (Front.c (Front.c Front.nil)) (by repeat' constructor) rfl (fun i hi m hm => ?_)
 obtain ⟨k, V'⟩ := i
 replace hi : (k : Int) ≤ dM a := hi
 replace hm : m = (dM a).toNat - k := hm
 change Tr _ _ [rowE V' 23 au (elK a k), cellE b1 (bR.enc a) 25] ([(5, .int .i64 (k : Nat)), (3, V')] ++ _) _
 have hel : (elK a k).length = k := yX a k
 refine an (ah (zz0 (aa rfl) (zz0 (aa rfl) (zz0 (bT rfl rfl) (ad ?_)))))
 refine ao rfl ?_ ?_ <;> intro h2 <;> try simp only [bs] at h2
 ·refine bA (an (aH (ar (zz0 (aa rfl) (zz0 (zz2 (off := 2) (ft := 23) rfl ak rfl ae) ?_)))))
  refine zz0 (aG rfl am) ?_
  refine zz0 (aa rfl) (zz0 (ir rfl aZ aP) (zz0 (zz2 (off := 4) (ft := 23) rfl ak rfl ae) ?_))
  refine zz0 (aG rfl am) ?_
  refine zz0 (lu rfl rfl) ?_
  refine zz0 (fN rfl rfl) ?_
  refine jl (E := au) (a.lo + u32 (k : Int) * a.st) rfl rfl al ae cX (fun V3 => ?_)
  refine zz1 rfl rfl al eN (fun V4 => ?_)
  refine zz0 (ab rfl) (ax (aY (ac (ar (zz0 (aa rfl) (zz0 (cE rfl rfl) ?_))))))
  refine zz0 (ab rfl) (ad ?_)
  rw [← A0]
  refine cF (k + 1, _) (Front.c (Front.c Front.nil)) (bD 20 rfl) (o := (by show ((k + 1 : Nat) : Int) ≤ _; omega))
 refine bF (aI (aI (bv (ac (ah (zz0 (aa rfl) (zz0 (ab rfl) (ad (aC ?_)))))))))
 refine aO Tryz.results125 rfl (fun w' hw => ?_)
 exact ⟨_, rfl, hw.b0, by unfold qK; rw [show (dM a).toNat = k by omega]; exact hw.new (.head _)⟩
theorem yW (a : VSet) (w : World) :
  Calls Tryz.prog 64 #[.agg (bR.enc a).toArray] w (fun e w' => ∃ V', e = .returned (.tuple #[V', .int .i64 (dF a).2]) ∧ Ext w w' ∧ iu w w' 23 au (dF a).1 V') := by
 refine enter Tryz.func64 rfl Tryz.ntmps64 rfl ?_
 refine ah ?_
 refine dq rfl rfl (fun b1 => ?_)
 refine zz0 (ab rfl) (zz0 (ab rfl) (aM (zz0 (bC rfl aN aj) ?_)))
 refine zz0 (aD rfl Tryz.call123 (fun w hw => vf a w)) ?_
 refine aF bR rfl rfl aj ?_
 refine ad (an (ah (zz0 (bC rfl aN aj) ?_)))
 refine zz0 (aD rfl Tryz.call124 (fun w hw => by have q := xK (aX a) w; rw [tZ] at q; exact q)) ?_
 refine zz0 (eo rfl rfl) (ad ?_)
 refine ao rfl ?_ ?_ <;> intro h2 <;> try simp only [bs] at h2
 ·refine ah (zz0 (ab rfl) (zz0 (ab rfl) (ad (aC (aA ?_)))))
  refine cN Tryz.results64 rfl rfl (fun w' hw => ?_)
  have e : dF a = ([], 6) := by unfold dF; rw [if_pos (by omega)]
  exact ⟨_, by rw [e], hw.b0, by rw [e]; exact dH rfl⟩
 refine cT (zz0 (bC rfl aN aj) ?_)
 refine fh (fun V => V) rfl Tryz.call125 (fun w hw => Ge (aX a) w (by rw [tZ]; omega)) rfl (fun V3 => ?_)
 refine zz0 (ab rfl) (zz0 (ab rfl) (ad (aC ?_)))
 refine cN Tryz.results64 rfl rfl (fun w' hw => ?_)
 have e : dF a = (qK (aX a), 0) := by unfold dF; rw [if_neg (by omega)]
 exact ⟨_, by rw [e], hw.b0, by rw [e]; exact hw.new (by repeat constructor)⟩
theorem vF (op : Int) (w : World) :
  Cr Tryz.prog 89 #[.int .i64 op] w (.bool (ti op)) := by
 refine enter Tryz.func89 rfl Tryz.ntmps89 rfl ?_
 refine ah (zz0 (ab rfl) (aM (zz0 (aa rfl) (zz0 (bh rfl rfl) (zz0 (aa rfl) ?_)))))
 apply cw
 ·exact (rfl : _ = (3, 5, 8))
 ·exact rfl
 ·intro hF1; have hF1' := hF1
  try simp only [bs] at hF1'
  refine zz3 hF1 (aa rfl) (zz3 hF1 (bh rfl rfl) (zz0 (aL rfl hF1 rfl) ?_))
  refine ax (ac ?_)
  exact az (Sub.cons rfl (zz6 3 rfl))
 ·intro hT1
  refine zz4 hT1 (zz4 hT1 (zz0 (aK rfl hT1 rfl) ?_))
  refine ax (ac ?_)
  exact az (Sub.cons rfl (zz6 3 rfl))
 refine zz0 (aa rfl) ?_
 apply cw
 ·exact (rfl : _ = (3, 9, 12))
 ·exact rfl
 ·intro hF2; have hF2' := hF2
  try simp only [bs] at hF2'
  refine zz3 hF2 (aa rfl) (zz3 hF2 (bh rfl rfl) (zz0 (aL rfl hF2 rfl) ?_))
  refine ax (ac ?_)
  exact az (Sub.cons rfl (zz6 3 rfl))
 ·intro hT2
  refine zz4 hT2 (zz4 hT2 (zz0 (aK rfl hT2 rfl) ?_))
  refine ax (ac ?_)
  exact az (Sub.cons rfl (zz6 3 rfl))
 refine zz0 (ab rfl) (ad (aC ?_))
 refine aO Tryz.results89 rfl (fun w' hw => ?_)
 exact ⟨by unfold ti; congr 2; rw [Bool.eq_iff_iff]; simp [or_assoc], hw.b0⟩
theorem Et (i : Ins) (w : World) (hI : InsOK i) :
  Cr Tryz.prog 31 #[.agg (aT.enc i).toArray] w (.bool (qT i)) := by
 refine enter Tryz.func31 rfl Tryz.ntmps31 rfl ?_
 refine ah ?_
 refine dq rfl rfl (fun b1 => ?_)
 refine zz0 (ab rfl) (aM (zz0 (bC rfl aS ay) ?_))
 refine zz0 (aD rfl Tryz.call88 (fun w hw => by have q := yx i w; rw [If] at q; exact q)) ?_
 refine zz0 (aa rfl) ?_
 apply bQ
 ·exact (rfl : _ = (4, 5, 9))
 ·exact rfl
 ·intro hT2; have hT2' := hT2
  try simp only [bs] at hT2'
  refine zz3 hT2 (zz2 (off := 2) (ft := 3) rfl af rfl aB) ?_
  refine zz3 hT2 (aG rfl aJ) ?_
  refine zz3 hT2 (aD rfl Tryz.call89 (fun w hw => vF i.op w)) ?_
  refine zz0 (aK rfl hT2 rfl) ?_
  refine ax (ac ?_)
  exact az (Sub.cons rfl (zz6 4 rfl))
 ·intro hF2
  refine zz4 hF2 (zz4 hF2 (zz4 hF2 (zz0 (aL rfl hF2 rfl) ?_)))
  refine ax (ac ?_)
  exact az (Sub.cons rfl (zz6 4 rfl))
 refine zz0 (ab rfl) (ad (aC ?_))
 refine aO Tryz.results31 rfl (fun w' hw => ?_)
 exact ⟨rfl, hw.b0⟩
theorem DV (l : List SecV) (V : Value) (i : Ins) (s : VSet) (w : World) (hV : Sl (hp w) cY l V) (hB : SecB l) (hD : DataIn (hp w) l) :
  Calls Tryz.prog 63 #[V, .agg (aT.enc i).toArray, .agg (bR.enc s).toArray] w (fun e w' => ∃ V', e = .returned (.tuple #[V', .int .i64 (uT l i.imm s).2]) ∧ Ext w w' ∧ iu w w' 23 au (uT l i.imm s).1 V') := by
 have hV' : Sl (Bg.of w).blk cY l V := hV
 have hD' : DataIn (Bg.of w).blk l := hD
 refine enter Tryz.func63 rfl Tryz.ntmps63 rfl ?_
 refine ah ?_
 refine dq rfl rfl (fun b1 => ?_)
 refine dq rfl rfl (fun b2 => ?_)
 refine zz0 (ab rfl) (zz0 (ab rfl) (ad (an (ah (zz0 (zz2 (off := 3) (ft := 23) rfl ak rfl ae) ?_)))))
 refine zz0 (aG rfl am) ?_
 refine zz0 (ky (n := 64) rfl rfl) ?_
 refine ad ?_
 refine ao rfl ?_ ?_ <;> intro h3 <;> try simp only [bs] at h3
 ·have hq4 : 64 ≤ s.hi := h3
  refine ah (zz0 (ab rfl) (zz0 (ab rfl) (ad (aC (aA ?_)))))
  refine cN Tryz.results63 rfl rfl (fun w' hw => ?_)
  have e : uT l i.imm s = ([], 19) := by unfold uT; rw [if_pos hq4]
  exact ⟨_, by rw [e], hw.b0, by rw [e]; exact dH rfl⟩
 have hq4 : s.hi < 64 := by have := h3; rw [UInt32.not_le] at this; exact this
 refine cT (zz0 (ab rfl) (ad (an (ah (zz0 (ab rfl) (ad (aH ?_)))))))
 refine cn 23 au ?_
 refine bK (ι := Nat × List UInt32 × Value) (fun ⟨j, out, Vo⟩ => j ≤ s.hi.toNat + 1 ∧ nf l i.imm s j = some out) (fun _ => _) (fun ⟨j, out, Vo⟩ => [rowE Vo 23 au out, cellE b2 (bR.enc s) 25, cellE b1 (aT.enc i) 36]) (fun ⟨j, out, Vo⟩ => [(9, .int .u32 (u32 (j : Int)).toNat), (8, Vo)]) (fun ⟨j, out, Vo⟩ => 65 - j) (0, [], _) ⟨Nat.zero_le _, rfl⟩ (Front.c (Front.c Front.nil)) (by repeat' constructor) rfl (fun i hi m hm => ?_)
 obtain ⟨j, out, Vo⟩ := i
 replace hi : j ≤ s.hi.toNat + 1 ∧ nf l i.imm s j = some out := hi
 replace hm : m = 65 - j := hm
 change Tr _ _ [rowE Vo 23 au out, cellE b2 (bR.enc s) 25, cellE b1 (aT.enc i) 36] ([(9, .int .u32 (u32 (j : Int)).toNat), (8, Vo)] ++ _) _
 obtain ⟨hj, hto⟩ := hi
 have hol := rB hto
 have h64 : s.hi.toNat < 64 := by rw [UInt32.lt_iff_toNat_lt] at hq4; exact hq4
 refine an (ah (zz0 (aa rfl) (zz0 (zz2 (off := 3) (ft := 23) rfl ak rfl ae) ?_)))
 refine zz0 (aG rfl am) ?_
 refine zz0 (om rfl rfl) ?_
 refine ad ?_
 refine ao rfl ?_ ?_ <;> intro h4 <;> try simp only [bs] at h4
 ·have hq5 := h4
  refine bA (an (aH (an ?_)))
  have hju := qC (x := (j : Int)) (by omega)
  rw [UInt32.le_iff_toNat_le] at hq5
  refine ar (zz0 (aa rfl) (zz0 (ab rfl) (ad ?_)))
  refine dj (ι := UInt32) (fun k1 => k1 = sM s (u32 (j : Int))) (fun _ => Bg.of w) (fun k1 => [rowE Vo 23 au out, cellE b2 (bR.enc s) 25, cellE b1 (aT.enc i) 36]) (fun k1 => [(10, .int .u32 k1.toNat)]) ?_ (fun k1 hi => ?_)
  ·skip
   refine ah (zz0 (bC rfl aN aj) ?_)
   refine zz0 (aa rfl) (zz0 (aD rfl Tryz.call122 (fun w hw => za s _ w)) ?_)
   refine zz0 (cp rfl) (ad ?_)
   refine ao rfl ?_ ?_ <;> intro h5 <;> try simp only [bs] at h5
   ·refine ar (zz0 (zz2 (off := 2) (ft := 23) rfl ak rfl ae) ?_)
    refine zz0 (aG rfl am) ?_
    refine zz0 (ab rfl) (ad ?_)
    refine cD _ (Front.c Front.nil) (bD 7 rfl) (o := (by show _ = _; unfold sM; rw [if_neg (by simp_all)]))
   refine bA ?_
   refine cD _ (Front.c Front.nil) (bD 4 rfl) (o := (by show _ = _; unfold sM; rw [if_pos (by simp_all)]))
  skip
  replace hi : k1 = sM s (u32 (j : Int)) := hi
  change Tr _ _ [rowE Vo 23 au out, cellE b2 (bR.enc s) 25, cellE b1 (aT.enc i) 36] ([(10, .int .u32 k1.toNat)] ++ _) _
  refine ah (zz0 (aa rfl) (zz0 (zz2 (off := 1) (ft := 23) rfl af rfl ae) ?_))
  refine zz0 (aG rfl am) ?_
  refine zz0 (aa rfl) (zz0 (lu (m := 4) rfl rfl) ?_)
  refine zz0 (fN rfl rfl) ?_
  refine zz0 (aD rfl Tryz.call66 (fun w hw => EX l V (i.imm + 4 * k1) w (hw.slF hV') hB (hD'.mono hw.bg))) ?_
  refine zz0 (aa rfl) (zz0 (aQ rfl rfl) (zz0 (aQ rfl rfl) (zz0 (ab rfl) (zz0 (ab rfl) (ad (an (ah (zz0 (aa rfl) (zz0 (cp rfl) (zz0 (aa rfl) ?_))))))))))
  apply cw
  ·exact (rfl : _ = (5, 41, 46))
  ·exact rfl
  ·intro hF6; have hF6' := hF6
   try simp only [bs] at hF6'
   refine zz3 hF6 (aa rfl) (zz3 hF6 (aa rfl) (zz3 hF6 (aD rfl Tryz.call65 (fun w hw => rY l V (k7 l (i.imm + 4 * k1)).1 w (hw.slF hV') hB)) ?_))
   refine zz3 hF6 (cp rfl) (zz0 (aL rfl hF6 rfl) ?_)
   refine ax (ac ?_)
   exact az (Sub.cons rfl (zz6 5 rfl))
  ·intro hT6
   refine zz4 hT6 (zz4 hT6 (zz4 hT6 (zz4 hT6 (zz0 (aK rfl hT6 rfl) ?_))))
   refine ax (ac ?_)
   exact az (Sub.cons rfl (zz6 5 rfl))
  refine ad ?_
  refine ao rfl ?_ ?_ <;> intro h7 <;> try simp only [bs] at h7
  ·have hq7 : (iN l i.imm k1).2 = false := by unfold iN; simp only [Bool.and_eq_false_iff]; exact h7
   refine ah (zz0 (ab rfl) (zz0 (ab rfl) (ad (aC (aA (bj (aA (aA (bj (aA ?_))))))))))
   refine cN Tryz.results63 rfl rfl (fun w' hw => ?_)
   have htn := wX (CY hto (by rw [← hi]; exact hq7)) (s.hi.toNat + 1) (by omega)
   have e : uT l i.imm s = ([], 19) := by unfold uT; rw [if_neg (by rw [UInt32.not_le]; exact hq4), htn]
   exact ⟨_, by rw [e], hw.b0, by rw [e]; exact dH rfl⟩
  have hq7 : (iN l i.imm k1).2 = true := by unfold iN; simp only [Bool.and_eq_true]; have := h7; simp_all
  refine bA (ar (zz0 (aa rfl) (zz0 (aa rfl) ?_)))
  refine jl (E := au) (k7 l (i.imm + 4 * k1)).1 rfl rfl al ae cX (fun V8 => ?_)
  refine zz1 rfl rfl al eN (fun V9 => ?_)
  refine zz0 (ab rfl) (ax (aY (ac (ar (zz0 (aa rfl) (zz0 (fN (n := 1) rfl rfl) ?_))))))
  refine zz0 (ab rfl) (ad ?_)
  rw [zJ (by omega)]
  refine cF (j + 1, out ++ [(iN l i.imm k1).1], _) (Front.c (Front.c Front.nil)) (bD 33 rfl) (o := ⟨by omega, by rw [hi]; exact zR hto (by rw [← hi]; exact hq7)⟩)
 have hq5 := h4
 refine bF (aI (aI (bv (ac (an ?_)))))
 have hhs := yR hq4
 have hju := qC (x := (j : Int)) (by omega)
 have hjj : j = s.hi.toNat + 1 := by rw [UInt32.not_le, UInt32.lt_iff_toNat_lt] at hq5; omega
 subst hjj
 refine ar (zz0 (aa rfl) (zz0 (ab rfl) (zz0 (ab rfl) (ad (aC ?_)))))
 refine cN Tryz.results63 rfl rfl (fun w' hw => ?_)
 have e : uT l i.imm s = (out, 0) := by unfold uT; rw [if_neg (by rw [UInt32.not_le]; exact hq4), hto]
 exact ⟨Vo, by rw [e], hw.b0, by rw [e]; exact hw.new (by repeat constructor)⟩
theorem zO (l : List SecV) (V : Value) (i : Ins) (s : StV) (w : World) (hV : Sl (hp w) cY l V) (hB : SecB l) (hD : DataIn (hp w) l) (hN : ∀ s ∈ l, s.name.size ≤ 140737488351232) (hI : InsOK i) :
  Calls Tryz.prog 21 #[V, .agg (aT.enc i).toArray, .agg (cO.enc s).toArray] w (fun e w' => ∃ V' : Value, e = .returned (.tuple #[V', .int .i64 (co l i (s.get i.a)).2]) ∧ Ext w w' ∧ iu w w' 23 au (co l i (s.get i.a)).1 V') := by
 have hV' : Sl (Bg.of w).blk cY l V := hV
 have hD' : DataIn (Bg.of w).blk l := hD
 refine enter Tryz.func21 rfl Tryz.ntmps21 rfl ?_
 refine ah ?_
 refine dq rfl rfl (fun b1 => ?_)
 refine dq rfl rfl (fun b2 => ?_)
 refine zz0 (ab rfl) (zz0 (ab rfl) (ad (an (ah (zz0 (bC rfl aS ay) ?_)))))
 refine zz0 (aD rfl Tryz.call31 (fun w hw => Et i w hI)) ?_
 refine zz0 (cp rfl) (ad ?_)
 refine ao rfl ?_ ?_ <;> intro h3 <;> try simp only [bs] at h3
 ·have hq1 : qT i = false := h3
  refine ah (zz0 (ab rfl) (zz0 (ab rfl) (ad (aC (aA ?_)))))
  refine cN iS rfl rfl (fun w' hw => ?_)
  have e : co l i (s.get i.a) = ([], 2) := by
   unfold co
   rw [if_pos hq1]
  exact ⟨.slice none 0 0, by rw [e], hw.b0, by rw [e]; exact dH rfl⟩
 have hq1 : qT i = true := by simpa using h3
 refine cT (zz0 (aa rfl) (zz0 (aD rfl Tryz.call61 (fun w hw => ww l V w (hw.slF hV') hB (fun s hs => by have := hN s hs; omega))) ?_))
 refine zz0 (ab rfl) (ad (an (ah (zz0 (aa rfl) (zz0 (ff rfl rfl) (ad ?_))))))
 refine ao rfl ?_ ?_ <;> intro h4 <;> try simp only [bs] at h4
 ·have hq2 : gh l ≠ 0 := h4
  refine ah (zz0 (aa rfl) (zz0 (ab rfl) (zz0 (ab rfl) (ad (aC (aA ?_))))))
  refine cN iS rfl rfl (fun w' hw => ?_)
  have e : co l i (s.get i.a) = ([], gh l) := by
   unfold co
   rw [if_neg (by rw [hq1]; simp)]
   rw [if_pos hq2]
  exact ⟨.slice none 0 0, by rw [e], hw.b0, by rw [e]; exact dH rfl⟩
 have hq2 : gh l = 0 := by simpa using h4
 refine bA (an ?_)
 have hA := nZ (show iC i = 0 by unfold qT at hq1; simp at hq1; exact hq1.1)
 refine ar (zz0 (zz2 (off := 6) (ft := 3) rfl af rfl aB) ?_)
 refine zz0 (aG rfl aJ) ?_
 refine zz0 (zz2 (off := 0) (ft := 26) rfl Tryz.underlying28 rfl dh) ?_
 refine zz0 (dK rfl rfl cx aj (by omega)) ?_
 refine zz0 (gn (vs := bR.enc (s.get i.a)) rfl (by repeat constructor) aN aj (kF ⟨by omega, by omega⟩ (by simp)) rfl) ?_
 obtain ⟨x, hx⟩ : ∃ x, x = s.get i.a := ⟨_, rfl⟩
 rw [← hx]
 refine dB cB rfl (fun b5 => ?_)
 refine aF bR rfl rfl aj ?_
 refine ad (an (ah (zz0 (bC rfl aN aj) ?_)))
 refine zz0 (aD rfl Tryz.call62 (fun w hw => wT x w)) ?_
 refine zz0 (cp rfl) (zz0 (aa rfl) ?_)
 apply cw
 ·exact (rfl : _ = (3, 28, 31))
 ·exact rfl
 ·intro hF6; have hF6' := hF6
  try simp only [bs] at hF6'
  refine zz3 hF6 (zz2 (off := 0) (ft := 4) rfl ak rfl bN) ?_
  refine zz3 hF6 (aG rfl cm) ?_
  refine zz0 (aL rfl hF6 rfl) ?_
  refine ax (ac ?_)
  exact az (Sub.cons rfl (zz6 3 rfl))
 ·intro hT6
  refine zz4 hT6 (zz4 hT6 (zz0 (aK rfl hT6 rfl) ?_))
  refine ax (ac ?_)
  exact az (Sub.cons rfl (zz6 3 rfl))
 refine zz0 (aa rfl) ?_
 apply cw
 ·exact (rfl : _ = (3, 32, 35))
 ·exact rfl
 ·intro hF7; have hF7' := hF7
  try simp only [bs] at hF7'
  refine zz3 hF7 (zz2 (off := 1) (ft := 4) rfl ak rfl bN) ?_
  refine zz3 hF7 (aG rfl cm) ?_
  refine zz0 (aL rfl hF7 rfl) ?_
  refine ax (ac ?_)
  exact az (Sub.cons rfl (zz6 3 rfl))
 ·intro hT7
  refine zz4 hT7 (zz4 hT7 (zz0 (aK rfl hT7 rfl) ?_))
  refine ax (ac ?_)
  exact az (Sub.cons rfl (zz6 3 rfl))
 refine ad ?_
 refine ao rfl ?_ ?_ <;> intro h8 <;> try simp only [bs] at h8
 ·have hq3 := h8
  refine ah (zz0 (ab rfl) (zz0 (ab rfl) (ad (aC (aA ?_)))))
  refine cN iS rfl rfl (fun w' hw => ?_)
  have e : co l i x = ([], 19) := by
   unfold co
   rw [if_neg (by rw [hq1]; simp)]
   rw [if_neg (fun q => q hq2)]
   rw [if_pos (by rcases hq3 with (q | q) | q <;> simp_all)]
  exact ⟨.slice none 0 0, by rw [e], hw.b0, by rw [e]; exact dH rfl⟩
 have hq3 := h8
 refine bA (an (ah (zz0 (zz2 (off := 2) (ft := 3) rfl af rfl aB) ?_)))
 refine zz0 (aG rfl aJ) ?_
 refine zz0 (bh rfl rfl) (ad ?_)
 refine ao rfl ?_ ?_ <;> intro h9 <;> try simp only [bs] at h9
 ·have hqo : i.op = 22 := h9
  refine ah (zz0 (aa rfl) (zz0 (bC rfl aS ay) ?_))
  refine zz0 (bC rfl aN aj) ?_
  refine fh (fun V => .tuple #[V, .int .i64 (uT l i.imm x).2]) rfl Tryz.call63 (fun w hw => DV l V i x w (hw.slF hV') hB (hD'.mono hw.bg)) rfl (fun VE => ?_)
  refine zz0 (aQ rfl rfl) (zz0 (aQ rfl rfl) (zz0 (ab rfl) (zz0 (ab rfl) (ad (aC (aA ?_))))))
  refine cN iS rfl rfl (fun w' hw => ?_)
  have e := zN (l := l) hq1 hq2 (show ¬((fG x = false ∨ x.em = true) ∨ x.top = true) from fun q => by rcases q with (q | q) | q <;> simp_all) hqo
  exact ⟨VE, by rw [e]; rfl, hw.b0, by rw [e]; exact hw.new (by repeat constructor)⟩
 have hqo : i.op ≠ 22 := by simpa using h9
 refine cT (zz0 (bC rfl aN aj) ?_)
 refine fh (fun V => .tuple #[V, .int .i64 (dF x).2]) rfl Tryz.call64 (fun w hw => yW x w) rfl (fun VE => ?_)
 refine zz0 (aa rfl) (zz0 (aQ rfl rfl) (zz0 (aQ rfl rfl) (zz0 (ab rfl) (zz0 (ab rfl) (ad (an (ah (zz0 (aa rfl) (zz0 (ff rfl rfl) (zz0 (aa rfl) ?_))))))))))
 apply cw
 ·exact (rfl : _ = (4, 52, 56))
 ·exact rfl
 ·intro hF10; have hF10' := hF10
  try simp only [bs] at hF10'
  refine zz3 hF10 (aa rfl) (zz3 hF10 (lz rfl al) ?_)
  refine zz3 hF10 (eo rfl rfl) (zz0 (aL rfl hF10 rfl) ?_)
  refine ax (ac ?_)
  exact az (Sub.cons rfl (zz6 4 rfl))
 ·intro hT10
  refine zz4 hT10 (zz4 hT10 (zz4 hT10 (zz0 (aK rfl hT10 rfl) ?_)))
  refine ax (ac ?_)
  exact az (Sub.cons rfl (zz6 4 rfl))
 refine ad ?_
 refine ao rfl ?_ ?_ <;> intro h11 <;> try simp only [bs] at h11
 ·have hq6 := h11
  refine ah (zz0 (ab rfl) (zz0 (ab rfl) (ad (aC (aA ?_)))))
  refine cN iS rfl rfl (fun w' hw => ?_)
  have e : co l i x = ([], 19) := by
   unfold co
   rw [if_neg (by rw [hq1]; simp)]
   rw [if_neg (fun q => q hq2)]
   rw [if_neg (show ¬((fG x = false ∨ x.em = true) ∨ x.top = true) from fun q => by rcases q with (q | q) | q <;> simp_all)]
   rw [if_pos hqo, if_pos (by left; intro q; have := tq q; rcases hq6 with h | h; exact h q; omega)]
  exact ⟨.slice none 0 0, by rw [e], hw.b0, by rw [e]; exact dH rfl⟩
 have hq6 := h11
 refine bA (an (ah (zz0 (ab rfl) (ad (aH ?_)))))
 refine bK (ι := Nat) (fun k => k ≤ (dF x).1.length ∧ ((dF x).1.take k).any (fun a => !yn l a) = false) (fun _ => _) (fun k => [rowE VE 23 au (dF x).1, cellE b5 (bR.enc x) 25, cellE b2 (cO.enc s) 28, cellE b1 (aT.enc i) 36]) (fun k => [(11, .int .i64 (k : Nat))]) (fun k => (dF x).1.length - k) 0 ⟨Nat.zero_le _, rfl⟩ (Front.c Front.nil) (by repeat' constructor) rfl (fun k hi m hm => ?_)
 replace hi : k ≤ (dF x).1.length ∧ ((dF x).1.take k).any (fun a => !yn l a) = false := hi
 replace hm : m = (dF x).1.length - k := hm
 change Tr _ _ [rowE VE 23 au (dF x).1, cellE b5 (bR.enc x) 25, cellE b2 (cO.enc s) 28, cellE b1 (aT.enc i) 36] ([(11, .int .i64 (k : Nat))] ++ _) _
 obtain ⟨hk1, hk2⟩ := hi
 refine an (ah (zz0 (aa rfl) (zz0 (aa rfl) (zz0 (lz rfl al) ?_))))
 refine zz0 (bT rfl rfl) (ad ?_)
 refine ao rfl ?_ ?_ <;> intro h12 <;> try simp only [bs] at h12
 ·refine bA (an (aH (ah (zz0 (aa rfl) (zz0 (aa rfl) (zz0 (aa rfl) (zz0 (zz9 rfl rfl al ae) ?_)))))))
  refine zz0 (eh rfl am) ?_
  refine zz0 (aD rfl Tryz.call65 (fun w hw => rY l V ((dF x).1.getD k default) w (hw.slF hV') hB)) ?_
  refine zz0 (cp rfl) (ad ?_)
  refine ao rfl ?_ ?_ <;> intro h13 <;> try simp only [bs] at h13
  ·have hq7 := h13
   refine ah (zz0 (ab rfl) (zz0 (ab rfl) (ad (aC (bj (aA (aA (bj (aA ?_)))))))))
   refine cN iS rfl rfl (fun w' hw => ?_)
   have e : co l i x = ([], 19) := by
    unfold co
    rw [if_neg (by rw [hq1]; simp)]
    rw [if_neg (fun q => q hq2)]
    rw [if_neg (show ¬((fG x = false ∨ x.em = true) ∨ x.top = true) from fun q => by rcases q with (q | q) | q <;> simp_all)]
    rw [if_pos hqo, if_pos (by right; rw [List.any_eq_true]; exact ⟨_, de (l := (dF x).1) (k := k) (by omega), by rw [hq7]; rfl⟩)]
   exact ⟨.slice none 0 0, by rw [e], hw.b0, by rw [e]; exact dH rfl⟩
  have hq7 := h13
  refine cg (aY (ac (ar (zz0 (aa rfl) (zz0 (cE rfl rfl) ?_)))))
  refine zz0 (ab rfl) (ad ?_)
  refine cF (k + 1) (Front.c Front.nil) (bD 15 rfl) (o := ⟨by omega, by rw [any_take_succ (by omega), hk2, Bool.false_or]; simp_all⟩)
 refine bF (aI (aI (bv (ac (ah (zz0 (aa rfl) (zz0 (ab rfl) (zz0 (ab rfl) (ad (aC ?_))))))))))
 refine cN iS rfl rfl (fun w' hw => ?_)
 have hk3 : (dF x).1.any (fun a => !yn l a) = false := by rw [← hk2, List.take_of_length_le (by omega)]
 have e : co l i x = ((dF x).1, 0) := by
  unfold co
  rw [if_neg (by rw [hq1]; simp)]
  rw [if_neg (fun q => q hq2)]
  rw [if_neg (show ¬((fG x = false ∨ x.em = true) ∨ x.top = true) from fun q => by rcases q with (q | q) | q <;> simp_all)]
  rw [if_pos hqo, if_neg (by rw [hk3]; simp_all)]
 exact ⟨VE, by rw [e]; rfl, hw.b0, by rw [e]; exact hw.new (by repeat constructor)⟩
theorem Fh (s : StV) (w : World) :
  Cr Tryz.prog 13 #[.agg (cO.enc s).toArray] w (.agg (cO.enc s).toArray) := by
 refine enter Tryz.func13 rfl Tryz.ntmps13 rfl ?_
 refine ah ?_
 refine dq rfl rfl (fun b1 => ?_)
 refine dB cU rfl (fun b2 => ?_)
 refine aM (zz0 (zz2 (off := 0) (ft := 26) rfl Tryz.underlying28 rfl dh) ?_)
 refine zz0 (yf rfl (by repeat constructor) Tryz.isAgg26 dh (by rfl)) ?_
 refine zz0 (bL (vs := [(0, _)]) rfl rfl (wR _ _ _ _ _ _ _ _ _ _ _ _ _ _ _ _ _ _ _ _ _ _ _ _ _ _ _ _ _ _ _ _ _ _ _ _ _ _ _ _)) ?_
 refine aF cO rfl rfl aV ?_
 refine ad (aC ?_)
 refine eM Tryz.results13 rfl bY aV (fun w' hw => ?_)
 exact ⟨rfl, hw.b0⟩
theorem uU (l : List SecV) (pV : Option Addr) (cV : Nat) (i : Ins) (s : StV) (w : World) (hV : Sl (hp w) cY l (.slice pV l.length cV)) (hD : DataIn (hp w) l) (hz : ∀ s ∈ l, s.data.length ≤ 140737488351232) (hN : ∀ s ∈ l, s.name.size ≤ 140737488351232) (hI : InsOK i) :
  Calls Tryz.prog 5 #[(.slice pV l.length cV), .agg (aT.enc i).toArray, .agg (cO.enc s).toArray] w (fun e w' => e = .returned (.bool true) ∧ Below w.heap.size w w') := by
 have hV' : Sl (Bg.of0 w).blk cY l (.slice pV l.length cV) := hV
 have hD' : DataIn (Bg.of0 w).blk l := hD
 refine mF Tryz.func5 rfl Tryz.ntmps5 rfl ?_
 refine ah ?_
 refine dq rfl rfl (fun b1 => ?_)
 refine dq rfl rfl (fun b2 => ?_)
 refine zz0 (ab rfl) (ad (an (ah (zz0 (aa rfl) (zz0 (aD rfl Tryz.call10 (fun w hw => Fl l (.slice pV l.length cV) w (hw.slF hV') hz)) ?_)))))
 refine zz0 (cp rfl) (ad ?_)
 refine ao rfl ?_ ?_ <;> intro h3 <;> try simp only [bs] at h3
 ·have hq1 := h3
  refine ah (zz0 (BA rfl rfl Tryz.call11 (fun w hw => vO w)) ?_)
  refine zz0 (ab rfl) (ad (aC (aA ?_)))
  refine aO Tryz.results5 rfl (fun w' hw => ?_)
  exact ⟨by simp, hw.below0 (Bg.le.refl _)⟩
 have hq1 : u2 l = true := by simpa using h3
 obtain ⟨hB, hto⟩ := HE hq1
 refine bA (an (dZ ([cellE b2 (cO.enc s) 28, cellE b1 (aT.enc i) 36]) 10 rfl aU ?_))
 refine zz7 0 rfl (aa rfl) ?_
 refine zz7 1 rfl (bC rfl aS ay) ?_
 refine zz7 2 rfl (bC rfl Tryz.isAgg28 Tryz.sizeOf28) ?_
 refine dA [3] (fun iq hq => ?_)
 obtain rfl := List.mem_singleton.1 hq
 refine bJ rfl ?_
 refine zz0 (aD rfl Tryz.call13 (fun w hw => Fh s w)) ?_
 refine cj ?_
 refine dA [4] (fun iq hq => ?_)
 obtain rfl := List.mem_singleton.1 hq
 refine bJ rfl ?_
 refine fh (E := au) (l := (co l i (s.get i.a)).1) (T := 23) (fun V => .tuple #[V, .int .i64 (co l i (s.get i.a)).2]) rfl mi (fun w hw => kE l pV cV i s w (hw.slF hV') hB (hD'.mono hw.bg) hN hI) rfl (fun VT => ?_)
 refine cj ?_
 refine zz7 5 rfl (aa rfl) ?_
 refine zz7 6 rfl (aQ rfl rfl) ?_
 refine zz7 7 rfl (aQ rfl rfl) ?_
 refine zz7 8 rfl (ab rfl) ?_
 refine zz7 9 rfl (ab rfl) ?_
 refine jg ?_
 refine ac (ah (zz0 (aa rfl) (zz0 (bC rfl aS ay) ?_)))
 refine zz0 (bC rfl Tryz.isAgg28 Tryz.sizeOf28) ?_
 refine fh (E := au) (l := (co l i (s.get i.a)).1) (T := 23) (fun V => .tuple #[V, .int .i64 (co l i (s.get i.a)).2]) rfl Tryz.call21 (fun w hw => zO l (.slice pV l.length cV) i s w (hw.slF hV') hB (hD'.mono hw.bg) hN hI) rfl (fun VU => ?_)
 refine zz0 (aa rfl) (zz0 (aQ rfl rfl) (zz0 (aQ rfl rfl) (zz0 (ab rfl) (zz0 (ab rfl) (aM (zz0 (aa rfl) (zz0 (aa rfl) (zz0 (aD rfl og (fun w hw => nN (co l i (s.get i.a)).1 (co l i (s.get i.a)).1 _ _ w (hw.row (by repeat constructor)) (hw.row (by repeat constructor)))) ?_))))))))
 refine zz0 (aa rfl) ?_
 apply bQ
 ·exact (rfl : _ = (4, 33, 37))
 ·exact rfl
 ·intro hT4; have hT4' := hT4
  try simp only [bs] at hT4'
  refine zz3 hT4 (aa rfl) (zz3 hT4 (aa rfl) (zz3 hT4 (bh rfl rfl) (zz0 (aK rfl hT4 rfl) ?_)))
  refine ax (ac ?_)
  exact az (Sub.cons rfl (zz6 4 rfl))
 ·intro hF4
  refine zz4 hF4 (zz4 hF4 (zz4 hF4 (zz0 (aL rfl hF4 rfl) ?_)))
  refine ax (ac ?_)
  exact az (Sub.cons rfl (zz6 4 rfl))
 refine zz0 (aa rfl) ?_
 apply bQ
 ·exact (rfl : _ = (2, 38, 40))
 ·exact rfl
 ·intro hT5; have hT5' := hT5
  try simp only [bs] at hT5'
  refine zz3 hT5 (BA rfl rfl Tryz.call11 (fun w hw => vO w)) ?_
  refine zz0 (aK rfl hT5 rfl) ?_
  refine ax (ac ?_)
  exact az (Sub.cons rfl (zz6 2 rfl))
 ·intro hF5
  refine zz4 hF5 (zz0 (aL rfl hF5 rfl) ?_)
  refine ax (ac ?_)
  exact az (Sub.cons rfl (zz6 2 rfl))
 refine zz0 (ab rfl) (ad (aC ?_))
 refine aO Tryz.results5 rfl (fun w' hw => ?_)
 exact ⟨by simp, hw.below0 (Bg.le.refl _)⟩
theorem wq (l : List SecV) (V : Value) (i : Ins) (s : StV) (w : World) (hV : Sl (hp w) cY l V) (hD : DataIn (hp w) l) (hz : ∀ s ∈ l, s.data.length ≤ 140737488351232) (hN : ∀ s ∈ l, s.name.size ≤ 140737488351232) (hI : InsOK i) : Calls Tryz.prog 5 #[V, .agg (aT.enc i).toArray, .agg (cO.enc s).toArray] w (fun e w' => e = .returned (.bool true) ∧ Below w.heap.size w w') := by
 obtain ⟨pV, cV, hv, _⟩ := hV.shape
 subst hv
 exact uU l pV cV i s w hV hD hz hN hI
end Go.Proofs.YtiajjbhcpeadfaaGreat
namespace Go.HL
open Go Go.Deep Go.ChangeShapes Go.WideShapes
section
variable {H : Type} {enc : TypeId × Value → H} {P : Program} {w : World} {base : Nat} {spare : Nat → Bool} {held : Bool}
theorem E9 {n : Int} (h : (Lit.int .u8 n).wf = true) : ∃ x : UInt8, n = (x.toNat : Int) := by
 have := bounds_u8 h
 refine ⟨UInt8.ofNat n.toNat, ?_⟩
 rw [UInt8.toNat_ofNat']; omega
theorem ma {n : Int} (h : (Lit.int .u32 n).wf = true) : ∃ x : UInt32, n = (x.toNat : Int) := by
 have := bounds_u32 h
 refine ⟨UInt32.ofNat n.toNat, ?_⟩
 rw [UInt32.toNat_ofNat']; omega
theorem H4 {e : TypeId} (he : P.underlying e = some (.int .u8)) {n : Nat} {cs : List Value} {y : DataW H × List MemPlace} (h : DataW.trod enc P w base spare held n e cs = some y) : ∃ a, cs = dT.enc a ∧ True := by
 obtain ⟨z, rfl, _, hw⟩ := DataW.trod_int he h
 obtain ⟨x, rfl⟩ := E9 hw
 exact ⟨x, rfl, trivial⟩
end
end Go.HL
namespace Go.HL
open Go Go.Deep Go.ChangeShapes Go.WideShapes
section
variable {H : Type} {enc : TypeId × Value → H} {P : Program} {w : World} {base : Nat} {spare : Nat → Bool} {held : Bool}
def BC (P : Program) (t : TypeId) (d : DataW H) : Prop := ∀ n ∈ d.weights P t, n ≤ reachBytes
theorem weightsAll_mem {P : Program} {e : TypeId} : ∀ {l : List (DataW H)} {d : DataW H}, d ∈ l → ∀ n ∈ d.weights P e, n ∈ DataW.weightsAll P e l
 | x :: l, d, h, n, hn => by
  simp only [DataW.weightsAll, List.mem_append]
  rcases List.mem_cons.1 h with rfl | h
  ·exact .inl hn
  ·exact .inr (weightsAll_mem h n hn)
theorem tO {α : Type} [Inhabited α] {E : Enc α} {R : α → Prop} {t e : TypeId} {fuel : Nat} {V : Value} {x : DataW H × List MemPlace} (ht : P.underlying t = some (.slice e)) (hc : P.cellsOf e = E.k) (hk : 0 < E.k) (hL : BC P t x.1)
  (hf : ∀ n cs y, cs.length = E.k → DataW.trod enc P w base spare held n e cs = some y → BC P e y.1 → ∃ a : α, cs = E.enc a ∧ R a)
  (h : DataW.trod enc P w base spare held fuel t [V] = some x) : ∃ l : List α, Sl (hp w) E l V ∧ (∀ a ∈ l, R a) ∧ l.length * P.bytesOf e ≤ reachBytes := by
 rcases open_slice ht h with ⟨h0, _⟩ | ⟨a, len, cap, m, n, D, Pl, hv, hb, hl, hm, hmm, hxx, hx⟩
 ·simp only [List.cons.injEq, and_true] at h0
  subst h0
  exact ⟨[], Sl.nil _ _, by simp, by simp⟩
 ·simp only [List.cons.injEq, and_true] at hv
  subst hv
  subst hxx
  have hlm : len ≤ m := by rw [hmm]; split <;> omega
  have hw : DataW.weights P t (.slice ((List.range len).map D) ((List.range (m - len)).map fun j => D (len + j))) = (((List.range len).map D).length + ((List.range (m - len)).map fun j => D (len + j)).length) * P.bytesOf e :: (DataW.weightsAll P e ((List.range len).map D) ++ DataW.weightsAll P e ((List.range (m - len)).map fun j => D (len + j))) := by
   simp only [DataW.weights, ht]
  have each : ∀ i, i < len → ∃ q : α, w.cells? base (a.add (i * E.k)) E.k = some (E.enc q) ∧ R q := fun i hi => by
   obtain ⟨cs', h1, h2⟩ := hx i (by omega)
   rw [hc] at h1
   obtain ⟨q, rfl, hq⟩ := hf n cs' _ (World.cells?_some h1).2.1 h2 (fun z hz => hL z (by
    rw [hw]
    exact .tail _ (List.mem_append.2 (.inl (weightsAll_mem (List.mem_map.2 ⟨i, List.mem_range.2 hi, rfl⟩) z hz)))))
   exact ⟨q, h1, hq⟩
  obtain ⟨f, hfn⟩ := choose_lt each
  have hsp : 0 < len → a = ⟨a.block, a.off, none⟩ := fun hl0 => by
   have h1 := (World.cells?_some (hfn 0 hl0).1).2.2 0 hk
   have hlen : 0 < (E.enc (f 0)).length := by rw [E.len]; exact hk
   rw [List.getElem?_eq_getElem hlen] at h1
   have hsp := World.cell?_spot h1
   obtain ⟨b, o, sp⟩ := a
   have : sp = none := by simpa [Addr.add] using hsp
   subst this
   rfl
  refine ⟨(List.range len).map f, ⟨⟨some a, cap, by simp, by simpa using hl, hm, fun hne => ?_⟩, fun i q hq => ?_⟩, fun q hq => ?_, ?_⟩
  ·have hl0 : 0 < len := by
    rcases Nat.eq_zero_or_pos len with h | h
    ·subst h; simp at hne
    ·exact h
   rw [hsp hl0]; rfl
  ·have hi : i < len := by
    have := (List.getElem?_eq_some_iff.1 hq).1
    simpa using this
   have hq' : f i = q := by simpa [hi] using hq
   subst hq'
   have ha := hsp (by omega)
   obtain ⟨b, o, sp⟩ := a
   obtain rfl : sp = none := by simpa using ha
   have hc' := (World.cells?_some (hfn i hi).1).2.2
   have hlen : (E.enc (f i)).length = E.k := E.len _
   have eA : ∀ j, (((⟨b, o, none⟩ : Addr).add (i * E.k)).add j) = ⟨b, o + i * E.k + j, none⟩ := fun j => by
    rw [Go.Deep.add_add]; simp only [Addr.add]
    by_cases h0 : i * E.k + j = 0
    ·rw [if_pos h0]
     have : i * E.k = 0 := by omega
     have : j = 0 := by omega
     simp_all
    ·rw [if_neg h0, Nat.add_assoc]
   have h1 := hc' 0 hk
   rw [List.getElem?_eq_getElem (by omega), eA] at h1
   have hb1 : ∃ cs T fz, w.heap[b]? = some (.cells cs T fz) := by
    unfold World.cell? at h1
    split at h1
    ·rename_i cs T fz hh; exact ⟨cs, T, fz, hh⟩
    ·simp at h1
   obtain ⟨cs, T, fz, hh⟩ := hb1
   refine ⟨cs, T, fz, hh, fun j v hj => ?_⟩
   have hjk : j < E.k := by have := (List.getElem?_eq_some_iff.1 hj).1; omega
   have h2 := hc' j hjk
   rw [hj, eA] at h2
   unfold World.cell? at h2
   simp only [hh] at h2
   simp only [ofs]
   simpa using h2
  ·obtain ⟨i, hi, rfl⟩ := List.mem_map.1 hq
   exact (hfn i (List.mem_range.1 hi)).2
  ·have := hL _ (by rw [hw]; exact .head _)
   simp only [List.length_map, List.length_range] at this ⊢
   exact Nat.le_trans (Nat.mul_le_mul_right _ (by omega)) this
theorem Gw {e ts tu tb tB eu : TypeId} {f0 f1 f2 f3 f4 : Field} (he : P.underlying e = some (.struct #[f0, f1, f2, f3, f4]))
  (ho : [f0.offset, f1.offset, f2.offset, f3.offset, f4.offset] = [0, 1, 2, 3, 4]) (ht : [f0.type, f1.type, f2.type, f3.type, f4.type] = [ts, tu, tb, tB, tB])
  (c0 : P.cellsOf ts = 1) (c1 : P.cellsOf tu = 1) (c2 : P.cellsOf tb = 1) (c3 : P.cellsOf tB = 1) (us : P.underlying ts = some .string) (uu : P.underlying tu = some (.int .u32))
  (ub : P.underlying tb = some (.slice eu)) (ue : P.underlying eu = some (.int .u8)) (ce : P.cellsOf eu = 1) (be : P.bytesOf eu = 1) (uB : P.underlying tB = some .bool)
  {n : Nat} {cs : List Value} {y : DataW H × List MemPlace} (hl : cs.length = 5) (h : DataW.trod enc P w base spare held n e cs = some y) (hL : BC P e y.1) :
  ∃ s : SecV, cs = cY.enc s ∧ Sl (hp w) dT s.data (.slice s.dp s.data.length s.dc) ∧ s.data.length ≤ reachBytes ∧ s.name.size ≤ reachBytes := by
 simp only [List.cons.injEq, and_true] at ho ht
 obtain ⟨o0, o1, o2, o3, o4⟩ := ho
 obtain ⟨t0, t1, t2, t3, t4⟩ := ht
 obtain ⟨xs, k, hk, hxy, _, hxl, hf⟩ := DataW.trod_struct he h
 match xs, hxl, cs, hl with
 | [y0, y1, y2, y3, y4], _, [v0, v1, v2, v3, v4], _ =>
  have g0 := hf 0 f0 rfl
  have g1 := hf 1 f1 rfl
  have g2 := hf 2 f2 rfl
  have g3 := hf 3 f3 rfl
  have g4 := hf 4 f4 rfl
  simp [o0, o1, o2, o3, o4, t0, t1, t2, t3, t4, c0, c1, c2, c3] at g0 g1 g2 g3 g4
  subst hxy
  have hw : ∀ j t d, [ts, tu, tb, tB, tB][j]? = some t → [y0.1, y1.1, y2.1, y3.1, y4.1][j]? = some d → BC P t d := fun j t d q1 q2 z hz => hL z (by
   simp only [DataW.weights, he, List.map_cons, List.map_nil, t0, t1, t2, t3, t4]
   exact DataW.weights_mem_each (j := j) q1 q2 z hz)
  have w0' := hw 0 ts y0.1 rfl rfl
  have w2' := hw 2 tb y2.1 rfl rfl
  obtain ⟨z0, e0, q0, w0⟩ := DataW.trod_string us g0
  obtain ⟨z1, e1, _, w1⟩ := DataW.trod_int uu g1
  obtain ⟨l, s2, _, hbl⟩ := tO (E := dT) (R := fun _ => True) ub ce (by decide) w2' (fun n cs y _ hh _ => H4 ue hh) g2
  obtain ⟨z3, e3, _⟩ := DataW.trod_bool uB g3
  obtain ⟨z4, e4, _⟩ := DataW.trod_bool uB g4
  obtain ⟨x1, rfl⟩ := ma w1
  simp only [List.cons.injEq, and_true] at e0 e1 e3 e4
  subst e0; subst e1; subst e3; subst e4
  obtain ⟨a, c, hv, _⟩ := s2.shape
  subst hv
  refine ⟨⟨z0, x1, l, a, c, z3, z4⟩, rfl, s2, by rw [be, Nat.mul_one] at hbl; exact hbl, ?_⟩
  have := w0' z0.data.toList.length (by rw [q0]; simp [DataW.weights])
  rw [Array.length_toList] at this
  exact this
end
end Go.HL
namespace Go.HL
open Go Go.Deep Go.ChangeShapes Go.WideShapes
section
variable {H : Type} {enc : TypeId × Value → H} {P : Program} {w : World} {base : Nat} {spare : Nat → Bool} {held : Bool}
theorem Gx {e t0 t1 : TypeId} {f0 f1 f2 f3 f4 f5 f6 f7 f8 : Field} (he : P.underlying e = some (.struct #[f0, f1, f2, f3, f4, f5, f6, f7, f8]))
  (ho : [f0.offset, f1.offset, f2.offset, f3.offset, f4.offset, f5.offset, f6.offset, f7.offset, f8.offset] = [0, 1, 2, 3, 4, 5, 6, 7, 8])
  (ht : [f0.type, f1.type, f2.type, f3.type, f4.type, f5.type, f6.type, f7.type, f8.type] = [t0, t0, t1, t1, t1, t1, t1, t1, t1])
  (c0 : P.cellsOf t0 = 1) (c1 : P.cellsOf t1 = 1) (u0 : P.underlying t0 = some (.int .u32)) (u1 : P.underlying t1 = some (.int .i64))
  {n : Nat} {cs : List Value} {y : DataW H × List MemPlace} (hl : cs.length = 9) (h : DataW.trod enc P w base spare held n e cs = some y) : ∃ i, cs = aT.enc i ∧ InsOK i := by
 simp only [List.cons.injEq, and_true] at ho ht
 obtain ⟨o0, o1, o2, o3, o4, o5, o6, o7, o8⟩ := ho
 obtain ⟨t0', t1', t2', t3', t4', t5', t6', t7', t8'⟩ := ht
 obtain ⟨xs, k, hk, hxy, _, hxl, hf⟩ := DataW.trod_struct he h
 match xs, hxl, cs, hl with
 | [y0, y1, y2, y3, y4, y5, y6, y7, y8], _, [v0, v1, v2, v3, v4, v5, v6, v7, v8], _ =>
  have g0 := hf 0 f0 rfl
  have g1 := hf 1 f1 rfl
  have g2 := hf 2 f2 rfl
  have g3 := hf 3 f3 rfl
  have g4 := hf 4 f4 rfl
  have g5 := hf 5 f5 rfl
  have g6 := hf 6 f6 rfl
  have g7 := hf 7 f7 rfl
  have g8 := hf 8 f8 rfl
  simp [o0, o1, o2, o3, o4, o5, o6, o7, o8, t0', t1', t2', t3', t4', t5', t6', t7', t8', c0, c1] at g0 g1 g2 g3 g4 g5 g6 g7 g8
  obtain ⟨z0, e0, _, w0⟩ := DataW.trod_int u0 g0
  obtain ⟨z1, e1, _, w1⟩ := DataW.trod_int u0 g1
  obtain ⟨z2, e2, _, w2⟩ := DataW.trod_int u1 g2
  obtain ⟨z3, e3, _, w3⟩ := DataW.trod_int u1 g3
  obtain ⟨z4, e4, _, w4⟩ := DataW.trod_int u1 g4
  obtain ⟨z5, e5, _, w5⟩ := DataW.trod_int u1 g5
  obtain ⟨z6, e6, _, w6⟩ := DataW.trod_int u1 g6
  obtain ⟨z7, e7, _, w7⟩ := DataW.trod_int u1 g7
  obtain ⟨z8, e8, _, w8⟩ := DataW.trod_int u1 g8
  obtain ⟨x0, rfl⟩ := ma w0
  obtain ⟨x1, rfl⟩ := ma w1
  simp only [List.cons.injEq, and_true] at e0 e1 e2 e3 e4 e5 e6 e7 e8
  subst e0; subst e1; subst e2; subst e3; subst e4; subst e5; subst e6; subst e7; subst e8
  have b2 := bounds_i64 w2
  have b3 := bounds_i64 w3
  have b4 := bounds_i64 w4
  have b5 := bounds_i64 w5
  have b6 := bounds_i64 w6
  have b7 := bounds_i64 w7
  have b8 := bounds_i64 w8
  exact ⟨⟨x0, x1, z2, z3, z4, z5, z6, z7, z8⟩, rfl, ⟨b2, b3, b4, b5, b6, b7, b8⟩⟩
theorem G7 {cs : Array Value} {l : List Value} (h : (Value.agg cs).cells.toList = l) : cs = l.toArray := by
 subst h; simp [Value.cells]
end
end Go.HL
namespace Go.HL
open Go Go.ChangeShapes Go.WideShapes Go.ChangeAt Go.RowKit
variable {H : Type} {enc : TypeId × Value → H} {P : Program} {w : World} {base : Nat} {spare : Nat → Bool} {held : Bool}
theorem Gv {e tb tu : TypeId} {f0 f1 f2 f3 f4 : Field} (he : P.underlying e = some (.struct #[f0, f1, f2, f3, f4]))
  (ho : [f0.offset, f1.offset, f2.offset, f3.offset, f4.offset] = [0, 1, 2, 3, 4]) (ht : [f0.type, f1.type, f2.type, f3.type, f4.type] = [tb, tb, tu, tu, tu])
  (cb : P.cellsOf tb = 1) (cu : P.cellsOf tu = 1) (ub : P.underlying tb = some .bool) (uu : P.underlying tu = some (.int .u32))
  {n : Nat} {cs : List Value} {y : DataW H × List MemPlace} (hl : cs.length = 5) (h : DataW.trod enc P w base spare held n e cs = some y) : ∃ s, cs = bR.enc s := by
 simp only [List.cons.injEq, and_true] at ho ht
 obtain ⟨o0, o1, o2, o3, o4⟩ := ho
 obtain ⟨t0, t1, t2, t3, t4⟩ := ht
 obtain ⟨xs, k, hk, hxy, _, hxl, hf⟩ := DataW.trod_struct he h
 match xs, hxl, cs, hl with
 | [y0, y1, y2, y3, y4], _, [v0, v1, v2, v3, v4], _ =>
  have g0 := hf 0 f0 rfl
  have g1 := hf 1 f1 rfl
  have g2 := hf 2 f2 rfl
  have g3 := hf 3 f3 rfl
  have g4 := hf 4 f4 rfl
  simp [o0, o1, o2, o3, o4, t0, t1, t2, t3, t4, cb, cu] at g0 g1 g2 g3 g4
  obtain ⟨z0, e0, _⟩ := DataW.trod_bool ub g0
  obtain ⟨z1, e1, _⟩ := DataW.trod_bool ub g1
  obtain ⟨z2, e2, _, w2⟩ := DataW.trod_int uu g2
  obtain ⟨z3, e3, _, w3⟩ := DataW.trod_int uu g3
  obtain ⟨z4, e4, _, w4⟩ := DataW.trod_int uu g4
  obtain ⟨x2, rfl⟩ := ma w2
  obtain ⟨x3, rfl⟩ := ma w3
  obtain ⟨x4, rfl⟩ := ma w4
  simp only [List.cons.injEq, and_true] at e0 e1 e2 e3 e4
  subst e0; subst e1; subst e2; subst e3; subst e4
  exact ⟨⟨z0, z1, x2, x3, x4⟩, rfl⟩
theorem FP {α : Type} : ∀ (n : Nat) (cs : List α), cs.length = n * 5 → cs = (List.range n).flatMap fun i => (cs.drop (i * 5)).take 5
 | 0, cs, h => by
  obtain rfl := List.length_eq_zero_iff.1 (by omega : cs.length = 0)
  rfl
 | n + 1, cs, h => by
  have ih := FP n (cs.take (n * 5)) (by rw [List.length_take]; omega)
  rw [List.range_succ, List.flatMap_append, List.flatMap_cons, List.flatMap_nil, List.append_nil]
  have e : (List.range n).flatMap (fun i => (cs.drop (i * 5)).take 5) = cs.take (n * 5) := by
   refine Eq.trans ?_ ih.symm
   rw [List.flatMap_def, List.flatMap_def]
   congr 1
   refine List.map_congr_left fun i hi => ?_
   have hi := List.mem_range.1 hi
   rw [List.drop_take, List.take_take, Nat.min_eq_left (by omega)]
  rw [e, List.take_of_length_le (l := cs.drop (n * 5)) (by rw [List.length_drop]; omega), List.take_append_drop]
theorem H5 {t ta e : TypeId} {f0 : Field} (ht : P.underlying t = some (.struct #[f0])) (ho : f0.offset = 0) (hty : f0.type = ta) (ua : P.underlying ta = some (.array 8 e)) (ca : P.cellsOf ta = 40) (ce : P.cellsOf e = 5)
  (hf : ∀ n cs y, cs.length = 5 → DataW.trod enc P w base spare held n e cs = some y → ∃ s, cs = bR.enc s)
  {n : Nat} {cs : List Value} {y : DataW H × List MemPlace} (hl : cs.length = 40) (h : DataW.trod enc P w base spare held n t cs = some y) : ∃ s, cs = cO.enc s := by
 obtain ⟨xs, k, hk, hxy, _, hxl, hg⟩ := DataW.trod_struct ht h
 have g := hg 0 f0 rfl
 rw [ho, hty, ca, List.drop_zero, List.take_of_length_le (by omega)] at g
 have hx0 : ∃ y0, xs[0]? = some y0 := by
  have : xs.length = 1 := hxl
  exact ⟨xs[0], List.getElem?_eq_getElem (by omega)⟩
 obtain ⟨y0, hx0⟩ := hx0
 rw [hx0] at g
 obtain ⟨zs, m, hm, hzy, _, hzl, hz⟩ := DataW.trod_array ua g
 rw [ce] at hz
 have key : ∀ i, i < 8 → ∃ s, (cs.drop (i * 5)).take 5 = bR.enc s := fun i hi => by
  have q := hz i hi
  rw [List.getElem?_eq_getElem (by omega)] at q
  exact hf _ _ _ (by rw [List.length_take, List.length_drop]; omega) q
 obtain ⟨s0, h0⟩ := key 0 (by omega)
 obtain ⟨s1, h1⟩ := key 1 (by omega)
 obtain ⟨s2, h2⟩ := key 2 (by omega)
 obtain ⟨s3, h3⟩ := key 3 (by omega)
 obtain ⟨s4, h4⟩ := key 4 (by omega)
 obtain ⟨s5, h5⟩ := key 5 (by omega)
 obtain ⟨s6, h6⟩ := key 6 (by omega)
 obtain ⟨s7, h7⟩ := key 7 (by omega)
 refine ⟨⟨s0, s1, s2, s3, s4, s5, s6, s7⟩, ?_⟩
 refine (FP 8 cs (by omega)).trans ?_
 rw [show List.range 8 = [0, 1, 2, 3, 4, 5, 6, 7] from rfl]
 simp only [List.flatMap_cons, List.flatMap_nil, h0, h1, h2, h3, h4, h5, h6, h7]
 rfl
end Go.HL
