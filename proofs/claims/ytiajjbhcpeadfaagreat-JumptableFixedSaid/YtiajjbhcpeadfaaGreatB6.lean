/- Own rules and walks, part 6. -/
import Derived.Test.YtiajjbhcpeadfaaGreatB5
set_option linter.unusedSimpArgs false
set_option linter.unusedVariables false
set_option linter.unusedSectionVars false
set_option maxRecDepth 100000
set_option maxHeartbeats 16000000
namespace Go.HL
open Go
def lM (l : List SecV) : Nat → Int
 | 0 => 0
 | k + 1 => lM l k + min ((l.getD k default).data.length : Int) 600
theorem wa (l : List SecV) (k : Nat) : ∀ n, lM l k ≤ lM l (k + n)
 | 0 => Int.le_refl _
 | n + 1 => by
  have := wa l k n
  show lM l k ≤ lM l (k + n) + min ((l.getD (k + n) default).data.length : Int) 600
  omega
theorem xq {l : List SecV} {k n : Nat} (h : k ≤ n) : lM l k ≤ lM l n := by
 have := wa l k (n - k)
 rw [show k + (n - k) = n by omega] at this; exact this
def un (l : List SecV) : Bool := decide ((l.length : Int) < 20) && decide (lM l l.length < 600)
structure Sm16 (l : List SecV) : Prop where
 secB : SecB l
 tot : totD l ≤ 600
theorem yP {l : List SecV} : ∀ {k : Nat}, k ≤ l.length → lM l k < 600 → (totD (l.take k) : Int) = lM l k
 | 0, _, _ => by simp [totD, lM]
 | k + 1, hk, h => by
  have h1 : lM l (k + 1) = lM l k + min ((l.getD k default).data.length : Int) 600 := rfl
  have h2 := xq (l := l) (Nat.zero_le k)
  have h3 : lM l 0 = 0 := rfl
  have ih := yP (l := l) (k := k) (by omega) (by omega)
  have e : totD (l.take (k + 1)) = totD (l.take k) + (l.getD k default).data.length := by
   rw [dn (by omega)]; unfold totD; rw [List.map_append, List.sum_append]; simp
  rw [e]; omega
theorem BW : ∀ {l : List SecV} {s : SecV}, s ∈ l → s.data.length ≤ totD l
 | x :: l, s, h => by
  have e : totD (x :: l) = x.data.length + totD l := by simp [totD]
  rcases List.mem_cons.1 h with rfl | h
  ·omega
  ·have := BW h; omega
theorem GF {l : List SecV} (h : un l = true) : Sm16 l := by
 unfold un at h
 simp only [Bool.and_eq_true, decide_eq_true_eq] at h
 have ht := yP (l := l) (Nat.le_refl _) h.2
 rw [List.take_length] at ht
 exact ⟨⟨by omega, fun s hs => by have := BW hs; omega⟩, by omega⟩
end Go.HL
namespace Go.Proofs.YtiajjbhcpeadfaaGreat
open Go Go.HL Go.RowKit
theorem Ep (l : List SecV) (V : Value) (w : World) (hV : Sl (hp w) dK l V) (hz : ∀ s ∈ l, s.data.length ≤ 140737488351232) :
  Cr Tryz.prog 10 #[V] w (.bool (un l)) := by
 have hV' : Sl (Bg.of w).blk dK l V := hV
 have hlen := hV.len_le
 refine enter Tryz.func10 rfl Tryz.ntmps10 rfl ?_
 refine ah (zz0 (ab rfl) (ad (al (ah (zz0 (aa rfl) (zz0 (fJ rfl cO) ?_))))))
 refine zz0 (d5 rfl rfl) (ad ?_)
 refine ao rfl ?_ ?_ <;> intro h1 <;> try simp only [bs] at h1
 ·refine ah (zz0 (ab rfl) (ad (aD (aB ?_))))
  refine aS Tryz.results10 rfl (fun w' hw => ?_)
  exact ⟨by unfold un; rw [decide_eq_false (by omega), Bool.false_and], hw.b0⟩
 refine df (zz0 (ab rfl) (ad (al (ah (zz0 (ab rfl) (ad (aG ?_)))))))
 refine bN (ι := Nat) (fun k => k ≤ l.length ∧ lM l k < 600) (fun _ => _) (fun k => []) (fun k => [(4, .int .i64 (k : Nat)), (3, .int .i64 (lM l k))]) (fun k => l.length - k) 0 ⟨Nat.zero_le _, by show (0 : Int) < 600; decide⟩ (Front.c (Front.c Front.nil)) (by repeat' constructor) rfl (fun k hi m hm => ?_)
 replace hi : k ≤ l.length ∧ lM l k < 600 := hi
 replace hm : m = l.length - k := hm
 change Tr _ _ [] ([(4, .int .i64 (k : Nat)), (3, .int .i64 (lM l k))] ++ _) _
 obtain ⟨hk1, hk2⟩ := hi
 have hk0 : 0 ≤ lM l k := xq (l := l) (Nat.zero_le k)
 have hbk : k < l.length → (l.getD k default).data.length ≤ 140737488351232 := fun q => hz _ (cS q)
 refine al (ah (zz0 (aa rfl) (zz0 (aa rfl) (zz0 (fJ rfl cO) ?_))))
 refine zz0 (bS rfl rfl) (ad ?_)
 refine ao rfl ?_ ?_ <;> intro h2 <;> try simp only [bs] at h2
 ·refine bB (al (aG (ah (zz0 (aa rfl) (zz0 (aa rfl) (zz0 (aa rfl) (zz0 (gB rfl rfl cO di) ?_)))))))
  refine zz0 (zz1 (off := 2) (ft := 47) rfl dw rfl j1) ?_
  refine zz0 (me rfl (by assumption) kr (by omega) (by rfl)) ?_
  refine zz0 (nH rfl bJ) ?_
  refine zz0 (rL rfl rfl) ?_
  refine zz0 (cx rfl rfl) ?_
  refine zz0 (ab rfl) (aL (zz0 (aa rfl) (zz0 (d5 rfl rfl) (ad ?_))))
  refine ao rfl ?_ ?_ <;> intro h3 <;> try simp only [bs] at h3
  ·refine ah (zz0 (ab rfl) (ad (aD (bv (aB (aB (bv (aB ?_))))))))
   refine aS Tryz.results10 rfl (fun w' hw => ?_)
   have hle := xq (l := l) (show k + 1 ≤ l.length by omega)
   have he : lM l (k + 1) = lM l k + min ((l.getD k default).data.length : Int) 600 := rfl
   exact ⟨by unfold un; rw [decide_eq_false (p := lM l l.length < 600) (by omega), Bool.and_false], hw.b0⟩
  refine bW (aX (ac (ar (zz0 (aa rfl) (zz0 (cx rfl rfl) ?_)))))
  refine zz0 (ab rfl) (ad ?_)
  refine cC (k + 1) (Front.c (Front.c Front.nil)) (bA 21 rfl) (o := ⟨by omega, by show lM l k + min ((l.getD k default).data.length : Int) 600 < 600; omega⟩)
 refine bG (aJ (aJ (bj (ac (ah (zz0 (ab rfl) (ad (aD ?_))))))))
 refine aS Tryz.results10 rfl (fun w' hw => ?_)
 obtain rfl : k = l.length := by omega
 exact ⟨by unfold un; rw [decide_eq_true hk2, decide_eq_true (by omega)]; rfl, hw.b0⟩
end Go.Proofs.YtiajjbhcpeadfaaGreat
namespace Go.Proofs.YtiajjbhcpeadfaaGreat
open Go Go.HL Go.RowKit
theorem wE (r : Int) (w : World) :
  Cr Tryz.prog 213 #[.int .i64 r] w (.bool (lp r)) := by
 refine enter Tryz.func213 rfl Tryz.ntmps213 rfl ?_
 refine ah (zz0 (ab rfl) (aL (zz0 (aa rfl) (zz0 (d5 rfl rfl) (zz0 (aa rfl) ?_)))))
 apply bV
 ·exact (rfl : _ = (3, 5, 8))
 ·exact rfl
 ·intro hT1; have hT1' := hT1
  try simp only [bs] at hT1'
  refine zz5 hT1 (aa rfl) (zz5 hT1 (bS rfl rfl) (zz0 (aN rfl hT1 rfl) ?_))
  refine az (ac ?_)
  exact aA (Sub.cons rfl (zz7 3 rfl))
 ·intro hF1
  refine zz6 hF1 (zz6 hF1 (zz0 (aK rfl hF1 rfl) ?_))
  refine az (ac ?_)
  exact aA (Sub.cons rfl (zz7 3 rfl))
 refine zz0 (ab rfl) (ad (aD ?_))
 refine aS Tryz.results213 rfl (fun w' hw => ?_)
 exact ⟨rfl, hw.b0⟩
theorem E6 (r : Int) (w : World) :
  Cr Tryz.prog 216 #[.int .i64 r] w (.bool (Cg r)) := by
 refine enter Tryz.func216 rfl Tryz.ntmps216 rfl ?_
 refine ah (zz0 (ab rfl) (aL (zz0 (aa rfl) (zz0 (d5 rfl rfl) (zz0 (aa rfl) ?_)))))
 apply bV
 ·exact (rfl : _ = (3, 5, 8))
 ·exact rfl
 ·intro hT1; have hT1' := hT1
  try simp only [bs] at hT1'
  refine zz5 hT1 (aa rfl) (zz5 hT1 (fE rfl rfl) (zz0 (aN rfl hT1 rfl) ?_))
  refine az (ac ?_)
  exact aA (Sub.cons rfl (zz7 3 rfl))
 ·intro hF1
  refine zz6 hF1 (zz6 hF1 (zz0 (aK rfl hF1 rfl) ?_))
  refine az (ac ?_)
  exact aA (Sub.cons rfl (zz7 3 rfl))
 refine zz0 (ab rfl) (ad (aD ?_))
 refine aS Tryz.results216 rfl (fun w' hw => ?_)
 exact ⟨rfl, hw.b0⟩
theorem uY (n : UInt32) (w : World) :
  Cr Tryz.prog 220 #[.int .u32 n.toNat] w (.bool (lr n)) := by
 refine enter Tryz.func220 rfl Tryz.ntmps220 rfl ?_
 refine ah (zz0 (ab rfl) (aL (zz0 (aa rfl) (zz0 (nG (n := 127) rfl rfl) ?_))))
 refine zz0 (aa rfl) ?_
 apply cF
 ·exact (rfl : _ = (3, 5, 8))
 ·exact rfl
 ·intro hF1; have hF1' := hF1
  try simp only [bs] at hF1'
  refine zz5 hF1 (aa rfl) (zz5 hF1 (mc (n := 4294967168) rfl rfl) ?_)
  refine zz0 (aK rfl hF1 rfl) ?_
  refine az (ac ?_)
  exact aA (Sub.cons rfl (zz7 3 rfl))
 ·intro hT1
  refine zz6 hT1 (zz6 hT1 (zz0 (aN rfl hT1 rfl) ?_))
  refine az (ac ?_)
  exact aA (Sub.cons rfl (zz7 3 rfl))
 refine zz0 (ab rfl) (ad (aD ?_))
 refine aS Tryz.results220 rfl (fun w' hw => ?_)
 exact ⟨rfl, hw.b0⟩
theorem pS (op : Int) (w : World) :
  Cr Tryz.prog 218 #[.int .i64 op] w (.bool (lT op)) := by
 refine enter Tryz.func218 rfl Tryz.ntmps218 rfl ?_
 refine ah (zz0 (ab rfl) (aL (zz0 (aa rfl) (zz0 (d5 rfl rfl) (zz0 (aa rfl) ?_)))))
 apply bV
 ·exact (rfl : _ = (3, 5, 8))
 ·exact rfl
 ·intro hT1; have hT1' := hT1
  try simp only [bs] at hT1'
  refine zz5 hT1 (aa rfl) (zz5 hT1 (fE rfl rfl) (zz0 (aN rfl hT1 rfl) ?_))
  refine az (ac ?_)
  exact aA (Sub.cons rfl (zz7 3 rfl))
 ·intro hF1
  refine zz6 hF1 (zz6 hF1 (zz0 (aK rfl hF1 rfl) ?_))
  refine az (ac ?_)
  exact aA (Sub.cons rfl (zz7 3 rfl))
 refine zz0 (ab rfl) (ad (aD ?_))
 refine aS Tryz.results218 rfl (fun w' hw => ?_)
 exact ⟨rfl, hw.b0⟩
theorem lu (op : Int) (w : World) :
  Cr Tryz.prog 219 #[.int .i64 op] w (.bool (lU op)) := by
 refine enter Tryz.func219 rfl Tryz.ntmps219 rfl ?_
 refine ah (zz0 (ab rfl) (aL (zz0 (aa rfl) (zz0 (aY rfl rfl) (zz0 (aa rfl) ?_)))))
 apply cF
 ·exact (rfl : _ = (3, 5, 8))
 ·exact rfl
 ·intro hF1; have hF1' := hF1
  try simp only [bs] at hF1'
  refine zz5 hF1 (aa rfl) (zz5 hF1 (aY rfl rfl) (zz0 (aK rfl hF1 rfl) ?_))
  refine az (ac ?_)
  exact aA (Sub.cons rfl (zz7 3 rfl))
 ·intro hT1
  refine zz6 hT1 (zz6 hT1 (zz0 (aN rfl hT1 rfl) ?_))
  refine az (ac ?_)
  exact aA (Sub.cons rfl (zz7 3 rfl))
 refine zz0 (aa rfl) ?_
 apply cF
 ·exact (rfl : _ = (3, 9, 12))
 ·exact rfl
 ·intro hF2; have hF2' := hF2
  try simp only [bs] at hF2'
  refine zz5 hF2 (aa rfl) (zz5 hF2 (aY rfl rfl) (zz0 (aK rfl hF2 rfl) ?_))
  refine az (ac ?_)
  exact aA (Sub.cons rfl (zz7 3 rfl))
 ·intro hT2
  refine zz6 hT2 (zz6 hT2 (zz0 (aN rfl hT2 rfl) ?_))
  refine az (ac ?_)
  exact aA (Sub.cons rfl (zz7 3 rfl))
 refine zz0 (ab rfl) (ad (aD ?_))
 refine aS Tryz.results219 rfl (fun w' hw => ?_)
 exact ⟨rfl, hw.b0⟩
theorem zM (op : Int) (w : World) :
  Cr Tryz.prog 212 #[.int .i64 op] w (.bool (zN op)) := by
 refine enter Tryz.func212 rfl Tryz.ntmps212 rfl ?_
 refine ah (zz0 (ab rfl) (aL (zz0 (aa rfl) (zz0 (d5 rfl rfl) (zz0 (aa rfl) ?_)))))
 apply bV
 ·exact (rfl : _ = (3, 5, 8))
 ·exact rfl
 ·intro hT1; have hT1' := hT1
  try simp only [bs] at hT1'
  refine zz5 hT1 (aa rfl) (zz5 hT1 (fE rfl rfl) (zz0 (aN rfl hT1 rfl) ?_))
  refine az (ac ?_)
  exact aA (Sub.cons rfl (zz7 3 rfl))
 ·intro hF1
  refine zz6 hF1 (zz6 hF1 (zz0 (aK rfl hF1 rfl) ?_))
  refine az (ac ?_)
  exact aA (Sub.cons rfl (zz7 3 rfl))
 refine zz0 (aa rfl) ?_
 apply bV
 ·exact (rfl : _ = (3, 9, 12))
 ·exact rfl
 ·intro hT2; have hT2' := hT2
  try simp only [bs] at hT2'
  refine zz5 hT2 (aa rfl) (zz5 hT2 (fa rfl rfl) (zz0 (aN rfl hT2 rfl) ?_))
  refine az (ac ?_)
  exact aA (Sub.cons rfl (zz7 3 rfl))
 ·intro hF2
  refine zz6 hF2 (zz6 hF2 (zz0 (aK rfl hF2 rfl) ?_))
  refine az (ac ?_)
  exact aA (Sub.cons rfl (zz7 3 rfl))
 refine zz0 (aa rfl) ?_
 apply bV
 ·exact (rfl : _ = (3, 13, 16))
 ·exact rfl
 ·intro hT3; have hT3' := hT3
  try simp only [bs] at hT3'
  refine zz5 hT3 (aa rfl) (zz5 hT3 (fa rfl rfl) (zz0 (aN rfl hT3 rfl) ?_))
  refine az (ac ?_)
  exact aA (Sub.cons rfl (zz7 3 rfl))
 ·intro hF3
  refine zz6 hF3 (zz6 hF3 (zz0 (aK rfl hF3 rfl) ?_))
  refine az (ac ?_)
  exact aA (Sub.cons rfl (zz7 3 rfl))
 refine zz0 (ab rfl) (ad (aD ?_))
 refine aS Tryz.results212 rfl (fun w' hw => ?_)
 exact ⟨rfl, hw.b0⟩
theorem zK (i : Ins) (w : World) :
  Cr Tryz.prog 214 #[.agg (aP.enc i).toArray] w (.bool (zL i)) := by
 refine enter Tryz.func214 rfl Tryz.ntmps214 rfl ?_
 refine ah ?_
 refine dE rfl rfl (fun b1 => ?_)
 refine zz0 (ab rfl) (aL (zz0 (zz1 (off := 2) (ft := 3) rfl af rfl ay) ?_))
 refine zz0 (aH rfl aI) ?_
 refine zz0 (aC rfl oo (fun w hw => pS i.op w)) ?_
 refine zz0 (aa rfl) ?_
 apply bV
 ·exact (rfl : _ = (4, 6, 10))
 ·exact rfl
 ·intro hT2; have hT2' := hT2
  try simp only [bs] at hT2'
  refine zz5 hT2 (zz1 (off := 3) (ft := 3) rfl af rfl ay) ?_
  refine zz5 hT2 (aH rfl aI) ?_
  refine zz5 hT2 (aY rfl rfl) (zz0 (aN rfl hT2 rfl) ?_)
  refine az (ac ?_)
  exact aA (Sub.cons rfl (zz7 4 rfl))
 ·intro hF2
  refine zz6 hF2 (zz6 hF2 (zz6 hF2 (zz0 (aK rfl hF2 rfl) ?_)))
  refine az (ac ?_)
  exact aA (Sub.cons rfl (zz7 4 rfl))
 refine zz0 (aa rfl) ?_
 apply cF
 ·exact (rfl : _ = (4, 11, 15))
 ·exact rfl
 ·intro hF3; have hF3' := hF3
  try simp only [bs] at hF3'
  refine zz5 hF3 (zz1 (off := 2) (ft := 3) rfl af rfl ay) ?_
  refine zz5 hF3 (aH rfl aI) ?_
  refine zz5 hF3 (aC rfl om (fun w hw => lu i.op w)) ?_
  refine zz0 (aK rfl hF3 rfl) ?_
  refine az (ac ?_)
  exact aA (Sub.cons rfl (zz7 4 rfl))
 ·intro hT3
  refine zz6 hT3 (zz6 hT3 (zz6 hT3 (zz0 (aN rfl hT3 rfl) ?_)))
  refine az (ac ?_)
  exact aA (Sub.cons rfl (zz7 4 rfl))
 refine zz0 (aa rfl) ?_
 apply cF
 ·exact (rfl : _ = (4, 16, 20))
 ·exact rfl
 ·intro hF4; have hF4' := hF4
  try simp only [bs] at hF4'
  refine zz5 hF4 (zz1 (off := 2) (ft := 3) rfl af rfl ay) ?_
  refine zz5 hF4 (aH rfl aI) ?_
  refine zz5 hF4 (aY rfl rfl) (zz0 (aK rfl hF4 rfl) ?_)
  refine az (ac ?_)
  exact aA (Sub.cons rfl (zz7 4 rfl))
 ·intro hT4
  refine zz6 hT4 (zz6 hT4 (zz6 hT4 (zz0 (aN rfl hT4 rfl) ?_)))
  refine az (ac ?_)
  exact aA (Sub.cons rfl (zz7 4 rfl))
 refine zz0 (ab rfl) (ad (aD ?_))
 refine aS Tryz.results214 rfl (fun w' hw => ?_)
 exact ⟨rfl, hw.b0⟩
theorem Be (i : Ins) (w : World) :
  Cr Tryz.prog 217 #[.agg (aP.enc i).toArray] w (.bool (tU i)) := by
 refine enter Tryz.func217 rfl Tryz.ntmps217 rfl ?_
 refine ah ?_
 refine dE rfl rfl (fun b1 => ?_)
 refine zz0 (ab rfl) (aL (zz0 (zz1 (off := 2) (ft := 3) rfl af rfl ay) ?_))
 refine zz0 (aH rfl aI) ?_
 refine zz0 (aC rfl oo (fun w hw => pS i.op w)) ?_
 refine zz0 (aa rfl) ?_
 apply bV
 ·exact (rfl : _ = (4, 6, 10))
 ·exact rfl
 ·intro hT2; have hT2' := hT2
  try simp only [bs] at hT2'
  refine zz5 hT2 (zz1 (off := 3) (ft := 3) rfl af rfl ay) ?_
  refine zz5 hT2 (aH rfl aI) ?_
  refine zz5 hT2 (fa rfl rfl) (zz0 (aN rfl hT2 rfl) ?_)
  refine az (ac ?_)
  exact aA (Sub.cons rfl (zz7 4 rfl))
 ·intro hF2
  refine zz6 hF2 (zz6 hF2 (zz6 hF2 (zz0 (aK rfl hF2 rfl) ?_)))
  refine az (ac ?_)
  exact aA (Sub.cons rfl (zz7 4 rfl))
 refine zz0 (aa rfl) ?_
 apply cF
 ·exact (rfl : _ = (4, 11, 15))
 ·exact rfl
 ·intro hF3; have hF3' := hF3
  try simp only [bs] at hF3'
  refine zz5 hF3 (zz1 (off := 2) (ft := 3) rfl af rfl ay) ?_
  refine zz5 hF3 (aH rfl aI) ?_
  refine zz5 hF3 (aC rfl om (fun w hw => lu i.op w)) ?_
  refine zz0 (aK rfl hF3 rfl) ?_
  refine az (ac ?_)
  exact aA (Sub.cons rfl (zz7 4 rfl))
 ·intro hT3
  refine zz6 hT3 (zz6 hT3 (zz6 hT3 (zz0 (aN rfl hT3 rfl) ?_)))
  refine az (ac ?_)
  exact aA (Sub.cons rfl (zz7 4 rfl))
 refine zz0 (aa rfl) ?_
 apply cF
 ·exact (rfl : _ = (4, 16, 20))
 ·exact rfl
 ·intro hF4; have hF4' := hF4
  try simp only [bs] at hF4'
  refine zz5 hF4 (zz1 (off := 2) (ft := 3) rfl af rfl ay) ?_
  refine zz5 hF4 (aH rfl aI) ?_
  refine zz5 hF4 (aY rfl rfl) (zz0 (aK rfl hF4 rfl) ?_)
  refine az (ac ?_)
  exact aA (Sub.cons rfl (zz7 4 rfl))
 ·intro hT4
  refine zz6 hT4 (zz6 hT4 (zz6 hT4 (zz0 (aN rfl hT4 rfl) ?_)))
  refine az (ac ?_)
  exact aA (Sub.cons rfl (zz7 4 rfl))
 refine zz0 (aa rfl) ?_
 apply cF
 ·exact (rfl : _ = (4, 21, 25))
 ·exact rfl
 ·intro hF5; have hF5' := hF5
  try simp only [bs] at hF5'
  refine zz5 hF5 (zz1 (off := 2) (ft := 3) rfl af rfl ay) ?_
  refine zz5 hF5 (aH rfl aI) ?_
  refine zz5 hF5 (aY rfl rfl) (zz0 (aK rfl hF5 rfl) ?_)
  refine az (ac ?_)
  exact aA (Sub.cons rfl (zz7 4 rfl))
 ·intro hT5
  refine zz6 hT5 (zz6 hT5 (zz6 hT5 (zz0 (aN rfl hT5 rfl) ?_)))
  refine az (ac ?_)
  exact aA (Sub.cons rfl (zz7 4 rfl))
 refine zz0 (aa rfl) ?_
 apply cF
 ·exact (rfl : _ = (4, 26, 30))
 ·exact rfl
 ·intro hF6; have hF6' := hF6
  try simp only [bs] at hF6'
  refine zz5 hF6 (zz1 (off := 2) (ft := 3) rfl af rfl ay) ?_
  refine zz5 hF6 (aH rfl aI) ?_
  refine zz5 hF6 (aY rfl rfl) (zz0 (aK rfl hF6 rfl) ?_)
  refine az (ac ?_)
  exact aA (Sub.cons rfl (zz7 4 rfl))
 ·intro hT6
  refine zz6 hT6 (zz6 hT6 (zz6 hT6 (zz0 (aN rfl hT6 rfl) ?_)))
  refine az (ac ?_)
  exact aA (Sub.cons rfl (zz7 4 rfl))
 refine zz0 (aa rfl) ?_
 apply cF
 ·exact (rfl : _ = (4, 31, 35))
 ·exact rfl
 ·intro hF7; have hF7' := hF7
  try simp only [bs] at hF7'
  refine zz5 hF7 (zz1 (off := 2) (ft := 3) rfl af rfl ay) ?_
  refine zz5 hF7 (aH rfl aI) ?_
  refine zz5 hF7 (aY rfl rfl) (zz0 (aK rfl hF7 rfl) ?_)
  refine az (ac ?_)
  exact aA (Sub.cons rfl (zz7 4 rfl))
 ·intro hT7
  refine zz6 hT7 (zz6 hT7 (zz6 hT7 (zz0 (aN rfl hT7 rfl) ?_)))
  refine az (ac ?_)
  exact aA (Sub.cons rfl (zz7 4 rfl))
 refine zz0 (ab rfl) (ad (aD ?_))
 refine aS Tryz.results217 rfl (fun w' hw => ?_)
 exact ⟨rfl, hw.b0⟩
theorem wH (op : Int) (w : World) :
  Cr Tryz.prog 215 #[.int .i64 op] w (.bool (u3 op)) := by
 refine enter Tryz.func215 rfl Tryz.ntmps215 rfl ?_
 refine ah (zz0 (ab rfl) (aL (zz0 (aa rfl) (zz0 (aY rfl rfl) (zz0 (aa rfl) ?_)))))
 apply cF
 ·exact (rfl : _ = (3, 5, 8))
 ·exact rfl
 ·intro hF1; have hF1' := hF1
  try simp only [bs] at hF1'
  refine zz5 hF1 (aa rfl) (zz5 hF1 (aY rfl rfl) (zz0 (aK rfl hF1 rfl) ?_))
  refine az (ac ?_)
  exact aA (Sub.cons rfl (zz7 3 rfl))
 ·intro hT1
  refine zz6 hT1 (zz6 hT1 (zz0 (aN rfl hT1 rfl) ?_))
  refine az (ac ?_)
  exact aA (Sub.cons rfl (zz7 3 rfl))
 refine zz0 (ab rfl) (ad (aD ?_))
 refine aS Tryz.results215 rfl (fun w' hw => ?_)
 exact ⟨rfl, hw.b0⟩
theorem vL (i : Ins) (w : World) :
  Cr Tryz.prog 210 #[.agg (aP.enc i).toArray] w (.bool (jR i)) := by
 refine enter Tryz.func210 rfl Tryz.ntmps210 rfl ?_
 refine ah ?_
 refine dE rfl rfl (fun b1 => ?_)
 refine zz0 (ab rfl) (ad (al (ah (zz0 (zz1 (off := 2) (ft := 3) rfl af rfl ay) ?_))))
 refine zz0 (aH rfl aI) ?_
 refine zz0 (aC rfl oo (fun w hw => pS i.op w)) ?_
 refine ad ?_
 refine ao rfl ?_ ?_ <;> intro h2 <;> try simp only [bs] at h2
 ·refine ah (zz0 (zz1 (off := 3) (ft := 3) rfl af rfl ay) ?_)
  refine zz0 (aH rfl aI) ?_
  refine zz0 (d5 rfl rfl) (zz0 (aa rfl) ?_)
  apply bV
  ·exact (rfl : _ = (4, 9, 13))
  ·exact rfl
  ·intro hT3; have hT3' := hT3
   try simp only [bs] at hT3'
   refine zz5 hT3 (zz1 (off := 3) (ft := 3) rfl af rfl ay) ?_
   refine zz5 hT3 (aH rfl aI) ?_
   refine zz5 hT3 (fE rfl rfl) (zz0 (aN rfl hT3 rfl) ?_)
   refine az (ac ?_)
   exact aA (Sub.cons rfl (zz7 4 rfl))
  ·intro hF3
   refine zz6 hF3 (zz6 hF3 (zz6 hF3 (zz0 (aK rfl hF3 rfl) ?_)))
   refine az (ac ?_)
   exact aA (Sub.cons rfl (zz7 4 rfl))
  refine zz0 (ab rfl) (ad (aD (aB ?_)))
  refine aS mV rfl (fun w' hw => ?_)
  exact ⟨by clear hw; unfold jR; (repeat (first | rw [if_pos (by first | assumption | omega | grind)] | rw [if_neg (by first | assumption | omega | grind)])) <;> rfl, hw.b0⟩
 refine bB (al (ah (zz0 (zz1 (off := 2) (ft := 3) rfl af rfl ay) ?_)))
 refine zz0 (aH rfl aI) ?_
 refine zz0 (aY rfl rfl) (ad ?_)
 refine ao rfl ?_ ?_ <;> intro h4 <;> try simp only [bs] at h4
 ·refine ah (zz0 (zz1 (off := 3) (ft := 3) rfl af rfl ay) ?_)
  refine zz0 (aH rfl aI) ?_
  refine zz0 (aY rfl rfl) (zz0 (aa rfl) ?_)
  apply cF
  ·exact (rfl : _ = (4, 20, 24))
  ·exact rfl
  ·intro hF5; have hF5' := hF5
   try simp only [bs] at hF5'
   refine zz5 hF5 (zz1 (off := 3) (ft := 3) rfl af rfl ay) ?_
   refine zz5 hF5 (aH rfl aI) ?_
   refine zz5 hF5 (aY rfl rfl) (zz0 (aK rfl hF5 rfl) ?_)
   refine az (ac ?_)
   exact aA (Sub.cons rfl (zz7 4 rfl))
  ·intro hT5
   refine zz6 hT5 (zz6 hT5 (zz6 hT5 (zz0 (aN rfl hT5 rfl) ?_)))
   refine az (ac ?_)
   exact aA (Sub.cons rfl (zz7 4 rfl))
  refine zz0 (ab rfl) (ad (aD (aB ?_)))
  refine aS mV rfl (fun w' hw => ?_)
  exact ⟨by clear hw; unfold jR; (repeat (first | rw [if_pos (by first | assumption | omega | grind)] | rw [if_neg (by first | assumption | omega | grind)])) <;> rfl, hw.b0⟩
 refine df (zz0 (zz1 (off := 3) (ft := 3) rfl af rfl ay) ?_)
 refine zz0 (aH rfl aI) ?_
 refine zz0 (aY rfl rfl) (zz0 (ab rfl) (ad (aD ?_)))
 refine aS mV rfl (fun w' hw => ?_)
 exact ⟨by clear hw; unfold jR; (repeat (first | rw [if_pos (by first | assumption | omega | grind)] | rw [if_neg (by first | assumption | omega | grind)])) <;> rfl, hw.b0⟩
theorem ud (i : Ins) (w : World) :
  Cr Tryz.prog 211 #[.agg (aP.enc i).toArray] w (.bool (iQ i)) := by
 refine enter Tryz.func211 rfl Tryz.ntmps211 rfl ?_
 refine ah ?_
 refine dE rfl rfl (fun b1 => ?_)
 refine zz0 (ab rfl) (ad (al (ah (zz0 (zz1 (off := 2) (ft := 3) rfl af rfl ay) ?_))))
 refine zz0 (aH rfl aI) ?_
 refine zz0 (aY rfl rfl) (ad ?_)
 refine ao rfl ?_ ?_ <;> intro h2 <;> try simp only [bs] at h2
 ·refine ah (zz0 (zz1 (off := 4) (ft := 3) rfl af rfl ay) ?_)
  refine zz0 (aH rfl aI) ?_
  refine zz0 (aY rfl rfl) (zz0 (aa rfl) ?_)
  apply cF
  ·exact (rfl : _ = (4, 9, 13))
  ·exact rfl
  ·intro hF3; have hF3' := hF3
   try simp only [bs] at hF3'
   refine zz5 hF3 (zz1 (off := 4) (ft := 3) rfl af rfl ay) ?_
   refine zz5 hF3 (aH rfl aI) ?_
   refine zz5 hF3 (aY rfl rfl) (zz0 (aK rfl hF3 rfl) ?_)
   refine az (ac ?_)
   exact aA (Sub.cons rfl (zz7 4 rfl))
  ·intro hT3
   refine zz6 hT3 (zz6 hT3 (zz6 hT3 (zz0 (aN rfl hT3 rfl) ?_)))
   refine az (ac ?_)
   exact aA (Sub.cons rfl (zz7 4 rfl))
  refine zz0 (ab rfl) (ad (aD (aB ?_)))
  refine aS mU rfl (fun w' hw => ?_)
  exact ⟨by clear hw; unfold iQ; (repeat (first | rw [if_pos (by first | assumption | omega | grind)] | rw [if_neg (by first | assumption | omega | grind)])) <;> rfl, hw.b0⟩
 refine bB (al (ah (zz0 (zz1 (off := 2) (ft := 3) rfl af rfl ay) ?_)))
 refine zz0 (aH rfl aI) ?_
 refine zz0 (aC rfl om (fun w hw => lu i.op w)) ?_
 refine ad ?_
 refine ao rfl ?_ ?_ <;> intro h4 <;> try simp only [bs] at h4
 ·refine ah (zz0 (zz1 (off := 4) (ft := 3) rfl af rfl ay) ?_)
  refine zz0 (aH rfl aI) ?_
  refine zz0 (aY rfl rfl) (zz0 (aa rfl) ?_)
  apply cF
  ·exact (rfl : _ = (4, 20, 24))
  ·exact rfl
  ·intro hF5; have hF5' := hF5
   try simp only [bs] at hF5'
   refine zz5 hF5 (zz1 (off := 4) (ft := 3) rfl af rfl ay) ?_
   refine zz5 hF5 (aH rfl aI) ?_
   refine zz5 hF5 (aY rfl rfl) (zz0 (aK rfl hF5 rfl) ?_)
   refine az (ac ?_)
   exact aA (Sub.cons rfl (zz7 4 rfl))
  ·intro hT5
   refine zz6 hT5 (zz6 hT5 (zz6 hT5 (zz0 (aN rfl hT5 rfl) ?_)))
   refine az (ac ?_)
   exact aA (Sub.cons rfl (zz7 4 rfl))
  refine zz0 (aa rfl) ?_
  apply cF
  ·exact (rfl : _ = (4, 25, 29))
  ·exact rfl
  ·intro hF6; have hF6' := hF6
   try simp only [bs] at hF6'
   refine zz5 hF6 (zz1 (off := 4) (ft := 3) rfl af rfl ay) ?_
   refine zz5 hF6 (aH rfl aI) ?_
   refine zz5 hF6 (aY rfl rfl) (zz0 (aK rfl hF6 rfl) ?_)
   refine az (ac ?_)
   exact aA (Sub.cons rfl (zz7 4 rfl))
  ·intro hT6
   refine zz6 hT6 (zz6 hT6 (zz6 hT6 (zz0 (aN rfl hT6 rfl) ?_)))
   refine az (ac ?_)
   exact aA (Sub.cons rfl (zz7 4 rfl))
  refine zz0 (ab rfl) (ad (aD (aB ?_)))
  refine aS mU rfl (fun w' hw => ?_)
  exact ⟨by clear hw; unfold iQ; (repeat (first | rw [if_pos (by first | assumption | omega | grind)] | rw [if_neg (by first | assumption | omega | grind)])) <;> rfl, hw.b0⟩
 refine df (zz0 (zz1 (off := 4) (ft := 3) rfl af rfl ay) ?_)
 refine zz0 (aH rfl aI) ?_
 refine zz0 (aY rfl rfl) (zz0 (ab rfl) (ad (aD ?_)))
 refine aS mU rfl (fun w' hw => ?_)
 exact ⟨by clear hw; unfold iQ; (repeat (first | rw [if_pos (by first | assumption | omega | grind)] | rw [if_neg (by first | assumption | omega | grind)])) <;> rfl, hw.b0⟩
theorem xC (i : Ins) (w : World) :
  Cr Tryz.prog 153 #[.agg (aP.enc i).toArray] w (.int .i64 (jh i)) := by
 refine enter Tryz.func153 rfl Tryz.ntmps153 rfl ?_
 refine ah ?_
 refine dE rfl rfl (fun b1 => ?_)
 refine zz0 (ab rfl) (ad (al (ah (zz0 (zz1 (off := 2) (ft := 3) rfl af rfl ay) ?_))))
 refine zz0 (aH rfl aI) ?_
 refine zz0 (bS rfl rfl) (zz0 (aa rfl) ?_)
 apply cF
 ·exact (rfl : _ = (4, 6, 10))
 ·exact rfl
 ·intro hF2; have hF2' := hF2
  try simp only [bs] at hF2'
  refine zz5 hF2 (zz1 (off := 2) (ft := 3) rfl af rfl ay) ?_
  refine zz5 hF2 (aH rfl aI) ?_
  refine zz5 hF2 (eU rfl rfl) (zz0 (aK rfl hF2 rfl) ?_)
  refine az (ac ?_)
  exact aA (Sub.cons rfl (zz7 4 rfl))
 ·intro hT2
  refine zz6 hT2 (zz6 hT2 (zz6 hT2 (zz0 (aN rfl hT2 rfl) ?_)))
  refine az (ac ?_)
  exact aA (Sub.cons rfl (zz7 4 rfl))
 refine zz0 (aa rfl) ?_
 apply cF
 ·exact (rfl : _ = (4, 11, 15))
 ·exact rfl
 ·intro hF3; have hF3' := hF3
  try simp only [bs] at hF3'
  refine zz5 hF3 (bE rfl aQ au) ?_
  refine zz5 hF3 (aC rfl Tryz.call210 (fun w hw => vL i w)) ?_
  refine zz5 hF3 (cj rfl) (zz0 (aK rfl hF3 rfl) ?_)
  refine az (ac ?_)
  exact aA (Sub.cons rfl (zz7 4 rfl))
 ·intro hT3
  refine zz6 hT3 (zz6 hT3 (zz6 hT3 (zz0 (aN rfl hT3 rfl) ?_)))
  refine az (ac ?_)
  exact aA (Sub.cons rfl (zz7 4 rfl))
 refine zz0 (aa rfl) ?_
 apply cF
 ·exact (rfl : _ = (4, 16, 20))
 ·exact rfl
 ·intro hF4; have hF4' := hF4
  try simp only [bs] at hF4'
  refine zz5 hF4 (bE rfl aQ au) ?_
  refine zz5 hF4 (aC rfl Tryz.call211 (fun w hw => ud i w)) ?_
  refine zz5 hF4 (cj rfl) (zz0 (aK rfl hF4 rfl) ?_)
  refine az (ac ?_)
  exact aA (Sub.cons rfl (zz7 4 rfl))
 ·intro hT4
  refine zz6 hT4 (zz6 hT4 (zz6 hT4 (zz0 (aN rfl hT4 rfl) ?_)))
  refine az (ac ?_)
  exact aA (Sub.cons rfl (zz7 4 rfl))
 refine ad ?_
 refine ao rfl ?_ ?_ <;> intro h5 <;> try simp only [bs] at h5
 ·refine ah (zz0 (ab rfl) (ad (aD (aB ?_))))
  refine aS iI rfl (fun w' hw => ?_)
  exact ⟨by clear hw; unfold jh; (repeat (first | rw [if_pos (by first | assumption | omega | grind)] | rw [if_neg (by first | assumption | omega | grind)])) <;> rfl, hw.b0⟩
 refine bB (al (ah (zz0 (zz1 (off := 2) (ft := 3) rfl af rfl ay) ?_)))
 refine zz0 (aH rfl aI) ?_
 refine zz0 (aC rfl Tryz.call212 (fun w hw => zM i.op w)) ?_
 refine zz0 (aa rfl) ?_
 apply bV
 ·exact (rfl : _ = (5, 24, 29))
 ·exact rfl
 ·intro hT6; have hT6' := hT6
  try simp only [bs] at hT6'
  refine zz5 hT6 (zz1 (off := 6) (ft := 3) rfl af rfl ay) ?_
  refine zz5 hT6 (aH rfl aI) ?_
  refine zz5 hT6 (aC rfl Tryz.call213 (fun w hw => wE i.a w)) ?_
  refine zz5 hT6 (cj rfl) (zz0 (aN rfl hT6 rfl) ?_)
  refine az (ac ?_)
  exact aA (Sub.cons rfl (zz7 5 rfl))
 ·intro hF6
  refine zz6 hF6 (zz6 hF6 (zz6 hF6 (zz6 hF6 (zz0 (aK rfl hF6 rfl) ?_))))
  refine az (ac ?_)
  exact aA (Sub.cons rfl (zz7 5 rfl))
 refine zz0 (aa rfl) ?_
 apply cF
 ·exact (rfl : _ = (10, 30, 40))
 ·exact rfl
 ·intro hF7; have hF7' := hF7
  try simp only [bs] at hF7'
  refine zz5 hF7 (zz1 (off := 2) (ft := 3) rfl af rfl ay) ?_
  refine zz5 hF7 (aH rfl aI) ?_
  refine zz5 hF7 (aC rfl Tryz.call212 (fun w hw => zM i.op w)) ?_
  refine zz5 hF7 (cj rfl) (zz5 hF7 (aa rfl) ?_)
  apply bV
  ·exact (rfl : _ = (4, 35, 39))
  ·exact rfl
  ·intro hT8; have hT8' := hT8
   try simp only [bs] at hT8'
   refine zz5 hT8 (zz1 (off := 6) (ft := 3) rfl af rfl ay) ?_
   refine zz5 hT8 (aH rfl aI) ?_
   refine zz5 hT8 (fa rfl rfl) (zz5 hF7 (aN rfl hT8 rfl) ?_)
   refine az (ac ?_)
   exact aA (Sub.cons rfl (zz7 4 rfl))
  ·intro hF8
   refine zz6 hF8 (zz6 hF8 (zz6 hF8 (zz5 hF7 (aK rfl hF8 rfl) ?_)))
   refine az (ac ?_)
   exact aA (Sub.cons rfl (zz7 4 rfl))
  refine zz0 (aK rfl hF7 rfl) ?_
  refine az (ac ?_)
  exact aA (Sub.cons rfl (zz7 7 rfl))
 ·intro hT7
  refine zz6 hT7 (zz6 hT7 (zz6 hT7 (zz6 hT7 (zz6 hT7 (fw ?_)))))
  refine fw ?_
  refine fw ?_
  refine zz6 hT7 (zz0 (aN rfl hT7 rfl) ?_)
  refine az (ac ?_)
  exact aA (Sub.cons rfl (zz7 10 rfl))
 refine zz0 (aa rfl) ?_
 apply cF
 ·exact (rfl : _ = (9, 41, 50))
 ·exact rfl
 ·intro hF9; have hF9' := hF9
  try simp only [bs] at hF9'
  refine zz5 hF9 (bE rfl aQ au) ?_
  refine zz5 hF9 (aC rfl Tryz.call214 (fun w hw => zK i w)) ?_
  refine zz5 hF9 (aa rfl) ?_
  apply bV
  ·exact (rfl : _ = (5, 44, 49))
  ·exact rfl
  ·intro hT10; have hT10' := hT10
   try simp only [bs] at hT10'
   refine zz5 hT10 (zz1 (off := 7) (ft := 3) rfl af rfl ay) ?_
   refine zz5 hT10 (aH rfl aI) ?_
   refine zz5 hT10 (aC rfl Tryz.call213 (fun w hw => wE i.b w)) ?_
   refine zz5 hT10 (cj rfl) (zz5 hF9 (aN rfl hT10 rfl) ?_)
   refine az (ac ?_)
   exact aA (Sub.cons rfl (zz7 5 rfl))
  ·intro hF10
   refine zz6 hF10 (zz6 hF10 (zz6 hF10 (zz6 hF10 (zz5 hF9 (aK rfl hF10 rfl) ?_))))
   refine az (ac ?_)
   exact aA (Sub.cons rfl (zz7 5 rfl))
  refine zz0 (aK rfl hF9 rfl) ?_
  refine az (ac ?_)
  exact aA (Sub.cons rfl (zz7 5 rfl))
 ·intro hT9
  refine zz6 hT9 (zz6 hT9 (zz6 hT9 (fw ?_)))
  refine fw ?_
  refine fw ?_
  refine fw ?_
  refine zz6 hT9 (zz0 (aN rfl hT9 rfl) ?_)
  refine az (ac ?_)
  exact aA (Sub.cons rfl (zz7 9 rfl))
 refine zz0 (aa rfl) ?_
 apply cF
 ·exact (rfl : _ = (9, 51, 60))
 ·exact rfl
 ·intro hF11; have hF11' := hF11
  try simp only [bs] at hF11'
  refine zz5 hF11 (bE rfl aQ au) ?_
  refine zz5 hF11 (aC rfl Tryz.call214 (fun w hw => zK i w)) ?_
  refine zz5 hF11 (cj rfl) (zz5 hF11 (aa rfl) ?_)
  apply bV
  ·exact (rfl : _ = (4, 55, 59))
  ·exact rfl
  ·intro hT12; have hT12' := hT12
   try simp only [bs] at hT12'
   refine zz5 hT12 (zz1 (off := 7) (ft := 3) rfl af rfl ay) ?_
   refine zz5 hT12 (aH rfl aI) ?_
   refine zz5 hT12 (fa rfl rfl) (zz5 hF11 (aN rfl hT12 rfl) ?_)
   refine az (ac ?_)
   exact aA (Sub.cons rfl (zz7 4 rfl))
  ·intro hF12
   refine zz6 hF12 (zz6 hF12 (zz6 hF12 (zz5 hF11 (aK rfl hF12 rfl) ?_)))
   refine az (ac ?_)
   exact aA (Sub.cons rfl (zz7 4 rfl))
  refine zz0 (aK rfl hF11 rfl) ?_
  refine az (ac ?_)
  exact aA (Sub.cons rfl (zz7 6 rfl))
 ·intro hT11
  refine zz6 hT11 (zz6 hT11 (zz6 hT11 (zz6 hT11 (fw ?_))))
  refine fw ?_
  refine fw ?_
  refine zz6 hT11 (zz0 (aN rfl hT11 rfl) ?_)
  refine az (ac ?_)
  exact aA (Sub.cons rfl (zz7 9 rfl))
 refine ad ?_
 refine ao rfl ?_ ?_ <;> intro h13 <;> try simp only [bs] at h13
 ·refine ah (zz0 (ab rfl) (ad (aD (aB ?_))))
  refine aS iI rfl (fun w' hw => ?_)
  exact ⟨by clear hw; unfold jh; (repeat (first | rw [if_pos (by first | assumption | omega | grind)] | rw [if_neg (by first | assumption | omega | grind)])) <;> rfl, hw.b0⟩
 refine bB (al (ah (zz0 (zz1 (off := 2) (ft := 3) rfl af rfl ay) ?_)))
 refine zz0 (aH rfl aI) ?_
 refine zz0 (aC rfl Tryz.call215 (fun w hw => wH i.op w)) ?_
 refine zz0 (aa rfl) ?_
 apply bV
 ·exact (rfl : _ = (5, 64, 69))
 ·exact rfl
 ·intro hT14; have hT14' := hT14
  try simp only [bs] at hT14'
  refine zz5 hT14 (zz1 (off := 5) (ft := 3) rfl af rfl ay) ?_
  refine zz5 hT14 (aH rfl aI) ?_
  refine zz5 hT14 (aC rfl Tryz.call216 (fun w hw => E6 i.cc w)) ?_
  refine zz5 hT14 (cj rfl) (zz0 (aN rfl hT14 rfl) ?_)
  refine az (ac ?_)
  exact aA (Sub.cons rfl (zz7 5 rfl))
 ·intro hF14
  refine zz6 hF14 (zz6 hF14 (zz6 hF14 (zz6 hF14 (zz0 (aK rfl hF14 rfl) ?_))))
  refine az (ac ?_)
  exact aA (Sub.cons rfl (zz7 5 rfl))
 refine zz0 (aa rfl) ?_
 apply cF
 ·exact (rfl : _ = (10, 70, 80))
 ·exact rfl
 ·intro hF15; have hF15' := hF15
  try simp only [bs] at hF15'
  refine zz5 hF15 (zz1 (off := 2) (ft := 3) rfl af rfl ay) ?_
  refine zz5 hF15 (aH rfl aI) ?_
  refine zz5 hF15 (aC rfl Tryz.call215 (fun w hw => wH i.op w)) ?_
  refine zz5 hF15 (cj rfl) (zz5 hF15 (aa rfl) ?_)
  apply bV
  ·exact (rfl : _ = (4, 75, 79))
  ·exact rfl
  ·intro hT16; have hT16' := hT16
   try simp only [bs] at hT16'
   refine zz5 hT16 (zz1 (off := 5) (ft := 3) rfl af rfl ay) ?_
   refine zz5 hT16 (aH rfl aI) ?_
   refine zz5 hT16 (fa rfl rfl) (zz5 hF15 (aN rfl hT16 rfl) ?_)
   refine az (ac ?_)
   exact aA (Sub.cons rfl (zz7 4 rfl))
  ·intro hF16
   refine zz6 hF16 (zz6 hF16 (zz6 hF16 (zz5 hF15 (aK rfl hF16 rfl) ?_)))
   refine az (ac ?_)
   exact aA (Sub.cons rfl (zz7 4 rfl))
  refine zz0 (aK rfl hF15 rfl) ?_
  refine az (ac ?_)
  exact aA (Sub.cons rfl (zz7 7 rfl))
 ·intro hT15
  refine zz6 hT15 (zz6 hT15 (zz6 hT15 (zz6 hT15 (zz6 hT15 (fw ?_)))))
  refine fw ?_
  refine fw ?_
  refine zz6 hT15 (zz0 (aN rfl hT15 rfl) ?_)
  refine az (ac ?_)
  exact aA (Sub.cons rfl (zz7 10 rfl))
 refine zz0 (aa rfl) ?_
 apply cF
 ·exact (rfl : _ = (9, 81, 90))
 ·exact rfl
 ·intro hF17; have hF17' := hF17
  try simp only [bs] at hF17'
  refine zz5 hF17 (bE rfl aQ au) ?_
  refine zz5 hF17 (aC rfl Tryz.call217 (fun w hw => Be i w)) ?_
  refine zz5 hF17 (cj rfl) (zz5 hF17 (aa rfl) ?_)
  apply bV
  ·exact (rfl : _ = (4, 85, 89))
  ·exact rfl
  ·intro hT18; have hT18' := hT18
   try simp only [bs] at hT18'
   refine zz5 hT18 (zz1 (off := 1) (ft := 23) rfl af rfl ae) ?_
   refine zz5 hT18 (aH rfl am) ?_
   refine zz5 hT18 (jc (n := 0) rfl rfl) ?_
   refine zz5 hF17 (aN rfl hT18 rfl) ?_
   refine az (ac ?_)
   exact aA (Sub.cons rfl (zz7 4 rfl))
  ·intro hF18
   refine zz6 hF18 (zz6 hF18 (zz6 hF18 (zz5 hF17 (aK rfl hF18 rfl) ?_)))
   refine az (ac ?_)
   exact aA (Sub.cons rfl (zz7 4 rfl))
  refine zz0 (aK rfl hF17 rfl) ?_
  refine az (ac ?_)
  exact aA (Sub.cons rfl (zz7 6 rfl))
 ·intro hT17
  refine zz6 hT17 (zz6 hT17 (zz6 hT17 (zz6 hT17 (fw ?_))))
  refine fw ?_
  refine fw ?_
  refine zz6 hT17 (zz0 (aN rfl hT17 rfl) ?_)
  refine az (ac ?_)
  exact aA (Sub.cons rfl (zz7 9 rfl))
 refine ad ?_
 refine ao rfl ?_ ?_ <;> intro h19 <;> try simp only [bs] at h19
 ·refine ah (zz0 (ab rfl) (ad (aD (aB ?_))))
  refine aS iI rfl (fun w' hw => ?_)
  exact ⟨by clear hw; unfold jh; (repeat (first | rw [if_pos (by first | assumption | omega | grind)] | rw [if_neg (by first | assumption | omega | grind)])) <;> rfl, hw.b0⟩
 refine bB ?_
 refine db (ι := Unit) (fun u => ¬ (((lT i.op = true ∧ i.form = 1) ∨ lU i.op = true ∨ i.op = 19) ∧ lr i.imm = false)) (fun _ => Bg.of w) (fun u => [cellE b1 (aP.enc i) 36]) (fun u => []) ?_ (fun u hi => ?_)
 ·skip
  refine ah (zz0 (zz1 (off := 2) (ft := 3) rfl af rfl ay) ?_)
  refine zz0 (aH rfl aI) ?_
  refine zz0 (aC rfl oo (fun w hw => pS i.op w)) ?_
  refine zz0 (aa rfl) ?_
  apply bV
  ·exact (rfl : _ = (4, 94, 98))
  ·exact rfl
  ·intro hT20; have hT20' := hT20
   try simp only [bs] at hT20'
   refine zz5 hT20 (zz1 (off := 3) (ft := 3) rfl af rfl ay) ?_
   refine zz5 hT20 (aH rfl aI) ?_
   refine zz5 hT20 (aY rfl rfl) (zz0 (aN rfl hT20 rfl) ?_)
   refine az (ac ?_)
   exact aA (Sub.cons rfl (zz7 4 rfl))
  ·intro hF20
   refine zz6 hF20 (zz6 hF20 (zz6 hF20 (zz0 (aK rfl hF20 rfl) ?_)))
   refine az (ac ?_)
   exact aA (Sub.cons rfl (zz7 4 rfl))
  refine zz0 (aa rfl) ?_
  apply cF
  ·exact (rfl : _ = (4, 99, 103))
  ·exact rfl
  ·intro hF21; have hF21' := hF21
   try simp only [bs] at hF21'
   refine zz5 hF21 (zz1 (off := 2) (ft := 3) rfl af rfl ay) ?_
   refine zz5 hF21 (aH rfl aI) ?_
   refine zz5 hF21 (aC rfl om (fun w hw => lu i.op w)) ?_
   refine zz0 (aK rfl hF21 rfl) ?_
   refine az (ac ?_)
   exact aA (Sub.cons rfl (zz7 4 rfl))
  ·intro hT21
   refine zz6 hT21 (zz6 hT21 (zz6 hT21 (zz0 (aN rfl hT21 rfl) ?_)))
   refine az (ac ?_)
   exact aA (Sub.cons rfl (zz7 4 rfl))
  refine zz0 (aa rfl) ?_
  apply cF
  ·exact (rfl : _ = (4, 104, 108))
  ·exact rfl
  ·intro hF22; have hF22' := hF22
   try simp only [bs] at hF22'
   refine zz5 hF22 (zz1 (off := 2) (ft := 3) rfl af rfl ay) ?_
   refine zz5 hF22 (aH rfl aI) ?_
   refine zz5 hF22 (aY rfl rfl) (zz0 (aK rfl hF22 rfl) ?_)
   refine az (ac ?_)
   exact aA (Sub.cons rfl (zz7 4 rfl))
  ·intro hT22
   refine zz6 hT22 (zz6 hT22 (zz6 hT22 (zz0 (aN rfl hT22 rfl) ?_)))
   refine az (ac ?_)
   exact aA (Sub.cons rfl (zz7 4 rfl))
  refine ad ?_
  refine ao rfl ?_ ?_ <;> intro h23 <;> try simp only [bs] at h23
  ·refine ah (zz0 (zz1 (off := 1) (ft := 23) rfl af rfl ae) ?_)
   refine zz0 (aH rfl am) ?_
   refine zz0 (aC rfl Tryz.call220 (fun w hw => uY i.imm w)) ?_
   refine zz0 (cj rfl) (ad ?_)
   refine ao rfl ?_ ?_ <;> intro h24 <;> try simp only [bs] at h24
   ·refine ah (zz0 (ab rfl) (ad (aD (aB ?_))))
    refine aS iI rfl (fun w' hw => ?_)
    exact ⟨by clear hw; unfold jh; (repeat (first | rw [if_pos (by first | assumption | omega | grind)] | rw [if_neg (by first | assumption | omega | grind)])) <;> rfl, hw.b0⟩
   refine bB ?_
   refine cw () Front.nil (bA 13 rfl) (o := (by grind))
  refine bB ?_
  refine cw () Front.nil (bA 9 rfl) (o := (by grind))
 skip
 replace hi : ¬ (((lT i.op = true ∧ i.form = 1) ∨ lU i.op = true ∨ i.op = 19) ∧ lr i.imm = false) := hi
 change Tr _ _ [cellE b1 (aP.enc i) 36] ([] ++ _) _
 refine al (ah (zz0 (zz1 (off := 2) (ft := 3) rfl af rfl ay) ?_))
 refine zz0 (aH rfl aI) ?_
 refine zz0 (aY rfl rfl) (zz0 (aa rfl) ?_)
 apply bV
 ·exact (rfl : _ = (4, 116, 120))
 ·exact rfl
 ·intro hT25; have hT25' := hT25
  try simp only [bs] at hT25'
  refine zz5 hT25 (zz1 (off := 3) (ft := 3) rfl af rfl ay) ?_
  refine zz5 hT25 (aH rfl aI) ?_
  refine zz5 hT25 (aY rfl rfl) (zz0 (aN rfl hT25 rfl) ?_)
  refine az (ac ?_)
  exact aA (Sub.cons rfl (zz7 4 rfl))
 ·intro hF25
  refine zz6 hF25 (zz6 hF25 (zz6 hF25 (zz0 (aK rfl hF25 rfl) ?_)))
  refine az (ac ?_)
  exact aA (Sub.cons rfl (zz7 4 rfl))
 refine zz0 (aa rfl) ?_
 apply bV
 ·exact (rfl : _ = (9, 121, 130))
 ·exact rfl
 ·intro hT26; have hT26' := hT26
  try simp only [bs] at hT26'
  refine zz5 hT26 (zz1 (off := 1) (ft := 23) rfl af rfl ae) ?_
  refine zz5 hT26 (aH rfl am) ?_
  refine zz5 hT26 (zz1 (off := 0) (ft := 23) rfl af rfl ae) ?_
  refine zz5 hT26 (aH rfl am) ?_
  refine zz5 hT26 (eZ rfl rfl) ?_
  refine zz5 hT26 (eZ (n := 2) rfl rfl) ?_
  refine zz5 hT26 (aC rfl Tryz.call220 (fun w hw => uY (i.imm - i.addr - 2) w)) ?_
  refine zz5 hT26 (cj rfl) (zz0 (aN rfl hT26 rfl) ?_)
  refine az (ac ?_)
  exact aA (Sub.cons rfl (zz7 9 rfl))
 ·intro hF26
  refine zz6 hF26 (zz6 hF26 (zz6 hF26 (zz6 hF26 (zz6 hF26 (zz6 hF26 (zz6 hF26 (zz6 hF26 (zz0 (aK rfl hF26 rfl) ?_))))))))
  refine az (ac ?_)
  exact aA (Sub.cons rfl (zz7 9 rfl))
 refine ad ?_
 refine ao rfl ?_ ?_ <;> intro h27 <;> try simp only [bs] at h27
 ·refine ah (zz0 (ab rfl) (ad (aD (aB ?_))))
  refine aS iI rfl (fun w' hw => ?_)
  exact ⟨by clear hw; unfold jh; (repeat (first | rw [if_pos (by first | assumption | omega | grind)] | rw [if_neg (by first | assumption | omega | grind)])) <;> rfl, hw.b0⟩
 refine df (zz0 (ab rfl) (ad (aD ?_)))
 refine aS iI rfl (fun w' hw => ?_)
 exact ⟨by clear hw; unfold jh; (repeat (first | rw [if_pos (by first | assumption | omega | grind)] | rw [if_neg (by first | assumption | omega | grind)])) <;> rfl, hw.b0⟩
theorem xB (i : Ins) (w : World) :
  Cr Tryz.prog 88 #[.agg (aP.enc i).toArray] w (.bool (decide (jh i = 0))) := by
 refine enter Tryz.func88 rfl Tryz.ntmps88 rfl ?_
 refine ah ?_
 refine dE rfl rfl (fun b1 => ?_)
 refine zz0 (ab rfl) (aL (zz0 (bE rfl aQ au) ?_))
 refine zz0 (aC rfl Tryz.call153 (fun w hw => xC i w)) ?_
 refine zz0 (aY rfl rfl) (zz0 (ab rfl) (ad (aD ?_)))
 refine aS Tryz.results88 rfl (fun w' hw => ?_)
 exact ⟨rfl, hw.b0⟩
end Go.Proofs.YtiajjbhcpeadfaaGreat
namespace Go.Proofs.YtiajjbhcpeadfaaGreat
open Go Go.HL Go.RowKit
theorem u0 (op : Int) (w : World) :
  Cr Tryz.prog 89 #[.int .i64 op] w (.bool (rn op)) := by
 refine enter Tryz.func89 rfl Tryz.ntmps89 rfl ?_
 refine ah (zz0 (ab rfl) (aL (zz0 (aa rfl) (zz0 (aY rfl rfl) (zz0 (aa rfl) ?_)))))
 apply cF
 ·exact (rfl : _ = (3, 5, 8))
 ·exact rfl
 ·intro hF1; have hF1' := hF1
  try simp only [bs] at hF1'
  refine zz5 hF1 (aa rfl) (zz5 hF1 (aY rfl rfl) (zz0 (aK rfl hF1 rfl) ?_))
  refine az (ac ?_)
  exact aA (Sub.cons rfl (zz7 3 rfl))
 ·intro hT1
  refine zz6 hT1 (zz6 hT1 (zz0 (aN rfl hT1 rfl) ?_))
  refine az (ac ?_)
  exact aA (Sub.cons rfl (zz7 3 rfl))
 refine zz0 (aa rfl) ?_
 apply cF
 ·exact (rfl : _ = (3, 9, 12))
 ·exact rfl
 ·intro hF2; have hF2' := hF2
  try simp only [bs] at hF2'
  refine zz5 hF2 (aa rfl) (zz5 hF2 (aY rfl rfl) (zz0 (aK rfl hF2 rfl) ?_))
  refine az (ac ?_)
  exact aA (Sub.cons rfl (zz7 3 rfl))
 ·intro hT2
  refine zz6 hT2 (zz6 hT2 (zz0 (aN rfl hT2 rfl) ?_))
  refine az (ac ?_)
  exact aA (Sub.cons rfl (zz7 3 rfl))
 refine zz0 (ab rfl) (ad (aD ?_))
 refine aS Tryz.results89 rfl (fun w' hw => ?_)
 exact ⟨by unfold rn; congr 2; rw [Bool.eq_iff_iff]; simp [or_assoc], hw.b0⟩
theorem sn (i : Ins) (w : World) (hI : InsOK i) :
  Cr Tryz.prog 31 #[.agg (aP.enc i).toArray] w (.bool (oP i)) := by
 refine enter Tryz.func31 rfl Tryz.ntmps31 rfl ?_
 refine ah ?_
 refine dE rfl rfl (fun b1 => ?_)
 refine zz0 (ab rfl) (aL (zz0 (bE rfl aQ au) ?_))
 refine zz0 (aC rfl Tryz.call88 (fun w hw => by have q := xB i w; rw [Hb] at q; exact q)) ?_
 refine zz0 (aa rfl) ?_
 apply bV
 ·exact (rfl : _ = (4, 5, 9))
 ·exact rfl
 ·intro hT2; have hT2' := hT2
  try simp only [bs] at hT2'
  refine zz5 hT2 (zz1 (off := 2) (ft := 3) rfl af rfl ay) ?_
  refine zz5 hT2 (aH rfl aI) ?_
  refine zz5 hT2 (aC rfl Tryz.call89 (fun w hw => u0 i.op w)) ?_
  refine zz0 (aN rfl hT2 rfl) ?_
  refine az (ac ?_)
  exact aA (Sub.cons rfl (zz7 4 rfl))
 ·intro hF2
  refine zz6 hF2 (zz6 hF2 (zz6 hF2 (zz0 (aK rfl hF2 rfl) ?_)))
  refine az (ac ?_)
  exact aA (Sub.cons rfl (zz7 4 rfl))
 refine zz0 (ab rfl) (ad (aD ?_))
 refine aS Tryz.results31 rfl (fun w' hw => ?_)
 exact ⟨rfl, hw.b0⟩
end Go.Proofs.YtiajjbhcpeadfaaGreat
namespace Go.HL
open Go
theorem oY (L : List Ent) : ∀ B : List Ent, Split (B ++ L) B L
 | [] => .nil _
 | b :: B => .cons (.here _) (oY L B)
section
variable {P : Program} {ops : Array Oper} {Q : Exit → Act → World → Prop} {N : Nat} {F : Bg} {L : List Ent} {M : Fr} {ty : TypeId} {pos : String} {after : Array Edge} {rest : List Oper} {d : Nat}
theorem DU {ι : Type} (φ : ι → Value) (B : ι → List Ent) {ok : ι → Prop} {f : FuncId} {xs : List Operand} {vs : List Value} {ts : Array TypeId} (hx : k5 M xs = some vs)
  (he : ∀ (args : Array Value) (w : World), (callFunc f args).run P w = .ok (.enter f args) w)
  (hc : ∀ w, HpOK F L w → Calls P f vs.toArray w fun e w' => ∃ i, e = .returned (φ i) ∧ Ext w w' ∧ NewEnts w w' (B i) ∧ ok i) (hd : Nat.ble (d + 1) N = true)
  (K : ∀ i F', ok i → F.le F' → (∀ e ∈ B i, e.ok (e.blk.bind F'.blk)) → Tr N F' L ((d, φ i) :: M) (wpList P ops Q rest)) :
  Tr N F L M (wpList P ops Q (⟨some d, .call { callee := .value (.func f), args := xs.toArray, argTypes := ts }, ty, pos, after, none⟩ :: rest)) :=
 jb φ B (ok := ok) hx he hc hd (fun i hi => vk (oY L (B i)) (fun F' hF' hk => K i F' hi hF' hk))
end
end Go.HL
namespace Go.HL
open Go Go.RowKit
def zS (l : List SecV) (ins : List Ins) (ss : List (List StV)) (i : Ins) : Bool := decide (oP i = true ∧ (od ins i.addr ss).2 = true ∧ (cZ l i ((od ins i.addr ss).1.get i.a)).2 = 0)
theorem DG (l : List SecV) (ins : List Ins) (ss : List (List StV)) (xs : List Ins) :
  lZ l ins ss xs = ⟨(xs.filter (zS l ins ss)).map fun i => (cZ l i ((od ins i.addr ss).1.get i.a)).1, (xs.filter (zS l ins ss)).map (·.addr)⟩ := by
 have key : ∀ (xs : List Ins) (f : FndV), xs.foldl (jY l ins ss) f = ⟨f.ts ++ (xs.filter (zS l ins ss)).map fun i => (cZ l i ((od ins i.addr ss).1.get i.a)).1, f.at_ ++ (xs.filter (zS l ins ss)).map (·.addr)⟩ := by
  intro xs
  induction xs with
  | nil => intro f; simp
  | cons x xs ih =>
   intro f
   rw [List.foldl_cons, ih, List.filter_cons]
   by_cases h : oP x = true ∧ (od ins x.addr ss).2 = true ∧ (cZ l x ((od ins x.addr ss).1.get x.a)).2 = 0
   ·rw [show jY l ins ss f x = _ from if_pos h, if_pos (show zS l ins ss x = true from decide_eq_true h)]
    simp
   ·rw [show jY l ins ss f x = f from if_neg h, if_neg (by unfold zS; rw [decide_eq_false h]; simp)]
 have := key xs ⟨[], []⟩
 simpa [lZ] using this
def u6 (ins : List Ins) (a : UInt32) : Ins × Bool :=
 if dF (fun i : Ins => decide (i.addr = a)) 0 ins < 0 then (⟨0, 0, 0, 0, 0, 0, 0, 0, 0⟩, false) else (ins.getD (dF (fun i : Ins => decide (i.addr = a)) 0 ins).toNat default, true)
theorem DD {ins : List Ins} (hs : ins.Pairwise fun a b => ltA a b = true) {i : Ins} (hi : i ∈ ins) : u6 ins i.addr = (i, true) := by
 have key : ∀ (xs : List Ins) (k : Nat), xs.Pairwise (fun a b => ltA a b = true) → i ∈ xs → (k : Int) ≤ dF (fun j : Ins => decide (j.addr = i.addr)) k xs ∧ xs.getD (dF (fun j : Ins => decide (j.addr = i.addr)) k xs - k).toNat default = i := by
  intro xs
  induction xs with
  | nil => intro k _ h; cases h
  | cons x xs ih =>
   intro k hp h
   rw [List.pairwise_cons] at hp
   unfold dF
   by_cases hx : x.addr = i.addr
   ·rw [if_pos (decide_eq_true hx)]
    refine ⟨Int.le_refl _, ?_⟩
    rw [Int.sub_self]
    rcases List.mem_cons.1 h with e | h
    ·subst e; rfl
    ·have := hp.1 i h
     simp only [ltA, decide_eq_true_eq, hx] at this
     exact absurd this (UInt32.lt_irrefl _)
   ·rw [if_neg (by rw [decide_eq_false hx]; simp)]
    rcases List.mem_cons.1 h with e | h
    ·subst e; exact absurd rfl hx
    ·obtain ⟨h1, h2⟩ := ih (k + 1) hp.2 h
     refine ⟨by omega, ?_⟩
     rw [show (dF (fun j : Ins => decide (j.addr = i.addr)) (k + 1) xs - (k : Int)).toNat = (dF (fun j : Ins => decide (j.addr = i.addr)) (k + 1) xs - ((k + 1 : Nat) : Int)).toNat + 1 by omega, List.getD_cons_succ]
     exact h2
 obtain ⟨h1, h2⟩ := key ins 0 hs hi
 unfold u6
 rw [if_neg (by omega)]
 rw [show (dF (fun j : Ins => decide (j.addr = i.addr)) 0 ins - ((0 : Nat) : Int)) = dF (fun j : Ins => decide (j.addr = i.addr)) 0 ins by omega] at h2
 rw [h2]
theorem A9 {ts : List TabV} {at_ : List UInt32} {a : UInt32} : (eY ts at_ a).isNone = true ↔ a ∉ at_ := by
 have key : ∀ (xs : List UInt32) (k : Nat), dF (fun x => decide (a = x)) k xs < 0 ↔ a ∉ xs := by
  intro xs
  induction xs with
  | nil => intro k; simp [dF]
  | cons x xs ih =>
   intro k
   unfold dF
   by_cases hx : a = x
   ·rw [if_pos (decide_eq_true hx)]; simp [hx]
   ·rw [if_neg (by rw [decide_eq_false hx]; simp), ih]; simp [hx]
 unfold eY
 split
 ·rename_i h; rw [key] at h; simp [h]
 ·rename_i h; rw [key] at h; simp [h]
structure FixOK (l : List SecV) (es : List UInt32) (o : CodeP × FndV × Int) : Prop where
 len : o.2.1.ts.length = o.2.1.at_.length
 walk : ∀ (ts : List TabV) (c : CodeP) (e : Int), ts.map (·.data) = o.2.1.ts → WalkIs l ts o.2.1.at_ es c e → e = 0 ∧ (fV c.ins c.ents c.unk c.bad).kept = o.1.ins ∧ (fV c.ins c.ents c.unk c.bad).ents = o.1.ents ∧ (fV c.ins c.ents c.unk c.bad).unk = o.1.unk
 srt : o.1.ins.Pairwise fun a b => ltA a b = true
 ok : ∀ i ∈ o.1.ins, InsOK i
 asc : o.2.1.at_.Pairwise (· < ·)
 inn : ∀ a ∈ o.2.1.at_, ∃ i ∈ o.1.ins, i.addr = a ∧ oP i = true
 rest : ∀ i ∈ o.1.ins, oP i = true → (i.addr ∈ o.2.1.at_ ↔ ¬ i.addr ∈ o.1.unk)
theorem EC {l : List SecV} {es : List UInt32} {o : CodeP × FndV × Int} (ht : totD l ≤ 600) (h : ResIs l es o) : o.2.1.ts.length ≤ 700 ∧ ∀ t ∈ o.2.1.ts, t.length ≤ 64 := by
 cases h with
 | err n f ts o' h hn hd hr h0 ho => subst ho; exact ⟨Nat.zero_le _, fun t q => by cases q⟩
 | out f h ho => subst ho; exact ⟨Nat.zero_le _, fun t q => by cases q⟩
 | ok n f ts o2 h hn hd hr h0 hs ho =>
  obtain rfl := ho
  rw [hs.2]; exact nU ht h
section
variable {P : Program} {ops : Array Oper} {Q : Exit → Act → World → Prop} {N : Nat} {F : Bg} {L : List Ent} {M : Fr} {ty : TypeId} {pos : String} {after : Array Edge} {rest : List Oper} {d : Nat}
theorem vm {ι : Type} (φ : ι → Value) (B : ι → List Ent) {ok : ι → Prop} {f : FuncId} {xs : List Operand} {vs : List Value} {ts : Array TypeId} (h0 : F.dr = 0) (hx : k5 M xs = some vs)
  (he : ∀ (args : Array Value) (w : World), (callFunc f args).run P w = .ok (.enter f args) w)
  (hc : ∀ w, HpOK F L w → Calls P f vs.toArray w fun e w' => ∃ i, e = .returned (φ i) ∧ Below w.heap.size w w' ∧ NewEnts w w' (B i) ∧ ok i) (hd : Nat.ble (d + 1) N = true)
  (K : ∀ i F', ok i → F.le F' → (∀ e ∈ B i, e.ok (e.blk.bind F'.blk)) → Tr N F' L ((d, φ i) :: M) (wpList P ops Q rest)) :
  Tr N F L M (wpList P ops Q (⟨some d, .call { callee := .value (.func f), args := xs.toArray, argTypes := ts }, ty, pos, after, none⟩ :: rest)) :=
 eE φ B (ok := ok) h0 hx he hc hd (fun i hi => vk (oY L (B i)) (fun F' hF' hk => K i F' hi hF' hk))
end
theorem rowE.slL {α : Type} {V : Value} {T : TypeId} {E : Enc α} {l : List α} {h : Hp} {Ls : List Ent} (k : ∀ e ∈ Ls, e.ok (e.blk.bind h)) (hm : rowE V T E l ∈ Ls) : Sl h E l V := RowOK.sl (k _ hm)
theorem rvE.inL {α : Type} {T : TypeId} {E : Enc α} {rs : List (RV α)} {h : Hp} {Ls : List Ent} (k : ∀ e ∈ Ls, e.ok (e.blk.bind h)) (hm : ∀ r ∈ rs, rvE T E r ∈ Ls) : RvIn E h rs := fun r hr => RowOK.sl (k _ (hm r hr))
theorem IA {l : List UInt32} (h : l.Pairwise (· < ·)) {i j : Nat} (hij : i < j) (hj : j < l.length) : l.getD i default < l.getD j default := by
 rw [List.getD_eq_getElem?_getD, List.getD_eq_getElem?_getD, List.getElem?_eq_getElem (by omega), List.getElem?_eq_getElem hj]
 exact List.pairwise_iff_getElem.1 h i j (by omega) hj hij
theorem GY {l l' : List UInt32} {a : UInt32} (h : a ∈ l ↔ ¬ a ∈ l') : sw l a ≠ sw l' a := by
 intro e
 have h1 : sw l a = true ↔ a ∈ l := by simp [sw, List.any_eq_true]
 have h2 : sw l' a = true ↔ a ∈ l' := by simp [sw, List.any_eq_true]
 rw [e] at h1
 have h3 : a ∈ l' ↔ ¬ a ∈ l' := h2.symm.trans (h1.trans h)
 exact (fun q : ¬ a ∈ l' => q (h3.2 q)) (fun q => h3.1 q q)
theorem WalkIs.uniq {l : List SecV} {ts : List TabV} {at_ es : List UInt32} {c c' : CodeP} {e e' : Int} (h : WalkIs l ts at_ es c e) (h' : WalkIs l ts at_ es c' e') : c = c' ∧ e = e' := by
 cases h with
 | arg q1 q2 q3 => cases h' with
  | arg r1 r2 r3 => exact ⟨q3.trans r3.symm, q2.trans r2.symm⟩
  | chk r0 r1 r2 r3 => exact absurd r0 q1
  | ok r0 r1 r2 r3 => exact absurd r0 q1
 | chk q0 q1 q2 q3 => cases h' with
  | arg r1 r2 r3 => exact absurd q0 r1
  | chk r0 r1 r2 r3 => exact ⟨q3.trans r3.symm, q2.trans r2.symm⟩
  | ok r0 r1 r2 r3 => exact absurd r1 q1
 | ok q0 q1 q2 q3 => cases h' with
  | arg r1 r2 r3 => exact absurd q0 r1
  | chk r0 r1 r2 r3 => exact absurd q1 r1
  | ok r0 r1 r2 r3 => exact ⟨q3.eq r3 (fun a => Iff.rfl) (fun a => Iff.rfl), q2.trans r2.symm⟩
theorem Db {l : List SecV} {es : List UInt32} {o : CodeP × FndV × Int} (h : ResIs l es o) : (o.2.2 ≠ 0 → o.1.ins = [] ∧ o.2.1.at_ = []) ∧ (o.2.2 = 0 → FixOK l es o) := by
 cases h with
 | err n f ts o' h hn ht hr h0 ho => subst ho; exact ⟨fun _ => ⟨rfl, rfl⟩, fun q => absurd q h0⟩
 | out f h ho => subst ho; exact ⟨fun _ => ⟨rfl, rfl⟩, fun q => by cases q⟩
 | ok n f ts o2 h hn ht hr h0 hs ho =>
  obtain rfl := ho
  refine ⟨fun q => absurd h0 q, fun _ => ?_⟩
  obtain ⟨c, e, hw, hi⟩ := hr
  by_cases he : e ≠ 0
  ·rw [if_pos he] at hi; rw [hi] at h0; exact absurd h0 he
  rw [if_neg he] at hi
  obtain ⟨R, hR⟩ : ∃ R, R = fV c.ins c.ents c.unk c.bad := ⟨_, rfl⟩
  have hz : lw R.kept (jx R.kept R.ents (ts.map (·.data))) = 0 := by
   rcases Decidable.em (lw R.kept (jx R.kept R.ents (ts.map (·.data))) = 0) with q | q
   ·exact q
   ·rw [uw hR q] at hi; rw [hi] at h0; exact absurd h0 q
  rw [wm hR hz, DG] at hi
  have hl0 : f.ts.length = f.at_.length := by rw [← hs.1, ← hs.2, hi]; simp
  have hsr : R.kept.Pairwise fun a b => ltA a b = true := by rw [hR]; exact qu _ _ _ _
  have hkc : ∀ x ∈ R.kept, x ∈ c.ins := fun x hx => zu (by rw [← hR]; exact hx)
  have hat : o.2.1.at_ = f.at_ := hs.1
  obtain ⟨ss, hss⟩ : ∃ ss, ss = j8 R.kept (jx R.kept R.ents (ts.map (·.data))) := ⟨_, rfl⟩
  rw [← hss] at hi
  have e1 : o.1.ins = R.kept := by rw [hi]
  have e2 : o.1.ents = R.ents := by rw [hi]
  have e3 : o.1.unk = R.unk := by rw [hi]
  have e4 : o.2.1.at_ = (R.kept.filter (zS l R.kept ss)).map (·.addr) := by rw [hi]
  cases hw with
  | arg q1 q2 q3 => exact absurd (by have := congrArg List.length ht; rw [List.length_map] at this; omega) q1
  | chk q0 q1 q2 q3 => exact absurd (by rw [q2] at he; simpa using he) q1
  | ok q0 q1 q2 q3 =>
   refine ⟨by rw [hs.1, hs.2]; exact hl0, ?_, by rw [e1]; exact hsr, ?_, ?_, ?_, ?_⟩
   ·intro ts' c' e' ht' hw'
    rw [hat] at hw'
    have hw2 := uf (ts' := ts) (by rw [ht', ht, hs.2]) hw'
    obtain ⟨k1, k2⟩ := hw2.uniq (.ok q0 q1 rfl q3)
    subst k1
    rw [← hR]
    exact ⟨k2, e1.symm, e2.symm, e3.symm⟩
   ·intro i hi2
    rw [e1] at hi2
    exact nO (.ok q0 q1 q2 q3) i (hkc i hi2)
   ·rw [e4]
    exact ((hsr.sublist List.filter_sublist).imp (fun {a b} q => by simpa [ltA] using q)).map _ (fun a b q => q)
   ·intro a ha
    rw [e4] at ha
    obtain ⟨i, hi2, rfl⟩ := List.mem_map.1 ha
    rw [List.mem_filter] at hi2
    have := hi2.2
    unfold zS at this
    rw [decide_eq_true_eq] at this
    exact ⟨i, by rw [e1]; exact hi2.1, rfl, this.1⟩
   ·intro i hi2 hd
    rw [e1] at hi2
    rw [e3, hat]
    have hu : R.unk = c.unk.filter (inK R.kept) := by rw [hR]; rfl
    rw [hu, List.mem_filter]
    have hin : inK R.kept i.addr = true := by unfold inK; rw [List.any_eq_true]; exact ⟨i, hi2, by simp⟩
    obtain ⟨ks, k1, k2, k3⟩ := q3.ins
    have hic := hkc i hi2
    rw [k3] at hic
    obtain ⟨a, ha, rfl⟩ := List.mem_map.1 hic
    have hra := (k2 a).1 ha
    have hadr := (yo hra.2).1
    have hop : rn (atP l a).1.op = true := by unfold oP at hd; simp at hd; exact hd.2
    rw [hadr] at hin ⊢
    have hun : a ∈ c.unk ↔ a ∉ f.at_ := by
     rw [q3.unk.2, ← A9 (ts := ts)]
     unfold oV
     rw [hop, Bool.true_and, hadr]
     exact ⟨fun q => q.2, fun q => ⟨hra, q⟩⟩
    rw [hun]
    constructor
    ·intro q1 q2; exact q2.1 q1
    ·intro q
     rcases Decidable.em (a ∈ f.at_) with r | r
     ·exact r
     ·exact absurd ⟨r, hin⟩ q
end Go.HL
namespace Go.Proofs.YtiajjbhcpeadfaaGreat
open Go Go.HL Go.RowKit
theorem AW (a b : List Ins) (V W : Value) (w : World) (hV : Sl (hp w) aP a V) (hW : Sl (hp w) aP b W) :
  Cr Tryz.prog 26 #[V, W] w (.bool (decide (a = b))) := by
 have hV' : Sl (Bg.of w).blk aP a V := hV
 have hW' : Sl (Bg.of w).blk aP b W := hW
 have hl1 := hV.len_le
 have hl2 := hW.len_le
 refine enter Tryz.func26 rfl Tryz.ntmps26 rfl ?_
 refine ah (zz0 (ab rfl) (ad (al (ah (zz0 (aa rfl) (zz0 (fJ rfl aM) ?_))))))
 refine zz0 (aa rfl) (zz0 (fJ rfl aM) ?_)
 refine zz0 (fa rfl rfl) (ad ?_)
 refine ao rfl ?_ ?_ <;> intro h1 <;> try simp only [bs] at h1
 ·refine ah (zz0 (ab rfl) (ad (aD (aB ?_))))
  refine aS Tryz.results26 rfl (fun w' hw => ?_)
  exact ⟨by rw [decide_eq_false (fun e => by subst e; omega)], hw.b0⟩
 refine bB (al (ah (zz0 (ab rfl) (ad (aG ?_)))))
 refine bN (ι := Nat) (fun k => k ≤ a.length ∧ a.take k = b.take k) (fun _ => _) (fun k => []) (fun k => [(5, .int .i64 (k : Nat))]) (fun k => a.length - k) 0 ⟨by omega, rfl⟩ (Front.c Front.nil) (by repeat' constructor) rfl (fun k hi m hm => ?_)
 replace hi : k ≤ a.length ∧ a.take k = b.take k := hi
 replace hm : m = a.length - k := hm
 change Tr _ _ [] ([(5, .int .i64 (k : Nat))] ++ _) _
 obtain ⟨hk1, hk3⟩ := hi
 refine al (ah (zz0 (aa rfl) (zz0 (aa rfl) (zz0 (fJ rfl aM) ?_))))
 refine zz0 (bS rfl rfl) (ad ?_)
 refine ao rfl ?_ ?_ <;> intro h2 <;> try simp only [bs] at h2
 ·refine bB (al (aG (al (gZ aT ?_))))
  refine ax (aa rfl) (ax (aa rfl) (ax (gB rfl rfl aM au) ?_))
  refine ax (m8 rfl aQ au) ?_
  refine ax (aa rfl) (ax (aa rfl) (ax (gB rfl rfl aM au) ?_))
  refine ax (m8 rfl aQ au) ?_
  refine ax (CC rfl rfl zG af (tq _ af) rfl vy xk) ?_
  refine bK ?_
  refine ac ?_
  refine ao rfl ?_ ?_ <;> intro h3 <;> try simp only [bs] at h3
  ·refine ah (zz0 (ab rfl) (ad (aD (bv (aB (aB (bv (aB ?_))))))))
   refine aS Tryz.results26 rfl (fun w' hw => ?_)
   exact ⟨by rw [decide_eq_false (fun e => by subst e; simp_all)], hw.b0⟩
  refine bW (aX (ac (ar (zz0 (aa rfl) (zz0 (cx rfl rfl) ?_)))))
  refine zz0 (ab rfl) (ad ?_)
  refine cC (k + 1) (Front.c Front.nil) (bA 17 rfl) (o := ⟨by omega, by rw [dn (by omega), dn (by omega), hk3]; congr 2⟩)
 refine bG (aJ (aJ (bj (ac (ah (zz0 (ab rfl) (ad (aD ?_))))))))
 refine aS Tryz.results26 rfl (fun w' hw => ?_)
 exact ⟨by rw [decide_eq_true (show a = b by rw [← List.take_of_length_le (show a.length ≤ k by omega), hk3, List.take_of_length_le (by omega)])], hw.b0⟩
theorem Cl (li : List Ins) (a : UInt32) (Vi Ve Vu Vb : Value) (w : World) (hI : Sl (hp w) aP li Vi) :
  Cr Tryz.prog 30 #[.agg #[Vi, Ve, Vu, Vb], .int .u32 a.toNat] w (.tuple #[.agg (aP.enc (u6 li a).1).toArray, .bool (u6 li a).2]) := by
 have hI' : Sl (Bg.of w).blk aP li Vi := hI
 have hlen := hI.len_le
 refine enter Tryz.func30 rfl Tryz.ntmps30 rfl ?_
 refine ah ?_
 refine dE rfl rfl (fun b1 => ?_)
 refine dA bP rfl (fun b2 => ?_)
 refine zz0 (ab rfl) (ad (al (ah (zz0 (ab rfl) (ad (aG ?_))))))
 refine bN (ι := Nat) (fun k => k ≤ li.length ∧ dF (fun i : Ins => decide (i.addr = a)) k (li.drop k) = dF (fun i : Ins => decide (i.addr = a)) 0 li) (fun _ => _) (fun k => [cellE b2 (aP.enc ⟨0, 0, 0, 0, 0, 0, 0, 0, 0⟩) 36, cellE b1 [Vi, Ve, Vu, Vb] 52]) (fun k => [(6, .int .i64 (k : Nat))]) (fun k => li.length - k) 0 ⟨Nat.zero_le _, rfl⟩ (Front.c Front.nil) (by repeat' constructor) rfl (fun k hi m hm => ?_)
 replace hi : k ≤ li.length ∧ dF (fun i : Ins => decide (i.addr = a)) k (li.drop k) = dF (fun i : Ins => decide (i.addr = a)) 0 li := hi
 replace hm : m = li.length - k := hm
 change Tr _ _ [cellE b2 (aP.enc ⟨0, 0, 0, 0, 0, 0, 0, 0, 0⟩) 36, cellE b1 [Vi, Ve, Vu, Vb] 52] ([(6, .int .i64 (k : Nat))] ++ _) _
 obtain ⟨hk1, hk2⟩ := hi
 refine al (ah (zz0 (aa rfl) (zz0 (zz1 (off := 0) (ft := 50) rfl bI rfl cD) ?_)))
 refine zz0 (aH rfl cP) ?_
 refine zz0 (fJ rfl aM) ?_
 refine zz0 (bS rfl rfl) (ad ?_)
 refine ao rfl ?_ ?_ <;> intro h3 <;> try simp only [bs] at h3
 ·refine bB (al (aG (ah (zz0 (zz1 (off := 0) (ft := 50) rfl bI rfl cD) ?_))))
  refine zz0 (aH rfl cP) ?_
  refine zz0 (aa rfl) (zz0 (gB rfl rfl aM au) ?_)
  refine zz0 (zz1 (off := 0) (ft := 23) rfl af rfl ae) ?_
  refine zz0 (me rfl (by assumption) am (by omega) (by rfl)) ?_
  refine zz0 (aa rfl) (zz0 (eC rfl rfl) ?_)
  refine ad ?_
  refine ao rfl ?_ ?_ <;> intro h4 <;> try simp only [bs] at h4
  ·refine ah (zz0 (zz1 (off := 0) (ft := 50) rfl bI rfl cD) ?_)
   refine zz0 (aH rfl cP) ?_
   refine zz0 (aa rfl) (zz0 (gB rfl rfl aM au) ?_)
   refine zz0 (m8 rfl aQ au) ?_
   refine aF aP rfl rfl au ?_
   refine zz0 (ab rfl) (ad (aD (bv (aB (aB (bv (aB ?_)))))))
   refine kj Tryz.results30 rfl rfl aQ au (fun w' hw => ?_)
   have hix : dF (fun i : Ins => decide (i.addr = a)) 0 li = (k : Int) := by
    rw [← hk2, drop_cons (k := k) (by omega), dF, if_pos (by simp_all)]
   exact ⟨by unfold u6; rw [if_neg (by rw [hix]; omega), hix]; rfl, hw.b0⟩
  refine bW (aX (ac (ar (zz0 (aa rfl) (zz0 (cx rfl rfl) ?_)))))
  refine zz0 (ab rfl) (ad ?_)
  refine cC (k + 1) (Front.c Front.nil) (bA 17 rfl) (o := ⟨by omega, by rw [← hk2, drop_cons (k := k) (by omega), dF, if_neg (by simp_all)]⟩)
 refine bG (aJ (aJ (bj (ac (ah (zz0 (bL (vs := []) rfl rfl (j2)) ?_))))))
 refine aF aP rfl rfl au ?_
 refine zz0 (ab rfl) (ad (aD ?_))
 refine kj Tryz.results30 rfl rfl aQ au (fun w' hw => ?_)
 have hix : dF (fun i : Ins => decide (i.addr = a)) 0 li = -1 := by rw [← hk2, List.drop_of_length_le (by omega)]; rfl
 exact ⟨by unfold u6; rw [if_pos (by rw [hix]; decide)]; rfl, hw.b0⟩
theorem yc (l : List SecV) (pV : Option Addr) (cV : Nat) (es : List UInt32) (VE : Value) (w : World) (hV : Sl (hp w) dK l (.slice pV l.length cV)) (hD : DataIn (hp w) l) (hz : ∀ s ∈ l, s.data.length ≤ 140737488351232) (hN : ∀ s ∈ l, s.name.size ≤ 140737488351232) (hE : Sl (hp w) an es VE) :
  Calls Tryz.prog 8 #[(.slice pV l.length cV), VE] w (fun e w' => e = .returned (.bool true) ∧ Below w.heap.size w w') := by
 have hV' : Sl (Bg.of0 w).blk dK l (.slice pV l.length cV) := hV
 have hD' : DataIn (Bg.of0 w).blk l := hD
 have hE' : Sl (Bg.of0 w).blk an es VE := hE
 have hel := hE.len_le
 refine l3 Tryz.func8 rfl Tryz.ntmps8 rfl ?_
 refine ah (zz0 (ab rfl) (ad (al (ah (zz0 (aa rfl) (zz0 (aC rfl Tryz.call10 (fun w hw => Ep l (.slice pV l.length cV) w (hw.slF hV') hz)) ?_))))))
 refine zz0 (cj rfl) (zz0 (aa rfl) ?_)
 apply cF
 ·exact (rfl : _ = (4, 20, 24))
 ·exact rfl
 ·intro hF1; have hF1' := hF1
  try simp only [bs] at hF1'
  refine zz5 hF1 (aa rfl) (zz5 hF1 (fJ rfl aj) ?_)
  refine zz5 hF1 (eU rfl rfl) (zz0 (aK rfl hF1 rfl) ?_)
  refine az (ac ?_)
  exact aA (Sub.cons rfl (zz7 4 rfl))
 ·intro hT1
  refine zz6 hT1 (zz6 hT1 (zz6 hT1 (zz0 (aN rfl hT1 rfl) ?_)))
  refine az (ac ?_)
  exact aA (Sub.cons rfl (zz7 4 rfl))
 refine ad ?_
 refine ao rfl ?_ ?_ <;> intro h2 <;> try simp only [bs] at h2
 ·have hq1 := h2
  refine ah (zz0 (vv rfl rfl Tryz.call11 (fun w hw => qA w)) ?_)
  refine zz0 (ab rfl) (ad (aD (aB ?_)))
  refine aS Tryz.results8 rfl (fun w' hw => ?_)
  exact ⟨rfl, hw.below0 (Bg.le.refl _)⟩
 have hq1 : un l = true ∧ es.length ≤ 6 := by have := h2; constructor <;> first | (simp_all; done) | omega
 obtain ⟨hB, hto⟩ := GF hq1.1
 have hel6 := hq1.2
 refine df (zz0 (aa rfl) (zz0 (aa rfl) ?_))
 refine vm (fun i : (Value × Value × Value × Value × Value × Value) × (CodeP × FndV × Int) × List (RV UInt32) => .tuple #[.agg #[i.1.1, i.1.2.1, i.1.2.2.1, i.1.2.2.2.1], i.1.2.2.2.2.1, i.1.2.2.2.2.2, .int .i64 i.2.1.2.2]) (fun i : (Value × Value × Value × Value × Value × Value) × (CodeP × FndV × Int) × List (RV UInt32) => rowE i.1.1 36 aP i.2.1.1.ins :: rowE i.1.2.1 23 an i.2.1.1.ents :: rowE i.1.2.2.1 23 an i.2.1.1.unk :: rowE i.1.2.2.2.1 23 an i.2.1.1.bad :: rowE i.1.2.2.2.2.1 31 dD i.2.2 :: rowE i.1.2.2.2.2.2 23 an i.2.1.2.1.at_ :: i.2.2.map (rvE 23 an)) (ok := fun i : (Value × Value × Value × Value × Value × Value) × (CodeP × FndV × Int) × List (RV UInt32) => ResIs l es i.2.1 ∧ i.2.2.map (·.data) = i.2.1.2.1.ts) rfl rfl Tryz.call17 (fun w hw => ux l _ _ es VE w (hw.slF hV') hB (hD'.mono hw.bg) hN (hw.slF hE') hto (by omega)) rfl (fun iR F1 hR hF1 hk1 => ?_)
 obtain ⟨⟨Wi, We, Wu, Wb, Wt, Wp⟩, o, rs⟩ := iR
 obtain ⟨ho, hrs⟩ : ResIs l es o ∧ rs.map (·.data) = o.2.1.ts := hR
 have hr1 : F1.dr = 0 := hF1.dr
 have sWi : Sl F1.blk aP o.1.ins Wi := rowE.slL hk1 (.head _)
 have sWe : Sl F1.blk an o.1.ents We := rowE.slL hk1 (.tail _ (.head _))
 have sWu : Sl F1.blk an o.1.unk Wu := rowE.slL hk1 (.tail _ (.tail _ (.head _)))
 have sWt : Sl F1.blk dD rs Wt := rowE.slL hk1 (.tail _ (.tail _ (.tail _ (.tail _ (.head _)))))
 have sWp : Sl F1.blk an o.2.1.at_ Wp := rowE.slL hk1 (.tail _ (.tail _ (.tail _ (.tail _ (.tail _ (.head _))))))
 have sRV : RvIn an F1.blk rs := rvE.inL hk1 (fun r hr => .tail _ (.tail _ (.tail _ (.tail _ (.tail _ (.tail _ (List.mem_map.2 ⟨r, hr, rfl⟩)))))))
 obtain ⟨hbad, hgood⟩ := Db ho
 have htb := EC hto ho
 have hTB := BX hrs htb.1 htb.2
 have hV1 := hV'.mono hF1.blk
 have hD1 := hD'.mono hF1.blk
 have hE1 := hE'.mono hF1.blk
 have sWb : Sl F1.blk an o.1.bad Wb := rowE.slL hk1 (.tail _ (.tail _ (.tail _ (.head _))))
 obtain ⟨pWi, cWi, hv, _⟩ := sWi.shape
 subst hv
 obtain ⟨pWe, cWe, hv, _⟩ := sWe.shape
 subst hv
 obtain ⟨pWu, cWu, hv, _⟩ := sWu.shape
 subst hv
 obtain ⟨pWb, cWb, hv, _⟩ := sWb.shape
 subst hv
 refine zz0 (aa rfl) (zz0 (aR rfl rfl) (zz0 (aR rfl rfl) (zz0 (aR rfl rfl) (zz0 (aR rfl rfl) ?_))))
 refine dA dW rfl (fun b3 => ?_)
 refine zz8 rfl rfl cm ?_
 refine zz0 (ab rfl) (zz0 (ab rfl) (zz0 (ab rfl) (ad (al (ah (zz0 (aa rfl) (zz0 (fa rfl rfl) (ad ?_))))))))
 refine ao rfl ?_ ?_ <;> intro h4 <;> try simp only [bs] at h4
 ·have hq2 : o.2.2 ≠ 0 := h4
  obtain ⟨hb1, hb2⟩ := hbad hq2
  refine ah (zz0 (zz1 (off := 0) (ft := 50) rfl bI rfl cD) ?_)
  refine zz0 (aH rfl cP) ?_
  refine zz0 (fJ rfl aM) ?_
  refine zz0 (aY rfl rfl) (zz0 (aa rfl) ?_)
  apply bV
  ·exact (rfl : _ = (4, 40, 44))
  ·exact rfl
  ·intro hT5; have hT5' := hT5
   try simp only [bs] at hT5'
   refine zz5 hT5 (aa rfl) (zz5 hT5 (fJ rfl aj) ?_)
   refine zz5 hT5 (aY rfl rfl) (zz0 (aN rfl hT5 rfl) ?_)
   refine az (ac ?_)
   exact aA (Sub.cons rfl (zz7 4 rfl))
  ·intro hF5
   refine zz6 hF5 (zz6 hF5 (zz6 hF5 (zz0 (aK rfl hF5 rfl) ?_)))
   refine az (ac ?_)
   exact aA (Sub.cons rfl (zz7 4 rfl))
  refine zz0 (aa rfl) ?_
  apply bV
  ·exact (rfl : _ = (2, 45, 47))
  ·exact rfl
  ·intro hT6; have hT6' := hT6
   try simp only [bs] at hT6'
   refine zz5 hT6 (vv hr1 rfl Tryz.call11 (fun w hw => qA w)) ?_
   refine zz0 (aN rfl hT6 rfl) ?_
   refine az (ac ?_)
   exact aA (Sub.cons rfl (zz7 2 rfl))
  ·intro hF6
   refine zz6 hF6 (zz0 (aK rfl hF6 rfl) ?_)
   refine az (ac ?_)
   exact aA (Sub.cons rfl (zz7 2 rfl))
  refine zz0 (ab rfl) (ad (aD (aB ?_)))
  refine aS Tryz.results8 rfl (fun w' hw => ?_)
  exact ⟨by simp_all, hw.below0 hF1⟩
 have hq2 : o.2.2 = 0 := by simpa using h4
 have hfx := hgood hq2
 refine df (zz0 (aa rfl) (zz0 (aa rfl) (zz0 (aa rfl) (zz0 (aa rfl) ?_))))
 refine vm (fun i : ((Value × Value × Value × Value) × CodeP × Int) => .tuple #[.agg #[i.1.1, i.1.2.1, i.1.2.2.1, i.1.2.2.2], .int .i64 i.2.2]) (fun i : ((Value × Value × Value × Value) × CodeP × Int) => [rowE i.1.1 36 aP i.2.1.ins, rowE i.1.2.1 23 an i.2.1.ents, rowE i.1.2.2.1 23 an i.2.1.unk, rowE i.1.2.2.2 23 an i.2.1.bad]) (ok := fun i => WalkIs l (rs.map j6) o.2.1.at_ es i.2.1 i.2.2) hr1 rfl Tryz.call28 (fun w hw => walk_any l (rs.map j6) o.2.1.at_ es _ VE _ _ w (hw.slF hV1) hB (hD1.mono hw.bg) hN (hw.slF hE1) (hw.slF (AP sWt)) (AQ (sRV.mono hw.bg)) hTB (hw.slF sWp) hto (by omega)) rfl (fun iW F2 hwk hF2 hk2 => ?_)
 obtain ⟨⟨Vi, Ve, Vu, Vb⟩, c, e0⟩ := iW
 replace hwk : WalkIs l (rs.map j6) o.2.1.at_ es c e0 := hwk
 have hr2 : F2.dr = 0 := hF2.dr.trans hr1
 have sVi : Sl F2.blk aP c.ins Vi := rowE.slL hk2 (.head _)
 have sVe : Sl F2.blk an c.ents Ve := rowE.slL hk2 (.tail _ (.head _))
 have sVu : Sl F2.blk an c.unk Vu := rowE.slL hk2 (.tail _ (.tail _ (.head _)))
 have sVb : Sl F2.blk an c.bad Vb := rowE.slL hk2 (.tail _ (.tail _ (.tail _ (.head _))))
 obtain ⟨he0, hx1, hx2, hx3⟩ := hfx.walk _ _ _ (by rw [qR, hrs]) hwk
 subst he0
 obtain ⟨R, hR⟩ : ∃ R, R = fV c.ins c.ents c.unk c.bad := ⟨_, rfl⟩
 rw [← hR] at hx1 hx2 hx3
 have hcl := sE hTB hwk
 obtain ⟨pVi, cVi, hv, _⟩ := sVi.shape
 subst hv
 obtain ⟨pVe, cVe, hv, _⟩ := sVe.shape
 subst hv
 obtain ⟨pVu, cVu, hv, _⟩ := sVu.shape
 subst hv
 obtain ⟨pVb, cVb, hv, _⟩ := sVb.shape
 subst hv
 refine zz0 (aa rfl) (zz0 (aR rfl rfl) (zz0 (aR rfl rfl) ?_))
 refine dA dW rfl (fun b7 => ?_)
 refine zz8 rfl rfl cm ?_
 refine zz0 (ab rfl) (aL (zz0 (bE rfl fy cm) ?_))
 refine DU (fun i : (Value × Value × Value × Value × Value) => .tuple #[.agg #[i.1, i.2.1, i.2.2.1, i.2.2.2.1], i.2.2.2.2]) (fun i : (Value × Value × Value × Value × Value) => [rowE i.1 36 aP R.kept, rowE i.2.1 23 an R.ents, rowE i.2.2.1 23 an R.unk, rowE i.2.2.2.1 23 an R.bad, rowE i.2.2.2.2 23 an R.rem]) (ok := fun _ => True) rfl Tryz.call29 (fun w hw => (sU c.ins c.ents c.unk c.bad _ _ _ _ w (hw.slF sVi) (hw.slF sVe) (hw.slF sVu) (hw.slF sVb) (nO hwk) (by omega) (by omega) (by omega) (by omega)).mono fun e w' ⟨i, q1, q2, q3⟩ => ⟨i, q1, q2, by rw [hR]; exact q3, trivial⟩) rfl (fun i5 F3 _ hF3 hk3 => ?_)
 obtain ⟨Ki, Ke, Ku, Kb, Kr⟩ := i5
 have hr3 : F3.dr = 0 := hF3.dr.trans hr2
 have sKi : Sl F3.blk aP R.kept Ki := rowE.slL hk3 (.head _)
 have sKe : Sl F3.blk an R.ents Ke := rowE.slL hk3 (.tail _ (.head _))
 have sKu : Sl F3.blk an R.unk Ku := rowE.slL hk3 (.tail _ (.tail _ (.head _)))
 have sKb : Sl F3.blk an R.bad Kb := rowE.slL hk3 (.tail _ (.tail _ (.tail _ (.head _))))
 rw [hx1] at sKi
 rw [hx2] at sKe
 rw [hx3] at sKu
 obtain ⟨pKi, cKi, hv, _⟩ := sKi.shape
 subst hv
 obtain ⟨pKe, cKe, hv, _⟩ := sKe.shape
 subst hv
 obtain ⟨pKu, cKu, hv, _⟩ := sKu.shape
 subst hv
 obtain ⟨pKb, cKb, hv, _⟩ := sKb.shape
 subst hv
 have hF13 := hF2.trans hF3
 replace sWi := sWi.mono hF13.blk
 replace sWe := sWe.mono hF13.blk
 replace sWu := sWu.mono hF13.blk
 replace sWt := sWt.mono hF13.blk
 replace sWp := sWp.mono hF13.blk
 have hF03 := hF1.trans hF13
 have hol : rs.length = o.2.1.at_.length := by have := congrArg List.length hrs; rw [List.length_map] at this; rw [this]; exact hfx.len
 have hwl := sWp.len_le
 have hil := sWi.len_le
 refine zz0 (aa rfl) (zz0 (aR rfl rfl) (zz0 (aR rfl rfl) ?_))
 refine dA dW rfl (fun b8 => ?_)
 refine zz8 rfl rfl cm ?_
 refine zz0 (ab rfl) (ad (al (ah (zz0 (aa rfl) (zz0 (fa rfl rfl) (zz0 (aa rfl) ?_))))))
 apply cF
 ·exact (rfl : _ = (7, 63, 70))
 ·exact rfl
 ·intro hF9; have hF9' := hF9
  try simp only [bs] at hF9'
  refine zz5 hF9 (zz1 (off := 0) (ft := 50) rfl bI rfl cD) ?_
  refine zz5 hF9 (aH rfl cP) ?_
  refine zz5 hF9 (zz1 (off := 0) (ft := 50) rfl bI rfl cD) ?_
  refine zz5 hF9 (aH rfl cP) ?_
  refine zz5 hF9 (aC rfl Tryz.call26 (fun w hw => AW o.1.ins o.1.ins _ _ w (hw.slF sWi) (hw.slF sKi))) ?_
  refine zz5 hF9 (cj rfl) (zz0 (aK rfl hF9 rfl) ?_)
  refine az (ac ?_)
  exact aA (Sub.cons rfl (zz7 7 rfl))
 ·intro hT9
  refine zz6 hT9 (zz6 hT9 (zz6 hT9 (zz6 hT9 (zz6 hT9 (zz6 hT9 (zz0 (aN rfl hT9 rfl) ?_))))))
  refine az (ac ?_)
  exact aA (Sub.cons rfl (zz7 7 rfl))
 refine zz0 (aa rfl) ?_
 apply cF
 ·exact (rfl : _ = (7, 71, 78))
 ·exact rfl
 ·intro hF10; have hF10' := hF10
  try simp only [bs] at hF10'
  refine zz5 hF10 (zz1 (off := 1) (ft := 31) rfl bI rfl cn) ?_
  refine zz5 hF10 (aH rfl dq) ?_
  refine zz5 hF10 (zz1 (off := 1) (ft := 31) rfl bI rfl cn) ?_
  refine zz5 hF10 (aH rfl dq) ?_
  refine zz5 hF10 (aC rfl lJ (fun w hw => lE o.1.ents o.1.ents _ _ w (hw.slF sWe) (hw.slF sKe))) ?_
  refine zz5 hF10 (cj rfl) (zz0 (aK rfl hF10 rfl) ?_)
  refine az (ac ?_)
  exact aA (Sub.cons rfl (zz7 7 rfl))
 ·intro hT10
  refine zz6 hT10 (zz6 hT10 (zz6 hT10 (zz6 hT10 (zz6 hT10 (zz6 hT10 (zz0 (aN rfl hT10 rfl) ?_))))))
  refine az (ac ?_)
  exact aA (Sub.cons rfl (zz7 7 rfl))
 refine zz0 (aa rfl) ?_
 apply cF
 ·exact (rfl : _ = (7, 79, 86))
 ·exact rfl
 ·intro hF11; have hF11' := hF11
  try simp only [bs] at hF11'
  refine zz5 hF11 (zz1 (off := 2) (ft := 31) rfl bI rfl cn) ?_
  refine zz5 hF11 (aH rfl dq) ?_
  refine zz5 hF11 (zz1 (off := 2) (ft := 31) rfl bI rfl cn) ?_
  refine zz5 hF11 (aH rfl dq) ?_
  refine zz5 hF11 (aC rfl lJ (fun w hw => lE o.1.unk o.1.unk _ _ w (hw.slF sWu) (hw.slF sKu))) ?_
  refine zz5 hF11 (cj rfl) (zz0 (aK rfl hF11 rfl) ?_)
  refine az (ac ?_)
  exact aA (Sub.cons rfl (zz7 7 rfl))
 ·intro hT11
  refine zz6 hT11 (zz6 hT11 (zz6 hT11 (zz6 hT11 (zz6 hT11 (zz6 hT11 (zz0 (aN rfl hT11 rfl) ?_))))))
  refine az (ac ?_)
  exact aA (Sub.cons rfl (zz7 7 rfl))
 refine zz0 (aa rfl) ?_
 apply cF
 ·exact (rfl : _ = (6, 87, 93))
 ·exact rfl
 ·intro hF12; have hF12' := hF12
  try simp only [bs] at hF12'
  refine zz5 hF12 (aa rfl) (zz5 hF12 (fJ rfl du) ?_)
  refine zz5 hF12 (aa rfl) (zz5 hF12 (fJ rfl aj) ?_)
  refine zz5 hF12 (fa rfl rfl) (zz0 (aK rfl hF12 rfl) ?_)
  refine az (ac ?_)
  exact aA (Sub.cons rfl (zz7 6 rfl))
 ·intro hT12
  refine zz6 hT12 (zz6 hT12 (zz6 hT12 (zz6 hT12 (zz6 hT12 (zz0 (aN rfl hT12 rfl) ?_)))))
  refine az (ac ?_)
  exact aA (Sub.cons rfl (zz7 6 rfl))
 refine ad ?_
 refine ao rfl ?_ ?_ <;> intro h13 <;> try simp only [bs] at h13
 ·exfalso; have := h13; simp at this; omega
 refine bB (al (ah (zz0 (ab rfl) (ad (aG ?_)))))
 refine bN (ι := Nat) (fun k => k ≤ o.2.1.at_.length) (fun k => _) (fun k => [cellE b8 [(.slice pKi o.1.ins.length cKi), (.slice pKe o.1.ents.length cKe), (.slice pKu o.1.unk.length cKu), (.slice pKb R.bad.length cKb)] 52, cellE b7 [(.slice pVi c.ins.length cVi), (.slice pVe c.ents.length cVe), (.slice pVu c.unk.length cVu), (.slice pVb c.bad.length cVb)] 52, cellE b3 [(.slice pWi o.1.ins.length cWi), (.slice pWe o.1.ents.length cWe), (.slice pWu o.1.unk.length cWu), (.slice pWb o.1.bad.length cWb)] 52]) (fun k => [(13, .int .i64 (k : Nat))]) (fun k => o.2.1.at_.length - k) 0 (Nat.zero_le _) (Front.c Front.nil) (by repeat' constructor) rfl (fun k hi m hm => ?_)
 replace hi : k ≤ o.2.1.at_.length := hi
 replace hm : m = o.2.1.at_.length - k := hm
 change Tr _ (_) [cellE b8 [(.slice pKi o.1.ins.length cKi), (.slice pKe o.1.ents.length cKe), (.slice pKu o.1.unk.length cKu), (.slice pKb R.bad.length cKb)] 52, cellE b7 [(.slice pVi c.ins.length cVi), (.slice pVe c.ents.length cVe), (.slice pVu c.unk.length cVu), (.slice pVb c.bad.length cVb)] 52, cellE b3 [(.slice pWi o.1.ins.length cWi), (.slice pWe o.1.ents.length cWe), (.slice pWu o.1.unk.length cWu), (.slice pWb o.1.bad.length cWb)] 52] ([(13, .int .i64 (k : Nat))] ++ _) _
 refine al (ah (zz0 (aa rfl) (zz0 (aa rfl) (zz0 (fJ rfl aj) ?_))))
 refine zz0 (bS rfl rfl) (ad ?_)
 refine ao rfl ?_ ?_ <;> intro h14 <;> try simp only [bs] at h14
 ·refine bB (al (aG (al ?_)))
  obtain ⟨ik, hik, hia, hid⟩ := hfx.inn _ (cS (l := o.2.1.at_) (k := k) (by omega))
  have hfd : u6 o.1.ins (o.2.1.at_.getD k default) = (ik, true) := by rw [← hia]; exact DD hfx.srt hik
  have hasc : 0 < k → ¬ o.2.1.at_.getD k default ≤ o.2.1.at_.getD ((k : Int) - 1).toNat default := fun q => by
   rw [UInt32.not_le, show ((k : Int) - 1).toNat = k - 1 by omega]
   exact IA hfx.asc (by omega) (by omega)
  refine dG ([cellE b3 [(.slice pWi o.1.ins.length cWi), (.slice pWe o.1.ents.length cWe), (.slice pWu o.1.unk.length cWu), (.slice pWb o.1.bad.length cWb)] 52]) 12 rfl aT ?_
  refine zz3 0 rfl (bE rfl fy cm) ?_
  refine zz3 1 rfl (aa rfl) ?_
  refine zz3 2 rfl (aa rfl) ?_
  refine zz3 3 rfl (gB rfl rfl aj ae) ?_
  refine zz3 4 rfl (iM rfl am) ?_
  refine dh [5, 9] (fun iq hq => ?_)
  rcases List.mem_cons.1 hq with rfl | hq
  ·skip
   refine bD rfl ?_
   refine zz0 (aC rfl Tryz.call30 (fun w hw => by have q := Cl o.1.ins (o.2.1.at_.getD k default) (.slice pWi o.1.ins.length cWi) (.slice pWe o.1.ents.length cWe) (.slice pWu o.1.unk.length cWu) (.slice pWb o.1.bad.length cWb) w (hw.slF sWi); rw [hfd] at q; exact q)) ?_
   refine bU ?_
   refine zz3 6 rfl (aa rfl) ?_
   refine zz3 7 rfl (aR rfl rfl) ?_
   refine zz3 8 rfl (aR rfl rfl) ?_
   refine dh [9] (fun iq hq => ?_)
   obtain rfl := List.mem_singleton.1 hq
   refine bD rfl ?_
   refine dA bP rfl (fun b15 => ?_)
   refine bU ?_
   refine dh [10] (fun iq hq => ?_)
   obtain rfl := List.mem_singleton.1 hq
   refine bD rfl ?_
   refine aF aP rfl rfl au ?_
   refine bU ?_
   refine zz3 11 rfl (ab rfl) ?_
   refine gI ?_
   refine ac (al (dG ([cellE b15 (aP.enc ik) 36]) 23 rfl aT ?_))
   refine zz3 0 rfl (aa rfl) ?_
   refine zz3 1 rfl (cj rfl) ?_
   refine zz3 2 rfl (aa rfl) ?_
   refine kw (t := 111) rfl (fun hG16 => ?_) (fun hG16 => ?_)
   ·exact absurd hG16 (by simp)
   have hG16' := hG16
   try simp only [bs] at hG16'
   refine gk 3 rfl hG16 (bE rfl aQ au) ?_
   refine dh [4] (fun iq hq => ?_)
   obtain rfl := List.mem_singleton.1 hq
   refine bD rfl ?_
   refine zz5 hG16 (aC rfl Tryz.call31 (fun w hw => sn ik w (hfx.ok _ hik))) ?_
   refine bU ?_
   refine gk 5 rfl hG16 (cj rfl) ?_
   refine zz3 6 rfl (aK rfl hG16 rfl) ?_
   refine zz3 7 rfl (aa rfl) ?_
   refine kw (t := 116) rfl (fun hG17 => ?_) (fun hG17 => ?_)
   ·exact absurd hG17 (by simp [hid])
   have hG17' := hG17
   try simp only [bs] at hG17'
   refine gk 8 rfl hG17 (aa rfl) ?_
   refine gk 9 rfl hG17 (eU rfl rfl) ?_
   refine gk 10 rfl hG17 (aa rfl) ?_
   refine kw (t := 119) rfl (fun hG18 => ?_) (fun hG18 => ?_)
   ·have hG18' := hG18
    try simp only [bs] at hG18'
    refine gk 11 rfl hG18 (aa rfl) ?_
    refine gk 12 rfl hG18 (aa rfl) ?_
    refine gk 13 rfl hG18 (gB rfl rfl aj ae) ?_
    refine gk 14 rfl hG18 (iM rfl am) ?_
    refine gk 15 rfl hG18 (aa rfl) ?_
    refine gk 16 rfl hG18 (aa rfl) ?_
    refine gk 17 rfl hG18 (d6 rfl rfl) ?_
    refine gk 18 rfl hG18 (m9 rfl rfl aj ae) ?_
    refine gk 19 rfl hG18 (iM rfl am) ?_
    refine gk 20 rfl hG18 (nG rfl rfl) ?_
    refine gk 21 rfl hG17 (aN rfl hG18 rfl) ?_
    refine zz3 22 rfl (aK rfl hG17 rfl) ?_
    refine gI ?_
    refine ac ?_
    refine ao rfl ?_ ?_ <;> intro h19 <;> try simp only [bs] at h19
    ·first | exact absurd h19 (hasc (by omega)) | (exfalso; simp_all; done)
    refine bW (aX (ac (ar (zz0 (aa rfl) (zz0 (cx rfl rfl) ?_)))))
    refine zz0 (ab rfl) (ad ?_)
    refine cC (k + 1) (Front.c Front.nil) (bA 42 rfl) (o := (by show k + 1 ≤ _; omega))
   have hG18' := hG18
   try simp only [bs] at hG18'
   refine zz9 11 rfl hG18 ?_
   refine zz9 12 rfl hG18 ?_
   refine zz9 13 rfl hG18 ?_
   refine zz9 14 rfl hG18 ?_
   refine zz9 15 rfl hG18 ?_
   refine zz9 16 rfl hG18 ?_
   refine zz9 17 rfl hG18 ?_
   refine zz9 18 rfl hG18 ?_
   refine zz9 19 rfl hG18 ?_
   refine zz9 20 rfl hG18 ?_
   refine gk 21 rfl hG17 (aK rfl hG18 rfl) ?_
   refine zz3 22 rfl (aK rfl hG17 rfl) ?_
   refine gI ?_
   refine ac ?_
   refine ao rfl ?_ ?_ <;> intro h20 <;> try simp only [bs] at h20
   ·first | exact absurd h20 (hasc (by omega)) | (exfalso; simp_all; done)
   refine bW (aX (ac (ar (zz0 (aa rfl) (zz0 (cx rfl rfl) ?_)))))
   refine zz0 (ab rfl) (ad ?_)
   refine cC (k + 1) (Front.c Front.nil) (bA 42 rfl) (o := (by show k + 1 ≤ _; omega))
  obtain rfl := List.mem_singleton.1 hq
  refine bD rfl ?_
  refine dA bP rfl (fun b21 => ?_)
  refine bU ?_
  refine dh [5] (fun iq hq => ?_)
  obtain rfl := List.mem_singleton.1 hq
  refine bD rfl ?_
  refine zz0 (aC rfl Tryz.call30 (fun w hw => by have q := Cl o.1.ins (o.2.1.at_.getD k default) (.slice pWi o.1.ins.length cWi) (.slice pWe o.1.ents.length cWe) (.slice pWu o.1.unk.length cWu) (.slice pWb o.1.bad.length cWb) w (hw.slF sWi); rw [hfd] at q; exact q)) ?_
  refine bU ?_
  refine zz3 6 rfl (aa rfl) ?_
  refine zz3 7 rfl (aR rfl rfl) ?_
  refine zz3 8 rfl (aR rfl rfl) ?_
  refine dh [10] (fun iq hq => ?_)
  obtain rfl := List.mem_singleton.1 hq
  refine bD rfl ?_
  refine aF aP rfl rfl au ?_
  refine bU ?_
  refine zz3 11 rfl (ab rfl) ?_
  refine gI ?_
  refine ac (al (dG ([cellE b21 (aP.enc ik) 36]) 23 rfl aT ?_))
  refine zz3 0 rfl (aa rfl) ?_
  refine zz3 1 rfl (cj rfl) ?_
  refine zz3 2 rfl (aa rfl) ?_
  refine kw (t := 111) rfl (fun hG22 => ?_) (fun hG22 => ?_)
  ·exact absurd hG22 (by simp)
  have hG22' := hG22
  try simp only [bs] at hG22'
  refine gk 3 rfl hG22 (bE rfl aQ au) ?_
  refine dh [4] (fun iq hq => ?_)
  obtain rfl := List.mem_singleton.1 hq
  refine bD rfl ?_
  refine zz5 hG22 (aC rfl Tryz.call31 (fun w hw => sn ik w (hfx.ok _ hik))) ?_
  refine bU ?_
  refine gk 5 rfl hG22 (cj rfl) ?_
  refine zz3 6 rfl (aK rfl hG22 rfl) ?_
  refine zz3 7 rfl (aa rfl) ?_
  refine kw (t := 116) rfl (fun hG23 => ?_) (fun hG23 => ?_)
  ·exact absurd hG23 (by simp [hid])
  have hG23' := hG23
  try simp only [bs] at hG23'
  refine gk 8 rfl hG23 (aa rfl) ?_
  refine gk 9 rfl hG23 (eU rfl rfl) ?_
  refine gk 10 rfl hG23 (aa rfl) ?_
  refine kw (t := 119) rfl (fun hG24 => ?_) (fun hG24 => ?_)
  ·have hG24' := hG24
   try simp only [bs] at hG24'
   refine gk 11 rfl hG24 (aa rfl) ?_
   refine gk 12 rfl hG24 (aa rfl) ?_
   refine gk 13 rfl hG24 (gB rfl rfl aj ae) ?_
   refine gk 14 rfl hG24 (iM rfl am) ?_
   refine gk 15 rfl hG24 (aa rfl) ?_
   refine gk 16 rfl hG24 (aa rfl) ?_
   refine gk 17 rfl hG24 (d6 rfl rfl) ?_
   refine gk 18 rfl hG24 (m9 rfl rfl aj ae) ?_
   refine gk 19 rfl hG24 (iM rfl am) ?_
   refine gk 20 rfl hG24 (nG rfl rfl) ?_
   refine gk 21 rfl hG23 (aN rfl hG24 rfl) ?_
   refine zz3 22 rfl (aK rfl hG23 rfl) ?_
   refine gI ?_
   refine ac ?_
   refine ao rfl ?_ ?_ <;> intro h25 <;> try simp only [bs] at h25
   ·first | exact absurd h25 (hasc (by omega)) | (exfalso; simp_all; done)
   refine bW (aX (ac (ar (zz0 (aa rfl) (zz0 (cx rfl rfl) ?_)))))
   refine zz0 (ab rfl) (ad ?_)
   refine cC (k + 1) (Front.c Front.nil) (bA 42 rfl) (o := (by show k + 1 ≤ _; omega))
  have hG24' := hG24
  try simp only [bs] at hG24'
  refine zz9 11 rfl hG24 ?_
  refine zz9 12 rfl hG24 ?_
  refine zz9 13 rfl hG24 ?_
  refine zz9 14 rfl hG24 ?_
  refine zz9 15 rfl hG24 ?_
  refine zz9 16 rfl hG24 ?_
  refine zz9 17 rfl hG24 ?_
  refine zz9 18 rfl hG24 ?_
  refine zz9 19 rfl hG24 ?_
  refine zz9 20 rfl hG24 ?_
  refine gk 21 rfl hG23 (aK rfl hG24 rfl) ?_
  refine zz3 22 rfl (aK rfl hG23 rfl) ?_
  refine gI ?_
  refine ac ?_
  refine ao rfl ?_ ?_ <;> intro h26 <;> try simp only [bs] at h26
  ·first | exact absurd h26 (hasc (by omega)) | (exfalso; simp_all; done)
  refine bW (aX (ac (ar (zz0 (aa rfl) (zz0 (cx rfl rfl) ?_)))))
  refine zz0 (ab rfl) (ad ?_)
  refine cC (k + 1) (Front.c Front.nil) (bA 42 rfl) (o := (by show k + 1 ≤ _; omega))
 refine bG (aJ (aJ (bj (ac (al (ah (zz0 (ab rfl) (ad (aG ?_)))))))))
 refine bN (ι := Nat) (fun k => k ≤ o.1.ins.length) (fun k => _) (fun k => [cellE b8 [(.slice pKi o.1.ins.length cKi), (.slice pKe o.1.ents.length cKe), (.slice pKu o.1.unk.length cKu), (.slice pKb R.bad.length cKb)] 52, cellE b7 [(.slice pVi c.ins.length cVi), (.slice pVe c.ents.length cVe), (.slice pVu c.unk.length cVu), (.slice pVb c.bad.length cVb)] 52, cellE b3 [(.slice pWi o.1.ins.length cWi), (.slice pWe o.1.ents.length cWe), (.slice pWu o.1.unk.length cWu), (.slice pWb o.1.bad.length cWb)] 52]) (fun k => [(16, .int .i64 (k : Nat))]) (fun k => o.1.ins.length - k) 0 (Nat.zero_le _) (Front.c Front.nil) (by repeat' constructor) rfl (fun k hi m hm => ?_)
 replace hi : k ≤ o.1.ins.length := hi
 replace hm : m = o.1.ins.length - k := hm
 change Tr _ (_) [cellE b8 [(.slice pKi o.1.ins.length cKi), (.slice pKe o.1.ents.length cKe), (.slice pKu o.1.unk.length cKu), (.slice pKb R.bad.length cKb)] 52, cellE b7 [(.slice pVi c.ins.length cVi), (.slice pVe c.ents.length cVe), (.slice pVu c.unk.length cVu), (.slice pVb c.bad.length cVb)] 52, cellE b3 [(.slice pWi o.1.ins.length cWi), (.slice pWe o.1.ents.length cWe), (.slice pWu o.1.unk.length cWu), (.slice pWb o.1.bad.length cWb)] 52] ([(16, .int .i64 (k : Nat))] ++ _) _
 refine al (ah (zz0 (aa rfl) (zz0 (zz1 (off := 0) (ft := 50) rfl bI rfl cD) ?_)))
 refine zz0 (aH rfl cP) ?_
 refine zz0 (fJ rfl aM) ?_
 refine zz0 (bS rfl rfl) (ad ?_)
 refine ao rfl ?_ ?_ <;> intro h27 <;> try simp only [bs] at h27
 ·refine bB (al (aG (al ?_)))
  have hrst := hfx.rest (o.1.ins.getD k default) (cS (by omega))
  have hun : oP (o.1.ins.getD k default) = true → sw o.2.1.at_ (o.1.ins.getD k default).addr ≠ sw o.1.unk (o.1.ins.getD k default).addr := fun q => GY (hrst q)
  refine dG ([cellE b3 [(.slice pWi o.1.ins.length cWi), (.slice pWe o.1.ents.length cWe), (.slice pWu o.1.unk.length cWu), (.slice pWb o.1.bad.length cWb)] 52]) 26 rfl aT ?_
  refine zz3 0 rfl (zz1 (off := 0) (ft := 50) rfl bI rfl cD) ?_
  refine zz3 1 rfl (aH rfl cP) ?_
  refine zz3 2 rfl (aa rfl) ?_
  refine zz3 3 rfl (gB rfl rfl aM au) ?_
  refine zz3 4 rfl (m8 rfl aQ au) ?_
  refine dh [5] (fun iq hq => ?_)
  obtain rfl := List.mem_singleton.1 hq
  refine bD rfl ?_
  refine zz0 (aC rfl Tryz.call31 (fun w hw => sn (o.1.ins.getD k default) w (hfx.ok _ (cS (by omega))))) ?_
  refine bU ?_
  refine zz3 6 rfl (aa rfl) ?_
  refine kw (t := 145) rfl (fun hG28 => ?_) (fun hG28 => ?_)
  ·have hG28' := hG28
   try simp only [bs] at hG28'
   refine gk 7 rfl hG28 (aa rfl) ?_
   refine gk 8 rfl hG28 (zz1 (off := 0) (ft := 50) rfl bI rfl cD) ?_
   refine gk 9 rfl hG28 (aH rfl cP) ?_
   refine gk 10 rfl hG28 (aa rfl) ?_
   refine gk 11 rfl hG28 (gB rfl rfl aM au) ?_
   refine gk 12 rfl hG28 (zz1 (off := 0) (ft := 23) rfl af rfl ae) ?_
   refine sL 13 rfl (by kernel_rfl) (bF (dM (bF (bF (dM (bF dx)))))) rfl rfl rfl hG28 (me rfl (by assumption) am (by omega) (by rfl)) (by repeat' constructor) rfl ?_
   refine gk 15 rfl hG28 (zz1 (off := 2) (ft := 31) rfl bI rfl cn) ?_
   refine gk 16 rfl hG28 (aH rfl dq) ?_
   refine gk 17 rfl hG28 (zz1 (off := 0) (ft := 50) rfl bI rfl cD) ?_
   refine gk 18 rfl hG28 (aH rfl cP) ?_
   refine gk 19 rfl hG28 (aa rfl) ?_
   refine gk 20 rfl hG28 (gB rfl rfl aM au) ?_
   refine gk 21 rfl hG28 (zz1 (off := 0) (ft := 23) rfl af rfl ae) ?_
   refine sL 22 rfl (by kernel_rfl) (bF (dM (bF (bF (dM (bF dx)))))) rfl rfl rfl hG28 (me rfl (by assumption) am (by omega) (by rfl)) (by repeat' constructor) rfl ?_
   refine dh [14] (fun iq hq => ?_)
   obtain rfl := List.mem_singleton.1 hq
   refine bD rfl ?_
   refine zz5 hG28 (aC rfl Tryz.call32 (fun w hw => wI o.2.1.at_ _ (o.1.ins.getD k default).addr w (hw.slF sWp))) ?_
   refine bU ?_
   refine dh [23] (fun iq hq => ?_)
   obtain rfl := List.mem_singleton.1 hq
   refine bD rfl ?_
   refine zz5 hG28 (aC rfl Tryz.call32 (fun w hw => wI o.1.unk _ (o.1.ins.getD k default).addr w (hw.slF sWu))) ?_
   refine bU ?_
   refine gk 24 rfl hG28 (tp rfl rfl Tryz.underlying4) ?_
   refine zz3 25 rfl (aN rfl hG28 rfl) ?_
   refine gI ?_
   refine ac ?_
   refine ao rfl ?_ ?_ <;> intro h29 <;> try simp only [bs] at h29
   ·first | exact absurd h29 (hun (by assumption)) | (exfalso; simp_all; done)
   refine bW (aX (ac (ar (zz0 (aa rfl) (zz0 (cx rfl rfl) ?_)))))
   refine zz0 (ab rfl) (ad ?_)
   refine cC (k + 1) (Front.c Front.nil) (bA 35 rfl) (o := (by show k + 1 ≤ _; omega))
  have hG28' := hG28
  try simp only [bs] at hG28'
  refine zz9 7 rfl hG28 ?_
  refine zz9 8 rfl hG28 ?_
  refine zz9 9 rfl hG28 ?_
  refine zz9 10 rfl hG28 ?_
  refine zz9 11 rfl hG28 ?_
  refine zz9 12 rfl hG28 ?_
  refine zz9 13 rfl hG28 ?_
  refine zz9 14 rfl hG28 ?_
  refine zz9 15 rfl hG28 ?_
  refine zz9 16 rfl hG28 ?_
  refine zz9 17 rfl hG28 ?_
  refine zz9 18 rfl hG28 ?_
  refine zz9 19 rfl hG28 ?_
  refine zz9 20 rfl hG28 ?_
  refine zz9 21 rfl hG28 ?_
  refine zz9 22 rfl hG28 ?_
  refine zz9 23 rfl hG28 ?_
  refine zz9 24 rfl hG28 ?_
  refine zz3 25 rfl (aK rfl hG28 rfl) ?_
  refine gI ?_
  refine ac ?_
  refine ao rfl ?_ ?_ <;> intro h30 <;> try simp only [bs] at h30
  ·first | exact absurd h30 (hun (by assumption)) | (exfalso; simp_all; done)
  refine bW (aX (ac (ar (zz0 (aa rfl) (zz0 (cx rfl rfl) ?_)))))
  refine zz0 (ab rfl) (ad ?_)
  refine cC (k + 1) (Front.c Front.nil) (bA 35 rfl) (o := (by show k + 1 ≤ _; omega))
 refine bG (aJ (aJ (bj (ac (ah (zz0 (vv hr3 rfl Tryz.call11 (fun w hw => qA w)) ?_))))))
 refine zz0 (ab rfl) (ad (aD ?_))
 refine aS Tryz.results8 rfl (fun w' hw => ?_)
 exact ⟨rfl, hw.below0 hF03⟩
theorem zT (l : List SecV) (V : Value) (es : List UInt32) (VE : Value) (w : World) (hV : Sl (hp w) dK l V) (hD : DataIn (hp w) l) (hz : ∀ s ∈ l, s.data.length ≤ 140737488351232) (hN : ∀ s ∈ l, s.name.size ≤ 140737488351232) (hE : Sl (hp w) an es VE) : Calls Tryz.prog 8 #[V, VE] w (fun e w' => e = .returned (.bool true) ∧ Below w.heap.size w w') := by
 obtain ⟨pV, cV, hv, _⟩ := hV.shape
 subst hv
 exact yc l pV cV es VE w hV hD hz hN hE
end Go.Proofs.YtiajjbhcpeadfaaGreat
namespace Go.HL
open Go Go.Deep Go.ChangeShapes Go.WideShapes
section
variable {H : Type} {enc : TypeId × Value → H} {P : Program} {w : World} {base : Nat} {spare : Nat → Bool} {held : Bool}
theorem AU {α : Type} [Inhabited α] {E : Enc α} {R : α → Prop} {t e : TypeId} {fuel : Nat} {V : Value} {x : DataW H × List MemPlace} (ht : P.underlying t = some (.slice e)) (hc : P.cellsOf e = E.k) (hk : 0 < E.k)
  (hf : ∀ n cs y, cs.length = E.k → DataW.trod enc P w base spare held n e cs = some y → ∃ a : α, cs = E.enc a ∧ R a)
  (h : DataW.trod enc P w base spare held fuel t [V] = some x) : ∃ l : List α, Sl (hp w) E l V ∧ ∀ a ∈ l, R a := by
 rcases open_slice ht h with ⟨h0, _⟩ | ⟨a, len, cap, m, n, D, Pl, hv, hb, hl, hm, hmm, _, hx⟩
 ·simp only [List.cons.injEq, and_true] at h0
  subst h0
  exact ⟨[], Sl.nil _ _, by simp⟩
 ·simp only [List.cons.injEq, and_true] at hv
  subst hv
  have hlm : len ≤ m := by rw [hmm]; split <;> omega
  have each : ∀ i, i < len → ∃ q : α, w.cells? base (a.add (i * E.k)) E.k = some (E.enc q) ∧ R q := fun i hi => by
   obtain ⟨cs', h1, h2⟩ := hx i (by omega)
   rw [hc] at h1
   obtain ⟨q, rfl, hq⟩ := hf n cs' _ (World.cells?_some h1).2.1 h2
   exact ⟨q, h1, hq⟩
  obtain ⟨f, hfn⟩ := choose_lt each
  have hsp : 0 < len → a = ⟨a.block, a.off, none⟩ := fun hl0 => by
   have h1 := (World.cells?_some (hfn 0 hl0).1).2.2 0 hk
   have hlen : 0 < (E.enc (f 0)).length := by rw [E.len]; exact hk
   rw [List.getElem?_eq_getElem hlen] at h1
   have hsp := World.cell?_spot h1
   obtain ⟨b, o, sp⟩ := a
   have : sp = none := by simpa [Addr.add] using hsp
   subst this
   rfl
  refine ⟨(List.range len).map f, ⟨⟨some a, cap, by simp, by simpa using hl, hm, fun hne => ?_⟩, fun i q hq => ?_⟩, fun q hq => ?_⟩
  ·have hl0 : 0 < len := by
    rcases Nat.eq_zero_or_pos len with h | h
    ·subst h; simp at hne
    ·exact h
   rw [hsp hl0]; rfl
  ·have hi : i < len := by
    have := (List.getElem?_eq_some_iff.1 hq).1
    simpa using this
   have hq' : f i = q := by simpa [hi] using hq
   subst hq'
   have ha := hsp (by omega)
   obtain ⟨b, o, sp⟩ := a
   obtain rfl : sp = none := by simpa using ha
   have hc' := (World.cells?_some (hfn i hi).1).2.2
   have hlen : (E.enc (f i)).length = E.k := E.len _
   have eA : ∀ j, (((⟨b, o, none⟩ : Addr).add (i * E.k)).add j) = ⟨b, o + i * E.k + j, none⟩ := fun j => by
    rw [Go.Deep.add_add]; simp only [Addr.add]
    by_cases h0 : i * E.k + j = 0
    ·rw [if_pos h0]
     have : i * E.k = 0 := by omega
     have : j = 0 := by omega
     simp_all
    ·rw [if_neg h0, Nat.add_assoc]
   have h1 := hc' 0 hk
   rw [List.getElem?_eq_getElem (by omega), eA] at h1
   have hb1 : ∃ cs T fz, w.heap[b]? = some (.cells cs T fz) := by
    unfold World.cell? at h1
    split at h1
    ·rename_i cs T fz hh; exact ⟨cs, T, fz, hh⟩
    ·simp at h1
   obtain ⟨cs, T, fz, hh⟩ := hb1
   refine ⟨cs, T, fz, hh, fun j v hj => ?_⟩
   have hjk : j < E.k := by have := (List.getElem?_eq_some_iff.1 hj).1; omega
   have h2 := hc' j hjk
   rw [hj, eA] at h2
   unfold World.cell? at h2
   simp only [hh] at h2
   simp only [ofs]
   simpa using h2
  ·obtain ⟨i, hi, rfl⟩ := List.mem_map.1 hq
   exact (hfn i (List.mem_range.1 hi)).2
theorem Eg {n : Int} (h : (Lit.int .u8 n).wf = true) : ∃ x : UInt8, n = (x.toNat : Int) := by
 have := bounds_u8 h
 refine ⟨UInt8.ofNat n.toNat, ?_⟩
 rw [UInt8.toNat_ofNat']; omega
theorem v8 {n : Int} (h : (Lit.int .u32 n).wf = true) : ∃ x : UInt32, n = (x.toNat : Int) := by
 have := bounds_u32 h
 refine ⟨UInt32.ofNat n.toNat, ?_⟩
 rw [UInt32.toNat_ofNat']; omega
theorem G0 {e : TypeId} (he : P.underlying e = some (.int .u8)) {n : Nat} {cs : List Value} {y : DataW H × List MemPlace} (h : DataW.trod enc P w base spare held n e cs = some y) : ∃ a, cs = eJ.enc a ∧ True := by
 obtain ⟨z, rfl, _, hw⟩ := DataW.trod_int he h
 obtain ⟨x, rfl⟩ := Eg hw
 exact ⟨x, rfl, trivial⟩
end
end Go.HL
namespace Go.HL
open Go Go.Deep Go.ChangeShapes Go.WideShapes
section
variable {H : Type} {enc : TypeId × Value → H} {P : Program} {w : World} {base : Nat} {spare : Nat → Bool} {held : Bool}
def AG (P : Program) (t : TypeId) (d : DataW H) : Prop := ∀ n ∈ d.weights P t, n ≤ reachBytes
theorem weightsAll_mem {P : Program} {e : TypeId} : ∀ {l : List (DataW H)} {d : DataW H}, d ∈ l → ∀ n ∈ d.weights P e, n ∈ DataW.weightsAll P e l
 | x :: l, d, h, n, hn => by
  simp only [DataW.weightsAll, List.mem_append]
  rcases List.mem_cons.1 h with rfl | h
  ·exact .inl hn
  ·exact .inr (weightsAll_mem h n hn)
theorem sS {α : Type} [Inhabited α] {E : Enc α} {R : α → Prop} {t e : TypeId} {fuel : Nat} {V : Value} {x : DataW H × List MemPlace} (ht : P.underlying t = some (.slice e)) (hc : P.cellsOf e = E.k) (hk : 0 < E.k) (hL : AG P t x.1)
  (hf : ∀ n cs y, cs.length = E.k → DataW.trod enc P w base spare held n e cs = some y → AG P e y.1 → ∃ a : α, cs = E.enc a ∧ R a)
  (h : DataW.trod enc P w base spare held fuel t [V] = some x) : ∃ l : List α, Sl (hp w) E l V ∧ (∀ a ∈ l, R a) ∧ l.length * P.bytesOf e ≤ reachBytes := by
 rcases open_slice ht h with ⟨h0, _⟩ | ⟨a, len, cap, m, n, D, Pl, hv, hb, hl, hm, hmm, hxx, hx⟩
 ·simp only [List.cons.injEq, and_true] at h0
  subst h0
  exact ⟨[], Sl.nil _ _, by simp, by simp⟩
 ·simp only [List.cons.injEq, and_true] at hv
  subst hv
  subst hxx
  have hlm : len ≤ m := by rw [hmm]; split <;> omega
  have hw : DataW.weights P t (.slice ((List.range len).map D) ((List.range (m - len)).map fun j => D (len + j))) = (((List.range len).map D).length + ((List.range (m - len)).map fun j => D (len + j)).length) * P.bytesOf e :: (DataW.weightsAll P e ((List.range len).map D) ++ DataW.weightsAll P e ((List.range (m - len)).map fun j => D (len + j))) := by
   simp only [DataW.weights, ht]
  have each : ∀ i, i < len → ∃ q : α, w.cells? base (a.add (i * E.k)) E.k = some (E.enc q) ∧ R q := fun i hi => by
   obtain ⟨cs', h1, h2⟩ := hx i (by omega)
   rw [hc] at h1
   obtain ⟨q, rfl, hq⟩ := hf n cs' _ (World.cells?_some h1).2.1 h2 (fun z hz => hL z (by
    rw [hw]
    exact .tail _ (List.mem_append.2 (.inl (weightsAll_mem (List.mem_map.2 ⟨i, List.mem_range.2 hi, rfl⟩) z hz)))))
   exact ⟨q, h1, hq⟩
  obtain ⟨f, hfn⟩ := choose_lt each
  have hsp : 0 < len → a = ⟨a.block, a.off, none⟩ := fun hl0 => by
   have h1 := (World.cells?_some (hfn 0 hl0).1).2.2 0 hk
   have hlen : 0 < (E.enc (f 0)).length := by rw [E.len]; exact hk
   rw [List.getElem?_eq_getElem hlen] at h1
   have hsp := World.cell?_spot h1
   obtain ⟨b, o, sp⟩ := a
   have : sp = none := by simpa [Addr.add] using hsp
   subst this
   rfl
  refine ⟨(List.range len).map f, ⟨⟨some a, cap, by simp, by simpa using hl, hm, fun hne => ?_⟩, fun i q hq => ?_⟩, fun q hq => ?_, ?_⟩
  ·have hl0 : 0 < len := by
    rcases Nat.eq_zero_or_pos len with h | h
    ·subst h; simp at hne
    ·exact h
   rw [hsp hl0]; rfl
  ·have hi : i < len := by
    have := (List.getElem?_eq_some_iff.1 hq).1
    simpa using this
   have hq' : f i = q := by simpa [hi] using hq
   subst hq'
   have ha := hsp (by omega)
   obtain ⟨b, o, sp⟩ := a
   obtain rfl : sp = none := by simpa using ha
   have hc' := (World.cells?_some (hfn i hi).1).2.2
   have hlen : (E.enc (f i)).length = E.k := E.len _
   have eA : ∀ j, (((⟨b, o, none⟩ : Addr).add (i * E.k)).add j) = ⟨b, o + i * E.k + j, none⟩ := fun j => by
    rw [Go.Deep.add_add]; simp only [Addr.add]
    by_cases h0 : i * E.k + j = 0
    ·rw [if_pos h0]
     have : i * E.k = 0 := by omega
     have : j = 0 := by omega
     simp_all
    ·rw [if_neg h0, Nat.add_assoc]
   have h1 := hc' 0 hk
   rw [List.getElem?_eq_getElem (by omega), eA] at h1
   have hb1 : ∃ cs T fz, w.heap[b]? = some (.cells cs T fz) := by
    unfold World.cell? at h1
    split at h1
    ·rename_i cs T fz hh; exact ⟨cs, T, fz, hh⟩
    ·simp at h1
   obtain ⟨cs, T, fz, hh⟩ := hb1
   refine ⟨cs, T, fz, hh, fun j v hj => ?_⟩
   have hjk : j < E.k := by have := (List.getElem?_eq_some_iff.1 hj).1; omega
   have h2 := hc' j hjk
   rw [hj, eA] at h2
   unfold World.cell? at h2
   simp only [hh] at h2
   simp only [ofs]
   simpa using h2
  ·obtain ⟨i, hi, rfl⟩ := List.mem_map.1 hq
   exact (hfn i (List.mem_range.1 hi)).2
  ·have := hL _ (by rw [hw]; exact .head _)
   simp only [List.length_map, List.length_range] at this ⊢
   exact Nat.le_trans (Nat.mul_le_mul_right _ (by omega)) this
theorem Fi {e ts tu tb tB eu : TypeId} {f0 f1 f2 f3 f4 : Field} (he : P.underlying e = some (.struct #[f0, f1, f2, f3, f4]))
  (ho : [f0.offset, f1.offset, f2.offset, f3.offset, f4.offset] = [0, 1, 2, 3, 4]) (ht : [f0.type, f1.type, f2.type, f3.type, f4.type] = [ts, tu, tb, tB, tB])
  (c0 : P.cellsOf ts = 1) (c1 : P.cellsOf tu = 1) (c2 : P.cellsOf tb = 1) (c3 : P.cellsOf tB = 1) (us : P.underlying ts = some .string) (uu : P.underlying tu = some (.int .u32))
  (ub : P.underlying tb = some (.slice eu)) (ue : P.underlying eu = some (.int .u8)) (ce : P.cellsOf eu = 1) (be : P.bytesOf eu = 1) (uB : P.underlying tB = some .bool)
  {n : Nat} {cs : List Value} {y : DataW H × List MemPlace} (hl : cs.length = 5) (h : DataW.trod enc P w base spare held n e cs = some y) (hL : AG P e y.1) :
  ∃ s : SecV, cs = dK.enc s ∧ Sl (hp w) eJ s.data (.slice s.dp s.data.length s.dc) ∧ s.data.length ≤ reachBytes ∧ s.name.size ≤ reachBytes := by
 simp only [List.cons.injEq, and_true] at ho ht
 obtain ⟨o0, o1, o2, o3, o4⟩ := ho
 obtain ⟨t0, t1, t2, t3, t4⟩ := ht
 obtain ⟨xs, k, hk, hxy, _, hxl, hf⟩ := DataW.trod_struct he h
 match xs, hxl, cs, hl with
 | [y0, y1, y2, y3, y4], _, [v0, v1, v2, v3, v4], _ =>
  have g0 := hf 0 f0 rfl
  have g1 := hf 1 f1 rfl
  have g2 := hf 2 f2 rfl
  have g3 := hf 3 f3 rfl
  have g4 := hf 4 f4 rfl
  simp [o0, o1, o2, o3, o4, t0, t1, t2, t3, t4, c0, c1, c2, c3] at g0 g1 g2 g3 g4
  subst hxy
  have hw : ∀ j t d, [ts, tu, tb, tB, tB][j]? = some t → [y0.1, y1.1, y2.1, y3.1, y4.1][j]? = some d → AG P t d := fun j t d q1 q2 z hz => hL z (by
   simp only [DataW.weights, he, List.map_cons, List.map_nil, t0, t1, t2, t3, t4]
   exact DataW.weights_mem_each (j := j) q1 q2 z hz)
  have w0' := hw 0 ts y0.1 rfl rfl
  have w2' := hw 2 tb y2.1 rfl rfl
  obtain ⟨z0, e0, q0, w0⟩ := DataW.trod_string us g0
  obtain ⟨z1, e1, _, w1⟩ := DataW.trod_int uu g1
  obtain ⟨l, s2, _, hbl⟩ := sS (E := eJ) (R := fun _ => True) ub ce (by decide) w2' (fun n cs y _ hh _ => G0 ue hh) g2
  obtain ⟨z3, e3, _⟩ := DataW.trod_bool uB g3
  obtain ⟨z4, e4, _⟩ := DataW.trod_bool uB g4
  obtain ⟨x1, rfl⟩ := v8 w1
  simp only [List.cons.injEq, and_true] at e0 e1 e3 e4
  subst e0; subst e1; subst e3; subst e4
  obtain ⟨a, c, hv, _⟩ := s2.shape
  subst hv
  refine ⟨⟨z0, x1, l, a, c, z3, z4⟩, rfl, s2, by rw [be, Nat.mul_one] at hbl; exact hbl, ?_⟩
  have := w0' z0.data.toList.length (by rw [q0]; simp [DataW.weights])
  rw [Array.length_toList] at this
  exact this
end
end Go.HL
namespace Go.HL
open Go Go.Deep Go.ChangeShapes Go.WideShapes
section
variable {H : Type} {enc : TypeId × Value → H} {P : Program} {w : World} {base : Nat} {spare : Nat → Bool} {held : Bool}
theorem Fh {e : TypeId} (he : P.underlying e = some (.int .u32)) {n : Nat} {cs : List Value} {y : DataW H × List MemPlace} (h : DataW.trod enc P w base spare held n e cs = some y) : ∃ a, cs = an.enc a ∧ True := by
 obtain ⟨z, rfl, _, hw⟩ := DataW.trod_int he h
 obtain ⟨x, rfl⟩ := v8 hw
 exact ⟨x, rfl, trivial⟩
end
end Go.HL
