/- Own rules and walks, part 6. -/
import Derived.Test.YtpeaodkfbjenpaaGreatB5
set_option linter.unusedSimpArgs false
set_option linter.unusedVariables false
set_option linter.unusedSectionVars false
set_option maxRecDepth 100000
set_option maxHeartbeats 16000000
namespace Go.Proofs.YtpeaodkfbjenpaaGreat
open Go Go.HL Go.RowKit
theorem Br (l : List SecV) (inp : List UInt32) (V vi0 : Value) (p : UInt32) (m3 : UInt8) (w : World) (hV : Sl (hp w) cf l V) (hin : Sl (hp w) av inp vi0) (hD : DataIn (hp w) l) (hN : ∀ s ∈ l, s.name.size ≤ 140737488351232) (hs : jb l inp = false) :
  Calls Tryz.prog 5 #[V, .int .u32 p.toNat, vi0, .int .u8 m3.toNat] w (fun e w' => e = .returned (.bool true) ∧ Below w.heap.size w w') := by
 have hV' : Sl (Bg.of0 w).blk cf l V := hV
 have hD' : DataIn (Bg.of0 w).blk l := hD
 have hin' : Sl (Bg.of0 w).blk av inp vi0 := hin
 refine mf Tryz.func5 rfl Tryz.ntmps5 rfl ?_
 refine af (ab (zz0 (ad rfl) (ae (aa (af (af (ab (zz0 (ac rfl) (zz0 (ac rfl) (zz0 (aB rfl lK (fun w hw => kg l inp V vi0 w (hw.slF hV') (hw.slF hin'))) ?_))))))))))
 refine zz0 (cj rfl) (ae (aa ?_))
 refine ak rfl ?_ ?_ <;> intro h1 <;> try simp only [bs] at h1
 ·refine af (ab (zz0 (kK rfl rfl kH (fun w hw => gu w)) ?_))
  refine zz0 (ad rfl) (ae (aa (ao (an ?_))))
  refine aI k6 rfl (fun w' hw => ?_)
  exact ⟨rfl, hw.below0 (Bg.le.refl _)⟩
 ·exact absurd h1 (by rw [hs]; simp)
theorem B1 (l : List SecV) (inp : List UInt32) (V vi0 : Value) (p : UInt32) (m3 : UInt8) (w : World) (hV : Sl (hp w) cf l V) (hin : Sl (hp w) av inp vi0) (hD : DataIn (hp w) l) (hN : ∀ s ∈ l, s.name.size ≤ 140737488351232) (hs : jb l inp = true) (h : dL l ≠ 0) :
  Calls Tryz.prog 5 #[V, .int .u32 p.toNat, vi0, .int .u8 m3.toNat] w (fun e w' => e = .returned (.bool true) ∧ Below w.heap.size w w') := by
 have hV' : Sl (Bg.of0 w).blk cf l V := hV
 have hD' : DataIn (Bg.of0 w).blk l := hD
 have hin' : Sl (Bg.of0 w).blk av inp vi0 := hin
 obtain ⟨hB, hil⟩ := nz hs
 have hil' : inp.length ≤ 4096 := by omega
 refine mf Tryz.func5 rfl Tryz.ntmps5 rfl ?_
 refine af (ab (zz0 (ad rfl) (ae (aa (af (af (ab (zz0 (ac rfl) (zz0 (ac rfl) (zz0 (aB rfl lK (fun w hw => kg l inp V vi0 w (hw.slF hV') (hw.slF hin'))) ?_))))))))))
 refine zz0 (cj rfl) (ae (aa ?_))
 refine ak rfl ?_ ?_ <;> intro h1 <;> try simp only [bs] at h1
 ·exact absurd h1 (by rw [hs]; simp)
 ·refine ax (aa (af (ab (zz0 (ac rfl) (zz0 (aB rfl Tryz.call8 (fun w hw => tI l V w (hw.slF hV') hB hN h)) ?_)))))
  refine zz0 (ac rfl) (zz0 (ay rfl rfl) (zz0 (ay rfl rfl) ?_))
  refine c9 dR rfl (fun b2 => ?_)
  refine bb gA rfl rfl ba ?_
  refine zz0 (ad rfl) (ae (aa (af (ab (zz0 (ac rfl) (zz0 (ac rfl) (zz0 (ac rfl) (zz0 (aB rfl jQ (fun w hw => sL l V p inp vi0 w (hw.slF hV') hB hN (hD'.mono hw.bg) (hw.slF hin') hil' h)) ?_))))))))
  refine zz0 (ad rfl) (ae (aa (af (af (ab (zz0 (ac rfl) (zz0 (dk rfl rfl) (zz0 (ac rfl) ?_))))))))
  apply cZ
  ·exact (rfl : _ = (3, 35, 38))
  ·exact rfl
  ·intro hF3; have hF3' := hF3
   try simp only [bs] at hF3'
   refine zz5 hF3 (ac rfl) (zz5 hF3 (fX rfl rfl dT rfl) ?_)
   refine zz0 (aF rfl hF3 rfl) ?_
   refine ae (aa ?_)
   exact aw (Sub.cons rfl (zz7 3 rfl))
  ·intro hT3
   refine zz6 hT3 (zz6 hT3 (zz0 (aE rfl hT3 rfl) ?_))
   refine ae (aa ?_)
   exact aw (Sub.cons rfl (zz7 3 rfl))
  refine ae (aa ?_)
  refine ak rfl ?_ ?_ <;> intro h4 <;> try simp only [bs] at h4
  ·refine af (ab (zz0 (ac rfl) (zz0 (dk rfl rfl) (zz0 (ac rfl) ?_))))
   apply bF
   ·exact (rfl : _ = (3, 41, 44))
   ·exact rfl
   ·intro hT5; have hT5' := hT5
    try simp only [bs] at hT5'
    refine zz5 hT5 (ac rfl) (zz5 hT5 (fX rfl rfl dT rfl) ?_)
    refine zz0 (aE rfl hT5 rfl) ?_
    refine ae (aa ?_)
    exact aw (Sub.cons rfl (zz7 3 rfl))
   ·intro hF5
    refine zz6 hF5 (zz6 hF5 (zz0 (aF rfl hF5 rfl) ?_))
    refine ae (aa ?_)
    exact aw (Sub.cons rfl (zz7 3 rfl))
   refine zz0 (ac rfl) ?_
   apply bF
   ·exact (rfl : _ = (2, 45, 47))
   ·exact rfl
   ·intro hT6; have hT6' := hT6
    try simp only [bs] at hT6'
    refine zz5 hT6 (kK rfl rfl kH (fun w hw => gu w)) ?_
    refine zz0 (aE rfl hT6 rfl) ?_
    refine ae (aa ?_)
    exact aw (Sub.cons rfl (zz7 2 rfl))
   ·intro hF6
    refine zz6 hF6 (zz0 (aF rfl hF6 rfl) ?_)
    refine ae (aa ?_)
    exact aw (Sub.cons rfl (zz7 2 rfl))
   refine zz0 (ad rfl) (ae (aa (ao (an ?_))))
   refine aI k6 rfl (fun w' hw => ?_)
   exact ⟨by simp [h], hw.below0 (Bg.le.refl _)⟩
  ·exact absurd h4 (by simp [h])
theorem B0 (l : List SecV) (inp : List UInt32) (V vi0 : Value) (p : UInt32) (m3 : UInt8) (w : World) (hV : Sl (hp w) cf l V) (hin : Sl (hp w) av inp vi0) (hD : DataIn (hp w) l) (hN : ∀ s ∈ l, s.name.size ≤ 140737488351232) (hs : jb l inp = true) (h : dL l = 0) :
  Calls Tryz.prog 5 #[V, .int .u32 p.toNat, vi0, .int .u8 m3.toNat] w (fun e w' => e = .returned (.bool true) ∧ Below w.heap.size w w') := by
 have hV' : Sl (Bg.of0 w).blk cf l V := hV
 have hD' : DataIn (Bg.of0 w).blk l := hD
 have hin' : Sl (Bg.of0 w).blk av inp vi0 := hin
 obtain ⟨hB, hil⟩ := nz hs
 have hil' : inp.length ≤ 4096 := by omega
 obtain ⟨xi, hxi1, hxi2⟩ := Ak hin'
 subst hxi1
 have hcs : (e8 [] 983036 4294967295 4).length ≤ 500000 := by have q := iZ [] 983036 4294967295 4; rw [List.length_nil] at q; omega
 refine mf Tryz.func5 rfl Tryz.ntmps5 rfl ?_
 refine af (ab (zz0 (ad rfl) (ae (aa (af (af (ab (zz0 (ac rfl) (zz0 (ac rfl) (zz0 (aB rfl lK (fun w hw => kg l inp V xi.v w (hw.slF hV') (hw.slF hin'))) ?_))))))))))
 refine zz0 (cj rfl) (ae (aa ?_))
 refine ak rfl ?_ ?_ <;> intro h1 <;> try simp only [bs] at h1
 ·exact absurd h1 (by rw [hs]; simp)
 ·refine ax (aa (af (ab (zz0 (ac rfl) ?_))))
  refine iu (fun i : Value × List SecV => .tuple #[.agg #[.bool true, i.1, .slice none 0 0], .int .i64 0]) (fun _ => []) (fun i => kR 64 5 i.1 i.2) (ok := fun i => i.2.map SecV.pl = l.map SecV.pl) rfl rfl Tryz.call8 (fun w hw => (tH l V w (hw.slF hV') hB (hD'.mono hw.bg) hN h).mono fun e w' ⟨i, q1, q2, q3, q4⟩ => ⟨i, q1, q2.below, q3, q4⟩) rfl (fun i F0 hi hF0 hk0 => ?_)
  obtain ⟨Vk, k⟩ := i
  replace hi : k.map SecV.pl = l.map SecV.pl := hi
  obtain ⟨hkV, hkD⟩ := v9 hk0
  obtain ⟨xl, hxl1, hxl2⟩ := Ak hkV
  subst hxl1
  have hkB := hB.pl hi
  replace hV' := hV'.mono hF0.blk
  replace hD' := hD'.mono hF0.blk
  replace hin' := hin'.mono hF0.blk
  rw [List.nil_append]
  refine zz0 (ac rfl) (zz0 (ay rfl rfl) (zz0 (ay rfl rfl) ?_))
  refine c9 dR rfl (fun b2 => ?_)
  refine bb gA rfl rfl ba ?_
  refine zz0 (ad rfl) (ae (aa (af (ab (zz0 (ac rfl) (zz0 (ac rfl) (zz0 (ac rfl) ?_)))))))
  refine iu (fun j : Nat × Nat × Nat × Value × Value × WL × List RegV => .pointer (some ⟨j.1, 0, none⟩)) (fun j => [cellE j.1 (bJ (cJ p) j.2.1 j.2.2.2.2.1 (.slice none 0 0) .nilFunc) 82, mapE j.2.2.1 u8V j.2.2.2.2.2.1, rowE (.slice none 0 0) 23 av []]) (fun j => (cellE j.2.1 [j.2.2.2.1, .map (some j.2.2.1)] 91 :: rowE j.2.2.2.1 97 cD j.2.2.2.2.2.2 :: rowE j.2.2.2.2.1 23 av inp :: eI 5 j.2.2.2.2.2.2)) (ok := fun j => (cx j.2.2.2.2.2.1 = (cJ p).w ∧ j.2.2.2.2.2.1.length ≤ 4) ∧ MemOK l j.2.2.2.2.2.2) (hF0.dr) rfl jQ (fun w hw => nR l V p inp xi.v w (hw.slF hV') hB hN (hD'.mono hw.bg) (hw.slF hin') hil' h) rfl (fun j F1 hj hF1 hk => ?_)
  obtain ⟨bc1, bM1, bm1, VR1, vi1, wl1, rs1⟩ := j
  have hC1 : CpuAt F1.blk bM1 bm1 VR1 vi1 rs1 inp := mL hk
  obtain ⟨⟨hw1, hn1⟩, hO1⟩ := hj
  replace hO1 : MemOK l rs1 := hO1
  change Tr _ _ ([cellE bc1 (bJ (cJ p) bM1 vi1 (.slice none 0 0) .nilFunc) 82, mapE bm1 u8V wl1, rowE (.slice none 0 0) 23 av (cJ p).out] ++ _) _ _
  replace hkV := hkV.mono hF1.blk
  replace hkD := hkD.mono hF1.blk
  replace hin' := hin'.mono hF1.blk
  refine zz0 (ad rfl) (ae (aa (af (af (ab (zz0 (ac rfl) (zz0 (dk rfl rfl) (zz0 (ac rfl) ?_))))))))
  apply cZ
  ·exact (rfl : _ = (3, 35, 38))
  ·exact rfl
  ·intro hF3; have hF3' := hF3
   try simp only [bs] at hF3'
   refine zz5 hF3 (ac rfl) (zz5 hF3 (fX rfl rfl dT rfl) ?_)
   refine zz0 (aF rfl hF3 rfl) ?_
   refine ae (aa ?_)
   exact aw (Sub.cons rfl (zz7 3 rfl))
  ·intro hT3
   refine zz6 hT3 (zz6 hT3 (zz0 (aE rfl hT3 rfl) ?_))
   refine ae (aa ?_)
   exact aw (Sub.cons rfl (zz7 3 rfl))
  refine ae (aa ?_)
  refine ak rfl ?_ ?_ <;> intro h4 <;> try simp only [bs] at h4
  ·first | contradiction | (exfalso; omega) | simp_all
  ·refine ax (aa (af (ab (zz0 (bK rfl bX ba) ?_))))
   refine zz0 (ac rfl) (zz0 (ac rfl) ?_)
   refine fK (H0 := u7) (n := F1.lo) (R := fun h (j : SV) => Sl h cQ (e8 [] 983036 4294967295 4) (.slice j.a j.n j.c)) (fun j : SV => .tuple #[.agg (ev (cJ p) ⟨xl, j, xi, ⟨none, 0, 0⟩⟩).toArray, .int .i64 0]) rfl (l9 _) (fun h h' i hh r => r.mono hh) rfl Tryz.call10 (fun w2 hw2 hv2 => (pX k inp xl xi p w2 (hw2.slF hkV) (hkD.mono hw2.bg) hkB (hw2.slF hin') hil').mono fun e w' ⟨j, q1, q2, q3⟩ => ⟨j, q1, q2, q3.mono i5⟩) rfl (fun jn FN hFN hjn => ?_)
   have hRf := wh (p := p) (hkV.mono hFN.blk) (hkD.mono hFN.blk) (hjn.mono (lg (l9 _))) (hin'.mono hFN.blk)
   have hF01 := hF0.trans (hF1.trans hFN)
   have hdr : FN.dr = 0 := hF01.dr
   replace hC1 := hC1.mono hFN.blk
   refine zz0 (ac rfl) (zz0 (ay rfl rfl) (zz0 (ay rfl rfl) ?_))
   refine c9 cA rfl (fun b5 => ?_)
   refine bb cK rfl rfl au ?_
   refine zz0 (ad rfl) (ae (aa (af (af (ab (zz0 (ad rfl) (ae (aa (aQ ?_)))))))))
   refine cp (ι := Nat × St × WL × Value × Value × List CellV × RP × Bg) (fun ⟨i, s, wl, vo, ef, cs, xr, G⟩ => i ≤ 25 ∧ FN.le G ∧ cx wl = s.w ∧ wl.length ≤ 4 + 4 * i ∧ (∃ a n c, vo = .slice a n c) ∧ RefAt G.blk k inp s cs xr ∧ cs.length ≤ 4 + 4 * i ∧ s.err = 0 ∧ s.out.length ≤ 4096 ∧ i7 l s.w) (fun ⟨i, s, wl, vo, ef, cs, xr, G⟩ => G) (fun ⟨i, s, wl, vo, ef, cs, xr, G⟩ => [cellE b5 (ev s xr) 42, cellE bc1 (bJ s bM1 vi1 vo ef) 82, mapE bm1 u8V wl, rowE vo 23 av s.out]) (fun ⟨i, s, wl, vo, ef, cs, xr, G⟩ => [(14, .int .i64 (i : Nat))]) (fun ⟨i, s, wl, vo, ef, cs, xr, G⟩ => 25 - i) (0, cJ p, wl1, .slice none 0 0, .nilFunc, e8 [] 983036 4294967295 4, ⟨xl, jn, xi, ⟨none, 0, 0⟩⟩, FN) ⟨by omega, Bg.le.refl _, hw1, by have q : wl1.length ≤ 4 := hn1; omega, ⟨_, _, _, rfl⟩, hRf, by have q := iZ [] 983036 4294967295 4; rw [List.length_nil] at q; omega, rfl, (by show (0 : Nat) ≤ 4096; omega), wn hO1 p⟩ (.cons (by first | rfl | exact am rfl (by omega) | exact am rfl (by simp) | exact aS rfl (by simp)) Front.nil) (by repeat' constructor) rfl (fun i hi m hm => ?_)
   obtain ⟨i, s, wl, vo, ef, cs, xr, G⟩ := i
   replace hi : i ≤ 25 ∧ FN.le G ∧ cx wl = s.w ∧ wl.length ≤ 4 + 4 * i ∧ (∃ a n c, vo = .slice a n c) ∧ RefAt G.blk k inp s cs xr ∧ cs.length ≤ 4 + 4 * i ∧ s.err = 0 ∧ s.out.length ≤ 4096 ∧ i7 l s.w := hi
   replace hm : m = 25 - i := hm
   change Tr _ (G) [cellE b5 (ev s xr) 42, cellE bc1 (bJ s bM1 vi1 vo ef) 82, mapE bm1 u8V wl, rowE vo 23 av s.out] ([(14, .int .i64 (i : Nat))] ++ _) _
   obtain ⟨hi1, hG, hwl, hwn, hvo, hRA, hcn, hse, hol, hIs⟩ := hi
   have hCg := hC1.mono hG.blk
   have hdrG : G.dr = 0 := (hF01.trans hG).dr
   have hmd : (m3 % 25).toNat < 25 := by rw [UInt8.toNat_mod]; exact Nat.mod_lt _ (by decide)
   refine af (af (ab (zz0 (ac rfl) (zz0 (ac rfl) (zz0 (pC (n := 25) rfl rfl (by first | decide | assumption)) ?_)))))
   refine zz0 (db rfl bu aO) (zz0 (cE rfl rfl) (ae (aa ?_)))
   refine ak rfl ?_ ?_ <;> intro h6 <;> try simp only [bs] at h6
   ·refine ax (aa (af (aQ (af (ab (zz0 (ac rfl) (zz0 (aB rfl jB (fun w hw => js s bc1 bM1 vi1 vo ef w (cellE.cellsIn (hw.ent _ (by repeat constructor)) (Ext.refl _)))) ?_)))))))
    refine c9 fV rfl (fun b7 => ?_)
    refine bw mY rfl rfl aP ?_
    refine ae (aa (af (ab (zz0 (ac rfl) ?_))))
    refine cT (fun j : WL × Value × Value => .int .i64 (stepS l inp s).2) [cellE bc1 (bJ s bM1 vi1 vo ef) 82, mapE bm1 u8V wl, rowE vo 23 av s.out] (fun j => [cellE bc1 (bJ (stepS l inp s).1 bM1 vi1 j.2.1 j.2.2) 82, mapE bm1 u8V j.1, rowE j.2.1 23 av (stepS l inp s).1.out]) (ok := fun j => cx j.1 = (stepS l inp s).1.w ∧ j.1.length ≤ wl.length + 4 ∧ ∃ a n c, j.2.1 = .slice a n c) (dd := fun _ => 0) rfl Tryz.call19 (by repeat' constructor) (fun w hw => Nat.le_of_eq (hdrG)) (fun w hw => pL s bc1 bM1 bm1 VR1 vi1 vo ef rs1 l wl inp w (hw.own (by repeat' constructor)) (hCg.mono (hw.lessB (Lo := [cellE bc1 (bJ s bM1 vi1 vo ef) 82, mapE bm1 u8V wl, rowE vo 23 av s.out]) (by repeat' constructor))) hO1 hwl hvo) rfl (fun j hj => ?_)
    obtain ⟨wl4, vo4, ef4⟩ := j
    obtain ⟨hw4, hn4, hv4⟩ := hj
    change Tr _ _ (cellE bc1 (bJ (stepS l inp s).1 bM1 vi1 vo4 ef4) 82 :: mapE bm1 u8V wl4 :: rowE vo4 23 av (stepS l inp s).1.out :: _) _ _
    have hn4b : wl4.length ≤ wl.length + 4 := hn4
    obtain ⟨s2, hs2⟩ : ∃ x, x = (stepS l inp s).1 := ⟨_, rfl⟩
    obtain ⟨e2, he2⟩ : ∃ x, x = (stepS l inp s).2 := ⟨_, rfl⟩
    rw [← hs2] at hw4 ⊢
    rw [← he2]
    obtain ⟨hf1, hf2⟩ := uU hse hs2 he2
    have hol2 : s2.out.length ≤ 4096 := by rw [hs2]; exact pK hol
    have hI2 : i7 l s2.w := by rw [hs2]; exact te hO1 hIs
    refine zz0 (ad rfl) (ae (aa (af (ab (zz0 (bK rfl aR au) ?_)))))
    refine fK (H0 := G.blk) (n := G.lo) (R := fun h2 (j : List CellV × RP) => RefAt h2 k inp s2 j.1 j.2 ∧ j.1.length ≤ cs.length + 4) (fun j : List CellV × RP => .tuple #[.agg (ev s2 j.2).toArray, .int .i64 e2]) rfl (Hp.le.refl _) (fun h2 h2' j hh r => ⟨r.1.mono hh, r.2⟩) rfl Tryz.call20 (fun w2 hw2 hv2 => by have q := oL (vis G.blk G.lo G.blk) k inp s cs xr w2 hv2 (hRA.mono (s8 _ _)) hkB (by omega) hol; rw [wi hi, ← hs2, ← he2] at q; exact q) rfl (fun j F2 hF2 hj2 => ?_)
    have hjl := hj2.2
    have hdr2 : F2.dr = 0 := (hF01.trans (hG.trans hF2)).dr
    refine zz0 (ac rfl) (zz0 (ay rfl rfl) (zz0 (ay rfl rfl) ?_))
    refine c9 cA rfl (fun b8 => ?_)
    refine bb cK rfl rfl au ?_
    refine zz0 (ad rfl) (ae (aa (af (ab (zz0 (bK rfl aR au) ?_)))))
    refine bb cK rfl rfl au ?_
    refine ae (aa (af (af (ja aU ?_))))
    refine aK (ac rfl) (aK (ac rfl) (aK (dk rfl rfl) (aK (ac rfl) ?_)))
    apply nS
    ·exact (rfl : _ = (5, 75, 80))
    ·exact rfl
    ·intro hF9; have hF9' := hF9
     try simp only [bs] at hF9'
     refine bY hF9 (ac rfl) (bY hF9 (bK rfl aR au) ?_)
     refine bY hF9 (aB rfl Tryz.call14 (fun w hw => vA l k inp s2 j.1 j.2 bc1 vi1 vo4 ef4 bM1 bm1 VR1 rs1 wl4 w ((hCg.mono hF2.blk).mem.mono hw.bg) hO1 (mapE.in_ (hw.ent _ (by repeat constructor))) (by omega) hI2 hw4 hol2 (cellE.cellsIn (hw.ent _ (by repeat constructor)) (Ext.refl _)) (hw.row (by repeat constructor)) ((hj2.1.mono (lg hF2.blk)).mono hw.bg) hkB (by omega) hi)) ?_
     refine bY hF9 (cj rfl) (aK (aF rfl hF9 rfl) ?_)
     exact dh (Sub.cons rfl (zz7 5 rfl))
    ·intro hT9
     refine bZ hT9 (bZ hT9 (bZ hT9 (bZ hT9 (aK (aE rfl hT9 rfl) ?_))))
     exact dh (Sub.cons rfl (zz7 5 rfl))
    refine aK (ac rfl) ?_
    apply nS
    ·exact (rfl : _ = (9, 81, 90))
    ·exact rfl
    ·intro hF10; have hF10' := hF10
     try simp only [bs] at hF10'
     refine bY hF10 (ac rfl) (bY hF10 (dk rfl rfl) (bY hF10 (ac rfl) ?_))
     apply gi
     ·exact (rfl : _ = (5, 84, 89))
     ·exact rfl
     ·intro hT11; have hT11' := hT11
      try simp only [bs] at hT11'
      refine bY hT11 (ac rfl) (bY hT11 (aB rfl jB (fun w hw => js s2 bc1 bM1 vi1 vo4 ef4 w (cellE.cellsIn (hw.ent _ (by repeat constructor)) (Ext.refl _)))) ?_)
      refine bY hT11 (bK rfl gX aP) ?_
      refine bY hT11 (wJ (p := s2.m) (q := s.m) rfl rfl nI wy) ?_
      refine bY hF10 (aE rfl hT11 rfl) ?_
      exact dh (Sub.cons rfl (zz7 5 rfl))
     ·intro hF11
      refine bZ hF11 (bZ hF11 (bZ hF11 (bZ hF11 (bY hF10 (aF rfl hF11 rfl) ?_))))
      exact dh (Sub.cons rfl (zz7 5 rfl))
     refine aK (aF rfl hF10 rfl) ?_
     exact dh (Sub.cons rfl (zz7 5 rfl))
    ·intro hT10
     refine bZ hT10 (bZ hT10 (bZ hT10 (mp rfl rfl rfl ?_)))
     refine mp rfl rfl rfl ?_
     refine mp rfl rfl rfl ?_
     refine mp rfl rfl rfl ?_
     refine bZ hT10 (aK (aE rfl hT10 rfl) ?_)
     exact dh (Sub.cons rfl (zz7 9 rfl))
    refine cH ?_
    refine aa ?_
    refine ak rfl ?_ ?_ <;> intro h12 <;> try simp only [bs] at h12
    ·exact absurd h12 (by by_cases hz : e2 = 0 <;> simp [hz, hf2])
    ·refine ax (aa (af (ab (zz0 (ac rfl) (zz0 (dk rfl rfl) (ae (aa ?_)))))))
     refine ak rfl ?_ ?_ <;> intro h13 <;> try simp only [bs] at h13
     ·refine af ?_
      obtain ⟨q1, q2, q3, q4⟩ := hf2 (by assumption)
      refine bI ([cellE b7 (mY.enc s.m) 40]) 21 rfl aU ?_
      refine zz2 0 rfl (ac rfl) ?_
      refine zz2 2 rfl (ac rfl) ?_
      refine zz9 [1] (fun iq hq => ?_)
      obtain rfl := List.mem_singleton.1 hq
      refine aX rfl ?_
      refine cT (fun j : WL × Value × Value => .int .i64 (stepS l inp s2).2) [cellE bc1 (bJ s2 bM1 vi1 vo4 ef4) 82, mapE bm1 u8V wl4, rowE vo4 23 av s2.out] (fun j => [cellE bc1 (bJ (stepS l inp s2).1 bM1 vi1 j.2.1 j.2.2) 82, mapE bm1 u8V j.1, rowE j.2.1 23 av (stepS l inp s2).1.out]) (ok := fun j => cx j.1 = (stepS l inp s2).1.w ∧ j.1.length ≤ wl4.length + 4 ∧ ∃ a n c, j.2.1 = .slice a n c) (dd := fun _ => 0) rfl Tryz.call19 (by repeat' constructor) (fun w hw => Nat.le_of_eq (hdr2)) (fun w hw => pL s2 bc1 bM1 bm1 VR1 vi1 vo4 ef4 rs1 l wl4 inp w (hw.own (by repeat' constructor)) ((hCg.mono hF2.blk).mono (hw.lessB (Lo := [cellE bc1 (bJ s2 bM1 vi1 vo4 ef4) 82, mapE bm1 u8V wl4, rowE vo4 23 av s2.out]) (by repeat' constructor))) hO1 hw4 hv4) rfl (fun j hj => ?_)
      obtain ⟨wl6, vo6, ef6⟩ := j
      obtain ⟨hw6, hn6, hv6⟩ := hj
      change Tr _ _ (cellE bc1 (bJ (stepS l inp s2).1 bM1 vi1 vo6 ef6) 82 :: mapE bm1 u8V wl6 :: rowE vo6 23 av (stepS l inp s2).1.out :: _) _ _
      refine bB ?_
      refine zz2 3 rfl (aN rfl rfl) ?_
      refine zz2 4 rfl (ac rfl) ?_
      refine kq (t := 97) rfl (fun hG14 => ?_) (fun hG14 => ?_)
      ·have hG14' := hG14
       try simp only [bs] at hG14'
       refine mA 5 rfl hG14 (ac rfl) ?_
       refine mA 7 rfl hG14 (ac rfl) ?_
       refine mA 8 rfl hG14 (aN rfl rfl) ?_
       refine zz9 [6] (fun iq hq => ?_)
       obtain rfl := List.mem_singleton.1 hq
       refine aX rfl ?_
       refine zz5 hG14 (aB rfl lN (fun w hw => kz (stepS l inp s2).1 bc1 bM1 vi1 vo6 ef6 w (cellE.cellsIn (hw.ent _ (by repeat constructor)) (Ext.refl _)))) ?_
       refine bB ?_
       refine mA 9 rfl hG14 (jS rfl rfl dS) ?_
       refine zz2 10 rfl (aE rfl hG14 rfl) ?_
       refine zz2 11 rfl (ac rfl) ?_
       refine kq (t := 104) rfl (fun hG15 => ?_) (fun hG15 => ?_)
       ·have hG15' := hG15
        try simp only [bs] at hG15'
        refine mA 12 rfl hG15 (ac rfl) ?_
        refine mA 14 rfl hG15 (bK rfl gX aP) ?_
        refine zz9 [13] (fun iq hq => ?_)
        obtain rfl := List.mem_singleton.1 hq
        refine aX rfl ?_
        refine zz5 hG15 (aB rfl jB (fun w hw => js (stepS l inp s2).1 bc1 bM1 vi1 vo6 ef6 w (cellE.cellsIn (hw.ent _ (by repeat constructor)) (Ext.refl _)))) ?_
        refine bB ?_
        refine mA 15 rfl hG15 (wK (p := (stepS l inp s2).1.m) (q := s.m) rfl rfl nI wy) ?_
        refine zz2 16 rfl (aE rfl hG15 rfl) ?_
        refine zz2 17 rfl (ac rfl) ?_
        refine kq (t := 110) rfl (fun hG16 => ?_) (fun hG16 => ?_)
        ·have hG16' := hG16
         try simp only [bs] at hG16'
         refine zz9 [18] (fun iq hq => ?_)
         obtain rfl := List.mem_singleton.1 hq
         refine aX rfl ?_
         refine zz5 hG16 (kK (by first | exact hdr2 | exact hdrG) rfl kH (fun w hw => gu w)) ?_
         refine bB ?_
         refine zz2 19 rfl (aE rfl hG16 rfl) ?_
         refine zz2 20 rfl (ad rfl) ?_
         refine eh ?_
         refine aa (ao (bf (an (an (bf (an ?_))))))
         refine aI k6 rfl (fun w' hw => ?_)
         exact ⟨by simp [q2, q3, q4], hw.below0 (hF01.trans (hG.trans hF2))⟩
        ·exact absurd hG16 (by simp [q2, q3, q4])
       ·exact absurd hG15 (by simp [q2, q3, q4])
      ·exact absurd hG14 (by simp [q2, q3, q4])
     ·refine ax (a9 (aa (ab (zz0 (ac rfl) (zz0 (dq rfl rfl) ?_)))))
      refine zz0 (ad rfl) (ae (aa ?_))
      have hz : e2 = 0 := by simp_all
      apply bP (i + 1, s2, wl4, vo4, ef4, j.1, j.2, F2)
      ·exact rfl
      ·exact (.cons (by first | rfl | exact am rfl (by omega) | exact am rfl (by simp) | exact aS rfl (by simp)) Front.nil)
      ·exact bQ 32 rfl
      ·exact (by repeat' constructor)
      ·exact ⟨by omega, hG.trans hF2, hw4, by omega, hv4, hj2.1.mono (lg hF2.blk), by omega, hf1 hz, hol2, hI2⟩
      ·exact (by show 25 - (i + 1) < m; omega)
   ·refine cm (aV (aV (bT (aa (af (ab (zz0 (kK (by first | exact hdr2 | exact hdrG) rfl kH (fun w hw => gu w)) ?_)))))))
    refine zz0 (ad rfl) (ae (aa (ao ?_)))
    refine aI k6 rfl (fun w' hw => ?_)
    exact ⟨rfl, hw.below0 (hF01.trans hG)⟩
theorem wS (l : List SecV) (inp : List UInt32) (V vi0 : Value) (p : UInt32) (m3 : UInt8) (w : World) (hV : Sl (hp w) cf l V) (hin : Sl (hp w) av inp vi0) (hD : DataIn (hp w) l) (hN : ∀ s ∈ l, s.name.size ≤ 140737488351232) : Calls Tryz.prog 5 #[V, .int .u32 p.toNat, vi0, .int .u8 m3.toNat] w (fun e w' => e = .returned (.bool true) ∧ Below w.heap.size w w') := by
 by_cases hs : jb l inp = true
 ·by_cases h : dL l = 0
  ·exact B0 l inp V vi0 p m3 w hV hin hD hN hs h
  ·exact B1 l inp V vi0 p m3 w hV hin hD hN hs h
 ·exact Br l inp V vi0 p m3 w hV hin hD hN (by simpa using hs)
end Go.Proofs.YtpeaodkfbjenpaaGreat
namespace Go.HL
open Go Go.Deep Go.ChangeShapes Go.WideShapes
section
variable {H : Type} {enc : TypeId × Value → H} {P : Program} {w : World} {base : Nat} {spare : Nat → Bool} {held : Bool}
theorem pN {α : Type} [Inhabited α] {E : Enc α} {R : α → Prop} {t e : TypeId} {fuel : Nat} {V : Value} {x : DataW H × List MemPlace} (ht : P.underlying t = some (.slice e)) (hc : P.cellsOf e = E.k) (hk : 0 < E.k)
    (hf : ∀ n cs y, cs.length = E.k → DataW.trod enc P w base spare held n e cs = some y → ∃ a : α, cs = E.enc a ∧ R a)
    (h : DataW.trod enc P w base spare held fuel t [V] = some x) : ∃ l : List α, Sl (hp w) E l V ∧ ∀ a ∈ l, R a := by
  rcases open_slice ht h with ⟨h0, _⟩ | ⟨a, len, cap, m, n, D, Pl, hv, hb, hl, hm, hmm, _, hx⟩
  · simp only [List.cons.injEq, and_true] at h0
    subst h0
    exact ⟨[], Sl.nil _ _, by simp⟩
  · simp only [List.cons.injEq, and_true] at hv
    subst hv
    have hlm : len ≤ m := by rw [hmm]; split <;> omega
    have each : ∀ i, i < len → ∃ q : α, w.cells? base (a.add (i * E.k)) E.k = some (E.enc q) ∧ R q := fun i hi => by
      obtain ⟨cs', h1, h2⟩ := hx i (by omega)
      rw [hc] at h1
      obtain ⟨q, rfl, hq⟩ := hf n cs' _ (World.cells?_some h1).2.1 h2
      exact ⟨q, h1, hq⟩
    obtain ⟨f, hfn⟩ := choose_lt each
    have hsp : 0 < len → a = ⟨a.block, a.off, none⟩ := fun hl0 => by
      have h1 := (World.cells?_some (hfn 0 hl0).1).2.2 0 hk
      have hlen : 0 < (E.enc (f 0)).length := by rw [E.len]; exact hk
      rw [List.getElem?_eq_getElem hlen] at h1
      have hsp := World.cell?_spot h1
      obtain ⟨b, o, sp⟩ := a
      have : sp = none := by simpa [Addr.add] using hsp
      subst this
      rfl
    refine ⟨(List.range len).map f, ⟨⟨some a, cap, by simp, by simpa using hl, hm, fun hne => ?_⟩, fun i q hq => ?_⟩, fun q hq => ?_⟩
    · have hl0 : 0 < len := by
        rcases Nat.eq_zero_or_pos len with h | h
        · subst h; simp at hne
        · exact h
      rw [hsp hl0]; rfl
    · have hi : i < len := by
        have := (List.getElem?_eq_some_iff.1 hq).1
        simpa using this
      have hq' : f i = q := by simpa [hi] using hq
      subst hq'
      have ha := hsp (by omega)
      obtain ⟨b, o, sp⟩ := a
      obtain rfl : sp = none := by simpa using ha
      have hc' := (World.cells?_some (hfn i hi).1).2.2
      have hlen : (E.enc (f i)).length = E.k := E.len _
      have eA : ∀ j, (((⟨b, o, none⟩ : Addr).add (i * E.k)).add j) = ⟨b, o + i * E.k + j, none⟩ := fun j => by
        rw [Go.Deep.add_add]; simp only [Addr.add]
        by_cases h0 : i * E.k + j = 0
        · rw [if_pos h0]
          have : i * E.k = 0 := by omega
          have : j = 0 := by omega
          simp_all
        · rw [if_neg h0, Nat.add_assoc]
      have h1 := hc' 0 hk
      rw [List.getElem?_eq_getElem (by omega), eA] at h1
      have hb1 : ∃ cs T fz, w.heap[b]? = some (.cells cs T fz) := by
        unfold World.cell? at h1
        split at h1
        · rename_i cs T fz hh; exact ⟨cs, T, fz, hh⟩
        · simp at h1
      obtain ⟨cs, T, fz, hh⟩ := hb1
      refine ⟨cs, T, fz, hh, fun j v hj => ?_⟩
      have hjk : j < E.k := by have := (List.getElem?_eq_some_iff.1 hj).1; omega
      have h2 := hc' j hjk
      rw [hj, eA] at h2
      unfold World.cell? at h2
      simp only [hh] at h2
      simp only [ofs]
      simpa using h2
    · obtain ⟨i, hi, rfl⟩ := List.mem_map.1 hq
      exact (hfn i (List.mem_range.1 hi)).2
theorem s9 {n : Int} (h : (Lit.int .u8 n).wf = true) : ∃ x : UInt8, n = (x.toNat : Int) := by
  have := bounds_u8 h
  refine ⟨UInt8.ofNat n.toNat, ?_⟩
  rw [UInt8.toNat_ofNat']; omega
theorem mT {n : Int} (h : (Lit.int .u32 n).wf = true) : ∃ x : UInt32, n = (x.toNat : Int) := by
  have := bounds_u32 h
  refine ⟨UInt32.ofNat n.toNat, ?_⟩
  rw [UInt32.toNat_ofNat']; omega
theorem AG {e : TypeId} (he : P.underlying e = some (.int .u8)) {n : Nat} {cs : List Value} {y : DataW H × List MemPlace} (h : DataW.trod enc P w base spare held n e cs = some y) : ∃ a, cs = dH.enc a ∧ True := by
  obtain ⟨z, rfl, _, hw⟩ := DataW.trod_int he h
  obtain ⟨x, rfl⟩ := s9 hw
  exact ⟨x, rfl, trivial⟩
end
end Go.HL
namespace Go.HL
open Go Go.Deep Go.ChangeShapes Go.WideShapes
section
variable {H : Type} {enc : TypeId × Value → H} {P : Program} {w : World} {base : Nat} {spare : Nat → Bool} {held : Bool}
def rZ (P : Program) (t : TypeId) (d : DataW H) : Prop := ∀ n ∈ d.weights P t, n ≤ reachBytes
theorem weightsAll_mem {P : Program} {e : TypeId} : ∀ {l : List (DataW H)} {d : DataW H}, d ∈ l → ∀ n ∈ d.weights P e, n ∈ DataW.weightsAll P e l
  | x :: l, d, h, n, hn => by
    simp only [DataW.weightsAll, List.mem_append]
    rcases List.mem_cons.1 h with rfl | h
    · exact .inl hn
    · exact .inr (weightsAll_mem h n hn)
theorem mC {α : Type} [Inhabited α] {E : Enc α} {R : α → Prop} {t e : TypeId} {fuel : Nat} {V : Value} {x : DataW H × List MemPlace} (ht : P.underlying t = some (.slice e)) (hc : P.cellsOf e = E.k) (hk : 0 < E.k) (hL : rZ P t x.1)
    (hf : ∀ n cs y, cs.length = E.k → DataW.trod enc P w base spare held n e cs = some y → rZ P e y.1 → ∃ a : α, cs = E.enc a ∧ R a)
    (h : DataW.trod enc P w base spare held fuel t [V] = some x) : ∃ l : List α, Sl (hp w) E l V ∧ (∀ a ∈ l, R a) ∧ l.length * P.bytesOf e ≤ reachBytes := by
  rcases open_slice ht h with ⟨h0, _⟩ | ⟨a, len, cap, m, n, D, Pl, hv, hb, hl, hm, hmm, hxx, hx⟩
  · simp only [List.cons.injEq, and_true] at h0
    subst h0
    exact ⟨[], Sl.nil _ _, by simp, by simp⟩
  · simp only [List.cons.injEq, and_true] at hv
    subst hv
    subst hxx
    have hlm : len ≤ m := by rw [hmm]; split <;> omega
    have hw : DataW.weights P t (.slice ((List.range len).map D) ((List.range (m - len)).map fun j => D (len + j))) = (((List.range len).map D).length + ((List.range (m - len)).map fun j => D (len + j)).length) * P.bytesOf e :: (DataW.weightsAll P e ((List.range len).map D) ++ DataW.weightsAll P e ((List.range (m - len)).map fun j => D (len + j))) := by
      simp only [DataW.weights, ht]
    have each : ∀ i, i < len → ∃ q : α, w.cells? base (a.add (i * E.k)) E.k = some (E.enc q) ∧ R q := fun i hi => by
      obtain ⟨cs', h1, h2⟩ := hx i (by omega)
      rw [hc] at h1
      obtain ⟨q, rfl, hq⟩ := hf n cs' _ (World.cells?_some h1).2.1 h2 (fun z hz => hL z (by
        rw [hw]
        exact .tail _ (List.mem_append.2 (.inl (weightsAll_mem (List.mem_map.2 ⟨i, List.mem_range.2 hi, rfl⟩) z hz)))))
      exact ⟨q, h1, hq⟩
    obtain ⟨f, hfn⟩ := choose_lt each
    have hsp : 0 < len → a = ⟨a.block, a.off, none⟩ := fun hl0 => by
      have h1 := (World.cells?_some (hfn 0 hl0).1).2.2 0 hk
      have hlen : 0 < (E.enc (f 0)).length := by rw [E.len]; exact hk
      rw [List.getElem?_eq_getElem hlen] at h1
      have hsp := World.cell?_spot h1
      obtain ⟨b, o, sp⟩ := a
      have : sp = none := by simpa [Addr.add] using hsp
      subst this
      rfl
    refine ⟨(List.range len).map f, ⟨⟨some a, cap, by simp, by simpa using hl, hm, fun hne => ?_⟩, fun i q hq => ?_⟩, fun q hq => ?_, ?_⟩
    · have hl0 : 0 < len := by
        rcases Nat.eq_zero_or_pos len with h | h
        · subst h; simp at hne
        · exact h
      rw [hsp hl0]; rfl
    · have hi : i < len := by
        have := (List.getElem?_eq_some_iff.1 hq).1
        simpa using this
      have hq' : f i = q := by simpa [hi] using hq
      subst hq'
      have ha := hsp (by omega)
      obtain ⟨b, o, sp⟩ := a
      obtain rfl : sp = none := by simpa using ha
      have hc' := (World.cells?_some (hfn i hi).1).2.2
      have hlen : (E.enc (f i)).length = E.k := E.len _
      have eA : ∀ j, (((⟨b, o, none⟩ : Addr).add (i * E.k)).add j) = ⟨b, o + i * E.k + j, none⟩ := fun j => by
        rw [Go.Deep.add_add]; simp only [Addr.add]
        by_cases h0 : i * E.k + j = 0
        · rw [if_pos h0]
          have : i * E.k = 0 := by omega
          have : j = 0 := by omega
          simp_all
        · rw [if_neg h0, Nat.add_assoc]
      have h1 := hc' 0 hk
      rw [List.getElem?_eq_getElem (by omega), eA] at h1
      have hb1 : ∃ cs T fz, w.heap[b]? = some (.cells cs T fz) := by
        unfold World.cell? at h1
        split at h1
        · rename_i cs T fz hh; exact ⟨cs, T, fz, hh⟩
        · simp at h1
      obtain ⟨cs, T, fz, hh⟩ := hb1
      refine ⟨cs, T, fz, hh, fun j v hj => ?_⟩
      have hjk : j < E.k := by have := (List.getElem?_eq_some_iff.1 hj).1; omega
      have h2 := hc' j hjk
      rw [hj, eA] at h2
      unfold World.cell? at h2
      simp only [hh] at h2
      simp only [ofs]
      simpa using h2
    · obtain ⟨i, hi, rfl⟩ := List.mem_map.1 hq
      exact (hfn i (List.mem_range.1 hi)).2
    · have := hL _ (by rw [hw]; exact .head _)
      simp only [List.length_map, List.length_range] at this ⊢
      exact Nat.le_trans (Nat.mul_le_mul_right _ (by omega)) this
theorem uq {e ts tu tb tB eu : TypeId} {f0 f1 f2 f3 f4 : Field} (he : P.underlying e = some (.struct #[f0, f1, f2, f3, f4]))
    (ho : [f0.offset, f1.offset, f2.offset, f3.offset, f4.offset] = [0, 1, 2, 3, 4]) (ht : [f0.type, f1.type, f2.type, f3.type, f4.type] = [ts, tu, tb, tB, tB])
    (c0 : P.cellsOf ts = 1) (c1 : P.cellsOf tu = 1) (c2 : P.cellsOf tb = 1) (c3 : P.cellsOf tB = 1) (us : P.underlying ts = some .string) (uu : P.underlying tu = some (.int .u32))
    (ub : P.underlying tb = some (.slice eu)) (ue : P.underlying eu = some (.int .u8)) (ce : P.cellsOf eu = 1) (be : P.bytesOf eu = 1) (uB : P.underlying tB = some .bool)
    {n : Nat} {cs : List Value} {y : DataW H × List MemPlace} (hl : cs.length = 5) (h : DataW.trod enc P w base spare held n e cs = some y) (hL : rZ P e y.1) :
    ∃ s : SecV, cs = cf.enc s ∧ Sl (hp w) dH s.data (.slice s.dp s.data.length s.dc) ∧ s.data.length ≤ reachBytes ∧ s.name.size ≤ reachBytes := by
  simp only [List.cons.injEq, and_true] at ho ht
  obtain ⟨o0, o1, o2, o3, o4⟩ := ho
  obtain ⟨t0, t1, t2, t3, t4⟩ := ht
  obtain ⟨xs, k, hk, hxy, _, hxl, hf⟩ := DataW.trod_struct he h
  match xs, hxl, cs, hl with
  | [y0, y1, y2, y3, y4], _, [v0, v1, v2, v3, v4], _ =>
    have g0 := hf 0 f0 rfl
    have g1 := hf 1 f1 rfl
    have g2 := hf 2 f2 rfl
    have g3 := hf 3 f3 rfl
    have g4 := hf 4 f4 rfl
    simp [o0, o1, o2, o3, o4, t0, t1, t2, t3, t4, c0, c1, c2, c3] at g0 g1 g2 g3 g4
    subst hxy
    have hw : ∀ j t d, [ts, tu, tb, tB, tB][j]? = some t → [y0.1, y1.1, y2.1, y3.1, y4.1][j]? = some d → rZ P t d := fun j t d q1 q2 z hz => hL z (by
      simp only [DataW.weights, he, List.map_cons, List.map_nil, t0, t1, t2, t3, t4]
      exact DataW.weights_mem_each (j := j) q1 q2 z hz)
    have w0' := hw 0 ts y0.1 rfl rfl
    have w2' := hw 2 tb y2.1 rfl rfl
    obtain ⟨z0, e0, q0, w0⟩ := DataW.trod_string us g0
    obtain ⟨z1, e1, _, w1⟩ := DataW.trod_int uu g1
    obtain ⟨l, s2, _, hbl⟩ := mC (E := dH) (R := fun _ => True) ub ce (by decide) w2' (fun n cs y _ hh _ => AG ue hh) g2
    obtain ⟨z3, e3, _⟩ := DataW.trod_bool uB g3
    obtain ⟨z4, e4, _⟩ := DataW.trod_bool uB g4
    obtain ⟨x1, rfl⟩ := mT w1
    simp only [List.cons.injEq, and_true] at e0 e1 e3 e4
    subst e0; subst e1; subst e3; subst e4
    obtain ⟨a, c, hv, _⟩ := s2.shape
    subst hv
    refine ⟨⟨z0, x1, l, a, c, z3, z4⟩, rfl, s2, by rw [be, Nat.mul_one] at hbl; exact hbl, ?_⟩
    have := w0' z0.data.toList.length (by rw [q0]; simp [DataW.weights])
    rw [Array.length_toList] at this
    exact this
end
end Go.HL
namespace Go.HL
open Go Go.Deep Go.ChangeShapes Go.WideShapes
section
variable {H : Type} {enc : TypeId × Value → H} {P : Program} {w : World} {base : Nat} {spare : Nat → Bool} {held : Bool}
theorem uo {e : TypeId} (he : P.underlying e = some (.int .u32)) {n : Nat} {cs : List Value} {y : DataW H × List MemPlace} (h : DataW.trod enc P w base spare held n e cs = some y) : ∃ a, cs = av.enc a ∧ True := by
  obtain ⟨z, rfl, _, hw⟩ := DataW.trod_int he h
  obtain ⟨x, rfl⟩ := mT hw
  exact ⟨x, rfl, trivial⟩
end
end Go.HL
