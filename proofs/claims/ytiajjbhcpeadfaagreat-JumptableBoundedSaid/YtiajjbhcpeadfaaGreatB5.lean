/- Own rules and walks, part 5. -/
import Derived.Test.YtiajjbhcpeadfaaGreatB4
set_option linter.unusedSimpArgs false
set_option linter.unusedVariables false
set_option linter.unusedSectionVars false
set_option maxRecDepth 100000
set_option maxHeartbeats 16000000
namespace Go.Proofs.YtiajjbhcpeadfaaGreat
open Go Go.HL Go.RowKit
theorem Bh (i : Ins) (w : World) (hI : InsOK i) :
  Cr Tryz.prog 148 #[.agg (aM.enc i).toArray] w (.int .u64 (uu i)) := by
 have hl := wH i
 have ha := i.addr.toNat_lt
 refine enter Tryz.func148 rfl Tryz.ntmps148 rfl ?_
 refine ah ?_
 refine dG rfl rfl (fun b1 => ?_)
 refine zz0 (ab rfl) (ad (an (gZ aP ?_)))
 refine aw (zz2 (off := 0) (ft := 23) rfl aj rfl ae) ?_
 refine aw (aH rfl am) ?_
 refine aw (eN rfl aS cD) (aw (bG rfl aQ ax) ?_)
 refine aw (az rfl nP (fun w hw => nG i w hI)) ?_
 refine aw (eW rfl ba cD (IntWalk.u64_in _ (by omega))) ?_
 refine aw (pp rfl rfl (by omega)) ?_
 refine aw (ab rfl) (bH ?_)
 refine ac (aC ?_)
 refine aX Tryz.results148 rfl (fun w' hw => ?_)
 exact ⟨rfl, hw.b0⟩
theorem wX (a b : Ins) (w : World) (hI : InsOK a) (hJ : InsOK b) :
  Cr Tryz.prog 81 #[.agg (aM.enc a).toArray, .agg (aM.enc b).toArray] w (.bool (jq a b)) := by
 refine enter Tryz.func81 rfl Tryz.ntmps81 rfl ?_
 refine ah ?_
 refine dG rfl rfl (fun b1 => ?_)
 refine dG rfl rfl (fun b2 => ?_)
 refine zz0 (ab rfl) (ad (an (gZ aP ?_)))
 refine aw (zz2 (off := 0) (ft := 23) rfl aj rfl ae) ?_
 refine aw (aH rfl am) ?_
 refine aw (zz2 (off := 0) (ft := 23) rfl aj rfl ae) ?_
 refine aw (aH rfl am) ?_
 refine aw (iU rfl rfl) ?_
 refine aw (aa rfl) ?_
 apply fx
 ·exact (rfl : _ = (4, 10, 14))
 ·exact rfl
 ·intro hT3; have hT3' := hT3
  try simp only [bs] at hT3'
  refine bX hT3 (bG rfl aQ ax) ?_
  refine bX hT3 (az rfl nP (fun w hw => nG a w hI)) ?_
  refine bX hT3 (fg rfl rfl) (aw (aV rfl hT3 rfl) ?_)
  exact dj (Sub.cons rfl (bD 4 rfl))
 ·intro hF3
  refine bW hF3 (bW hF3 (bW hF3 (aw (aU rfl hF3 rfl) ?_)))
  exact dj (Sub.cons rfl (bD 4 rfl))
 refine aw (aa rfl) ?_
 apply fx
 ·exact (rfl : _ = (4, 15, 19))
 ·exact rfl
 ·intro hT4; have hT4' := hT4
  try simp only [bs] at hT4'
  refine bX hT4 (bG rfl aQ ax) ?_
  refine bX hT4 (az rfl nP (fun w hw => nG b w hJ)) ?_
  refine bX hT4 (fg rfl rfl) (aw (aV rfl hT4 rfl) ?_)
  exact dj (Sub.cons rfl (bD 4 rfl))
 ·intro hF4
  refine bW hF4 (bW hF4 (bW hF4 (aw (aU rfl hF4 rfl) ?_)))
  exact dj (Sub.cons rfl (bD 4 rfl))
 refine aw (aa rfl) ?_
 apply fx
 ·exact (rfl : _ = (13, 20, 33))
 ·exact rfl
 ·intro hT5; have hT5' := hT5
  try simp only [bs] at hT5'
  refine bX hT5 (zz2 (off := 0) (ft := 23) rfl aj rfl ae) ?_
  refine bX hT5 (aH rfl am) ?_
  refine bX hT5 (zz2 (off := 0) (ft := 23) rfl aj rfl ae) ?_
  refine bX hT5 (aH rfl am) ?_
  refine bX hT5 (oV rfl rfl) ?_
  refine bX hT5 (eN rfl aS cD) (bX hT5 (bG rfl aQ ax) ?_)
  refine bX hT5 (az rfl Tryz.call148 (fun w hw => Bh a w hI)) ?_
  refine bX hT5 (bG rfl aQ ax) ?_
  refine bX hT5 (az rfl Tryz.call148 (fun w hw => Bh b w hJ)) ?_
  refine bX hT5 (tu rfl rfl) ?_
  refine bX hT5 (bT rfl rfl) (aw (aV rfl hT5 rfl) ?_)
  exact dj (Sub.cons rfl (bD 13 rfl))
 ·intro hF5
  refine bW hF5 (bW hF5 (bW hF5 (bW hF5 (bW hF5 (bW hF5 (bW hF5 (bW hF5 (bW hF5 (bW hF5 (bW hF5 (bW hF5 (aw (aU rfl hF5 rfl) ?_))))))))))))
  exact dj (Sub.cons rfl (bD 13 rfl))
 refine aw (ab rfl) (bH ?_)
 refine ac (aC ?_)
 refine aX Tryz.results81 rfl (fun w' hw => ?_)
 exact ⟨rfl, hw.b0⟩
theorem oc (w : World) (g : FuncId) (cb : Array Value) :
  Cr Tryz.prog 199 #[.slice none 0 0, .int .i64 0, .int .i64 0, .func (.func g) #[] cb] w (.tuple #[]) := by
 refine enter Tryz.func199 rfl Tryz.ntmps199 rfl ?_
 refine ah (zz0 (aa rfl) (zz0 (cB rfl rfl) ?_))
 refine zz0 (ab rfl) (ad (aF ?_))
 refine bL (ι := Unit) (fun _u => True) (fun _ => _) (fun _u => []) (fun _u => [(8, .int .i64 1)]) (fun _u => 0) () trivial (Front.c Front.nil) (by repeat' constructor) rfl (fun _u hi m hm => ?_)
 replace hi : True := hi
 replace hm : m = 0 := hm
 change Tr _ _ [] ([(8, .int .i64 1)] ++ _) _
 refine an (ah (zz0 (aa rfl) (zz0 (aa rfl) (zz0 (bT rfl rfl) (ad ?_)))))
 refine au rfl ?_ ?_ <;> intro h1 <;> try simp only [bs] at h1
 ·first | contradiction | (exfalso; omega) | simp_all
 refine bJ (aG (aG (bj ?_)))
 refine fc Tryz.results199 (fun w' hw => ?_)
 exact ⟨rfl, hw.b0⟩
theorem sT (w : World) (g : FuncId) (cb : Array Value) :
  Cr Tryz.prog 149 #[.slice none 0 0, .int .i64 0, .int .i64 0, .int .i64 0, .func (.func g) #[] cb] w (.tuple #[]) := by
 refine enter Tryz.func149 rfl Tryz.ntmps149 rfl ?_
 refine ah (zz0 (ab rfl) (aI (zz0 (ab rfl) (ad (aF ?_)))))
 refine bL (ι := Unit) (fun _u => True) (fun _ => _) (fun _u => []) (fun _u => []) (fun _u => 0) () trivial Front.nil (by repeat' constructor) rfl (fun _u hi m hm => ?_)
 replace hi : True := hi
 replace hm : m = 0 := hm
 change Tr _ _ [] ([] ++ _) _
 refine aF (ah (zz0 (aa rfl) (zz0 (aa rfl) (zz0 (ei rfl rfl) ?_))))
 refine zz0 (ab rfl) (ad (an (ah (zz0 (aa rfl) (zz0 (fX rfl rfl) (ad ?_))))))
 refine au rfl ?_ ?_ <;> intro h1 <;> try simp only [bs] at h1
 ·refine ah (zz0 (aa rfl) (zz0 (aa rfl) (zz0 (aa rfl) (zz0 (aa rfl) (zz0 (az rfl Tryz.call199 (fun w hw => oc w g cb)) ?_)))))
  refine ad (aC (ay (bv (ay (bv ?_)))))
  refine lk Tryz.results149 (fun w' hw => ?_)
  exact ⟨rfl, hw.b0⟩
 first | contradiction | (exfalso; omega) | simp_all
theorem mS (w : World) (g : FuncId) (cb : Array Value) :
  Cr Tryz.prog 82 #[.slice none 0 0, .func (.func g) #[] cb] w (.tuple #[]) := by
 refine enter Tryz.func82 rfl Tryz.ntmps82 rfl ?_
 refine ah (zz0 (aa rfl) (zz0 (pn rfl aL) ?_))
 refine zz0 (ab rfl) (ad (ar (zz0 (aa rfl) (zz0 (aa rfl) (zz0 (aa rfl) (zz0 (eW rfl ba dN (IntWalk.u64_in _ (by omega))) ?_))))))
 refine zz0 (az rfl Tryz.call150 (fun w hw => (Go.Proofs.Any.bits_Len (Go.Proofs.SlLaysF0.n15.bits (P := Tryz.prog) (ρ := Tryz.sortIns_ren) { Tryz.sortIns with }) 0 w (by decide) (by decide)).mono (fun e w' h => ⟨h.1, by rw [h.2]; exact Ext.refl _⟩))) ?_
 refine zz0 (aa rfl) (zz0 (az rfl Tryz.call149 (fun w hw => sT w g cb)) ?_)
 refine aD ?_
 refine fc Tryz.results82 (fun w' hw => ?_)
 exact ⟨rfl, hw.b0⟩
theorem u7 (a b : Ins) (w : World) :
  Cr Tryz.prog 143 #[.agg (aM.enc a).toArray, .agg (aM.enc b).toArray] w (.int .i64 (k7 a b)) := by
 refine enter Tryz.func143 rfl Tryz.ntmps143 rfl ?_
 refine ah ?_
 refine dG rfl rfl (fun b1 => ?_)
 refine dG rfl rfl (fun b2 => ?_)
 refine zz0 (ab rfl) (aI (zz0 (zz2 (off := 0) (ft := 23) rfl aj rfl ae) ?_))
 refine zz0 (aH rfl am) ?_
 refine zz0 (zz2 (off := 0) (ft := 23) rfl aj rfl ae) ?_
 refine zz0 (aH rfl am) ?_
 refine zz0 (az rfl Tryz.call84 (fun w hw => yY a.addr b.addr w)) ?_
 refine zz0 (ab rfl) (ad (aC ?_))
 refine aX Tryz.results143 rfl (fun w' hw => ?_)
 exact ⟨rfl, hw.b0⟩
theorem wv (a b : Ins) (w : World) :
  Cr Tryz.prog 83 #[.agg (aM.enc a).toArray, .agg (aM.enc b).toArray] w (.int .i64 (k7 a b)) := by
 refine enter Tryz.func83 rfl Tryz.ntmps83 rfl ?_
 refine ah ?_
 refine dG rfl rfl (fun b1 => ?_)
 refine dG rfl rfl (fun b2 => ?_)
 refine zz0 (ab rfl) (aI (zz0 (zz2 (off := 0) (ft := 23) rfl aj rfl ae) ?_))
 refine zz0 (aH rfl am) ?_
 refine zz0 (zz2 (off := 0) (ft := 23) rfl aj rfl ae) ?_
 refine zz0 (aH rfl am) ?_
 refine zz0 (az rfl Tryz.call84 (fun w hw => yY a.addr b.addr w)) ?_
 refine zz0 (ab rfl) (ad (aC ?_))
 refine aX Tryz.results83 rfl (fun w' hw => ?_)
 exact ⟨rfl, hw.b0⟩
theorem wV (l : List Ins) (V : Value) (w : World) (hV : Sl (hp w) aM l V) (hI : ∀ x ∈ l, InsOK x) (h40 : l.length ≤ 700) :
  Calls Tryz.prog 73 #[V] w (fun e w' => ∃ V', e = .returned V' ∧ Ext w w' ∧ js w w' 36 aM (fu l) V') := by
 have hV' : Sl (Bg.of w).blk aM l V := hV
 refine enter Tryz.func73 rfl Tryz.ntmps73 rfl ?_
 refine ah (zz0 (ab rfl) (aI ?_))
 refine gr cX rfl (fun b1 => ?_)
 refine zz0 (ab rfl) (aI (zz0 (ab rfl) (ad (an (ah (zz0 (aa rfl) (zz0 (gj rfl aL) ?_)))))))
 refine zz0 (aa rfl) (ad (aF (bZ 36 aM ?_)))
 refine bL (ι := Nat × Value) (fun ⟨k, V'⟩ => k ≤ l.length) (fun _ => _) (fun ⟨k, V'⟩ => [rowE V' 36 aM (sa (l.take k)), mapE b1 cX (wZ (sa (l.take k)))]) (fun ⟨k, V'⟩ => [(10, .int .i64 (k : Nat)), (4, V')]) (fun ⟨k, V'⟩ => l.length - k) (0, _) (Nat.zero_le _) (Front.c (Front.c Front.nil)) (by repeat' constructor) rfl (fun i hi m hm => ?_)
 obtain ⟨k, V'⟩ := i
 replace hi : k ≤ l.length := hi
 replace hm : m = l.length - k := hm
 change Tr _ _ [rowE V' 36 aM (sa (l.take k)), mapE b1 cX (wZ (sa (l.take k)))] ([(10, .int .i64 (k : Nat)), (4, V')] ++ _) _
 have hcl := yX (l.take k)
 rw [List.length_take] at hcl
 have hIk : k < l.length → InsOK (l.getD k default) := fun q => hI _ (df q)
 refine ah (zz0 (bT rfl rfl) (ad (an ?_)))
 refine au rfl ?_ ?_ <;> intro h2 <;> try simp only [bs] at h2
 ·refine bC (an (aF (ah (zz0 (iH rfl rfl aL ax) ?_))))
  refine zz0 (pB rfl aQ ax) ?_
  refine dC bR rfl (fun b3 => ?_)
  refine aB aM rfl rfl ax ?_
  refine aI (zz0 (aa rfl) (zz0 (zz2 (off := 0) (ft := 23) rfl aj rfl ae) ?_))
  refine zz0 (aH rfl am) ?_
  refine zz0 (zm rfl rfl (by repeat constructor) d6 aS mw) ?_
  rw [Ez]
  refine zz0 (cP rfl) (zz0 (aa rfl) ?_)
  apply cH
  ·exact (rfl : _ = (3, 19, 22))
  ·exact rfl
  ·intro hT4; have hT4' := hT4
   try simp only [bs] at hT4'
   refine zz6 hT4 (bG rfl aQ ax) ?_
   refine zz6 hT4 (az rfl j4 (fun w hw => jY (l.getD k default) w (hIk (by omega)))) ?_
   refine zz0 (aV rfl hT4 rfl) ?_
   refine aD (ac ?_)
   exact aK (Sub.cons rfl (bD 3 rfl))
  ·intro hF4
   refine zz9 hF4 (zz9 hF4 (zz0 (aU rfl hF4 rfl) ?_))
   refine aD (ac ?_)
   exact aK (Sub.cons rfl (bD 3 rfl))
  refine ad ?_
  refine au rfl ?_ ?_ <;> intro h5 <;> try simp only [bs] at h5
  ·refine ah (zz0 (aa rfl) (zz0 (bG rfl aQ ax) ?_))
   refine iG (E := aM) _ rfl rfl aL ax bR (fun V6 => ?_)
   refine zz1 rfl rfl aL j7 (fun V7 => ?_)
   refine zz0 (ab rfl) (ad (ar (zz0 (aa rfl) (zz0 (zz2 (off := 0) (ft := 23) rfl aj rfl ae) ?_))))
   refine zz0 (aH rfl am) ?_
   refine fW _ rfl rfl rfl (by repeat constructor) d6 aS rfl ?_
   refine aD (aY (ac (ar (zz0 (cB rfl rfl) ?_))))
   refine zz0 (aa rfl) (ad ?_)
   have hst := yU (l := l) (k := k) (by omega)
   rw [gX, if_pos (by simp only [Bool.and_eq_true, Bool.not_eq_true', decide_eq_true_eq]; assumption)] at hst
   rw [Ey (by simp_all), ← hst]
   refine cK (k + 1, _) (Front.c (Front.c Front.nil)) (zz8 23 rfl) (o := (by show k + 1 ≤ _; omega))
  refine cd (aY (ac (ar (zz0 (cB rfl rfl) ?_))))
  refine zz0 (aa rfl) (ad ?_)
  have hst := yU (l := l) (k := k) (by omega)
  rw [gX, if_neg (by rw [Bool.and_eq_true, Bool.not_eq_true', decide_eq_true_eq]; rintro ⟨q1, q2⟩; rcases h5 with q | q; (· rw [q1] at q; cases q); (· exact q q2))] at hst
  rw [← hst]
  refine cK (k + 1, _) (Front.c (Front.c Front.nil)) (zz8 15 rfl) (o := (by show k + 1 ≤ _; omega))
 refine bJ (aG (aG (bj (ac (an ?_)))))
 obtain rfl : k = l.length := by omega
 rw [List.take_length] at *
 refine ar (zz0 (aa rfl) (dW rfl Tryz.call82 (by repeat constructor) (fun w hw => qA Tryz.sortIns aM 36 aQ ax k7 kr 143 [] _ _ w Tryz.call143 (hw.ent _ (.head _)) (by omega) (fun x y w' _ => u7 x y w') (mS w 143 #[])) rfl ?_))
 refine aI (zz0 (aa rfl) (zz0 (ab rfl) (ad (aC ?_))))
 refine aX Tryz.results73 rfl (fun w' hw => ?_)
 exact ⟨_, rfl, hw.b0, hw.new (.head _)⟩
theorem xM (l : List Ins) (V : Value) (w : World) (hV : Sl (hp w) aM l V) (hI : ∀ x ∈ l, InsOK x) (h40 : l.length ≤ 700) :
  Calls Tryz.prog 74 #[V] w (fun e w' => ∃ b, e = .returned (.map (some b)) ∧ Ext w w' ∧ NewEnts w w' [mapE b cX (qp l)]) := by
 have hV' : Sl (Bg.of w).blk aM l V := hV
 refine enter Tryz.func74 rfl Tryz.ntmps74 rfl ?_
 refine ah (zz0 (ab rfl) (aI ?_))
 refine gr cX rfl (fun b1 => ?_)
 refine zz0 (ab rfl) (ad (an (ah (zz0 (aa rfl) (zz0 (gj rfl aL) ?_)))))
 refine zz0 (aa rfl) (ad (aF ?_))
 refine bL (ι := Nat) (fun k => k ≤ l.length) (fun _ => _) (fun k => [mapE b1 cX (qp (l.take k))]) (fun k => [(11, .int .i64 (k : Nat))]) (fun k => l.length - k) 0 (Nat.zero_le _) (Front.c Front.nil) (by repeat' constructor) rfl (fun k hi m hm => ?_)
 replace hi : k ≤ l.length := hi
 replace hm : m = l.length - k := hm
 change Tr _ _ [mapE b1 cX (qp (l.take k))] ([(11, .int .i64 (k : Nat))] ++ _) _
 refine ah (zz0 (bT rfl rfl) (ad (an ?_)))
 refine au rfl ?_ ?_ <;> intro h2 <;> try simp only [bs] at h2
 ·refine bC (an (aF (ah (zz0 (iH rfl rfl aL ax) ?_))))
  refine zz0 (pB rfl aQ ax) ?_
  refine dC bR rfl (fun b3 => ?_)
  refine aB aM rfl rfl ax ?_
  refine aI (zz0 (bG rfl aQ ax) ?_)
  refine zz0 (az rfl Tryz.call144 (fun w hw => pO (l.getD k default) w)) ?_
  refine zz0 (aa rfl) (zz0 (aN rfl rfl) (zz0 (aN rfl rfl) (zz0 (ab rfl) (zz0 (ab rfl) (aI (zz0 (aa rfl) (ad ?_)))))))
  refine au rfl ?_ ?_ <;> intro h4 <;> try simp only [bs] at h4
  ·refine ar (zz0 (aa rfl) (zz0 (aa rfl) (fW _ rfl rfl rfl (by repeat constructor) d6 aS rfl ?_)))
   refine aD (aY (ac (ar (zz0 (cB rfl rfl) ?_))))
   refine zz0 (aa rfl) (ad ?_)
   have hst := xI (l := l) (k := k) (by omega)
   rw [s8, if_pos (by assumption)] at hst
   rw [← hst]
   refine cK (k + 1) (Front.c Front.nil) (zz8 17 rfl) (o := (by show k + 1 ≤ _; omega))
  refine cd (aY (ac (ar (zz0 (cB rfl rfl) ?_))))
  refine zz0 (aa rfl) (ad ?_)
  have hst := xI (l := l) (k := k) (by omega)
  rw [s8, if_neg (by simp_all)] at hst
  rw [← hst]
  refine cK (k + 1) (Front.c Front.nil) (zz8 15 rfl) (o := (by show k + 1 ≤ _; omega))
 refine bJ (aG (aG (bj (ac (ah (zz0 (aa rfl) (zz0 (ab rfl) (ad (aC ?_)))))))))
 refine aX Tryz.results74 rfl (fun w' hw => ?_)
 obtain rfl : k = l.length := by omega
 rw [List.take_length] at hw
 exact ⟨_, rfl, hw.b0, hw.ents (w := w) (Bg.le.refl _) (by repeat' constructor)⟩
theorem qG (i : Ins) (ents : List UInt32) (tm : List (UInt32 × Bool)) (Vi Ve Vu Vb : Value) (bc bm bmap : Nat) (w : World) (hc : CellsIn (hp w) bc [Vi, Ve, Vu, Vb]) (hm : CellsIn (hp w) bm [.map (some bmap)]) (hM : MapIn (hp w) bmap cX tm) (hE : Sl (hp w) al ents Ve) :
  Cr Tryz.prog 75 #[.agg (aM.enc i).toArray, .pointer (some ⟨bc, 0, none⟩), .pointer (some ⟨bm, 0, none⟩)] w (.int .i64 (fN ents tm i)) := by
 have hc' : CellsIn (Bg.of w).blk bc [Vi, Ve, Vu, Vb] := hc
 have hm' : CellsIn (Bg.of w).blk bm [.map (some bmap)] := hm
 have hM' : MapIn (Bg.of w).blk bmap cX tm := hM
 have hE' : Sl (Bg.of w).blk al ents Ve := hE
 refine enter Tryz.func75 rfl Tryz.ntmps75 rfl ?_
 refine ah ?_
 refine dG rfl rfl (fun b1 => ?_)
 refine zz0 (ab rfl) (ad (an (aF (ah (zz0 (zz2 (off := 1) (ft := 31) rfl bY rfl cg) ?_)))))
 refine zz0 (lu rfl dl) ?_
 refine zz0 (zz2 (off := 0) (ft := 23) rfl aj rfl ae) ?_
 refine zz0 (aH rfl am) ?_
 refine zz0 (az rfl Tryz.call76 (fun w hw => wW ents Ve i.addr w (hw.slF hE'))) ?_
 refine zz0 (ab rfl) (ad ?_)
 refine au rfl ?_ ?_ <;> intro h2 <;> try simp only [bs] at h2
 ·refine ah (zz0 (ab rfl) (ad (aC (bv (ay ?_)))))
  refine aX Tryz.results75 rfl (fun w' hw => ?_)
  exact ⟨by rw [fN, if_pos (by assumption)], hw.b0⟩
 refine ah (zz0 (lu rfl fM) ?_)
 refine zz0 (zz2 (off := 0) (ft := 23) rfl aj rfl ae) ?_
 refine zz0 (aH rfl am) ?_
 refine zz0 (CH rfl rfl (by assumption) d6 aS mw) ?_
 refine zz0 (ab rfl) (ad ?_)
 refine au rfl ?_ ?_ <;> intro h3 <;> try simp only [bs] at h3
 ·refine ah (zz0 (ab rfl) (ad (aC (bv (ay ?_)))))
  refine aX Tryz.results75 rfl (fun w' hw => ?_)
  exact ⟨by rw [fN, if_neg (by simp_all), if_pos (by assumption)], hw.b0⟩
 refine cd (aY (ac (ah (zz0 (ab rfl) (ad (aC ?_))))))
 refine aX Tryz.results75 rfl (fun w' hw => ?_)
 exact ⟨by rw [fN, if_neg (by simp_all), if_neg (by simp_all)], hw.b0⟩
theorem ww (i j : Ins) (ents : List UInt32) (tm : List (UInt32 × Bool)) (Vi Ve Vu Vb : Value) (bc bm bmap : Nat) (bg : Nat) (w : World) (hc : CellsIn (hp w) bc [Vi, Ve, Vu, Vb]) (hm : CellsIn (hp w) bm [.map (some bmap)]) (hM : MapIn (hp w) bmap cX tm) (hE : Sl (hp w) al ents Ve) (hg : CellsIn (hp w) bg [.func (.func 75) #[] #[.pointer (some ⟨bc, 0, none⟩), .pointer (some ⟨bm, 0, none⟩)]]) :
  Cr Tryz.prog 79 #[.agg (aM.enc i).toArray, .agg (aM.enc j).toArray, .pointer (some ⟨bg, 0, none⟩)] w (.int .i64 (FY ents tm i j)) := by
 have hc' : CellsIn (Bg.of w).blk bc [Vi, Ve, Vu, Vb] := hc
 have hm' : CellsIn (Bg.of w).blk bm [.map (some bmap)] := hm
 have hM' : MapIn (Bg.of w).blk bmap cX tm := hM
 have hE' : Sl (Bg.of w).blk al ents Ve := hE
 have hg' : CellsIn (Bg.of w).blk bg [.func (.func 75) #[] #[.pointer (some ⟨bc, 0, none⟩), .pointer (some ⟨bm, 0, none⟩)]] := hg
 refine enter Tryz.func79 rfl Tryz.ntmps79 rfl ?_
 refine ah ?_
 refine dG rfl rfl (fun b1 => ?_)
 refine dG rfl rfl (fun b2 => ?_)
 refine zz0 (ab rfl) (ad (an (gZ aP ?_)))
 refine aw (lu rfl Tryz.isAgg153) ?_
 refine aw (bG rfl aQ ax) ?_
 refine aw (hZ rfl rfl Tryz.call75 (fun w hw => qG i ents tm Vi Ve Vu Vb bc bm bmap w (hc'.mono hw.bg) (hm'.mono hw.bg) (hM'.mono hw.bg) (hw.slF hE'))) ?_
 refine aw (lu rfl Tryz.isAgg153) ?_
 refine aw (bG rfl aQ ax) ?_
 refine aw (hZ rfl rfl Tryz.call75 (fun w hw => qG j ents tm Vi Ve Vu Vb bc bm bmap w (hc'.mono hw.bg) (hm'.mono hw.bg) (hM'.mono hw.bg) (hw.slF hE'))) ?_
 refine aw (az rfl Tryz.call80 (fun w hw => EA (fN ents tm i) (fN ents tm j) w)) ?_
 refine aw (ab rfl) (bH ?_)
 refine ac (aC ?_)
 refine aX Tryz.results79 rfl (fun w' hw => ?_)
 exact ⟨rfl, hw.b0⟩
theorem uT (i : Ins) (a : UInt32) (b : Nat) (w : World) (hc : Cell (hp w) b 0 (.int .u32 a.toNat)) :
  Cr Tryz.prog 87 #[.agg (aM.enc i).toArray, .pointer (some ⟨b, 0, none⟩)] w (.bool (decide (i.addr = a))) := by
 have hc' : Cell (Bg.of w).blk b 0 (.int .u32 a.toNat) := hc
 refine enter Tryz.func87 rfl Tryz.ntmps87 rfl ?_
 refine ah ?_
 refine dG rfl rfl (fun b1 => ?_)
 refine zz0 (ab rfl) (aI (zz0 (zz2 (off := 0) (ft := 23) rfl aj rfl ae) ?_))
 refine zz0 (aH rfl am) ?_
 refine zz0 (lO rfl (by assumption) am) ?_
 refine zz0 (eE rfl rfl) ?_
 refine zz0 (ab rfl) (ad (aC ?_))
 refine aX Tryz.results87 rfl (fun w' hw => ?_)
 exact ⟨rfl, hw.b0⟩
theorem nA (a : UInt32) (l : List Ins) (V : Value) (b : Nat) (w : World) (hc : CellsIn (hp w) b [V]) (hV : Sl (hp w) aM l V) :
  Cr Tryz.prog 85 #[.int .u32 a.toNat, .pointer (some ⟨b, 0, none⟩)] w (.bool (inK l a)) := by
 have hc' : CellsIn (Bg.of w).blk b [V] := hc
 have hV' : Sl (Bg.of w).blk aM l V := hV
 refine enter Tryz.func85 rfl Tryz.ntmps85 rfl ?_
 refine ah ?_
 refine dG rfl rfl (fun b1 => ?_)
 refine zz0 (ab rfl) (aI (zz0 (lu rfl dq) ?_))
 refine zz0 (eU rfl rfl) ?_
 refine zz0 (az rfl Tryz.call86 (fun w hw => j2 l V _ _ w (hw.slF hV') Tryz.call87 (fun i => decide (i.addr = a)) (fun x hx w'' h => uT x a _ w'' (cellE.cell (hw.ent _ (by repeat constructor)) h rfl)))) ?_
 refine zz0 (ab rfl) (ad (aC ?_))
 refine aX Tryz.results85 rfl (fun w' hw => ?_)
 exact ⟨rfl, hw.b0⟩
end Go.Proofs.YtiajjbhcpeadfaaGreat
namespace Go.Proofs.YtiajjbhcpeadfaaGreat
open Go Go.HL Go.RowKit
theorem D2 (ents : List UInt32) (tm : List (UInt32 × Bool)) : dF (FY ents tm) = ltG (fN ents tm) := by
 funext x y
 unfold dF FY ltG
 congr 1
 exact propext (FX _ _)
theorem yc (ins : List Ins) (ents unk bad : List UInt32) (Vi Ve Vu Vb : Value) (w : World) (hV : Sl (hp w) aM ins Vi) (hE : Sl (hp w) al ents Ve) (hU : Sl (hp w) al unk Vu) (hB : Sl (hp w) al bad Vb) (hI : ∀ x ∈ ins, InsOK x) (hn1 : ins.length ≤ 700) (hn2 : ents.length ≤ 700) (hn3 : unk.length ≤ 700) (hn4 : bad.length ≤ 100000) :
  Calls Tryz.prog 29 #[.agg #[Vi, Ve, Vu, Vb]] w (fun e w' => ∃ i : Value × Value × Value × Value × Value, e = .returned (.tuple #[.agg #[i.1, i.2.1, i.2.2.1, i.2.2.2.1], i.2.2.2.2]) ∧ Ext w w' ∧ NewEnts w w' [rowE i.1 36 aM (gl ins ents unk bad).kept, rowE i.2.1 23 al (gl ins ents unk bad).ents, rowE i.2.2.1 23 al (gl ins ents unk bad).unk, rowE i.2.2.2.1 23 al (gl ins ents unk bad).bad, rowE i.2.2.2.2 23 al (gl ins ents unk bad).rem]) := by
 have hV' : Sl (Bg.of w).blk aM ins Vi := hV
 have hE' : Sl (Bg.of w).blk al ents Ve := hE
 have hU' : Sl (Bg.of w).blk al unk Vu := hU
 have hB' : Sl (Bg.of w).blk al bad Vb := hB
 obtain ⟨lc, hlc⟩ : ∃ lc, lc = fu ins := ⟨_, rfl⟩
 obtain ⟨tm, htm⟩ : ∃ tm, tm = qp lc := ⟨_, rfl⟩
 have hcl := uw ins
 rw [← hlc] at hcl
 have hcI : ∀ x ∈ lc, InsOK x := fun x hx => hI _ (uv (hlc ▸ hx))
 obtain ⟨w0, hw0⟩ : ∃ w0, w0 = w := ⟨_, rfl⟩
 subst hw0
 refine enter Tryz.func29 rfl Tryz.ntmps29 rfl ?_
 refine ah ?_
 refine dG rfl rfl (fun b1 => ?_)
 refine dC d5 rfl (fun b2 => ?_)
 refine zz0 (ab rfl) (ad (ri (ah (zz0 (zz2 (off := 0) (ft := 50) rfl bY rfl cY) ?_))))
 refine zz0 (aH rfl dq) ?_
 refine gR rfl Tryz.call73 (fun w hw => (by rw [hlc]; exact wV ins Vi w (hw.slF hV') hI hn1 : Calls Tryz.prog 73 #[Vi] w (fun e w' => ∃ V', e = .returned V' ∧ Ext w w' ∧ js w w' 36 aM (lc) V'))) rfl (fun V3 => ?_)
 refine zz0 (ab rfl) (ad (an ?_))
 skip
 refine ar (zz0 (aa rfl) ?_)
 refine iT (fun b : Nat => .map (some b)) (fun b => [mapE b cX tm]) (ok := fun _ => True) rfl Tryz.call74 (fun w hw => (xM lc _ w (hw.row (by repeat constructor)) hcI (by omega)).mono fun e w' ⟨b, q1, q2, q3⟩ => ⟨b, q1, q2, by rw [htm]; exact q3, trivial⟩) rfl (fun bmap _ => ?_)
 refine dC Tryz.zeroValue141 rfl (fun b4 => ?_)
 refine jf rfl rfl fJ (by repeat constructor) (by rfl) (by rfl) (by first | exact List.all_eq_true.1 rfl | exact Enc.one _ _) rfl ?_
 refine aI (zz0 (eU rfl rfl) ?_)
 refine dC Tryz.zeroValue153 rfl (fun b5 => ?_)
 refine jf rfl rfl Tryz.sizeOf153 (by repeat constructor) (by rfl) (by rfl) (by first | exact List.all_eq_true.1 rfl | exact Enc.one _ _) rfl ?_
 refine aI (zz0 (aa rfl) ?_)
 refine gR rfl Tryz.call77 (fun w hw => vQ lc _ w (hw.row (by repeat constructor)) (by omega)) rfl (fun V6 => ?_)
 refine zz0 (ab rfl) (aI (zz0 (aa rfl) (zz0 (eU rfl rfl) ?_)))
 refine gI (fun c => c = dX (fN ents tm) lc) rfl Tryz.call78 (fun w hw => (ou lc _ 79 [.pointer (some ⟨b5, 0, none⟩)] (FY ents tm) (fun w' => ∃ l', HpOK (Bg.of w0) (rowE V6 36 aM l' :: [cellE b5 [.func (.func 75) #[] #[.pointer (some ⟨b1, 0, none⟩), .pointer (some ⟨b4, 0, none⟩)]] 153, cellE b4 [.map (some bmap)] 141, mapE bmap cX tm, rowE V3 36 aM lc, cellE b2 [.slice none 0 0, .slice none 0 0, .slice none 0 0, .slice none 0 0] 52, cellE b1 [Vi, Ve, Vu, Vb] 52]) w') (fun w w' l' ⟨l0, h⟩ m r => ⟨l', HpOK.mut h (.here _) m r⟩) Tryz.call79 (fun x y w' ⟨l0, h⟩ => ww x y ents tm Vi Ve Vu Vb b1 b4 bmap b5 w' (cellE.cellsIn (h.ent _ (by repeat constructor)) (Ext.refl _)) (cellE.cellsIn (h.ent _ (by repeat constructor)) (Ext.refl _)) (mapE.in_ (h.ent _ (by repeat constructor))) (h.slF hE') (cellE.cellsIn (h.ent _ (by repeat constructor)) (Ext.refl _))) (by rw [D2]; exact CW _) w ⟨lc, hw⟩ (hw.ent _ (.head _)) (by omega)).mono fun e w' ⟨q1, c, ⟨q2, q3, q4⟩, q5, q6⟩ => ⟨q1, c, by rw [D2] at q2 q4; exact GU (lp ents tm) q2 (Srt.all (by rw [q2.len]; exact q4)), q5, q6⟩) rfl (fun c2 hc2 => ?_)
 refine ad (an ?_)
 subst hc2
 refine ar ?_
 refine dC Tryz.zeroValue50 rfl (fun b7 => ?_)
 refine ad (an (rk ?_))
 refine ac (an (ah (zz0 (aa rfl) (zz0 (lQ rfl aL) ?_))))
 refine zz0 (aa rfl) (ad (aF (bZ 36 aM ?_)))
 refine bL (ι := Nat × Value) (fun ⟨k, Vk⟩ => k ≤ (dX (fN ents tm) lc).length) (fun _ => _) (fun ⟨k, Vk⟩ => [cellE b7 [Vk] 50, rowE Vk 36 aM (kT ((dX (fN ents tm) lc).take k)), rowE V6 36 aM (dX (fN ents tm) lc), cellE b5 [.func (.func 75) #[] #[.pointer (some ⟨b1, 0, none⟩), .pointer (some ⟨b4, 0, none⟩)]] 153, cellE b4 [.map (some bmap)] 141, mapE bmap cX tm, rowE V3 36 aM lc, cellE b2 [.slice none 0 0, .slice none 0 0, .slice none 0 0, .slice none 0 0] 52, cellE b1 [Vi, Ve, Vu, Vb] 52]) (fun ⟨k, Vk⟩ => [(35, .int .i64 (k : Nat))]) (fun ⟨k, Vk⟩ => (dX (fN ents tm) lc).length - k) (0, _) (Nat.zero_le _) (Front.c Front.nil) (by repeat' constructor) rfl (fun i hi m hm => ?_)
 obtain ⟨k, Vk⟩ := i
 replace hi : k ≤ (dX (fN ents tm) lc).length := hi
 replace hm : m = (dX (fN ents tm) lc).length - k := hm
 change Tr _ _ [cellE b7 [Vk] 50, rowE Vk 36 aM (kT ((dX (fN ents tm) lc).take k)), rowE V6 36 aM (dX (fN ents tm) lc), cellE b5 [.func (.func 75) #[] #[.pointer (some ⟨b1, 0, none⟩), .pointer (some ⟨b4, 0, none⟩)]] 153, cellE b4 [.map (some bmap)] 141, mapE bmap cX tm, rowE V3 36 aM lc, cellE b2 [.slice none 0 0, .slice none 0 0, .slice none 0 0, .slice none 0 0] 52, cellE b1 [Vi, Ve, Vu, Vb] 52] ([(35, .int .i64 (k : Nat))] ++ _) _
 have hol := wB (lp ents tm) lc
 have hkl := rQ ((dX (fN ents tm) lc).take k)
 rw [List.length_take] at hkl
 have hoI : ∀ x ∈ dX (fN ents tm) lc, InsOK x := fun x hx => hcI x (A1 hx)
 obtain ⟨kq, hkq⟩ : ∃ kq, kq = kT ((dX (fN ents tm) lc).take k) := ⟨_, rfl⟩
 have hqI : ∀ x ∈ kq, InsOK x := fun x hx => by
  rw [hkq] at hx
  exact hoI x (List.mem_of_mem_take (yr hx))
 rw [← hkq] at hkl ⊢
 refine ah (zz0 (bT rfl rfl) (ad (an ?_)))
 refine au rfl ?_ ?_ <;> intro h8 <;> try simp only [bs] at h8
 ·refine bC (an (aF (ah (zz0 (zz7 rfl rfl aL ax) ?_))))
  refine zz0 (mg rfl aQ ax) ?_
  refine dC bR rfl (fun b9 => ?_)
  refine aB aM rfl rfl ax ?_
  refine ad (an (ah (zz0 (aH rfl dq) ?_)))
  refine zz0 (lQ rfl aL) ?_
  refine zz0 (aa rfl) (ad (aF ?_))
  refine bL (ι := Nat) (fun j => j ≤ kq.length ∧ (kq.take j).any (jq ((dX (fN ents tm) lc).getD k default)) = false) (fun _ => _) (fun j => [cellE b9 (aM.enc ((dX (fN ents tm) lc).getD k default)) 36, cellE b7 [Vk] 50, rowE Vk 36 aM kq, rowE V6 36 aM (dX (fN ents tm) lc), cellE b5 [.func (.func 75) #[] #[.pointer (some ⟨b1, 0, none⟩), .pointer (some ⟨b4, 0, none⟩)]] 153, cellE b4 [.map (some bmap)] 141, mapE bmap cX tm, rowE V3 36 aM lc, cellE b2 [.slice none 0 0, .slice none 0 0, .slice none 0 0, .slice none 0 0] 52, cellE b1 [Vi, Ve, Vu, Vb] 52]) (fun j => [(41, .int .i64 (j : Nat))]) (fun j => kq.length - j) 0 ⟨Nat.zero_le _, rfl⟩ (Front.c Front.nil) (by repeat' constructor) rfl (fun j hi m hm => ?_)
  replace hi : j ≤ kq.length ∧ (kq.take j).any (jq ((dX (fN ents tm) lc).getD k default)) = false := hi
  replace hm : m = kq.length - j := hm
  change Tr _ _ [cellE b9 (aM.enc ((dX (fN ents tm) lc).getD k default)) 36, cellE b7 [Vk] 50, rowE Vk 36 aM kq, rowE V6 36 aM (dX (fN ents tm) lc), cellE b5 [.func (.func 75) #[] #[.pointer (some ⟨b1, 0, none⟩), .pointer (some ⟨b4, 0, none⟩)]] 153, cellE b4 [.map (some bmap)] 141, mapE bmap cX tm, rowE V3 36 aM lc, cellE b2 [.slice none 0 0, .slice none 0 0, .slice none 0 0, .slice none 0 0] 52, cellE b1 [Vi, Ve, Vu, Vb] 52] ([(41, .int .i64 (j : Nat))] ++ _) _
  obtain ⟨hj1, hj2⟩ := hi
  refine ah (zz0 (bT rfl rfl) (ad (an ?_)))
  refine au rfl ?_ ?_ <;> intro h10 <;> try simp only [bs] at h10
  ·refine bC (an (aF (ah (zz0 (zz7 rfl rfl aL ax) ?_))))
   refine zz0 (mg rfl aQ ax) ?_
   refine dC bR rfl (fun b11 => ?_)
   refine aB aM rfl rfl ax ?_
   refine aI (zz0 (bG rfl aQ ax) ?_)
   refine zz0 (bG rfl aQ ax) ?_
   refine zz0 (az rfl Tryz.call81 (fun w hw => wX ((dX (fN ents tm) lc).getD k default) (kq.getD j default) w (hoI _ (df (by omega))) (hqI _ (df (by omega))))) ?_
   refine ad ?_
   refine au rfl ?_ ?_ <;> intro h12 <;> try simp only [bs] at h12
   ·refine bJ (jh rfl ?_)
    refine aG (aG (jh rfl ?_))
    refine aG (bj (ac ?_))
    skip
    refine ar (zz0 (cB rfl rfl) ?_)
    refine zz0 (aa rfl) (ad ?_)
    have hst := vD (l := dX (fN ents tm) lc) (k := k) (by omega)
    rw [← hkq, gn, if_pos (List.any_eq_true.2 ⟨_, df (k := j) (by omega), by assumption⟩)] at hst
    rw [← hst]
    refine cK (k + 1, _) (Front.c Front.nil) (zz8 18 rfl) (o := (by show k + 1 ≤ _; omega))
   refine cd (aY (ac (ar (zz0 (cB rfl rfl) ?_))))
   refine zz0 (aa rfl) (ad ?_)
   refine cK (j + 1) (Front.c Front.nil) (zz8 10 rfl) (o := ⟨by omega, by rw [any_take_succ (by omega), hj2, Bool.false_or]; assumption⟩)
  refine bJ (aG (aG (bj (ac (ar (zz0 (aH rfl dq) ?_))))))
  refine zz0 (bG rfl aQ ax) ?_
  refine iG (E := aM) _ rfl rfl aL ax bR (fun V13 => ?_)
  refine zz1 rfl rfl aL j7 (fun V14 => ?_)
  refine du (.head _) (fun pz qz hpv => ?_)
  subst hpv
  refine jf rfl rfl cY (by repeat constructor) (by rfl) (by rfl) (by first | exact List.all_eq_true.1 rfl | exact Enc.one _ _) rfl ?_
  refine aD (aY (ac ?_))
  skip
  refine ar (zz0 (cB rfl rfl) ?_)
  refine zz0 (aa rfl) (ad ?_)
  obtain rfl : j = kq.length := by omega
  rw [List.take_length] at hj2
  have hst := vD (l := dX (fN ents tm) lc) (k := k) (by omega)
  rw [← hkq, gn, if_neg (by rw [hj2]; simp)] at hst
  rw [← hst]
  refine cK (k + 1, _) (Front.c Front.nil) (zz8 16 rfl) (o := (by show k + 1 ≤ _; omega))
 refine bJ (aG (aG (bj (ac (an ?_)))))
 obtain rfl : k = (dX (fN ents tm) lc).length := by omega
 rw [List.take_length] at *
 subst hkq
 have hkl := rQ (dX (fN ents tm) lc)
 have hol := wB (lp ents tm) lc
 refine ar (zz0 (aH rfl dq) ?_)
 refine dW rfl Tryz.call82 (by repeat constructor) (fun w hw => qA Tryz.sortIns aM 36 aQ ax k7 kr 83 [] (kT (dX (fN ents tm) lc)) _ w Tryz.call83 (hw.ent _ (by repeat constructor)) (by omega) (fun x y w' _ => wv x y w') (mS w 83 #[])) rfl ?_
 refine ad (an ?_)
 obtain ⟨kp, hkp⟩ : ∃ kp, kp = lT (Go.Proofs.ltOf k7) (kT (dX (fN ents tm) lc)) := ⟨_, rfl⟩
 rw [← hkp]
 refine ar (zz0 (eU rfl rfl) ?_)
 refine zz0 (ab rfl) (aI (zz0 (ab rfl) (ad (an (ah (zz0 (aa rfl) (zz0 (lQ rfl aL) ?_)))))))
 refine zz0 (aa rfl) (ad (aF (bZ 23 al ?_)))
 refine bL (ι := Nat × Value) (fun ⟨k, Vr⟩ => k ≤ lc.length) (fun _ => _) (fun ⟨k, Vr⟩ => [rowE Vr 23 al (mV (lc.take k) kp), cellE b7 [Vk] 50, rowE Vk 36 aM kp, rowE V6 36 aM (dX (fN ents tm) lc), cellE b5 [.func (.func 75) #[] #[.pointer (some ⟨b1, 0, none⟩), .pointer (some ⟨b4, 0, none⟩)]] 153, cellE b4 [.map (some bmap)] 141, mapE bmap cX tm, rowE V3 36 aM lc, cellE b2 [.slice none 0 0, .slice none 0 0, .slice none 0 0, .slice none 0 0] 52, cellE b1 [Vi, Ve, Vu, Vb] 52]) (fun ⟨k, Vr⟩ => [(59, .int .i64 (k : Nat)), (14, Vr)]) (fun ⟨k, Vr⟩ => lc.length - k) (0, _) (Nat.zero_le _) (Front.c (Front.c Front.nil)) (by repeat' constructor) rfl (fun i hi m hm => ?_)
 obtain ⟨k, Vr⟩ := i
 replace hi : k ≤ lc.length := hi
 replace hm : m = lc.length - k := hm
 change Tr _ _ [rowE Vr 23 al (mV (lc.take k) kp), cellE b7 [Vk] 50, rowE Vk 36 aM kp, rowE V6 36 aM (dX (fN ents tm) lc), cellE b5 [.func (.func 75) #[] #[.pointer (some ⟨b1, 0, none⟩), .pointer (some ⟨b4, 0, none⟩)]] 153, cellE b4 [.map (some bmap)] 141, mapE bmap cX tm, rowE V3 36 aM lc, cellE b2 [.slice none 0 0, .slice none 0 0, .slice none 0 0, .slice none 0 0] 52, cellE b1 [Vi, Ve, Vu, Vb] 52] ([(59, .int .i64 (k : Nat)), (14, Vr)] ++ _) _
 have hrl := Fu (lc.take k) kp
 rw [List.length_take] at hrl
 refine ah (zz0 (bT rfl rfl) (ad (an ?_)))
 refine au rfl ?_ ?_ <;> intro h15 <;> try simp only [bs] at h15
 ·refine bC (an (aF (ah (zz0 (zz7 rfl rfl aL ax) ?_))))
  refine zz0 (mg rfl aQ ax) ?_
  refine dC bR rfl (fun b16 => ?_)
  refine aB aM rfl rfl ax ?_
  refine aI (zz0 (aa rfl) (zz0 (zz2 (off := 0) (ft := 23) rfl aj rfl ae) ?_))
  refine zz0 (aH rfl am) ?_
  refine zz0 (hZ rfl rfl Tryz.call85 (fun w hw => nA (lc.getD k default).addr kp Vk b7 w (cellE.cellsIn (hw.ent _ (by repeat constructor)) (Ext.refl _)) (hw.row (by repeat constructor)))) ?_
  refine zz0 (cP rfl) (ad ?_)
  refine au rfl ?_ ?_ <;> intro h17 <;> try simp only [bs] at h17
  ·refine ar (zz0 (aa rfl) (zz0 (zz2 (off := 0) (ft := 23) rfl aj rfl ae) ?_))
   refine zz0 (aH rfl am) ?_
   refine iG (E := al) _ rfl rfl af ae cC (fun V18 => ?_)
   refine zz1 rfl rfl af eS (fun V19 => ?_)
   refine zz0 (ab rfl) (aD (aY (ac (ar (zz0 (cB rfl rfl) ?_)))))
   refine zz0 (aa rfl) (ad ?_)
   rw [← Ft (by omega) (by simp_all)]
   refine cK (k + 1, _) (Front.c (Front.c Front.nil)) (zz8 19 rfl) (o := (by show k + 1 ≤ _; omega))
  refine cd (aY (ac (ar (zz0 (cB rfl rfl) ?_))))
  refine zz0 (aa rfl) (ad ?_)
  rw [← GQ (by omega) (by simp_all)]
  refine cK (k + 1, _) (Front.c (Front.c Front.nil)) (zz8 13 rfl) (o := (by show k + 1 ≤ _; omega))
 refine bJ (aG (aG (bj (ac ?_))))
 obtain rfl : k = lc.length := by omega
 rw [List.take_length] at *
 refine iC (V := Vk) (fun pa1 pc1 hpv => ?_)
 subst hpv
 refine cZ (ι := Nat × Option Addr × Nat) (fun ⟨b17, pb, cb⟩ => True) (fun _ => Bg.of w0) (fun ⟨b17, pb, cb⟩ => [cellE b17 [(.slice pa1 kp.length pc1), .slice none 0 0, .slice none 0 0, (.slice pb bad.length cb)] 52, rowE (.slice pb bad.length cb) 23 al bad, rowE Vr 23 al (mV lc kp), cellE b7 [(.slice pa1 kp.length pc1)] 50, rowE (.slice pa1 kp.length pc1) 36 aM kp, rowE V6 36 aM (dX (fN ents tm) lc), cellE b5 [.func (.func 75) #[] #[.pointer (some ⟨b1, 0, none⟩), .pointer (some ⟨b4, 0, none⟩)]] 153, cellE b4 [.map (some bmap)] 141, mapE bmap cX tm, rowE V3 36 aM lc, cellE b2 [.slice none 0 0, .slice none 0 0, .slice none 0 0, .slice none 0 0] 52, cellE b1 [Vi, Ve, Vu, Vb] 52]) (fun ⟨b17, pb, cb⟩ => [(17, .pointer (some ⟨b17, 0, none⟩))]) ?_ (fun i hi => ?_)
 ·skip
  skip
  refine dU ([rowE Vr 23 al (mV lc kp), cellE b7 [(.slice pa1 kp.length pc1)] 50, rowE (.slice pa1 kp.length pc1) 36 aM kp, rowE V6 36 aM (dX (fN ents tm) lc), cellE b5 [.func (.func 75) #[] #[.pointer (some ⟨b1, 0, none⟩), .pointer (some ⟨b4, 0, none⟩)]] 153, cellE b4 [.map (some bmap)] 141, mapE bmap cX tm, rowE V3 36 aM lc, cellE b2 [.slice none 0 0, .slice none 0 0, .slice none 0 0, .slice none 0 0] 52, cellE b1 [Vi, Ve, Vu, Vb] 52]) 7 rfl aP ?_
  refine zz4 0 rfl (aH rfl dq) ?_
  refine zz4 1 rfl (zz2 (off := 3) (ft := 31) rfl bY rfl cg) ?_
  refine zz4 2 rfl (aH rfl dl) ?_
  refine dw [3, 5] (fun iq hq => ?_)
  rcases List.mem_cons.1 hq with rfl | hq
  ·skip
   refine bF rfl ?_
   refine gR rfl Tryz.call57 (fun w hw => sb bad Vb w (hw.slF hB') (by omega)) rfl (fun V20 => ?_)
   refine du (.head _) (fun pb cb hpv => ?_)
   subst hpv
   refine bV ?_
   refine zz4 4 rfl (bK (vs := [(0, _), (3, _)]) rfl rfl rfl) ?_
   refine dw [5] (fun iq hq => ?_)
   obtain rfl := List.mem_singleton.1 hq
   refine bF rfl ?_
   refine dC d5 rfl (fun b21 => ?_)
   refine bV ?_
   refine dw [6] (fun iq hq => ?_)
   obtain rfl := List.mem_singleton.1 hq
   refine bF rfl ?_
   refine zz5 rfl rfl cn ?_
   refine bV ?_
   refine iz ?_
   refine ac ?_
   refine co (_, _, _) (Front.c Front.nil) (zz8 6 rfl) (o := trivial)
  obtain rfl := List.mem_singleton.1 hq
  refine bF rfl ?_
  refine dC d5 rfl (fun b22 => ?_)
  refine bV ?_
  refine dw [3] (fun iq hq => ?_)
  obtain rfl := List.mem_singleton.1 hq
  refine bF rfl ?_
  refine gR rfl Tryz.call57 (fun w hw => sb bad Vb w (hw.slF hB') (by omega)) rfl (fun V23 => ?_)
  refine du (.head _) (fun pb cb hpv => ?_)
  subst hpv
  refine bV ?_
  refine zz4 4 rfl (bK (vs := [(0, _), (3, _)]) rfl rfl rfl) ?_
  refine dw [6] (fun iq hq => ?_)
  obtain rfl := List.mem_singleton.1 hq
  refine bF rfl ?_
  refine zz5 rfl rfl cn ?_
  refine bV ?_
  refine iz ?_
  refine ac ?_
  refine co (_, _, _) (Front.c Front.nil) (zz8 6 rfl) (o := trivial)
 obtain ⟨b17, pb, cb⟩ := i
 replace hi : True := hi
 change Tr _ _ [cellE b17 [(.slice pa1 kp.length pc1), .slice none 0 0, .slice none 0 0, (.slice pb bad.length cb)] 52, rowE (.slice pb bad.length cb) 23 al bad, rowE Vr 23 al (mV lc kp), cellE b7 [(.slice pa1 kp.length pc1)] 50, rowE (.slice pa1 kp.length pc1) 36 aM kp, rowE V6 36 aM (dX (fN ents tm) lc), cellE b5 [.func (.func 75) #[] #[.pointer (some ⟨b1, 0, none⟩), .pointer (some ⟨b4, 0, none⟩)]] 153, cellE b4 [.map (some bmap)] 141, mapE bmap cX tm, rowE V3 36 aM lc, cellE b2 [.slice none 0 0, .slice none 0 0, .slice none 0 0, .slice none 0 0] 52, cellE b1 [Vi, Ve, Vu, Vb] 52] ([(17, .pointer (some ⟨b17, 0, none⟩))] ++ _) _
 refine an (an ?_)
 skip
 refine ar (zz0 (zz2 (off := 1) (ft := 31) rfl bY rfl cg) ?_)
 refine zz0 (aH rfl dl) ?_
 refine zz0 (gj rfl af) ?_
 refine zz0 (aa rfl) (ad (aF (bZ 23 al ?_)))
 refine bL (ι := Nat × Value) (fun ⟨k, Ve2⟩ => k ≤ ents.length) (fun _ => _) (fun ⟨k, Ve2⟩ => [cellE b17 [(.slice pa1 kp.length pc1), Ve2, .slice none 0 0, (.slice pb bad.length cb)] 52, rowE Ve2 23 al ((ents.take k).filter (inK kp)), rowE (.slice pb bad.length cb) 23 al bad, rowE Vr 23 al (mV lc kp), cellE b7 [(.slice pa1 kp.length pc1)] 50, rowE (.slice pa1 kp.length pc1) 36 aM kp, rowE V6 36 aM (dX (fN ents tm) lc), cellE b5 [.func (.func 75) #[] #[.pointer (some ⟨b1, 0, none⟩), .pointer (some ⟨b4, 0, none⟩)]] 153, cellE b4 [.map (some bmap)] 141, mapE bmap cX tm, rowE V3 36 aM lc, cellE b2 [.slice none 0 0, .slice none 0 0, .slice none 0 0, .slice none 0 0] 52, cellE b1 [Vi, Ve, Vu, Vb] 52]) (fun ⟨k, Ve2⟩ => [(82, .int .i64 (k : Nat))]) (fun ⟨k, Ve2⟩ => ents.length - k) (0, _) (Nat.zero_le _) (Front.c Front.nil) (by repeat' constructor) rfl (fun i hi m hm => ?_)
 obtain ⟨k, Ve2⟩ := i
 replace hi : k ≤ ents.length := hi
 replace hm : m = ents.length - k := hm
 change Tr _ _ [cellE b17 [(.slice pa1 kp.length pc1), Ve2, .slice none 0 0, (.slice pb bad.length cb)] 52, rowE Ve2 23 al ((ents.take k).filter (inK kp)), rowE (.slice pb bad.length cb) 23 al bad, rowE Vr 23 al (mV lc kp), cellE b7 [(.slice pa1 kp.length pc1)] 50, rowE (.slice pa1 kp.length pc1) 36 aM kp, rowE V6 36 aM (dX (fN ents tm) lc), cellE b5 [.func (.func 75) #[] #[.pointer (some ⟨b1, 0, none⟩), .pointer (some ⟨b4, 0, none⟩)]] 153, cellE b4 [.map (some bmap)] 141, mapE bmap cX tm, rowE V3 36 aM lc, cellE b2 [.slice none 0 0, .slice none 0 0, .slice none 0 0, .slice none 0 0] 52, cellE b1 [Vi, Ve, Vu, Vb] 52] ([(82, .int .i64 (k : Nat))] ++ _) _
 have hfl := List.length_filter_le (inK kp) (ents.take k)
 rw [List.length_take] at hfl
 refine ah (zz0 (bT rfl rfl) (ad (an ?_)))
 refine au rfl ?_ ?_ <;> intro h24 <;> try simp only [bs] at h24
 ·refine bC (an (aF (ah (zz0 (iH rfl rfl af ae) ?_))))
  refine zz0 (jl rfl am) ?_
  refine zz0 (ab rfl) (aI (zz0 (aa rfl) (zz0 (aa rfl) (zz0 (hZ rfl rfl Tryz.call85 (fun w hw => nA (ents.getD k default) kp _ b7 w (cellE.cellsIn (hw.ent _ (by repeat constructor)) (Ext.refl _)) (hw.row (by repeat constructor)))) ?_))))
  refine ad ?_
  refine au rfl ?_ ?_ <;> intro h25 <;> try simp only [bs] at h25
  ·refine ar (zz0 (zz2 (off := 1) (ft := 31) rfl bY rfl cg) ?_)
   refine zz0 (aH rfl dl) ?_
   refine zz0 (aa rfl) ?_
   refine iG (E := al) _ rfl rfl af ae cC (fun V26 => ?_)
   refine zz1 rfl rfl af eS (fun V27 => ?_)
   refine du (.head _) (fun pz qz hpv => ?_)
   subst hpv
   refine zz0 (zz2 (off := 1) (ft := 31) rfl bY rfl cg) ?_
   refine zz3 (cs' := [_, _, _, _]) rfl rfl cg rfl ?_
   refine aD (aY (ac (ar (zz0 (cB rfl rfl) ?_))))
   refine zz0 (aa rfl) (ad ?_)
   rw [← kO (by omega) (by assumption)]
   refine cK (k + 1, _) (Front.c Front.nil) (zz8 16 rfl) (o := (by show k + 1 ≤ _; omega))
  refine cd (aY (ac (ar (zz0 (cB rfl rfl) ?_))))
  refine zz0 (aa rfl) (ad ?_)
  rw [← kP (p := inK kp) (by omega) (by assumption)]
  refine cK (k + 1, _) (Front.c Front.nil) (zz8 10 rfl) (o := (by show k + 1 ≤ _; omega))
 refine bJ (aG (aG (bj (ac (an (an ?_))))))
 obtain rfl : k = ents.length := by omega
 rw [List.take_length] at *
 refine iC (V := Ve2) (fun pa3 pc3 hpv => ?_)
 subst hpv
 refine ar (zz0 (zz2 (off := 2) (ft := 31) rfl bY rfl cg) ?_)
 refine zz0 (aH rfl dl) ?_
 refine zz0 (gj rfl af) ?_
 refine zz0 (aa rfl) (ad (aF (bZ 23 al ?_)))
 refine bL (ι := Nat × Value) (fun ⟨k, Vu2⟩ => k ≤ unk.length) (fun _ => _) (fun ⟨k, Vu2⟩ => [cellE b17 [(.slice pa1 kp.length pc1), (.slice pa3 (ents.filter (inK kp)).length pc3), Vu2, (.slice pb bad.length cb)] 52, rowE Vu2 23 al ((unk.take k).filter (inK kp)), rowE (.slice pa3 (ents.filter (inK kp)).length pc3) 23 al (ents.filter (inK kp)), rowE (.slice pb bad.length cb) 23 al bad, rowE Vr 23 al (mV lc kp), cellE b7 [(.slice pa1 kp.length pc1)] 50, rowE (.slice pa1 kp.length pc1) 36 aM kp, rowE V6 36 aM (dX (fN ents tm) lc), cellE b5 [.func (.func 75) #[] #[.pointer (some ⟨b1, 0, none⟩), .pointer (some ⟨b4, 0, none⟩)]] 153, cellE b4 [.map (some bmap)] 141, mapE bmap cX tm, rowE V3 36 aM lc, cellE b2 [.slice none 0 0, .slice none 0 0, .slice none 0 0, .slice none 0 0] 52, cellE b1 [Vi, Ve, Vu, Vb] 52]) (fun ⟨k, Vu2⟩ => [(99, .int .i64 (k : Nat))]) (fun ⟨k, Vu2⟩ => unk.length - k) (0, _) (Nat.zero_le _) (Front.c Front.nil) (by repeat' constructor) rfl (fun i hi m hm => ?_)
 obtain ⟨k, Vu2⟩ := i
 replace hi : k ≤ unk.length := hi
 replace hm : m = unk.length - k := hm
 change Tr _ _ [cellE b17 [(.slice pa1 kp.length pc1), (.slice pa3 (ents.filter (inK kp)).length pc3), Vu2, (.slice pb bad.length cb)] 52, rowE Vu2 23 al ((unk.take k).filter (inK kp)), rowE (.slice pa3 (ents.filter (inK kp)).length pc3) 23 al (ents.filter (inK kp)), rowE (.slice pb bad.length cb) 23 al bad, rowE Vr 23 al (mV lc kp), cellE b7 [(.slice pa1 kp.length pc1)] 50, rowE (.slice pa1 kp.length pc1) 36 aM kp, rowE V6 36 aM (dX (fN ents tm) lc), cellE b5 [.func (.func 75) #[] #[.pointer (some ⟨b1, 0, none⟩), .pointer (some ⟨b4, 0, none⟩)]] 153, cellE b4 [.map (some bmap)] 141, mapE bmap cX tm, rowE V3 36 aM lc, cellE b2 [.slice none 0 0, .slice none 0 0, .slice none 0 0, .slice none 0 0] 52, cellE b1 [Vi, Ve, Vu, Vb] 52] ([(99, .int .i64 (k : Nat))] ++ _) _
 have hfl := List.length_filter_le (inK kp) (unk.take k)
 rw [List.length_take] at hfl
 refine ah (zz0 (bT rfl rfl) (ad (an ?_)))
 refine au rfl ?_ ?_ <;> intro h28 <;> try simp only [bs] at h28
 ·refine bC (an (aF (ah (zz0 (iH rfl rfl af ae) ?_))))
  refine zz0 (jl rfl am) ?_
  refine zz0 (ab rfl) (aI (zz0 (aa rfl) (zz0 (aa rfl) (zz0 (hZ rfl rfl Tryz.call85 (fun w hw => nA (unk.getD k default) kp _ b7 w (cellE.cellsIn (hw.ent _ (by repeat constructor)) (Ext.refl _)) (hw.row (by repeat constructor)))) ?_))))
  refine ad ?_
  refine au rfl ?_ ?_ <;> intro h29 <;> try simp only [bs] at h29
  ·refine ar (zz0 (zz2 (off := 2) (ft := 31) rfl bY rfl cg) ?_)
   refine zz0 (aH rfl dl) ?_
   refine zz0 (aa rfl) ?_
   refine iG (E := al) _ rfl rfl af ae cC (fun V30 => ?_)
   refine zz1 rfl rfl af eS (fun V31 => ?_)
   refine du (.head _) (fun pz qz hpv => ?_)
   subst hpv
   refine zz0 (zz2 (off := 2) (ft := 31) rfl bY rfl cg) ?_
   refine zz3 (cs' := [_, _, _, _]) rfl rfl cg rfl ?_
   refine aD (aY (ac (ar (zz0 (cB rfl rfl) ?_))))
   refine zz0 (aa rfl) (ad ?_)
   rw [← kO (by omega) (by assumption)]
   refine cK (k + 1, _) (Front.c Front.nil) (zz8 16 rfl) (o := (by show k + 1 ≤ _; omega))
  refine cd (aY (ac (ar (zz0 (cB rfl rfl) ?_))))
  refine zz0 (aa rfl) (ad ?_)
  rw [← kP (p := inK kp) (by omega) (by assumption)]
  refine cK (k + 1, _) (Front.c Front.nil) (zz8 10 rfl) (o := (by show k + 1 ≤ _; omega))
 refine bJ (aG (aG (bj (ac (an ?_)))))
 obtain rfl : k = unk.length := by omega
 rw [List.take_length] at *
 refine iC (V := Vu2) (fun pa4 pc4 hpv => ?_)
 subst hpv
 refine ar (zz0 (bG rfl fF cn) ?_)
 refine zz0 (aa rfl) (zz5 rfl rfl cn ?_)
 refine zz0 (ab rfl) (ad (aC (fG ?_)))
 refine kG Tryz.results29 rfl rfl fF cn (fun w' hw => ?_)
 subst hkp htm hlc
 exact ⟨(_, _, _, _, _), rfl, hw.b0, hw.ents (w := w0) (Bg.le.refl _) (by repeat' constructor)⟩
end Go.Proofs.YtiajjbhcpeadfaaGreat
namespace Go.Proofs.YtiajjbhcpeadfaaGreat
open Go Go.HL Go.RowKit
theorem wM (i : Ins) (w : World) :
  Cr Tryz.prog 137 #[.agg (aM.enc i).toArray] w (.bool (ul i.op)) := by
 refine enter Tryz.func137 rfl Tryz.ntmps137 rfl ?_
 refine ah ?_
 refine dG rfl rfl (fun b1 => ?_)
 refine zz0 (ab rfl) (aI (zz0 (zz2 (off := 2) (ft := 3) rfl aj rfl aA) ?_))
 refine zz0 (aH rfl aO) ?_
 refine zz0 (bA rfl rfl) (zz0 (aa rfl) ?_)
 apply dV
 ·exact (rfl : _ = (4, 6, 10))
 ·exact rfl
 ·intro hF2; have hF2' := hF2
  try simp only [bs] at hF2'
  refine zz6 hF2 (zz2 (off := 2) (ft := 3) rfl aj rfl aA) ?_
  refine zz6 hF2 (aH rfl aO) ?_
  refine zz6 hF2 (bA rfl rfl) (zz0 (aU rfl hF2 rfl) ?_)
  refine aD (ac ?_)
  exact aK (Sub.cons rfl (bD 4 rfl))
 ·intro hT2
  refine zz9 hT2 (zz9 hT2 (zz9 hT2 (zz0 (aV rfl hT2 rfl) ?_)))
  refine aD (ac ?_)
  exact aK (Sub.cons rfl (bD 4 rfl))
 refine zz0 (aa rfl) ?_
 apply dV
 ·exact (rfl : _ = (4, 11, 15))
 ·exact rfl
 ·intro hF3; have hF3' := hF3
  try simp only [bs] at hF3'
  refine zz6 hF3 (zz2 (off := 2) (ft := 3) rfl aj rfl aA) ?_
  refine zz6 hF3 (aH rfl aO) ?_
  refine zz6 hF3 (bA rfl rfl) (zz0 (aU rfl hF3 rfl) ?_)
  refine aD (ac ?_)
  exact aK (Sub.cons rfl (bD 4 rfl))
 ·intro hT3
  refine zz9 hT3 (zz9 hT3 (zz9 hT3 (zz0 (aV rfl hT3 rfl) ?_)))
  refine aD (ac ?_)
  exact aK (Sub.cons rfl (bD 4 rfl))
 refine zz0 (ab rfl) (ad (aC ?_))
 refine aX Tryz.results137 rfl (fun w' hw => ?_)
 exact ⟨by unfold ul; congr 2; rw [Bool.eq_iff_iff]; simp [or_assoc], hw.b0⟩
theorem Dc (i : Ins) (w : World) (hI : InsOK i) :
  Calls Tryz.prog 136 #[.agg (aM.enc i).toArray] w (fun e w' => ∃ V', e = .returned V' ∧ Ext w w' ∧ js w w' 23 al (dL i) V') := by
 refine enter Tryz.func136 rfl Tryz.ntmps136 rfl ?_
 refine ah ?_
 refine dG rfl rfl (fun b1 => ?_)
 refine zz0 (ab rfl) (ad (an (ah (zz0 (bG rfl aQ ax) ?_))))
 refine zz0 (az rfl j4 (fun w hw => jY i w hI)) ?_
 refine zz0 (cP rfl) (ad ?_)
 refine au rfl ?_ ?_ <;> intro h2 <;> try simp only [bs] at h2
 ·refine an (bZ 23 al ?_)
  refine ar (zz0 (ab rfl) (ad (aC (ay ?_))))
  refine aX Tryz.results136 rfl (fun w' hw => ?_)
  exact ⟨_, rfl, hw.b0, by rw [show dL i = [] by unfold dL; rw [if_neg (by simp_all)]]; exact hw.new (.head _)⟩
 refine bC (an (bZ 23 al ?_))
 refine ar (zz0 (ab rfl) (ad ?_))
 refine cZ (ι := Value) (fun V1 => True) (fun _ => Bg.of w) (fun V1 => [rowE V1 23 al (if (c9 i).2 = true then [(c9 i).1] else []), cellE b1 (aM.enc i) 36]) (fun V1 => [(3, V1)]) ?_ (fun V1 hi => ?_)
 ·skip
  refine ah (zz0 (bG rfl aQ ax) ?_)
  refine zz0 (az rfl Tryz.call144 (fun w hw => pO i w)) ?_
  refine zz0 (aa rfl) (zz0 (aN rfl rfl) (zz0 (aN rfl rfl) (zz0 (ab rfl) (zz0 (ab rfl) (aI (zz0 (aa rfl) (ad ?_)))))))
  refine au rfl ?_ ?_ <;> intro h3 <;> try simp only [bs] at h3
  ·refine ar (zz0 (aa rfl) (zz0 (aa rfl) ?_))
   refine iG (E := al) (c9 i).1 rfl rfl af ae cC (fun V4 => ?_)
   refine zz1 rfl rfl af eS (fun V5 => ?_)
   refine zz0 (ab rfl) (ad (gp (l' := if (c9 i).2 = true then [(c9 i).1] else []) (by rw [if_pos (by assumption)]; rfl) ?_))
   refine co _ (Front.c Front.nil) (zz8 13 rfl) (o := trivial)
  refine bC (gp (l' := if (c9 i).2 = true then [(c9 i).1] else []) (by rw [if_neg (by simp_all)]) ?_)
  refine co _ (Front.c Front.nil) (zz8 8 rfl) (o := trivial)
 skip
 replace hi : True := hi
 change Tr _ _ [rowE V1 23 al (if (c9 i).2 = true then [(c9 i).1] else []), cellE b1 (aM.enc i) 36] ([(3, V1)] ++ _) _
 have htl : (if (c9 i).2 = true then [(c9 i).1] else []).length ≤ 1 := by split <;> simp
 refine cZ (ι := Value) (fun V2 => True) (fun _ => Bg.of w) (fun V2 => [rowE V2 23 al ((if (c9 i).2 = true then [(c9 i).1] else []) ++ (if kU i = true then [] else [nY i])), cellE b1 (aM.enc i) 36]) (fun V2 => [(3, V2)]) ?_ (fun V2 hi => ?_)
 ·skip
  refine ah (zz0 (bG rfl aQ ax) ?_)
  refine zz0 (az rfl Tryz.call195 (fun w hw => yM i w)) ?_
  refine zz0 (cP rfl) (ad ?_)
  refine au rfl ?_ ?_ <;> intro h6 <;> try simp only [bs] at h6
  ·refine ar (zz0 (aa rfl) (zz0 (bG rfl aQ ax) ?_))
   refine zz0 (az rfl Tryz.call60 (fun w hw => yi i w hI)) ?_
   refine iG (E := al) (nY i) rfl rfl af ae cC (fun V7 => ?_)
   refine zz1 rfl rfl af eS (fun V8 => ?_)
   refine zz0 (ab rfl) (ad (gp (l' := (if (c9 i).2 = true then [(c9 i).1] else []) ++ (if kU i = true then [] else [nY i])) (by rw [if_neg (c := kU i = true) (by simp_all)]) ?_))
   refine co _ (Front.c Front.nil) (zz8 9 rfl) (o := trivial)
  refine bC (gp (l' := (if (c9 i).2 = true then [(c9 i).1] else []) ++ (if kU i = true then [] else [nY i])) (by rw [if_pos (c := kU i = true) (by simp_all), List.append_nil]) ?_)
  refine co _ (Front.c Front.nil) (zz8 3 rfl) (o := trivial)
 skip
 replace hi : True := hi
 change Tr _ _ [rowE V2 23 al ((if (c9 i).2 = true then [(c9 i).1] else []) ++ (if kU i = true then [] else [nY i])), cellE b1 (aM.enc i) 36] ([(3, V2)] ++ _) _
 refine ah (zz0 (aa rfl) (zz0 (ab rfl) (ad (aC ?_))))
 refine aX Tryz.results136 rfl (fun w' hw => ?_)
 exact ⟨_, rfl, hw.b0, by rw [show dL i = _ by unfold dL; rw [if_pos (by simp_all)]]; exact hw.new (.head _)⟩
theorem FV (l : List SecV) (V : Value) (a : UInt32) (w : World) (hV : Sl (hp w) dJ l V) (hB : SecB l) (hD : DataIn (hp w) l) :
  Cr Tryz.prog 68 #[V, .int .u32 a.toNat] w (.tuple #[.agg (aM.enc (atP l a).1).toArray, .bool (atP l a).2]) := by
 have hV' : Sl (Bg.of w).blk dJ l V := hV
 have hlen := hB.1
 have hf := m3 (l := l) (a := a)
 have ha := a.toNat_lt
 refine enter Tryz.func68 rfl Tryz.ntmps68 rfl ?_
 refine ah ?_
 refine dC bR rfl (fun b1 => ?_)
 refine zz0 (ab rfl) (aI (zz0 (aa rfl) (zz0 (aa rfl) (zz0 (az rfl nR (fun w hw => ra l V a w (hw.slF hV') hB)) ?_))))
 refine zz0 (ab rfl) (ad (an (ah (zz0 (aa rfl) (zz0 (bT rfl rfl) (zz0 (aa rfl) ?_))))))
 apply dV
 ·exact (rfl : _ = (7, 15, 22))
 ·exact rfl
 ·intro hF2; have hF2' := hF2
  try simp only [bs] at hF2'
  refine zz6 hF2 (aa rfl) (zz6 hF2 (aa rfl) (zz6 hF2 (nZ rfl rfl de dn) ?_))
  refine zz6 hF2 (zz2 (off := 4) (ft := 4) rfl dy rfl bS) ?_
  refine zz6 hF2 (ql rfl (by assumption) cE (by omega) (by rfl)) ?_
  refine zz6 hF2 (cP rfl) (zz0 (aU rfl hF2 rfl) ?_)
  refine aD (ac ?_)
  exact aK (Sub.cons rfl (bD 7 rfl))
 ·intro hT2
  refine zz9 hT2 (zz9 hT2 (zz9 hT2 (zz9 hT2 (zz9 hT2 (zz9 hT2 (zz0 (aV rfl hT2 rfl) ?_))))))
  refine aD (ac ?_)
  exact aK (Sub.cons rfl (bD 7 rfl))
 refine ad ?_
 refine au rfl ?_ ?_ <;> intro h3 <;> try simp only [bs] at h3
 ·refine ah (zz0 (bK (vs := []) rfl rfl (kF)) ?_)
  refine aB aM rfl rfl ax ?_
  refine zz0 (ab rfl) (ad (aC (ay ?_)))
  refine kG Tryz.results68 rfl rfl aQ ax (fun w' hw => ?_)
  exact ⟨by unfold atP; rw [if_pos (by unfold B9; simp_all)]; rfl, hw.b0⟩
 refine bC (an ?_)
 have hna : B9 l a = false := by unfold B9; rw [Bool.or_eq_false_iff]; exact ⟨decide_eq_false h3.1, by rw [h3.2]; rfl⟩
 have hin := qV.1 (oM (l := l) (a := a) (by omega))
 have hen : qb (l.getD (dS l a).toNat default) ≤ ((l.getD (dS l a).toNat default).addr.toNat : Int) + (l.getD (dS l a).toNat default).data.length := by unfold qb; omega
 have hsub : (a - (l.getD (dS l a).toNat default).addr).toNat = a.toNat - (l.getD (dS l a).toNat default).addr.toNat := UInt32.toNat_sub_of_le _ _ (UInt32.le_iff_toNat_le.2 hin.1)
 have hdl := hB.at (k := (dS l a).toNat) (by omega)
 have hDk : Sl (Bg.of w).blk dZ (l.getD (dS l a).toNat default).data (.slice (l.getD (dS l a).toNat default).dp (l.getD (dS l a).toNat default).data.length (l.getD (dS l a).toNat default).dc) := hD _ (df (by omega))
 refine gZ aP ?_
 refine aw (aa rfl) (aw (aa rfl) (aw (nZ rfl rfl de dn) ?_))
 refine aw (zz2 (off := 2) (ft := 47) rfl dy rfl kA) ?_
 refine aw (ql rfl (by assumption) lJ (by omega) (by rfl)) ?_
 refine aw (aa rfl) (aw (aa rfl) (aw (aa rfl) (aw (nZ rfl rfl de dn) ?_)))
 refine aw (zz2 (off := 1) (ft := 23) rfl dy rfl ae) ?_
 refine aw (ql rfl (by assumption) am (by omega) (by rfl)) ?_
 refine aw (fk rfl rfl) ?_
 refine aw (CV (lv := some (_, _)) (hv := none) rfl rfl rfl bI dT) ?_
 refine aw (ab rfl) (bH ?_)
 refine ac (an ?_)
 have hs1 := Sl.resl (l := (a - (l.getD (dS l a).toNat default).addr).toNat) (h := (l.getD (dS l a).toNat default).data.length) hDk (by omega) (Nat.le_refl _)
 rw [List.take_length] at hs1
 have hs1l : (List.drop (a - (l.getD (dS l a).toNat default).addr).toNat (l.getD (dS l a).toNat default).data).length = (l.getD (dS l a).toNat default).data.length - (a - (l.getD (dS l a).toNat default).addr).toNat := List.length_drop
 have hs3 := Sl.resl (l := 0) (h := (min (((l.getD (dS l a).toNat default).data.drop (a - (l.getD (dS l a).toNat default).addr).toNat).length : Int) 6).toNat) hs1 (Nat.zero_le _) (by omega)
 rw [List.drop_zero, show ((l.getD (dS l a).toNat default).data.drop (a - (l.getD (dS l a).toNat default).addr).toNat).take (min (((l.getD (dS l a).toNat default).data.drop (a - (l.getD (dS l a).toNat default).addr).toNat).length : Int) 6).toNat = BG l a by unfold BG; rw [List.take_eq_take_iff]; omega] at hs3
 refine ar (zz0 (aa rfl) (zz0 (aa rfl) (zz0 (gj rfl bI) ?_)))
 refine zz0 (tu rfl rfl) ?_
 refine zz0 (CV (lv := none) (hv := some (_, _)) rfl rfl rfl bI dT) ?_
 refine zz0 (aa rfl) (zz0 (az rfl Tryz.call135 (fun w hw => Ad (BG l a) _ a w (hw.slF hs3))) ?_)
 refine zz0 (aa rfl) (zz0 (aN rfl rfl) (zz0 (aN rfl rfl) ?_))
 refine dC bR rfl (fun b4 => ?_)
 refine aB aM rfl rfl ax ?_
 refine zz0 (ab rfl) (aI (zz0 (bG rfl aQ ax) ?_))
 refine zz0 (aa rfl) (zz0 (bA rfl rfl) (aB aM rfl rfl ax ?_))
 refine zz0 (ab rfl) (ad (aC ?_))
 refine kG Tryz.results68 rfl rfl aQ ax (fun w' hw => ?_)
 exact ⟨by unfold atP; rw [if_neg (by simp [hna])]; rfl, hw.b0⟩
theorem Ac (bw bi bb be bu : Nat) (VT VP : Value) (ts : List TabV) (at_ : List UInt32) (a : UInt32) (w : World) (hcw : CellsIn (hp w) bw [.map (some bi), .map (some bb), .map (some be), .map (some bu), VT, VP]) (hT : Sl (hp w) fR ts VT) (hP : Sl (hp w) al at_ VP) (hl : ts.length = at_.length) :
  Cr Tryz.prog 138 #[.pointer (some ⟨bw, 0, none⟩), .int .u32 a.toNat] w (.tuple #[rO ts at_ a, .bool (dQ ts at_ a).isSome]) := by
 have hcw' : CellsIn (Bg.of w).blk bw [.map (some bi), .map (some bb), .map (some be), .map (some bu), VT, VP] := hcw
 have hT' : Sl (Bg.of w).blk fR ts VT := hT
 have hP' : Sl (Bg.of w).blk al at_ VP := hP
 have hib := jH (fun x => decide (a = x)) at_ 0
 refine enter Tryz.func138 rfl Tryz.ntmps138 rfl ?_
 refine ah (zz0 (ab rfl) (zz0 (ab rfl) (aI (zz0 (aa rfl) (zz0 (bh rfl) ?_)))))
 refine zz0 (zz2 (off := 5) (ft := 31) rfl cU rfl cg) ?_
 refine zz0 (lu rfl dl) ?_
 refine zz0 (aa rfl) (zz0 (az rfl Tryz.call145 (fun w hw => vG at_ VP a w (hw.slF hP'))) ?_)
 refine zz0 (ab rfl) (ad (an (ah (zz0 (aa rfl) (zz0 (bT rfl rfl) (ad ?_))))))
 refine au rfl ?_ ?_ <;> intro h1 <;> try simp only [bs] at h1
 ·refine ah (zz0 (ab rfl) (zz0 (ab rfl) (ad (aC (ay ?_)))))
  refine dE Tryz.results138 rfl rfl (fun w' hw => ?_)
  exact ⟨by rw [vA (by omega), vB (by omega)]; rfl, hw.b0⟩
 refine dz (zz0 (aa rfl) (zz0 (bh rfl) ?_))
 refine zz0 (zz2 (off := 4) (ft := 53) rfl cU rfl fY) ?_
 refine zz0 (lu rfl jK) ?_
 refine zz0 (aa rfl) (zz0 (nZ rfl rfl cS cg) ?_)
 refine zz0 (jl rfl dl) ?_
 refine zz0 (ab rfl) (zz0 (ab rfl) (ad (aC ?_)))
 refine dE Tryz.results138 rfl rfl (fun w' hw => ?_)
 exact ⟨by rw [ui (by omega), uj (by omega)]; rfl, hw.b0⟩
theorem zY (bw bi bb be bu : Nat) (VT VP : Value) (ts : List TabV) (at_ : List UInt32) (i : Ins) (ents unk : List (UInt32 × Bool)) (w : World) (ho : OwnAt w [mapE be cX ents, mapE bu cX unk]) (hcw : CellsIn (Bg.lessB w [be, bu] 0).blk bw [.map (some bi), .map (some bb), .map (some be), .map (some bu), VT, VP]) (hT : Sl (Bg.lessB w [be, bu] 0).blk fR ts VT) (hTI : TabIn (Bg.lessB w [be, bu] 0).blk ts) (hTB : oe ts) (hP : Sl (Bg.lessB w [be, bu] 0).blk al at_ VP) (hl : ts.length = at_.length) (hI : InsOK i) :
  Calls Tryz.prog 69 #[.pointer (some ⟨bw, 0, none⟩), .agg (aM.enc i).toArray] w (fun e w' => ∃ V : Value, e = .returned V ∧ Upd 0 w w' (cT [mapE be cX ents, mapE bu cX unk]) [rowE V 23 al (jt ts at_ i), mapE be cX (gm ents (jj ts at_ i)), mapE bu cX (if ns ts at_ i = true then e8 unk i.addr true else unk)] ∧ True) := by
 have hKS := D4 hTI hTB (at_ := at_) (a := i.addr) hl
 have hkl := rN hTB at_ i.addr
 have hsl := jQ i
 refine pZ (L := [mapE be cX ents, mapE bu cX unk]) ho rfl (Nat.zero_le _) Tryz.func69 rfl Tryz.ntmps69 rfl ?_
 refine ah ?_
 refine dG rfl rfl (fun b1 => ?_)
 refine zz0 (ab rfl) (aI (zz0 (bG rfl aQ ax) ?_))
 refine gR rfl Tryz.call136 (fun w hw => Dc i w hI) rfl (fun V2 => ?_)
 refine zz0 (ab rfl) (ad ?_)
 refine cZ (ι := List (UInt32 × Bool)) (fun m1 => m1 = (if i.op = 23 then e8 ents i.imm true else ents)) (fun _ => (Bg.lessB w [be, bu] 0)) (fun m1 => [rowE V2 23 al (dL i), mapE be cX m1, mapE bu cX unk, cellE b1 (aM.enc i) 36]) (fun m1 => []) ?_ (fun m1 hi => ?_)
 ·skip
  refine ah (zz0 (zz2 (off := 2) (ft := 3) rfl aj rfl aA) ?_)
  refine zz0 (aH rfl aO) ?_
  refine zz0 (bA rfl rfl) (ad ?_)
  refine au rfl ?_ ?_ <;> intro h3 <;> try simp only [bs] at h3
  ·refine fy 0 6 aP ?_
   refine bE ?_
   refine aw (aa rfl) (aw (bh rfl) ?_)
   refine aw (zz2 (off := 2) (ft := 141) rfl cU rfl fJ) ?_
   refine aw (lu rfl fM) ?_
   refine aw (zz2 (off := 1) (ft := 23) rfl aj rfl ae) ?_
   refine aw (aH rfl am) ?_
   refine bH ?_
   refine fW true rfl rfl rfl (by repeat constructor) d6 aS rfl ?_
   refine ad ?_
   refine co _ Front.nil (zz8 9 rfl) (o := (by show _ = _; rw [if_pos (by assumption)]))
  refine bC ?_
  refine co _ Front.nil (zz8 3 rfl) (o := (by show _ = _; rw [if_neg (by assumption)]))
 skip
 replace hi : m1 = (if i.op = 23 then e8 ents i.imm true else ents) := hi
 change Tr _ _ [rowE V2 23 al (dL i), mapE be cX m1, mapE bu cX unk, cellE b1 (aM.enc i) 36] ([] ++ _) _
 have hm1 := hi
 refine an (ah (zz0 (bG rfl aQ ax) ?_))
 refine zz0 (az rfl Tryz.call137 (fun w hw => wM i w)) ?_
 refine zz0 (cP rfl) (ad ?_)
 refine au rfl ?_ ?_ <;> intro h4 <;> try simp only [bs] at h4
 ·refine ah (zz0 (aa rfl) (zz0 (ab rfl) (ad (aC (ay ?_)))))
  refine aX Tryz.results69 rfl (fun w' hw => ?_)
  have hb1 : jt ts at_ i = dL i := by unfold jt; rw [if_neg (by simp_all), List.append_nil]
  have hb2 : gm ents (jj ts at_ i) = m1 := Ak hm1 (by simp_all)
  have hb3 : ns ts at_ i = false := by unfold ns; simp_all
  exact ⟨_, rfl, by rw [hb1, hb2, hb3, if_neg (by decide)]; exact hw.upd (Bg.le.refl _) (by repeat' constructor), trivial⟩
 refine dz (zz0 (aa rfl) (zz0 (zz2 (off := 0) (ft := 23) rfl aj rfl ae) ?_))
 refine zz0 (aH rfl am) ?_
 refine zz0 (az rfl Tryz.call138 (fun w hw => Ac bw bi bb be bu VT VP ts at_ i.addr w (hcw.mono hw.bg) (hw.slF hT) (hw.slF hP) hl)) ?_
 refine zz0 (aa rfl) (zz0 (aN rfl rfl) (zz0 (aN rfl rfl) (zz0 (ab rfl) (zz0 (ab rfl) (ad ?_)))))
 refine cZ (ι := List (UInt32 × Bool)) (fun u1 => u1 = (if (dQ ts at_ i.addr).isSome = true then unk else e8 unk i.addr true)) (fun _ => (Bg.lessB w [be, bu] 0)) (fun u1 => [rowE V2 23 al (dL i), mapE be cX m1, mapE bu cX u1, cellE b1 (aM.enc i) 36]) (fun u1 => []) ?_ (fun u1 hi => ?_)
 ·skip
  refine ah (zz0 (aa rfl) (zz0 (cP rfl) (ad ?_)))
  refine au rfl ?_ ?_ <;> intro h5 <;> try simp only [bs] at h5
  ·refine fy 0 6 aP ?_
   refine bE ?_
   refine aw (aa rfl) (aw (bh rfl) ?_)
   refine aw (zz2 (off := 3) (ft := 141) rfl cU rfl fJ) ?_
   refine aw (lu rfl fM) ?_
   refine aw (zz2 (off := 0) (ft := 23) rfl aj rfl ae) ?_
   refine aw (aH rfl am) ?_
   refine bH ?_
   refine fW true rfl rfl rfl (by repeat constructor) d6 aS rfl ?_
   refine ad ?_
   refine co _ Front.nil (zz8 8 rfl) (o := (by show _ = _; rw [if_neg (by simp_all)]))
  refine bC ?_
  refine co _ Front.nil (zz8 2 rfl) (o := (by show _ = _; rw [if_pos (by assumption)]))
 skip
 replace hi : u1 = (if (dQ ts at_ i.addr).isSome = true then unk else e8 unk i.addr true) := hi
 change Tr _ _ [rowE V2 23 al (dL i), mapE be cX m1, mapE bu cX u1, cellE b1 (aM.enc i) 36] ([] ++ _) _
 have hu1 := hi
 refine cZ (ι := List (UInt32 × Bool)) (fun m2 => m2 = if i.op = 24 then gm m1 ((dQ ts at_ i.addr).getD []) else m1) (fun _ => (Bg.lessB w [be, bu] 0)) (fun m2 => [rowE V2 23 al (dL i), mapE be cX m2, mapE bu cX u1, cellE b1 (aM.enc i) 36]) (fun m2 => []) ?_ (fun m2 hi => ?_)
 ·skip
  refine ah (zz0 (zz2 (off := 2) (ft := 3) rfl aj rfl aA) ?_)
  refine zz0 (aH rfl aO) ?_
  refine zz0 (bA rfl rfl) (ad ?_)
  refine au rfl ?_ ?_ <;> intro h6 <;> try simp only [bs] at h6
  ·refine ah (zz0 (aa rfl) (zz0 (gj rfl af) ?_))
   refine zz0 (aa rfl) (ad (aF ?_))
   refine bL (ι := Nat) (fun k => k ≤ ((dQ ts at_ i.addr).getD []).length) (fun _ => (Bg.lessB w [be, bu] 0)) (fun k => [rowE V2 23 al (dL i), mapE be cX (gm m1 (((dQ ts at_ i.addr).getD []).take k)), mapE bu cX u1, cellE b1 (aM.enc i) 36]) (fun k => [(45, .int .i64 (k : Nat))]) (fun k => ((dQ ts at_ i.addr).getD []).length - k) 0 (Nat.zero_le _) (Front.c Front.nil) (by repeat' constructor) rfl (fun k hi m hm => ?_)
   replace hi : k ≤ ((dQ ts at_ i.addr).getD []).length := hi
   replace hm : m = ((dQ ts at_ i.addr).getD []).length - k := hm
   change Tr _ _ [rowE V2 23 al (dL i), mapE be cX (gm m1 (((dQ ts at_ i.addr).getD []).take k)), mapE bu cX u1, cellE b1 (aM.enc i) 36] ([(45, .int .i64 (k : Nat))] ++ _) _
   refine ah (zz0 (bT rfl rfl) (ad (an ?_)))
   refine au rfl ?_ ?_ <;> intro h7 <;> try simp only [bs] at h7
   ·refine bC (an (aF (ah (zz0 (iH rfl rfl af ae) ?_))))
    refine zz0 (jl rfl am) ?_
    refine zz0 (ab rfl) (ad (ar (zz0 (aa rfl) (zz0 (bh rfl) ?_))))
    refine zz0 (zz2 (off := 2) (ft := 141) rfl cU rfl fJ) ?_
    refine zz0 (lu rfl fM) ?_
    refine zz0 (aa rfl) (fW true rfl rfl rfl (by repeat constructor) d6 aS rfl ?_)
    refine aD (aY (ac (ar (zz0 (cB rfl rfl) ?_))))
    refine zz0 (aa rfl) (ad ?_)
    rw [← ub, ← dB (by omega)]
    refine cK (k + 1) (Front.c Front.nil) (zz8 12 rfl) (o := (by show k + 1 ≤ _; omega))
   refine bJ (aG (aG (bj (ac ?_))))
   refine co _ Front.nil (zz8 8 rfl) (o := (by show _ = _; rw [if_pos (by assumption), List.take_of_length_le (by omega)]))
  refine bC ?_
  refine co _ Front.nil (zz8 3 rfl) (o := (by show _ = _; rw [if_neg (by assumption)]))
 skip
 replace hi : m2 = if i.op = 24 then gm m1 ((dQ ts at_ i.addr).getD []) else m1 := hi
 change Tr _ _ [rowE V2 23 al (dL i), mapE be cX m2, mapE bu cX u1, cellE b1 (aM.enc i) 36] ([] ++ _) _
 have hm2 := hi
 refine ah (zz0 (aa rfl) (zz0 (aa rfl) ?_))
 refine BE rfl rfl (by repeat constructor) (fun w hw => hw.slF (by assumption)) af eS (fun V8 => ?_)
 refine zz0 (ab rfl) (ad (aC ?_))
 refine aX Tryz.results69 rfl (fun w' hw => ?_)
 have hb1 : jt ts at_ i = dL i ++ ((dQ ts at_ i.addr).getD []) := by unfold jt; rw [if_pos (by simp_all)]
 have hb2 : gm ents (jj ts at_ i) = m2 := EE hm1 hm2 (by simp_all)
 have hb3 : (if ns ts at_ i = true then e8 unk i.addr true else unk) = u1 := Ff hu1 (by simp_all)
 exact ⟨_, rfl, by rw [hb1, hb2, hb3]; exact hw.upd (Bg.le.refl _) (by repeat' constructor), trivial⟩
theorem walk_any (l : List SecV) (ts : List TabV) (at_ es : List UInt32) (V VE VT VP : Value) (w : World) (hV : Sl (hp w) dJ l V) (hB : SecB l) (hD : DataIn (hp w) l) (hN : ∀ s ∈ l, s.name.size ≤ 140737488351232) (hE : Sl (hp w) al es VE) (hT : Sl (hp w) fR ts VT) (hTI : TabIn (hp w) ts) (hTB : oe ts) (hP : Sl (hp w) al at_ VP) (ht : totD l ≤ 600) (hel : es.length ≤ 100) :
  Calls Tryz.prog 28 #[V, VE, VT, VP] w (fun e w' => ∃ i : ((Value × Value × Value × Value) × CodeP × Int), e = .returned ((fun i : ((Value × Value × Value × Value) × CodeP × Int) => .tuple #[.agg #[i.1.1, i.1.2.1, i.1.2.2.1, i.1.2.2.2], .int .i64 i.2.2]) i) ∧ Below w.heap.size w w' ∧ NewEnts w w' ((fun i : ((Value × Value × Value × Value) × CodeP × Int) => [rowE i.1.1 36 aM i.2.1.ins, rowE i.1.2.1 23 al i.2.1.ents, rowE i.1.2.2.1 23 al i.2.1.unk, rowE i.1.2.2.2 23 al i.2.1.bad]) i) ∧ WalkIs l ts at_ es i.2.1 i.2.2) := by
 obtain ⟨ta, tc, hvt, _⟩ := hT.shape
 subst hvt
 obtain ⟨pa, pc, hvp, _⟩ := hP.shape
 subst hvp
 have hV0 : Sl (Bg.of0 w).blk dJ l V := hV
 have hD0 : DataIn (Bg.of0 w).blk l := hD
 have hE0 : Sl (Bg.of0 w).blk al es VE := hE
 have hT0 : Sl (Bg.of0 w).blk fR ts (.slice ta ts.length tc) := hT
 have hTI0 : TabIn (Bg.of0 w).blk ts := hTI
 have hP0 : Sl (Bg.of0 w).blk al at_ (.slice pa at_.length pc) := hP
 refine lE Tryz.func28 rfl Tryz.ntmps28 rfl ?_
 refine ah ?_
 refine dC d5 rfl (fun b1 => ?_)
 refine zz0 (ab rfl) (ad (ri (an (ah (zz0 (aa rfl) (zz0 (gj rfl cS) ?_))))))
 refine zz0 (aa rfl) (zz0 (gj rfl af) ?_)
 refine zz0 (fH rfl rfl) (ad ?_)
 refine au rfl ?_ ?_ <;> intro h2 <;> try simp only [bs] at h2
 ·refine an (bZ 36 aM ?_)
  refine bZ 23 al ?_
  refine bZ 23 al ?_
  refine bZ 23 al ?_
  refine ar (zz0 (bK (vs := []) rfl rfl (o1)) ?_)
  refine zz5 rfl rfl cn ?_
  refine zz0 (ab rfl) (ad (aC (ay (fG ?_))))
  refine kG Tryz.results28 rfl rfl fF cn (fun w' hw => ?_)
  exact ⟨((.slice none 0 0, .slice none 0 0, .slice none 0 0, .slice none 0 0), ⟨[], [], [], []⟩, 2), rfl, hw.below0 (Bg.le.refl _), hw.ents0 rfl (by repeat' constructor), .arg (by show ts.length ≠ at_.length; omega) rfl rfl⟩
 refine bC (an (ah (zz0 (aa rfl) (zz0 (az rfl Tryz.call39 (fun w hw => sc l V w (hw.slF hV0) hB (fun s hs => by have := hN s hs; omega))) ?_))))
 refine zz0 (ab rfl) (aI (zz0 (aa rfl) (zz0 (fH rfl rfl) (ad ?_))))
 refine au rfl ?_ ?_ <;> intro h3 <;> try simp only [bs] at h3
 ·refine an (bZ 36 aM ?_)
  refine bZ 23 al ?_
  refine bZ 23 al ?_
  refine bZ 23 al ?_
  refine ar (zz0 (bK (vs := []) rfl rfl (o1)) ?_)
  refine zz0 (aa rfl) (zz5 rfl rfl cn ?_)
  refine zz0 (ab rfl) (ad (aC (ay (fG ?_))))
  refine kG Tryz.results28 rfl rfl fF cn (fun w' hw => ?_)
  exact ⟨((.slice none 0 0, .slice none 0 0, .slice none 0 0, .slice none 0 0), ⟨[], [], [], []⟩, fS l), rfl, hw.below0 (Bg.le.refl _), hw.ents0 rfl (by repeat' constructor), .chk (by show ts.length = at_.length; omega) (by assumption) rfl rfl⟩
 refine bC (an ?_)
 have hl : ts.length = at_.length := by omega
 refine ar ?_
 refine gr rR rfl (fun b4 => ?_)
 refine gr cX rfl (fun b5 => ?_)
 refine gr cX rfl (fun b6 => ?_)
 refine gr cX rfl (fun b7 => ?_)
 refine zz0 (aa rfl) (zz0 (aa rfl) (zz0 (bK (vs := [(0, _), (1, _), (2, _), (3, _), (4, _), (5, _)]) (cs := #[.map (some b4), .map (some b5), .map (some b6), .map (some b7), (.slice ta ts.length tc), (.slice pa at_.length pc)]) rfl rfl (by kernel_rfl)) ?_))
 refine dG (cs := [.map (some b4), .map (some b5), .map (some b6), .map (some b7), (.slice ta ts.length tc), (.slice pa at_.length pc)]) rfl rfl (fun b8 => ?_)
 refine uE (b := b8) (by repeat constructor) (fun F1 hF1 hcw => ?_)
 have hV1 := hV0.mono hF1.blk
 have hD1 := hD0.mono hF1.blk
 have hE1 := hE0.mono hF1.blk
 have hT1 := hT0.mono hF1.blk
 have hTI1 := hTI0.mono hF1.blk
 have hP1 := hP0.mono hF1.blk
 refine zz0 (ab rfl) (ad (an (ah (zz0 (aa rfl) (zz0 (gj rfl af) ?_)))))
 refine zz0 (aa rfl) (ad (aF ?_))
 refine bL (ι := Nat) (fun k => k ≤ es.length) (fun _ => _) (fun k => [mapE b6 cX (gm [] (es.take k)), mapE b4 rR [], mapE b5 cX [], mapE b7 cX [], cellE b1 [.slice none 0 0, .slice none 0 0, .slice none 0 0, .slice none 0 0] 52]) (fun k => [(50, .int .i64 (k : Nat))]) (fun k => es.length - k) 0 (Nat.zero_le _) (Front.c Front.nil) (by repeat' constructor) rfl (fun k hi m hm => ?_)
 replace hi : k ≤ es.length := hi
 replace hm : m = es.length - k := hm
 change Tr _ _ [mapE b6 cX (gm [] (es.take k)), mapE b4 rR [], mapE b5 cX [], mapE b7 cX [], cellE b1 [.slice none 0 0, .slice none 0 0, .slice none 0 0, .slice none 0 0] 52] ([(50, .int .i64 (k : Nat))] ++ _) _
 refine ah (zz0 (bT rfl rfl) (ad (an ?_)))
 refine au rfl ?_ ?_ <;> intro h8 <;> try simp only [bs] at h8
 ·refine bC (an (aF (ah (zz0 (iH rfl rfl af ae) ?_))))
  refine zz0 (jl rfl am) ?_
  refine zz0 (ab rfl) (ad (ar (zz0 (aa rfl) (zz0 (bh rfl) ?_))))
  refine zz0 (zz2 (off := 2) (ft := 141) rfl cU rfl fJ) ?_
  refine zz0 (eQ rfl hcw fM (by rfl)) ?_
  refine zz0 (aa rfl) (fW true rfl rfl rfl (by repeat constructor) d6 aS rfl ?_)
  refine aD (aY (ac (ar (zz0 (cB rfl rfl) ?_))))
  refine zz0 (aa rfl) (ad ?_)
  rw [← ub, ← dB (by omega)]
  refine cK (k + 1) (Front.c Front.nil) (zz8 12 rfl) (o := (by show k + 1 ≤ _; omega))
 refine bJ (aG (aG (bj (ac (an ?_)))))
 obtain rfl : k = es.length := by omega
 rw [List.take_length]
 refine ar (zz0 (aa rfl) ?_)
 refine gR rfl Tryz.call57 (fun w hw => sb es VE w (hw.slF hE1) (by omega)) rfl (fun V9 => ?_)
 refine zz0 (ab rfl) (aI (zz0 (ab rfl) (ad (an (rk ?_)))))
 refine ac (an (aF ?_))
 refine bL (ι := DSt × Value) (fun ⟨s, Vr⟩ => DInv l ts at_ es s) (fun _ => _) (fun ⟨s, Vr⟩ => [rowE Vr 23 al s.rest, mapE b4 rR s.ins, mapE b5 cX s.bad, mapE b6 cX s.ents, mapE b7 cX s.unk, cellE b1 [.slice none 0 0, .slice none 0 0, .slice none 0 0, .slice none 0 0] 52]) (fun ⟨s, Vr⟩ => [(14, Vr), (15, .bool false)]) (fun ⟨s, Vr⟩ => (601 - s.ins.length) * 70 + s.rest.length) (⟨[], [], gm [] es, [], es⟩, _) DInv.begin (Front.c (Front.c Front.nil)) (by repeat' constructor) rfl (fun i hi m hm => ?_)
 obtain ⟨s, Vr⟩ := i
 replace hi : DInv l ts at_ es s := hi
 replace hm : m = (601 - s.ins.length) * 70 + s.rest.length := hm
 change Tr _ _ [rowE Vr 23 al s.rest, mapE b4 rR s.ins, mapE b5 cX s.bad, mapE b6 cX s.ents, mapE b7 cX s.unk, cellE b1 [.slice none 0 0, .slice none 0 0, .slice none 0 0, .slice none 0 0] 52] ([(14, Vr), (15, .bool false)] ++ _) _
 have hinv := hi
 have hic := hinv.count
 have hil := hinv.lRest
 refine an (ah (zz0 (aa rfl) (zz0 (lQ rfl af) ?_)))
 refine zz0 (fg rfl rfl) (ad ?_)
 refine au rfl ?_ ?_ <;> intro h10 <;> try simp only [bs] at h10
 ·refine bC (aF (ah (zz0 (aa rfl) (zz0 (aa rfl) (zz0 (lQ rfl af) ?_)))))
  refine zz0 (ei rfl rfl) ?_
  refine zz0 (jm rfl rfl af ae) ?_
  refine zz0 (er rfl am) ?_
  obtain ⟨a, ha⟩ : ∃ a, a = s.rest.getD ((s.rest.length : Int) - 1).toNat default := ⟨_, rfl⟩
  obtain ⟨r, hre⟩ : ∃ r, r = s.rest.take ((s.rest.length : Int) - 1).toNat := ⟨_, rfl⟩
  have hr : s.rest = r ++ [a] := by rw [ha, hre]; exact zS (by omega)
  have hrl : r.length + 1 = s.rest.length := by rw [hr, List.length_append]; rfl
  rw [← ha]
  refine zz0 (ab rfl) (aI (zz0 (aa rfl) (zz0 (aa rfl) (zz0 (lQ rfl af) ?_))))
  refine zz0 (ei rfl rfl) ?_
  refine Cz rfl (by repeat constructor) rfl af ae (by omega) rfl (fun Vr2 => ?_)
  rw [← hre]
  refine zz0 (ab rfl) (ad (an (ah (zz0 (aa rfl) (zz0 (bh rfl) ?_)))))
  refine zz0 (zz2 (off := 0) (ft := 140) rfl cU rfl jc) ?_
  refine zz0 (eQ rfl hcw iS (by rfl)) ?_
  refine zz0 (aa rfl) (zz0 (AL rfl rfl (by repeat constructor) fE aS bR (by rfl)) ?_)
  refine zz0 (aa rfl) (zz0 (aN rfl rfl) (zz0 (aN rfl rfl) ?_))
  refine dC bR rfl (fun b11 => ?_)
  refine aB aM rfl rfl ax ?_
  refine zz0 (ab rfl) (aI (zz0 (aa rfl) (zz0 (aa rfl) ?_)))
  apply dV
  ·exact (rfl : _ = (7, 86, 93))
  ·exact rfl
  ·intro hF12; have hF12' := hF12
   try simp only [bs] at hF12'
   refine zz6 hF12 (aa rfl) (zz6 hF12 (bh rfl) ?_)
   refine zz6 hF12 (zz2 (off := 1) (ft := 141) rfl cU rfl fJ) ?_
   refine zz6 hF12 (eQ rfl hcw fM (by rfl)) ?_
   refine zz6 hF12 (aa rfl) (zz6 hF12 (zm rfl rfl (by repeat constructor) d6 aS mw) ?_)
   refine zz0 (aU rfl hF12 rfl) ?_
   refine aD (ac ?_)
   exact aK (Sub.cons rfl (bD 7 rfl))
  ·intro hT12
   refine zz9 hT12 (zz9 hT12 (zz9 hT12 (zz9 hT12 (zz9 hT12 (zz9 hT12 (zz0 (aV rfl hT12 rfl) ?_))))))
   refine aD (ac ?_)
   exact aK (Sub.cons rfl (bD 7 rfl))
  refine ad ?_
  refine au rfl ?_ ?_ <;> intro h13 <;> try simp only [bs] at h13
  ·refine bJ (aG (bj (ac ?_)))
   apply g9 (⟨s.ins, s.bad, s.ents, s.unk, r⟩, _)
   ·exact rfl
   ·exact (Front.c (Front.c Front.nil))
   ·exact zz8 32 rfl
   ·exact (by repeat' constructor)
   ·exact (hinv.skip hr (xT (by assumption)))
   exact (by show (601 - s.ins.length) * 70 + r.length < m; omega)
  refine dz (zz0 (aa rfl) (zz0 (aa rfl) (zz0 (az rfl Tryz.call68 (fun w hw => FV l V a w (hw.slF hV1) hB (hD1.mono hw.bg))) ?_)))
  refine zz0 (aa rfl) (zz0 (aN rfl rfl) (zz0 (aN rfl rfl) ?_))
  refine dC bR rfl (fun b14 => ?_)
  refine aB aM rfl rfl ax ?_
  refine zz0 (ab rfl) (ad (an (ah (zz0 (aa rfl) (zz0 (cP rfl) (ad ?_))))))
  refine au rfl ?_ ?_ <;> intro h15 <;> try simp only [bs] at h15
  ·refine ah (zz0 (aa rfl) (zz0 (bh rfl) ?_))
   refine zz0 (zz2 (off := 1) (ft := 141) rfl cU rfl fJ) ?_
   refine zz0 (eQ rfl hcw fM (by rfl)) ?_
   refine zz0 (aa rfl) (fW true rfl rfl rfl (by repeat constructor) d6 aS rfl ?_)
   refine ad (bJ (aG (bj (ac ?_))))
   apply g9 (⟨s.ins, e8 s.bad a true, s.ents, s.unk, r⟩, _)
   ·exact rfl
   ·exact (Front.c (Front.c Front.nil))
   ·exact zz8 47 rfl
   ·exact (by repeat' constructor)
   ·exact (hinv.isBad hr (by assumption))
   exact (by show (601 - s.ins.length) * 70 + r.length < m; omega)
  refine bC (an ?_)
  have hok : (atP l a).2 = true := by assumption
  have hnk : a ∉ s.ins.map (·.1) := AT (by assumption)
  have hinv2 := DInv.found hTB hinv hr hok hnk
  have hct : (e8 s.ins a (atP l a).1).length ≤ totD l := hinv2.count
  have hml := qO (l := s.ins) (k := a) (by cases hq : dI s.ins a with | none => rfl | some x => exact absurd (wK hq) hnk) (atP l a).1
  have hml2 : (e8 s.ins a (atP l a).1).length = s.ins.length + 1 := by rw [hml, List.length_append]; rfl
  have hld := uh hTB at_ (atP l a).1
  refine fy 0 6 aP ?_
  refine bE ?_
  refine aw (aa rfl) (aw (bh rfl) ?_)
  refine aw (zz2 (off := 0) (ft := 140) rfl cU rfl jc) ?_
  refine aw (eQ rfl hcw iS (by rfl)) ?_
  refine aw (aa rfl) (aw (bG rfl aQ ax) ?_)
  refine bH ?_
  refine fW (atP l a).1 rfl rfl rfl (by repeat constructor) fE aS rfl ?_
  refine ad (an (ah (zz0 (aa rfl) (zz0 (bh rfl) ?_))))
  refine zz0 (zz2 (off := 0) (ft := 140) rfl cU rfl jc) ?_
  refine zz0 (eQ rfl hcw iS (by rfl)) ?_
  refine zz0 (CO rfl (by repeat constructor) fE) ?_
  refine zz0 (fg rfl rfl) (ad ?_)
  refine au rfl ?_ ?_ <;> intro h16 <;> try simp only [bs] at h16
  ·first | contradiction | (exfalso; omega) | simp_all
  refine bC (ar (zz0 (aa rfl) (zz0 (aa rfl) (zz0 (bG rfl aQ ax) ?_))))
  refine ir (fun V : Value => V) [mapE b6 cX s.ents, mapE b7 cX s.unk] (fun V => [rowE V 23 al (jt ts at_ (atP l a).1), mapE b6 cX (gm s.ents (jj ts at_ (atP l a).1)), mapE b7 cX (if ns ts at_ (atP l a).1 = true then e8 s.unk (atP l a).1.addr true else s.unk)]) (ok := fun _ => True) (dd := fun _ => 0) rfl Tryz.call69 (by repeat' constructor) (fun w hw => Nat.le_of_eq hF1.dr) (fun w hw => zY b8 b4 b5 b6 b7 (.slice ta ts.length tc) (.slice pa at_.length pc) ts at_ (atP l a).1 s.ents s.unk w (hw.own (by repeat' constructor)) (hcw.mono (show Hp.le F1.blk (Bg.lessB w [b6, b7] 0).blk from hw.lessB (Lo := [mapE b6 cX s.ents, mapE b7 cX s.unk]) (by repeat' constructor))) (hT1.mono (show Hp.le F1.blk (Bg.lessB w [b6, b7] 0).blk from hw.lessB (Lo := [mapE b6 cX s.ents, mapE b7 cX s.unk]) (by repeat' constructor))) (hTI1.mono (show Hp.le F1.blk (Bg.lessB w [b6, b7] 0).blk from hw.lessB (Lo := [mapE b6 cX s.ents, mapE b7 cX s.unk]) (by repeat' constructor))) hTB (hP1.mono (show Hp.le F1.blk (Bg.lessB w [b6, b7] 0).blk from hw.lessB (Lo := [mapE b6 cX s.ents, mapE b7 cX s.unk]) (by repeat' constructor))) hl (GE l a)) rfl (fun V25 _ => ?_)
  refine BE rfl rfl (by repeat constructor) (fun w hw => hw.row (by repeat constructor)) af eS (fun V17 => ?_)
  refine zz0 (ab rfl) (aD (aY (ac ?_)))
  apply g9 (stepD l ts at_ a s r, _)
  ·exact rfl
  ·exact (Front.c (Front.c Front.nil))
  ·exact zz8 60 rfl
  ·exact (by repeat' constructor)
  ·exact hinv2
  exact (by show (601 - (e8 s.ins a (atP l a).1).length) * 70 + (r ++ jt ts at_ (atP l a).1).length < m; rw [List.length_append]; omega)
 refine bJ (aG (aG (bj (ac (an (an ?_))))))
 have hr0 : s.rest = [] := List.length_eq_zero_iff.1 (by omega)
 have hcode := hinv.code hr0
 have hcnt := hinv.count
 have hl1 := hinv.lRest
 have hl2 := hinv.lEnts
 have hl3 := hinv.lUnk
 refine ar (zz0 (aa rfl) (ad ?_))
 refine au rfl ?_ ?_ <;> intro h18 <;> try simp only [bs] at h18
 ·first | contradiction | (exfalso; omega) | simp_all
 refine bC ?_
 refine lN (b := b4) (by repeat constructor) (fun F2 hF2 hmI => ?_)
 refine lN (b := b5) (by repeat constructor) (fun F3 hF3 hmB => ?_)
 refine lN (b := b6) (by repeat constructor) (fun F4 hF4 hmE => ?_)
 refine lN (b := b7) (by repeat constructor) (fun F5 hF5 hmU5 => ?_)
 have hmI5 := hmI.mono (hF3.trans (hF4.trans hF5)).blk
 have hmB5 := hmB.mono (hF4.trans hF5).blk
 have hmE5 := hmE.mono hF5.blk
 have hF15 := hF2.trans (hF3.trans (hF4.trans hF5))
 have hdr5 : F5.dr = 0 := hF15.dr.trans hF1.dr
 have hcw5 := hcw.mono hF15.blk
 refine cZ (ι := Value × Value × Nat) (fun ⟨Vu, Vb, bc⟩ => True) (fun _ => F5) (fun ⟨Vu, Vb, bc⟩ => [cellE bc [.slice none 0 0, .slice none 0 0, Vu, Vb] 52, rowE Vu 23 al (fQ (s.unk.map (·.1))), rowE Vb 23 al (fQ (s.bad.map (·.1))), cellE b1 [.slice none 0 0, .slice none 0 0, .slice none 0 0, .slice none 0 0] 52]) (fun ⟨Vu, Vb, bc⟩ => [(21, .pointer (some ⟨bc, 0, none⟩))]) ?_ (fun i hi => ?_)
 ·skip
  refine dU ([cellE b1 [.slice none 0 0, .slice none 0 0, .slice none 0 0, .slice none 0 0] 52]) 13 rfl aP ?_
  refine zz4 0 rfl (aa rfl) ?_
  refine zz4 1 rfl (bh rfl) ?_
  refine zz4 2 rfl (zz2 (off := 3) (ft := 141) rfl cU rfl fJ) ?_
  refine jk 3 rfl (by kernel_rfl) (aT (jG cL)) (eQ rfl hcw5 fM (by rfl)) ?_
  refine zz4 5 rfl (aa rfl) ?_
  refine zz4 6 rfl (bh rfl) ?_
  refine zz4 7 rfl (zz2 (off := 1) (ft := 141) rfl cU rfl fJ) ?_
  refine jk 8 rfl (by kernel_rfl) (aT (jG cL)) (eQ rfl hcw5 fM (by rfl)) ?_
  refine dw [4, 11] (fun iq hq => ?_)
  rcases List.mem_cons.1 hq with rfl | hq
  ·skip
   refine bF rfl ?_
   refine eB (fun V : Value => V) (fun V => [rowE V 23 al (fQ (s.unk.map (·.1)))]) (ok := fun _ => True) (hdr5) rfl lq (fun w hw => jM s.unk b7 w (hmU5.mono hw.bg) (by omega)) rfl (fun V28 _ => ?_)
   refine iC (V := V28) (fun pu cu hpv => ?_)
   subst hpv
   refine bV ?_
   refine dw [9, 11] (fun iq hq => ?_)
   rcases List.mem_cons.1 hq with rfl | hq
   ·skip
    refine bF rfl ?_
    refine eB (fun V : Value => V) (fun V => [rowE V 23 al (fQ (s.bad.map (·.1)))]) (ok := fun _ => True) (hdr5) rfl lq (fun w hw => jM s.bad b5 w (hmB5.mono hw.bg) (by omega)) rfl (fun V29 _ => ?_)
    refine iC (V := V29) (fun pb cb hpv => ?_)
    subst hpv
    refine bV ?_
    refine jk 10 rfl (by kernel_rfl) (aT (jG cL)) (bK (vs := [(2, _), (3, _)]) (cs := #[.slice none 0 0, .slice none 0 0, .slice pu (fQ (s.unk.map (·.1))).length cu, .slice pb (fQ (s.bad.map (·.1))).length cb]) rfl rfl (by kernel_rfl)) ?_
    refine dw [11] (fun iq hq => ?_)
    obtain rfl := List.mem_singleton.1 hq
    refine bF rfl ?_
    refine dC d5 rfl (fun b19 => ?_)
    refine bV ?_
    refine dw [12] (fun iq hq => ?_)
    obtain rfl := List.mem_singleton.1 hq
    refine bF rfl ?_
    refine zz5 rfl rfl cn ?_
    refine bV ?_
    refine iz ?_
    refine ac ?_
    refine co (_, _, _) (Front.c Front.nil) (zz8 12 rfl) (o := trivial)
   obtain rfl := List.mem_singleton.1 hq
   refine bF rfl ?_
   refine dC d5 rfl (fun b20 => ?_)
   refine bV ?_
   refine dw [9] (fun iq hq => ?_)
   obtain rfl := List.mem_singleton.1 hq
   refine bF rfl ?_
   refine eB (fun V : Value => V) (fun V => [rowE V 23 al (fQ (s.bad.map (·.1)))]) (ok := fun _ => True) (hdr5) rfl lq (fun w hw => jM s.bad b5 w (hmB5.mono hw.bg) (by omega)) rfl (fun V29 _ => ?_)
   refine iC (V := V29) (fun pb cb hpv => ?_)
   subst hpv
   refine bV ?_
   refine jk 10 rfl (by kernel_rfl) (aT (jG cL)) (bK (vs := [(2, _), (3, _)]) (cs := #[.slice none 0 0, .slice none 0 0, .slice pu (fQ (s.unk.map (·.1))).length cu, .slice pb (fQ (s.bad.map (·.1))).length cb]) rfl rfl (by kernel_rfl)) ?_
   refine dw [12] (fun iq hq => ?_)
   obtain rfl := List.mem_singleton.1 hq
   refine bF rfl ?_
   refine zz5 rfl rfl cn ?_
   refine bV ?_
   refine iz ?_
   refine ac ?_
   refine co (_, _, _) (Front.c Front.nil) (zz8 12 rfl) (o := trivial)
  obtain rfl := List.mem_singleton.1 hq
  refine bF rfl ?_
  refine dC d5 rfl (fun b21 => ?_)
  refine bV ?_
  refine dw [4] (fun iq hq => ?_)
  obtain rfl := List.mem_singleton.1 hq
  refine bF rfl ?_
  refine eB (fun V : Value => V) (fun V => [rowE V 23 al (fQ (s.unk.map (·.1)))]) (ok := fun _ => True) (hdr5) rfl lq (fun w hw => jM s.unk b7 w (hmU5.mono hw.bg) (by omega)) rfl (fun V28 _ => ?_)
  refine iC (V := V28) (fun pu cu hpv => ?_)
  subst hpv
  refine bV ?_
  refine dw [9] (fun iq hq => ?_)
  obtain rfl := List.mem_singleton.1 hq
  refine bF rfl ?_
  refine eB (fun V : Value => V) (fun V => [rowE V 23 al (fQ (s.bad.map (·.1)))]) (ok := fun _ => True) (hdr5) rfl lq (fun w hw => jM s.bad b5 w (hmB5.mono hw.bg) (by omega)) rfl (fun V29 _ => ?_)
  refine iC (V := V29) (fun pb cb hpv => ?_)
  subst hpv
  refine bV ?_
  refine jk 10 rfl (by kernel_rfl) (aT (jG cL)) (bK (vs := [(2, _), (3, _)]) (cs := #[.slice none 0 0, .slice none 0 0, .slice pu (fQ (s.unk.map (·.1))).length cu, .slice pb (fQ (s.bad.map (·.1))).length cb]) rfl rfl (by kernel_rfl)) ?_
  refine dw [12] (fun iq hq => ?_)
  obtain rfl := List.mem_singleton.1 hq
  refine bF rfl ?_
  refine zz5 rfl rfl cn ?_
  refine bV ?_
  refine iz ?_
  refine ac ?_
  refine co (_, _, _) (Front.c Front.nil) (zz8 12 rfl) (o := trivial)
 obtain ⟨Vu, Vb, bc⟩ := i
 replace hi : True := hi
 change Tr _ _ [cellE bc [.slice none 0 0, .slice none 0 0, Vu, Vb] 52, rowE Vu 23 al (fQ (s.unk.map (·.1))), rowE Vb 23 al (fQ (s.bad.map (·.1))), cellE b1 [.slice none 0 0, .slice none 0 0, .slice none 0 0, .slice none 0 0] 52] ([(21, .pointer (some ⟨bc, 0, none⟩))] ++ _) _
 refine an (ah (zz0 (aa rfl) (zz0 (bh rfl) ?_)))
 refine zz0 (zz2 (off := 0) (ft := 140) rfl cU rfl jc) ?_
 refine zz0 (eQ rfl hcw5 iS (by rfl)) ?_
 refine v7 (fun i : Nat => .func (.func 142) #[] #[.pointer (some ⟨i, 0, none⟩)]) (R := fun h i => CellsIn h i [.map (some b4)]) (fun h h' i hh r => r.mono hh) rfl Tryz.call72 (fun w hw => D5 b4 w) rfl (fun i9 F9 hF9 hR9 => ?_)
 have hmI9 := hmI5.mono hF9.blk
 have hmB9 := hmB5.mono hF9.blk
 have hcw9 := hcw5.mono hF9.blk
 refine eB (fun V : Value => V) (fun V => [rowE V 23 al (fQ (s.ins.map (·.1)))]) (ok := fun _ => True) (hF9.dr.trans hdr5) rfl Tryz.call71 (fun w hw => tI _ _ (s.ins.map (·.1)) s.ins.length (by omega) Tryz.call142 (by rw [List.length_map]; omega) w (uk b4 i9 w (hmI9.mono hw.bg) (hR9.mono hw.bg))) rfl (fun V30 _ => ?_)
 obtain ⟨ks, hks⟩ : ∃ ks, ks = fQ (s.ins.map (·.1)) := ⟨_, rfl⟩
 rw [← hks]
 refine zz0 (lQ rfl af) ?_
 refine zz0 (aa rfl) (ad (aF (bZ 36 aM ?_)))
 refine bL (ι := Nat × Value) (fun ⟨k, Vi⟩ => k ≤ ks.length) (fun _ => _) (fun ⟨k, Vi⟩ => [rowE V30 23 al ks, cellE bc [Vi, .slice none 0 0, Vu, Vb] 52, rowE Vi 36 aM ((ks.take k).map fun a => (atP l a).1), rowE Vu 23 al (fQ (s.unk.map (·.1))), rowE Vb 23 al (fQ (s.bad.map (·.1))), cellE b1 [.slice none 0 0, .slice none 0 0, .slice none 0 0, .slice none 0 0] 52]) (fun ⟨k, Vi⟩ => [(144, .int .i64 (k : Nat))]) (fun ⟨k, Vi⟩ => ks.length - k) (0, _) (Nat.zero_le _) (Front.c Front.nil) (by repeat' constructor) rfl (fun i hi m hm => ?_)
 obtain ⟨k, Vi⟩ := i
 replace hi : k ≤ ks.length := hi
 replace hm : m = ks.length - k := hm
 change Tr _ _ [rowE V30 23 al ks, cellE bc [Vi, .slice none 0 0, Vu, Vb] 52, rowE Vi 36 aM ((ks.take k).map fun a => (atP l a).1), rowE Vu 23 al (fQ (s.unk.map (·.1))), rowE Vb 23 al (fQ (s.bad.map (·.1))), cellE b1 [.slice none 0 0, .slice none 0 0, .slice none 0 0, .slice none 0 0] 52] ([(144, .int .i64 (k : Nat))] ++ _) _
 have hksl : ks.length ≤ 600 := by rw [hks, qx, List.length_map]; omega
 have hkml : ((ks.take k).map fun a => (atP l a).1).length ≤ 600 := by rw [List.length_map, List.length_take]; omega
 refine ah (zz0 (bT rfl rfl) (ad (an ?_)))
 refine au rfl ?_ ?_ <;> intro h22 <;> try simp only [bs] at h22
 ·refine bC (an (aF (ah (zz0 (zz7 rfl rfl af ae) ?_))))
  refine zz0 (er rfl am) ?_
  refine zz0 (ab rfl) (ad ?_)
  have hga : (dI s.ins (ks.getD k default)).getD cp = (atP l (ks.getD k default)).1 := G3 hinv (by rw [← mX, ← hks]; exact df (by omega))
  refine dU ([cellE b1 [.slice none 0 0, .slice none 0 0, .slice none 0 0, .slice none 0 0] 52]) 12 rfl aP ?_
  refine zz4 0 rfl (zz2 (off := 0) (ft := 50) rfl bY rfl cY) ?_
  refine zz4 2 rfl (aa rfl) ?_
  refine zz4 3 rfl (bh rfl) ?_
  refine zz4 4 rfl (zz2 (off := 0) (ft := 140) rfl cU rfl jc) ?_
  refine jk 5 rfl (by kernel_rfl) (cN (aT (aT (cN (aT (jG cL)))))) (eQ rfl hcw9 iS (by rfl)) ?_
  refine zz4 6 rfl (aa rfl) ?_
  refine dw [1, 7] (fun iq hq => ?_)
  rcases List.mem_cons.1 hq with rfl | hq
  ·skip
   refine bF rfl ?_
   refine zz0 (aH rfl dq) ?_
   refine bV ?_
   refine dw [7] (fun iq hq => ?_)
   obtain rfl := List.mem_singleton.1 hq
   refine bF rfl ?_
   refine zz0 (wc rfl rfl (by assumption) fE aS bR (by rfl)) ?_
   rw [hga]
   refine bV ?_
   refine dw [8] (fun iq hq => ?_)
   obtain rfl := List.mem_singleton.1 hq
   refine bF rfl ?_
   refine iG (E := aM) (atP l (ks.getD k default)).1 rfl rfl aL ax bR (fun V23 => ?_)
   refine bV ?_
   refine dw [9] (fun iq hq => ?_)
   obtain rfl := List.mem_singleton.1 hq
   refine bF rfl ?_
   refine zz1 rfl rfl aL j7 (fun V24 => ?_)
   refine du (.head _) (fun pi ci hpv => ?_)
   subst hpv
   refine bV ?_
   refine zz4 10 rfl (zz2 (off := 0) (ft := 50) rfl bY rfl cY) ?_
   refine dw [11] (fun iq hq => ?_)
   obtain rfl := List.mem_singleton.1 hq
   refine bF rfl ?_
   refine zz3 (cs' := [_, _, _, _]) rfl rfl cY rfl ?_
   refine bV ?_
   refine iz ?_
   refine aY (ac (ar (zz0 (cB rfl rfl) ?_)))
   refine zz0 (aa rfl) (ad ?_)
   rw [mn (fun a => (atP l a).1) (by omega)]
   refine cK (k + 1, _) (Front.c Front.nil) (zz8 18 rfl) (o := (by show k + 1 ≤ _; omega))
  obtain rfl := List.mem_singleton.1 hq
  refine bF rfl ?_
  refine zz0 (wc rfl rfl (by assumption) fE aS bR (by rfl)) ?_
  rw [hga]
  refine bV ?_
  refine dw [1, 8] (fun iq hq => ?_)
  rcases List.mem_cons.1 hq with rfl | hq
  ·skip
   refine bF rfl ?_
   refine zz0 (aH rfl dq) ?_
   refine bV ?_
   refine dw [8] (fun iq hq => ?_)
   obtain rfl := List.mem_singleton.1 hq
   refine bF rfl ?_
   refine iG (E := aM) (atP l (ks.getD k default)).1 rfl rfl aL ax bR (fun V25 => ?_)
   refine bV ?_
   refine dw [9] (fun iq hq => ?_)
   obtain rfl := List.mem_singleton.1 hq
   refine bF rfl ?_
   refine zz1 rfl rfl aL j7 (fun V26 => ?_)
   refine du (.head _) (fun pi ci hpv => ?_)
   subst hpv
   refine bV ?_
   refine zz4 10 rfl (zz2 (off := 0) (ft := 50) rfl bY rfl cY) ?_
   refine dw [11] (fun iq hq => ?_)
   obtain rfl := List.mem_singleton.1 hq
   refine bF rfl ?_
   refine zz3 (cs' := [_, _, _, _]) rfl rfl cY rfl ?_
   refine bV ?_
   refine iz ?_
   refine aY (ac (ar (zz0 (cB rfl rfl) ?_)))
   refine zz0 (aa rfl) (ad ?_)
   rw [mn (fun a => (atP l a).1) (by omega)]
   refine cK (k + 1, _) (Front.c Front.nil) (zz8 18 rfl) (o := (by show k + 1 ≤ _; omega))
  obtain rfl := List.mem_singleton.1 hq
  refine bF rfl ?_
  refine iG (E := aM) (atP l (ks.getD k default)).1 rfl rfl aL ax bR (fun V27 => ?_)
  refine bV ?_
  refine dw [1] (fun iq hq => ?_)
  obtain rfl := List.mem_singleton.1 hq
  refine bF rfl ?_
  refine zz0 (aH rfl dq) ?_
  refine bV ?_
  refine dw [9] (fun iq hq => ?_)
  obtain rfl := List.mem_singleton.1 hq
  refine bF rfl ?_
  refine zz1 rfl rfl aL j7 (fun V28 => ?_)
  refine du (.head _) (fun pi ci hpv => ?_)
  subst hpv
  refine bV ?_
  refine zz4 10 rfl (zz2 (off := 0) (ft := 50) rfl bY rfl cY) ?_
  refine dw [11] (fun iq hq => ?_)
  obtain rfl := List.mem_singleton.1 hq
  refine bF rfl ?_
  refine zz3 (cs' := [_, _, _, _]) rfl rfl cY rfl ?_
  refine bV ?_
  refine iz ?_
  refine aY (ac (ar (zz0 (cB rfl rfl) ?_)))
  refine zz0 (aa rfl) (ad ?_)
  rw [mn (fun a => (atP l a).1) (by omega)]
  refine cK (k + 1, _) (Front.c Front.nil) (zz8 18 rfl) (o := (by show k + 1 ≤ _; omega))
 refine bJ (aG (aG (bj (ac (an (an ?_))))))
 obtain rfl : k = ks.length := by omega
 rw [List.take_length]
 refine ar (zz0 (aa rfl) (zz0 (bh rfl) ?_))
 refine zz0 (zz2 (off := 2) (ft := 141) rfl cU rfl fJ) ?_
 refine zz0 (eQ rfl hcw9 fM (by rfl)) ?_
 refine eB (fun V : Value => V) (fun V => [rowE V 23 al (fQ (s.ents.map (·.1)))]) (ok := fun _ => True) (hF9.dr.trans hdr5) rfl lq (fun w hw => jM s.ents b6 w ((hmE5.mono hF9.blk).mono hw.bg) (by omega)) rfl (fun V31 _ => ?_)
 obtain ⟨se, hse⟩ : ∃ se, se = fQ (s.ents.map (·.1)) := ⟨_, rfl⟩
 rw [← hse]
 refine zz0 (lQ rfl af) ?_
 refine zz0 (aa rfl) (ad (aF (bZ 23 al ?_)))
 refine bL (ι := Nat × Value) (fun ⟨j, Ve⟩ => j ≤ se.length) (fun _ => _) (fun ⟨j, Ve⟩ => [rowE V31 23 al se, cellE bc [Vi, Ve, Vu, Vb] 52, rowE Ve 23 al ((se.take j).filter fun a => (dI s.ins a).isSome), rowE Vi 36 aM ((ks).map fun a => (atP l a).1), rowE Vu 23 al (fQ (s.unk.map (·.1))), rowE Vb 23 al (fQ (s.bad.map (·.1))), cellE b1 [.slice none 0 0, .slice none 0 0, .slice none 0 0, .slice none 0 0] 52]) (fun ⟨j, Ve⟩ => [(166, .int .i64 (j : Nat))]) (fun ⟨j, Ve⟩ => se.length - j) (0, _) (Nat.zero_le _) (Front.c Front.nil) (by repeat' constructor) rfl (fun i hi m hm => ?_)
 obtain ⟨j, Ve⟩ := i
 replace hi : j ≤ se.length := hi
 replace hm : m = se.length - j := hm
 change Tr _ _ [rowE V31 23 al se, cellE bc [Vi, Ve, Vu, Vb] 52, rowE Ve 23 al ((se.take j).filter fun a => (dI s.ins a).isSome), rowE Vi 36 aM ((ks).map fun a => (atP l a).1), rowE Vu 23 al (fQ (s.unk.map (·.1))), rowE Vb 23 al (fQ (s.bad.map (·.1))), cellE b1 [.slice none 0 0, .slice none 0 0, .slice none 0 0, .slice none 0 0] 52] ([(166, .int .i64 (j : Nat))] ++ _) _
 have hsel : se.length ≤ 50000 := by rw [hse, qx, List.length_map]; omega
 have hfl : ((se.take j).filter fun a => (dI s.ins a).isSome).length ≤ 50000 := Nat.le_trans (List.length_filter_le _ _) (by rw [List.length_take]; omega)
 refine ah (zz0 (bT rfl rfl) (ad (an ?_)))
 refine au rfl ?_ ?_ <;> intro h29 <;> try simp only [bs] at h29
 ·refine bC (an (aF (ah (zz0 (zz7 rfl rfl af ae) ?_))))
  refine zz0 (er rfl am) ?_
  refine zz0 (ab rfl) (aI (zz0 (aa rfl) (zz0 (bh rfl) ?_)))
  refine zz0 (zz2 (off := 0) (ft := 140) rfl cU rfl jc) ?_
  refine zz0 (eQ rfl hcw9 iS (by rfl)) ?_
  refine zz0 (aa rfl) (zz0 (zo rfl rfl (by assumption) fE aS bR (by rfl)) ?_)
  refine zz0 (aa rfl) (zz0 (aN rfl rfl) (zz0 (aN rfl rfl) ?_))
  refine dC bR rfl (fun b30 => ?_)
  refine aB aM rfl rfl ax ?_
  refine zz0 (ab rfl) (aI (zz0 (aa rfl) (ad ?_)))
  refine au rfl ?_ ?_ <;> intro h31 <;> try simp only [bs] at h31
  ·refine ar (zz0 (zz2 (off := 1) (ft := 31) rfl bY rfl cg) ?_)
   refine zz0 (aH rfl dl) ?_
   refine zz0 (aa rfl) ?_
   refine iG (E := al) (se.getD j default) rfl rfl af ae cC (fun V32 => ?_)
   refine zz1 rfl rfl af eS (fun V33 => ?_)
   refine du (.head _) (fun pe ce hpv => ?_)
   subst hpv
   refine zz0 (zz2 (off := 1) (ft := 31) rfl bY rfl cg) ?_
   refine zz3 (cs' := [_, _, _, _]) rfl rfl cg rfl ?_
   refine aD (aY (ac (ar (zz0 (cB rfl rfl) ?_))))
   refine zz0 (aa rfl) (ad ?_)
   rw [sX (p := fun a => (dI s.ins a).isSome) (by omega) (by assumption)]
   refine cK (j + 1, _) (Front.c Front.nil) (zz8 25 rfl) (o := (by show j + 1 ≤ _; omega))
  refine cd (aY (ac (ar (zz0 (cB rfl rfl) ?_))))
  refine zz0 (aa rfl) (ad ?_)
  rw [uo (p := fun a => (dI s.ins a).isSome) (by omega) (by simp_all)]
  refine cK (j + 1, _) (Front.c Front.nil) (zz8 19 rfl) (o := (by show j + 1 ≤ _; omega))
 refine bJ (aG (aG (bj (ac (an ?_)))))
 obtain rfl : j = se.length := by omega
 rw [List.take_length]
 refine iC (V := Vi) (fun pVi cVi hpv => ?_)
 subst hpv
 refine iC (V := Ve) (fun pVe cVe hpv => ?_)
 subst hpv
 refine iC (V := Vu) (fun pVu cVu hpv => ?_)
 subst hpv
 refine iC (V := Vb) (fun pVb cVb hpv => ?_)
 subst hpv
 refine ar (zz0 (bG rfl fF cn) ?_)
 refine zz5 rfl rfl cn ?_
 refine zz0 (ab rfl) (ad (aC (fG ?_)))
 refine kG Tryz.results28 rfl rfl fF cn (fun w' hw => ?_)
 rw [← hks, ← hse] at hcode
 exact ⟨((_, _, _, _), ⟨_, _, _, _⟩, 0), rfl, hw.below0 (hF1.trans (hF15.trans hF9)), hw.ents0 (hF1.trans (hF15.trans hF9)).lo (by repeat' constructor), .ok hl (by simp_all) rfl hcode⟩
end Go.Proofs.YtiajjbhcpeadfaaGreat
namespace Go.HL
open Go Go.Sort
open Go.Proofs (ltOf)
def ltA (x y : Ins) : Bool := decide (x.addr < y.addr)
theorem A5 (x : Ins) : ltA x x = false := by simp [ltA]
theorem D3 (x y z : Ins) (h1 : ltA x y = true) (h2 : ltA y z = true) : ltA x z = true := by
 simp only [ltA, decide_eq_true_eq, UInt32.lt_iff_toNat_lt] at *; omega
theorem wN {l : List Ins} {a : UInt32} : inK l a = true ↔ ∃ x ∈ l, x.addr = a := by
 unfold inK; rw [List.any_eq_true]; simp
def rc (l : List Ins) : Prop := l.Pairwise fun a b => a.addr ≠ b.addr
theorem yW : ∀ (xs out : List Ins), rc out → rc (xs.foldl gX out)
 | [], out, h => h
 | x :: t, out, h => by
  rw [List.foldl_cons]
  apply yW
  unfold gX
  split
  ·rename_i c
   simp only [Bool.and_eq_true, Bool.not_eq_true', decide_eq_true_eq] at c
   refine List.pairwise_append.2 ⟨h, by simp, fun a ha b hb => ?_⟩
   simp at hb; subst hb
   intro q
   have := wN.2 ⟨a, ha, q⟩
   rw [c.1] at this; cases this
  ·exact h
theorem vN {l m : List Ins} (h : l.Perm m) (hd : rc l) : rc m := (h.pairwise_iff fun {a b} q => Ne.symm q).1 hd
theorem tJ {l : List Ins} (hd : rc l) : (lT (ltOf k7) l).Pairwise (fun a b => ltA a b = true) ∧ ∀ x, x ∈ lT (ltOf k7) l ↔ x ∈ l := by
 have hp := ny kr l
 have hs := wt kr l
 have hd' := vN hp.symm hd
 refine ⟨?_, fun x => hp.mem_iff⟩
 refine (hs.and hd').imp fun {a b} ⟨h1, h2⟩ => ?_
 rw [o5] at h1
 simp only [ltA, decide_eq_true_eq, decide_eq_false_iff_not, UInt32.lt_iff_toNat_lt] at *
 have : a.addr.toNat ≠ b.addr.toNat := fun q => h2 (UInt32.toNat_inj.1 q)
 omega
theorem yO (l : List Ins) : (fu l).Pairwise (fun a b => ltA a b = true) ∧ ∀ x, x ∈ fu l ↔ x ∈ sa l := tJ (yW l [] .nil)
theorem sp {l : List Ins} (h : l.Pairwise fun a b => ltA a b = true) : rc l := h.imp fun {a b} q e => by
 simp only [ltA, decide_eq_true_eq, UInt32.lt_iff_toNat_lt] at q; rw [e] at q; omega
theorem Af (l : List Ins) : rc (fu l) := sp (yO l).1
theorem yV : ∀ (xs out : List Ins), rc (out ++ xs) → (∀ y ∈ xs, iM y = 0) → xs.foldl gX out = out ++ xs
 | [], out, _, _ => by simp
 | x :: t, out, hd, hv => by
  have hn : inK out x.addr = false := by
   cases c : inK out x.addr
   ·rfl
   ·obtain ⟨y, hy, e⟩ := wN.1 c
    exact absurd e ((List.pairwise_append.1 hd).2.2 y hy x (.head _))
  have e : gX out x = out ++ [x] := by unfold gX; rw [hn, hv x (.head _)]; simp
  rw [List.foldl_cons, e, yV t (out ++ [x]) (by rw [List.append_assoc]; exact hd) (fun y hy => hv y (.tail _ hy)), List.append_assoc]; rfl
theorem Ae {l : List Ins} (hd : rc l) (hv : ∀ y ∈ l, iM y = 0) : fu l = lT (ltOf k7) l := by
 unfold fu sa; rw [yV l [] hd hv]; rfl
theorem DO {g : Ins → Int} (hg : ∀ i, g i = 0 ∨ g i = 1 ∨ g i = 2) {l : List Ins} (h : rc l) : rc (dX g l) := vN (qL hg l).1.1 h
theorem rP : ∀ (xs out : List Ins), rc (out ++ xs) → rc (xs.foldl gn out)
 | [], out, h => by simpa using h
 | x :: t, out, h => by
  rw [List.foldl_cons]
  unfold gn
  split
  ·refine rP t out (h.sublist ?_)
   exact (List.Sublist.refl out).append (List.sublist_cons_self x t)
  ·exact rP t (out ++ [x]) (by rw [List.append_assoc]; exact h)
end Go.HL
namespace Go.HL
open Go Go.Sort
open Go.Proofs (ltOf)
theorem yu : ∀ (xs out : List Ins), (∀ a ∈ out ++ xs, ∀ b ∈ out ++ xs, jq a b = false) → xs.foldl gn out = out ++ xs
 | [], out, _ => by simp
 | x :: t, out, h => by
  have c : ¬ out.any (jq x) = true := fun q => by
   obtain ⟨y, hy, q⟩ := List.any_eq_true.1 q
   rw [h x (by simp) y (by simp [hy])] at q; cases q
  rw [List.foldl_cons, gn, if_neg c, yu t (out ++ [x]) (by simpa using h)]; simp
theorem qH {ins : List Ins} {ents unk bad : List UInt32} {x : Ins} : x ∈ (gl ins ents unk bad).kept ↔ x ∈ kT (dX (fN ents (qp (fu ins))) (fu ins)) :=
 (ny kr _).mem_iff
theorem Dv (ins : List Ins) (ents : List UInt32) : rc (kT (dX (fN ents (qp (fu ins))) (fu ins))) :=
 rP _ [] (by simpa using DO (lp ents (qp (fu ins))) (Af ins))
theorem tO (ins : List Ins) (ents unk bad : List UInt32) : (gl ins ents unk bad).kept.Pairwise fun a b => ltA a b = true := (tJ (Dv ins ents)).1
theorem GP {ins : List Ins} {ents unk bad : List UInt32} {x : Ins} (h : x ∈ (gl ins ents unk bad).kept) : x ∈ fu ins := A1 (yr (qH.1 h))
theorem wA {g : Ins → Int} (hg : ∀ i, g i = 0 ∨ g i = 1 ∨ g i = 2) {l : List Ins} {x : Ins} : x ∈ dX g l ↔ x ∈ l := (qL hg l).1.1.mem_iff.symm
theorem Fq {ins : List Ins} {ents unk bad : List UInt32} (h : ∀ a ∈ fu ins, ∀ b ∈ fu ins, jq a b = false) : (gl ins ents unk bad).kept = fu ins ∧ (gl ins ents unk bad).rem = [] := by
 have hg := lp ents (qp (fu ins))
 have e1 : kT (dX (fN ents (qp (fu ins))) (fu ins)) = dX (fN ents (qp (fu ins))) (fu ins) := by
  unfold kT
  rw [yu _ [] (fun a ha b hb => h a ((wA hg).1 (by simpa using ha)) b ((wA hg).1 (by simpa using hb)))]; rfl
 have e2 : (gl ins ents unk bad).kept = fu ins := wu A5 D3 _ _ (tO ins ents unk bad) (yO ins).1 fun x => by rw [qH, e1, wA hg]
 refine ⟨e2, ?_⟩
 show mV (fu ins) (gl ins ents unk bad).kept = []
 rw [e2]
 unfold mV
 rw [List.map_eq_nil_iff, List.filter_eq_nil_iff]
 intro x hx
 rw [wN.2 ⟨x, hx, rfl⟩]; simp
end Go.HL
namespace Go.HL
open Go Go.Sort
end Go.HL
namespace Go.HL
open Go Go.Sort
end Go.HL
namespace Go.HL
open Go Go.Sort
open Go.Proofs (ltOf)
def nV (p : Nat → Prop) : List Nat → Prop
 | [] => True
 | x :: t => p x ∧ nV p t
theorem nV.nil {p : Nat → Prop} : nV p [] := trivial
theorem nV.cons {p : Nat → Prop} {x : Nat} {t : List Nat} (h : p x) (k : nV p t) : nV p (x :: t) := ⟨h, k⟩
theorem nV.all {p : Nat → Prop} : ∀ {l : List Nat}, nV p l → ∀ i ∈ l, p i
 | _ :: _, h, i, hi => by
  rcases List.mem_cons.1 hi with rfl | hi
  ·exact h.1
  ·exact nV.all h.2 i hi
section
variable {P : Program} {N : Nat} {F : Bg} {L : List Ent} {M : Fr} {ops : Array Oper} {Q : Exit → Act → World → Prop} {fuel : Nat} {listed : Array Bool}
def mY (n m : Nat) : Array Bool := (Array.range n).map fun i => m.testBit i
structure Tr.AnyG (P : Program) (N : Nat) (F : Bg) (L : List Ent) (M : Fr) (ops : Array Oper) (Q : Exit → Act → World → Prop) (S : World → Prop) (fuel n m : Nat) : Prop where
 get : Tr N F L M (wpAnyH P .any ops Q S fuel (mY n m))
structure Tr.OpG (P : Program) (N : Nat) (F : Bg) (L : List Ent) (M : Fr) (ops : Array Oper) (Q : Exit → Act → World → Prop) (S : World → Prop) (fuel n m i : Nat) : Prop where
 get : Tr N F L M (fun a w => wpOp P ops Q i (fun a' w' => S w' ∧ wpAnyH P .any ops Q S fuel ((mY n m).setIfInBounds i true) a' w') a w)
theorem Hu {S : World → Prop} (n : Nat) (k : Tr.AnyG P N F L M ops Q S fuel n 0) (e : listed = mY n 0 := by decide +kernel) : Tr N F L M (wpAnyH P .any ops Q S fuel listed) := by
 subst e; exact k.get
theorem gu {S : World → Prop} {n : Nat} (m : Nat) (k : Tr.AnyG P N F L M ops Q S fuel n m) : Tr.AnyG P N F L M ops Q S fuel n m := k
theorem ma {S : World → Prop} {n m : Nat} (i : Nat) (k : Tr.OpG P N F L M ops Q S fuel n m i) : Tr.OpG P N F L M ops Q S fuel n m i := k
theorem oS {S : World → Prop} {n m : Nat} {o : Oper} {i : Nat} (hi : ops[i]? = some o) (h : Tr N F L M (wpList P ops (Exit.then (fun a' w' => S w' ∧ wpAnyH P .any ops Q S fuel (mY n (m + 2 ^ i)) a' w') Q) [o]))
  (e : (mY n m).setIfInBounds i true = mY n (m + 2 ^ i) := by decide +kernel) : Tr.OpG P N F L M ops Q S fuel n m i := ⟨by rw [e]; exact bF hi h⟩
theorem Gj {S : World → Prop} {n m : Nat} (rs : List Nat) (hr : Region.ready .any ops (mY n m) = rs) (h : nV (fun i => Tr.OpG P N F L M ops Q S fuel n m i) rs)
  (hne : rs ≠ [] := by simp) : Tr.AnyG P N F L M ops Q S (fuel + 1) n m := ⟨xp rs hr hne fun i hi => (nV.all h i hi).get⟩
theorem lP {S : World → Prop} {n m : Nat} (rs : List Nat) (h : nV (fun i => Tr.OpG P N F L M ops Q S fuel n m i) rs) (hr : Region.ready .any ops (mY n m) = rs := by kernel_rfl) (hne : rs ≠ [] := by simp) : Tr.AnyG P N F L M ops Q S (fuel + 1) n m := Gj rs hr h hne
theorem EU {S : World → Prop} {n m : Nat} (hr : Region.ready .any ops (mY n m) = []) (h : Tr N F L M (Q .normal)) : Tr.AnyG P N F L M ops Q S fuel n m := ⟨zk hr h⟩
variable {L0 : List Ent} {op : Op} {ty : TypeId} {pos : String} {after : Array Edge} {d : Nat}
theorem sM {n m : Nat} (k : Tr.AnyG P N F L M ops Q (HpOK F L0) fuel n m) (hL : Pick L L0 := by repeat' (first | exact Pick.nil _ | exact Del.here _ | apply Pick.cons | apply Del.there)) :
  Tr N F L M (wpList P ops (Exit.then (fun a w => HpOK F L0 w ∧ wpAnyH P .any ops Q (HpOK F L0) fuel (mY n m) a w) Q) []) := zj hL k.get
theorem sL {v : Value} {n m : Nat} (i : Nat) (hi : ops[i]? = some ⟨some d, op, ty, pos, after, none⟩) (hB : takeB ops (mY n m) i = true) (hQ : ∀ c a d v w, Q (.panic c) (a.put d v) w → Q (.panic c) a w)
  (h : QS P N F L0 M ⟨some d, op, ty, pos, after, none⟩ v) (k : Tr.AnyG P N F L ((d, v) :: M) ops Q (HpOK F L0) fuel n (m + 2 ^ i))
  (e : (mY n m).setIfInBounds i true = mY n (m + 2 ^ i) := by decide +kernel)
  (hp : kY op = true := by rfl) (hd : Nat.ble (d + 1) N = true := by rfl) (hL : Pick L L0 := by repeat' (first | exact Pick.nil _ | exact Del.here _ | apply Pick.cons | apply Del.there)) :
  Tr.AnyG P N F L M ops Q (HpOK F L0) (fuel + 1) n m := ⟨zi i hi hB hQ hp h hL hd (by rw [e]; exact k.get)⟩
end
def kS (r : RV UInt32) : TabV := ⟨r.data, r.dp, r.dc⟩
theorem C7 {h : Hp} {rs : List (RV UInt32)} {V : Value} (s : Sl h dh rs V) : Sl h fR (rs.map kS) V := by
 obtain ⟨⟨a, c, h1, h2, h3, h4⟩, hc⟩ := s
 refine ⟨⟨a, c, by rw [List.length_map]; exact h1, by rw [List.length_map]; exact h2, h3, fun e => h4 (fun q => e (by rw [q]; rfl))⟩, fun i x hx => ?_⟩
 rw [List.getElem?_map] at hx
 cases hr : rs[i]? with
 | none => rw [hr] at hx; cases hx
 | some r =>
  rw [hr] at hx
  simp only [Option.map_some, Option.some.injEq] at hx
  subst hx
  exact hc i r hr
theorem C9 {h : Hp} {rs : List (RV UInt32)} (s : RvIn al h rs) : TabIn h (rs.map kS) := fun t ht => by
 obtain ⟨r, hr, rfl⟩ := List.mem_map.1 ht
 exact s r hr
def jZ (ins : List Ins) (ls : List (List UInt32)) : List UInt32 := ls.flatMap fun t => t.filter (inK ins)
def jo (ins : List Ins) (ents : List UInt32) (ts : List (List UInt32)) : List UInt32 := fh (fQ (jZ ins (ents :: ts)))
def kt (ins : List Ins) (ls : List TabV) (k j : Nat) : List UInt32 := jZ ins ((ls.map (·.data)).take k) ++ (((ls.map (·.data)).getD k []).take j).filter (inK ins)
theorem zI (ins : List Ins) (ls : List TabV) {k : Nat} (hk : k < ls.length) {j : Nat} (hj : ((ls.map (·.data)).getD k []).length ≤ j) : kt ins ls k j = kt ins ls (k + 1) 0 := by
 unfold kt jZ
 rw [List.take_of_length_le hj, show (k + 1 : Nat) = k + 1 from rfl, dB (l := ls.map (·.data)) (k := k) (by rw [List.length_map]; exact hk), List.flatMap_append]
 simp
 rfl
theorem BX {ins : List Ins} {ls : List TabV} {k j : Nat} (hj : j < (ls.getD k default).data.length) (h : inK ins ((ls.getD k default).data.getD j default) = true) : kt ins ls k (j + 1) = kt ins ls k j ++ [(ls.getD k default).data.getD j default] := by
 have e : (ls.map (·.data)).getD k [] = (ls.getD k default).data := by
  simp only [List.getD_eq_getElem?_getD, List.getElem?_map]
  cases ls[k]? <;> rfl
 unfold kt
 rw [e, dB hj, List.filter_append, List.filter_cons, if_pos h, List.filter_nil, List.append_assoc]
theorem Ds {ins : List Ins} {ls : List TabV} {k j : Nat} (hj : j < (ls.getD k default).data.length) (h : inK ins ((ls.getD k default).data.getD j default) = false) : kt ins ls k (j + 1) = kt ins ls k j := by
 have e : (ls.map (·.data)).getD k [] = (ls.getD k default).data := by
  simp only [List.getD_eq_getElem?_getD, List.getElem?_map]
  cases ls[k]? <;> rfl
 unfold kt
 rw [e, dB hj, List.filter_append, List.filter_cons, if_neg (by rw [h]; simp), List.filter_nil, List.append_nil]
theorem nz (ins : List Ins) : ∀ {ls : List (List UInt32)} {n : Nat}, (∀ t ∈ ls, t.length ≤ n) → (jZ ins ls).length ≤ ls.length * n
 | [], n, _ => by simp [jZ]
 | t :: ls, n, h => by
  have ih := nz ins (ls := ls) (n := n) fun x hx => h x (.tail _ hx)
  have h1 := h t (.head _)
  have h2 := List.length_filter_le (inK ins) t
  unfold jZ at *
  rw [List.flatMap_cons, List.length_append, List.length_cons, Nat.add_mul]
  omega
theorem BY {ins : List Ins} {ls : List TabV} {k j n : Nat} (h : ∀ t ∈ ls, t.data.length ≤ n) (hk : k < ls.length) : (kt ins ls k j).length ≤ (k + 1) * n := by
 unfold kt
 rw [List.length_append]
 have h1 := nz ins (ls := (ls.map (·.data)).take k) (n := n) (fun t ht => by
  obtain ⟨r, hr, rfl⟩ := List.mem_map.1 (List.mem_of_mem_take ht)
  exact h r hr)
 rw [List.length_take, List.length_map] at h1
 have h2 : (((ls.map (·.data)).getD k []).take j).length ≤ n := by
  rw [List.length_take]
  have e : (ls.map (·.data)).getD k [] = (ls.getD k default).data := by
   simp only [List.getD_eq_getElem?_getD, List.getElem?_map]
   cases ls[k]? <;> rfl
  rw [e]
  have := h _ (df (l := ls) hk)
  omega
 have h3 := List.length_filter_le (inK ins) (((ls.map (·.data)).getD k []).take j)
 have h4 : min k ls.length * n ≤ k * n := Nat.mul_le_mul_right _ (Nat.min_le_left _ _)
 rw [Nat.add_mul]; omega
theorem BZ (ins : List Ins) (ls : List TabV) : kt ins ls ls.length 0 = jZ ins (ls.map (·.data)) := by
 unfold kt
 rw [List.take_zero, List.filter_nil, List.append_nil, List.take_of_length_le (by rw [List.length_map]; exact Nat.le_refl _)]
def lR (ins : List Ins) : List UInt32 → Int
 | [] => 0
 | r :: t => if (eC ins r 4096).2 ≠ 0 then (eC ins r 4096).2 else lR ins t
theorem rX {ins : List Ins} : ∀ {rts : List UInt32} {k : Nat}, lR ins (rts.take k) = 0 → k < rts.length → lR ins (rts.take (k + 1)) = (eC ins (rts.getD k default) 4096).2
 | [], k, _, h => by simp at h
 | r :: t, 0, _, _ => by
  simp only [List.take_succ_cons, List.take_zero, lR, List.getD_cons_zero]
  split
  ·rfl
  ·rename_i q; simp only [ne_eq, Decidable.not_not] at q; rw [q]
 | r :: t, k + 1, h, hk => by
  simp only [List.take_succ_cons, lR] at h ⊢
  split at h
  ·rename_i q; exact absurd h q
  ·rename_i q
   rw [if_neg q, List.getD_cons_succ]
   exact rX h (by simpa using hk)
theorem yK {ins : List Ins} : ∀ {rts : List UInt32} {k : Nat}, lR ins (rts.take k) ≠ 0 → lR ins rts = lR ins (rts.take k)
 | [], k, h => by simp [lR] at h
 | r :: t, 0, h => by simp [lR] at h
 | r :: t, k + 1, h => by
  simp only [List.take_succ_cons, lR] at h ⊢
  split
  ·rfl
  ·rename_i q
   rw [if_neg q] at h
   exact yK h
def ka (ins : List Ins) (rts : List UInt32) : List (List StV) := rts.map fun r => (eC ins r 4096).1
def Gd (ins : List Ins) (a : UInt32) (b : StV × Bool) (s : List StV) : StV × Bool :=
 if (iY ins s a).2 = true then (if b.2 = true then (iF b.1 (iY ins s a).1 8, true) else ((iY ins s a).1, true)) else b
def oQ (ins : List Ins) (a : UInt32) (ss : List (List StV)) : StV × Bool := ss.foldl (Gd ins a) (gk, false)
structure FndV where
 ts : List (List UInt32)
 at_ : List UInt32
def ju (l : List SecV) (ins : List Ins) (ss : List (List StV)) (f : FndV) (i : Ins) : FndV :=
 if nI i = true ∧ (oQ ins i.addr ss).2 = true ∧ (cO l i ((oQ ins i.addr ss).1.get i.a)).2 = 0
 then ⟨f.ts ++ [(cO l i ((oQ ins i.addr ss).1.get i.a)).1], f.at_ ++ [i.addr]⟩ else f
def l4 (l : List SecV) (ins : List Ins) (ss : List (List StV)) (xs : List Ins) : FndV := xs.foldl (ju l ins ss) ⟨[], []⟩
def ml (l : List SecV) (c : CodeP) (ts : List (List UInt32)) : CodeP × FndV × Int :=
 if lR (gl c.ins c.ents c.unk c.bad).kept (jo (gl c.ins c.ents c.unk c.bad).kept (gl c.ins c.ents c.unk c.bad).ents ts) ≠ 0
 then (⟨[], [], [], []⟩, ⟨[], []⟩, lR (gl c.ins c.ents c.unk c.bad).kept (jo (gl c.ins c.ents c.unk c.bad).kept (gl c.ins c.ents c.unk c.bad).ents ts))
 else (⟨(gl c.ins c.ents c.unk c.bad).kept, (gl c.ins c.ents c.unk c.bad).ents, (gl c.ins c.ents c.unk c.bad).unk, (gl c.ins c.ents c.unk c.bad).bad⟩,
  l4 l (gl c.ins c.ents c.unk c.bad).kept (ka (gl c.ins c.ents c.unk c.bad).kept (jo (gl c.ins c.ents c.unk c.bad).kept (gl c.ins c.ents c.unk c.bad).ents ts)) (gl c.ins c.ents c.unk c.bad).kept, 0)
def RoundIs (l : List SecV) (es : List UInt32) (ts : List TabV) (at_ : List UInt32) (o : CodeP × FndV × Int) : Prop :=
 ∃ c e, WalkIs l ts at_ es c e ∧ if e ≠ 0 then o = (⟨[], [], [], []⟩, ⟨[], []⟩, e) else o = ml l c (ts.map (·.data))
theorem vP {l : List SecV} {ts : List TabV} {at_ es : List UInt32} {c : CodeP} {e : Int} (hT : oe ts) (h : WalkIs l ts at_ es c e) : (c.ins.length ≤ totD l ∧ c.ents.length ≤ totD l) ∧ c.unk.length ≤ totD l ∧ c.bad.length ≤ es.length + totD l * 66 := by
 cases h with
 | arg h1 h2 h3 => subst h3; simp
 | chk h0 h1 h2 h3 => subst h3; simp
 | ok h0 h1 h2 h =>
  have key : ∀ xs : List UInt32, xs.Pairwise (· < ·) → (∀ a ∈ xs, (atP l a).2 = true) → xs.length ≤ totD l := fun xs h1 h2 => by
   rw [← tG]; exact mW (qR h1) (fun a ha => xc (h2 a ha))
  refine ⟨⟨?_, key _ h.ents.1 (fun a ha => ((h.ents.2 a).1 ha).1.2)⟩, key _ h.unk.1 (fun a ha => ((h.unk.2 a).1 ha).1.2), ?_⟩
  ·obtain ⟨ks, k1, k2, k3⟩ := h.ins
   rw [k3, List.length_map]; exact key ks k1 (fun a ha => ((k2 a).1 ha).2)
  ·have hsub : ∀ a ∈ c.bad, a ∈ es ++ (vm l).flatMap (fun b => jt ts at_ (atP l b).1) := fun a ha => by
    cases ((h.bad.2 a).1 ha).1 with
    | ent a q => exact List.mem_append_left _ q
    | step b a q1 q2 q3 => exact List.mem_append_right _ (List.mem_flatMap.2 ⟨b, xc q2, q3⟩)
   have h1 := mW (qR h.bad.1) hsub
   rw [List.length_append] at h1
   have h2 : ∀ xs : List UInt32, (xs.flatMap (fun b => jt ts at_ (atP l b).1)).length ≤ xs.length * 66 := by
    intro xs
    induction xs with
    | nil => simp
    | cons x xs ih =>
     rw [List.flatMap_cons, List.length_append, List.length_cons]
     have := uh hT at_ (atP l x).1
     omega
   have h3 := h2 (vm l)
   rw [tG] at h3
   omega
theorem tA {l : List SecV} {ts : List TabV} {at_ es : List UInt32} {c : CodeP} {e : Int} (h : WalkIs l ts at_ es c e) : ∀ x ∈ c.ins, InsOK x := by
 cases h with
 | arg h1 h2 h3 => subst h3; intro x hx; cases hx
 | chk h0 h1 h2 h3 => subst h3; intro x hx; cases hx
 | ok h0 h1 h2 h =>
  obtain ⟨ks, k1, k2, k3⟩ := h.ins
  intro x hx
  rw [k3] at hx
  obtain ⟨a, _, rfl⟩ := List.mem_map.1 hx
  exact GE l a
theorem vC (ins : List Ins) (ents unk bad : List UInt32) : ((gl ins ents unk bad).kept.length ≤ ins.length ∧ (gl ins ents unk bad).ents.length ≤ ents.length) ∧ (gl ins ents unk bad).unk.length ≤ unk.length ∧ (gl ins ents unk bad).bad.length = bad.length := by
 refine ⟨⟨?_, List.length_filter_le _ _⟩, List.length_filter_le _ _, rfl⟩
 show (lT _ _).length ≤ _
 rw [kW kr]
 exact Nat.le_trans (rQ _) (Nat.le_trans (Nat.le_of_eq (wB (lp ents _) _)) (uw ins))
theorem D6 {ins : List Ins} {ents unk bad : List UInt32} {x : Ins} (h : x ∈ (gl ins ents unk bad).kept) : x ∈ ins := uv (GP h)
theorem wY {α : Type} [DecidableEq α] : ∀ l : List α, (fh l).length ≤ l.length
 | [] => Nat.le_refl _
 | x :: t => by
  have : ∀ (t : List α) (x : α), (m7 x t).length ≤ t.length := by
   intro t
   induction t with
   | nil => intro x; simp [m7]
   | cons y t ih =>
    intro x
    unfold m7
    split
    ·have := ih x; simp only [List.length_cons]; omega
    ·have := ih y; simp only [List.length_cons]; omega
  have := this t x
  simp only [fh, List.length_cons]; omega
theorem m0 {l : List SecV} {ins : List Ins} {ss : List (List StV)} {f : FndV} {i : Ins} (h : nI i = false) : ju l ins ss f i = f := if_neg (fun q => by rw [h] at q; cases q.1)
theorem o8 {l : List SecV} {ins : List Ins} {ss : List (List StV)} {f : FndV} {i : Ins} {b : StV} (h : (b, false) = oQ ins i.addr ss) : ju l ins ss f i = f := if_neg (fun q => by rw [← h] at q; cases q.2.1)
theorem o9 {l : List SecV} {ins : List Ins} {ss : List (List StV)} {f : FndV} {i : Ins} {b : StV} {k : Bool} (h : (b, k) = oQ ins i.addr ss) (h2 : (cO l i (b.get i.a)).2 ≠ 0) : ju l ins ss f i = f := if_neg (fun q => by rw [← h] at q; exact h2 q.2.2)
theorem o7 {l : List SecV} {ins : List Ins} {ss : List (List StV)} {f : FndV} {i : Ins} {b : StV} (h1 : nI i = true) (h : (b, true) = oQ ins i.addr ss) (h2 : (cO l i (b.get i.a)).2 = 0) : ju l ins ss f i = ⟨f.ts ++ [(cO l i (b.get i.a)).1], f.at_ ++ [i.addr]⟩ := by
 unfold ju; rw [← h]; exact if_pos ⟨h1, rfl, h2⟩
theorem vV {ins : List Ins} {a : UInt32} {ss : List (List StV)} {q : Nat} (hq : q < ss.length) : oQ ins a (ss.take (q + 1)) = Gd ins a (oQ ins a (ss.take q)) (ss.getD q default) := o6 _ _ _ hq
theorem zZ {l : List SecV} {ins : List Ins} {ss : List (List StV)} {xs : List Ins} {k : Nat} (hk : k < xs.length) : l4 l ins ss (xs.take (k + 1)) = ju l ins ss (l4 l ins ss (xs.take k)) (xs.getD k default) := o6 _ _ _ hk
def Cg (cmp : Ins → Ins → Int) (x y : Ins) : Bool := decide (cmp x y < 0)
theorem CX : WO (Cg k7) where
 irr := fun x => by simp [Cg, k7, uA]
 tr := fun x y z h1 h2 => by
  simp only [Cg, decide_eq_true_eq, k7, tj, UInt32.lt_iff_toNat_lt] at *; omega
 ntr := fun x y z h1 h2 => by
  simp only [Cg, decide_eq_false_iff_not, k7, tj, UInt32.lt_iff_toNat_lt] at *; omega
theorem vH (l : List SecV) (ins : List Ins) (ss : List (List StV)) : ∀ (xs : List Ins), (l4 l ins ss xs).ts.length ≤ xs.length ∧ (l4 l ins ss xs).at_.length ≤ xs.length := by
 have key : ∀ (xs : List Ins) (f : FndV), (xs.foldl (ju l ins ss) f).ts.length ≤ f.ts.length + xs.length ∧ (xs.foldl (ju l ins ss) f).at_.length ≤ f.at_.length + xs.length := by
  intro xs
  induction xs with
  | nil => intro f; simp
  | cons x xs ih =>
   intro f
   have h := ih (ju l ins ss f x)
   have h2 : (ju l ins ss f x).ts.length ≤ f.ts.length + 1 ∧ (ju l ins ss f x).at_.length ≤ f.at_.length + 1 := by
    unfold ju
    split
    ·simp
    ·omega
   simp only [List.foldl_cons, List.length_cons]; omega
 intro xs
 have := key xs ⟨[], []⟩
 simpa [l4] using this
theorem sn {l : List SecV} {i : Ins} {x : VSet} : (cO l i x).1.length ≤ 64 := by
 unfold cO
 split
 ·simp
 split
 ·simp
 split
 ·simp
 split
 ·split
  ·simp
  ·rename_i h
   exact vM (by simpa using (fun q => h (.inl q)))
 split
 ·simp
 ·rename_i h
  split
  ·simp
  ·rename_i out ho
   have := qq ho
   rw [UInt32.not_le, UInt32.lt_iff_toNat_lt] at h
   have e : (64 : UInt32).toNat = 64 := rfl
   show out.length ≤ 64
   omega
theorem Cp (l : List SecV) (ins : List Ins) (ss : List (List StV)) (xs : List Ins) : ∀ t ∈ (l4 l ins ss xs).ts, t.length ≤ 64 := by
 have key : ∀ (xs : List Ins) (f : FndV), (∀ t ∈ f.ts, t.length ≤ 64) → ∀ t ∈ (xs.foldl (ju l ins ss) f).ts, t.length ≤ 64 := by
  intro xs
  induction xs with
  | nil => intro f h; exact h
  | cons x xs ih =>
   intro f h
   refine ih _ ?_
   unfold ju
   split
   ·intro t ht
    rcases List.mem_append.1 ht with ht | ht
    ·exact h t ht
    ·rw [List.mem_singleton.1 ht]; exact sn
   ·exact h
 exact key xs ⟨[], []⟩ (fun t ht => by cases ht)
theorem zF {l : List SecV} {c : CodeP} {ts : List (List UInt32)} {R : ResV} (hR : R = gl c.ins c.ents c.unk c.bad) (h : lR R.kept (jo R.kept R.ents ts) ≠ 0) : ml l c ts = (⟨[], [], [], []⟩, ⟨[], []⟩, lR R.kept (jo R.kept R.ents ts)) := by
 subst hR; exact if_pos h
theorem BS {l : List SecV} {c : CodeP} {ts : List (List UInt32)} {R : ResV} (hR : R = gl c.ins c.ents c.unk c.bad) (h : lR R.kept (jo R.kept R.ents ts) = 0) : ml l c ts = (⟨R.kept, R.ents, R.unk, R.bad⟩, l4 l R.kept (ka R.kept (jo R.kept R.ents ts)) R.kept, 0) := by
 subst hR; exact if_neg (fun q => q h)
theorem xO {ins : List Ins} {rts : List UInt32} {k : Nat} (hk : k < rts.length) : ka ins (rts.take (k + 1)) = ka ins (rts.take k) ++ [(eC ins (rts.getD k default) 4096).1] := by
 unfold ka; rw [dB hk, List.map_append]; rfl
theorem BV {ins : List Ins} {ents : List UInt32} {ts : List (List UInt32)} (h1 : ents.length ≤ 700) (h2 : ∀ t ∈ ts, t.length ≤ 700) (h3 : ts.length ≤ 700) : (jo ins ents ts).length ≤ 490700 := by
 have h := nz ins (ls := ents :: ts) (n := 700) (fun t ht => by
  rcases List.mem_cons.1 ht with rfl | ht
  ·exact h1
  ·exact h2 t ht)
 rw [List.length_cons] at h
 have h4 := wY (fQ (jZ ins (ents :: ts)))
 rw [qx] at h4
 have h5 : (ts.length + 1) * 700 ≤ 701 * 700 := Nat.mul_le_mul_right _ (by omega)
 unfold jo; omega
theorem AB {α : Type} {N : Nat} {F : Bg} {A : List Ent} {M : Fr} {X : Act → World → Prop} {f : α → Ent} {rs : List α} (r : α) (K : Tr N F (A ++ ((rs ++ [r]).map f ++ [])) M X) : Tr N F (f r :: (A ++ (rs.map f ++ []))) M X := by
 refine pm (L' := A ++ ((rs ++ [r]).map f ++ [])) ?_ K
 rw [List.append_nil, List.append_nil, List.map_append, ← List.append_assoc]
 exact List.perm_append_comm
end Go.HL
namespace Go.Proofs.YtiajjbhcpeadfaaGreat
open Go Go.HL Go.RowKit
theorem vK (l n2 : List UInt32) (V W : Value) (w : World) (hV : Sl (hp w) al l V) (hW : Sl (hp w) al n2 W) :
  Cr Tryz.prog 111 #[V, W] w (.bool (decide (l = n2))) := by
 have hV' : Sl (Bg.of w).blk al l V := hV
 have hW' : Sl (Bg.of w).blk al n2 W := hW
 have hlen := hV.len_le
 refine enter Tryz.func111 rfl Tryz.ntmps111 rfl ?_
 refine ah (zz0 (ab rfl) (ad (an (ah (zz0 (aa rfl) (zz0 (gj rfl af) ?_))))))
 refine zz0 (aa rfl) (zz0 (gj rfl af) ?_)
 refine zz0 (fH rfl rfl) (ad ?_)
 refine au rfl ?_ ?_ <;> intro h1 <;> try simp only [bs] at h1
 ·have hq := h1
  refine ah (zz0 (ab rfl) (ad (aC (ay ?_))))
  refine aX mK rfl (fun w' hw => ?_)
  exact ⟨by rw [decide_eq_false (fun e => hq (by rw [e]))], hw.b0⟩
 have hq := h1
 refine bC (an (ah (zz0 (aa rfl) (zz0 (gj rfl af) ?_))))
 refine zz0 (aa rfl) (ad (aF ?_))
 refine bL (ι := Nat) (fun k => k ≤ l.length ∧ l.take k = n2.take k) (fun _ => _) (fun k => []) (fun k => [(13, .int .i64 (k : Nat))]) (fun k => l.length - k) 0 ⟨Nat.zero_le _, rfl⟩ (Front.c Front.nil) (by repeat' constructor) rfl (fun k hi m hm => ?_)
 replace hi : k ≤ l.length ∧ l.take k = n2.take k := hi
 replace hm : m = l.length - k := hm
 change Tr _ _ [] ([(13, .int .i64 (k : Nat))] ++ _) _
 obtain ⟨hk1, hk2⟩ := hi
 refine ah (zz0 (bT rfl rfl) (ad (an ?_)))
 refine au rfl ?_ ?_ <;> intro h2 <;> try simp only [bs] at h2
 ·refine bC (an (aF (ah (zz0 (aa rfl) (zz0 (ab rfl) (ad (an (gZ aP ?_))))))))
  refine aw (aa rfl) (aw (aa rfl) (aw (iH rfl rfl af ae) ?_))
  refine aw (jl rfl am) ?_
  refine aw (aa rfl) (aw (aa rfl) (aw (iH rfl rfl af ae) ?_))
  refine aw (jl rfl am) ?_
  refine aw (iU rfl rfl) ?_
  refine bH ?_
  refine ac ?_
  refine au rfl ?_ ?_ <;> intro h3 <;> try simp only [bs] at h3
  ·have hq2 := h3
   refine ah (zz0 (ab rfl) (ad (aC (bv (ay (ay (bv (ay ?_))))))))
   refine aX mK rfl (fun w' hw => ?_)
   exact ⟨by rw [decide_eq_false (fun e => hq2 (by rw [e]))], hw.b0⟩
  have hq2 := h3
  refine cd (aY (ac (ar (zz0 (cB rfl rfl) ?_))))
  refine zz0 (aa rfl) (ad ?_)
  refine cK (k + 1) (Front.c Front.nil) (zz8 15 rfl) (o := ⟨by omega, by rw [dB (by omega), dB (by omega), hk2, show l.getD k default = n2.getD k default by first | exact hq2 | simp_all]⟩)
 refine bJ (aG (aG (bj (ac (ah (zz0 (ab rfl) (ad (aC ?_))))))))
 refine aX mK rfl (fun w' hw => ?_)
 exact ⟨by rw [decide_eq_true (show l = n2 by rw [← List.take_length (l := l), ← List.take_length (l := n2), show n2.length = l.length by omega, show l.length = k by omega]; exact hk2)], hw.b0⟩
theorem Di (l n2 : List UInt32) (V W : Value) (w : World) (hV : Sl (hp w) al l V) (hW : Sl (hp w) al n2 W) :
  Cr Tryz.prog 113 #[V, W] w (.bool (decide (l = n2))) := by
 have hV' : Sl (Bg.of w).blk al l V := hV
 have hW' : Sl (Bg.of w).blk al n2 W := hW
 refine enter Tryz.func113 rfl Tryz.ntmps113 rfl ?_
 refine ah (zz0 (ab rfl) (aI (zz0 (aa rfl) (zz0 (aa rfl) (zz0 (az rfl Tryz.call111 (fun w hw => vK l n2 V W w (hw.slF hV') (hw.slF hW'))) ?_)))))
 refine zz0 (ab rfl) (ad (aC ?_))
 refine aX Tryz.results113 rfl (fun w' hw => ?_)
 exact ⟨rfl, hw.b0⟩
theorem u4 (l n2 : List TabV) (V W : Value) (w : World) (hV : Sl (hp w) fR l V) (hW : Sl (hp w) fR n2 W) (hI : TabIn (hp w) l) (hJ : TabIn (hp w) n2) :
  Cr Tryz.prog 112 #[V, W, .func (.func 113) #[] #[]] w (.bool (decide (l.map (·.data) = n2.map (·.data)))) := by
 have hV' : Sl (Bg.of w).blk fR l V := hV
 have hW' : Sl (Bg.of w).blk fR n2 W := hW
 have hI' : TabIn (Bg.of w).blk l := hI
 have hJ' : TabIn (Bg.of w).blk n2 := hJ
 have hlen := hV.len_le
 refine enter Tryz.func112 rfl Tryz.ntmps112 rfl ?_
 refine ah (zz0 (ab rfl) (ad (an (ah (zz0 (aa rfl) (zz0 (gj rfl cS) ?_))))))
 refine zz0 (aa rfl) (zz0 (gj rfl cS) ?_)
 refine zz0 (fH rfl rfl) (ad ?_)
 refine au rfl ?_ ?_ <;> intro h1 <;> try simp only [bs] at h1
 ·have hq := h1
  refine ah (zz0 (ab rfl) (ad (aC (ay ?_))))
  refine aX mJ rfl (fun w' hw => ?_)
  exact ⟨by rw [decide_eq_false (fun e => hq (by have := congrArg List.length e; rw [List.length_map, List.length_map] at this; rw [this]))], hw.b0⟩
 have hq := h1
 refine bC (an (ah (zz0 (aa rfl) (zz0 (gj rfl cS) ?_))))
 refine zz0 (aa rfl) (ad (aF ?_))
 refine bL (ι := Nat) (fun k => k ≤ l.length ∧ (l.map (·.data)).take k = (n2.map (·.data)).take k) (fun _ => _) (fun k => []) (fun k => [(17, .int .i64 (k : Nat))]) (fun k => l.length - k) 0 ⟨Nat.zero_le _, rfl⟩ (Front.c Front.nil) (by repeat' constructor) rfl (fun k hi m hm => ?_)
 replace hi : k ≤ l.length ∧ (l.map (·.data)).take k = (n2.map (·.data)).take k := hi
 replace hm : m = l.length - k := hm
 change Tr _ _ [] ([(17, .int .i64 (k : Nat))] ++ _) _
 obtain ⟨hk1, hk2⟩ := hi
 have hgl : ∀ q : List TabV, (q.map (·.data)).getD k default = (q.getD k default).data := fun q => by
  simp only [List.getD_eq_getElem?_getD, List.getElem?_map]
  cases q[k]? <;> rfl
 refine ah (zz0 (bT rfl rfl) (ad (an ?_)))
 refine au rfl ?_ ?_ <;> intro h2 <;> try simp only [bs] at h2
 ·refine bC (an (aF (ah (zz0 (aa rfl) (zz0 (iH rfl rfl cS cg) ?_)))))
  refine zz0 (jl rfl dl) ?_
  refine zz0 (ab rfl) (zz0 (ab rfl) (aI (zz0 (aa rfl) (zz0 (aa rfl) (zz0 (iH rfl rfl cS cg) ?_)))))
  refine zz0 (jl rfl dl) ?_
  refine zz0 (ab rfl) (aI (zz0 (aa rfl) (zz0 (aa rfl) (zz0 (aa rfl) (zz0 (hZ rfl rfl Tryz.call113 (fun w hw => Di (l.getD k default).data (n2.getD k default).data _ _ w (hw.slF (hI' _ (df (by omega)))) (hw.slF (hJ' _ (df (by omega)))))) ?_)))))
  refine zz0 (cP rfl) (ad ?_)
  refine au rfl ?_ ?_ <;> intro h3 <;> try simp only [bs] at h3
  ·have hq2 := h3
   refine ah (zz0 (ab rfl) (ad (aC (bv (ay (ay (bv (ay ?_))))))))
   refine aX mJ rfl (fun w' hw => ?_)
   exact ⟨by rw [decide_eq_false (fun e => hq2 (by rw [← hgl, ← hgl, e]))], hw.b0⟩
  have hq2 := h3
  refine cd (aY (ac (ar (zz0 (cB rfl rfl) ?_))))
  refine zz0 (aa rfl) (ad ?_)
  refine cK (k + 1) (Front.c Front.nil) (zz8 19 rfl) (o := ⟨by omega, by rw [dB (by rw [List.length_map]; omega), dB (by rw [List.length_map]; omega), hk2, hgl, hgl, show (l.getD k default).data = (n2.getD k default).data by first | exact hq2 | simp_all]⟩)
 refine bJ (aG (aG (bj (ac (ah (zz0 (ab rfl) (ad (aC ?_))))))))
 refine aX mJ rfl (fun w' hw => ?_)
 exact ⟨by rw [decide_eq_true (show l.map (·.data) = n2.map (·.data) by rw [← List.take_length (l := l.map (·.data)), ← List.take_length (l := n2.map (·.data)), List.length_map, List.length_map, show n2.length = l.length by omega, show l.length = k by omega]; exact hk2)], hw.b0⟩
theorem Fo (x0 x1 x2 x3 : Option Addr) (xn0 xc0 xn1 xc1 xn2 xc2 xn3 xc3 : Nat) (y0 y1 y2 y3 : Option Addr) (yn0 yc0 yn1 yc1 yn2 yc2 yn3 yc3 : Nat) (ts us : List TabV) (at_ bt_ : List UInt32) (pt pa qt qa : Option Addr) (ct ca dt da : Nat) (w : World) (h1 : Sl (hp w) fR ts (.slice pt ts.length ct)) (h2 : TabIn (hp w) ts) (h3 : Sl (hp w) al at_ (.slice pa at_.length ca)) (k1 : Sl (hp w) fR us (.slice qt us.length dt)) (k2 : TabIn (hp w) us) (k3 : Sl (hp w) al bt_ (.slice qa bt_.length da)) :
  Cr Tryz.prog 53 #[.agg #[.slice x0 xn0 xc0, .slice x1 xn1 xc1, .slice x2 xn2 xc2, .slice x3 xn3 xc3, .slice pt ts.length ct, .slice pa at_.length ca], .agg #[.slice y0 yn0 yc0, .slice y1 yn1 yc1, .slice y2 yn2 yc2, .slice y3 yn3 yc3, .slice qt us.length dt, .slice qa bt_.length da]] w (.bool (decide (at_ = bt_) && decide (ts.map (·.data) = us.map (·.data)))) := by
 have h1' : Sl (Bg.of w).blk fR ts (.slice pt ts.length ct) := h1
 have h2' : TabIn (Bg.of w).blk ts := h2
 have h3' : Sl (Bg.of w).blk al at_ (.slice pa at_.length ca) := h3
 have k1' : Sl (Bg.of w).blk fR us (.slice qt us.length dt) := k1
 have k2' : TabIn (Bg.of w).blk us := k2
 have k3' : Sl (Bg.of w).blk al bt_ (.slice qa bt_.length da) := k3
 refine enter Tryz.func53 rfl Tryz.ntmps53 rfl ?_
 refine ah ?_
 refine dG rfl rfl (fun b1 => ?_)
 refine dG rfl rfl (fun b2 => ?_)
 refine zz0 (ab rfl) (aI (zz0 (zz2 (off := 5) (ft := 31) rfl cM rfl cg) ?_))
 refine zz0 (aH rfl dl) ?_
 refine zz0 (zz2 (off := 5) (ft := 31) rfl cM rfl cg) ?_
 refine zz0 (aH rfl dl) ?_
 refine zz0 (az rfl Tryz.call111 (fun w hw => vK at_ bt_ _ _ w (hw.slF h3') (hw.slF k3'))) ?_
 refine zz0 (aa rfl) ?_
 apply cH
 ·exact (rfl : _ = (6, 10, 16))
 ·exact rfl
 ·intro hT3; have hT3' := hT3
  try simp only [bs] at hT3'
  refine zz6 hT3 (zz2 (off := 4) (ft := 53) rfl cM rfl fY) ?_
  refine zz6 hT3 (aH rfl jK) ?_
  refine zz6 hT3 (zz2 (off := 4) (ft := 53) rfl cM rfl fY) ?_
  refine zz6 hT3 (aH rfl jK) ?_
  refine zz6 hT3 (az rfl Tryz.call112 (fun w hw => u4 ts us _ _ w (hw.slF h1') (hw.slF k1') (h2'.mono hw.bg) (k2'.mono hw.bg))) ?_
  refine zz0 (aV rfl hT3 rfl) ?_
  refine aD (ac ?_)
  exact aK (Sub.cons rfl (bD 6 rfl))
 ·intro hF3
  refine zz9 hF3 (zz9 hF3 (zz9 hF3 (zz9 hF3 (zz9 hF3 (zz0 (aU rfl hF3 rfl) ?_)))))
  refine aD (ac ?_)
  exact aK (Sub.cons rfl (bD 6 rfl))
 refine zz0 (ab rfl) (ad (aC ?_))
 refine aX Tryz.results53 rfl (fun w' hw => ?_)
 exact ⟨rfl, hw.b0⟩
theorem BW (i : Ins) (a : UInt32) (b : Nat) (w : World) (hc : Cell (hp w) b 0 (.int .u32 a.toNat)) :
  Cr Tryz.prog 158 #[.agg (aM.enc i).toArray, .pointer (some ⟨b, 0, none⟩)] w (.bool (decide (i.addr = a))) := by
 have hc' : Cell (Bg.of w).blk b 0 (.int .u32 a.toNat) := hc
 refine enter Tryz.func158 rfl Tryz.ntmps158 rfl ?_
 refine ah ?_
 refine dG rfl rfl (fun b1 => ?_)
 refine zz0 (ab rfl) (aI (zz0 (zz2 (off := 0) (ft := 23) rfl aj rfl ae) ?_))
 refine zz0 (aH rfl am) ?_
 refine zz0 (lO rfl (by assumption) am) ?_
 refine zz0 (eE rfl rfl) ?_
 refine zz0 (ab rfl) (ad (aC ?_))
 refine aX Tryz.results158 rfl (fun w' hw => ?_)
 exact ⟨rfl, hw.b0⟩
theorem BU (x y : Ins) (w : World) :
  Cr Tryz.prog 108 #[.agg (aM.enc x).toArray, .agg (aM.enc y).toArray] w (.int .i64 (k7 x y)) := by
 refine enter Tryz.func108 rfl Tryz.ntmps108 rfl ?_
 refine ah ?_
 refine dG rfl rfl (fun b1 => ?_)
 refine dG rfl rfl (fun b2 => ?_)
 refine zz0 (ab rfl) (ad (an (aF (ah (zz0 (zz2 (off := 0) (ft := 23) rfl aj rfl ae) ?_)))))
 refine zz0 (aH rfl am) ?_
 refine zz0 (zz2 (off := 0) (ft := 23) rfl aj rfl ae) ?_
 refine zz0 (aH rfl am) ?_
 refine zz0 (iu rfl rfl) ?_
 refine zz0 (ab rfl) (ad ?_)
 refine au rfl ?_ ?_ <;> intro h3 <;> try simp only [bs] at h3
 ·refine ah (zz0 (ab rfl) (ad (aC (bv (ay ?_)))))
  refine aX mL rfl (fun w' hw => ?_)
  exact ⟨by unfold k7 uA; rw [if_pos (by assumption)], hw.b0⟩
 refine ah (zz0 (zz2 (off := 0) (ft := 23) rfl aj rfl ae) ?_)
 refine zz0 (aH rfl am) ?_
 refine zz0 (zz2 (off := 0) (ft := 23) rfl aj rfl ae) ?_
 refine zz0 (aH rfl am) ?_
 refine zz0 (kD rfl rfl) ?_
 refine zz0 (ab rfl) (ad ?_)
 refine au rfl ?_ ?_ <;> intro h4 <;> try simp only [bs] at h4
 ·refine ah (zz0 (ab rfl) (ad (aC (bv (ay ?_)))))
  refine aX mL rfl (fun w' hw => ?_)
  exact ⟨by unfold k7 uA; rw [if_neg (by assumption), if_pos (by assumption)], hw.b0⟩
 refine cd (aY (ac (ah (zz0 (ab rfl) (ad (aC ?_))))))
 refine aX mL rfl (fun w' hw => ?_)
 exact ⟨by unfold k7 uA; rw [if_neg (by assumption), if_neg (by assumption)], hw.b0⟩
theorem yS (l : List UInt32) (V : Value) (w : World) (hr : (rowE V 23 al l).holds w) (hl : l.length ≤ 1000000) :
  Calls Tryz.prog 159 #[V] w (fun e w' => ∃ V', e = .returned V' ∧ V'.ownBlock = V.ownBlock ∧ Mut w w' V ∧ (rowE V' 23 al (fh l)).holds w') := by
 refine fw (l := l) (E := al) (T := 23) hr Tryz.func159 rfl Tryz.ntmps159 rfl ?_
 refine ah (zz0 (ab rfl) (ad (an (ah (zz0 (aa rfl) (zz0 (lQ rfl af) ?_))))))
 refine zz0 (bT rfl rfl) (ad ?_)
 refine au rfl ?_ ?_ <;> intro h1 <;> try simp only [bs] at h1
 ·refine ah (zz0 (aa rfl) (zz0 (ab rfl) (ad (aC (ay ?_)))))
  refine aX mH rfl (fun w' hw => ?_)
  have e : fh l = l := by rw [← List.take_length (l := l)]; exact k6 (Nat.le_refl _) (fun j a b => by omega)
  exact ⟨_, rfl, rfl, (HpOK.mutOwn hw (.head _) rfl).1, by rw [e]; exact (HpOK.mutOwn hw (.head _) rfl).2⟩
 refine bC (an (ah (zz0 (ab rfl) (ad (aF ?_)))))
 refine bL (ι := Nat) (fun k => 1 ≤ k ∧ k ≤ l.length ∧ ∀ j, 0 < j → j < k → l.getD j default ≠ l.getD (j - 1) default) (fun _ => _) (fun k => [rowE V 23 al l]) (fun k => [(3, .int .i64 (k : Nat))]) (fun k => l.length - k) 1 ⟨Nat.le_refl _, by omega, fun j a b => by omega⟩ (Front.c Front.nil) (by repeat' constructor) rfl (fun k hi m hm => ?_)
 replace hi : 1 ≤ k ∧ k ≤ l.length ∧ ∀ j, 0 < j → j < k → l.getD j default ≠ l.getD (j - 1) default := hi
 replace hm : m = l.length - k := hm
 change Tr _ _ [rowE V 23 al l] ([(3, .int .i64 (k : Nat))] ++ _) _
 obtain ⟨hk1, hk2, hk3⟩ := hi
 have hj : ((k : Int) - 1).toNat = k - 1 := by omega
 refine an (ah (zz0 (aa rfl) (zz0 (aa rfl) (zz0 (lQ rfl af) ?_))))
 refine zz0 (bT rfl rfl) (ad ?_)
 refine au rfl ?_ ?_ <;> intro h2 <;> try simp only [bs] at h2
 ·refine bC (an (aF (an (gZ aP ?_))))
  refine aw (aa rfl) (aw (aa rfl) (aw (zz7 rfl rfl af ae) ?_))
  refine aw (er rfl am) ?_
  refine aw (aa rfl) (aw (aa rfl) (aw (ei rfl rfl) ?_))
  refine aw (jm rfl rfl af ae) ?_
  refine aw (er rfl am) ?_
  refine aw (eE rfl rfl) ?_
  refine bH ?_
  refine ac ?_
  refine au rfl ?_ ?_ <;> intro h3 <;> try simp only [bs] at h3
  ·refine ah (zz0 (aa rfl) (zz0 (aa rfl) (zz0 (rm rfl (by repeat constructor) rfl af ae rfl (by omega)) ?_)))
   refine zz0 (ab rfl) (ad (an (ah (zz0 (ab rfl) (ad (aF ?_))))))
   refine bL (ι := Nat × Nat × List UInt32) (fun ⟨wi, k2, cur⟩ => (1 ≤ k2 ∧ k + k2 ≤ l.length ∧ wi < k + k2) ∧ cur.length = l.length ∧ cur.take wi = fh (l.take (k + k2)) ∧ ∀ j, k + k2 - 1 ≤ j → cur.getD j default = l.getD j default) (fun _ => _) (fun ⟨wi, k2, cur⟩ => [rowE V 23 al cur]) (fun ⟨wi, k2, cur⟩ => [(3, .int .i64 (wi : Nat)), (5, .int .i64 (k2 : Nat))]) (fun ⟨wi, k2, cur⟩ => l.length - (k + k2)) (k, 1, l) ⟨⟨Nat.le_refl _, by omega, by omega⟩, rfl, by rw [k5 (by omega) (by omega), if_pos (by rw [← hj]; assumption), k6 (by omega) hk3], fun j _ => rfl⟩ (Front.c (Front.c Front.nil)) (by repeat' constructor) rfl (fun i hi m hm => ?_)
   obtain ⟨wi, k2, cur⟩ := i
   replace hi : (1 ≤ k2 ∧ k + k2 ≤ l.length ∧ wi < k + k2) ∧ cur.length = l.length ∧ cur.take wi = fh (l.take (k + k2)) ∧ ∀ j, k + k2 - 1 ≤ j → cur.getD j default = l.getD j default := hi
   replace hm : m = l.length - (k + k2) := hm
   change Tr _ _ [rowE V 23 al cur] ([(3, .int .i64 (wi : Nat)), (5, .int .i64 (k2 : Nat))] ++ _) _
   obtain ⟨⟨hq1, hq2, hq3⟩, hq4, hq5, hq6⟩ := hi
   have hA := hq6 (k + k2) (by omega)
   have hB := hq6 (k + k2 - 1) (by omega)
   have hi1 : k + (k2 : Int).toNat = k + k2 := rfl
   have hi2 : k + ((k2 : Int) - 1).toNat = k + k2 - 1 := by omega
   refine an (ah (zz0 (aa rfl) (zz0 (aa rfl) (zz0 (AM rfl (by repeat constructor) af) ?_))))
   refine zz0 (bT rfl rfl) (ad ?_)
   refine au rfl ?_ ?_ <;> intro h4 <;> try simp only [bs] at h4
   ·refine bC (an (aF (an (gZ aP ?_))))
    refine aw (aa rfl) (aw (aa rfl) (aw (qj rfl rfl (by repeat constructor) af ae rfl (by omega) (by omega)) ?_))
    refine aw (er rfl am) ?_
    refine aw (aa rfl) (aw (aa rfl) (aw (ei rfl rfl) ?_))
    refine aw (qj rfl rfl (by repeat constructor) af ae rfl (by omega) (by omega)) ?_
    refine aw (er rfl am) ?_
    refine aw (iU rfl rfl) ?_
    refine bH ?_
    refine ac ?_
    refine au rfl ?_ ?_ <;> intro h5 <;> try simp only [bs] at h5
    ·refine ah (zz0 (aa rfl) (zz0 (aa rfl) (zz0 (aa rfl) (zz0 (aa rfl) (zz0 (qj rfl rfl (by repeat constructor) af ae rfl (by omega) (by omega)) ?_)))))
     refine zz0 (er rfl am) ?_
     refine zz0 (zz7 rfl rfl af ae) ?_
     refine fV (l := cur) (i := wi) (cur.getD (k + (k2 : Int).toNat) default) rfl rfl ae ?_
     have hls6 : (List.set cur (wi) (cur.getD (k + (k2 : Int).toNat) default)).length = (cur).length := List.length_set
     refine ad (ar (zz0 (aa rfl) (zz0 (cB rfl rfl) ?_)))
     refine zz0 (ab rfl) (aD (aY (ac (ar (zz0 (aa rfl) (zz0 (cB rfl rfl) ?_))))))
     refine zz0 (ab rfl) (ad ?_)
     rw [hi1, hi2, hA, hB] at h5
     have hcs := k5 (l := l) (k := k + k2) (by omega) (by omega)
     rw [if_neg h5, ← hq5] at hcs
     have hcm : (cur.set wi (cur.getD (k + (k2 : Int).toNat) default)).take (wi + 1) = fh (l.take (k + (k2 + 1))) := by
      rw [show k + (k2 + 1) = k + k2 + 1 by omega, hcs, dB (by rw [List.length_set]; omega), hi1, hA]
      congr 1
      ·rw [List.take_set_of_le (Nat.le_refl _)]
      ·simp [List.getD_eq_getElem?_getD, show wi < cur.length by omega]
     refine cK (wi + 1, k2 + 1, cur.set wi (cur.getD (k + (k2 : Int).toNat) default)) (Front.c (Front.c Front.nil)) (zz8 29 rfl) (o := ⟨⟨by omega, by omega, by omega⟩, by rw [List.length_set]; exact hq4, hcm, fun j a => by rw [List.getD_eq_getElem?_getD, List.getElem?_set_ne (by omega), ← List.getD_eq_getElem?_getD]; exact hq6 j (by omega)⟩)
    refine cd (aY (ac (ar (zz0 (aa rfl) (zz0 (cB rfl rfl) ?_)))))
    refine zz0 (ab rfl) (ad ?_)
    rw [hi1, hi2, hA, hB] at h5
    have hcs := k5 (l := l) (k := k + k2) (by omega) (by omega)
    rw [if_pos h5, ← hq5] at hcs
    refine cK (wi, k2 + 1, cur) (Front.c (Front.c Front.nil)) (zz8 19 rfl) (o := ⟨⟨by omega, by omega, by omega⟩, hq4, by rw [show k + (k2 + 1) = k + k2 + 1 by omega, hcs], fun j a => hq6 j (by omega)⟩)
   refine bJ (aG (aG (bj (ac (ah (zz0 (aa rfl) (zz0 (aa rfl) (zz0 (rm rfl (by repeat constructor) rfl af ae rfl (by omega)) ?_))))))))
   refine xr 0 rfl (by repeat constructor) (by omega) af cC rfl rfl rfl ?_
   refine aI (zz0 (aa rfl) (zz0 (aa rfl) (zz0 (AH rfl (by repeat constructor) rfl af ae rfl (by rw [List.length_append, List.length_take]; omega)) ?_)))
   refine zz0 (ab rfl) (ad (aC (bv (ay (ay (bv (ay ?_)))))))
   refine aX mH rfl (fun w' hw => ?_)
   have hkn : k + k2 = l.length := by omega
   rw [hkn, List.take_length] at hq5
   have hm := HpOK.mutOwn hw (.head _) rfl
   have hh := rowE.resl0 (hw.ent _ (.head _)) (k := wi) (by rw [List.length_append, List.length_take]; omega)
   have e : (cur.take wi ++ List.replicate (cur.length - wi) (0 : UInt32)).take wi = fh l := by rw [← hq5, List.take_append_of_le_length (by rw [List.length_take]; omega), List.take_take, Nat.min_self]
   exact ⟨_, rfl, hh.2, hm.1, by rw [← e]; exact hh.1⟩
  refine cd (aY (ac (ar (zz0 (aa rfl) (zz0 (cB rfl rfl) ?_)))))
  refine zz0 (ab rfl) (ad ?_)
  have hk4 : ∀ j, 0 < j → j < k + 1 → l.getD j default ≠ l.getD (j - 1) default := fun j a b => by
   by_cases c : j = k
   ·subst c; rw [← hj]; assumption
   ·exact hk3 j a (by omega)
  refine cK (k + 1) (Front.c Front.nil) (zz8 18 rfl) (o := ⟨by omega, by omega, hk4⟩)
 refine bJ (aG (aG (bj (ac (ah (zz0 (aa rfl) (zz0 (ab rfl) (ad (aC ?_)))))))))
 refine aX mH rfl (fun w' hw => ?_)
 have e : fh l = l := by rw [← List.take_length (l := l)]; exact k6 (Nat.le_refl _) (fun j a b => hk3 j a (by omega))
 exact ⟨_, rfl, rfl, (HpOK.mutOwn hw (.head _) rfl).1, by rw [e]; exact (HpOK.mutOwn hw (.head _) rfl).2⟩
theorem Dq (ins : List Ins) (ents : List UInt32) (ts : List TabV) (pI p1 pu pb : Option Addr) (cI c1 nu cu nb cb : Nat) (VT : Value) (w : World) (hI : Sl (hp w) aM ins (.slice pI ins.length cI)) (hE : Sl (hp w) al ents (.slice p1 ents.length c1)) (hT : Sl (hp w) fR ts VT) (hTI : TabIn (hp w) ts) (hTB : oe ts) (hel : ents.length ≤ 700) :
  Calls Tryz.prog 106 #[.agg #[.slice pI ins.length cI, .slice p1 ents.length c1, .slice pu nu cu, .slice pb nb cb], VT] w (fun e w' => ∃ V' : Value, e = .returned V' ∧ Ext w w' ∧ js w w' 23 al (jo ins ents (ts.map (·.data))) V') := by
 have hI' : Sl (Bg.of w).blk aM ins (.slice pI ins.length cI) := hI
 have hT' : Sl (Bg.of w).blk fR ts VT := hT
 have hls : ∀ t ∈ ((⟨ents, p1, c1⟩ : TabV) :: ts), Sl (Bg.of w).blk al t.data (.slice t.dp t.data.length t.dc) := fun t ht => by
  rcases List.mem_cons.1 ht with rfl | ht
  ·exact hE
  ·exact hTI t ht
 have hlb : ∀ t ∈ ((⟨ents, p1, c1⟩ : TabV) :: ts), t.data.length ≤ 700 := fun t ht => by
  rcases List.mem_cons.1 ht with rfl | ht
  ·exact hel
  ·have := hTB.2 t ht; omega
 have htl := hTB.1
 have hll : ((⟨ents, p1, c1⟩ : TabV) :: ts).length ≤ 701 := by have := hTB.1; rw [List.length_cons]; omega
 refine enter Tryz.func106 rfl Tryz.ntmps106 rfl ?_
 refine ah ?_
 refine dG rfl rfl (fun b1 => ?_)
 refine zz0 (ab rfl) (aI (zz0 (ab rfl) (ad (an (ah (zz0 (zz2 (off := 1) (ft := 31) rfl bY rfl cg) ?_))))))
 refine zz0 (aH rfl dl) ?_
 refine iG (E := fR) (⟨ents, p1, c1⟩ : TabV) rfl rfl cS cg Tryz.zeroValue31 (fun V2 => ?_)
 refine zz0 (aa rfl) ?_
 refine BE rfl rfl (by repeat constructor) (fun w hw => hw.slF (by assumption)) cS uO (fun V3 => ?_)
 refine gp (l' := ((⟨ents, p1, c1⟩ : TabV) :: ts)) rfl ?_
 refine zz0 (lQ rfl cS) ?_
 refine zz0 (aa rfl) (ad (aF (bZ 23 al ?_)))
 refine bL (ι := Nat × Value) (fun ⟨k, Vo⟩ => k ≤ ((⟨ents, p1, c1⟩ : TabV) :: ts).length) (fun _ => _) (fun ⟨k, Vo⟩ => [rowE Vo 23 al (kt ins ((⟨ents, p1, c1⟩ : TabV) :: ts) k 0), rowE V3 31 fR ((⟨ents, p1, c1⟩ : TabV) :: ts), cellE b1 [.slice pI ins.length cI, .slice p1 ents.length c1, .slice pu nu cu, .slice pb nb cb] 52]) (fun ⟨k, Vo⟩ => [(16, .int .i64 (k : Nat)), (5, Vo)]) (fun ⟨k, Vo⟩ => ((⟨ents, p1, c1⟩ : TabV) :: ts).length - k) (0, _) (Nat.zero_le _) (Front.c (Front.c Front.nil)) (by repeat' constructor) rfl (fun i hi m hm => ?_)
 obtain ⟨k, Vo⟩ := i
 replace hi : k ≤ ((⟨ents, p1, c1⟩ : TabV) :: ts).length := hi
 replace hm : m = ((⟨ents, p1, c1⟩ : TabV) :: ts).length - k := hm
 change Tr _ _ [rowE Vo 23 al (kt ins ((⟨ents, p1, c1⟩ : TabV) :: ts) k 0), rowE V3 31 fR ((⟨ents, p1, c1⟩ : TabV) :: ts), cellE b1 [.slice pI ins.length cI, .slice p1 ents.length c1, .slice pu nu cu, .slice pb nb cb] 52] ([(16, .int .i64 (k : Nat)), (5, Vo)] ++ _) _
 refine ah (zz0 (bT rfl rfl) (ad (an ?_)))
 refine au rfl ?_ ?_ <;> intro h4 <;> try simp only [bs] at h4
 ·refine bC (an (aF (ah (zz0 (zz7 rfl rfl cS cg) ?_))))
  refine zz0 (er rfl dl) ?_
  refine zz0 (ab rfl) (ad (an ?_))
  have hkj : Sl (Bg.of w).blk al (((⟨ents, p1, c1⟩ : TabV) :: ts).getD k default).data (.slice (((⟨ents, p1, c1⟩ : TabV) :: ts).getD k default).dp (((⟨ents, p1, c1⟩ : TabV) :: ts).getD k default).data.length (((⟨ents, p1, c1⟩ : TabV) :: ts).getD k default).dc) := hls _ (df (by omega))
  have hkjb := hlb _ (df (l := ((⟨ents, p1, c1⟩ : TabV) :: ts)) (k := k) (by omega))
  have hdm : (((⟨ents, p1, c1⟩ : TabV) :: ts).map (·.data)).getD k [] = (((⟨ents, p1, c1⟩ : TabV) :: ts).getD k default).data := by
   simp only [List.getD_eq_getElem?_getD, List.getElem?_map]
   cases ((⟨ents, p1, c1⟩ : TabV) :: ts)[k]? <;> rfl
  refine ar (zz0 (aa rfl) (zz0 (gj rfl af) ?_))
  refine zz0 (aa rfl) (ad (aF ?_))
  refine bL (ι := Nat × Value) (fun ⟨j, Vo⟩ => j ≤ (((⟨ents, p1, c1⟩ : TabV) :: ts).getD k default).data.length) (fun _ => _) (fun ⟨j, Vo⟩ => [rowE Vo 23 al (kt ins ((⟨ents, p1, c1⟩ : TabV) :: ts) k j), rowE V3 31 fR ((⟨ents, p1, c1⟩ : TabV) :: ts), cellE b1 [.slice pI ins.length cI, .slice p1 ents.length c1, .slice pu nu cu, .slice pb nb cb] 52]) (fun ⟨j, Vo⟩ => [(22, .int .i64 (j : Nat)), (5, Vo)]) (fun ⟨j, Vo⟩ => (((⟨ents, p1, c1⟩ : TabV) :: ts).getD k default).data.length - j) (0, _) (Nat.zero_le _) (Front.c (Front.c Front.nil)) (by repeat' constructor) rfl (fun i hi m hm => ?_)
  obtain ⟨j, Vo⟩ := i
  replace hi : j ≤ (((⟨ents, p1, c1⟩ : TabV) :: ts).getD k default).data.length := hi
  replace hm : m = (((⟨ents, p1, c1⟩ : TabV) :: ts).getD k default).data.length - j := hm
  change Tr _ _ [rowE Vo 23 al (kt ins ((⟨ents, p1, c1⟩ : TabV) :: ts) k j), rowE V3 31 fR ((⟨ents, p1, c1⟩ : TabV) :: ts), cellE b1 [.slice pI ins.length cI, .slice p1 ents.length c1, .slice pu nu cu, .slice pb nb cb] 52] ([(22, .int .i64 (j : Nat)), (5, Vo)] ++ _) _
  have hkl := BY (ins := ins) (k := k) (j := j) hlb (by omega)
  have hkm : (k + 1) * 700 ≤ 701 * 700 := Nat.mul_le_mul_right _ (by omega)
  refine ah (zz0 (bT rfl rfl) (ad (an ?_)))
  refine au rfl ?_ ?_ <;> intro h5 <;> try simp only [bs] at h5
  ·refine bC (an (aF (ah (zz0 (iH rfl rfl af ae) ?_))))
   refine zz0 (jl rfl am) ?_
   refine dC cC rfl (fun b6 => ?_)
   refine aB al rfl rfl ae ?_
   refine aI (zz0 (zz2 (off := 0) (ft := 50) rfl bY rfl cY) ?_)
   refine zz0 (aH rfl dq) ?_
   refine zz0 (eU rfl rfl) ?_
   refine zz0 (az rfl Tryz.call86 (fun w hw => j2 ins _ _ _ w (hw.slF hI') Tryz.call158 (fun i => decide (i.addr = (((⟨ents, p1, c1⟩ : TabV) :: ts).getD k default).data.getD j default)) (fun x hx w'' h => BW x _ _ w'' (cellE.cell (hw.ent _ (by repeat constructor)) h rfl)))) ?_
   refine ad ?_
   refine au rfl ?_ ?_ <;> intro h7 <;> try simp only [bs] at h7
   ·refine ar (zz0 (aa rfl) (zz0 (aH rfl am) ?_))
    refine iG (E := al) ((((⟨ents, p1, c1⟩ : TabV) :: ts).getD k default).data.getD j default) rfl rfl af ae cC (fun V8 => ?_)
    refine zz1 rfl rfl af eS (fun V9 => ?_)
    refine zz0 (ab rfl) (aD (aY (ac (ar (zz0 (cB rfl rfl) ?_)))))
    refine zz0 (aa rfl) (ad ?_)
    rw [← BX (by omega) (by assumption)]
    refine cK (j + 1, _) (Front.c (Front.c Front.nil)) (zz8 17 rfl) (o := (by show j + 1 ≤ _; omega))
   refine cd (aY (ac (ar (zz0 (cB rfl rfl) ?_))))
   refine zz0 (aa rfl) (ad ?_)
   rw [← Ds (by omega) (by first | assumption | simp_all)]
   refine cK (j + 1, _) (Front.c (Front.c Front.nil)) (zz8 12 rfl) (o := (by show j + 1 ≤ _; omega))
  refine bJ (aG (aG (bj (aY (ac (ar (zz0 (cB rfl rfl) ?_)))))))
  refine zz0 (aa rfl) (ad ?_)
  rw [zI ins ((⟨ents, p1, c1⟩ : TabV) :: ts) (by omega) (j := j) (by rw [hdm]; omega)]
  refine cK (k + 1, _) (Front.c (Front.c Front.nil)) (zz8 14 rfl) (o := (by show k + 1 ≤ _; omega))
 refine bJ (aG (aG (bj (ac (an ?_)))))
 obtain rfl : k = ((⟨ents, p1, c1⟩ : TabV) :: ts).length := by omega
 rw [BZ]
 have hrl := nz ins (ls := ((⟨ents, p1, c1⟩ : TabV) :: ts).map (·.data)) (n := 700) (fun t ht => by
  obtain ⟨r, hr, rfl⟩ := List.mem_map.1 ht
  exact hlb r hr)
 rw [List.length_map] at hrl
 have hrm : ((⟨ents, p1, c1⟩ : TabV) :: ts).length * 700 ≤ 701 * 700 := Nat.mul_le_mul_right _ hll
 refine ar (zz0 (aa rfl) (dW rfl Tryz.call141 (by repeat constructor) (fun w hw => vn (jZ ins (((⟨ents, p1, c1⟩ : TabV) :: ts).map (·.data))).toArray _ w (hw.ent _ (.head _)) (by rw [List.size_toArray]; omega)) rfl ?_))
 rw [xR]
 refine aI (zz0 (aa rfl) ?_)
 refine vf rfl Tryz.call159 (by repeat constructor) (fun w hw => yS (fQ (jZ ins (((⟨ents, p1, c1⟩ : TabV) :: ts).map (·.data)))) _ w (hw.ent _ (.head _)) (by rw [qx]; omega)) rfl (fun V10 hV10 => ?_)
 refine zz0 (ab rfl) (ad (aC ?_))
 refine aX Tryz.results106 rfl (fun w' hw => ?_)
 exact ⟨_, rfl, hw.b0, hw.new (.head _)⟩
end Go.Proofs.YtiajjbhcpeadfaaGreat
namespace Go.Proofs.YtiajjbhcpeadfaaGreat
open Go Go.HL Go.RowKit
theorem Dl (x0 x1 x2 x3 : Option Addr) (xn0 xc0 xn1 xc1 xn2 xc2 xn3 xc3 : Nat) (l : List SecV) (pV : Option Addr) (cV : Nat) (es : List UInt32) (VE : Value) (ts : List TabV) (at_ : List UInt32) (pt pa : Option Addr) (ct ca : Nat) (w : World) (hV : Sl (hp w) dJ l (.slice pV l.length cV)) (hB : SecB l) (hD : DataIn (hp w) l) (hN : ∀ s ∈ l, s.name.size ≤ 140737488351232) (hE : Sl (hp w) al es VE) (hT : Sl (hp w) fR ts (.slice pt ts.length ct)) (hTI : TabIn (hp w) ts) (hTB : oe ts) (hP : Sl (hp w) al at_ (.slice pa at_.length ca)) (ht : totD l ≤ 600) (hel : es.length ≤ 100) :
  Calls Tryz.prog 52 #[.agg #[.slice x0 xn0 xc0, .slice x1 xn1 xc1, .slice x2 xn2 xc2, .slice x3 xn3 xc3, .slice pt ts.length ct, .slice pa at_.length ca], (.slice pV l.length cV), VE] w (fun e w' => ∃ i : (Value × Value × Value × Value × Value × Value) × (CodeP × FndV × Int) × List (RV UInt32), e = .returned ((fun i : (Value × Value × Value × Value × Value × Value) × (CodeP × FndV × Int) × List (RV UInt32) => .tuple #[.agg #[i.1.1, i.1.2.1, i.1.2.2.1, i.1.2.2.2.1, i.1.2.2.2.2.1, i.1.2.2.2.2.2], .int .i64 i.2.1.2.2]) i) ∧ Below w.heap.size w w' ∧ NewEnts w w' ((fun i : (Value × Value × Value × Value × Value × Value) × (CodeP × FndV × Int) × List (RV UInt32) => rowE i.1.1 36 aM i.2.1.1.ins :: rowE i.1.2.1 23 al i.2.1.1.ents :: rowE i.1.2.2.1 23 al i.2.1.1.unk :: rowE i.1.2.2.2.1 23 al i.2.1.1.bad :: rowE i.1.2.2.2.2.1 31 dh i.2.2 :: rowE i.1.2.2.2.2.2 23 al i.2.1.2.1.at_ :: i.2.2.map (rvE 23 al)) i) ∧ (fun i : (Value × Value × Value × Value × Value × Value) × (CodeP × FndV × Int) × List (RV UInt32) => RoundIs l es ts at_ i.2.1 ∧ i.2.2.map (·.data) = i.2.1.2.1.ts) i) := by
 have hV0 : Sl (Bg.of0 w).blk dJ l (.slice pV l.length cV) := hV
 have hD0 : DataIn (Bg.of0 w).blk l := hD
 have hE0 : Sl (Bg.of0 w).blk al es VE := hE
 have hT0 : Sl (Bg.of0 w).blk fR ts (.slice pt ts.length ct) := hT
 have hTI0 : TabIn (Bg.of0 w).blk ts := hTI
 have hP0 : Sl (Bg.of0 w).blk al at_ (.slice pa at_.length ca) := hP
 refine lE Tryz.func52 rfl Tryz.ntmps52 rfl ?_
 refine ah ?_
 refine dG rfl rfl (fun b1 => ?_)
 refine dC jB rfl (fun b2 => ?_)
 refine zz0 (ab rfl) (aI (zz0 (aa rfl) (zz0 (aa rfl) (zz0 (zz2 (off := 4) (ft := 53) rfl cM rfl fY) ?_))))
 refine zz0 (aH rfl jK) ?_
 refine zz0 (zz2 (off := 5) (ft := 31) rfl cM rfl cg) ?_
 refine zz0 (aH rfl dl) ?_
 refine eB (fun i : ((Value × Value × Value × Value) × CodeP × Int) => .tuple #[.agg #[i.1.1, i.1.2.1, i.1.2.2.1, i.1.2.2.2], .int .i64 i.2.2]) (fun i : ((Value × Value × Value × Value) × CodeP × Int) => [rowE i.1.1 36 aM i.2.1.ins, rowE i.1.2.1 23 al i.2.1.ents, rowE i.1.2.2.1 23 al i.2.1.unk, rowE i.1.2.2.2 23 al i.2.1.bad]) (ok := fun i => WalkIs l ts at_ es i.2.1 i.2.2) rfl rfl Tryz.call28 (fun w hw => walk_any l ts at_ es _ VE _ _ w (hw.slF hV0) hB (hD0.mono hw.bg) hN (hw.slF hE0) (hw.slF hT0) (hTI0.mono hw.bg) hTB (hw.slF hP0) ht hel) rfl (fun i hwk => ?_)
 obtain ⟨⟨Vi, Ve, Vu, Vb⟩, c, ew⟩ := i
 replace hwk : WalkIs l ts at_ es c ew := hwk
 have hcl := vP hTB hwk
 change Tr _ _ [rowE Vi 36 aM c.ins, rowE Ve 23 al c.ents, rowE Vu 23 al c.unk, rowE Vb 23 al c.bad, cellE b2 [.slice none 0 0, .slice none 0 0, .slice none 0 0, .slice none 0 0, .slice none 0 0, .slice none 0 0] 114, cellE b1 [.slice x0 xn0 xc0, .slice x1 xn1 xc1, .slice x2 xn2 xc2, .slice x3 xn3 xc3, .slice pt ts.length ct, .slice pa at_.length ca] 114] _ _
 refine iC (V := Vi) (fun pVi cVi hpv => ?_)
 subst hpv
 refine iC (V := Ve) (fun pVe cVe hpv => ?_)
 subst hpv
 refine iC (V := Vu) (fun pVu cVu hpv => ?_)
 subst hpv
 refine iC (V := Vb) (fun pVb cVb hpv => ?_)
 subst hpv
 refine zz0 (aa rfl) (zz0 (aN rfl rfl) (zz0 (aN rfl rfl) ?_))
 refine dC d5 rfl (fun b3 => ?_)
 refine zz5 rfl rfl cn ?_
 refine zz0 (ab rfl) (ad (an (ah (zz0 (aa rfl) (zz0 (fH rfl rfl) (ad ?_))))))
 refine au rfl ?_ ?_ <;> intro h4 <;> try simp only [bs] at h4
 ·have hqw := h4
  refine an (bZ 36 aM ?_)
  refine bZ 23 al ?_
  refine bZ 23 al ?_
  refine bZ 23 al ?_
  refine bZ 23 al ?_
  refine bZ 31 (dh (α := UInt32)) ?_
  refine ar (zz0 (bK (vs := []) rfl rfl (ry)) ?_)
  refine zz0 (aa rfl) (zz5 rfl rfl eJ ?_)
  refine zz0 (ab rfl) (ad (aC (ay ?_)))
  refine kG Tryz.results52 rfl rfl ia eJ (fun w' hw => ?_)
  exact ⟨((.slice none 0 0, .slice none 0 0, .slice none 0 0, .slice none 0 0, .slice none 0 0, .slice none 0 0), (⟨[], [], [], []⟩, ⟨[], []⟩, ew), []), rfl, hw.below0 (Bg.le.refl _), hw.ents0 rfl (by repeat' (first | exact Pick.refl _ | exact Del.here _ | apply Pick.cons | apply Del.there | apply Pick.skip | exact Pick.nil _)), ⟨c, ew, hwk, by rw [if_pos hqw]⟩, rfl⟩
 have hqw : ew = 0 := by simpa using h4
 refine bC (an ?_)
 obtain ⟨R, hR⟩ : ∃ R, R = gl c.ins c.ents c.unk c.bad := ⟨_, rfl⟩
 have hkl := vC c.ins c.ents c.unk c.bad
 rw [← hR] at hkl
 have hkI : ∀ x ∈ R.kept, InsOK x := fun x hx => tA hwk x (D6 (by rw [← hR]; exact hx))
 have hks : R.kept.Pairwise (fun x y => Cg k7 y x = false) := (by rw [hR]; exact tO c.ins c.ents c.unk c.bad : R.kept.Pairwise fun a b => ltA a b = true).imp fun {a b} q => CX.asym (by unfold Cg k7; unfold ltA at q; rw [decide_eq_true_eq] at q ⊢; exact (tj _ _).2 q)
 refine ar (zz0 (bG rfl fF cn) ?_)
 refine iT (fun i : (Value × Value × Value × Value × Value) => .tuple #[.agg #[i.1, i.2.1, i.2.2.1, i.2.2.2.1], i.2.2.2.2]) (fun i : (Value × Value × Value × Value × Value) => [rowE i.1 36 aM R.kept, rowE i.2.1 23 al R.ents, rowE i.2.2.1 23 al R.unk, rowE i.2.2.2.1 23 al R.bad, rowE i.2.2.2.2 23 al R.rem]) (ok := fun _ => True) rfl Tryz.call29 (fun w hw => (yc c.ins c.ents c.unk c.bad _ _ _ _ w (hw.row (by repeat constructor)) (hw.row (by repeat constructor)) (hw.row (by repeat constructor)) (hw.row (by repeat constructor)) (tA hwk) (by omega) (by omega) (by omega) (by omega)).mono fun e w' ⟨i, q1, q2, q3⟩ => ⟨i, q1, q2, by rw [hR]; exact q3, trivial⟩) rfl (fun i5 _ => ?_)
 obtain ⟨Ki, Ke, Ku, Kb, Kr⟩ := i5
 change Tr _ _ (rowE Ki 36 aM R.kept :: rowE Ke 23 al R.ents :: rowE Ku 23 al R.unk :: rowE Kb 23 al R.bad :: rowE Kr 23 al R.rem :: _) _ _
 refine iC (V := Ki) (fun pKi cKi hpv => ?_)
 subst hpv
 refine iC (V := Ke) (fun pKe cKe hpv => ?_)
 subst hpv
 refine iC (V := Ku) (fun pKu cKu hpv => ?_)
 subst hpv
 refine iC (V := Kb) (fun pKb cKb hpv => ?_)
 subst hpv
 refine zz0 (aa rfl) (zz0 (aN rfl rfl) (zz0 (aN rfl rfl) ?_))
 refine dC d5 rfl (fun b5 => ?_)
 refine zz5 rfl rfl cn ?_
 refine zz0 (ab rfl) (aI (zz0 (bG rfl fF cn) ?_))
 refine zz0 (bK (vs := [(0, _)]) (cs := #[.slice pKi R.kept.length cKi, .slice pKe R.ents.length cKe, .slice pKu R.unk.length cKu, .slice pKb R.bad.length cKb, .slice none 0 0, .slice none 0 0]) rfl rfl (by kernel_rfl)) ?_
 refine dC jB rfl (fun b6 => ?_)
 refine zz5 rfl rfl eJ ?_
 refine aI (zz0 (ab rfl) (ad (an (ah (zz0 (zz2 (off := 0) (ft := 52) rfl cM rfl cn) ?_)))))
 refine zz0 (gi (vs := [.slice pKi R.kept.length cKi, .slice pKe R.ents.length cKe, .slice pKu R.unk.length cKu, .slice pKb R.bad.length cKb]) rfl (by repeat constructor) fF cn (by rfl) (by rfl)) ?_
 refine zz0 (zz2 (off := 4) (ft := 53) rfl cM rfl fY) ?_
 refine zz0 (aH rfl jK) ?_
 refine gR rfl Tryz.call106 (fun w hw => Dq R.kept R.ents ts _ _ _ _ _ _ _ _ _ _ _ w (hw.row (by repeat constructor)) (hw.row (by repeat constructor)) (hw.slF hT0) (hTI0.mono hw.bg) hTB (by omega)) rfl (fun V7 => ?_)
 obtain ⟨rts, hrts⟩ : ∃ rts, rts = jo R.kept R.ents (ts.map (·.data)) := ⟨_, rfl⟩
 rw [← hrts]
 have hrl : rts.length ≤ 490700 := by
  rw [hrts]
  refine BV (by omega) (fun t ht => ?_) (by rw [List.length_map]; exact hTB.1)
  obtain ⟨r, hr, rfl⟩ := List.mem_map.1 ht
  have := hTB.2 r hr; omega
 refine zz0 (lQ rfl af) ?_
 refine zz0 (aa rfl) (ad (aF (bZ 177 (dh (α := StV)) ?_)))
 refine bL (ι := Nat × Bg × List (RV StV) × Value) (fun ⟨k, G, ss, Vs⟩ => ((k ≤ rts.length ∧ (Bg.of0 w).le G) ∧ RvIn cF G.blk ss) ∧ ss.map (·.data) = ka R.kept (rts.take k) ∧ lR R.kept (rts.take k) = 0) (fun ⟨k, G, ss, Vs⟩ => G) (fun ⟨k, G, ss, Vs⟩ => [rowE Vs 177 dh ss, rowE V7 23 al rts, cellE b6 [.slice pKi R.kept.length cKi, .slice pKe R.ents.length cKe, .slice pKu R.unk.length cKu, .slice pKb R.bad.length cKb, .slice none 0 0, .slice none 0 0] 114, rowE (.slice pKi R.kept.length cKi) 36 aM R.kept, rowE (.slice pKe R.ents.length cKe) 23 al R.ents, rowE (.slice pKu R.unk.length cKu) 23 al R.unk, rowE (.slice pKb R.bad.length cKb) 23 al R.bad, cellE b2 [.slice none 0 0, .slice none 0 0, .slice none 0 0, .slice none 0 0, .slice none 0 0, .slice none 0 0] 114]) (fun ⟨k, G, ss, Vs⟩ => [(56, .int .i64 (k : Nat)), (13, Vs)]) (fun ⟨k, G, ss, Vs⟩ => rts.length - k) (0, _, [], _) ⟨⟨⟨Nat.zero_le _, Bg.le.refl _⟩, fun t ht => by cases ht⟩, rfl, rfl⟩ (Front.c (Front.c Front.nil)) (by repeat' constructor) rfl (fun i hi m hm => ?_)
 obtain ⟨k, G, ss, Vs⟩ := i
 replace hi : ((k ≤ rts.length ∧ (Bg.of0 w).le G) ∧ RvIn cF G.blk ss) ∧ ss.map (·.data) = ka R.kept (rts.take k) ∧ lR R.kept (rts.take k) = 0 := hi
 replace hm : m = rts.length - k := hm
 change Tr _ (G) [rowE Vs 177 dh ss, rowE V7 23 al rts, cellE b6 [.slice pKi R.kept.length cKi, .slice pKe R.ents.length cKe, .slice pKu R.unk.length cKu, .slice pKb R.bad.length cKb, .slice none 0 0, .slice none 0 0] 114, rowE (.slice pKi R.kept.length cKi) 36 aM R.kept, rowE (.slice pKe R.ents.length cKe) 23 al R.ents, rowE (.slice pKu R.unk.length cKu) 23 al R.unk, rowE (.slice pKb R.bad.length cKb) 23 al R.bad, cellE b2 [.slice none 0 0, .slice none 0 0, .slice none 0 0, .slice none 0 0, .slice none 0 0, .slice none 0 0] 114] ([(56, .int .i64 (k : Nat)), (13, Vs)] ++ _) _
 obtain ⟨⟨⟨hk, hG⟩, hss⟩, hks1, hks0⟩ := hi
 have hsl : ss.length = min k rts.length := by have := congrArg List.length hks1; rw [List.length_map] at this; rw [this]; unfold ka; rw [List.length_map, List.length_take]
 refine ah (zz0 (bT rfl rfl) (ad (an ?_)))
 refine au rfl ?_ ?_ <;> intro h8 <;> try simp only [bs] at h8
 ·refine bC (an (aF (ah (zz0 (zz7 rfl rfl af ae) ?_))))
  refine zz0 (er rfl am) ?_
  refine zz0 (ab rfl) (aI (zz0 (zz2 (off := 0) (ft := 52) rfl cM rfl cn) ?_))
  refine zz0 (zz2 (off := 0) (ft := 50) rfl bY rfl cY) ?_
  refine zz0 (aH rfl dq) ?_
  refine zz0 (aa rfl) ?_
  refine eB (fun V : Value => .tuple #[V, .int .i64 (eC R.kept (rts.getD k default) 4096).2]) (fun V => [rowE V 37 cF (eC R.kept (rts.getD k default) 4096).1]) (ok := fun _ => True) hG.dr rfl Tryz.call107 (fun w hw => (zb R.kept (rts.getD k default) 4096 _ w (hw.row (by repeat constructor)) hkI (by omega)).mono fun e w' ⟨V, q1, q2, q3⟩ => ⟨V, q1, q2, q3, trivial⟩) rfl (fun VA _ => ?_)
  refine zz0 (aa rfl) (zz0 (aN rfl rfl) (zz0 (aN rfl rfl) (zz0 (ab rfl) (zz0 (ab rfl) (ad (an (ah (zz0 (aa rfl) (zz0 (fH rfl rfl) (ad ?_))))))))))
  refine au rfl ?_ ?_ <;> intro h9 <;> try simp only [bs] at h9
  ·have hqe := h9
   refine an (bZ 36 aM ?_)
   refine bZ 23 al ?_
   refine bZ 23 al ?_
   refine bZ 23 al ?_
   refine bZ 23 al ?_
   refine bZ 31 (dh (α := UInt32)) ?_
   refine ar (zz0 (bK (vs := []) rfl rfl (ry)) ?_)
   refine zz0 (aa rfl) (zz5 rfl rfl eJ ?_)
   refine zz0 (ab rfl) (ad (aC (ay (bv (ay (ay (bv (ay ?_))))))))
   refine kG Tryz.results52 rfl rfl ia eJ (fun w' hw => ?_)
   have h1 := rX hks0 (by omega : k < rts.length)
   have hee : lR R.kept rts = (eC R.kept (rts.getD k default) 4096).2 := by rw [yK (k := k + 1) (by rw [h1]; exact hqe), h1]
   exact ⟨((.slice none 0 0, .slice none 0 0, .slice none 0 0, .slice none 0 0, .slice none 0 0, .slice none 0 0), (⟨[], [], [], []⟩, ⟨[], []⟩, (eC R.kept (rts.getD k default) 4096).2), []), rfl, hw.below0 hG, hw.ents0 hG.lo (by repeat' (first | exact Pick.refl _ | exact Del.here _ | apply Pick.cons | apply Del.there | apply Pick.skip | exact Pick.nil _)), ⟨c, ew, hwk, by rw [if_neg (fun q => q hqw), zF hR (by rw [← hrts, hee]; exact hqe), ← hrts, hee]⟩, rfl⟩
  have hqe : (eC R.kept (rts.getD k default) 4096).2 = 0 := by simpa using h9
  refine bC ?_
  have hek : lR R.kept (rts.take (k + 1)) = 0 := by
   rw [rX hks0 (by omega)]; exact hqe
  refine iC (V := VA) (fun pA cA hpv => ?_)
  subst hpv
  refine j6 (V := .slice pA (eC R.kept (rts.getD k default) 4096).1.length cA) (T := 37) (E := cF) (by repeat constructor) (fun G2 hG2 hA2 => ?_)
  refine ar (zz0 (aa rfl) (zz0 (aa rfl) ?_))
  refine iG (E := (dh (α := StV))) (⟨(eC R.kept (rts.getD k default) 4096).1, pA, cA⟩ : RV StV) rfl rfl iZ eI Tryz.zeroValue177 (fun V10 => ?_)
  refine zz1 rfl rfl iZ zu (fun V11 => ?_)
  refine zz0 (ab rfl) (aD (aY (ac (ar (zz0 (cB rfl rfl) ?_)))))
  refine zz0 (aa rfl) (ad ?_)
  apply g9 (k + 1, G2, ss ++ [⟨(eC R.kept (rts.getD k default) 4096).1, pA, cA⟩], _)
  ·exact rfl
  ·exact (Front.c (Front.c Front.nil))
  ·exact zz8 25 rfl
  ·exact (by repeat' constructor)
  ·exact ⟨⟨⟨by omega, hG.trans hG2⟩, fun t ht => by
   rcases List.mem_append.1 ht with ht | ht
   ·exact (hss t ht).mono hG2.blk
   rw [List.mem_singleton.1 ht]; exact hA2⟩, by rw [List.map_append, hks1, xO (by omega)]; rfl, hek⟩
  exact (by (try dsimp only); omega)
 refine bJ (aG (aG (bj (ac (an ?_)))))
 obtain rfl : k = rts.length := by omega
 rw [List.take_length] at hks1 hks0
 have hVG := hV0.mono hG.blk
 have hDG := hD0.mono hG.blk
 refine ar (zz0 (zz2 (off := 0) (ft := 52) rfl cM rfl cn) ?_)
 refine zz0 (zz2 (off := 0) (ft := 50) rfl bY rfl cY) ?_
 refine zz0 (aH rfl dq) ?_
 refine gR rfl Tryz.call77 (fun w hw => vQ R.kept _ w (hw.row (by repeat constructor)) (by omega)) rfl (fun VC => ?_)
 refine zz0 (ab rfl) (aI (zz0 (aa rfl) ?_))
 refine gI (fun c2 => c2 = R.kept) rfl Tryz.call78 (fun w hw => (ou R.kept _ 108 [] k7 (fun _ => True) (fun _ _ _ _ _ _ => trivial) Tryz.call108 (fun x y w' _ => BU x y w') CX w trivial (hw.ent _ (.head _)) (by omega)).mono fun e w' ⟨q1, c2, ⟨q2, q3, q4⟩, q5, q6⟩ => ⟨q1, c2, (rC CX _ _ q2 hks (Srt.all (by rw [q2.len]; exact q4))).symm, q5, q6⟩) rfl (fun c2 hc2 => ?_)
 subst hc2
 refine ad (an (ah (zz0 (aa rfl) (zz0 (lQ rfl aL) ?_))))
 refine zz0 (aa rfl) (ad (aF (bZ 31 (dh (α := UInt32)) ?_)))
 refine bZ 23 al ?_
 refine bL (ι := Nat × List (RV UInt32) × List UInt32 × Value × Value) (fun ⟨k, rs, at2, Vt, Vp⟩ => k ≤ R.kept.length ∧ (⟨rs.map (·.data), at2⟩ : FndV) = (l4 l R.kept (ss.map (·.data)) (R.kept.take k))) (fun _ => G) (fun ⟨k, rs, at2, Vt, Vp⟩ => (rowE VC 36 aM R.kept :: cellE b6 [.slice pKi R.kept.length cKi, .slice pKe R.ents.length cKe, .slice pKu R.unk.length cKu, .slice pKb R.bad.length cKb, Vt, Vp] 114 :: rowE Vt 31 dh rs :: rowE Vp 23 al at2 :: rowE Vs 177 dh ss :: rowE (.slice pKi R.kept.length cKi) 36 aM R.kept :: rowE (.slice pKe R.ents.length cKe) 23 al R.ents :: rowE (.slice pKu R.unk.length cKu) 23 al R.unk :: rowE (.slice pKb R.bad.length cKb) 23 al R.bad :: cellE b2 [.slice none 0 0, .slice none 0 0, .slice none 0 0, .slice none 0 0, .slice none 0 0, .slice none 0 0] 114 :: (rs.map (rvE 23 al) ++ []))) (fun ⟨k, rs, at2, Vt, Vp⟩ => [(85, .int .i64 (k : Nat))]) (fun ⟨k, rs, at2, Vt, Vp⟩ => R.kept.length - k) (0, [], [], _, _) ⟨Nat.zero_le _, rfl⟩ (Front.c Front.nil) (by repeat' (first | exact Pick.refl _ | exact Del.here _ | apply Pick.cons | apply Del.there | apply Pick.skip | exact Pick.nil _)) rfl (fun i hi m hm => ?_)
 obtain ⟨k, rs, at2, Vt, Vp⟩ := i
 replace hi : k ≤ R.kept.length ∧ (⟨rs.map (·.data), at2⟩ : FndV) = (l4 l R.kept (ss.map (·.data)) (R.kept.take k)) := hi
 replace hm : m = R.kept.length - k := hm
 change Tr _ _ (rowE VC 36 aM R.kept :: cellE b6 [.slice pKi R.kept.length cKi, .slice pKe R.ents.length cKe, .slice pKu R.unk.length cKu, .slice pKb R.bad.length cKb, Vt, Vp] 114 :: rowE Vt 31 dh rs :: rowE Vp 23 al at2 :: rowE Vs 177 dh ss :: rowE (.slice pKi R.kept.length cKi) 36 aM R.kept :: rowE (.slice pKe R.ents.length cKe) 23 al R.ents :: rowE (.slice pKu R.unk.length cKu) 23 al R.unk :: rowE (.slice pKb R.bad.length cKb) 23 al R.bad :: cellE b2 [.slice none 0 0, .slice none 0 0, .slice none 0 0, .slice none 0 0, .slice none 0 0, .slice none 0 0] 114 :: (rs.map (rvE 23 al) ++ [])) ([(85, .int .i64 (k : Nat))] ++ _) _
 obtain ⟨hk, hfa⟩ := hi
 refine ah (zz0 (bT rfl rfl) (ad (an ?_)))
 refine au rfl ?_ ?_ <;> intro h12 <;> try simp only [bs] at h12
 ·refine bC ?_
  refine cZ (ι := List (RV UInt32) × List UInt32 × Value × Value) (fun ⟨rs3, at3, Vt3, Vp3⟩ => (⟨rs3.map (·.data), at3⟩ : FndV) = ju l R.kept (ss.map (·.data)) ⟨rs.map (·.data), at2⟩ (R.kept.getD k default)) (fun _ => G) (fun ⟨rs3, at3, Vt3, Vp3⟩ => (rowE VC 36 aM R.kept :: cellE b6 [.slice pKi R.kept.length cKi, .slice pKe R.ents.length cKe, .slice pKu R.unk.length cKu, .slice pKb R.bad.length cKb, Vt3, Vp3] 114 :: rowE Vt3 31 dh rs3 :: rowE Vp3 23 al at3 :: rowE Vs 177 dh ss :: rowE (.slice pKi R.kept.length cKi) 36 aM R.kept :: rowE (.slice pKe R.ents.length cKe) 23 al R.ents :: rowE (.slice pKu R.unk.length cKu) 23 al R.unk :: rowE (.slice pKb R.bad.length cKb) 23 al R.bad :: cellE b2 [.slice none 0 0, .slice none 0 0, .slice none 0 0, .slice none 0 0, .slice none 0 0, .slice none 0 0] 114 :: (rs3.map (rvE 23 al) ++ []))) (fun ⟨rs3, at3, Vt3, Vp3⟩ => []) ?_ (fun i hi => ?_)
  ·skip
   refine aF (ah (zz0 (zz7 rfl rfl aL ax) ?_))
   refine zz0 (mg rfl aQ ax) ?_
   refine dC bR rfl (fun b13 => ?_)
   refine aB aM rfl rfl ax ?_
   refine ad (an (ah (zz0 (bG rfl aQ ax) ?_)))
   refine zz0 (az rfl Tryz.call38 (fun w hw => sB (R.kept.getD k default) w (hkI _ (df (by omega))))) ?_
   refine zz0 (cP rfl) (ad ?_)
   refine au rfl ?_ ?_ <;> intro h14 <;> try simp only [bs] at h14
   ·have hqi : nI (R.kept.getD k default) = false := h14
    refine bJ (aG (bj (ac ?_)))
    refine qg (_, _, _, _) Front.nil (zz8 6 rfl) (o := (by show _ = _; first | exact (m0 hqi).symm | exact (o8 hbk).symm | exact (o9 hbt hqt).symm | (rw [o7 hqi hbt hqt]; simp)))
   have hqi : nI (R.kept.getD k default) = true := by simpa using h14
   refine dz (zz0 (bK (vs := []) rfl rfl (sR)) ?_)
   refine dC cR rfl (fun b15 => ?_)
   refine aB cF rfl rfl aR ?_
   refine zz0 (ab rfl) (ad (an (ah (zz0 (aa rfl) (zz0 (lQ rfl iZ) ?_)))))
   refine zz0 (aa rfl) (ad (aF ?_))
   refine bL (ι := Nat × StV × Bool) (fun ⟨q, b, kn⟩ => q ≤ ss.length ∧ (b, kn) = (oQ R.kept (R.kept.getD k default).addr ((ss.map (·.data)).take q))) (fun _ => G) (fun ⟨q, b, kn⟩ => (cellE b15 (cF.enc b) 37 :: cellE b13 (aM.enc (R.kept.getD k default)) 36 :: rowE VC 36 aM R.kept :: cellE b6 [.slice pKi R.kept.length cKi, .slice pKe R.ents.length cKe, .slice pKu R.unk.length cKu, .slice pKb R.bad.length cKb, Vt, Vp] 114 :: rowE Vt 31 dh rs :: rowE Vp 23 al at2 :: rowE Vs 177 dh ss :: rowE (.slice pKi R.kept.length cKi) 36 aM R.kept :: rowE (.slice pKe R.ents.length cKe) 23 al R.ents :: rowE (.slice pKu R.unk.length cKu) 23 al R.unk :: rowE (.slice pKb R.bad.length cKb) 23 al R.bad :: cellE b2 [.slice none 0 0, .slice none 0 0, .slice none 0 0, .slice none 0 0, .slice none 0 0, .slice none 0 0] 114 :: (rs.map (rvE 23 al) ++ []))) (fun ⟨q, b, kn⟩ => [(95, .int .i64 (q : Nat)), (22, .bool kn)]) (fun ⟨q, b, kn⟩ => ss.length - q) (0, gk, false) ⟨Nat.zero_le _, rfl⟩ (Front.c (Front.c Front.nil)) (by repeat' (first | exact Pick.refl _ | exact Del.here _ | apply Pick.cons | apply Del.there | apply Pick.skip | exact Pick.nil _)) rfl (fun i hi m hm => ?_)
   obtain ⟨q, b, kn⟩ := i
   replace hi : q ≤ ss.length ∧ (b, kn) = (oQ R.kept (R.kept.getD k default).addr ((ss.map (·.data)).take q)) := hi
   replace hm : m = ss.length - q := hm
   change Tr _ _ (cellE b15 (cF.enc b) 37 :: cellE b13 (aM.enc (R.kept.getD k default)) 36 :: rowE VC 36 aM R.kept :: cellE b6 [.slice pKi R.kept.length cKi, .slice pKe R.ents.length cKe, .slice pKu R.unk.length cKu, .slice pKb R.bad.length cKb, Vt, Vp] 114 :: rowE Vt 31 dh rs :: rowE Vp 23 al at2 :: rowE Vs 177 dh ss :: rowE (.slice pKi R.kept.length cKi) 36 aM R.kept :: rowE (.slice pKe R.ents.length cKe) 23 al R.ents :: rowE (.slice pKu R.unk.length cKu) 23 al R.unk :: rowE (.slice pKb R.bad.length cKb) 23 al R.bad :: cellE b2 [.slice none 0 0, .slice none 0 0, .slice none 0 0, .slice none 0 0, .slice none 0 0, .slice none 0 0] 114 :: (rs.map (rvE 23 al) ++ [])) ([(95, .int .i64 (q : Nat)), (22, .bool kn)] ++ _) _
   obtain ⟨hq, hbf⟩ := hi
   have hgd : ((ss.map (·.data))).getD q default = (ss.getD q default).data := by
    simp only [List.getD_eq_getElem?_getD, List.getElem?_map]
    cases ss[q]? <;> rfl
   refine ah (zz0 (bT rfl rfl) (ad (an ?_)))
   refine au rfl ?_ ?_ <;> intro h16 <;> try simp only [bs] at h16
   ·refine bC (an (aF (ah (zz0 (zz7 rfl rfl iZ eI) ?_))))
    refine zz0 (er rfl gG) ?_
    refine zz0 (ab rfl) (aI (zz0 (zz2 (off := 0) (ft := 52) rfl cM rfl cn) ?_))
    refine zz0 (zz2 (off := 0) (ft := 50) rfl bY rfl cY) ?_
    refine zz0 (aH rfl dq) ?_
    refine zz0 (aa rfl) (zz0 (zz2 (off := 0) (ft := 23) rfl aj rfl ae) ?_)
    refine zz0 (aH rfl am) ?_
    refine zz0 (az rfl Tryz.call109 (fun w hw => An R.kept (ss.getD q default).data (R.kept.getD k default).addr _ _ w (hw.row (by repeat constructor)) (hw.slF (hss _ (df (by omega)))))) ?_
    refine zz0 (aa rfl) (zz0 (aN rfl rfl) (zz0 (aN rfl rfl) ?_))
    refine dC cR rfl (fun b17 => ?_)
    refine aB cF rfl rfl aR ?_
    refine zz0 (ab rfl) (ad (an (ah (zz0 (aa rfl) (zz0 (cP rfl) (ad ?_))))))
    refine au rfl ?_ ?_ <;> intro h18 <;> try simp only [bs] at h18
    ·have hqb : (iY R.kept (ss.getD q default).data (R.kept.getD k default).addr).2 = false := h18
     refine bJ (aG (bj (ac (ar (zz0 (cB rfl rfl) ?_)))))
     refine zz0 (aa rfl) (ad ?_)
     refine nU (q + 1, b, kn) (Front.c (Front.c Front.nil)) (zz8 22 rfl) (o := ⟨by omega, by rw [vV (by rw [List.length_map]; omega), ← hbf, hgd]; unfold Gd; rw [if_neg (by rw [hqb]; simp)]⟩)
    have hqb : (iY R.kept (ss.getD q default).data (R.kept.getD k default).addr).2 = true := by simpa using h18
    refine bC ?_
    refine cZ (ι := StV) (fun x1 => x1 = if kn = true then iF b (iY R.kept (ss.getD q default).data (R.kept.getD k default).addr).1 8 else (iY R.kept (ss.getD q default).data (R.kept.getD k default).addr).1) (fun _ => G) (fun x1 => (cellE b17 (cF.enc x1) 37 :: cellE b15 (cF.enc b) 37 :: cellE b13 (aM.enc (R.kept.getD k default)) 36 :: rowE VC 36 aM R.kept :: cellE b6 [.slice pKi R.kept.length cKi, .slice pKe R.ents.length cKe, .slice pKu R.unk.length cKu, .slice pKb R.bad.length cKb, Vt, Vp] 114 :: rowE Vt 31 dh rs :: rowE Vp 23 al at2 :: rowE Vs 177 dh ss :: rowE (.slice pKi R.kept.length cKi) 36 aM R.kept :: rowE (.slice pKe R.ents.length cKe) 23 al R.ents :: rowE (.slice pKu R.unk.length cKu) 23 al R.unk :: rowE (.slice pKb R.bad.length cKb) 23 al R.bad :: cellE b2 [.slice none 0 0, .slice none 0 0, .slice none 0 0, .slice none 0 0, .slice none 0 0, .slice none 0 0] 114 :: (rs.map (rvE 23 al) ++ []))) (fun x1 => []) ?_ (fun x1 hi => ?_)
    ·skip
     refine ah (zz0 (aa rfl) (ad ?_))
     refine au rfl ?_ ?_ <;> intro h19 <;> try simp only [bs] at h19
     ·have hkn : kn = true := h19
      refine ar (zz0 (bG rfl bQ aR) ?_)
      refine zz0 (bG rfl bQ aR) ?_
      refine zz0 (az rfl nQ (fun w hw => nH _ _ w)) ?_
      refine aB cF rfl rfl aR ?_
      refine ad ?_
      refine qg _ Front.nil (zz8 4 rfl) (o := (by show _ = _; rw [if_pos hkn]))
     have hkn : kn = false := by simpa using h19
     refine bC ?_
     refine qg _ Front.nil (zz8 1 rfl) (o := (by show _ = _; rw [if_neg (by rw [hkn]; simp)]))
    skip
    replace hi : x1 = if kn = true then iF b (iY R.kept (ss.getD q default).data (R.kept.getD k default).addr).1 8 else (iY R.kept (ss.getD q default).data (R.kept.getD k default).addr).1 := hi
    change Tr _ _ (cellE b17 (cF.enc x1) 37 :: cellE b15 (cF.enc b) 37 :: cellE b13 (aM.enc (R.kept.getD k default)) 36 :: rowE VC 36 aM R.kept :: cellE b6 [.slice pKi R.kept.length cKi, .slice pKe R.ents.length cKe, .slice pKu R.unk.length cKu, .slice pKb R.bad.length cKb, Vt, Vp] 114 :: rowE Vt 31 dh rs :: rowE Vp 23 al at2 :: rowE Vs 177 dh ss :: rowE (.slice pKi R.kept.length cKi) 36 aM R.kept :: rowE (.slice pKe R.ents.length cKe) 23 al R.ents :: rowE (.slice pKu R.unk.length cKu) 23 al R.unk :: rowE (.slice pKb R.bad.length cKb) 23 al R.bad :: cellE b2 [.slice none 0 0, .slice none 0 0, .slice none 0 0, .slice none 0 0, .slice none 0 0, .slice none 0 0] 114 :: (rs.map (rvE 23 al) ++ [])) ([] ++ _) _
    have hx1 := hi
    refine ar (zz0 (bG rfl bQ aR) ?_)
    refine aB cF rfl rfl aR ?_
    refine zz0 (ab rfl) (aD (aY (ac (ar (zz0 (cB rfl rfl) ?_)))))
    refine zz0 (aa rfl) (ad ?_)
    refine nU (q + 1, x1, true) (Front.c (Front.c Front.nil)) (zz8 24 rfl) (o := ⟨by omega, by rw [vV (by rw [List.length_map]; omega), ← hbf, hgd]; unfold Gd; rw [if_pos hqb, hx1]; cases kn <;> rfl⟩)
   refine bJ (aG (aG (bj (ac (an (an ?_))))))
   obtain rfl : q = ss.length := by omega
   have hbf2 : (b, kn) = oQ R.kept (R.kept.getD k default).addr (ss.map (·.data)) := by rw [hbf, List.take_of_length_le (by rw [List.length_map]; exact Nat.le_refl _)]
   refine ar (zz0 (aa rfl) (zz0 (cP rfl) (ad ?_)))
   refine au rfl ?_ ?_ <;> intro h20 <;> try simp only [bs] at h20
   ·have hkn : kn = false := h20
    have hbk : (b, false) = oQ R.kept (R.kept.getD k default).addr (ss.map (·.data)) := by rw [← hkn]; exact hbf2
    refine bJ (aG (bj (ac ?_)))
    refine qg (_, _, _, _) Front.nil (zz8 17 rfl) (o := (by show _ = _; first | exact (m0 hqi).symm | exact (o8 hbk).symm | exact (o9 hbt hqt).symm | (rw [o7 hqi hbt hqt]; simp)))
   have hkn : kn = true := by simpa using h20
   have hbt : (b, true) = oQ R.kept (R.kept.getD k default).addr (ss.map (·.data)) := by rw [← hkn]; exact hbf2
   refine dz (zz0 (aa rfl) (zz0 (bG rfl aQ ax) ?_))
   refine zz0 (bG rfl bQ aR) ?_
   refine ic (fun V => .tuple #[V, .int .i64 (cO l (R.kept.getD k default) (b.get (R.kept.getD k default).a)).2]) rfl na (fun w hw => lx l pV cV (R.kept.getD k default) b w (hw.slF hVG) hB (hDG.mono hw.bg) hN (hkI _ (df (by omega)))) rfl (fun VJ => ?_)
   refine zz0 (aa rfl) (zz0 (aN rfl rfl) (zz0 (aN rfl rfl) (zz0 (ab rfl) (zz0 (ab rfl) (aI (zz0 (aa rfl) (zz0 (bA rfl rfl) (ad ?_))))))))
   refine au rfl ?_ ?_ <;> intro h21 <;> try simp only [bs] at h21
   ·have hqt : (cO l (R.kept.getD k default) (b.get (R.kept.getD k default).a)).2 = 0 := h21
    refine iC (V := VJ) (fun pJ cJ hpv => ?_)
    subst hpv
    have htl : (cO l (R.kept.getD k default) (b.get (R.kept.getD k default).a)).1.length ≤ 64 := sn
    have hfl := vH l R.kept (ss.map (·.data)) (R.kept.take k)
    rw [List.length_take] at hfl
    have hrsl : rs.length = (l4 l R.kept (ss.map (·.data)) (R.kept.take k)).ts.length := by rw [← hfa]; simp
    have hatl : at2.length = (l4 l R.kept (ss.map (·.data)) (R.kept.take k)).at_.length := by rw [← hfa]
    refine AB (A := [cellE b15 (cF.enc b) 37, cellE b13 (aM.enc (R.kept.getD k default)) 36, rowE VC 36 aM R.kept, cellE b6 [.slice pKi R.kept.length cKi, .slice pKe R.ents.length cKe, .slice pKu R.unk.length cKu, .slice pKb R.bad.length cKb, Vt, Vp] 114, rowE Vt 31 dh rs, rowE Vp 23 al at2, rowE Vs 177 dh ss, rowE (.slice pKi R.kept.length cKi) 36 aM R.kept, rowE (.slice pKe R.ents.length cKe) 23 al R.ents, rowE (.slice pKu R.unk.length cKu) 23 al R.unk, rowE (.slice pKb R.bad.length cKb) 23 al R.bad, cellE b2 [.slice none 0 0, .slice none 0 0, .slice none 0 0, .slice none 0 0, .slice none 0 0, .slice none 0 0] 114]) (f := (rvE 23 al)) (rs := rs) (⟨(cO l (R.kept.getD k default) (b.get (R.kept.getD k default).a)).1, pJ, cJ⟩ : RV UInt32) ?_
    change Tr _ _ (cellE b15 (cF.enc b) 37 :: cellE b13 (aM.enc (R.kept.getD k default)) 36 :: rowE VC 36 aM R.kept :: cellE b6 [.slice pKi R.kept.length cKi, .slice pKe R.ents.length cKe, .slice pKu R.unk.length cKu, .slice pKb R.bad.length cKb, Vt, Vp] 114 :: rowE Vt 31 dh rs :: rowE Vp 23 al at2 :: rowE Vs 177 dh ss :: rowE (.slice pKi R.kept.length cKi) 36 aM R.kept :: rowE (.slice pKe R.ents.length cKe) 23 al R.ents :: rowE (.slice pKu R.unk.length cKu) 23 al R.unk :: rowE (.slice pKb R.bad.length cKb) 23 al R.bad :: cellE b2 [.slice none 0 0, .slice none 0 0, .slice none 0 0, .slice none 0 0, .slice none 0 0, .slice none 0 0] 114 :: ((rs ++ [(⟨(cO l (R.kept.getD k default) (b.get (R.kept.getD k default).a)).1, pJ, cJ⟩ : RV UInt32)]).map (rvE 23 al) ++ [])) _ _
    refine dU ([cellE b13 (aM.enc (R.kept.getD k default)) 36]) 15 rfl aP ?_
    refine Hu 15 ?_
    repeat' (first
     | refine nV.cons ?_ ?_
     | exact nV.nil
     | (refine ma 1 ?_; refine oS rfl ?_; refine zz0 (aH rfl jK) ?_; refine sM ?_)
     | (refine ma 3 ?_; refine oS rfl ?_; refine iG (E := (dh (α := UInt32))) (⟨(cO l (R.kept.getD k default) (b.get (R.kept.getD k default).a)).1, pJ, cJ⟩ : RV UInt32) rfl rfl cS cg Tryz.zeroValue31 (fun V22 => ?_); refine sM ?_)
     | (refine ma 4 ?_; refine oS rfl ?_; refine zz1 rfl rfl cS uO (fun V23 => ?_); refine du (.head _) (fun pz cz hpz => ?_); subst hpz; refine sM ?_)
     | (refine ma 6 ?_; refine oS rfl ?_; refine zz0 (aH rfl dl) ?_; refine sM ?_)
     | (refine ma 9 ?_; refine oS rfl ?_; refine iG (E := al) (R.kept.getD k default).addr rfl rfl af ae cC (fun V24 => ?_); refine sM ?_)
     | (refine ma 10 ?_; refine oS rfl ?_; refine zz1 rfl rfl af eS (fun V25 => ?_); refine du (.head _) (fun py cy hpy => ?_); subst hpy; refine sM ?_)
     | (refine ma 12 ?_; refine oS rfl ?_; refine zz3 (cs' := [_, _, _, _, _, _]) rfl rfl fY rfl ?_; refine sM ?_)
     | (refine ma 14 ?_; refine oS rfl ?_; refine zz3 (cs' := [_, _, _, _, _, _]) rfl rfl cg rfl ?_; refine sM ?_)
     | (refine gu 0 ?_; refine sL 0 rfl (by kernel_rfl) (cN (aT (aT (cN (aT cL))))) (zz2 (off := 4) (ft := 53) rfl cM rfl fY) ?_)
     | (refine gu 1 ?_; refine sL 2 rfl (by kernel_rfl) (cN (aT (aT (cN (aT cL))))) (aa rfl) ?_)
     | (refine gu 5 ?_; refine sL 5 rfl (by kernel_rfl) (cN (aT (aT (cN (aT cL))))) (zz2 (off := 5) (ft := 31) rfl cM rfl cg) ?_)
     | (refine gu 37 ?_; refine sL 7 rfl (by kernel_rfl) (cN (aT (aT (cN (aT cL))))) (zz2 (off := 0) (ft := 23) rfl aj rfl ae) ?_)
     | (refine gu 165 ?_; refine sL 8 rfl (by kernel_rfl) (cN (aT (aT (cN (aT cL))))) (aH rfl am) ?_)
     | (refine gu 511 ?_; refine sL 11 rfl (by kernel_rfl) (cN (aT (aT (cN (aT cL))))) (zz2 (off := 4) (ft := 53) rfl cM rfl fY) ?_)
     | (refine gu 8191 ?_; refine sL 13 rfl (by kernel_rfl) (cN (aT (aT (cN (aT cL))))) (zz2 (off := 5) (ft := 31) rfl cM rfl cg) ?_)
     | (refine gu 1023 ?_; refine sL 11 rfl (by kernel_rfl) (cN (aT (aT (cN (aT cL))))) (zz2 (off := 4) (ft := 53) rfl cM rfl fY) ?_)
     | (refine gu 421 ?_; refine lP [1, 3, 6, 9] ?_)
     | (refine gu 423 ?_; refine lP [3, 6, 9] ?_)
     | (refine gu 431 ?_; refine lP [4, 6, 9] ?_)
     | (refine gu 447 ?_; refine lP [6, 9] ?_)
     | (refine gu 2559 ?_; refine lP [9] ?_)
     | (refine gu 3071 ?_; refine lP [10] ?_)
     | (refine gu 4095 ?_; refine lP [12] ?_)
     | (refine gu 16383 ?_; refine lP [14] ?_)
     | (refine gu 959 ?_; refine lP [6] ?_)
     | (refine gu 495 ?_; refine lP [4, 9] ?_)
     | (refine gu 1007 ?_; refine lP [4] ?_)
     | (refine gu 943 ?_; refine lP [4, 6] ?_)
     | (refine gu 487 ?_; refine lP [3, 9] ?_)
     | (refine gu 999 ?_; refine lP [3] ?_)
     | (refine gu 935 ?_; refine lP [3, 6] ?_)
     | (refine gu 429 ?_; refine lP [1, 6, 9] ?_)
     | (refine gu 493 ?_; refine lP [1, 9] ?_)
     | (refine gu 1005 ?_; refine lP [1] ?_)
     | (refine gu 941 ?_; refine lP [1, 6] ?_)
     | (refine gu 485 ?_; refine lP [1, 3, 9] ?_)
     | (refine gu 997 ?_; refine lP [1, 3] ?_)
     | (refine gu 933 ?_; refine lP [1, 3, 6] ?_)
     | (
      refine gu 32767 ?_
      refine EU (by kernel_rfl) ?_
      refine aY (ac ?_)
      apply ed (_, _, _, _)
      ·exact rfl
      ·exact Front.nil
      ·exact zz8 41 rfl
      ·exact (by repeat' (first | exact Pick.refl _ | exact Del.here _ | apply Pick.cons | apply Del.there | apply Pick.skip | exact Pick.nil _))
      ·exact (by show _ = _; first | exact (m0 hqi).symm | exact (o8 hbk).symm | exact (o9 hbt hqt).symm | (rw [o7 hqi hbt hqt]; simp))
      )
     )
   have hqt : (cO l (R.kept.getD k default) (b.get (R.kept.getD k default).a)).2 ≠ 0 := h21
   refine cd (aY (ac ?_))
   refine qg (_, _, _, _) Front.nil (zz8 28 rfl) (o := (by show _ = _; first | exact (m0 hqi).symm | exact (o8 hbk).symm | exact (o9 hbt hqt).symm | (rw [o7 hqi hbt hqt]; simp)))
  obtain ⟨rs3, at3, Vt3, Vp3⟩ := i
  replace hi : (⟨rs3.map (·.data), at3⟩ : FndV) = ju l R.kept (ss.map (·.data)) ⟨rs.map (·.data), at2⟩ (R.kept.getD k default) := hi
  change Tr _ _ (rowE VC 36 aM R.kept :: cellE b6 [.slice pKi R.kept.length cKi, .slice pKe R.ents.length cKe, .slice pKu R.unk.length cKu, .slice pKb R.bad.length cKb, Vt3, Vp3] 114 :: rowE Vt3 31 dh rs3 :: rowE Vp3 23 al at3 :: rowE Vs 177 dh ss :: rowE (.slice pKi R.kept.length cKi) 36 aM R.kept :: rowE (.slice pKe R.ents.length cKe) 23 al R.ents :: rowE (.slice pKu R.unk.length cKu) 23 al R.unk :: rowE (.slice pKb R.bad.length cKb) 23 al R.bad :: cellE b2 [.slice none 0 0, .slice none 0 0, .slice none 0 0, .slice none 0 0, .slice none 0 0, .slice none 0 0] 114 :: (rs3.map (rvE 23 al) ++ [])) ([] ++ _) _
  have hi3 := hi
  refine ar (zz0 (cB rfl rfl) ?_)
  refine zz0 (aa rfl) (ad ?_)
  refine nU (k + 1, rs3, at3, Vt3, Vp3) (Front.c Front.nil) (zz8 4 rfl) (o := ⟨by omega, by rw [zZ (by omega), ← hfa]; exact hi3⟩)
 refine bJ (aG (aG (bj (ac (an ?_)))))
 refine iC (V := Vt) (fun pVt cVt hpv => ?_)
 subst hpv
 refine iC (V := Vp) (fun pVp cVp hpv => ?_)
 subst hpv
 refine ar (zz0 (bG rfl ia eJ) ?_)
 refine zz5 rfl rfl eJ ?_
 refine zz0 (ab rfl) (ad (aC ?_))
 refine kG Tryz.results52 rfl rfl ia eJ (fun w' hw => ?_)
 obtain rfl : k = R.kept.length := by omega
 rw [List.take_length] at hfa
 rw [List.append_nil] at hw
 exact ⟨((.slice pKi R.kept.length cKi, .slice pKe R.ents.length cKe, .slice pKu R.unk.length cKu, .slice pKb R.bad.length cKb, _, _), (⟨R.kept, R.ents, R.unk, R.bad⟩, ⟨rs.map (·.data), at2⟩, 0), rs), rfl, hw.below0 hG, hw.ents0 hG.lo (by repeat' (first | exact Pick.refl _ | exact Del.here _ | apply Pick.cons | apply Del.there | apply Pick.skip | exact Pick.nil _)), ⟨c, ew, hwk, by rw [if_neg (fun q => q hqw), BS hR (by rw [← hrts]; exact hks0), ← hrts, ← hks1, hfa]⟩, rfl⟩
end Go.Proofs.YtiajjbhcpeadfaaGreat
namespace Go.HL
open Go
section
variable {P : Program} {Q : Exit → Act → World → Prop} {N : Nat} {F : Bg} {L : List Ent} {M : Fr}
theorem zf {fn : Func} {R : Ending → World → Prop} {t T : TypeId} {u s r q : Tmp} {v v2 v3 : Value} {b k : Nat} {cs : List Value} (hr : fn.results = #[.cell u t, .tmp s, .tmp r, .tmp q]) (hv : look M u = some (.pointer (some ⟨b, 0, none⟩))) (hs : look M s = some v) (hs2 : look M r = some v2) (hs3 : look M q = some v3) (hm : cellE b cs T ∈ L)
  (hagg : ∀ w, (isAgg t).run P w = .ok true w) (hz : ∀ w, (sizeOf t).run P w = .ok k w) (hl : cs.length = k) (h : ∀ w, HpOK F L w → R (.returned (.tuple #[.agg cs.toArray, v, v2, v3])) w) (hD : look M mk0 = some undef := by rfl) :
  Tr N F L M (bodyPost P fn R .ret) := fun a w ha hw => ⟨ha.defers0 hD, _, by
   have h1 := ha.val u _ hv
   have h2 := ha.val s _ hs
   have h3 := ha.val r _ hs2
   have h4 := ha.val q _ hs3
   rw [Array.getD_eq_getD_getElem?] at h1 h2 h3 h4
   simp [results, hr, h1, h2, h3, h4, asAddr, ow (hw.ent _ hm) hagg hz hl], h w hw⟩
theorem HpOK.rvs {α : Type} {T : TypeId} {E : Enc α} {rs : List (RV α)} {w : World} (h : HpOK F L w) (hm : ∀ r ∈ rs, rvE T E r ∈ L) : RvIn E (HL.hp w) rs := fun r hr => rowE.sl (h.ent _ (hm r hr))
end
theorem Pick.left : ∀ (A B : List Ent), Pick (A ++ B) A
 | [], B => .nil _
 | a :: A, B => .cons (.here _) (Pick.left A B)
theorem Av {A B C : List Ent} {N : Nat} {F : Bg} {M : Fr} {X : Act → World → Prop} (K : Tr N F (A ++ (C ++ (B ++ []))) M X) : Tr N F (A ++ (B ++ C)) M X := by
 refine pm (L' := A ++ (C ++ (B ++ []))) ?_ K
 rw [List.append_nil]
 exact List.perm_append_comm.append_left _
theorem tD (rs : List (RV UInt32)) : (rs.map kS).map (·.data) = rs.map (·.data) := by rw [List.map_map]; rfl
theorem Fi {rs : List (RV UInt32)} {L : List (List UInt32)} (h : rs.map (·.data) = L) (h1 : L.length ≤ 700) (h2 : ∀ t ∈ L, t.length ≤ 64) : oe (rs.map kS) := by
 subst h
 rw [List.length_map] at h1
 refine ⟨by rw [List.length_map]; exact h1, fun t ht => ?_⟩
 obtain ⟨r, hr, rfl⟩ := List.mem_map.1 ht
 exact h2 r.data (List.mem_map.2 ⟨r, hr, rfl⟩)
inductive Rnds (l : List SecV) (es : List UInt32) : Nat → FndV → Prop
 | zero : Rnds l es 0 ⟨[], []⟩
 | step (n : Nat) (f : FndV) (ts : List TabV) (o : CodeP × FndV × Int) (h : Rnds l es n f) (ht : ts.map (·.data) = f.ts) (hr : RoundIs l es ts f.at_ o) (h0 : o.2.2 = 0) (hn : ¬ (o.2.1.at_ = f.at_ ∧ o.2.1.ts = f.ts)) : Rnds l es (n + 1) o.2.1
def tX : CodeP := ⟨[], [], [], []⟩
inductive ResIs (l : List SecV) (es : List UInt32) (o : CodeP × FndV × Int) : Prop
 | err (n : Nat) (f : FndV) (ts : List TabV) (o' : CodeP × FndV × Int) (h : Rnds l es n f) (hn : n < 16) (ht : ts.map (·.data) = f.ts) (hr : RoundIs l es ts f.at_ o') (h0 : o'.2.2 ≠ 0) (ho : o = (tX, ⟨[], []⟩, o'.2.2)) : ResIs l es o
 | ok (n : Nat) (f : FndV) (ts : List TabV) (o' : CodeP × FndV × Int) (h : Rnds l es n f) (hn : n < 16) (ht : ts.map (·.data) = f.ts) (hr : RoundIs l es ts f.at_ o') (h0 : o'.2.2 = 0) (hs : o'.2.1.at_ = f.at_ ∧ o'.2.1.ts = f.ts) (ho : o = o') : ResIs l es o
 | out (f : FndV) (h : Rnds l es 16 f) (ho : o = (tX, ⟨[], []⟩, 15)) : ResIs l es o
theorem RoundIs.tabs {l : List SecV} {es : List UInt32} {ts : List TabV} {at_ : List UInt32} {o : CodeP × FndV × Int} (hT : oe ts) (h : RoundIs l es ts at_ o) : (o.2.1.ts.length ≤ totD l ∧ o.2.1.at_.length ≤ totD l) ∧ ∀ t ∈ o.2.1.ts, t.length ≤ 64 := by
 obtain ⟨c, e, hw, hi⟩ := h
 split at hi
 ·subst hi; exact ⟨⟨Nat.zero_le _, Nat.zero_le _⟩, fun t ht => by cases ht⟩
 ·subst hi
  unfold ml
  split
  ·exact ⟨⟨Nat.zero_le _, Nat.zero_le _⟩, fun t ht => by cases ht⟩
  ·have h1 := (vP hT hw).1.1
   have h2 := (vC c.ins c.ents c.unk c.bad).1.1
   have h3 := vH l (gl c.ins c.ents c.unk c.bad).kept (ka (gl c.ins c.ents c.unk c.bad).kept (jo (gl c.ins c.ents c.unk c.bad).kept (gl c.ins c.ents c.unk c.bad).ents (ts.map (·.data)))) (gl c.ins c.ents c.unk c.bad).kept
   exact ⟨⟨Nat.le_trans h3.1 (Nat.le_trans h2 h1), Nat.le_trans h3.2 (Nat.le_trans h2 h1)⟩, Cp _ _ _ _⟩
end Go.HL
namespace Go.Proofs.YtiajjbhcpeadfaaGreat
open Go Go.HL Go.RowKit
theorem pS (l : List SecV) (pV : Option Addr) (cV : Nat) (es : List UInt32) (VE : Value) (w : World) (hV : Sl (hp w) dJ l (.slice pV l.length cV)) (hB : SecB l) (hD : DataIn (hp w) l) (hN : ∀ s ∈ l, s.name.size ≤ 140737488351232) (hE : Sl (hp w) al es VE) (ht : totD l ≤ 600) (hel : es.length ≤ 100) :
  Calls Tryz.prog 17 #[(.slice pV l.length cV), VE] w (fun e w' => ∃ i : (Value × Value × Value × Value × Value × Value) × (CodeP × FndV × Int) × List (RV UInt32), e = .returned ((fun i : (Value × Value × Value × Value × Value × Value) × (CodeP × FndV × Int) × List (RV UInt32) => .tuple #[.agg #[i.1.1, i.1.2.1, i.1.2.2.1, i.1.2.2.2.1], i.1.2.2.2.2.1, i.1.2.2.2.2.2, .int .i64 i.2.1.2.2]) i) ∧ Below w.heap.size w w' ∧ NewEnts w w' ((fun i : (Value × Value × Value × Value × Value × Value) × (CodeP × FndV × Int) × List (RV UInt32) => rowE i.1.1 36 aM i.2.1.1.ins :: rowE i.1.2.1 23 al i.2.1.1.ents :: rowE i.1.2.2.1 23 al i.2.1.1.unk :: rowE i.1.2.2.2.1 23 al i.2.1.1.bad :: rowE i.1.2.2.2.2.1 31 dh i.2.2 :: rowE i.1.2.2.2.2.2 23 al i.2.1.2.1.at_ :: i.2.2.map (rvE 23 al)) i) ∧ (fun i : (Value × Value × Value × Value × Value × Value) × (CodeP × FndV × Int) × List (RV UInt32) => ResIs l es i.2.1 ∧ i.2.2.map (·.data) = i.2.1.2.1.ts) i) := by
 have hV0 : Sl (Bg.of0 w).blk dJ l (.slice pV l.length cV) := hV
 have hD0 : DataIn (Bg.of0 w).blk l := hD
 have hE0 : Sl (Bg.of0 w).blk al es VE := hE
 refine lE Tryz.func17 rfl Tryz.ntmps17 rfl ?_
 refine ah ?_
 refine dC d5 rfl (fun b1 => ?_)
 refine zz0 (ab rfl) (zz0 (ab rfl) (zz0 (ab rfl) (ad (ri (ah ?_)))))
 refine dC jB rfl (fun b2 => ?_)
 refine aI (zz0 (ab rfl) (ad (an (rk ?_))))
 refine ac ?_
 refine cZ (ι := Bg × Int) (fun ⟨G9, e9⟩ => (Bg.of0 w).le G9 ∧ ResIs l es (tX, ⟨[], []⟩, e9)) (fun ⟨G9, e9⟩ => G9) (fun ⟨G9, e9⟩ => [cellE b1 [.slice none 0 0, .slice none 0 0, .slice none 0 0, .slice none 0 0] 52]) (fun ⟨G9, e9⟩ => [(9, .int .i64 e9)]) ?_ (fun i hi => ?_)
 ·skip
  refine ah (zz0 (aa rfl) (ad (aF ?_)))
  refine bL (ι := Nat × Bg × ((Option Addr × Nat × Nat) × (Option Addr × Nat × Nat) × (Option Addr × Nat × Nat) × (Option Addr × Nat × Nat)) × (List TabV × Option Addr × Nat) × (List UInt32 × Option Addr × Nat)) (fun ⟨k, G, ⟨⟨x0, xn0, xc0⟩, ⟨x1, xn1, xc1⟩, ⟨x2, xn2, xc2⟩, ⟨x3, xn3, xc3⟩⟩, ⟨ts, pt, ct⟩, ⟨at_, pa, ca⟩⟩ => ((k ≤ 16 ∧ (Bg.of0 w).le G) ∧ oe ts) ∧ (Sl G.blk fR ts (.slice pt ts.length ct) ∧ TabIn G.blk ts ∧ Sl G.blk al at_ (.slice pa at_.length ca)) ∧ Rnds l es k ⟨ts.map (·.data), at_⟩) (fun ⟨k, G, ⟨⟨x0, xn0, xc0⟩, ⟨x1, xn1, xc1⟩, ⟨x2, xn2, xc2⟩, ⟨x3, xn3, xc3⟩⟩, ⟨ts, pt, ct⟩, ⟨at_, pa, ca⟩⟩ => G) (fun ⟨k, G, ⟨⟨x0, xn0, xc0⟩, ⟨x1, xn1, xc1⟩, ⟨x2, xn2, xc2⟩, ⟨x3, xn3, xc3⟩⟩, ⟨ts, pt, ct⟩, ⟨at_, pa, ca⟩⟩ => [cellE b2 [.slice x0 xn0 xc0, .slice x1 xn1 xc1, .slice x2 xn2 xc2, .slice x3 xn3 xc3, .slice pt ts.length ct, .slice pa at_.length ca] 114, cellE b1 [.slice none 0 0, .slice none 0 0, .slice none 0 0, .slice none 0 0] 52]) (fun ⟨k, G, ⟨⟨x0, xn0, xc0⟩, ⟨x1, xn1, xc1⟩, ⟨x2, xn2, xc2⟩, ⟨x3, xn3, xc3⟩⟩, ⟨ts, pt, ct⟩, ⟨at_, pa, ca⟩⟩ => [(12, .int .i64 (k : Nat))]) (fun ⟨k, G, ⟨⟨x0, xn0, xc0⟩, ⟨x1, xn1, xc1⟩, ⟨x2, xn2, xc2⟩, ⟨x3, xn3, xc3⟩⟩, ⟨ts, pt, ct⟩, ⟨at_, pa, ca⟩⟩ => 16 - k) (0, _, ((none, 0, 0), (none, 0, 0), (none, 0, 0), (none, 0, 0)), ([], none, 0), ([], none, 0)) ⟨⟨⟨Nat.zero_le _, Bg.le.refl _⟩, ⟨Nat.zero_le _, (fun t ht => by cases ht)⟩⟩, ⟨Sl.nil _ _, (fun t ht => by cases ht), Sl.nil _ _⟩, .zero⟩ (Front.c Front.nil) (by repeat' constructor) rfl (fun i hi m hm => ?_)
  obtain ⟨k, G, ⟨⟨x0, xn0, xc0⟩, ⟨x1, xn1, xc1⟩, ⟨x2, xn2, xc2⟩, ⟨x3, xn3, xc3⟩⟩, ⟨ts, pt, ct⟩, ⟨at_, pa, ca⟩⟩ := i
  replace hi : ((k ≤ 16 ∧ (Bg.of0 w).le G) ∧ oe ts) ∧ (Sl G.blk fR ts (.slice pt ts.length ct) ∧ TabIn G.blk ts ∧ Sl G.blk al at_ (.slice pa at_.length ca)) ∧ Rnds l es k ⟨ts.map (·.data), at_⟩ := hi
  replace hm : m = 16 - k := hm
  change Tr _ (G) [cellE b2 [.slice x0 xn0 xc0, .slice x1 xn1 xc1, .slice x2 xn2 xc2, .slice x3 xn3 xc3, .slice pt ts.length ct, .slice pa at_.length ca] 114, cellE b1 [.slice none 0 0, .slice none 0 0, .slice none 0 0, .slice none 0 0] 52] ([(12, .int .i64 (k : Nat))] ++ _) _
  obtain ⟨⟨⟨hk, hG⟩, hTB⟩, ⟨hT, hTI, hP⟩, hRn⟩ := hi
  refine ah (zz0 (bT rfl rfl) (ad (an ?_)))
  refine au rfl ?_ ?_ <;> intro h3 <;> try simp only [bs] at h3
  ·refine bC (an (aF (ah (zz0 (bG rfl ia eJ) ?_))))
   refine zz0 (aa rfl) (zz0 (aa rfl) ?_)
   refine eB (fun i : (Value × Value × Value × Value × Value × Value) × (CodeP × FndV × Int) × List (RV UInt32) => .tuple #[.agg #[i.1.1, i.1.2.1, i.1.2.2.1, i.1.2.2.2.1, i.1.2.2.2.2.1, i.1.2.2.2.2.2], .int .i64 i.2.1.2.2]) (fun i : (Value × Value × Value × Value × Value × Value) × (CodeP × FndV × Int) × List (RV UInt32) => rowE i.1.1 36 aM i.2.1.1.ins :: rowE i.1.2.1 23 al i.2.1.1.ents :: rowE i.1.2.2.1 23 al i.2.1.1.unk :: rowE i.1.2.2.2.1 23 al i.2.1.1.bad :: rowE i.1.2.2.2.2.1 31 dh i.2.2 :: rowE i.1.2.2.2.2.2 23 al i.2.1.2.1.at_ :: i.2.2.map (rvE 23 al)) (ok := fun i : (Value × Value × Value × Value × Value × Value) × (CodeP × FndV × Int) × List (RV UInt32) => RoundIs l es ts at_ i.2.1 ∧ i.2.2.map (·.data) = i.2.1.2.1.ts) hG.dr rfl Tryz.call52 (fun w hw => Dl _ _ _ _ _ _ _ _ _ _ _ _ l pV cV es VE ts at_ _ _ _ _ w ((hw.slF (hV0.mono hG.blk))) hB ((hD0.mono hG.blk).mono hw.bg) hN (hw.slF (hE0.mono hG.blk)) (hw.slF hT) (hTI.mono hw.bg) hTB (hw.slF hP) ht hel) rfl (fun i hri => ?_)
   obtain ⟨⟨Wi, We, Wu, Wb, Wt, Wp⟩, o, rs⟩ := i
   obtain ⟨hro, hrs⟩ : RoundIs l es ts at_ o ∧ rs.map (·.data) = o.2.1.ts := hri
   change Tr _ _ (rowE Wi 36 aM o.1.ins :: rowE We 23 al o.1.ents :: rowE Wu 23 al o.1.unk :: rowE Wb 23 al o.1.bad :: rowE Wt 31 dh rs :: rowE Wp 23 al o.2.1.at_ :: (rs.map (rvE 23 al) ++ _)) _ _
   refine iC (V := Wi) (fun pWi cWi hpv => ?_)
   subst hpv
   refine iC (V := We) (fun pWe cWe hpv => ?_)
   subst hpv
   refine iC (V := Wu) (fun pWu cWu hpv => ?_)
   subst hpv
   refine iC (V := Wb) (fun pWb cWb hpv => ?_)
   subst hpv
   refine iC (V := Wt) (fun pWt cWt hpv => ?_)
   subst hpv
   refine iC (V := Wp) (fun pWp cWp hpv => ?_)
   subst hpv
   have hml : rs.length = (rs.map kS).length := (List.length_map _).symm
   rw [hml]
   refine Av (A := [rowE (.slice pWi o.1.ins.length cWi) 36 aM o.1.ins, rowE (.slice pWe o.1.ents.length cWe) 23 al o.1.ents, rowE (.slice pWu o.1.unk.length cWu) 23 al o.1.unk, rowE (.slice pWb o.1.bad.length cWb) 23 al o.1.bad, rowE (.slice pWt (rs.map kS).length cWt) 31 dh rs, rowE (.slice pWp o.2.1.at_.length cWp) 23 al o.2.1.at_]) (B := rs.map (rvE 23 al)) (C := [cellE b2 [.slice x0 xn0 xc0, .slice x1 xn1 xc1, .slice x2 xn2 xc2, .slice x3 xn3 xc3, .slice pt ts.length ct, .slice pa at_.length ca] 114, cellE b1 [.slice none 0 0, .slice none 0 0, .slice none 0 0, .slice none 0 0] 52]) ?_
   change Tr _ _ (rowE (.slice pWi o.1.ins.length cWi) 36 aM o.1.ins :: rowE (.slice pWe o.1.ents.length cWe) 23 al o.1.ents :: rowE (.slice pWu o.1.unk.length cWu) 23 al o.1.unk :: rowE (.slice pWb o.1.bad.length cWb) 23 al o.1.bad :: rowE (.slice pWt (rs.map kS).length cWt) 31 dh rs :: rowE (.slice pWp o.2.1.at_.length cWp) 23 al o.2.1.at_ :: cellE b2 [.slice x0 xn0 xc0, .slice x1 xn1 xc1, .slice x2 xn2 xc2, .slice x3 xn3 xc3, .slice pt ts.length ct, .slice pa at_.length ca] 114 :: cellE b1 [.slice none 0 0, .slice none 0 0, .slice none 0 0, .slice none 0 0] 52 :: (rs.map (rvE 23 al) ++ [])) _ _
   refine zz0 (aa rfl) (zz0 (aN rfl rfl) (zz0 (aN rfl rfl) ?_))
   refine dC jB rfl (fun b4 => ?_)
   refine zz5 rfl rfl eJ ?_
   refine zz0 (ab rfl) (ad (an (ah (zz0 (aa rfl) (zz0 (fH rfl rfl) (ad ?_))))))
   refine au rfl ?_ ?_ <;> intro h5 <;> try simp only [bs] at h5
   ·have hqq : o.2.2 ≠ 0 := h5
    refine ah (zz0 (aa rfl) (zz0 (ab rfl) (ad (bJ (aG (jh rfl ?_))))))
    refine aG (aG (bj (ac ?_)))
    refine qg (_, o.2.2) (Front.c Front.nil) (zz8 16 rfl) (o := ⟨hG, .err k _ ts o hRn (by omega) rfl hro hqq rfl⟩)
   have hqq : o.2.2 = 0 := by simpa using h5
   refine bC (an (ah (zz0 (bG rfl ia eJ) ?_)))
   refine zz0 (bG rfl ia eJ) ?_
   refine zz0 (az rfl Tryz.call53 (fun w hw => Fo _ _ _ _ _ _ _ _ _ _ _ _ _ _ _ _ _ _ _ _ _ _ _ _ (rs.map kS) ts o.2.1.at_ at_ _ _ _ _ _ _ _ _ w (C7 (hw.row (by repeat constructor))) (C9 (hw.rvs (T := 23) (fun r hr => by repeat (first | exact List.mem_append_left _ (List.mem_map.2 ⟨r, hr, rfl⟩) | apply List.Mem.tail)))) (hw.row (by repeat constructor)) (hw.slF hT) (hTI.mono hw.bg) (hw.slF hP))) ?_
   refine ad ?_
   refine au rfl ?_ ?_ <;> intro h6 <;> try simp only [bs] at h6
   ·have hsm := h6
    refine an (dU ([cellE b4 [.slice pWi o.1.ins.length cWi, .slice pWe o.1.ents.length cWe, .slice pWu o.1.unk.length cWu, .slice pWb o.1.bad.length cWb, .slice pWt (rs.map kS).length cWt, .slice pWp o.2.1.at_.length cWp] 114]) 10 rfl aP ?_)
    refine zz4 0 rfl (zz2 (off := 0) (ft := 52) rfl cM rfl cn) ?_
    refine jk 1 rfl (by kernel_rfl) (aT (aT (cN (aT (aT (cN (aT (jG cL)))))))) (gi (vs := [.slice pWi o.1.ins.length cWi, .slice pWe o.1.ents.length cWe, .slice pWu o.1.unk.length cWu, .slice pWb o.1.bad.length cWb]) rfl (by repeat constructor) fF cn (by rfl) (by rfl)) ?_
    refine zz4 2 rfl (zz2 (off := 4) (ft := 53) rfl cM rfl fY) ?_
    refine zz4 3 rfl (aH rfl jK) ?_
    refine zz4 4 rfl (zz2 (off := 5) (ft := 31) rfl cM rfl cg) ?_
    refine zz4 5 rfl (aH rfl dl) ?_
    refine dw [6] (fun iq hq => ?_)
    obtain rfl := List.mem_singleton.1 hq
    refine bF rfl ?_
    refine zz5 rfl rfl cn ?_
    refine bV ?_
    refine zz4 7 rfl (ab rfl) ?_
    refine zz4 8 rfl (ab rfl) ?_
    refine zz4 9 rfl (ab rfl) ?_
    refine iz ?_
    refine ac (aC (ay (bv (ay (ay (bv (ay (fG ?_))))))))
    refine zf Tryz.results17 rfl rfl rfl rfl (by repeat constructor) fF cn (by rfl) (fun w' hw => ?_)
    exact ⟨(((.slice pWi o.1.ins.length cWi), (.slice pWe o.1.ents.length cWe), (.slice pWu o.1.unk.length cWu), (.slice pWb o.1.bad.length cWb), (.slice pWt (rs.map kS).length cWt), (.slice pWp o.2.1.at_.length cWp)), o, rs), (by show _ = Ending.returned (Value.tuple #[_, _, _, Value.int .i64 o.2.2]); rw [hqq]; rfl), hw.below0 hG, hw.ents0 hG.lo (by repeat' (first | exact Pick.refl _ | exact Pick.left _ _ | exact Del.here _ | apply Pick.cons | apply Del.there | apply Pick.skip | exact Pick.nil _)), .ok k _ ts o hRn (by omega) rfl hro hqq ⟨hsm.1, by rw [← hrs, ← tD]; exact hsm.2⟩ rfl, hrs⟩
   have hsm := h6
   refine bC ?_
   have hne : ¬ (o.2.1.at_ = at_ ∧ o.2.1.ts = ts.map (·.data)) := fun q => by
    rcases hsm with h | h
    ·exact h q.1
    ·exact h (by rw [tD, hrs]; exact q.2)
   have htb := hro.tabs hTB
   have hTB9 := Fi hrs (by omega) htb.2
   refine nS (A := [cellE b4 [.slice pWi o.1.ins.length cWi, .slice pWe o.1.ents.length cWe, .slice pWu o.1.unk.length cWu, .slice pWb o.1.bad.length cWb, .slice pWt (rs.map kS).length cWt, .slice pWp o.2.1.at_.length cWp] 114, rowE (.slice pWi o.1.ins.length cWi) 36 aM o.1.ins, rowE (.slice pWe o.1.ents.length cWe) 23 al o.1.ents, rowE (.slice pWu o.1.unk.length cWu) 23 al o.1.unk, rowE (.slice pWb o.1.bad.length cWb) 23 al o.1.bad, rowE (.slice pWt (rs.map kS).length cWt) 31 dh rs, rowE (.slice pWp o.2.1.at_.length cWp) 23 al o.2.1.at_, cellE b2 [.slice x0 xn0 xc0, .slice x1 xn1 xc1, .slice x2 xn2 xc2, .slice x3 xn3 xc3, .slice pt ts.length ct, .slice pa at_.length ca] 114, cellE b1 [.slice none 0 0, .slice none 0 0, .slice none 0 0, .slice none 0 0] 52]) rs (fun F6 hF6 hI6 => ?_)
   change Tr _ _ [cellE b4 [.slice pWi o.1.ins.length cWi, .slice pWe o.1.ents.length cWe, .slice pWu o.1.unk.length cWu, .slice pWb o.1.bad.length cWb, .slice pWt (rs.map kS).length cWt, .slice pWp o.2.1.at_.length cWp] 114, rowE (.slice pWi o.1.ins.length cWi) 36 aM o.1.ins, rowE (.slice pWe o.1.ents.length cWe) 23 al o.1.ents, rowE (.slice pWu o.1.unk.length cWu) 23 al o.1.unk, rowE (.slice pWb o.1.bad.length cWb) 23 al o.1.bad, rowE (.slice pWt (rs.map kS).length cWt) 31 dh rs, rowE (.slice pWp o.2.1.at_.length cWp) 23 al o.2.1.at_, cellE b2 [.slice x0 xn0 xc0, .slice x1 xn1 xc1, .slice x2 xn2 xc2, .slice x3 xn3 xc3, .slice pt ts.length ct, .slice pa at_.length ca] 114, cellE b1 [.slice none 0 0, .slice none 0 0, .slice none 0 0, .slice none 0 0] 52] _ _
   refine j6 (V := .slice pWt (rs.map kS).length cWt) (T := 31) (E := dh) (l := rs) (by repeat constructor) (fun F7 hF7 hT7 => ?_)
   refine j6 (V := .slice pWp o.2.1.at_.length cWp) (T := 23) (E := al) (l := o.2.1.at_) (by repeat constructor) (fun F9 hF9 hP9 => ?_)
   have hF59 := hF6.trans (hF7.trans hF9)
   refine ar (zz0 (bG rfl ia eJ) ?_)
   refine zz5 rfl rfl eJ ?_
   refine aD (aY (ac (ar (zz0 (cB rfl rfl) ?_))))
   refine zz0 (aa rfl) (ad ?_)
   refine cK (k + 1, F9, ((_, _, _), (_, _, _), (_, _, _), (_, _, _)), (rs.map kS, pWt, cWt), (o.2.1.at_, pWp, cWp)) (Front.c Front.nil) (zz8 19 rfl) (o := ⟨⟨⟨by omega, hG.trans hF59⟩, hTB9⟩, ⟨C7 (hT7.mono hF9.blk), C9 (hI6.mono (hF7.trans hF9).blk), hP9⟩, by rw [tD, hrs]; exact Rnds.step k _ ts o hRn rfl hro hqq hne⟩)
  refine bJ (aG (aG (bj (ac ?_))))
  refine qg (_, 15) (Front.c Front.nil) (zz8 3 rfl) (o := ⟨hG, .out ⟨ts.map (·.data), at_⟩ (by have e : k = 16 := (by omega); subst e; exact hRn) rfl⟩)
 obtain ⟨G9, e9⟩ := i
 replace hi : (Bg.of0 w).le G9 ∧ ResIs l es (tX, ⟨[], []⟩, e9) := hi
 change Tr _ _ [cellE b1 [.slice none 0 0, .slice none 0 0, .slice none 0 0, .slice none 0 0] 52] ([(9, .int .i64 e9)] ++ _) _
 obtain ⟨hG9, hrr⟩ := hi
 refine an (bZ 36 aM ?_)
 refine bZ 23 al ?_
 refine bZ 23 al ?_
 refine bZ 23 al ?_
 refine bZ 23 al ?_
 refine bZ 31 (dh (α := UInt32)) ?_
 refine ar (zz0 (bK (vs := []) rfl rfl (o1)) ?_)
 refine zz0 (aa rfl) (zz5 rfl rfl cn ?_)
 refine zz0 (ab rfl) (zz0 (ab rfl) (zz0 (ab rfl) (ad (aC (fG ?_)))))
 refine zf Tryz.results17 rfl rfl rfl rfl (by repeat constructor) fF cn (by rfl) (fun w' hw => ?_)
 exact ⟨((.slice none 0 0, .slice none 0 0, .slice none 0 0, .slice none 0 0, .slice none 0 0, .slice none 0 0), (tX, ⟨[], []⟩, e9), []), rfl, hw.below0 hG9, hw.ents0 hG9.lo (by repeat' (first | exact Pick.refl _ | exact Pick.left _ _ | exact Del.here _ | apply Pick.cons | apply Del.there | apply Pick.skip | exact Pick.nil _)), hrr, rfl⟩
end Go.Proofs.YtiajjbhcpeadfaaGreat
namespace Go.HL
open Go Go.Sort
open Go.Proofs (ltOf)
def zU (x : UInt32) : List UInt32 → List UInt32
 | [] => [x]
 | y :: t => if x ≤ y then x :: y :: t else y :: zU x t
def uY : List UInt32 → List UInt32
 | [] => []
 | x :: t => zU x (uY t)
theorem rS (x : UInt32) : ∀ l, (zU x l).Perm (x :: l)
 | [] => .refl _
 | y :: t => by
  unfold zU
  split
  ·exact .refl _
  ·exact ((rS x t).cons y).trans (.swap x y t)
theorem sy (x : UInt32) : ∀ l : List UInt32, l.Pairwise (fun a b => a ≤ b) → (zU x l).Pairwise (fun a b => a ≤ b)
 | [], _ => by simp [zU]
 | y :: t, h => by
  unfold zU
  rw [List.pairwise_cons] at h
  split
  ·rename_i q
   rw [List.pairwise_cons]
   refine ⟨fun z hz => ?_, List.pairwise_cons.2 h⟩
   rcases List.mem_cons.1 hz with rfl | hz
   ·exact q
   ·have := h.1 z hz
    rw [UInt32.le_iff_toNat_le] at *; omega
  ·rename_i q
   rw [List.pairwise_cons]
   refine ⟨fun z hz => ?_, sy x t h.2⟩
   rcases List.mem_cons.1 ((rS x t).mem_iff.1 hz) with rfl | hz
   ·rw [UInt32.le_iff_toNat_le] at *; omega
   ·exact h.1 z hz
theorem mZ : ∀ l, fQ l = uY l := by
 have h1 : ∀ l, (uY l).Perm l := by
  intro l
  induction l with
  | nil => exact .refl _
  | cons x t ih => exact (rS x _).trans (ih.cons x)
 have h2 : ∀ l, (uY l).Pairwise (fun a b => a ≤ b) := by
  intro l
  induction l with
  | nil => exact .nil
  | cons x t ih => exact sy x _ ih
 exact fun l => rD ((lm l).trans (h1 l).symm) (lS l) (h2 l)
def oo (es : List UInt32) : DSt := ⟨[], [], gm [] es, [], es⟩
def Gx (l : List SecV) (ts : List TabV) (at_ : List UInt32) (s : DSt) (a : UInt32) (r : List UInt32) : DSt :=
 if ((dI s.ins a).isSome || (dI s.bad a).getD false) = true then ⟨s.ins, s.bad, s.ents, s.unk, r⟩
 else if (atP l a).2 = true then stepD l ts at_ a s r else ⟨s.ins, e8 s.bad a true, s.ents, s.unk, r⟩
def ol (l : List SecV) (ts : List TabV) (at_ : List UInt32) : Nat → DSt → DSt
 | 0, s => s
 | n + 1, s => match s.rest with
  | [] => s
  | x :: t => ol l ts at_ n (Gx l ts at_ s ((x :: t).getLast (by simp)) (x :: t).dropLast)
theorem vj {l : List SecV} {ts : List TabV} {at_ es : List UInt32} (hT : oe ts) : ∀ (n : Nat) (s : DSt), DInv l ts at_ es s → DInv l ts at_ es (ol l ts at_ n s)
 | 0, s, h => h
 | n + 1, s, h => by
  unfold ol
  split
  ·exact h
  ·rename_i x t hr
   refine vj hT n _ ?_
   have hr' : s.rest = (x :: t).dropLast ++ [(x :: t).getLast (by simp)] := by rw [hr, List.dropLast_concat_getLast]
   unfold Gx
   split
   ·rename_i q
    rw [Bool.or_eq_true] at q
    exact h.skip hr' (xT q)
   ·rename_i q
    rw [Bool.not_eq_true, Bool.or_eq_false_iff] at q
    split
    ·rename_i q2
     exact h.found hT hr' q2 (AT q)
    ·rename_i q2
     exact h.isBad hr' (by simpa using q2)
def uz (s : DSt) : CodeP := ⟨(uY (s.ins.map (·.1))).map fun a => (dI s.ins a).getD cp, (uY (s.ents.map (·.1))).filter fun a => (dI s.ins a).isSome, uY (s.unk.map (·.1)), uY (s.bad.map (·.1))⟩
theorem rz {l : List SecV} {ts : List TabV} {at_ es : List UInt32} {c : CodeP} {e : Int} (hT : oe ts) (h : WalkIs l ts at_ es c e) (hl : ts.length = at_.length) (hc : fS l = 0) {n : Nat} (hr : (ol l ts at_ n (oo es)).rest = []) :
  c = uz (ol l ts at_ n (oo es)) ∧ e = 0 := by
 have hi := vj hT n _ (DInv.begin (l := l) (ts := ts) (at_ := at_) (es := es))
 have hk := hi.code hr
 cases h with
 | arg h => exact absurd hl h
 | chk h h1 => exact absurd hc h1
 | ok h h1 he hcc =>
  refine ⟨(hcc.eq hk (fun a => Iff.rfl) (fun a => Iff.rfl)).trans ?_, he⟩
  unfold uz
  rw [mZ, mZ, mZ, mZ]
  congr 1
  refine List.map_congr_left fun a ha => ?_
  have hm : a ∈ (ol l ts at_ n (oo es)).ins.map (·.1) := by
   rw [← mZ, mX] at ha; exact ha
  obtain ⟨x, hx⟩ := nD hm
  rw [hx, (hi.ins a x hx).2.2]; rfl
def apartB : List Ins → Bool
 | [] => true
 | a :: t => (match t with
  | [] => true
  | b :: _ => decide (a.addr < b.addr) && decide (uu a ≤ (b.addr.toNat : Int))) && apartB t
theorem za : ∀ l : List Ins, apartB l = true → l.Pairwise fun a b => ltA a b = true ∧ uu a ≤ (b.addr.toNat : Int)
 | [], _ => .nil
 | [a], _ => by simp
 | a :: b :: t, h => by
  unfold apartB at h
  simp only [Bool.and_eq_true, decide_eq_true_eq] at h
  have ih := za (b :: t) h.2
  rw [List.pairwise_cons]
  refine ⟨fun z hz => ?_, ih⟩
  rcases List.mem_cons.1 hz with rfl | hz
  ·exact ⟨by simp [ltA, h.1.1], h.1.2⟩
  ·have h1 := (List.pairwise_cons.1 ih).1 z hz
   have h2 : b.addr < z.addr := by have := h1.1; simpa [ltA] using this
   have h3 := h.1.1
   have h4 := h.1.2
   rw [UInt32.lt_iff_toNat_lt] at h2 h3
   exact ⟨by simp only [ltA, decide_eq_true_eq, UInt32.lt_iff_toNat_lt]; omega, by omega⟩
def Bb (ins : List Ins) : Bool := ins.all (fun i => decide (iM i = 0)) && apartB ins
theorem Eh {ins : List Ins} (h : Bb ins = true) (ents unk bad : List UInt32) : gl ins ents unk bad = ⟨ins, ents.filter (inK ins), unk.filter (inK ins), bad, []⟩ := by
 unfold Bb at h
 rw [Bool.and_eq_true, List.all_eq_true] at h
 have hp := za ins h.2
 have hs : ins.Pairwise fun a b => ltA a b = true := hp.imp fun q => q.1
 have hd := sp hs
 have hc : fu ins = ins := by
  rw [Ae hd (fun y hy => by simpa using h.1 y hy)]
  obtain ⟨k1, k2⟩ := tJ hd
  exact wu A5 D3 _ _ k1 hs k2
 have hn : ∀ a ∈ ins, ∀ b ∈ ins, jq a b = false := by
  have key : ∀ a b : Ins, ltA a b = true → uu a ≤ (b.addr.toNat : Int) → jq a b = false := by
   intro a b h1 h2
   simp only [ltA, decide_eq_true_eq, UInt32.lt_iff_toNat_lt] at h1
   unfold jq
   rw [Bool.and_eq_false_iff]; right
   rw [decide_eq_false_iff_not]
   have : (mxU a.addr b.addr).toNat = b.addr.toNat := by
    unfold mxU
    split
    ·rfl
    ·rename_i q; rw [UInt32.lt_iff_toNat_lt] at q; omega
   rw [this]; omega
  intro a ha b hb
  obtain ⟨i, hi, rfl⟩ := List.mem_iff_getElem.1 ha
  obtain ⟨j, hj, rfl⟩ := List.mem_iff_getElem.1 hb
  rw [List.pairwise_iff_getElem] at hp
  rcases Nat.lt_trichotomy i j with q | q | q
  ·exact key _ _ (hp i j hi hj q).1 (hp i j hi hj q).2
  ·subst q; unfold jq; simp
  ·rw [Ex]; exact key _ _ (hp j i hj hi q).1 (hp j i hj hi q).2
 have hr := Fq (ins := ins) (ents := ents) (unk := unk) (bad := bad) (by rw [hc]; exact hn)
 rw [hc] at hr
 have e1 : (gl ins ents unk bad).ents = ents.filter (inK (gl ins ents unk bad).kept) := rfl
 have e2 : (gl ins ents unk bad).unk = unk.filter (inK (gl ins ents unk bad).kept) := rfl
 have e3 : (gl ins ents unk bad).bad = bad := rfl
 rw [hr.1] at e1 e2
 generalize hR : gl ins ents unk bad = R at *
 cases R
 simp only at hr e1 e2 e3
 rw [hr.1, hr.2, e1, e2, e3]
def Cs : List (List StV × Int) → Int
 | [] => 0
 | x :: t => if x.2 ≠ 0 then x.2 else Cs t
theorem Bf (ins : List Ins) : ∀ rts, lR ins rts = Cs (rts.map fun r => eC ins r 4096)
 | [] => rfl
 | r :: t => by simp only [lR, List.map_cons, Cs, Bf ins t]
def Be (l : List SecV) (c : CodeP) (A : List (List StV × Int)) : CodeP × FndV × Int :=
 if Cs A ≠ 0 then (⟨[], [], [], []⟩, ⟨[], []⟩, Cs A) else (c, l4 l c.ins (A.map (·.1)) c.ins, 0)
def Eo (l : List SecV) (c : CodeP) (ts : List (List UInt32)) : CodeP × FndV × Int :=
 Be l c ((fh (uY (jZ c.ins (c.ents :: ts)))).map fun r => eC c.ins r 4096)
def yJ (l : List SecV) (c : CodeP) (ts : List (List UInt32)) : Option (CodeP × FndV × Int) :=
 if Bb c.ins = true then some (Eo l ⟨c.ins, c.ents.filter (inK c.ins), c.unk.filter (inK c.ins), c.bad⟩ ts) else none
def evalW (l : List SecV) (s : DSt) (ts : List (List UInt32)) : Option (CodeP × FndV × Int) := match s.rest with
 | [] => yJ l (uz s) ts
 | _ :: _ => none
def tabs (ts : List (List UInt32)) : List TabV := ts.map fun d => ⟨d, none, 0⟩
def rW (l : List SecV) (es : List UInt32) (f : FndV) (n : Nat) : Option (CodeP × FndV × Int) :=
 if f.ts.length = f.at_.length ∧ fS l = 0 then evalW l (ol l (tabs f.ts) f.at_ n (oo es)) f.ts else none
theorem yI {l : List SecV} {c : CodeP} {ts : List (List UInt32)} {o : CodeP × FndV × Int} (h : yJ l c ts = some o) : o = ml l c ts := by
 unfold yJ at h
 split at h
 ·rename_i hf
  cases h
  unfold ml Eo Be jo
  rw [Eh hf]
  simp only [mZ, Bf, ka, List.map_map]
  rfl
 ·cases h
theorem yp {ts ts' : List TabV} (h : ts.map (·.data) = ts'.map (·.data)) (at_ : List UInt32) : dQ ts at_ = dQ ts' at_ := by
 funext a
 have key : ∀ j, (ts.getD j default).data = (ts'.getD j default).data := fun j => by
  have e : ∀ q : List TabV, (q.getD j default).data = (q.map (·.data)).getD j [] := fun q => by
   simp only [List.getD_eq_getElem?_getD, List.getElem?_map]
   cases q[j]? <;> rfl
  rw [e, e, h]
 unfold dQ
 split
 ·rfl
 ·rw [key]
theorem su {l : List SecV} {ts ts' : List TabV} {at_ es : List UInt32} (h : dQ ts at_ = dQ ts' at_) {a : UInt32} (r : Reach l ts at_ es a) : Reach l ts' at_ es a := by
 induction r with
 | ent a q => exact .ent a q
 | step b a q1 q2 q3 ih => exact .step b a ih q2 (by unfold jt at *; rw [← h]; exact q3)
theorem tB {l : List SecV} {ts ts' : List TabV} {at_ es : List UInt32} {c : CodeP} {e : Int} (h : ts.map (·.data) = ts'.map (·.data)) (hw : WalkIs l ts at_ es c e) : WalkIs l ts' at_ es c e := by
 have hk := yp h at_
 have hl : ts.length = ts'.length := by have := congrArg List.length h; simpa using this
 have hR : ∀ a, Reach l ts at_ es a ↔ Reach l ts' at_ es a := fun a => ⟨su hk, su hk.symm⟩
 cases hw with
 | arg h1 h2 h3 => exact .arg (hl ▸ h1) h2 h3
 | chk h1 h2 h3 h4 => exact .chk (hl ▸ h1) h2 h3 h4
 | ok h1 h2 h3 h4 =>
  refine .ok (hl ▸ h1) h2 h3 ⟨?_, ?_, ?_, ?_⟩
  ·obtain ⟨ks, k1, k2, k3⟩ := h4.ins
   exact ⟨ks, k1, fun a => by rw [k2, hR], k3⟩
  ·exact ⟨h4.bad.1, fun a => by rw [h4.bad.2, hR]⟩
  ·refine ⟨h4.ents.1, fun a => ?_⟩
   rw [h4.ents.2, hR]
   have : ∀ i, jj ts at_ i = jj ts' at_ i := fun i => by unfold jj; rw [hk]
   simp only [hR, this]
  ·refine ⟨h4.unk.1, fun a => ?_⟩
   rw [h4.unk.2, hR]
   have : ∀ i, ns ts at_ i = ns ts' at_ i := fun i => by unfold ns; rw [hk]
   simp only [this]
theorem pQ {l : List SecV} {es : List UInt32} {f : FndV} {ts : List TabV} {o o2 : CodeP × FndV × Int} {n : Nat} (hb : f.ts.length ≤ 700) (hb2 : ∀ t ∈ f.ts, t.length ≤ 64) (ht : ts.map (·.data) = f.ts) (h : RoundIs l es ts f.at_ o) (he : rW l es f n = some o2) : o = o2 := by
 have hd : ts.map (·.data) = (tabs f.ts).map (·.data) := by rw [ht]; unfold tabs; rw [List.map_map]; exact (List.map_id' _).symm
 have hT : oe (tabs f.ts) := ⟨by unfold tabs; rw [List.length_map]; exact hb, fun t q => by
  obtain ⟨d, hd, rfl⟩ := List.mem_map.1 q
  exact hb2 d hd⟩
 obtain ⟨c, e, hw, hi⟩ := h
 have hw := tB hd hw
 unfold rW at he
 split at he
 ·rename_i hc
  unfold evalW at he
  split at he
  ·rename_i hr
   obtain ⟨k1, k2⟩ := rz hT hw (by unfold tabs; rw [List.length_map]; exact hc.1) hc.2 hr
   rw [if_neg (by rw [k2]; simp)] at hi
   rw [hi, yI he, k1, ht]
  ·cases he
 ·cases he
def l5 (l : List SecV) (es : List UInt32) (n : Nat) : Nat → FndV → Option (CodeP × FndV × Int)
 | 0, f => some (tX, ⟨[], []⟩, 15)
 | k + 1, f => match rW l es f n with
  | none => none
  | some o => if o.2.2 ≠ 0 then some (tX, ⟨[], []⟩, o.2.2) else if o.2.1.at_ = f.at_ ∧ o.2.1.ts = f.ts then some o else l5 l es n k o.2.1
theorem pR {l : List SecV} {es : List UInt32} (ht : totD l ≤ 600) {n : Nat} {f : FndV} (h : Rnds l es n f) : f.ts.length ≤ 700 ∧ ∀ t ∈ f.ts, t.length ≤ 64 := by
 induction h with
 | zero => exact ⟨Nat.zero_le _, fun t q => by cases q⟩
 | step n f ts o h hd hr h0 hn ih =>
  have hT : oe ts := ⟨by have := congrArg List.length hd; rw [List.length_map] at this; rw [this]; exact ih.1, fun t q => by
   have := ih.2 t.data (by rw [← hd]; exact List.mem_map.2 ⟨t, q, rfl⟩); exact this⟩
  have := hr.tabs hT
  exact ⟨by omega, this.2⟩
theorem rG {l : List SecV} {es : List UInt32} (ht : totD l ≤ 600) {n N : Nat} {f : FndV} {o : CodeP × FndV × Int} (h : Rnds l es n f) : n ≤ 16 → l5 l es N 16 ⟨[], []⟩ = some o → l5 l es N (16 - n) f = some o := by
 induction h with
 | zero => exact fun _ h => h
 | step n f ts o' h hd hr h0 hn ih =>
  intro hle he
  have ih := ih (by omega) he
  rw [show 16 - n = 16 - (n + 1) + 1 by omega] at ih
  unfold l5 at ih
  have hs := pR ht h
  split at ih
  ·cases ih
  ·rename_i o2 hq
   have e := pQ hs.1 hs.2 hd hr hq
   subst e
   rw [if_neg (by rw [h0]; simp), if_neg hn] at ih
   exact ih
theorem Du {l : List SecV} {es : List UInt32} (ht : totD l ≤ 600) {N : Nat} {o o' : CodeP × FndV × Int} (h : ResIs l es o) (he : l5 l es N 16 ⟨[], []⟩ = some o') : o = o' := by
 cases h with
 | err n f ts o2 h hn hd hr h0 ho =>
  have k := rG ht h (by omega) he
  have hs := pR ht h
  rw [show 16 - n = 16 - (n + 1) + 1 by omega] at k
  unfold l5 at k
  split at k
  ·cases k
  ·rename_i o3 hq
   have e := pQ hs.1 hs.2 hd hr hq
   subst e
   rw [if_pos h0] at k
   cases k; exact ho
 | ok n f ts o2 h hn hd hr h0 hs2 ho =>
  have k := rG ht h (by omega) he
  have hs := pR ht h
  rw [show 16 - n = 16 - (n + 1) + 1 by omega] at k
  unfold l5 at k
  split at k
  ·cases k
  ·rename_i o3 hq
   have e := pQ hs.1 hs.2 hd hr hq
   subst e
   rw [if_neg (by rw [h0]; simp), if_pos hs2] at k
   cases k; exact ho
 | out f h ho =>
  have k := rG ht h (Nat.le_refl _) he
  rw [show 16 - 16 = 0 from rfl] at k
  cases k; exact ho
end Go.HL
namespace Go.HL
open Go
def uC (n : Nat) : List UInt8 := [160, 1, 58, 1, u8 (n : Int), 104, u8 ((n : Int) + 6), 131, 1, 0, 48, 0, 0]
def bEl (n k i : Nat) : List UInt8 := [u8 (13 + ((i : Int) + (k : Int)) % (n : Int)), 16, 0, 0]
def iN (n k j : Nat) : List UInt8 := (List.range j).flatMap (bEl n k)
def gB (n : Nat) : List UInt8 := (uC n ++ List.replicate n 1) ++ [1]
def nmC : ByteArray := ⟨#[99, 111, 100, 101]⟩
def nmT : ByteArray := ⟨#[116, 97, 98, 108, 101]⟩
def eV (n k : Nat) (wr : Bool) (p q : Option Addr) (c d : Nat) : List SecV := [⟨nmC, 4096, gB n, p, c, false, true⟩, ⟨nmT, 12288, iN n k n, q, d, wr, false⟩]
theorem pg (n k j : Nat) : iN n k (j + 1) = iN n k j ++ bEl n k j := by unfold iN; rw [List.range_succ, List.flatMap_append]; simp
theorem rf (n k : Nat) : ∀ j, (iN n k j).length = 4 * j
 | 0 => rfl
 | j + 1 => by rw [pg, List.length_append, rf n k j]; simp [bEl]; omega
theorem vW (n : Nat) : (gB n).length = 14 + n := by unfold gB uC; simp; omega
theorem kd {h : Hp} {n k : Nat} {wr : Bool} {p q : Option Addr} {c d : Nat} (h1 : Sl h dZ (gB n) (.slice p (gB n).length c)) (h2 : Sl h dZ (iN n k n) (.slice q (iN n k n).length d)) : DataIn h (eV n k wr p q c d) := by
 intro s hs
 rcases List.mem_cons.1 hs with rfl | hs
 ·exact h1
 ·rw [List.mem_singleton.1 hs]; exact h2
theorem mr {n k : Nat} {wr : Bool} {p q : Option Addr} {c d : Nat} (hn : n ≤ 200) : SecB (eV n k wr p q c d) := by
 refine ⟨by simp [eV], fun s hs => ?_⟩
 rcases List.mem_cons.1 hs with rfl | hs
 ·have := vW n; simp only; omega
 ·rw [List.mem_singleton.1 hs]; have := rf n k n; simp only; omega
theorem kc {n k : Nat} {wr : Bool} {p q : Option Addr} {c d : Nat} : ∀ s ∈ eV n k wr p q c d, s.name.size ≤ 140737488351232 := by
 intro s hs
 rcases List.mem_cons.1 hs with rfl | hs
 ·show nmC.size ≤ _; decide
 ·rw [List.mem_singleton.1 hs]; show nmT.size ≤ _; decide
theorem rh {n k : Nat} {wr : Bool} {p q : Option Addr} {c d : Nat} (hn : n ≤ 100) : totD (eV n k wr p q c d) ≤ 600 := by
 have h1 := vW n; have h2 := rf n k n
 simp only [totD, eV, List.map_cons, List.map_nil, List.sum_cons, List.sum_nil]
 omega
def HW : List Ins := [⟨4096, 0, 26, 0, 0, 0, 1, 0, 2⟩, ⟨4098, 3, 15, 1, 0, 0, 1, 0, 3⟩, ⟨4101, 4112, 20, 1, 0, 8, 0, 0, 2⟩, ⟨4103, 12288, 22, 0, 0, 0, 1, 0, 6⟩]
def hlt (a : UInt32) : Ins := ⟨a, 0, 1, 0, 0, 0, 0, 0, 1⟩
def GB : CodeP := ⟨HW ++ [hlt 4109, hlt 4110, hlt 4111, hlt 4112], [4096], [], []⟩
theorem En (p q : Option Addr) (c d : Nat) : l5 (eV 3 0 false p q c d) [4096] 3000 16 ⟨[], []⟩ = some (GB, ⟨[[4109, 4110, 4111]], [4103]⟩, 0) := by kernel_rfl
theorem G6 {p q : Option Addr} {c d : Nat} {o : CodeP × FndV × Int} (h : ResIs (eV 3 0 false p q c d) [4096] o) : o = (GB, ⟨[[4109, 4110, 4111]], [4103]⟩, 0) := Du (rh (by omega)) h (En p q c d)
def exX : VSet := db 1 3 2
def El : Ins := ⟨0, 12288, 22, 0, 0, 0, 1, 0, 0⟩
def Ek : Ins := ⟨0, 0, 21, 0, 0, 0, 2, 0, 0⟩
theorem FQ (p q : Option Addr) (c d : Nat) : cO (eV 4 0 false p q c d) El exX = ([4110, 4110, 4110, 4112], 0) := by kernel_rfl
theorem FP (p q : Option Addr) (c d : Nat) : cO (eV 4 0 true p q c d) El exX = ([], 19) := by kernel_rfl
theorem FO (p q : Option Addr) (c d : Nat) : cO (eV 4 0 false p q c d) Ek (gP 4112) = ([4112], 0) := by kernel_rfl
theorem FN (p q : Option Addr) (c d : Nat) : cO (eV 4 0 false p q c d) Ek oa = ([], 19) := by kernel_rfl
theorem FS (p q : Option Addr) (c d : Nat) : oI (eV 4 0 false p q c d) 12288 4 = true := by kernel_rfl
theorem FR (p q : Option Addr) (c d : Nat) : oI (eV 4 0 false p q c d) 12288 5 = false := by kernel_rfl
theorem DT {α : Type} {rs : List (RV α)} {x : List α} (h : rs.map (·.data) = [x]) : ∃ p c, rs = [⟨x, p, c⟩] := by
 cases rs with
 | nil => cases h
 | cons r t =>
  cases t with
  | nil =>
   obtain ⟨d, p, c⟩ := r
   simp only [List.map_cons, List.map_nil, List.cons.injEq, and_true] at h
   subst h
   exact ⟨p, c, rfl⟩
  | cons _ _ => simp at h
def FK : StV := gk.set 1 exX
def HQ : StV := FK.set 2 (gP 4112)
def H8 : StV := HQ.set 2 oa
theorem Bd : InsOK El := by constructor <;> (unfold I64; decide)
theorem Bc : InsOK Ek := by constructor <;> (unfold I64; decide)
end Go.HL
namespace Go.Proofs.YtiajjbhcpeadfaaGreat
open Go Go.HL Go.RowKit
theorem lF (n k : Nat) (wr : Bool) (w : World) (hn : 1 ≤ n ∧ n ≤ 100) (hk : k ≤ 1000) :
  Calls Tryz.prog 33 #[.int .i64 (n : Nat), .int .i64 (k : Nat), .bool wr] w (fun e w' => ∃ i : Value × Option Addr × Option Addr × Nat × Nat, e = .returned i.1 ∧ Ext w w' ∧ NewEnts w w' ((fun i : Value × Option Addr × Option Addr × Nat × Nat => [rowE i.1 49 dJ (eV n k wr i.2.1 i.2.2.1 i.2.2.2.1 i.2.2.2.2), rowE (.slice i.2.1 (gB n).length i.2.2.2.1) 5 dZ (gB n), rowE (.slice i.2.2.1 (iN n k n).length i.2.2.2.2) 5 dZ (iN n k n)]) i) ∧ True) := by
 refine enter Tryz.func33 rfl Tryz.ntmps33 rfl ?_
 refine ah (zz0 (ab rfl) (aI (zz0 (aa rfl) (zz0 (iy rfl ba bU) (zz0 (aa rfl) (zz0 (cB rfl rfl) ?_))))))
 refine zz0 (iy rfl ba bU) ?_
 refine rj (E := dZ) (uC n) (vs := [(0, _), (1, _), (2, _), (3, _), (4, _), (5, _), (6, _), (7, _), (8, _), (9, _), (10, _), (11, _), (12, _)]) rfl rfl bI dT ke (by rfl) (by rfl) rfl (by first | kernel_rfl | rfl) rfl (fun V1 => ?_)
 refine zz0 (ab rfl) (ad (an (bZ 5 dZ ?_)))
 refine ar (zz0 (ab rfl) (ad (an (ah (zz0 (ab rfl) (ad (aF ?_)))))))
 change Tr _ _ [rowE (.slice none 0 0) 5 dZ (iN n k 0), rowE V1 5 dZ (uC n ++ List.replicate 0 (1 : UInt8))] _ _
 refine bL (ι := Nat × Value × Value) (fun ⟨i, Vc, Vt⟩ => i ≤ n) (fun _ => _) (fun ⟨i, Vc, Vt⟩ => [rowE Vt 5 dZ (iN n k i), rowE Vc 5 dZ (uC n ++ List.replicate i 1)]) (fun ⟨i, Vc, Vt⟩ => [(9, .int .i64 (i : Nat)), (7, Vc), (8, Vt)]) (fun ⟨i, Vc, Vt⟩ => n - i) (0, _, _) (Nat.zero_le _) (Front.c (Front.c (Front.c Front.nil))) (by repeat' constructor) rfl (fun i hi m hm => ?_)
 obtain ⟨i, Vc, Vt⟩ := i
 replace hi : i ≤ n := hi
 replace hm : m = n - i := hm
 change Tr _ _ [rowE Vt 5 dZ (iN n k i), rowE Vc 5 dZ (uC n ++ List.replicate i 1)] ([(9, .int .i64 (i : Nat)), (7, Vc), (8, Vt)] ++ _) _
 have hbl := rf n k i
 have hpl : (uC n ++ List.replicate i (1 : UInt8)).length = 13 + i := by simp [uC]; omega
 have hel : (bEl n k i).length = 4 := rfl
 have hmd := Int.emod_nonneg ((i : Int) + (k : Int)) (b := (n : Int)) (by omega)
 have hml := Int.emod_lt_of_pos ((i : Int) + (k : Int)) (b := (n : Int)) (by omega)
 have hp3 : (uC n).length = 13 := rfl
 have hrp : (List.replicate i (1 : UInt8)).length = i := List.length_replicate
 refine an (ah (zz0 (aa rfl) (zz0 (aa rfl) (zz0 (bT rfl rfl) (ad ?_)))))
 refine au rfl ?_ ?_ <;> intro h2 <;> try simp only [bs] at h2
 ·refine bC (an (aF (ah (zz0 (aa rfl) ?_))))
  refine iG (E := dZ) (1 : UInt8) rfl rfl bI dT ke (fun V3 => ?_)
  refine zz1 rfl rfl bI pw (fun V4 => ?_)
  refine zz0 (ab rfl) (ad (ar (zz0 (aa rfl) (zz0 (aa rfl) (zz0 (aa rfl) (zz0 (cB rfl rfl) ?_))))))
  refine zz0 (aa rfl) (zz0 (By rfl rfl (by omega)) ?_)
  refine zz0 (cB rfl rfl) ?_
  refine zz0 (iy rfl ba bU) ?_
  refine rj (E := dZ) (bEl n k i) (vs := [(0, _), (1, _), (2, _), (3, _)]) rfl rfl bI dT ke (by rfl) (by rfl) rfl (by first | kernel_rfl | rfl) rfl (fun V5 => ?_)
  refine zz1 rfl rfl bI pw (fun V6 => ?_)
  refine zz0 (ab rfl) (aD (aY (ac (ar (zz0 (aa rfl) (zz0 (cB rfl rfl) ?_))))))
  refine zz0 (ab rfl) (ad ?_)
  have e1 : (uC n ++ List.replicate i (1 : UInt8)) ++ [1] = uC n ++ List.replicate (i + 1) 1 := by rw [List.append_assoc, ← List.replicate_succ']
  rw [e1, ← pg]
  refine cK (i + 1, _, _) (Front.c (Front.c (Front.c Front.nil))) (zz8 24 rfl) (o := (by show i + 1 ≤ _; omega))
 refine bJ (aG (aG (bj (ac (an ?_)))))
 obtain rfl : i = n := by omega
 refine iC (V := Vt) (fun pt ct hpv => ?_)
 subst hpv
 refine ar (zz0 (aa rfl) ?_)
 refine iG (E := dZ) (1 : UInt8) rfl rfl bI dT ke (fun V7 => ?_)
 refine zz1 rfl rfl bI pw (fun V8 => ?_)
 refine gp (l' := gB i) rfl ?_
 refine du (.head _) (fun pc cc hpv => ?_)
 subst hpv
 refine zz0 (bK (vs := [(0, _), (1, _), (2, _), (4, _)]) (cs := #[.string nmC, .int .u32 4096, .slice pc (gB i).length cc, .bool false, .bool true]) rfl rfl (by kernel_rfl)) ?_
 refine zz0 (aa rfl) (zz0 (aa rfl) (zz0 (bK (vs := [(0, _), (1, _), (2, _), (3, _)]) (cs := #[.string nmT, .int .u32 12288, .slice pt (iN i k i).length ct, .bool wr, .bool false]) rfl rfl (by kernel_rfl)) ?_))
 refine rj (E := dJ) (eV i k wr pc pt cc ct) (vs := [(0, _), (1, _)]) rfl rfl de dn lH (by rfl) (by rfl) rfl (by first | kernel_rfl | rfl) rfl (fun V9 => ?_)
 refine zz0 (ab rfl) (ad (aC ?_))
 refine aX Tryz.results33 rfl (fun w' hw => ?_)
 exact ⟨(_, pc, pt, cc, ct), rfl, hw.b0, hw.ents (Bg.le.refl _) (by repeat' (first | exact Pick.refl _ | exact Del.here _ | apply Pick.cons | apply Del.there | apply Pick.skip | exact Pick.nil _)), trivial⟩
theorem Aa (w : World) :
  Calls Tryz.prog 11 #[] w (fun e w' => e = .returned (.bool true) ∧ Below w.heap.size w w') := by
 refine lE Tryz.func11 rfl Tryz.ntmps11 rfl ?_
 refine ah (zz0 (ab rfl) (aI ?_))
 refine iT (fun i : Value × Option Addr × Option Addr × Nat × Nat => i.1) (fun i : Value × Option Addr × Option Addr × Nat × Nat => [rowE i.1 49 dJ (eV 3 0 false i.2.1 i.2.2.1 i.2.2.2.1 i.2.2.2.2), rowE (.slice i.2.1 (gB 3).length i.2.2.2.1) 5 dZ (gB 3), rowE (.slice i.2.2.1 (iN 3 0 3).length i.2.2.2.2) 5 dZ (iN 3 0 3)]) (ok := fun _ => True) rfl m9 (fun w hw => lF 3 0 false w (by omega) (by omega)) rfl (fun ib1 _ => ?_)
 obtain ⟨VB1, p1, q1, c1, d1⟩ := ib1
 change Tr _ _ (rowE (VB1) 49 dJ (eV 3 0 false p1 q1 c1 d1) :: rowE (.slice p1 (gB 3).length c1) 5 dZ (gB 3) :: rowE (.slice q1 (iN 3 0 3).length d1) 5 dZ (iN 3 0 3) :: _) _ _
 refine du (V := VB1) (.head _) (fun pb1 cb1 hpv => ?_)
 subst hpv
 refine iG (E := al) (4096 : UInt32) rfl rfl af ae cC (fun V1 => ?_)
 refine eB (fun i : (Value × Value × Value × Value × Value × Value) × (CodeP × FndV × Int) × List (RV UInt32) => .tuple #[.agg #[i.1.1, i.1.2.1, i.1.2.2.1, i.1.2.2.2.1], i.1.2.2.2.2.1, i.1.2.2.2.2.2, .int .i64 i.2.1.2.2]) (fun i : (Value × Value × Value × Value × Value × Value) × (CodeP × FndV × Int) × List (RV UInt32) => rowE i.1.1 36 aM i.2.1.1.ins :: rowE i.1.2.1 23 al i.2.1.1.ents :: rowE i.1.2.2.1 23 al i.2.1.1.unk :: rowE i.1.2.2.2.1 23 al i.2.1.1.bad :: rowE i.1.2.2.2.2.1 31 dh i.2.2 :: rowE i.1.2.2.2.2.2 23 al i.2.1.2.1.at_ :: i.2.2.map (rvE 23 al)) (ok := fun i : (Value × Value × Value × Value × Value × Value) × (CodeP × FndV × Int) × List (RV UInt32) => ResIs (eV 3 0 false p1 q1 c1 d1) [4096] i.2.1 ∧ i.2.2.map (·.data) = i.2.1.2.1.ts) rfl rfl Tryz.call17 (fun w hw => pS (eV 3 0 false p1 q1 c1 d1) _ _ [4096] _ w (hw.row (by repeat constructor)) (mr (by omega)) (kd (hw.row (by repeat constructor)) (hw.row (by repeat constructor))) kc (hw.row (by repeat constructor)) (rh (by omega)) (by simp)) rfl (fun iR hR => ?_)
 obtain ⟨⟨Wi, We, Wu, Wb, Wt, Wp⟩, o, rs⟩ := iR
 obtain ⟨ho, hrs⟩ : ResIs (eV 3 0 false p1 q1 c1 d1) [4096] o ∧ rs.map (·.data) = o.2.1.ts := hR
 obtain rfl := G6 ho
 obtain ⟨pr, cr, rfl⟩ := DT hrs
 change Tr _ _ (rowE Wi 36 aM GB.ins :: rowE We 23 al GB.ents :: rowE Wu 23 al GB.unk :: rowE Wb 23 al GB.bad :: rowE Wt 31 dh [⟨[4109, 4110, 4111], pr, cr⟩] :: rowE Wp 23 al ([4103] : List UInt32) :: rvE 23 al ⟨[4109, 4110, 4111], pr, cr⟩ ::  _) _ _
 refine iC (V := Wi) (fun pWi cWi hpv => ?_)
 subst hpv
 refine iC (V := We) (fun pWe cWe hpv => ?_)
 subst hpv
 refine iC (V := Wu) (fun pWu cWu hpv => ?_)
 subst hpv
 refine iC (V := Wb) (fun pWb cWb hpv => ?_)
 subst hpv
 refine iC (V := Wt) (fun pWt cWt hpv => ?_)
 subst hpv
 refine iC (V := Wp) (fun pWp cWp hpv => ?_)
 subst hpv
 refine zz0 (aa rfl) (zz0 (aN rfl rfl) (zz0 (aN rfl rfl) (zz0 (aN rfl rfl) (zz0 (aN rfl rfl) ?_))))
 refine dC d5 rfl (fun b2 => ?_)
 refine zz5 rfl rfl cn ?_
 refine zz0 (ab rfl) (zz0 (ab rfl) (zz0 (ab rfl) (aI ?_)))
 refine dC cR rfl (fun b3 => ?_)
 change Tr _ _ (cellE b3 (cF.enc gk) 37 :: _) _ _
 refine aI (zz0 (az rfl eA (fun w hw => dK 1 3 2 w)) ?_)
 refine zz0 (zz2 (off := 0) (ft := 26) rfl cj rfl di) ?_
 refine zz0 (dH rfl rfl cm ak (by omega)) ?_
 refine fP rfl rfl ak (by repeat constructor) (kJ (s := gk) (k := (1 : Int)) ⟨by omega, by omega⟩ (by simp) (exX)) (by rfl) (kL (k := (1 : Int)) ⟨by omega, by omega⟩ (by simp)) (by first | exact Enc.one bO _ | exact List.all_eq_true.1 rfl) rfl ?_
 refine aI ?_
 refine iT (fun i : Value × Option Addr × Option Addr × Nat × Nat => i.1) (fun i : Value × Option Addr × Option Addr × Nat × Nat => [rowE i.1 49 dJ (eV 4 0 false i.2.1 i.2.2.1 i.2.2.2.1 i.2.2.2.2), rowE (.slice i.2.1 (gB 4).length i.2.2.2.1) 5 dZ (gB 4), rowE (.slice i.2.2.1 (iN 4 0 4).length i.2.2.2.2) 5 dZ (iN 4 0 4)]) (ok := fun _ => True) rfl m9 (fun w hw => lF 4 0 false w (by omega) (by omega)) rfl (fun ib2 _ => ?_)
 obtain ⟨VB2, p2, q2, c2, d2⟩ := ib2
 change Tr _ _ (rowE (VB2) 49 dJ (eV 4 0 false p2 q2 c2 d2) :: rowE (.slice p2 (gB 4).length c2) 5 dZ (gB 4) :: rowE (.slice q2 (iN 4 0 4).length d2) 5 dZ (iN 4 0 4) :: _) _ _
 refine du (V := VB2) (.head _) (fun pb2 cb2 hpv => ?_)
 subst hpv
 refine zz0 (ab rfl) (aI (zz0 (aa rfl) (zz0 (bK (vs := [(2, _), (6, _), (1, _)]) rfl rfl (me _ _ _)) ?_)))
 refine zz0 (bG rfl bQ aR) ?_
 refine ic (E := al) (l := ([4110, 4110, 4110, 4112] : List UInt32)) (T := 23) (fun V => .tuple #[V, .int .i64 0]) rfl na (fun w hw => by have q := lx (eV 4 0 false p2 q2 c2 d2) _ _ El FK w (hw.row (by repeat constructor)) (mr (by omega)) (kd (hw.row (by repeat constructor)) (hw.row (by repeat constructor))) kc Bd; rw [show FK.get El.a = exX from rfl, FQ] at q; exact q) rfl (fun T1 => ?_)
 refine zz0 (aa rfl) (zz0 (aN rfl rfl) (zz0 (aN rfl rfl) (zz0 (ab rfl) (zz0 (ab rfl) (ad (an (dU ([cellE b3 (cF.enc FK) 37]) 9 rfl aP ?_)))))))
 refine zz4 1 rfl (bK (vs := [(2, _), (6, _), (1, _)]) rfl rfl (me _ _ _)) ?_
 refine zz4 2 rfl (bG rfl bQ aR) ?_
 refine dw [0] (fun iq hq => ?_)
 obtain rfl := List.mem_singleton.1 hq
 refine bF rfl ?_
 refine iT (fun i : Value × Option Addr × Option Addr × Nat × Nat => i.1) (fun i : Value × Option Addr × Option Addr × Nat × Nat => [rowE i.1 49 dJ (eV 4 0 true i.2.1 i.2.2.1 i.2.2.2.1 i.2.2.2.2), rowE (.slice i.2.1 (gB 4).length i.2.2.2.1) 5 dZ (gB 4), rowE (.slice i.2.2.1 (iN 4 0 4).length i.2.2.2.2) 5 dZ (iN 4 0 4)]) (ok := fun _ => True) rfl m9 (fun w hw => lF 4 0 true w (by omega) (by omega)) rfl (fun ib3 _ => ?_)
 obtain ⟨VB3, p3, q3, c3, d3⟩ := ib3
 change Tr _ _ (rowE (VB3) 49 dJ (eV 4 0 true p3 q3 c3 d3) :: rowE (.slice p3 (gB 4).length c3) 5 dZ (gB 4) :: rowE (.slice q3 (iN 4 0 4).length d3) 5 dZ (iN 4 0 4) :: _) _ _
 refine du (V := VB3) (.head _) (fun pb3 cb3 hpv => ?_)
 subst hpv
 refine bV ?_
 refine dw [3] (fun iq hq => ?_)
 obtain rfl := List.mem_singleton.1 hq
 refine bF rfl ?_
 refine ic (E := al) (l := ([] : List UInt32)) (T := 23) (fun V => .tuple #[V, .int .i64 19]) rfl na (fun w hw => by have q := lx (eV 4 0 true p3 q3 c3 d3) _ _ El FK w (hw.row (by repeat constructor)) (mr (by omega)) (kd (hw.row (by repeat constructor)) (hw.row (by repeat constructor))) kc Bd; rw [show FK.get El.a = exX from rfl, FP] at q; exact q) rfl (fun T2 => ?_)
 refine bV ?_
 refine zz4 4 rfl (aa rfl) ?_
 refine zz4 5 rfl (aN rfl rfl) ?_
 refine zz4 6 rfl (aN rfl rfl) ?_
 refine zz4 7 rfl (ab rfl) ?_
 refine zz4 8 rfl (ab rfl) ?_
 refine iz ?_
 refine ac (ah (zz0 (az rfl ix (fun w hw => jv 4112 w)) ?_))
 refine zz0 (zz2 (off := 0) (ft := 26) rfl cj rfl di) ?_
 refine zz0 (dH rfl rfl cm ak (by omega)) ?_
 refine fP rfl rfl ak (by repeat constructor) (kJ (s := FK) (k := (2 : Int)) ⟨by omega, by omega⟩ (by simp) (gP 4112)) (by rfl) (kL (k := (2 : Int)) ⟨by omega, by omega⟩ (by simp)) (by first | exact Enc.one bO _ | exact List.all_eq_true.1 rfl) rfl ?_
 refine aI (zz0 (aa rfl) (zz0 (bK (vs := [(2, _), (6, _)]) rfl rfl (jD _ _)) ?_))
 refine zz0 (bG rfl bQ aR) ?_
 refine ic (E := al) (l := ([4112] : List UInt32)) (T := 23) (fun V => .tuple #[V, .int .i64 0]) rfl na (fun w hw => by have q := lx (eV 4 0 false p2 q2 c2 d2) _ _ Ek HQ w (hw.row (by repeat constructor)) (mr (by omega)) (kd (hw.row (by repeat constructor)) (hw.row (by repeat constructor))) kc Bc; rw [show HQ.get Ek.a = gP 4112 from rfl, FO] at q; exact q) rfl (fun T3 => ?_)
 refine zz0 (aa rfl) (zz0 (aN rfl rfl) (zz0 (aN rfl rfl) (zz0 (ab rfl) (zz0 (ab rfl) (aI (zz0 (az rfl fO (fun w hw => jP w)) ?_))))))
 refine zz0 (zz2 (off := 0) (ft := 26) rfl cj rfl di) ?_
 refine zz0 (dH rfl rfl cm ak (by omega)) ?_
 refine fP rfl rfl ak (by repeat constructor) (kJ (s := HQ) (k := (2 : Int)) ⟨by omega, by omega⟩ (by simp) (oa)) (by rfl) (kL (k := (2 : Int)) ⟨by omega, by omega⟩ (by simp)) (by first | exact Enc.one bO _ | exact List.all_eq_true.1 rfl) rfl ?_
 refine aI (zz0 (aa rfl) (zz0 (bK (vs := [(2, _), (6, _)]) rfl rfl (jD _ _)) ?_))
 refine zz0 (bG rfl bQ aR) ?_
 refine ic (E := al) (l := ([] : List UInt32)) (T := 23) (fun V => .tuple #[V, .int .i64 19]) rfl na (fun w hw => by have q := lx (eV 4 0 false p2 q2 c2 d2) _ _ Ek H8 w (hw.row (by repeat constructor)) (mr (by omega)) (kd (hw.row (by repeat constructor)) (hw.row (by repeat constructor))) kc Bc; rw [show H8.get Ek.a = oa from rfl, FN] at q; exact q) rfl (fun T4 => ?_)
 refine zz0 (aa rfl) (zz0 (aN rfl rfl) (zz0 (aN rfl rfl) (zz0 (ab rfl) (zz0 (ab rfl) (aI (zz0 (aa rfl) (zz0 (bA rfl rfl) (zz0 (aa rfl) (zz6 rfl (aa rfl) ?_)))))))))
 refine qh rfl rfl rfl ?_
 refine iG (E := al) (4103 : UInt32) rfl rfl af ae cC (fun V4 => ?_)
 refine zz6 rfl (az rfl lr (fun w hw => ll [4103] [4103] _ _ w (hw.row (by repeat constructor)) (hw.row (by repeat constructor)))) ?_
 refine zz0 (fm rfl rfl rfl) ?_
 refine zz0 (aa rfl) (zz6 rfl (aa rfl) ?_)
 refine zz6 rfl (lQ rfl cS) ?_
 refine zz6 rfl (bA rfl rfl) ?_
 refine zz0 (fm rfl rfl rfl) ?_
 refine zz0 (aa rfl) (zz6 rfl (aa rfl) ?_)
 refine zz6 rfl (uM (E := dh (α := UInt32)) (l := [⟨[4109, 4110, 4111], pr, cr⟩]) (i := 0) rfl rfl (by repeat constructor) cS cg (by rfl) (by simp)) ?_
 refine zz6 rfl (BC (E := dh (α := UInt32)) (l := [⟨[4109, 4110, 4111], pr, cr⟩]) (i := 0) rfl (by repeat constructor) dl (by simp) (by rfl)) ?_
 refine qh rfl rfl rfl ?_
 refine rj (E := al) ([4109, 4110, 4111] : List UInt32) (vs := [(0, _), (1, _), (2, _)]) rfl rfl af ae cC (by rfl) (by rfl) rfl (by first | kernel_rfl | rfl) rfl (fun V5 => ?_)
 refine zz6 rfl (az rfl lr (fun w hw => ll [4109, 4110, 4111] [4109, 4110, 4111] _ _ w (hw.row (by repeat constructor)) (hw.row (by repeat constructor)))) ?_
 refine zz0 (fm rfl rfl rfl) ?_
 refine zz0 (aa rfl) (zz6 rfl (zz2 (off := 0) (ft := 50) rfl bY rfl cY) ?_)
 refine zz6 rfl (aH rfl dq) ?_
 refine zz6 rfl (lQ rfl aL) ?_
 refine zz6 rfl (bA rfl rfl) ?_
 refine zz0 (fm rfl rfl rfl) ?_
 refine zz0 (aa rfl) (zz6 rfl (zz2 (off := 2) (ft := 31) rfl bY rfl cg) ?_)
 refine zz6 rfl (aH rfl dl) ?_
 refine zz6 rfl (lQ rfl af) ?_
 refine zz6 rfl (bA rfl rfl) ?_
 refine zz0 (fm rfl rfl rfl) ?_
 refine zz0 (aa rfl) (zz6 rfl (aa rfl) ?_)
 refine zz6 rfl (bA rfl rfl) ?_
 refine zz0 (fm rfl rfl rfl) ?_
 refine zz0 (aa rfl) (zz6 rfl (aa rfl) ?_)
 refine qh rfl rfl rfl ?_
 refine rj (E := al) ([4110, 4110, 4110, 4112] : List UInt32) (vs := [(0, _), (1, _), (2, _), (3, _)]) rfl rfl af ae cC (by rfl) (by rfl) rfl (by first | kernel_rfl | rfl) rfl (fun V6 => ?_)
 refine zz6 rfl (az rfl lr (fun w hw => ll [4110, 4110, 4110, 4112] [4110, 4110, 4110, 4112] _ _ w (hw.row (by repeat constructor)) (hw.row (by repeat constructor)))) ?_
 refine zz0 (fm rfl rfl rfl) ?_
 refine zz0 (aa rfl) (zz6 rfl (aa rfl) ?_)
 refine zz6 rfl (bA rfl rfl) ?_
 refine zz0 (fm rfl rfl rfl) ?_
 refine zz0 (aa rfl) (zz6 rfl (aa rfl) ?_)
 refine zz6 rfl (bA rfl rfl) ?_
 refine zz0 (fm rfl rfl rfl) ?_
 refine zz0 (aa rfl) (zz6 rfl (aa rfl) ?_)
 refine qh rfl rfl rfl ?_
 refine iG (E := al) (4112 : UInt32) rfl rfl af ae cC (fun V7 => ?_)
 refine zz6 rfl (az rfl lr (fun w hw => ll [4112] [4112] _ _ w (hw.row (by repeat constructor)) (hw.row (by repeat constructor)))) ?_
 refine zz0 (fm rfl rfl rfl) ?_
 refine zz0 (aa rfl) (zz6 rfl (aa rfl) ?_)
 refine zz6 rfl (bA rfl rfl) ?_
 refine zz0 (fm rfl rfl rfl) ?_
 refine zz0 (aa rfl) (zz6 rfl (aa rfl) ?_)
 refine zz6 rfl (az rfl Tryz.call23 (fun w hw => pY (eV 4 0 false p2 q2 c2 d2) _ _ 12288 4 w (hw.row (by repeat constructor)) (mr (by omega)) (kd (hw.row (by repeat constructor)) (hw.row (by repeat constructor))) kc)) ?_
 rw [FS]
 refine zz0 (fm rfl rfl rfl) ?_
 refine zz0 (aa rfl) (zz6 rfl (aa rfl) ?_)
 refine zz6 rfl (az rfl Tryz.call23 (fun w hw => pY (eV 4 0 false p2 q2 c2 d2) _ _ 12288 5 w (hw.row (by repeat constructor)) (mr (by omega)) (kd (hw.row (by repeat constructor)) (hw.row (by repeat constructor))) kc)) ?_
 rw [FR]
 refine zz6 rfl (cP rfl) ?_
 refine zz0 (fm rfl rfl rfl) ?_
 refine zz0 (ab rfl) (ad (aC ?_))
 refine aX Tryz.results11 rfl (fun w' hw => ?_)
 exact ⟨rfl, hw.below0 (Bg.le.refl _)⟩
end Go.Proofs.YtiajjbhcpeadfaaGreat
namespace Go.HL
open Go
theorem AP {l : List SecV} {t : UInt32} {s : VSet} : ∀ {n : Nat} {out : List UInt32}, mh l t s n = some out → ∀ k, k < n → (jp l t (sS s (u32 (k : Int)))).2 = true ∧ out.getD k default = (jp l t (sS s (u32 (k : Int)))).1
 | 0, out, h, k, hk => by omega
 | n + 1, out, h, k, hk => by
  simp only [mh] at h
  cases ho : mh l t s n with
  | none => rw [ho] at h; cases h
  | some o =>
   rw [ho] at h
   simp only at h
   split at h
   ·rename_i q
    cases h
    have hl := qq ho
    rcases Nat.lt_or_ge k n with r | r
    ·obtain ⟨h1, h2⟩ := AP ho k r
     refine ⟨h1, ?_⟩
     rw [← h2, List.getD_eq_getElem?_getD, List.getD_eq_getElem?_getD, List.getElem?_append_left (by omega)]
    ·obtain rfl : k = n := by omega
     refine ⟨q, ?_⟩
     rw [List.getD_eq_getElem?_getD, List.getElem?_append_right (by omega), hl, Nat.sub_self]; rfl
   ·cases h
theorem oq (L : List Ent) : ∀ B : List Ent, Split (B ++ L) B L
 | [] => .nil _
 | b :: B => .cons (.here _) (oq L B)
section
variable {P : Program} {ops : Array Oper} {Q : Exit → Act → World → Prop} {N : Nat} {F : Bg} {L : List Ent} {M : Fr} {ty : TypeId} {pos : String} {after : Array Edge} {rest : List Oper} {d : Nat}
theorem v6 {ι : Type} (φ : ι → Value) (B : ι → List Ent) {ok : ι → Prop} {f : FuncId} {xs : List Operand} {vs : List Value} {ts : Array TypeId} (hx : kM M xs = some vs)
  (he : ∀ (args : Array Value) (w : World), (callFunc f args).run P w = .ok (.enter f args) w)
  (hc : ∀ w, HpOK F L w → Calls P f vs.toArray w fun e w' => ∃ i, e = .returned (φ i) ∧ Ext w w' ∧ NewEnts w w' (B i) ∧ ok i) (hd : Nat.ble (d + 1) N = true)
  (K : ∀ i F', ok i → F.le F' → (∀ e ∈ B i, e.ok (e.blk.bind F'.blk)) → Tr N F' L ((d, φ i) :: M) (wpList P ops Q rest)) :
  Tr N F L M (wpList P ops Q (⟨some d, .call { callee := .value (.func f), args := xs.toArray, argTypes := ts }, ty, pos, after, none⟩ :: rest)) :=
 iT φ B (ok := ok) hx he hc hd (fun i hi => uD (oq L (B i)) (fun F' hF' hk => K i F' hi hF' hk))
end
end Go.HL
namespace Go.HL
open Go Go.RowKit
section
variable {P : Program} {ops : Array Oper} {Q : Exit → Act → World → Prop} {N : Nat} {F : Bg} {L : List Ent} {M : Fr} {ty : TypeId} {pos : String} {after : Array Edge} {rest : List Oper} {d : Nat}
theorem uF {ι : Type} (φ : ι → Value) (B : ι → List Ent) {ok : ι → Prop} {f : FuncId} {xs : List Operand} {vs : List Value} {ts : Array TypeId} (h0 : F.dr = 0) (hx : kM M xs = some vs)
  (he : ∀ (args : Array Value) (w : World), (callFunc f args).run P w = .ok (.enter f args) w)
  (hc : ∀ w, HpOK F L w → Calls P f vs.toArray w fun e w' => ∃ i, e = .returned (φ i) ∧ Below w.heap.size w w' ∧ NewEnts w w' (B i) ∧ ok i) (hd : Nat.ble (d + 1) N = true)
  (K : ∀ i F', ok i → F.le F' → (∀ e ∈ B i, e.ok (e.blk.bind F'.blk)) → Tr N F' L ((d, φ i) :: M) (wpList P ops Q rest)) :
  Tr N F L M (wpList P ops Q (⟨some d, .call { callee := .value (.func f), args := xs.toArray, argTypes := ts }, ty, pos, after, none⟩ :: rest)) :=
 eB φ B (ok := ok) h0 hx he hc hd (fun i hi => uD (oq L (B i)) (fun F' hF' hk => K i F' hi hF' hk))
end
theorem rowE.slL {α : Type} {V : Value} {T : TypeId} {E : Enc α} {l : List α} {h : Hp} {Ls : List Ent} (k : ∀ e ∈ Ls, e.ok (e.blk.bind h)) (hm : rowE V T E l ∈ Ls) : Sl h E l V := RowOK.sl (k _ hm)
theorem rvE.inL {α : Type} {T : TypeId} {E : Enc α} {rs : List (RV α)} {h : Hp} {Ls : List Ent} (k : ∀ e ∈ Ls, e.ok (e.blk.bind h)) (hm : ∀ r ∈ rs, rvE T E r ∈ Ls) : RvIn E h rs := fun r hr => RowOK.sl (k _ (hm r hr))
end Go.HL
namespace Go.HL
open Go
def pC : Ins := ⟨4103, 12288, 22, 0, 0, 0, 1, 0, 6⟩
def bI3 (n : Nat) : List Ins := [⟨4096, 0, 26, 0, 0, 0, 1, 0, 2⟩, ⟨4098, u32 (n : Int), 15, 1, 0, 0, 1, 0, 3⟩, ⟨4101, u32 ((n : Int) + 4109), 20, 1, 0, 8, 0, 0, 2⟩]
def gx (n k : Nat) : List UInt32 := (List.range n).map fun (i : Nat) => 4109 + u32 (((i : Int) + (k : Int)) % (n : Int))
def ky (n : Nat) : CodeP := ⟨bI3 n ++ pC :: (List.range (n + 1)).map (fun (i : Nat) => hlt (4109 + u32 (i : Int))), [4096], [], []⟩
def m4 (n : Nat) : CodeP := ⟨bI3 n ++ pC :: [hlt (4109 + u32 (n : Int))], [4096], [4103], []⟩
theorem k9 {n : Nat} (h : 1 ≤ n ∧ n ≤ 32) {P : Nat → Prop} (h1 : P 1) (h2 : P 2) (h3 : P 3) (h4 : P 4) (h5 : P 5) (h6 : P 6) (h7 : P 7) (h8 : P 8) (h9 : P 9) (h10 : P 10) (h11 : P 11) (h12 : P 12) (h13 : P 13) (h14 : P 14) (h15 : P 15) (h16 : P 16)
  (h17 : P 17) (h18 : P 18) (h19 : P 19) (h20 : P 20) (h21 : P 21) (h22 : P 22) (h23 : P 23) (h24 : P 24) (h25 : P 25) (h26 : P 26) (h27 : P 27) (h28 : P 28) (h29 : P 29) (h30 : P 30) (h31 : P 31) (h32 : P 32) : P n := by
 have : n = 1 ∨ n = 2 ∨ n = 3 ∨ n = 4 ∨ n = 5 ∨ n = 6 ∨ n = 7 ∨ n = 8 ∨ n = 9 ∨ n = 10 ∨ n = 11 ∨ n = 12 ∨ n = 13 ∨ n = 14 ∨ n = 15 ∨ n = 16 ∨ n = 17 ∨ n = 18 ∨ n = 19 ∨ n = 20 ∨ n = 21 ∨ n = 22 ∨ n = 23 ∨ n = 24 ∨ n = 25 ∨ n = 26 ∨ n = 27 ∨ n = 28 ∨ n = 29 ∨ n = 30 ∨ n = 31 ∨ n = 32 := by omega
 rcases this with rfl | rfl | rfl | rfl | rfl | rfl | rfl | rfl | rfl | rfl | rfl | rfl | rfl | rfl | rfl | rfl | rfl | rfl | rfl | rfl | rfl | rfl | rfl | rfl | rfl | rfl | rfl | rfl | rfl | rfl | rfl | rfl <;> assumption
section
variable {n k : Nat} {wr : Bool} {p q : Option Addr} {c d : Nat}
set_option maxRecDepth 1000000
set_option maxHeartbeats 16000000
theorem Bp (h : 1 ≤ n ∧ n ≤ 32) (k : Nat) (wr : Bool) (p q : Option Addr) (c d : Nat) : fS (eV n k wr p q c d) = 0 := by
 refine k9 (P := fun n => fS (eV n k wr p q c d) = 0) h ?_ ?_ ?_ ?_ ?_ ?_ ?_ ?_ ?_ ?_ ?_ ?_ ?_ ?_ ?_ ?_ ?_ ?_ ?_ ?_ ?_ ?_ ?_ ?_ ?_ ?_ ?_ ?_ ?_ ?_ ?_ ?_ <;> as_aux_lemma => kernel_rfl
theorem Hi (h : 1 ≤ n ∧ n ≤ 32) (k : Nat) (wr : Bool) (p q : Option Addr) (c d : Nat) : (fun s : DSt => (s.rest, uz s)) (ol (eV n k wr p q c d) [] [] 3000 (oo [4096])) = ([], m4 n) := by
 refine k9 (P := fun n => (fun s : DSt => (s.rest, uz s)) (ol (eV n k wr p q c d) [] [] 3000 (oo [4096])) = ([], m4 n)) h ?_ ?_ ?_ ?_ ?_ ?_ ?_ ?_ ?_ ?_ ?_ ?_ ?_ ?_ ?_ ?_ ?_ ?_ ?_ ?_ ?_ ?_ ?_ ?_ ?_ ?_ ?_ ?_ ?_ ?_ ?_ ?_ <;> as_aux_lemma => kernel_rfl
theorem Hh (h : 1 ≤ n ∧ n ≤ 32) (k : Nat) (wr : Bool) (p q : Option Addr) (c d : Nat) : (fun s : DSt => (s.rest, uz s)) (ol (eV n k wr p q c d) (tabs [gx n 0]) [4103] 3000 (oo [4096])) = ([], ky n) := by
 refine k9 (P := fun n => (fun s : DSt => (s.rest, uz s)) (ol (eV n k wr p q c d) (tabs [gx n 0]) [4103] 3000 (oo [4096])) = ([], ky n)) h ?_ ?_ ?_ ?_ ?_ ?_ ?_ ?_ ?_ ?_ ?_ ?_ ?_ ?_ ?_ ?_ ?_ ?_ ?_ ?_ ?_ ?_ ?_ ?_ ?_ ?_ ?_ ?_ ?_ ?_ ?_ ?_ <;> as_aux_lemma => kernel_rfl
def xh (c : CodeP) (ts : List (List UInt32)) : List (List StV × Int) := (fh (uY (jZ c.ins (c.ents :: ts)))).map fun r => eC c.ins r 4096
def Cx (c : CodeP) (A : List (List StV × Int)) : Int × Bool × VSet := (Cs A, (oQ c.ins 4103 (A.map (·.1))).2, (oQ c.ins 4103 (A.map (·.1))).1.r1)
theorem EJ (h : 1 ≤ n ∧ n ≤ 32) : Cx (m4 n) (xh (m4 n) []) = (0, true, db 0 (u32 ((n : Int) - 1)) 1) := by
 refine k9 (P := fun n => Cx (m4 n) (xh (m4 n) []) = (0, true, db 0 (u32 ((n : Int) - 1)) 1)) h ?_ ?_ ?_ ?_ ?_ ?_ ?_ ?_ ?_ ?_ ?_ ?_ ?_ ?_ ?_ ?_ ?_ ?_ ?_ ?_ ?_ ?_ ?_ ?_ ?_ ?_ ?_ ?_ ?_ ?_ ?_ ?_ <;> as_aux_lemma => kernel_rfl
theorem Hl (h : 1 ≤ n ∧ n ≤ 32) : Cx (ky n) (xh (ky n) [gx n 0]) = (0, true, db 0 (u32 ((n : Int) - 1)) 1) := by
 refine k9 (P := fun n => Cx (ky n) (xh (ky n) [gx n 0]) = (0, true, db 0 (u32 ((n : Int) - 1)) 1)) h ?_ ?_ ?_ ?_ ?_ ?_ ?_ ?_ ?_ ?_ ?_ ?_ ?_ ?_ ?_ ?_ ?_ ?_ ?_ ?_ ?_ ?_ ?_ ?_ ?_ ?_ ?_ ?_ ?_ ?_ ?_ ?_ <;> as_aux_lemma => kernel_rfl
def sE (c : CodeP) : Bool := Bb c.ins && decide (c.ents.filter (inK c.ins) = c.ents) && decide (c.unk.filter (inK c.ins) = c.unk)
theorem HU (h : 1 ≤ n ∧ n ≤ 32) : (sE (m4 n) && sE (ky n) && (((ky n).ins.filter nI == [pC]) && ((m4 n).ins.filter nI == [pC]))) = true := by
 refine k9 (P := fun n => (sE (m4 n) && sE (ky n) && (((ky n).ins.filter nI == [pC]) && ((m4 n).ins.filter nI == [pC]))) = true) h ?_ ?_ ?_ ?_ ?_ ?_ ?_ ?_ ?_ ?_ ?_ ?_ ?_ ?_ ?_ ?_ ?_ ?_ ?_ ?_ ?_ ?_ ?_ ?_ ?_ ?_ ?_ ?_ ?_ ?_ ?_ ?_ <;> as_aux_lemma => kernel_rfl
theorem Hk (h : 1 ≤ n ∧ n ≤ 32) (p q : Option Addr) (c d : Nat) : ((List.range n).all fun r => decide (cO (eV n r false p q c d) pC (db 0 (u32 ((n : Int) - 1)) 1) = (gx n r, 0)) && (gx n r).isPerm (gx n 0)) = true := by
 refine k9 (P := fun n => ((List.range n).all fun r => decide (cO (eV n r false p q c d) pC (db 0 (u32 ((n : Int) - 1)) 1) = (gx n r, 0)) && (gx n r).isPerm (gx n 0)) = true) h ?_ ?_ ?_ ?_ ?_ ?_ ?_ ?_ ?_ ?_ ?_ ?_ ?_ ?_ ?_ ?_ ?_ ?_ ?_ ?_ ?_ ?_ ?_ ?_ ?_ ?_ ?_ ?_ ?_ ?_ ?_ ?_ <;> as_aux_lemma => kernel_rfl
theorem HT (h : 1 ≤ n ∧ n ≤ 32) : (((List.range n).all fun j => q7 (db 0 (u32 ((n : Int) - 1)) 1) (u32 (j : Int))) && decide ((db 0 (u32 ((n : Int) - 1)) 1).hi.toNat + 1 = n)) = true := by
 refine k9 (P := fun n => (((List.range n).all fun j => q7 (db 0 (u32 ((n : Int) - 1)) 1) (u32 (j : Int))) && decide ((db 0 (u32 ((n : Int) - 1)) 1).hi.toNat + 1 = n)) = true) h ?_ ?_ ?_ ?_ ?_ ?_ ?_ ?_ ?_ ?_ ?_ ?_ ?_ ?_ ?_ ?_ ?_ ?_ ?_ ?_ ?_ ?_ ?_ ?_ ?_ ?_ ?_ ?_ ?_ ?_ ?_ ?_ <;> as_aux_lemma => kernel_rfl
theorem Hj (h : 1 ≤ n ∧ n ≤ 32) (k : Nat) (p q : Option Addr) (c d : Nat) : cO (eV n k true p q c d) pC (db 0 (u32 ((n : Int) - 1)) 1) = ([], 19) := by
 refine k9 (P := fun n => cO (eV n k true p q c d) pC (db 0 (u32 ((n : Int) - 1)) 1) = ([], 19)) h ?_ ?_ ?_ ?_ ?_ ?_ ?_ ?_ ?_ ?_ ?_ ?_ ?_ ?_ ?_ ?_ ?_ ?_ ?_ ?_ ?_ ?_ ?_ ?_ ?_ ?_ ?_ ?_ ?_ ?_ ?_ ?_ <;> as_aux_lemma => kernel_rfl
end
end Go.HL
namespace Go.HL
open Go
theorem zH {ins : List Ins} {ents : List UInt32} {t t' : List UInt32} (h : t.Perm t') : jo ins ents [t] = jo ins ents [t'] := by
 unfold jo
 rw [qw]
 unfold jZ
 simp only [List.flatMap_cons, List.flatMap_nil, List.append_nil]
 exact (h.filter _).append_left _
theorem BH {l : List SecV} {ts ts' : List TabV} {at_ es : List UInt32} {c : CodeP} {e : Int} (hl : ts.length = ts'.length) (hk : ∀ a, (dQ ts at_ a).isSome = (dQ ts' at_ a).isSome ∧ ∀ x, x ∈ (dQ ts at_ a).getD [] ↔ x ∈ (dQ ts' at_ a).getD [])
  (h : WalkIs l ts at_ es c e) : WalkIs l ts' at_ es c e := by
 have hlead : ∀ i a, a ∈ jt ts at_ i ↔ a ∈ jt ts' at_ i := fun i a => by
  unfold jt
  rw [List.mem_append, List.mem_append]
  split
  ·rw [(hk i.addr).2]
  ·exact Iff.rfl
 have hcall : ∀ i a, a ∈ jj ts at_ i ↔ a ∈ jj ts' at_ i := fun i a => by
  unfold jj
  split
  ·exact Iff.rfl
  split
  ·exact (hk i.addr).2 a
  ·exact Iff.rfl
 have hunk : ∀ i, ns ts at_ i = ns ts' at_ i := fun i => by
  unfold ns
  have := (hk i.addr).1
  cases h1 : dQ ts at_ i.addr <;> cases h2 : dQ ts' at_ i.addr <;> simp_all
 have hR : ∀ a, Reach l ts at_ es a ↔ Reach l ts' at_ es a := fun a => by
  constructor
  ·intro r
   induction r with
   | ent a q => exact .ent a q
   | step b a q1 q2 q3 ih => exact .step b a ih q2 ((hlead _ _).1 q3)
  ·intro r
   induction r with
   | ent a q => exact .ent a q
   | step b a q1 q2 q3 ih => exact .step b a ih q2 ((hlead _ _).2 q3)
 cases h with
 | arg h1 h2 h3 => exact .arg (hl ▸ h1) h2 h3
 | chk h1 h2 h3 h4 => exact .chk (hl ▸ h1) h2 h3 h4
 | ok h1 h2 h3 h4 =>
  refine .ok (hl ▸ h1) h2 h3 ⟨?_, ?_, ?_, ?_⟩
  ·obtain ⟨ks, k1, k2, k3⟩ := h4.ins
   exact ⟨ks, k1, fun a => by rw [k2, hR], k3⟩
  ·exact ⟨h4.bad.1, fun a => by rw [h4.bad.2, hR]⟩
  ·refine ⟨h4.ents.1, fun a => ?_⟩
   rw [h4.ents.2, hR]
   simp only [hR, hcall]
  ·refine ⟨h4.unk.1, fun a => ?_⟩
   rw [h4.unk.2, hR, hunk]
theorem Ci {t t' : List UInt32} (h : t.Perm t') (b a : UInt32) : (dQ (tabs [t]) [b] a).isSome = (dQ (tabs [t']) [b] a).isSome ∧ ∀ x, x ∈ (dQ (tabs [t]) [b] a).getD [] ↔ x ∈ (dQ (tabs [t']) [b] a).getD [] := by
 by_cases hb : a = b
 ·subst hb
  have e : ∀ t : List UInt32, dQ (tabs [t]) [a] a = some t := fun t => by
   unfold dQ
   rw [show dY (fun x => decide (a = x)) 0 [a] = 0 by simp [dY]]
   rfl
  rw [e, e]
  exact ⟨rfl, fun x => h.mem_iff⟩
 ·have e : ∀ t : List UInt32, dQ (tabs [t]) [b] a = none := fun t => by
   unfold dQ
   rw [show dY (fun x => decide (a = x)) 0 [b] = -1 by simp [dY, hb]]
   rfl
  rw [e, e]
  exact ⟨rfl, fun x => Iff.rfl⟩
theorem rV {l : List SecV} {ins : List Ins} {ss : List (List StV)} : ∀ (xs : List Ins) (f : FndV), xs.foldl (ju l ins ss) f = (xs.filter nI).foldl (ju l ins ss) f
 | [], f => rfl
 | x :: xs, f => by
  rw [List.filter_cons]
  split
  ·rw [List.foldl_cons, List.foldl_cons]; exact rV xs _
  ·rename_i h
   rw [List.foldl_cons, m0 (by simpa using h)]; exact rV xs _
theorem rF {l : List SecV} {c : CodeP} {ts : List (List UInt32)} (hf : sE c = true) (hi : c.ins.filter nI = [pC]) {x : VSet} (ha : Cx c (xh c ts) = (0, true, x)) {t : List UInt32} {e : Int} (ht : cO l pC x = (t, e)) :
  ml l c ts = (c, if e = 0 then ⟨[t], [4103]⟩ else ⟨[], []⟩, 0) := by
 unfold sE at hf
 simp only [Bool.and_eq_true, decide_eq_true_eq] at hf
 obtain ⟨⟨hf1, hf2⟩, hf3⟩ := hf
 have hc : (⟨c.ins, c.ents.filter (inK c.ins), c.unk.filter (inK c.ins), c.bad⟩ : CodeP) = c := by rw [hf2, hf3]
 have h1 : yJ l c ts = some (Eo l c ts) := by
  unfold yJ
  rw [if_pos hf1, hc]
 rw [← yI h1]
 simp only [Cx, Prod.mk.injEq] at ha
 obtain ⟨a1, a2, a3⟩ := ha
 show Be l c (xh c ts) = _
 unfold Be
 rw [if_neg (by rw [a1]; simp)]
 congr 1
 unfold l4
 rw [rV, hi]
 show (ju l c.ins ((xh c ts).map (·.1)) ⟨[], []⟩ pC, (0 : Int)) = _
 unfold ju
 have e1 : ((oQ c.ins pC.addr ((xh c ts).map (·.1))).1.get pC.a) = x := a3
 have e2 : (oQ c.ins pC.addr ((xh c ts).map (·.1))).2 = true := a2
 rw [e1, ht]
 by_cases he : e = 0
 ·rw [if_pos ⟨rfl, e2, he⟩, if_pos he]; rfl
 ·rw [if_neg (fun q => he q.2.2), if_neg he]
section
variable {n k : Nat} {wr : Bool} {p q : Option Addr} {c d : Nat}
theorem y9 (n k : Nat) : ∀ j, iN n k j = iN n (k % n) j
 | 0 => rfl
 | j + 1 => by
  rw [pg, pg, y9 n k j]
  unfold bEl
  rw [show ((j : Int) + (k : Int)) % (n : Int) = ((j : Int) + ((k % n : Nat) : Int)) % (n : Int) by rw [Int.natCast_emod, Int.add_emod_emod]]
theorem EK : eV n k wr p q c d = eV n (k % n) wr p q c d := by unfold eV; rw [y9]
theorem Dn (n k : Nat) : gx n k = gx n (k % n) := by
 unfold gx
 refine List.map_congr_left fun i _ => ?_
 rw [show ((i : Int) + (k : Int)) % (n : Int) = ((i : Int) + ((k % n : Nat) : Int)) % (n : Int) by rw [Int.natCast_emod, Int.add_emod_emod]]
theorem Bo (h : 1 ≤ n ∧ n ≤ 32) : cO (eV n k false p q c d) pC (db 0 (u32 ((n : Int) - 1)) 1) = (gx n k, 0) ∧ (gx n k).Perm (gx n 0) := by
 rw [EK, Dn]
 have h1 := List.all_eq_true.1 (Hk h p q c d) (k % n) (List.mem_range.2 (Nat.mod_lt _ (by omega)))
 simp only [Bool.and_eq_true, decide_eq_true_eq] at h1
 exact ⟨h1.1, List.isPerm_iff.1 h1.2⟩
theorem Do (n k : Nat) : (gx n k).length = n := by unfold gx; simp
theorem Dp {n k i : Nat} (h : i < n) : (gx n k).getD i default = 4109 + u32 (((i : Int) + (k : Int)) % (n : Int)) := by
 unfold gx
 rw [List.getD_eq_getElem?_getD, List.getElem?_map, List.getElem?_range h]; rfl
theorem Em (n : Nat) : (ky n).ins.length = 5 + n := by simp [ky, bI3]; omega
theorem FM {n : Nat} {i k : Nat} (hn : 1 ≤ n) : (ky n).ins.any (fun x => decide (x.addr = 4109 + u32 (((i : Int) + (k : Int)) % (n : Int)))) = true := by
 rw [List.any_eq_true]
 have h1 := Int.emod_nonneg ((i : Int) + (k : Int)) (b := (n : Int)) (by omega)
 have h2 := Int.emod_lt_of_pos ((i : Int) + (k : Int)) (b := (n : Int)) (by omega)
 refine ⟨hlt (4109 + u32 (((i : Int) + (k : Int)) % (n : Int))), ?_, by simp [hlt]⟩
 unfold ky
 refine List.mem_append_right _ (.tail _ (List.mem_map.2 ⟨(((i : Int) + (k : Int)) % (n : Int)).toNat, List.mem_range.2 (by omega), ?_⟩))
 rw [show (((((i : Int) + (k : Int)) % (n : Int)).toNat : Nat) : Int) = ((i : Int) + (k : Int)) % (n : Int) by omega]
theorem xK {l : List SecV} {i : Ins} {x : VSet} {t : List UInt32} (h22 : i.op = 22) (h : cO l i x = (t, 0)) : fS l = 0 ∧ mh l i.imm x (x.hi.toNat + 1) = some t := by
 unfold cO at h
 split at h
 ·cases h
 split at h
 ·rename_i h2; exact absurd (congrArg Prod.snd h) h2
 rename_i h2
 have hc : fS l = 0 := by simpa using h2
 refine ⟨hc, ?_⟩
 split at h
 ·cases h
 rw [if_neg (fun q => q h22)] at h
 split at h
 ·cases h
 split at h
 ·cases h
 ·rename_i out ho
  cases h; exact ho
theorem HV (h : 1 ≤ n ∧ n ≤ 32) : oI (eV n k false p q c d) 12288 (n : Int) = true := by
 have hh := HT h
 rw [Bool.and_eq_true, List.all_eq_true, decide_eq_true_eq] at hh
 obtain ⟨hc, ht⟩ := xK rfl (Bo (k := k) (p := p) (q := q) (c := c) (d := d) h).1
 rw [hh.2] at ht
 have key : ∀ m, m ≤ n → kN (eV n k false p q c d) 12288 m = true := by
  intro m
  induction m with
  | zero => intro _; rfl
  | succ m ih =>
   intro hm
   have h1 := (AP ht m (by omega)).1
   unfold sS at h1
   rw [if_pos (hh.1 m (List.mem_range.2 (by omega)))] at h1
   simp only [kN, ih (by omega), Bool.true_and]
   exact h1
 unfold oI
 rw [if_neg (by rw [hc]; simp; omega)]
 exact key _ (by omega)
theorem yZ (h : 1 ≤ n ∧ n ≤ 32) : (sE (m4 n) = true ∧ sE (ky n) = true) ∧ (ky n).ins.filter nI = [pC] ∧ (m4 n).ins.filter nI = [pC] := by
 have := HU h
 simp only [Bool.and_eq_true, beq_iff_eq] at this
 exact ⟨⟨this.1.1, this.1.2⟩, this.2⟩
theorem sg (h : 1 ≤ n ∧ n ≤ 32) {ts : List TabV} {o : CodeP × FndV × Int} (ht : ts.map (·.data) = []) (hr : RoundIs (eV n k wr p q c d) [4096] ts [] o) :
  o = (m4 n, if wr = true then ⟨[], []⟩ else ⟨[gx n k], [4103]⟩, 0) := by
 obtain rfl : ts = [] := by cases ts with
  | nil => rfl
  | cons a b => cases ht
 obtain ⟨cc, e, hw, hi⟩ := hr
 have hw0 := Hi h k wr p q c d
 simp only [Prod.mk.injEq] at hw0
 obtain ⟨k1, k2⟩ := rz (by exact ⟨Nat.zero_le _, fun t q => by cases q⟩) hw rfl (Bp h k wr p q c d) hw0.1
 rw [hw0.2] at k1
 subst k1
 rw [if_neg (by rw [k2]; simp)] at hi
 rw [hi]
 obtain ⟨⟨f1, f2⟩, f3, f4⟩ := yZ h
 cases wr with
 | false => exact rF f1 f4 (EJ h) (Bo h).1
 | true => exact rF f1 f4 (EJ h) (Hj h k p q c d)
theorem Am (h : 1 ≤ n ∧ n ≤ 32) {ts : List TabV} {o : CodeP × FndV × Int} (ht : ts.map (·.data) = [gx n k]) (hr : RoundIs (eV n k false p q c d) [4096] ts [4103] o) :
  o = (ky n, ⟨[gx n k], [4103]⟩, 0) := by
 obtain ⟨cc, e, hw, hi⟩ := hr
 have hp := (Bo (k := k) (p := p) (q := q) (c := c) (d := d) h).2
 have hw := tB (ts' := tabs [gx n k]) (by rw [ht]; rfl) hw
 have hw := BH (ts := tabs [gx n k]) (ts' := tabs [gx n 0]) rfl (fun a => Ci hp 4103 a) hw
 have hw1 := Hh h k false p q c d
 simp only [Prod.mk.injEq] at hw1
 have hT : oe (tabs [gx n 0]) := ⟨by simp [tabs], fun t q => by
  simp only [tabs, List.map_cons, List.map_nil, List.mem_singleton] at q
  subst q
  show (gx n 0).length ≤ 64
  unfold gx; simp; omega⟩
 obtain ⟨k1, k2⟩ := rz hT hw rfl (Bp h k false p q c d) hw1.1
 rw [hw1.2] at k1
 subst k1
 rw [if_neg (by rw [k2]; simp)] at hi
 rw [hi, ht]
 obtain ⟨⟨f1, f2⟩, f3, f4⟩ := yZ h
 have e1 : ml (eV n k false p q c d) (ky n) [gx n k] = ml (eV n k false p q c d) (ky n) [gx n 0] := by
  unfold ml
  rw [zH hp]
 rw [e1]
 exact rF f2 f3 (Hl h) (Bo h).1
theorem Cw (h : 1 ≤ n ∧ n ≤ 32) {o : CodeP × FndV × Int} (hr : ResIs (eV n k false p q c d) [4096] o) : o = (ky n, ⟨[gx n k], [4103]⟩, 0) := by
 have key : ∀ m f, Rnds (eV n k false p q c d) [4096] m f → (m = 0 ∧ f = ⟨[], []⟩) ∨ (m = 1 ∧ f = ⟨[gx n k], [4103]⟩) := by
  intro m f hm
  induction hm with
  | zero => exact .inl ⟨rfl, rfl⟩
  | step m f ts o hm ht hr h0 hn ih =>
   rcases ih with ⟨rfl, rfl⟩ | ⟨rfl, rfl⟩
   ·have := sg h ht hr
    subst this
    exact .inr ⟨rfl, rfl⟩
   ·have := Am h ht hr
    subst this
    exact absurd ⟨rfl, rfl⟩ hn
 cases hr with
 | err m f ts o' hm hn ht hr h0 ho =>
  rcases key _ _ hm with ⟨rfl, rfl⟩ | ⟨rfl, rfl⟩
  ·have := sg h ht hr; subst this; exact absurd rfl h0
  ·have := Am h ht hr; subst this; exact absurd rfl h0
 | out f hm ho =>
  rcases key _ _ hm with ⟨q, _⟩ | ⟨q, _⟩ <;> omega
 | ok m f ts o' hm hn ht hr h0 hs ho =>
  rcases key _ _ hm with ⟨rfl, rfl⟩ | ⟨rfl, rfl⟩
  ·have := sg h ht hr; subst this; exact absurd hs.1 (by simp)
  ·have := Am h ht hr; subst this; exact ho
theorem EI (h : 1 ≤ n ∧ n ≤ 32) {o : CodeP × FndV × Int} (hr : ResIs (eV n k true p q c d) [4096] o) : o = (m4 n, ⟨[], []⟩, 0) := by
 have key : ∀ m f, Rnds (eV n k true p q c d) [4096] m f → m = 0 ∧ f = ⟨[], []⟩ := by
  intro m f hm
  induction hm with
  | zero => exact ⟨rfl, rfl⟩
  | step m f ts o hm ht hr h0 hn ih =>
   obtain ⟨rfl, rfl⟩ := ih
   have := sg h ht hr
   subst this
   exact absurd ⟨rfl, rfl⟩ hn
 cases hr with
 | err m f ts o' hm hn ht hr h0 ho =>
  obtain ⟨rfl, rfl⟩ := key _ _ hm
  have := sg h ht hr; subst this; exact absurd rfl h0
 | out f hm ho =>
  have := (key _ _ hm).1; omega
 | ok m f ts o' hm hn ht hr h0 hs ho =>
  obtain ⟨rfl, rfl⟩ := key _ _ hm
  have := sg h ht hr; subst this; exact ho
end
end Go.HL
namespace Go.Proofs.YtiajjbhcpeadfaaGreat
open Go Go.HL Go.RowKit
theorem B0 (i : Ins) (a : UInt32) (b : Nat) (w : World) (hc : Cell (hp w) b 0 (.int .u32 a.toNat)) :
  Cr Tryz.prog 90 #[.agg (aM.enc i).toArray, .pointer (some ⟨b, 0, none⟩)] w (.bool (decide (i.addr = a))) := by
 have hc' : Cell (Bg.of w).blk b 0 (.int .u32 a.toNat) := hc
 refine enter Tryz.func90 rfl Tryz.ntmps90 rfl ?_
 refine ah ?_
 refine dG rfl rfl (fun b1 => ?_)
 refine zz0 (ab rfl) (aI (zz0 (zz2 (off := 0) (ft := 23) rfl aj rfl ae) ?_))
 refine zz0 (aH rfl am) ?_
 refine zz0 (lO rfl (by assumption) am) ?_
 refine zz0 (eE rfl rfl) ?_
 refine zz0 (ab rfl) (ad (aC ?_))
 refine aX Tryz.results90 rfl (fun w' hw => ?_)
 exact ⟨rfl, hw.b0⟩
theorem Dy (li : List Ins) (a : UInt32) (Vi Ve Vu Vb : Value) (w : World) (hI : Sl (hp w) aM li Vi) :
  Cr Tryz.prog 34 #[.agg #[Vi, Ve, Vu, Vb], .int .u32 a.toNat] w (.bool (li.any fun i => decide (i.addr = a))) := by
 have hI' : Sl (Bg.of w).blk aM li Vi := hI
 refine enter Tryz.func34 rfl Tryz.ntmps34 rfl ?_
 refine ah ?_
 refine dG rfl rfl (fun b1 => ?_)
 refine dG rfl rfl (fun b2 => ?_)
 refine zz0 (ab rfl) (aI (zz0 (zz2 (off := 0) (ft := 50) rfl bY rfl cY) ?_))
 refine zz0 (aH rfl dq) ?_
 refine zz0 (eU rfl rfl) ?_
 refine zz0 (az rfl Tryz.call86 (fun w hw => j2 li Vi _ _ w (hw.slF hI') Tryz.call90 (fun i => decide (i.addr = a)) (fun x hx w'' h => B0 x a _ w'' (cellE.cell (hw.ent _ (.head _)) h rfl)))) ?_
 refine zz0 (ab rfl) (ad (aC ?_))
 refine aX Tryz.results34 rfl (fun w' hw => ?_)
 exact ⟨rfl, hw.b0⟩
theorem uB (a b : UInt8) (w : World) :
  Calls Tryz.prog 9 #[.int .u8 a.toNat, .int .u8 b.toNat] w (fun e w' => e = .returned (.bool true) ∧ Below w.heap.size w w') := by
 obtain ⟨n, hnd⟩ : ∃ n : Nat, n = 1 + (a % 32).toNat := ⟨_, rfl⟩
 have ham : (a % 32).toNat < 32 := by rw [UInt8.toNat_mod]; exact Nat.mod_lt _ (by decide)
 have hn : 1 ≤ n ∧ n ≤ 32 := by omega
 have hbt := b.toNat_lt
 refine lE Tryz.func9 rfl Tryz.ntmps9 rfl ?_
 refine ah (zz0 (ab rfl) (aI (zz0 (aa rfl) (zz0 (Gm (n := 32) rfl rfl (by first | decide | assumption)) ?_))))
 refine zz0 (gV rfl bU ba) (zz0 (cB rfl rfl) ?_)
 rw [show (1 : Int) + ((a % 32).toNat : Int) = ((n : Nat) : Int) by omega]
 refine zz0 (aa rfl) (zz0 (gV rfl bU ba) (zz0 (ab rfl) (zz0 (ab rfl) (aI (zz0 (aa rfl) (zz0 (aa rfl) ?_))))))
 refine v6 (fun i : Value × Option Addr × Option Addr × Nat × Nat => i.1) (fun i : Value × Option Addr × Option Addr × Nat × Nat => [rowE i.1 49 dJ (eV n b.toNat false i.2.1 i.2.2.1 i.2.2.2.1 i.2.2.2.2), rowE (.slice i.2.1 (gB n).length i.2.2.2.1) 5 dZ (gB n), rowE (.slice i.2.2.1 (iN n b.toNat n).length i.2.2.2.2) 5 dZ (iN n b.toNat n)]) (ok := fun _ => True) rfl m9 (fun w hw => lF n b.toNat false w (by omega) (by omega)) rfl (fun ib1 F1 _ hF1 hk1 => ?_)
 obtain ⟨VB1, p1, q1, c1, d1⟩ := ib1
 have sV1 : Sl F1.blk dJ (eV n b.toNat false p1 q1 c1 d1) VB1 := rowE.slL hk1 (.head _)
 have sC1 : Sl F1.blk dZ (gB n) (.slice p1 (gB n).length c1) := rowE.slL hk1 (.tail _ (.head _))
 have sT1 : Sl F1.blk dZ (iN n b.toNat n) (.slice q1 (iN n b.toNat n).length d1) := rowE.slL hk1 (.tail _ (.tail _ (.head _)))
 have hr1 : F1.dr = 0 := hF1.dr
 obtain ⟨pv1, cv1, hv, _⟩ := sV1.shape
 subst hv
 refine zz0 (ab rfl) (aI (zz0 (aa rfl) ?_))
 refine iG (E := al) (4096 : UInt32) rfl rfl af ae cC (fun V1 => ?_)
 refine uF (fun i : (Value × Value × Value × Value × Value × Value) × (CodeP × FndV × Int) × List (RV UInt32) => .tuple #[.agg #[i.1.1, i.1.2.1, i.1.2.2.1, i.1.2.2.2.1], i.1.2.2.2.2.1, i.1.2.2.2.2.2, .int .i64 i.2.1.2.2]) (fun i : (Value × Value × Value × Value × Value × Value) × (CodeP × FndV × Int) × List (RV UInt32) => rowE i.1.1 36 aM i.2.1.1.ins :: rowE i.1.2.1 23 al i.2.1.1.ents :: rowE i.1.2.2.1 23 al i.2.1.1.unk :: rowE i.1.2.2.2.1 23 al i.2.1.1.bad :: rowE i.1.2.2.2.2.1 31 dh i.2.2 :: rowE i.1.2.2.2.2.2 23 al i.2.1.2.1.at_ :: i.2.2.map (rvE 23 al)) (ok := fun i : (Value × Value × Value × Value × Value × Value) × (CodeP × FndV × Int) × List (RV UInt32) => ResIs (eV n b.toNat false p1 q1 c1 d1) [4096] i.2.1 ∧ i.2.2.map (·.data) = i.2.1.2.1.ts) hr1 rfl Tryz.call17 (fun w hw => pS (eV n b.toNat false p1 q1 c1 d1) _ _ [4096] _ w (hw.slF sV1) (mr (by omega)) (kd (hw.slF sC1) (hw.slF sT1)) kc (hw.row (by repeat constructor)) (rh (by omega)) (by simp)) rfl (fun iR2 F2 hR2 hF2 hk2 => ?_)
 obtain ⟨⟨Wi, We, Wu, Wb, Wt, Wp⟩, o, rs⟩ := iR2
 obtain ⟨ho, hrs⟩ : ResIs (eV n b.toNat false p1 q1 c1 d1) [4096] o ∧ rs.map (·.data) = o.2.1.ts := hR2
 obtain rfl := Cw hn ho
 obtain ⟨pr, cr, rfl⟩ := DT hrs
 have hr2 : F2.dr = 0 := hF2.dr.trans hr1
 have sWi : Sl F2.blk aM (ky n).ins Wi := rowE.slL hk2 (.head _)
 have sWe : Sl F2.blk al [4096] We := rowE.slL hk2 (.tail _ (.head _))
 have sWu : Sl F2.blk al [] Wu := rowE.slL hk2 (.tail _ (.tail _ (.head _)))
 have sWb : Sl F2.blk al [] Wb := rowE.slL hk2 (.tail _ (.tail _ (.tail _ (.head _))))
 have sWt : Sl F2.blk dh [(⟨gx n b.toNat, pr, cr⟩ : RV UInt32)] Wt := rowE.slL hk2 (.tail _ (.tail _ (.tail _ (.tail _ (.head _)))))
 have sWp : Sl F2.blk al [4103] Wp := rowE.slL hk2 (.tail _ (.tail _ (.tail _ (.tail _ (.tail _ (.head _))))))
 have sRo : Sl F2.blk al (gx n b.toNat) (.slice pr (gx n b.toNat).length cr) := rvE.inL (rs := [(⟨gx n b.toNat, pr, cr⟩ : RV UInt32)]) hk2 (fun r hr => .tail _ (.tail _ (.tail _ (.tail _ (.tail _ (.tail _ (List.mem_map.2 ⟨r, hr, rfl⟩))))))) _ (.head _)
 obtain ⟨pWi, cWi, hv, _⟩ := sWi.shape
 subst hv
 obtain ⟨pWe, cWe, hv, _⟩ := sWe.shape
 subst hv
 obtain ⟨pWu, cWu, hv, _⟩ := sWu.shape
 subst hv
 obtain ⟨pWb, cWb, hv, _⟩ := sWb.shape
 subst hv
 refine zz0 (aa rfl) (zz0 (aN rfl rfl) (zz0 (aN rfl rfl) (zz0 (aN rfl rfl) (zz0 (aN rfl rfl) ?_))))
 refine dC d5 rfl (fun b2 => ?_)
 refine zz5 rfl rfl cn ?_
 refine zz0 (ab rfl) (zz0 (ab rfl) (zz0 (ab rfl) (aI (zz0 (aa rfl) (zz0 (aa rfl) ?_)))))
 refine v6 (fun i : Value × Option Addr × Option Addr × Nat × Nat => i.1) (fun i : Value × Option Addr × Option Addr × Nat × Nat => [rowE i.1 49 dJ (eV n b.toNat true i.2.1 i.2.2.1 i.2.2.2.1 i.2.2.2.2), rowE (.slice i.2.1 (gB n).length i.2.2.2.1) 5 dZ (gB n), rowE (.slice i.2.2.1 (iN n b.toNat n).length i.2.2.2.2) 5 dZ (iN n b.toNat n)]) (ok := fun _ => True) rfl m9 (fun w hw => lF n b.toNat true w (by omega) (by omega)) rfl (fun ib3 F3 _ hF3 hk3 => ?_)
 obtain ⟨VB3, p3, q3, c3, d3⟩ := ib3
 have sV3 : Sl F3.blk dJ (eV n b.toNat true p3 q3 c3 d3) VB3 := rowE.slL hk3 (.head _)
 have sC3 : Sl F3.blk dZ (gB n) (.slice p3 (gB n).length c3) := rowE.slL hk3 (.tail _ (.head _))
 have sT3 : Sl F3.blk dZ (iN n b.toNat n) (.slice q3 (iN n b.toNat n).length d3) := rowE.slL hk3 (.tail _ (.tail _ (.head _)))
 have hr3 : F3.dr = 0 := hF3.dr.trans hr2
 obtain ⟨pv3, cv3, hv, _⟩ := sV3.shape
 subst hv
 refine iG (E := al) (4096 : UInt32) rfl rfl af ae cC (fun V3 => ?_)
 refine uF (fun i : (Value × Value × Value × Value × Value × Value) × (CodeP × FndV × Int) × List (RV UInt32) => .tuple #[.agg #[i.1.1, i.1.2.1, i.1.2.2.1, i.1.2.2.2.1], i.1.2.2.2.2.1, i.1.2.2.2.2.2, .int .i64 i.2.1.2.2]) (fun i : (Value × Value × Value × Value × Value × Value) × (CodeP × FndV × Int) × List (RV UInt32) => rowE i.1.1 36 aM i.2.1.1.ins :: rowE i.1.2.1 23 al i.2.1.1.ents :: rowE i.1.2.2.1 23 al i.2.1.1.unk :: rowE i.1.2.2.2.1 23 al i.2.1.1.bad :: rowE i.1.2.2.2.2.1 31 dh i.2.2 :: rowE i.1.2.2.2.2.2 23 al i.2.1.2.1.at_ :: i.2.2.map (rvE 23 al)) (ok := fun i : (Value × Value × Value × Value × Value × Value) × (CodeP × FndV × Int) × List (RV UInt32) => ResIs (eV n b.toNat true p3 q3 c3 d3) [4096] i.2.1 ∧ i.2.2.map (·.data) = i.2.1.2.1.ts) hr3 rfl Tryz.call17 (fun w hw => pS (eV n b.toNat true p3 q3 c3 d3) _ _ [4096] _ w (hw.slF sV3) (mr (by omega)) (kd (hw.slF sC3) (hw.slF sT3)) kc (hw.row (by repeat constructor)) (rh (by omega)) (by simp)) rfl (fun iR4 F4 hR4 hF4 hk4 => ?_)
 obtain ⟨⟨Xi, Xe, Xu, Xb, Xt, Xp⟩, o2, rs2⟩ := iR4
 obtain ⟨ho2, hrs2⟩ : ResIs (eV n b.toNat true p3 q3 c3 d3) [4096] o2 ∧ rs2.map (·.data) = o2.2.1.ts := hR4
 obtain rfl := EI hn ho2
 have hr4 : F4.dr = 0 := hF4.dr.trans hr3
 have sXi : Sl F4.blk aM (m4 n).ins Xi := rowE.slL hk4 (.head _)
 have sXe : Sl F4.blk al [4096] Xe := rowE.slL hk4 (.tail _ (.head _))
 have sXu : Sl F4.blk al [4103] Xu := rowE.slL hk4 (.tail _ (.tail _ (.head _)))
 have sXb : Sl F4.blk al [] Xb := rowE.slL hk4 (.tail _ (.tail _ (.tail _ (.head _))))
 have sXp : Sl F4.blk al [] Xp := rowE.slL hk4 (.tail _ (.tail _ (.tail _ (.tail _ (.tail _ (.head _))))))
 have hF24 := hF3.trans hF4
 obtain ⟨pXi, cXi, hv, _⟩ := sXi.shape
 subst hv
 obtain ⟨pXe, cXe, hv, _⟩ := sXe.shape
 subst hv
 obtain ⟨pXu, cXu, hv, _⟩ := sXu.shape
 subst hv
 obtain ⟨pXb, cXb, hv, _⟩ := sXb.shape
 subst hv
 replace sWi := sWi.mono hF24.blk
 replace sWe := sWe.mono hF24.blk
 replace sWu := sWu.mono hF24.blk
 replace sWb := sWb.mono hF24.blk
 replace sWt := sWt.mono hF24.blk
 replace sWp := sWp.mono hF24.blk
 replace sRo := sRo.mono hF24.blk
 replace sV1 := sV1.mono (hF2.trans hF24).blk
 replace sC1 := sC1.mono (hF2.trans hF24).blk
 replace sT1 := sT1.mono (hF2.trans hF24).blk
 have hF04 := hF1.trans (hF2.trans hF24)
 have hrl := Do n b.toNat
 have hil := Em n
 have hxl : (m4 n).ins.length = 5 := by simp [m4, bI3]
 refine zz0 (aa rfl) (zz0 (aN rfl rfl) (zz0 (aN rfl rfl) (zz0 (aN rfl rfl) (zz0 (aN rfl rfl) ?_))))
 refine dC d5 rfl (fun b4 => ?_)
 refine zz5 rfl rfl cn ?_
 refine zz0 (ab rfl) (zz0 (ab rfl) (zz0 (ab rfl) (ad (an (ah (zz0 (aa rfl) (zz0 (fH rfl rfl) (zz0 (aa rfl) (zz6 rfl (aa rfl) ?_)))))))))
 refine zz6 rfl (fH rfl rfl) ?_
 refine zz0 (fm rfl rfl rfl) ?_
 refine zz0 (aa rfl) (zz6 rfl (aa rfl) ?_)
 refine qh rfl rfl rfl ?_
 refine iG (E := al) (4103 : UInt32) rfl rfl af ae cC (fun V5 => ?_)
 refine zz6 rfl (az rfl lr (fun w hw => ll [4103] [4103] _ _ w (hw.slF sWp) (hw.row (by repeat constructor)))) ?_
 refine zz6 rfl (cP rfl) ?_
 refine zz0 (fm rfl rfl rfl) ?_
 refine zz0 (aa rfl) (zz6 rfl (aa rfl) ?_)
 refine zz6 rfl (gj rfl cS) ?_
 refine zz6 rfl (fH rfl rfl) ?_
 refine zz0 (fm rfl rfl rfl) ?_
 refine zz0 (aa rfl) (zz6 rfl (aa rfl) ?_)
 refine zz6 rfl (po (E := dh (α := UInt32)) (l := [⟨gx n b.toNat, pr, cr⟩]) (i := 0) rfl rfl sWt cS cg (by rfl) (by simp)) ?_
 refine zz6 rfl (xz (E := dh (α := UInt32)) (l := [⟨gx n b.toNat, pr, cr⟩]) (i := 0) rfl sWt dl (by simp) (by rfl)) ?_
 refine zz6 rfl (gj rfl af) ?_
 refine zz6 rfl (aa rfl) ?_
 refine zz6 rfl (fH rfl rfl) ?_
 rw [show decide (((gx n b.toNat).length : Int) ≠ (n : Int)) = false from by rw [hrl]; simp]
 refine zz0 (fm rfl rfl rfl) ?_
 refine zz0 (aa rfl) (zz6 rfl (aa rfl) ?_)
 refine zz6 rfl (gj rfl af) ?_
 refine zz6 rfl (fH rfl rfl) ?_
 refine zz0 (fm rfl rfl rfl) ?_
 refine ad ?_
 refine au rfl ?_ ?_ <;> intro h6 <;> try simp only [bs] at h6
 ·first | contradiction | exact absurd h6 (by decide) | exact absurd h6 (by simp)
 refine bC (an (ah (zz0 (ab rfl) (ad (aF ?_)))))
 refine bL (ι := Nat) (fun i => i ≤ n) (fun i => _) (fun i => [rowE V5 23 al ([4103] : List UInt32), cellE b4 [(.slice pXi (m4 n).ins.length cXi), (.slice pXe ([4096] : List UInt32).length cXe), (.slice pXu ([4103] : List UInt32).length cXu), (.slice pXb ([] : List UInt32).length cXb)] 52, rowE V3 23 al ([4096] : List UInt32), cellE b2 [(.slice pWi (ky n).ins.length cWi), (.slice pWe ([4096] : List UInt32).length cWe), (.slice pWu ([] : List UInt32).length cWu), (.slice pWb ([] : List UInt32).length cWb)] 52, rowE V1 23 al ([4096] : List UInt32)]) (fun i => [(16, .int .i64 (i : Nat))]) (fun i => n - i) 0 (Nat.zero_le _) (Front.c Front.nil) (by repeat' constructor) rfl (fun i hi m hm => ?_)
 replace hi : i ≤ n := hi
 replace hm : m = n - i := hm
 change Tr _ (_) [rowE V5 23 al ([4103] : List UInt32), cellE b4 [(.slice pXi (m4 n).ins.length cXi), (.slice pXe ([4096] : List UInt32).length cXe), (.slice pXu ([4103] : List UInt32).length cXu), (.slice pXb ([] : List UInt32).length cXb)] 52, rowE V3 23 al ([4096] : List UInt32), cellE b2 [(.slice pWi (ky n).ins.length cWi), (.slice pWe ([4096] : List UInt32).length cWe), (.slice pWu ([] : List UInt32).length cWu), (.slice pWb ([] : List UInt32).length cWb)] 52, rowE V1 23 al ([4096] : List UInt32)] ([(16, .int .i64 (i : Nat))] ++ _) _
 refine an (ah (zz0 (aa rfl) (zz0 (aa rfl) (zz0 (bT rfl rfl) (ad ?_)))))
 refine au rfl ?_ ?_ <;> intro h7 <;> try simp only [bs] at h7
 ·refine bC (an (aF (an ?_)))
  have hrg := Dp (n := n) (k := b.toNat) (i := i) (by omega)
  refine dU ([cellE b2 [(.slice pWi (ky n).ins.length cWi), (.slice pWe ([4096] : List UInt32).length cWe), (.slice pWu ([] : List UInt32).length cWu), (.slice pWb ([] : List UInt32).length cWb)] 52]) 25 rfl aP ?_
  refine zz4 0 rfl (aa rfl) ?_
  refine jk 1 rfl (by kernel_rfl) (aT (cN (aT (aT (cN (aT cL)))))) (po (E := dh (α := UInt32)) (l := [⟨gx n b.toNat, pr, cr⟩]) (i := 0) rfl rfl sWt cS cg (by rfl) (by simp)) ?_
  refine jk 2 rfl (by kernel_rfl) (aT (cN (aT (aT (cN (aT cL)))))) (xz (E := dh (α := UInt32)) (l := [⟨gx n b.toNat, pr, cr⟩]) (i := 0) rfl sWt dl (by simp) (by rfl)) ?_
  refine zz4 3 rfl (aa rfl) ?_
  refine zz4 4 rfl (iH rfl rfl af ae) ?_
  refine zz4 5 rfl (jl rfl am) ?_
  refine zz4 6 rfl (aa rfl) ?_
  refine zz4 7 rfl (aa rfl) ?_
  refine zz4 8 rfl (cB rfl rfl) ?_
  refine zz4 9 rfl (aa rfl) ?_
  refine jk 10 rfl (by kernel_rfl) (aT (cN (aT (aT (cN (aT cL)))))) (By rfl rfl (by omega)) ?_
  refine zz4 11 rfl (gU rfl ba aS) ?_
  refine zz4 12 rfl (gJ (m := 4109) rfl rfl) ?_
  refine zz4 13 rfl (iU rfl rfl) ?_
  refine zz4 14 rfl (aa rfl) ?_
  refine CB (t := 93) rfl (fun hG8 => ?_) (fun hG8 => ?_)
  ·exact absurd hG8 (by rw [hrg]; simp)
  have hG8' := hG8
  try simp only [bs] at hG8'
  refine jN 15 rfl (by kernel_rfl) (aT (cN (aT (aT (cN (aT cL)))))) rfl rfl rfl hG8 (bG rfl fF cn) (by repeat' constructor) rfl ?_
  refine jN 16 rfl (by kernel_rfl) (aT (cN (aT (aT (cN (aT cL)))))) rfl rfl rfl hG8 (aa rfl) (by repeat' constructor) rfl ?_
  refine jN 17 rfl (by kernel_rfl) (aT (cN (aT (aT (cN (aT cL)))))) rfl rfl rfl hG8 (po (E := dh (α := UInt32)) (l := [⟨gx n b.toNat, pr, cr⟩]) (i := 0) rfl rfl sWt cS cg (by rfl) (by simp)) (by repeat' constructor) rfl ?_
  refine jN 18 rfl (by kernel_rfl) (aT (cN (aT (aT (cN (aT cL)))))) rfl rfl rfl hG8 (xz (E := dh (α := UInt32)) (l := [⟨gx n b.toNat, pr, cr⟩]) (i := 0) rfl sWt dl (by simp) (by rfl)) (by repeat' constructor) rfl ?_
  refine jN 19 rfl (by kernel_rfl) (aT (cN (aT (aT (cN (aT cL)))))) rfl rfl rfl hG8 (aa rfl) (by repeat' constructor) rfl ?_
  refine jN 20 rfl (by kernel_rfl) (aT (cN (aT (aT (cN (aT cL)))))) rfl rfl rfl hG8 (iH rfl rfl af ae) (by repeat' constructor) rfl ?_
  refine jN 21 rfl (by kernel_rfl) (aT (cN (aT (aT (cN (aT cL)))))) rfl rfl rfl hG8 (jl rfl am) (by repeat' constructor) rfl ?_
  refine dw [22] (fun iq hq => ?_)
  obtain rfl := List.mem_singleton.1 hq
  refine bF rfl ?_
  refine zz6 hG8 (az rfl Tryz.call34 (fun w hw => by have q := Dy (ky n).ins ((gx n b.toNat).getD i default) _ (.slice pWe ([4096] : List UInt32).length cWe) (.slice pWu ([] : List UInt32).length cWu) (.slice pWb ([] : List UInt32).length cWb) w (hw.slF sWi); rw [hrg, FM (by omega), ← hrg] at q; exact q)) ?_
  refine bV ?_
  refine jN 23 rfl (by kernel_rfl) (aT (cN (aT (aT (cN (aT cL)))))) rfl rfl rfl hG8 (cP rfl) (by repeat' constructor) rfl ?_
  refine zz4 24 rfl (aU rfl hG8 rfl) ?_
  refine iz ?_
  refine ac ?_
  refine au rfl ?_ ?_ <;> intro h9 <;> try simp only [bs] at h9
  ·first | contradiction | exact absurd h9 (by decide) | exact absurd h9 (by simp)
  refine cd (aY (ac (ar (zz0 (aa rfl) (zz0 (cB rfl rfl) ?_)))))
  refine zz0 (ab rfl) (ad ?_)
  refine cK (i + 1) (Front.c Front.nil) (zz8 32 rfl) (o := (by show i + 1 ≤ _; omega))
 refine bJ (aG (aG (bj (ac (ah (zz0 (zz2 (off := 0) (ft := 50) rfl bY rfl cY) ?_))))))
 refine zz0 (aH rfl dq) ?_
 refine zz0 (gj rfl aL) ?_
 refine zz0 (aa rfl) (zz0 (cB rfl rfl) ?_)
 refine zz0 (bA rfl rfl) ?_
 rw [show decide (((ky n).ins.length : Int) = 5 + (n : Int)) = true from decide_eq_true (by omega)]
 refine zz0 (aa rfl) (zz6 rfl (zz2 (off := 2) (ft := 31) rfl bY rfl cg) ?_)
 refine zz6 rfl (aH rfl dl) ?_
 refine zz6 rfl (gj rfl af) ?_
 refine zz6 rfl (bA rfl rfl) ?_
 refine zz0 (fm rfl rfl rfl) ?_
 refine zz0 (aa rfl) (zz6 rfl (zz2 (off := 0) (ft := 50) rfl bY rfl cY) ?_)
 refine zz6 rfl (aH rfl dq) ?_
 refine zz6 rfl (gj rfl aL) ?_
 refine zz6 rfl (bA rfl rfl) ?_
 rw [show decide (((m4 n).ins.length : Int) = 5) = true from decide_eq_true (by omega)]
 refine zz0 (fm rfl rfl rfl) ?_
 refine zz0 (aa rfl) (zz6 rfl (zz2 (off := 2) (ft := 31) rfl bY rfl cg) ?_)
 refine zz6 rfl (aH rfl dl) ?_
 refine qh rfl rfl rfl ?_
 refine iG (E := al) (4103 : UInt32) rfl rfl af ae cC (fun V10 => ?_)
 refine zz6 rfl (az rfl lr (fun w hw => ll [4103] [4103] _ _ w (hw.slF sXu) (hw.row (by repeat constructor)))) ?_
 refine zz0 (fm rfl rfl rfl) ?_
 refine zz0 (aa rfl) (zz6 rfl (aa rfl) ?_)
 refine zz6 rfl (aa rfl) ?_
 refine zz6 rfl (az rfl Tryz.call23 (fun w hw => by have q := pY (eV n b.toNat false p1 q1 c1 d1) _ _ 12288 n w (hw.slF sV1) (mr (by omega)) (kd (hw.slF sC1) (hw.slF sT1)) kc; rw [HV hn] at q; exact q)) ?_
 refine zz0 (fm rfl rfl rfl) ?_
 refine zz0 (aa rfl) (zz6 rfl (E7 hr4 rfl Tryz.call11 (fun w hw => Aa w)) ?_)
 refine zz0 (fm rfl rfl rfl) ?_
 refine zz0 (ab rfl) (ad (aC ?_))
 refine aX Tryz.results9 rfl (fun w' hw => ?_)
 exact ⟨rfl, hw.below0 hF04⟩
end Go.Proofs.YtiajjbhcpeadfaaGreat
namespace Go.HL
open Go Go.Deep Go.ChangeShapes Go.WideShapes
section
variable {H : Type} {enc : TypeId × Value → H} {P : Program} {w : World} {base : Nat} {spare : Nat → Bool} {held : Bool}
theorem xH {n : Int} (h : (Lit.int .u8 n).wf = true) : ∃ x : UInt8, n = (x.toNat : Int) := by
 have := bounds_u8 h
 refine ⟨UInt8.ofNat n.toNat, ?_⟩
 rw [UInt8.toNat_ofNat']; omega
end
end Go.HL
