/- Own rules and walks, part 5. -/
import Derived.Test.YtiajjbhcpeadfaaGreatB4
set_option linter.unusedSimpArgs false
set_option linter.unusedVariables false
set_option linter.unusedSectionVars false
set_option maxRecDepth 100000
set_option maxHeartbeats 16000000
namespace Go.Proofs.YtiajjbhcpeadfaaGreat
open Go Go.HL Go.RowKit
def dP (cmp : Ins → Ins → Int) (x y : Ins) : Bool := decide (cmp x y < 0)
def zm (cmp : Ins → Ins → Int) (V : Value) (l : List Ins) (a b : Nat) (w : World) : Ending → World → Prop := fun e w' => e = .returned (.tuple #[]) ∧ ∃ l', (Stab (dP cmp) l l' ∧ Fram a b l l' ∧ Srt (dP cmp) l' a b) ∧ Mut w w' V ∧ (rowE V 36 aO l').holds w'
def C4 (g : FuncId) (cb : List Value) (cmp : Ins → Ins → Int) (I : World → Prop) (V : Value) (n : Nat) : Prop := ∀ (l : List Ins) (a md b : Nat) (ai mdi bi : Int) (w : World), ai = ((a : Nat) : Int) → mdi = ((md : Nat) : Int) → bi = ((b : Nat) : Int) → b - a ≤ n → a < md → md < b → b ≤ l.length → l.length ≤ 1000000 → Srt (dP cmp) l a md → Srt (dP cmp) l md b → I w → (rowE V 36 aO l).holds w → Calls Tryz.prog 200 #[V, .int .i64 ai, .int .i64 mdi, .int .i64 bi, .func (.func g) #[] cb.toArray] w (zm cmp V l a b w)
theorem qK (l : List Ins) (V : Value) (a : Nat) (b : Nat) (ai : Int) (bi : Int) (ea : ai = ((a : Nat) : Int)) (eb : bi = ((b : Nat) : Int)) (g : FuncId) (cb : List Value) (cmp : Ins → Ins → Int) (I : World → Prop) (hI : ∀ w w' l', I w → Mut w w' V → (rowE V 36 aO l').holds w' → I w') (eg : ∀ args w, (callFunc g args).run Tryz.prog w = .ok (.enter g args) w) (hc : ∀ x y w', I w' → Calls Tryz.prog g ([Value.agg (aO.enc x).toArray, Value.agg (aO.enc y).toArray] ++ cb).toArray w' fun e w'' => e = .returned (.int .i64 (cmp x y)) ∧ Ext w' w'') (hO : WO (dP cmp)) (w : World) (hIw : I w) (hr : (rowE V 36 aO l).holds w) (hl : l.length ≤ 1000000) (hab : a ≤ b) (hb : b ≤ l.length) :
  Calls Tryz.prog 199 #[V, .int .i64 ai, .int .i64 bi, .func (.func g) #[] cb.toArray] w (zm cmp V l a b w) := by
 subst ea eb
 refine fL (l := l) (E := aO) (T := 36) hr Tryz.func199 rfl Tryz.ntmps199 rfl ?_
 refine af (zz0 (aa rfl) (zz0 (cp rfl rfl) ?_))
 refine zz0 (ab rfl) (ad (aF ?_))
 refine bL (ι := Nat × List Ins) (fun ⟨i, cur⟩ => a + 1 ≤ i ∧ (i ≤ b ∨ i = a + 1) ∧ Stab (dP cmp) l cur ∧ Fram a b l cur ∧ Srt (dP cmp) cur a i) (fun _ => _) (fun ⟨i, cur⟩ => [rowE V 36 aO cur]) (fun ⟨i, cur⟩ => [(8, .int .i64 (i : Nat))]) (fun ⟨i, cur⟩ => b - i) (a + 1, l) ⟨Nat.le_refl _, .inr rfl, .refl _ _, .refl _ _ _, .one (Nat.le_refl _)⟩ (Front.c Front.nil) (by repeat' constructor) rfl (fun i hi m hm => ?_)
 obtain ⟨i, cur⟩ := i
 replace hi : a + 1 ≤ i ∧ (i ≤ b ∨ i = a + 1) ∧ Stab (dP cmp) l cur ∧ Fram a b l cur ∧ Srt (dP cmp) cur a i := hi
 replace hm : m = b - i := hm
 change Tr _ _ [rowE V 36 aO cur] ([(8, .int .i64 (i : Nat))] ++ _) _
 obtain ⟨hi1, hi2, hi3, hi4, hi5⟩ := hi
 have hcl : cur.length = l.length := hi4.1
 refine al (af (zz0 (aa rfl) (zz0 (aa rfl) (zz0 (bU rfl rfl) (ad ?_)))))
 refine ar rfl ?_ ?_ <;> intro h1 <;> try simp only [bs] at h1
 ·refine bF (al (aF (af (zz0 (aa rfl) (zz0 (ab rfl) (ad (aF ?_)))))))
  have e0 : mp (dD i i (i + 1)) cur = cur := rz (.inl rfl) (Nat.le_refl _) (by omega)
  refine f7 e0.symm ?_
  refine bL (ι := Nat) (fun j => a ≤ j ∧ j ≤ i ∧ ∀ q, j ≤ q → q < i → dP cmp (cur.getD i default) (cur.getD q default) = true) (fun _ => _) (fun j => [rowE V 36 aO (mp (dD j i (i + 1)) cur)]) (fun j => [(9, .int .i64 (j : Nat))]) (fun j => j) i ⟨by omega, Nat.le_refl _, fun q x y => by omega⟩ (Front.c Front.nil) (by repeat' constructor) rfl (fun j hi m hm => ?_)
  replace hi : a ≤ j ∧ j ≤ i ∧ ∀ q, j ≤ q → q < i → dP cmp (cur.getD i default) (cur.getD q default) = true := hi
  replace hm : m = j := hm
  change Tr _ _ [rowE V 36 aO (mp (dD j i (i + 1)) cur)] ([(9, .int .i64 (j : Nat))] ++ _) _
  obtain ⟨hj1, hj2, hj3⟩ := hi
  have hml : (mp (dD j i (i + 1)) cur).length = l.length := by rw [iu]; exact hcl
  have ej : ((j : Int) - 1).toNat = j - 1 := by omega
  have ev : (mp (dD j i (i + 1)) cur).getD j default = cur.getD i default := by rw [iS (by omega)]; congr 1; have := fP j i (i + 1) j; omega
  have ew : 0 < j → (mp (dD j i (i + 1)) cur).getD (j - 1) default = cur.getD (j - 1) default := fun q => by rw [iS (by omega)]; congr 1; have := fP j i (i + 1) (j - 1); omega
  refine al (al (io aQ ?_))
  refine aw (aa rfl) (aw (aa rfl) (aw (fj rfl rfl) (aw (aa rfl) ?_)))
  apply fN
  ·exact (rfl : _ = (13, 21, 34))
  ·exact rfl
  ·intro hT2; have hT2' := hT2
   try simp only [bs] at hT2'
   refine bY hT2 (aa rfl) (bY hT2 (aa rfl) (bY hT2 (aa rfl) (bY hT2 (zz7 rfl rfl aM ax) ?_)))
   refine bY hT2 (mY rfl aR ax) ?_
   refine bY hT2 (aa rfl) (bY hT2 (aa rfl) (bY hT2 (eE rfl rfl) ?_))
   refine bY hT2 (jJ rfl rfl aM ax) ?_
   refine bY hT2 (mY rfl aR ax) ?_
   refine bY hT2 (iC rfl rfl eg (fun w hw => hc _ _ w (hI _ _ _ hIw (HpOK.mutOwn hw (.head _) rfl).1 (HpOK.mutOwn hw (.head _) rfl).2))) ?_
   refine bY hT2 (bU rfl rfl) (aw (aS rfl hT2 rfl) ?_)
   exact du (Sub.cons rfl (zz9 13 rfl))
  ·intro hF2
   refine bX hF2 (bX hF2 (bX hF2 (bX hF2 (bX hF2 (bX hF2 (bX hF2 (bX hF2 (bX hF2 (bX hF2 (bX hF2 (bX hF2 (aw (aT rfl hF2 rfl) ?_))))))))))))
   exact du (Sub.cons rfl (zz9 13 rfl))
  refine bK ?_
  refine ac ?_
  refine ar rfl ?_ ?_ <;> intro h3 <;> try simp only [bs] at h3
  ·refine bF (al (aF (fO 5 15 aQ ?_)))
   refine eD rfl ?_
   refine eD rfl ?_
   refine eD rfl ?_
   refine eD rfl ?_
   refine gG (fun _ => eE rfl rfl) (by rfl) rfl ?_
   refine bI ?_
   refine aw (aa rfl) (aw (aa rfl) (aw (eE rfl rfl) ?_))
   refine aw (jJ rfl rfl aM ax) ?_
   refine aw (mY rfl aR ax) ?_
   refine aw (aa rfl) (aw (aa rfl) (aw (zz7 rfl rfl aM ax) ?_))
   refine aw (mY rfl aR ax) ?_
   refine aw (zz7 rfl rfl aM ax) ?_
   refine bK ?_
   refine gg (l := (mp (dD j i (i + 1)) cur)) (i := j) ((mp (dD j i (i + 1)) cur).getD (((j : Int) - 1).toNat) default) rfl rfl ax ?_
   have hls4 : (List.set (mp (dD j i (i + 1)) cur) (j) ((mp (dD j i (i + 1)) cur).getD (((j : Int) - 1).toNat) default)).length = ((mp (dD j i (i + 1)) cur)).length := List.length_set
   refine zz0 (jJ rfl rfl aM ax) ?_
   refine gg (l := ((mp (dD j i (i + 1)) cur).set (j) ((mp (dD j i (i + 1)) cur).getD (((j : Int) - 1).toNat) default))) (i := ((j : Int) - 1).toNat) ((mp (dD j i (i + 1)) cur).getD (j) default) rfl rfl ax ?_
   have hls5 : (List.set ((mp (dD j i (i + 1)) cur).set (j) ((mp (dD j i (i + 1)) cur).getD (((j : Int) - 1).toNat) default)) (((j : Int) - 1).toNat) ((mp (dD j i (i + 1)) cur).getD (j) default)).length = (((mp (dD j i (i + 1)) cur).set (j) ((mp (dD j i (i + 1)) cur).getD (((j : Int) - 1).toNat) default))).length := List.length_set
   refine aD (aX (ac (an (zz0 (aa rfl) (zz0 (eE rfl rfl) ?_)))))
   refine zz0 (ab rfl) (ad ?_)
   have hsw := Cz (l := (mp (dD j i (i + 1)) cur)) (p := j) (q := j - 1) (by omega) (by omega)
   rw [zx (by omega) hj2 (by omega)] at hsw
   have hlt : dP cmp (cur.getD i default) (cur.getD (j - 1) default) = true := by
    rw [← ev, ← ew (by omega), ← ej]
    simpa [dP] using h3.2
   have hj3' : ∀ q, j - 1 ≤ q → q < i → dP cmp (cur.getD i default) (cur.getD q default) = true := fun q x y => by
    by_cases c : q = j - 1
    ·rw [c]; exact hlt
    ·exact hj3 q (by omega) y
   rw [ej, hsw]
   refine cH (j - 1) (Front.c Front.nil) (bC 25 rfl) (o := ⟨by omega, by omega, hj3'⟩)
  ·refine bJ (aG (aG (bv (aX (ac (an (zz0 (aa rfl) (zz0 (cp rfl rfl) ?_))))))))
   refine zz0 (ab rfl) (ad ?_)
   have hB : j = a ∨ dP cmp (cur.getD i default) (cur.getD (j - 1) default) = false := by
    rcases h3 with h3 | h3
    ·exact .inl (by omega)
    ·by_cases q : j = a
     ·exact .inl q
     ·refine .inr ?_
      rw [← ev, ← ew (by omega), ← ej]
      simpa [dP] using h3
   have hin := Co hO hi5 (by omega) hj1 hj2 hj3 hB
   have hfr : Fram a b l (mp (dD j i (i + 1)) cur) := hi4.trans (Fram.rot hj1 (by omega) hj2 (by omega))
   refine cH (i + 1, _) (Front.c Front.nil) (bC 15 rfl) (o := ⟨by omega, by omega, hi3.trans hin.1, hfr, hin.2⟩)
 ·refine bJ (aG (aG (bv ?_)))
  refine fx Tryz.results199 (fun w' hw => ?_)
  exact ⟨rfl, _, ⟨hi3, hi4, hi5.sub (Nat.le_refl _) (by omega)⟩, HpOK.mutOwn hw (.head _) rfl⟩
theorem mZ (l : List Ins) (V : Value) (a : Nat) (b : Nat) (n : Nat) (ai : Int) (bi : Int) (ni : Int) (ea : ai = ((a : Nat) : Int)) (eb : bi = ((b : Nat) : Int)) (en : ni = ((n : Nat) : Int)) (cv : Value) (w : World) (hr : (rowE V 36 aO l).holds w) (hl : l.length ≤ 1000000) (hab : a + n ≤ b) (hb : b + n ≤ l.length) :
  Calls Tryz.prog 296 #[V, .int .i64 ai, .int .i64 bi, .int .i64 ni, cv] w (fun e w' => e = .returned (.tuple #[]) ∧ Mut w w' V ∧ (rowE V 36 aO (mp (swR a b n) l)).holds w') := by
 subst ea eb en
 refine fL (l := l) (E := aO) (T := 36) hr Tryz.func296 rfl Tryz.ntmps296 rfl ?_
 refine af (zz0 (ab rfl) (ad (aF ?_)))
 have e0 : mp (swR a b 0) l = l := Jp
 refine f7 e0.symm ?_
 refine bL (ι := Nat) (fun i => i ≤ n) (fun _ => _) (fun i => [rowE V 36 aO (mp (swR a b i) l)]) (fun i => [(10, .int .i64 (i : Nat))]) (fun i => n - i) 0 (Nat.zero_le _) (Front.c Front.nil) (by repeat' constructor) rfl (fun i hi m hm => ?_)
 replace hi : i ≤ n := hi
 replace hm : m = n - i := hm
 change Tr _ _ [rowE V 36 aO (mp (swR a b i) l)] ([(10, .int .i64 (i : Nat))] ++ _) _
 have hml : (mp (swR a b i) l).length = l.length := iu _ _
 refine al (af (zz0 (aa rfl) (zz0 (aa rfl) (zz0 (bU rfl rfl) (ad ?_)))))
 refine ar rfl ?_ ?_ <;> intro h1 <;> try simp only [bs] at h1
 ·refine bF (al (aF (fO 8 21 aQ ?_)))
  refine eD rfl ?_
  refine eD rfl ?_
  refine eD rfl ?_
  refine gG (fun _ => cp rfl rfl) (by rfl) rfl ?_
  refine eD rfl ?_
  refine eD rfl ?_
  refine eD rfl ?_
  refine gG (fun _ => cp rfl rfl) (by rfl) rfl ?_
  refine bI ?_
  refine aw (aa rfl) (aw (aa rfl) (aw (aa rfl) (aw (cp rfl rfl) ?_)))
  refine aw (zz7 rfl rfl aM ax) ?_
  refine aw (mY rfl aR ax) ?_
  refine aw (aa rfl) (aw (aa rfl) (aw (aa rfl) (aw (cp rfl rfl) ?_)))
  refine aw (zz7 rfl rfl aM ax) ?_
  refine aw (mY rfl aR ax) ?_
  refine aw (zz7 rfl rfl aM ax) ?_
  refine bK ?_
  refine gg (l := (mp (swR a b i) l)) (i := a + i) ((mp (swR a b i) l).getD (b + i) default) rfl rfl ax ?_
  have hls2 : (List.set (mp (swR a b i) l) (a + i) ((mp (swR a b i) l).getD (b + i) default)).length = ((mp (swR a b i) l)).length := List.length_set
  refine zz0 (zz7 rfl rfl aM ax) ?_
  refine gg (l := ((mp (swR a b i) l).set (a + i) ((mp (swR a b i) l).getD (b + i) default))) (i := b + i) ((mp (swR a b i) l).getD (a + i) default) rfl rfl ax ?_
  have hls3 : (List.set ((mp (swR a b i) l).set (a + i) ((mp (swR a b i) l).getD (b + i) default)) (b + i) ((mp (swR a b i) l).getD (a + i) default)).length = (((mp (swR a b i) l).set (a + i) ((mp (swR a b i) l).getD (b + i) default))).length := List.length_set
  refine aD (aX (ac (an (zz0 (aa rfl) (zz0 (cp rfl rfl) ?_)))))
  refine zz0 (ab rfl) (ad ?_)
  have hsw := Cz (l := (mp (swR a b i) l)) (p := a + i) (q := b + i) (by omega) (by omega)
  rw [EP hab hb (by omega)] at hsw
  rw [hsw]
  refine cH (i + 1) (Front.c Front.nil) (bC 29 rfl) (o := (by show i + 1 ≤ n; omega))
 ·refine bJ (aG (aG (bv ?_)))
  refine fx Tryz.results296 (fun w' hw => ?_)
  obtain rfl : i = n := by omega
  exact ⟨rfl, HpOK.mutOwn hw (.head _) rfl⟩
theorem Bc (l : List Ins) (V : Value) (a : Nat) (md : Nat) (b : Nat) (ai : Int) (mdi : Int) (bi : Int) (ea : ai = ((a : Nat) : Int)) (emd : mdi = ((md : Nat) : Int)) (eb : bi = ((b : Nat) : Int)) (cv : Value) (w : World) (hr : (rowE V 36 aO l).holds w) (hl : l.length ≤ 1000000) (ham : a < md) (hmb : md < b) (hb : b ≤ l.length) :
  Calls Tryz.prog 263 #[V, .int .i64 ai, .int .i64 mdi, .int .i64 bi, cv] w (fun e w' => e = .returned (.tuple #[]) ∧ Mut w w' V ∧ (rowE V 36 aO (mp (dD a md b) l)).holds w') := by
 subst ea emd eb
 refine fL (l := l) (E := aO) (T := 36) hr Tryz.func263 rfl Tryz.ntmps263 rfl ?_
 refine af (zz0 (aa rfl) (zz0 (aa rfl) (zz0 (eE rfl rfl) ?_)))
 refine zz0 (ab rfl) (aH (zz0 (aa rfl) (zz0 (aa rfl) (zz0 (eE rfl rfl) ?_))))
 refine zz0 (ab rfl) (ad (al (aF ?_)))
 refine bL (ι := Nat × Nat × List Ins) (fun ⟨i, j, cur⟩ => 0 < i ∧ 0 < j ∧ i ≤ md ∧ md + j ≤ l.length ∧ cur.length = l.length ∧ mp (dD (md - i) md (md + j)) cur = mp (dD a md b) l) (fun _ => _) (fun ⟨i, j, cur⟩ => [rowE V 36 aO cur]) (fun ⟨i, j, cur⟩ => [(10, .int .i64 (i : Nat)), (11, .int .i64 (j : Nat))]) (fun ⟨i, j, cur⟩ => i + j) (md - a, b - md, l) ⟨by omega, by omega, by omega, by omega, rfl, by rw [show md - (md - a) = a by omega, show md + (b - md) = b by omega]⟩ (Front.c (Front.c Front.nil)) (by repeat' constructor) rfl (fun i hi m hm => ?_)
 obtain ⟨i, j, cur⟩ := i
 replace hi : 0 < i ∧ 0 < j ∧ i ≤ md ∧ md + j ≤ l.length ∧ cur.length = l.length ∧ mp (dD (md - i) md (md + j)) cur = mp (dD a md b) l := hi
 replace hm : m = i + j := hm
 change Tr _ _ [rowE V 36 aO cur] ([(10, .int .i64 (i : Nat)), (11, .int .i64 (j : Nat))] ++ _) _
 obtain ⟨hi1, hi2, hi3, hi4, hi5, hi6⟩ := hi
 refine al (af (zz0 (aa rfl) (zz0 (aa rfl) (zz0 (fV rfl rfl) (ad ?_)))))
 refine ar rfl ?_ ?_ <;> intro h1 <;> try simp only [bs] at h1
 ·refine bF (aF (af (zz0 (aa rfl) (zz0 (aa rfl) (zz0 (fj rfl rfl) (ad ?_))))))
  refine ar rfl ?_ ?_ <;> intro h2 <;> try simp only [bs] at h2
  ·refine af (zz0 (aa rfl) (zz0 (aa rfl) (zz0 (aa rfl) (zz0 (eE rfl rfl) ?_))))
   refine zz0 (aa rfl) (zz0 (aa rfl) (zz0 (aa rfl) (eh rfl Tryz.call296 (by repeat constructor) (fun w hw => mZ cur V (md - i) md j _ _ _ (by omega) (by omega) (by omega) cv w (hw.ent _ (.head _)) (by omega) (by omega) (by omega)) rfl ?_)))
   refine ad (an (zz0 (aa rfl) (zz0 (aa rfl) (zz0 (eE rfl rfl) ?_))))
   refine zz0 (ab rfl) (aD (aX (ac ?_)))
   have hn := (ID (l := cur) (m := md) (i := i) (j := j) hi3 (by omega) (by omega)).trans hi6
   refine cH (i - j, j, _) (Front.c (Front.c Front.nil)) (bC 20 rfl) (o := ⟨by omega, hi2, by omega, hi4, by rw [iu]; exact hi5, hn⟩)
  ·refine af (zz0 (aa rfl) (zz0 (aa rfl) (zz0 (aa rfl) (zz0 (eE rfl rfl) ?_))))
   refine zz0 (aa rfl) (zz0 (aa rfl) (zz0 (cp rfl rfl) ?_))
   refine zz0 (aa rfl) (zz0 (eE rfl rfl) ?_)
   refine zz0 (aa rfl) (zz0 (aa rfl) (eh rfl Tryz.call296 (by repeat constructor) (fun w hw => mZ cur V (md - i) (md + j - i) i _ _ _ (by omega) (by omega) (by omega) cv w (hw.ent _ (.head _)) (by omega) (by omega) (by omega)) rfl ?_))
   refine ad (an (zz0 (aa rfl) (zz0 (aa rfl) (zz0 (eE rfl rfl) ?_))))
   refine zz0 (ab rfl) (aD (aX (ac ?_)))
   have hn := (IC (l := cur) (m := md) (i := i) (j := j) hi3 (by omega) (by omega)).trans hi6
   refine cH (i, j - i, _) (Front.c (Front.c Front.nil)) (bC 24 rfl) (o := ⟨hi1, by omega, hi3, by omega, by rw [iu]; exact hi5, hn⟩)
 ·refine bJ (aG (aG (bv (ac (an (zz0 (aa rfl) (zz0 (aa rfl) (zz0 (aa rfl) (zz0 (eE rfl rfl) ?_)))))))))
  refine zz0 (aa rfl) (zz0 (aa rfl) (zz0 (aa rfl) (eh rfl Tryz.call296 (by repeat constructor) (fun w hw => mZ cur V (md - i) md i _ _ _ (by omega) (by omega) (by omega) cv w (hw.ent _ (.head _)) (by omega) (by omega) (by omega)) rfl ?_)))
  refine aD ?_
  refine fx Tryz.results263 (fun w' hw => ?_)
  obtain rfl : j = i := by omega
  rw [IE hi3, hi6] at hw
  exact ⟨rfl, HpOK.mutOwn hw (.head _) rfl⟩
theorem Do (l : List Ins) (V : Value) (a : Nat) (md : Nat) (b : Nat) (ai : Int) (mdi : Int) (bi : Int) (ea : ai = ((a : Nat) : Int)) (emd : mdi = ((md : Nat) : Int)) (eb : bi = ((b : Nat) : Int)) (g : FuncId) (cb : List Value) (cmp : Ins → Ins → Int) (I : World → Prop) (hI : ∀ w w' l', I w → Mut w w' V → (rowE V 36 aO l').holds w' → I w') (eg : ∀ args w, (callFunc g args).run Tryz.prog w = .ok (.enter g args) w) (hc : ∀ x y w', I w' → Calls Tryz.prog g ([Value.agg (aO.enc x).toArray, Value.agg (aO.enc y).toArray] ++ cb).toArray w' fun e w'' => e = .returned (.int .i64 (cmp x y)) ∧ Ext w' w'') (hO : WO (dP cmp)) (w : World) (hIw : I w) (hr : (rowE V 36 aO l).holds w) (hl : l.length ≤ 1000000) (ih : ∀ n, n < b - a → C4 g cb cmp I V n) (ham : a < md) (hmb : md < b) (hb : b ≤ l.length) (h1s : Srt (dP cmp) l a md) (h2s : Srt (dP cmp) l md b) :
  Calls Tryz.prog 200 #[V, .int .i64 ai, .int .i64 mdi, .int .i64 bi, .func (.func g) #[] cb.toArray] w (zm cmp V l a b w) := by
 subst ea emd eb
 refine fL (l := l) (E := aO) (T := 36) hr Tryz.func200 rfl Tryz.ntmps200 rfl ?_
 refine al (af (zz0 (aa rfl) (zz0 (aa rfl) (zz0 (eE rfl rfl) ?_))))
 refine zz0 (bB rfl rfl) (ad ?_)
 refine ar rfl ?_ ?_ <;> intro h1 <;> try simp only [bs] at h1
 ·refine af (zz0 (aa rfl) (zz0 (ab rfl) (aH (zz0 (aa rfl) (zz0 (ab rfl) (ad (al (aF ?_))))))))
  refine bL (ι := Nat × Nat) (fun ⟨i, j⟩ => md ≤ i ∧ i ≤ j ∧ j ≤ b ∧ (∀ q, md ≤ q → q < i → dP cmp (l.getD q default) (l.getD a default) = true) ∧ (∀ q, j ≤ q → q < b → dP cmp (l.getD q default) (l.getD a default) = false)) (fun _ => _) (fun ⟨i, j⟩ => [rowE V 36 aO l]) (fun ⟨i, j⟩ => [(10, .int .i64 (i : Nat)), (11, .int .i64 (j : Nat))]) (fun ⟨i, j⟩ => j - i) (md, b) ⟨Nat.le_refl _, by omega, Nat.le_refl _, fun q x y => by omega, fun q x y => by omega⟩ (Front.c (Front.c Front.nil)) (by repeat' constructor) rfl (fun i hi m hm => ?_)
  obtain ⟨i, j⟩ := i
  replace hi : md ≤ i ∧ i ≤ j ∧ j ≤ b ∧ (∀ q, md ≤ q → q < i → dP cmp (l.getD q default) (l.getD a default) = true) ∧ (∀ q, j ≤ q → q < b → dP cmp (l.getD q default) (l.getD a default) = false) := hi
  replace hm : m = j - i := hm
  change Tr _ _ [rowE V 36 aO l] ([(10, .int .i64 (i : Nat)), (11, .int .i64 (j : Nat))] ++ _) _
  obtain ⟨hi1, hi2, hi3, hi4, hi5⟩ := hi
  refine al (af (zz0 (aa rfl) (zz0 (aa rfl) (zz0 (bU rfl rfl) (ad ?_)))))
  refine ar rfl ?_ ?_ <;> intro h2 <;> try simp only [bs] at h2
  ·refine bF (aF (af (zz0 (aa rfl) (zz0 (aa rfl) (zz0 (cp rfl rfl) ?_)))))
   refine zz0 (eG rfl aZ dZ (IntWalk.u64_in _ (by omega))) ?_
   refine zz0 (uE rfl rfl (by omega)) ?_
   refine zz0 (eG rfl dZ aZ (IntWalk.i64_in _ (by omega))) ?_
   refine zz0 (ab rfl) (ad (al ?_))
   obtain ⟨h, hhh⟩ : ∃ h, h = (i + j) / 2 := ⟨_, rfl⟩
   rw [show (((i : Nat) : Int) + ((j : Nat) : Int)) / 2 = ((h : Nat) : Int) by omega]
   refine io aQ ?_
   refine aw (aa rfl) (aw (aa rfl) (aw (aa rfl) (aw (zz7 rfl rfl aM ax) ?_)))
   refine aw (mY rfl aR ax) ?_
   refine aw (aa rfl) (aw (aa rfl) (aw (zz7 rfl rfl aM ax) ?_))
   refine aw (mY rfl aR ax) ?_
   refine aw (iC rfl rfl eg (fun w hw => hc _ _ w (hI _ _ _ hIw (HpOK.mutOwn hw (.head _) rfl).1 (HpOK.mutOwn hw (.head _) rfl).2))) ?_
   refine aw (bU rfl rfl) (bK ?_)
   refine ac ?_
   refine ar rfl ?_ ?_ <;> intro h3 <;> try simp only [bs] at h3
   ·refine an (zz0 (aa rfl) (zz0 (cp rfl rfl) ?_))
    refine zz0 (ab rfl) (aD (aX (ac ?_)))
    have hx : dP cmp (l.getD h default) (l.getD a default) = true := by simp only [dP, decide_eq_true_eq]; assumption
    have hn : ∀ q, md ≤ q → q < h + 1 → dP cmp (l.getD q default) (l.getD a default) = true := fun q x y => hO.le_lt (h2s.le hO x (by omega) (by omega)) hx
    refine cH (h + 1, j) (Front.c (Front.c Front.nil)) (bC 26 rfl) (o := ⟨by omega, by omega, hi3, hn, hi5⟩)
   ·refine an (zz0 (aa rfl) (zz0 (ab rfl) (aD (aX (ac ?_)))))
    have hx : dP cmp (l.getD h default) (l.getD a default) = false := by simp only [dP, decide_eq_false_iff_not]; assumption
    have hn : ∀ q, h ≤ q → q < b → dP cmp (l.getD q default) (l.getD a default) = false := fun q x y => hO.ntr _ _ _ (h2s.le hO (by omega) x y) hx
    refine cH (i, h) (Front.c (Front.c Front.nil)) (bC 25 rfl) (o := ⟨hi1, by omega, by omega, hi4, hn⟩)
  ·refine bJ (aG (aG (bv (ac (al (af (zz0 (aa rfl) (zz0 (ab rfl) (ad (aF ?_))))))))))
   have e0 : mp (dD a (a + 1) (a + 1)) l = l := rz (.inr rfl) (by omega) (Nat.le_refl _)
   refine f7 e0.symm ?_
   refine bL (ι := Nat) (fun k => a ≤ k ∧ k + 1 ≤ i) (fun _ => _) (fun k => [rowE V 36 aO (mp (dD a (a + 1) (k + 1)) l)]) (fun k => [(13, .int .i64 (k : Nat))]) (fun k => i - k) a ⟨Nat.le_refl _, by omega⟩ (Front.c Front.nil) (by repeat' constructor) rfl (fun k hi m hm => ?_)
   replace hi : a ≤ k ∧ k + 1 ≤ i := hi
   replace hm : m = i - k := hm
   change Tr _ _ [rowE V 36 aO (mp (dD a (a + 1) (k + 1)) l)] ([(13, .int .i64 (k : Nat))] ++ _) _
   obtain ⟨hk1, hk2⟩ := hi
   have hml : (mp (dD a (a + 1) (k + 1)) l).length = l.length := iu _ _
   refine al (af (zz0 (aa rfl) (zz0 (aa rfl) (zz0 (eE rfl rfl) ?_))))
   refine zz0 (bU rfl rfl) (ad ?_)
   refine ar rfl ?_ ?_ <;> intro h4 <;> try simp only [bs] at h4
   ·refine bF (al (aF (fO 5 15 aQ ?_)))
    refine eD rfl ?_
    refine eD rfl ?_
    refine eD rfl ?_
    refine eD rfl ?_
    refine gG (fun _ => cp rfl rfl) (by rfl) rfl ?_
    refine bI ?_
    refine aw (aa rfl) (aw (aa rfl) (aw (cp rfl rfl) ?_))
    refine aw (jJ rfl rfl aM ax) ?_
    refine aw (mY rfl aR ax) ?_
    refine aw (aa rfl) (aw (aa rfl) (aw (zz7 rfl rfl aM ax) ?_))
    refine aw (mY rfl aR ax) ?_
    refine aw (zz7 rfl rfl aM ax) ?_
    refine bK ?_
    refine gg (l := (mp (dD a (a + 1) (k + 1)) l)) (i := k) ((mp (dD a (a + 1) (k + 1)) l).getD (k + 1) default) rfl rfl ax ?_
    have hls5 : (List.set (mp (dD a (a + 1) (k + 1)) l) (k) ((mp (dD a (a + 1) (k + 1)) l).getD (k + 1) default)).length = ((mp (dD a (a + 1) (k + 1)) l)).length := List.length_set
    refine zz0 (jJ rfl rfl aM ax) ?_
    refine gg (l := ((mp (dD a (a + 1) (k + 1)) l).set (k) ((mp (dD a (a + 1) (k + 1)) l).getD (k + 1) default))) (i := k + 1) ((mp (dD a (a + 1) (k + 1)) l).getD (k) default) rfl rfl ax ?_
    have hls6 : (List.set ((mp (dD a (a + 1) (k + 1)) l).set (k) ((mp (dD a (a + 1) (k + 1)) l).getD (k + 1) default)) (k + 1) ((mp (dD a (a + 1) (k + 1)) l).getD (k) default)).length = (((mp (dD a (a + 1) (k + 1)) l).set (k) ((mp (dD a (a + 1) (k + 1)) l).getD (k + 1) default))).length := List.length_set
    refine aD (aX (ac (an (zz0 (aa rfl) (zz0 (cp rfl rfl) ?_)))))
    refine zz0 (ab rfl) (ad ?_)
    have hsw := Cz (l := (mp (dD a (a + 1) (k + 1)) l)) (p := k) (q := k + 1) (by omega) (by omega)
    rw [IB hk1 (by omega)] at hsw
    rw [hsw]
    refine cH (k + 1) (Front.c Front.nil) (bC 24 rfl) (o := ⟨by omega, by omega⟩)
   ·refine bJ (aG (aG (bv (ac (aB (ay ?_))))))
    refine lT kQ (fun w' hw => ?_)
    have hin := ER hO (l := l) (a := a) (i := i) (b := b) (by rw [show a + 1 = md by omega]; exact h2s) hb (by omega) (by omega) (fun q x y => hi4 q (by omega) y) (fun q x y => hi5 q (by omega) y)
    obtain rfl : i = k + 1 := by omega
    exact ⟨rfl, _, ⟨hin.1, Fram.rot (Nat.le_refl _) (by omega) (by omega) (by omega), hin.2⟩, HpOK.mutOwn hw (.head _) rfl⟩
 ·refine bF (al (af (zz0 (aa rfl) (zz0 (aa rfl) (zz0 (eE rfl rfl) ?_)))))
  refine zz0 (bB rfl rfl) (ad ?_)
  refine ar rfl ?_ ?_ <;> intro h7 <;> try simp only [bs] at h7
  ·refine af (zz0 (aa rfl) (zz0 (ab rfl) (aH (zz0 (aa rfl) (zz0 (ab rfl) (ad (al (aF ?_))))))))
   refine bL (ι := Nat × Nat) (fun ⟨i, j⟩ => a ≤ i ∧ i ≤ j ∧ j ≤ md ∧ (∀ q, a ≤ q → q < i → dP cmp (l.getD md default) (l.getD q default) = false) ∧ (∀ q, j ≤ q → q < md → dP cmp (l.getD md default) (l.getD q default) = true)) (fun _ => _) (fun ⟨i, j⟩ => [rowE V 36 aO l]) (fun ⟨i, j⟩ => [(14, .int .i64 (i : Nat)), (15, .int .i64 (j : Nat))]) (fun ⟨i, j⟩ => j - i) (a, md) ⟨Nat.le_refl _, by omega, Nat.le_refl _, fun q x y => by omega, fun q x y => by omega⟩ (Front.c (Front.c Front.nil)) (by repeat' constructor) rfl (fun i hi m hm => ?_)
   obtain ⟨i, j⟩ := i
   replace hi : a ≤ i ∧ i ≤ j ∧ j ≤ md ∧ (∀ q, a ≤ q → q < i → dP cmp (l.getD md default) (l.getD q default) = false) ∧ (∀ q, j ≤ q → q < md → dP cmp (l.getD md default) (l.getD q default) = true) := hi
   replace hm : m = j - i := hm
   change Tr _ _ [rowE V 36 aO l] ([(14, .int .i64 (i : Nat)), (15, .int .i64 (j : Nat))] ++ _) _
   obtain ⟨hi1, hi2, hi3, hi4, hi5⟩ := hi
   refine al (af (zz0 (aa rfl) (zz0 (aa rfl) (zz0 (bU rfl rfl) (ad ?_)))))
   refine ar rfl ?_ ?_ <;> intro h8 <;> try simp only [bs] at h8
   ·refine bF (aF (af (zz0 (aa rfl) (zz0 (aa rfl) (zz0 (cp rfl rfl) ?_)))))
    refine zz0 (eG rfl aZ dZ (IntWalk.u64_in _ (by omega))) ?_
    refine zz0 (uE rfl rfl (by omega)) ?_
    refine zz0 (eG rfl dZ aZ (IntWalk.i64_in _ (by omega))) ?_
    refine zz0 (ab rfl) (ad (al ?_))
    obtain ⟨h, hhh⟩ : ∃ h, h = (i + j) / 2 := ⟨_, rfl⟩
    rw [show (((i : Nat) : Int) + ((j : Nat) : Int)) / 2 = ((h : Nat) : Int) by omega]
    refine io aQ ?_
    refine aw (aa rfl) (aw (aa rfl) (aw (aa rfl) (aw (zz7 rfl rfl aM ax) ?_)))
    refine aw (mY rfl aR ax) ?_
    refine aw (aa rfl) (aw (aa rfl) (aw (zz7 rfl rfl aM ax) ?_))
    refine aw (mY rfl aR ax) ?_
    refine aw (iC rfl rfl eg (fun w hw => hc _ _ w (hI _ _ _ hIw (HpOK.mutOwn hw (.head _) rfl).1 (HpOK.mutOwn hw (.head _) rfl).2))) ?_
    refine aw (bU rfl rfl) (aw (cQ rfl) (bK ?_))
    refine ac ?_
    refine ar rfl ?_ ?_ <;> intro h9 <;> try simp only [bs] at h9
    ·refine an (zz0 (aa rfl) (zz0 (cp rfl rfl) ?_))
     refine zz0 (ab rfl) (aD (aX (ac ?_)))
     have hx : dP cmp (l.getD md default) (l.getD h default) = false := by simp only [dP, decide_eq_false_iff_not]; assumption
     have hn : ∀ q, a ≤ q → q < h + 1 → dP cmp (l.getD md default) (l.getD q default) = false := fun q x y => hO.ntr _ _ _ hx (h1s.le hO x (by omega) (by omega))
     refine cH (h + 1, j) (Front.c (Front.c Front.nil)) (bC 27 rfl) (o := ⟨by omega, by omega, hi3, hn, hi5⟩)
    ·refine an (zz0 (aa rfl) (zz0 (ab rfl) (aD (aX (ac ?_)))))
     have hx : dP cmp (l.getD md default) (l.getD h default) = true := by simp only [dP, decide_eq_true_eq]; assumption
     have hn : ∀ q, h ≤ q → q < md → dP cmp (l.getD md default) (l.getD q default) = true := fun q x y => hO.lt_le hx (h1s.le hO (by omega) x y)
     refine cH (i, h) (Front.c (Front.c Front.nil)) (bC 26 rfl) (o := ⟨hi1, by omega, by omega, hi4, hn⟩)
   ·refine bJ (aG (aG (bv (ac (al (af (zz0 (aa rfl) (zz0 (ab rfl) (ad (aF ?_))))))))))
    have e0 : mp (dD md md (md + 1)) l = l := rz (.inl rfl) (Nat.le_refl _) (by omega)
    refine f7 e0.symm ?_
    refine bL (ι := Nat) (fun k => i ≤ k ∧ k ≤ md) (fun _ => _) (fun k => [rowE V 36 aO (mp (dD k md (md + 1)) l)]) (fun k => [(17, .int .i64 (k : Nat))]) (fun k => k) md ⟨by omega, Nat.le_refl _⟩ (Front.c Front.nil) (by repeat' constructor) rfl (fun k hi m hm => ?_)
    replace hi : i ≤ k ∧ k ≤ md := hi
    replace hm : m = k := hm
    change Tr _ _ [rowE V 36 aO (mp (dD k md (md + 1)) l)] ([(17, .int .i64 (k : Nat))] ++ _) _
    obtain ⟨hk1, hk2⟩ := hi
    have hml : (mp (dD k md (md + 1)) l).length = l.length := iu _ _
    have ej : ((k : Int) - 1).toNat = k - 1 := by omega
    refine al (af (zz0 (aa rfl) (zz0 (aa rfl) (zz0 (fj rfl rfl) (ad ?_)))))
    refine ar rfl ?_ ?_ <;> intro h10 <;> try simp only [bs] at h10
    ·refine bF (al (aF (fO 5 15 aQ ?_)))
     refine eD rfl ?_
     refine eD rfl ?_
     refine eD rfl ?_
     refine eD rfl ?_
     refine gG (fun _ => eE rfl rfl) (by rfl) rfl ?_
     refine bI ?_
     refine aw (aa rfl) (aw (aa rfl) (aw (eE rfl rfl) ?_))
     refine aw (jJ rfl rfl aM ax) ?_
     refine aw (mY rfl aR ax) ?_
     refine aw (aa rfl) (aw (aa rfl) (aw (zz7 rfl rfl aM ax) ?_))
     refine aw (mY rfl aR ax) ?_
     refine aw (zz7 rfl rfl aM ax) ?_
     refine bK ?_
     refine gg (l := (mp (dD k md (md + 1)) l)) (i := k) ((mp (dD k md (md + 1)) l).getD (((k : Int) - 1).toNat) default) rfl rfl ax ?_
     have hls11 : (List.set (mp (dD k md (md + 1)) l) (k) ((mp (dD k md (md + 1)) l).getD (((k : Int) - 1).toNat) default)).length = ((mp (dD k md (md + 1)) l)).length := List.length_set
     refine zz0 (jJ rfl rfl aM ax) ?_
     refine gg (l := ((mp (dD k md (md + 1)) l).set (k) ((mp (dD k md (md + 1)) l).getD (((k : Int) - 1).toNat) default))) (i := ((k : Int) - 1).toNat) ((mp (dD k md (md + 1)) l).getD (k) default) rfl rfl ax ?_
     have hls12 : (List.set ((mp (dD k md (md + 1)) l).set (k) ((mp (dD k md (md + 1)) l).getD (((k : Int) - 1).toNat) default)) (((k : Int) - 1).toNat) ((mp (dD k md (md + 1)) l).getD (k) default)).length = (((mp (dD k md (md + 1)) l).set (k) ((mp (dD k md (md + 1)) l).getD (((k : Int) - 1).toNat) default))).length := List.length_set
     refine aD (aX (ac (an (zz0 (aa rfl) (zz0 (eE rfl rfl) ?_)))))
     refine zz0 (ab rfl) (ad ?_)
     have hsw := Cz (l := (mp (dD k md (md + 1)) l)) (p := k) (q := k - 1) (by omega) (by omega)
     rw [zx (by omega) hk2 (by omega)] at hsw
     rw [ej, hsw]
     refine cH (k - 1) (Front.c Front.nil) (bC 23 rfl) (o := ⟨by omega, by omega⟩)
    ·refine bJ (aG (aG (bv (ac (aB (ay ?_))))))
     refine lT kQ (fun w' hw => ?_)
     obtain rfl : i = k := by omega
     have hin := Co hO (l := l) (a := a) (i := md) (j := i) h1s (by omega) (by omega) (by omega) (fun q x y => hi5 q (by omega) y) (if q : i = a then .inl q else .inr (hi4 _ (by omega) (by omega)))
     obtain rfl : b = md + 1 := by omega
     exact ⟨rfl, _, ⟨hin.1, Fram.rot (by omega) (Nat.le_refl _) (by omega) (by omega), hin.2⟩, HpOK.mutOwn hw (.head _) rfl⟩
  ·refine dl (zz0 (aa rfl) (zz0 (aa rfl) (zz0 (cp rfl rfl) ?_)))
   refine zz0 (eG rfl aZ dZ (IntWalk.u64_in _ (by omega))) ?_
   refine zz0 (uE rfl rfl (by omega)) ?_
   refine zz0 (eG rfl dZ aZ (IntWalk.i64_in _ (by omega))) ?_
   refine zz0 (ab rfl) (ad (al ?_))
   obtain ⟨mid, hhmid⟩ : ∃ mid, mid = (a + b) / 2 := ⟨_, rfl⟩
   rw [show (((a : Nat) : Int) + ((b : Nat) : Int)) / 2 = ((mid : Nat) : Int) by omega]
   refine an (zz0 (aa rfl) (zz0 (aa rfl) (zz0 (cp rfl rfl) ?_)))
   refine zz0 (ab rfl) (aH (zz0 (ab rfl) (zz0 (ab rfl) (ad ?_))))
   refine di (ι := Nat × Nat) (fun ⟨s0, r0⟩ => (mid < md ∧ s0 + b = mid + md ∧ r0 = mid) ∨ (md ≤ mid ∧ s0 = a ∧ r0 = md)) (fun _ => Bg.less w V) (fun ⟨s0, r0⟩ => [rowE V 36 aO l]) (fun ⟨s0, r0⟩ => [(20, .int .i64 (s0 : Nat)), (21, .int .i64 (r0 : Nat))]) ?_ (fun i hi => ?_)
   ·skip
    refine af (zz0 (aa rfl) (zz0 (aa rfl) (zz0 (fj rfl rfl) (ad ?_))))
    refine ar rfl ?_ ?_ <;> intro h13 <;> try simp only [bs] at h13
    ·refine af (zz0 (aa rfl) (zz0 (aa rfl) (zz0 (eE rfl rfl) ?_)))
     refine zz0 (ab rfl) (ad (an (zz0 (aa rfl) (zz0 (ab rfl) (ad ?_)))))
     refine cw (mid + md - b, mid) (Front.c (Front.c Front.nil)) (bC 9 rfl) (o := .inl ⟨by omega, by omega, rfl⟩)
    ·refine af (zz0 (aa rfl) (zz0 (ab rfl) (ad (an (zz0 (aa rfl) (zz0 (ab rfl) (ad ?_)))))))
     refine cw (a, md) (Front.c (Front.c Front.nil)) (bC 7 rfl) (o := .inr ⟨by omega, rfl, rfl⟩)
   ·obtain ⟨s0, r0⟩ := i
    replace hi : (mid < md ∧ s0 + b = mid + md ∧ r0 = mid) ∨ (md ≤ mid ∧ s0 = a ∧ r0 = md) := hi
    change Tr _ _ [rowE V 36 aO l] ([(20, .int .i64 (s0 : Nat)), (21, .int .i64 (r0 : Nat))] ++ _) _
    have hs0 : a ≤ s0 ∧ s0 ≤ r0 ∧ r0 ≤ md := by omega
    refine af (zz0 (aa rfl) (zz0 (eE rfl rfl) ?_))
    refine zz0 (ab rfl) (ad (al (aF ?_)))
    refine bL (ι := Nat × Nat) (fun ⟨st, r⟩ => s0 ≤ st ∧ st ≤ r ∧ r ≤ r0 ∧ (st = s0 ∨ dP cmp (l.getD (mid + md - st) default) (l.getD (st - 1) default) = false) ∧ (r = r0 ∨ dP cmp (l.getD (mid + md - 1 - r) default) (l.getD r default) = true)) (fun _ => _) (fun ⟨st, r⟩ => [rowE V 36 aO l]) (fun ⟨st, r⟩ => [(20, .int .i64 (st : Nat)), (21, .int .i64 (r : Nat))]) (fun ⟨st, r⟩ => r - st) (s0, r0) ⟨Nat.le_refl _, by omega, Nat.le_refl _, .inl rfl, .inl rfl⟩ (Front.c (Front.c Front.nil)) (by repeat' constructor) rfl (fun i hi m hm => ?_)
    obtain ⟨st, r⟩ := i
    replace hi : s0 ≤ st ∧ st ≤ r ∧ r ≤ r0 ∧ (st = s0 ∨ dP cmp (l.getD (mid + md - st) default) (l.getD (st - 1) default) = false) ∧ (r = r0 ∨ dP cmp (l.getD (mid + md - 1 - r) default) (l.getD r default) = true) := hi
    replace hm : m = r - st := hm
    change Tr _ _ [rowE V 36 aO l] ([(20, .int .i64 (st : Nat)), (21, .int .i64 (r : Nat))] ++ _) _
    obtain ⟨hi1, hi2, hi3, hi4, hi5⟩ := hi
    refine al (af (zz0 (aa rfl) (zz0 (aa rfl) (zz0 (bU rfl rfl) (ad ?_)))))
    refine ar rfl ?_ ?_ <;> intro h14 <;> try simp only [bs] at h14
    ·refine bF (aF (af (zz0 (aa rfl) (zz0 (aa rfl) (zz0 (cp rfl rfl) ?_)))))
     refine zz0 (eG rfl aZ dZ (IntWalk.u64_in _ (by omega))) ?_
     refine zz0 (uE rfl rfl (by omega)) ?_
     refine zz0 (eG rfl dZ aZ (IntWalk.i64_in _ (by omega))) ?_
     refine zz0 (ab rfl) (ad (al ?_))
     obtain ⟨c, hhc⟩ : ∃ c, c = (st + r) / 2 := ⟨_, rfl⟩
     rw [show (((st : Nat) : Int) + ((r : Nat) : Int)) / 2 = ((c : Nat) : Int) by omega]
     refine io aQ ?_
     refine aw (aa rfl) (aw (aa rfl) (aw (aa rfl) (aw (aa rfl) (aw (eE rfl rfl) ?_))))
     refine aw (jJ rfl rfl aM ax) ?_
     refine aw (mY rfl aR ax) ?_
     refine aw (aa rfl) (aw (aa rfl) (aw (zz7 rfl rfl aM ax) ?_))
     refine aw (mY rfl aR ax) ?_
     refine aw (iC rfl rfl eg (fun w hw => hc _ _ w (hI _ _ _ hIw (HpOK.mutOwn hw (.head _) rfl).1 (HpOK.mutOwn hw (.head _) rfl).2))) ?_
     refine aw (bU rfl rfl) (aw (cQ rfl) (bK ?_))
     refine ac ?_
     refine ar rfl ?_ ?_ <;> intro h15 <;> try simp only [bs] at h15
     ·refine an (zz0 (aa rfl) (zz0 (cp rfl rfl) ?_))
      refine zz0 (ab rfl) (aD (aX (ac ?_)))
      have ec : ((((mid : Nat) : Int) + ((md : Nat) : Int)) - 1 - ((c : Nat) : Int)).toNat = mid + md - 1 - c := by omega
      have hx : dP cmp (l.getD (mid + md - 1 - c) default) (l.getD c default) = false := by rw [← ec]; simp only [dP, decide_eq_false_iff_not]; assumption
      refine cH (c + 1, r) (Front.c (Front.c Front.nil)) (bC 29 rfl) (o := ⟨by omega, by omega, hi3, .inr (by rw [show mid + md - (c + 1) = mid + md - 1 - c by omega]; exact hx), hi5⟩)
     ·refine an (zz0 (aa rfl) (zz0 (ab rfl) (aD (aX (ac ?_)))))
      have ec : ((((mid : Nat) : Int) + ((md : Nat) : Int)) - 1 - ((c : Nat) : Int)).toNat = mid + md - 1 - c := by omega
      have hx : dP cmp (l.getD (mid + md - 1 - c) default) (l.getD c default) = true := by rw [← ec]; simp only [dP, decide_eq_true_eq]; assumption
      refine cH (st, c) (Front.c (Front.c Front.nil)) (bC 28 rfl) (o := ⟨hi1, by omega, by omega, hi4, .inr hx⟩)
    ·refine bJ (aG (aG (bv (ac (af (zz0 (aa rfl) (zz0 (aa rfl) (zz0 (eE rfl rfl) ?_))))))))
     refine zz0 (ab rfl) (ad ?_)
     obtain rfl : r = st := by omega
     obtain ⟨e, he⟩ : ∃ e, e = mid + md - r := ⟨_, rfl⟩
     rw [show (((mid : Nat) : Int) + ((md : Nat) : Int)) - ((r : Nat) : Int) = ((e : Nat) : Int) by omega]
     have hme : md ≤ e := by omega
     have heb : e ≤ b := by omega
     have hmm : mid = r + (e - md) := by omega
     have hd : r = md ∨ md = e ∨ dP cmp (l.getD (e - 1) default) (l.getD r default) = true := by
      rcases hi5 with q | q
      ·omega
      ·exact .inr (.inr (by rw [show e - 1 = mid + md - 1 - r by omega]; exact q))
     have hg : r = a ∨ e = b ∨ dP cmp (l.getD e default) (l.getD (r - 1) default) = false := by
      rcases hi4 with q | q
      ·omega
      ·exact .inr (.inr (by rw [he]; exact q))
     have hf := FP hO h1s h2s hb (by omega) (by omega) hme heb hmm hd hg
     have hml : (mp (dD r md e) l).length = l.length := iu _ _
     refine di (ι := Unit) (fun _u => True) (fun _ => Bg.less w V) (fun _u => [rowE V 36 aO (mp (dD r md e) l)]) (fun _u => []) ?_ (fun _u hi => ?_)
     ·skip
      refine af (zz0 (aa rfl) (zz0 (aa rfl) (zz0 (bU rfl rfl) (zz0 (aa rfl) ?_))))
      apply cE
      ·exact (rfl : _ = (4, 181, 185))
      ·exact rfl
      ·intro hT16; have hT16' := hT16
       try simp only [bs] at hT16'
       refine zz5 hT16 (aa rfl) (zz5 hT16 (aa rfl) (zz5 hT16 (bU rfl rfl) (zz0 (aS rfl hT16 rfl) ?_)))
       refine aD (ac ?_)
       exact aI (Sub.cons rfl (zz9 4 rfl))
      ·intro hF16
       refine zz8 hF16 (zz8 hF16 (zz8 hF16 (zz0 (aT rfl hF16 rfl) ?_)))
       refine aD (ac ?_)
       exact aI (Sub.cons rfl (zz9 4 rfl))
      refine ad ?_
      refine ar rfl ?_ ?_ <;> intro h17 <;> try simp only [bs] at h17
      ·refine an (zz0 (aa rfl) (zz0 (aa rfl) (zz0 (aa rfl) (zz0 (aa rfl) (zz0 (aa rfl) (eh rfl Tryz.call263 (by repeat constructor) (fun w hw => Bc l V r md e _ _ _ (by omega) (by omega) (by omega) _ w (hw.ent _ (.head _)) hl (by omega) (by omega) (by omega)) rfl ?_))))))
       refine ad ?_
       refine cw () Front.nil (bC 11 rfl) (o := trivial)
      ·refine bF (f7 (l' := mp (dD r md e) l) (rz (by omega) (by omega) (by omega)).symm ?_)
       refine cw () Front.nil (bC 5 rfl) (o := trivial)
     ·skip
      replace hi : True := hi
      change Tr _ _ [rowE V 36 aO (mp (dD r md e) l)] ([] ++ _) _
      refine di (ι := List Ins) (fun c2 => Half (dP cmp) l c2 a mid mid e b) (fun _ => Bg.less w V) (fun c2 => [rowE V 36 aO c2]) (fun c2 => []) ?_ (fun c2 hi => ?_)
      ·skip
       refine af (zz0 (aa rfl) (zz0 (aa rfl) (zz0 (bU rfl rfl) (zz0 (aa rfl) ?_))))
       apply cE
       ·exact (rfl : _ = (4, 195, 199))
       ·exact rfl
       ·intro hT18; have hT18' := hT18
        try simp only [bs] at hT18'
        refine zz5 hT18 (aa rfl) (zz5 hT18 (aa rfl) (zz5 hT18 (bU rfl rfl) (zz0 (aS rfl hT18 rfl) ?_)))
        refine aD (ac ?_)
        exact aI (Sub.cons rfl (zz9 4 rfl))
       ·intro hF18
        refine zz8 hF18 (zz8 hF18 (zz8 hF18 (zz0 (aT rfl hF18 rfl) ?_)))
        refine aD (ac ?_)
        exact aI (Sub.cons rfl (zz9 4 rfl))
       refine ad ?_
       refine ar rfl ?_ ?_ <;> intro h19 <;> try simp only [bs] at h19
       ·refine an (zz0 (aa rfl) (zz0 (aa rfl) (zz0 (aa rfl) (zz0 (aa rfl) (zz0 (aa rfl) ?_)))))
        refine g9 (fun c => Stab (dP cmp) (mp (dD r md e) l) c ∧ Fram a mid (mp (dD r md e) l) c ∧ Srt (dP cmp) c a mid) rfl oM (fun w hw => ih (mid - a) (by omega) (mp (dD r md e) l) a r mid _ _ _ w (by omega) (by omega) (by omega) (Nat.le_refl _) (by omega) (by omega) (by omega) (by omega) hf.s1 hf.s2 (hI _ _ _ hIw (HpOK.mutOwn hw (.head _) rfl).1 (HpOK.mutOwn hw (.head _) rfl).2) (hw.ent _ (.head _))) rfl (fun c2 hc2 => ?_)
        refine ad ?_
        refine cw c2 Front.nil (bC 11 rfl) (o := hf.left hb (by omega) (by omega) hc2.1 hc2.2.1 hc2.2.2)
       ·refine bF ?_
        refine cw _ Front.nil (bC 5 rfl) (o := hf.left0 (by omega) (by omega) (by omega))
      ·skip
       replace hi : Half (dP cmp) l c2 a mid mid e b := hi
       change Tr _ _ [rowE V 36 aO c2] ([] ++ _) _
       have hl2 := hi.fr.1
       refine af (zz0 (aa rfl) (zz0 (aa rfl) (zz0 (bU rfl rfl) (zz0 (aa rfl) ?_))))
       apply cE
       ·exact (rfl : _ = (4, 209, 213))
       ·exact rfl
       ·intro hT20; have hT20' := hT20
        try simp only [bs] at hT20'
        refine zz5 hT20 (aa rfl) (zz5 hT20 (aa rfl) (zz5 hT20 (bU rfl rfl) (zz0 (aS rfl hT20 rfl) ?_)))
        refine aD (ac ?_)
        exact aI (Sub.cons rfl (zz9 4 rfl))
       ·intro hF20
        refine zz8 hF20 (zz8 hF20 (zz8 hF20 (zz0 (aT rfl hF20 rfl) ?_)))
        refine aD (ac ?_)
        exact aI (Sub.cons rfl (zz9 4 rfl))
       refine ad ?_
       refine ar rfl ?_ ?_ <;> intro h21 <;> try simp only [bs] at h21
       ·refine an (zz0 (aa rfl) (zz0 (aa rfl) (zz0 (aa rfl) (zz0 (aa rfl) (zz0 (aa rfl) ?_)))))
        refine g9 (fun c => Stab (dP cmp) c2 c ∧ Fram mid b c2 c ∧ Srt (dP cmp) c mid b) rfl oM (fun w hw => ih (b - mid) (by omega) c2 mid e b _ _ _ w (by omega) (by omega) (by omega) (Nat.le_refl _) (by omega) (by omega) (by omega) (by omega) hi.s3 hi.s4 (hI _ _ _ hIw (HpOK.mutOwn hw (.head _) rfl).1 (HpOK.mutOwn hw (.head _) rfl).2) (hw.ent _ (.head _))) rfl (fun c3 hc3 => ?_)
        refine aD ?_
        refine fx kQ (fun w' hw => ?_)
        exact ⟨rfl, c3, hi.right hb (by omega) (by omega) hc3.1 hc3.2.1 hc3.2.2, HpOK.mutOwn hw (.head _) rfl⟩
       ·refine cg ?_
        refine fx kQ (fun w' hw => ?_)
        exact ⟨rfl, c2, hi.right0 (by omega) (by omega) (by omega), HpOK.mutOwn hw (.head _) rfl⟩
theorem rl (V : Value) (g : FuncId) (cb : List Value) (cmp : Ins → Ins → Int) (I : World → Prop) (hI : ∀ w w' l', I w → Mut w w' V → (rowE V 36 aO l').holds w' → I w') (eg : ∀ args w, (callFunc g args).run Tryz.prog w = .ok (.enter g args) w) (hc : ∀ x y w', I w' → Calls Tryz.prog g ([Value.agg (aO.enc x).toArray, Value.agg (aO.enc y).toArray] ++ cb).toArray w' fun e w'' => e = .returned (.int .i64 (cmp x y)) ∧ Ext w' w'') (hO : WO (dP cmp)) : ∀ n, C4 g cb cmp I V n := by
 intro n
 induction n using Nat.strongRecOn with
 | ind n ih =>
  intro l a md b ai mdi bi w ea emd eb hn ham hmb hb hl h1s h2s hIw hr
  exact Do l V a md b ai mdi bi ea emd eb g cb cmp I hI eg hc hO w hIw hr hl (fun k hk => ih k (by omega)) ham hmb hb h1s h2s
theorem Ag {l : List Ins} {k : Nat} (h : l.length ≤ k) : l.getD k default = default := by simp [List.getD_eq_getElem?_getD, List.getElem?_eq_none h]
theorem A9 (l : List Ins) (V : Value) (n : Nat) (ni : Int) (en : ni = ((n : Nat) : Int)) (g : FuncId) (cb : List Value) (cmp : Ins → Ins → Int) (I : World → Prop) (hI : ∀ w w' l', I w → Mut w w' V → (rowE V 36 aO l').holds w' → I w') (eg : ∀ args w, (callFunc g args).run Tryz.prog w = .ok (.enter g args) w) (hc : ∀ x y w', I w' → Calls Tryz.prog g ([Value.agg (aO.enc x).toArray, Value.agg (aO.enc y).toArray] ++ cb).toArray w' fun e w'' => e = .returned (.int .i64 (cmp x y)) ∧ Ext w' w'') (hO : WO (dP cmp)) (w : World) (hIw : I w) (hr : (rowE V 36 aO l).holds w) (hl : l.length ≤ 1000000) (hn : n = l.length) :
  Calls Tryz.prog 146 #[V, .int .i64 ni, .func (.func g) #[] cb.toArray] w (zm cmp V l 0 n w) := by
 subst en
 refine fL (l := l) (E := aO) (T := 36) hr Tryz.func146 rfl Tryz.ntmps146 rfl ?_
 refine af (zz0 (ab rfl) (aH (zz0 (aa rfl) (zz0 (ab rfl) (zz0 (ab rfl) (ad (al (aF ?_))))))))
 refine bL (ι := Nat × List Ins) (fun ⟨t, cur⟩ => t * 20 ≤ n ∧ Stab (dP cmp) l cur ∧ Blk (dP cmp) cur 20 (t * 20)) (fun _ => _) (fun ⟨t, cur⟩ => [rowE V 36 aO cur]) (fun ⟨t, cur⟩ => [(7, .int .i64 ((t * 20 : Nat) : Int)), (8, .int .i64 ((t * 20 + 20 : Nat) : Int))]) (fun ⟨t, cur⟩ => n - t * 20) (0, l) ⟨by omega, .refl _ _, fun t p q a1 a2 a3 a4 => by omega⟩ (Front.c (Front.c Front.nil)) (by repeat' constructor) rfl (fun i hi m hm => ?_)
 obtain ⟨t, cur⟩ := i
 replace hi : t * 20 ≤ n ∧ Stab (dP cmp) l cur ∧ Blk (dP cmp) cur 20 (t * 20) := hi
 replace hm : m = n - t * 20 := hm
 change Tr _ _ [rowE V 36 aO cur] ([(7, .int .i64 ((t * 20 : Nat) : Int)), (8, .int .i64 ((t * 20 + 20 : Nat) : Int))] ++ _) _
 obtain ⟨ht1, ht2, ht3⟩ := hi
 have hcl := ht2.len
 refine al (af (zz0 (aa rfl) (zz0 (aa rfl) (zz0 (gr rfl rfl) (ad ?_)))))
 refine ar rfl ?_ ?_ <;> intro h1 <;> try simp only [bs] at h1
 ·refine bF (aF (af (zz0 (aa rfl) (zz0 (aa rfl) (zz0 (aa rfl) (zz0 (aa rfl) ?_))))))
  refine g9 (fun c => Stab (dP cmp) cur c ∧ Fram (t * 20) (t * 20 + 20) cur c ∧ Srt (dP cmp) c (t * 20) (t * 20 + 20)) rfl Tryz.call199 (fun w hw => qK cur V (t * 20) (t * 20 + 20) _ _ (by omega) (by omega) g cb cmp I hI eg hc hO w (hI _ _ _ hIw (HpOK.mutOwn hw (.head _) rfl).1 (HpOK.mutOwn hw (.head _) rfl).2) (hw.ent _ (.head _)) (by omega) (by omega) (by omega)) rfl (fun c2 hc2 => ?_)
  refine aH (zz0 (aa rfl) (zz0 (ab rfl) (ad (an (zz0 (aa rfl) (zz0 (aa rfl) (zz0 (cp rfl rfl) ?_)))))))
  refine zz0 (ab rfl) (aD (aX (ac ?_)))
  have hcl2 := hc2.1.len
  have hb2 : Blk (dP cmp) c2 20 ((t + 1) * 20) := by rw [show (t + 1) * 20 = t * 20 + 20 by omega]; exact uz ht3 hc2.2.1 hc2.2.2 (by omega)
  refine cH (t + 1, c2) (Front.c (Front.c Front.nil)) (bC 16 rfl) (o := ⟨by omega, ht2.trans hc2.1, hb2⟩)
 ·refine bJ (aG (aG (bv (ac (af (zz0 (aa rfl) (zz0 (aa rfl) (zz0 (aa rfl) (zz0 (aa rfl) ?_)))))))))
  refine g9 (fun c => Stab (dP cmp) cur c ∧ Fram (t * 20) n cur c ∧ Srt (dP cmp) c (t * 20) n) rfl Tryz.call199 (fun w hw => qK cur V (t * 20) n _ _ (by omega) (by omega) g cb cmp I hI eg hc hO w (hI _ _ _ hIw (HpOK.mutOwn hw (.head _) rfl).1 (HpOK.mutOwn hw (.head _) rfl).2) (hw.ent _ (.head _)) (by omega) (by omega) (by omega)) rfl (fun c3 hc3 => ?_)
  refine ad (aF ?_)
  have hcl3 := hc3.1.len
  have hb3 : Blk (dP cmp) c3 20 n := uz ht3 hc3.2.1 hc3.2.2 (by omega)
  have hst3 := ht2.trans hc3.1
  clear hc3 ht3 ht2
  refine bL (ι := Nat × Int × Int × List Ins) (fun ⟨bz, xa, xb, cur⟩ => 1 ≤ bz ∧ bz ≤ 2 * n + 20 ∧ Stab (dP cmp) l cur ∧ Blk (dP cmp) cur bz n) (fun _ => _) (fun ⟨bz, xa, xb, cur⟩ => [rowE V 36 aO cur]) (fun ⟨bz, xa, xb, cur⟩ => [(6, .int .i64 (bz : Nat)), (7, .int .i64 xa), (8, .int .i64 xb)]) (fun ⟨bz, xa, xb, cur⟩ => n - bz) (20, _, _, c3) ⟨by omega, by omega, hst3, hb3⟩ (Front.c (Front.c (Front.c Front.nil))) (by repeat' constructor) rfl (fun i hi m hm => ?_)
  obtain ⟨bz, xa, xb, cur⟩ := i
  replace hi : 1 ≤ bz ∧ bz ≤ 2 * n + 20 ∧ Stab (dP cmp) l cur ∧ Blk (dP cmp) cur bz n := hi
  replace hm : m = n - bz := hm
  change Tr _ _ [rowE V 36 aO cur] ([(6, .int .i64 (bz : Nat)), (7, .int .i64 xa), (8, .int .i64 xb)] ++ _) _
  obtain ⟨hb1, hb2, hb4, hb5⟩ := hi
  have hcl4 := hb4.len
  refine al (af (zz0 (aa rfl) (zz0 (aa rfl) (zz0 (bU rfl rfl) (ad ?_)))))
  refine ar rfl ?_ ?_ <;> intro h2 <;> try simp only [bs] at h2
  ·refine bF (aF (af (zz0 (aa rfl) (zz0 (kx rfl rfl (by omega)) ?_))))
   refine zz0 (ab rfl) (zz0 (ab rfl) (ad (al (aF ?_))))
   refine bL (ι := Nat × Nat × List Ins) (fun ⟨t, x, c4⟩ => x = t * (2 * bz) ∧ x ≤ n ∧ Stab (dP cmp) l c4 ∧ Mix (dP cmp) c4 bz x n) (fun _ => _) (fun ⟨t, x, c4⟩ => [rowE V 36 aO c4]) (fun ⟨t, x, c4⟩ => [(7, .int .i64 (x : Nat)), (8, .int .i64 ((x + 2 * bz : Nat) : Int))]) (fun ⟨t, x, c4⟩ => n - x) (0, 0, cur) ⟨by omega, by omega, hb4, Jw hb5⟩ (Front.c (Front.c Front.nil)) (by repeat' constructor) rfl (fun i hi m hm => ?_)
   obtain ⟨t, x, c4⟩ := i
   replace hi : x = t * (2 * bz) ∧ x ≤ n ∧ Stab (dP cmp) l c4 ∧ Mix (dP cmp) c4 bz x n := hi
   replace hm : m = n - x := hm
   change Tr _ _ [rowE V 36 aO c4] ([(7, .int .i64 (x : Nat)), (8, .int .i64 ((x + 2 * bz : Nat) : Int))] ++ _) _
   obtain ⟨ht1, ht2, ht3, ht4⟩ := hi
   have hcl5 := ht3.len
   refine al (af (zz0 (aa rfl) (zz0 (aa rfl) (zz0 (gr rfl rfl) (ad ?_)))))
   refine ar rfl ?_ ?_ <;> intro h3 <;> try simp only [bs] at h3
   ·refine bF (aF (al ?_))
    have hs1 : Srt (dP cmp) c4 x (x + bz) := by subst ht1; exact vf ht4 (Nat.le_refl _) (by omega)
    have hs2 : Srt (dP cmp) c4 (x + bz) (x + 2 * bz) := by subst ht1; exact wN ht4 (Nat.le_refl _) (by omega)
    refine an (zz0 (aa rfl) (zz0 (aa rfl) (zz0 (aa rfl) (zz0 (aa rfl) (zz0 (cp rfl rfl) ?_)))))
    refine zz0 (aa rfl) (zz0 (aa rfl) ?_)
    refine g9 (fun c => Stab (dP cmp) c4 c ∧ Fram x (x + 2 * bz) c4 c ∧ Srt (dP cmp) c x (x + 2 * bz)) rfl oM (fun w hw => rl V g cb cmp I hI eg hc hO _ c4 x (x + bz) (x + 2 * bz) _ _ _ w (by omega) (by omega) (by omega) (Nat.le_refl _) (by omega) (by omega) (by omega) (by omega) hs1 hs2 (hI _ _ _ hIw (HpOK.mutOwn hw (.head _) rfl).1 (HpOK.mutOwn hw (.head _) rfl).2) (hw.ent _ (.head _))) rfl (fun c5 hc5 => ?_)
    refine aH (zz0 (aa rfl) (zz0 (ab rfl) (ad (an (zz0 (aa rfl) (zz0 (aa rfl) (zz0 (kx rfl rfl (by omega)) ?_)))))))
    refine zz0 (cp rfl rfl) ?_
    refine zz0 (ab rfl) (aD (aX (ac ?_)))
    have hm2 : Mix (dP cmp) c5 bz (x + 2 * bz) n := by
     have f := hc5.2.1
     have so := hc5.2.2
     subst ht1
     exact Fw ht4 f so (Nat.le_refl _) (by omega)
    refine cH (t + 1, x + 2 * bz, c5) (Front.c (Front.c Front.nil)) (bC 20 rfl) (o := ⟨by rw [Nat.add_mul, ht1]; omega, by omega, ht3.trans hc5.1, hm2⟩)
   ·refine bJ (aG (aG (bv (ac ?_))))
    refine di (ι := List Ins) (fun c6 => Stab (dP cmp) l c6 ∧ Blk (dP cmp) c6 (2 * bz) n) (fun _ => Bg.less w V) (fun c6 => [rowE V 36 aO c6]) (fun c6 => []) ?_ (fun c6 hi => ?_)
    ·skip
     refine af (zz0 (aa rfl) (zz0 (aa rfl) (zz0 (cp rfl rfl) ?_)))
     refine zz0 (ab rfl) (aH (zz0 (aa rfl) (zz0 (aa rfl) (zz0 (bU rfl rfl) (ad ?_)))))
     refine ar rfl ?_ ?_ <;> intro h4 <;> try simp only [bs] at h4
     ·have hs1 : Srt (dP cmp) c4 x (x + bz) := by subst ht1; exact vf ht4 (Nat.le_refl _) (by omega)
      have hs2 : Srt (dP cmp) c4 (x + bz) n := by subst ht1; exact wN ht4 (by omega) (Nat.le_refl _)
      refine an (zz0 (aa rfl) (zz0 (aa rfl) (zz0 (aa rfl) (zz0 (aa rfl) (zz0 (aa rfl) ?_)))))
      refine g9 (fun c => Stab (dP cmp) c4 c ∧ Fram x n c4 c ∧ Srt (dP cmp) c x n) rfl oM (fun w hw => rl V g cb cmp I hI eg hc hO _ c4 x (x + bz) n _ _ _ w (by omega) (by omega) (by omega) (Nat.le_refl _) (by omega) (by omega) (by omega) (by omega) hs1 hs2 (hI _ _ _ hIw (HpOK.mutOwn hw (.head _) rfl).1 (HpOK.mutOwn hw (.head _) rfl).2) (hw.ent _ (.head _))) rfl (fun c5 hc5 => ?_)
      refine ad ?_
      have hm2 : Blk (dP cmp) c5 (2 * bz) n := by
       have f := hc5.2.1
       have so := hc5.2.2
       subst ht1
       exact uz ht4.1 f so (by rw [Nat.add_mul]; omega)
      refine cw c5 Front.nil (bC 13 rfl) (o := ⟨ht3.trans hc5.1, hm2⟩)
     ·refine bF ?_
      have hm2 : Blk (dP cmp) c4 (2 * bz) n := by
       subst ht1
       exact HA ht4 (by omega)
      refine cw c4 Front.nil (bC 7 rfl) (o := ⟨ht3, hm2⟩)
    ·skip
     replace hi : Stab (dP cmp) l c6 ∧ Blk (dP cmp) c6 (2 * bz) n := hi
     change Tr _ _ [rowE V 36 aO c6] ([] ++ _) _
     refine an (zz0 (aa rfl) (zz0 (kx rfl rfl (by omega)) ?_))
     refine zz0 (ab rfl) (aD (aX (ac ?_)))
     refine cH (2 * bz, _, _, c6) (Front.c (Front.c (Front.c Front.nil))) (bC 18 rfl) (o := ⟨by omega, by omega, hi.1, hi.2⟩)
  ·refine bJ (aG (aG (bv ?_)))
   refine fx Tryz.results146 (fun w' hw => ?_)
   exact ⟨rfl, cur, ⟨hb4, ⟨hb4.len, fun k hk => by rw [Ag (by omega), Ag (by omega)]⟩, hb5.all (by omega)⟩, HpOK.mutOwn hw (.head _) rfl⟩
theorem pC (l : List Ins) (V : Value) (g : FuncId) (cb : List Value) (cmp : Ins → Ins → Int) (I : World → Prop) (hI : ∀ w w' l', I w → Mut w w' V → (rowE V 36 aO l').holds w' → I w') (eg : ∀ args w, (callFunc g args).run Tryz.prog w = .ok (.enter g args) w) (hc : ∀ x y w', I w' → Calls Tryz.prog g ([Value.agg (aO.enc x).toArray, Value.agg (aO.enc y).toArray] ++ cb).toArray w' fun e w'' => e = .returned (.int .i64 (cmp x y)) ∧ Ext w' w'') (hO : WO (dP cmp)) (w : World) (hIw : I w) (hr : (rowE V 36 aO l).holds w) (hl : l.length ≤ 1000000) :
  Calls Tryz.prog 78 #[V, .func (.func g) #[] cb.toArray] w (zm cmp V l 0 l.length w) := by
 refine fL (l := l) (E := aO) (T := 36) hr Tryz.func78 rfl Tryz.ntmps78 rfl ?_
 refine an (zz0 (aa rfl) (zz0 (aa rfl) (zz0 (ln rfl aM) ?_)))
 refine zz0 (aa rfl) ?_
 refine g9 (fun c => Stab (dP cmp) l c ∧ Fram 0 l.length l c ∧ Srt (dP cmp) c 0 l.length) rfl Tryz.call146 (fun w hw => A9 l V l.length _ rfl g cb cmp I hI eg hc hO w (hI _ _ _ hIw (HpOK.mutOwn hw (.head _) rfl).1 (HpOK.mutOwn hw (.head _) rfl).2) (hw.ent _ (.head _)) hl rfl) rfl (fun c2 hc2 => ?_)
 refine aD ?_
 refine fx Tryz.results78 (fun w' hw => ?_)
 exact ⟨rfl, c2, hc2, HpOK.mutOwn hw (.head _) rfl⟩
end Go.Proofs.YtiajjbhcpeadfaaGreat
namespace Go.Proofs
open Go.Shelf
def Tryz.sortIns_ren : Go.Shelf.Ren := ⟨fun | 6 => 82 | 15 => 150 | 14 => 149 | 28 => 208 | 29 => 209 | 20 => 199 | 21 => 201 | 22 => 202 | 23 => 203 | 24 => 204 | 25 => 205 | 26 => 206 | 27 => 207 | 46 => 264 | 47 => 265 | 48 => 266 | 49 => 267 | 50 => 268 | 57 => 297 | n => n, fun | 22 => 50 | 24 => 36 | 25 => 156 | 3 => 3 | 39 => 191 | 0 => 0 | 53 => 23 | 55 => 43 | 4 => 4 | 46 => 261 | 45 => 260 | 50 => 229 | 5 => 5 | 9 => 9 | 66 => 292 | 70 => 296 | 76 => 316 | 77 => 317 | n => n, fun | n => n⟩
theorem Tryz.sortIns : Go.Proofs.SlLaysF0.n6 Tryz.prog Tryz.sortIns_ren := {
 mixed := by kernel_rfl
 f6 := ⟨Tryz.f82.name, by decide, Tryz.func82.trans (congrArg some (by kernel_rfl))⟩
 f14 := ⟨Tryz.f149.name, by decide, Tryz.func149.trans (congrArg some (by kernel_rfl))⟩
 f15 := Tryz.func150.trans (congrArg some (by kernel_rfl))
 f20 := ⟨Tryz.f199.name, by decide, Tryz.func199.trans (congrArg some (by kernel_rfl))⟩
 f21 := ⟨Tryz.f201.name, by decide, Tryz.func201.trans (congrArg some (by kernel_rfl))⟩
 f22 := ⟨Tryz.f202.name, by decide, Tryz.func202.trans (congrArg some (by kernel_rfl))⟩
 f23 := ⟨Tryz.f203.name, by decide, Tryz.func203.trans (congrArg some (by kernel_rfl))⟩
 f24 := ⟨Tryz.f204.name, by decide, Tryz.func204.trans (congrArg some (by kernel_rfl))⟩
 f25 := ⟨Tryz.f205.name, by decide, Tryz.func205.trans (congrArg some (by kernel_rfl))⟩
 f26 := ⟨Tryz.f206.name, by decide, Tryz.func206.trans (congrArg some (by kernel_rfl))⟩
 f27 := ⟨Tryz.f207.name, by decide, Tryz.func207.trans (congrArg some (by kernel_rfl))⟩
 f28 := Tryz.func208.trans (congrArg some (by kernel_rfl))
 f29 := Tryz.func209.trans (congrArg some (by kernel_rfl))
 f46 := ⟨Tryz.f264.name, by decide, Tryz.func264.trans (congrArg some (by kernel_rfl))⟩
 f47 := Tryz.func265.trans (congrArg some (by kernel_rfl))
 f48 := Tryz.func266.trans (congrArg some (by kernel_rfl))
 f49 := ⟨Tryz.f267.name, by decide, Tryz.func267.trans (congrArg some (by kernel_rfl))⟩
 f50 := ⟨Tryz.f268.name, by decide, Tryz.func268.trans (congrArg some (by kernel_rfl))⟩
 f57 := ⟨Tryz.f297.name, by decide, Tryz.func297.trans (congrArg some (by kernel_rfl))⟩
 t0 := Tryz.underlying0
 a0 := Tryz.isAgg0
 z0 := Tryz.sizeOf0
 v0 := Tryz.zeroValue0
 t3 := Tryz.underlying3
 a3 := Tryz.isAgg3
 z3 := Tryz.sizeOf3
 v3 := Tryz.zeroValue3
 t4 := Tryz.underlying4
 a4 := Tryz.isAgg4
 z4 := Tryz.sizeOf4
 v4 := Tryz.zeroValue4
 t5 := Tryz.underlying5
 a5 := Tryz.isAgg5
 z5 := Tryz.sizeOf5
 v5 := Tryz.zeroValue5
 t9 := Tryz.underlying9
 a9 := Tryz.isAgg9
 z9 := Tryz.sizeOf9
 v9 := Tryz.zeroValue9
 t22 := Tryz.underlying50
 a22 := Tryz.isAgg50
 z22 := Tryz.sizeOf50
 v22 := Tryz.zeroValue50
 t25 := Tryz.underlying156
 a25 := Tryz.isAgg156
 z25 := Tryz.sizeOf156
 v25 := Tryz.zeroValue156
 t39 := Tryz.underlying191
 a39 := Tryz.isAgg191
 z39 := Tryz.sizeOf191
 v39 := Tryz.zeroValue191
 t45 := Tryz.underlying260
 a45 := Tryz.isAgg260
 z45 := Tryz.sizeOf260
 v45 := Tryz.zeroValue260
 t46 := Tryz.underlying261
 a46 := Tryz.isAgg261
 z46 := Tryz.sizeOf261
 v46 := Tryz.zeroValue261
 t50 := Tryz.underlying229
 a50 := Tryz.isAgg229
 z50 := Tryz.sizeOf229
 v50 := Tryz.zeroValue229
 t53 := Tryz.underlying23
 a53 := Tryz.isAgg23
 z53 := Tryz.sizeOf23
 v53 := Tryz.zeroValue23
 t55 := Tryz.underlying43
 a55 := Tryz.isAgg43
 z55 := Tryz.sizeOf43
 v55 := Tryz.zeroValue43
 t66 := Tryz.underlying292
 a66 := Tryz.isAgg292
 z66 := Tryz.sizeOf292
 v66 := Tryz.zeroValue292
 t70 := Tryz.underlying296
 a70 := Tryz.isAgg296
 z70 := Tryz.sizeOf296
 v70 := Tryz.zeroValue296
 t76 := Tryz.underlying316
 a76 := Tryz.isAgg316
 z76 := Tryz.sizeOf316
 v76 := Tryz.zeroValue316
 t77 := Tryz.underlying317
 a77 := Tryz.isAgg317
 z77 := Tryz.sizeOf317
 v77 := Tryz.zeroValue317 }
end Go.Proofs
namespace Go.Proofs.YtiajjbhcpeadfaaGreat
open Go Go.HL Go.RowKit
theorem CS (i : Ins) (w : World) (hI : InsOK i) :
  Calls Tryz.prog 148 #[.agg (aO.enc i).toArray] w (fun e w' => e = .returned (.int .u64 (vB i)) ∧ Ext w w') := by
 have hl := yj i
 have ha := i.addr.toNat_lt
 refine enter Tryz.func148 rfl Tryz.ntmps148 rfl ?_
 refine af ?_
 refine dO rfl rfl (fun b1 => ?_)
 refine zz0 (ab rfl) (ad (al (io aQ ?_)))
 refine aw (zz3 (off := 0) (ft := 23) rfl ak rfl ae) ?_
 refine aw (aJ rfl am) ?_
 refine aw (dS rfl aP bO) (aw (bH rfl aR ax) ?_)
 refine aw (aA rfl oP (fun w hw => oy i w hI)) ?_
 refine aw (eG rfl aZ bO (IntWalk.u64_in _ (by omega))) ?_
 refine aw (mU rfl rfl (by omega)) ?_
 refine aw (ab rfl) (bK ?_)
 refine ac (aB ?_)
 refine aV Tryz.results148 rfl (fun w' hw => ?_)
 exact ⟨rfl, hw.b0⟩
theorem yA (a b : Ins) (w : World) (hI : InsOK a) (hJ : InsOK b) :
  Calls Tryz.prog 81 #[.agg (aO.enc a).toArray, .agg (aO.enc b).toArray] w (fun e w' => e = .returned (.bool (jN a b)) ∧ Ext w w') := by
 refine enter Tryz.func81 rfl Tryz.ntmps81 rfl ?_
 refine af ?_
 refine dO rfl rfl (fun b1 => ?_)
 refine dO rfl rfl (fun b2 => ?_)
 refine zz0 (ab rfl) (ad (al (io aQ ?_)))
 refine aw (zz3 (off := 0) (ft := 23) rfl ak rfl ae) ?_
 refine aw (aJ rfl am) ?_
 refine aw (zz3 (off := 0) (ft := 23) rfl ak rfl ae) ?_
 refine aw (aJ rfl am) ?_
 refine aw (jW rfl rfl) ?_
 refine aw (aa rfl) ?_
 apply fN
 ·exact (rfl : _ = (4, 10, 14))
 ·exact rfl
 ·intro hT3; have hT3' := hT3
  try simp only [bs] at hT3'
  refine bY hT3 (bH rfl aR ax) ?_
  refine bY hT3 (aA rfl oP (fun w hw => oy a w hI)) ?_
  refine bY hT3 (fj rfl rfl) (aw (aS rfl hT3 rfl) ?_)
  exact du (Sub.cons rfl (zz9 4 rfl))
 ·intro hF3
  refine bX hF3 (bX hF3 (bX hF3 (aw (aT rfl hF3 rfl) ?_)))
  exact du (Sub.cons rfl (zz9 4 rfl))
 refine aw (aa rfl) ?_
 apply fN
 ·exact (rfl : _ = (4, 15, 19))
 ·exact rfl
 ·intro hT4; have hT4' := hT4
  try simp only [bs] at hT4'
  refine bY hT4 (bH rfl aR ax) ?_
  refine bY hT4 (aA rfl oP (fun w hw => oy b w hJ)) ?_
  refine bY hT4 (fj rfl rfl) (aw (aS rfl hT4 rfl) ?_)
  exact du (Sub.cons rfl (zz9 4 rfl))
 ·intro hF4
  refine bX hF4 (bX hF4 (bX hF4 (aw (aT rfl hF4 rfl) ?_)))
  exact du (Sub.cons rfl (zz9 4 rfl))
 refine aw (aa rfl) ?_
 apply fN
 ·exact (rfl : _ = (13, 20, 33))
 ·exact rfl
 ·intro hT5; have hT5' := hT5
  try simp only [bs] at hT5'
  refine bY hT5 (zz3 (off := 0) (ft := 23) rfl ak rfl ae) ?_
  refine bY hT5 (aJ rfl am) ?_
  refine bY hT5 (zz3 (off := 0) (ft := 23) rfl ak rfl ae) ?_
  refine bY hT5 (aJ rfl am) ?_
  refine bY hT5 (qb rfl rfl) ?_
  refine bY hT5 (dS rfl aP bO) (bY hT5 (bH rfl aR ax) ?_)
  refine bY hT5 (aA rfl Tryz.call148 (fun w hw => CS a w hI)) ?_
  refine bY hT5 (bH rfl aR ax) ?_
  refine bY hT5 (aA rfl Tryz.call148 (fun w hw => CS b w hJ)) ?_
  refine bY hT5 (qF rfl rfl) ?_
  refine bY hT5 (bU rfl rfl) (aw (aS rfl hT5 rfl) ?_)
  exact du (Sub.cons rfl (zz9 13 rfl))
 ·intro hF5
  refine bX hF5 (bX hF5 (bX hF5 (bX hF5 (bX hF5 (bX hF5 (bX hF5 (bX hF5 (bX hF5 (bX hF5 (bX hF5 (bX hF5 (aw (aT rfl hF5 rfl) ?_))))))))))))
  exact du (Sub.cons rfl (zz9 13 rfl))
 refine aw (ab rfl) (bK ?_)
 refine ac (aB ?_)
 refine aV Tryz.results81 rfl (fun w' hw => ?_)
 exact ⟨rfl, hw.b0⟩
theorem pf (w : World) (g : FuncId) (cb : Array Value) :
  Calls Tryz.prog 199 #[.slice none 0 0, .int .i64 0, .int .i64 0, .func (.func g) #[] cb] w (fun e w' => e = .returned (.tuple #[]) ∧ Ext w w') := by
 refine enter Tryz.func199 rfl Tryz.ntmps199 rfl ?_
 refine af (zz0 (aa rfl) (zz0 (cp rfl rfl) ?_))
 refine zz0 (ab rfl) (ad (aF ?_))
 refine bL (ι := Unit) (fun _u => True) (fun _ => _) (fun _u => []) (fun _u => [(8, .int .i64 1)]) (fun _u => 0) () trivial (Front.c Front.nil) (by repeat' constructor) rfl (fun _u hi m hm => ?_)
 replace hi : True := hi
 replace hm : m = 0 := hm
 change Tr _ _ [] ([(8, .int .i64 1)] ++ _) _
 refine al (af (zz0 (aa rfl) (zz0 (aa rfl) (zz0 (bU rfl rfl) (ad ?_)))))
 refine ar rfl ?_ ?_ <;> intro h1 <;> try simp only [bs] at h1
 ·first | contradiction | (exfalso; omega) | simp_all
 ·refine bJ (aG (aG (bv ?_)))
  refine fx Tryz.results199 (fun w' hw => ?_)
  exact ⟨rfl, hw.b0⟩
theorem t6 (w : World) (g : FuncId) (cb : Array Value) :
  Calls Tryz.prog 149 #[.slice none 0 0, .int .i64 0, .int .i64 0, .int .i64 0, .func (.func g) #[] cb] w (fun e w' => e = .returned (.tuple #[]) ∧ Ext w w') := by
 refine enter Tryz.func149 rfl Tryz.ntmps149 rfl ?_
 refine af (zz0 (ab rfl) (aH (zz0 (ab rfl) (ad (aF ?_)))))
 refine bL (ι := Unit) (fun _u => True) (fun _ => _) (fun _u => []) (fun _u => []) (fun _u => 0) () trivial Front.nil (by repeat' constructor) rfl (fun _u hi m hm => ?_)
 replace hi : True := hi
 replace hm : m = 0 := hm
 change Tr _ _ [] ([] ++ _) _
 refine aF (af (zz0 (aa rfl) (zz0 (aa rfl) (zz0 (eE rfl rfl) ?_))))
 refine zz0 (ab rfl) (ad (al (af (zz0 (aa rfl) (zz0 (gr rfl rfl) (ad ?_))))))
 refine ar rfl ?_ ?_ <;> intro h1 <;> try simp only [bs] at h1
 ·refine af (zz0 (aa rfl) (zz0 (aa rfl) (zz0 (aa rfl) (zz0 (aa rfl) (zz0 (aA rfl Tryz.call199 (fun w hw => pf w g cb)) ?_)))))
  refine ad (aB (ay (bA (ay (bA ?_)))))
  refine lT Tryz.results149 (fun w' hw => ?_)
  exact ⟨rfl, hw.b0⟩
 ·first | contradiction | (exfalso; omega) | simp_all
theorem nD (w : World) (g : FuncId) (cb : Array Value) :
  Calls Tryz.prog 82 #[.slice none 0 0, .func (.func g) #[] cb] w (fun e w' => e = .returned (.tuple #[]) ∧ Ext w w') := by
 refine enter Tryz.func82 rfl Tryz.ntmps82 rfl ?_
 refine af (zz0 (aa rfl) (zz0 (kJ rfl aM) ?_))
 refine zz0 (ab rfl) (ad (an (zz0 (aa rfl) (zz0 (aa rfl) (zz0 (aa rfl) (zz0 (eG rfl aZ dZ (IntWalk.u64_in _ (by omega))) ?_))))))
 refine zz0 (aA rfl Tryz.call150 (fun w hw => (Go.Proofs.Any.bits_Len (Go.Proofs.SlLaysF0.n15.bits (P := Tryz.prog) (ρ := Tryz.sortIns_ren) { Tryz.sortIns with }) 0 w (by decide) (by decide)).mono (fun e w' h => ⟨h.1, by rw [h.2]; exact Ext.refl _⟩))) ?_
 refine zz0 (aa rfl) (zz0 (aA rfl Tryz.call149 (fun w hw => t6 w g cb)) ?_)
 refine aD ?_
 refine fx Tryz.results82 (fun w' hw => ?_)
 exact ⟨rfl, hw.b0⟩
theorem wk (a b : Ins) (w : World) :
  Calls Tryz.prog 143 #[.agg (aO.enc a).toArray, .agg (aO.enc b).toArray] w (fun e w' => e = .returned (.int .i64 (lO a b)) ∧ Ext w w') := by
 refine enter Tryz.func143 rfl Tryz.ntmps143 rfl ?_
 refine af ?_
 refine dO rfl rfl (fun b1 => ?_)
 refine dO rfl rfl (fun b2 => ?_)
 refine zz0 (ab rfl) (aH (zz0 (zz3 (off := 0) (ft := 23) rfl ak rfl ae) ?_))
 refine zz0 (aJ rfl am) ?_
 refine zz0 (zz3 (off := 0) (ft := 23) rfl ak rfl ae) ?_
 refine zz0 (aJ rfl am) ?_
 refine zz0 (aA rfl Tryz.call84 (fun w hw => AA a.addr b.addr w)) ?_
 refine zz0 (ab rfl) (ad (aB ?_))
 refine aV Tryz.results143 rfl (fun w' hw => ?_)
 exact ⟨rfl, hw.b0⟩
theorem xX (a b : Ins) (w : World) :
  Calls Tryz.prog 83 #[.agg (aO.enc a).toArray, .agg (aO.enc b).toArray] w (fun e w' => e = .returned (.int .i64 (lO a b)) ∧ Ext w w') := by
 refine enter Tryz.func83 rfl Tryz.ntmps83 rfl ?_
 refine af ?_
 refine dO rfl rfl (fun b1 => ?_)
 refine dO rfl rfl (fun b2 => ?_)
 refine zz0 (ab rfl) (aH (zz0 (zz3 (off := 0) (ft := 23) rfl ak rfl ae) ?_))
 refine zz0 (aJ rfl am) ?_
 refine zz0 (zz3 (off := 0) (ft := 23) rfl ak rfl ae) ?_
 refine zz0 (aJ rfl am) ?_
 refine zz0 (aA rfl Tryz.call84 (fun w hw => AA a.addr b.addr w)) ?_
 refine zz0 (ab rfl) (ad (aB ?_))
 refine aV Tryz.results83 rfl (fun w' hw => ?_)
 exact ⟨rfl, hw.b0⟩
theorem yy (l : List Ins) (V : Value) (w : World) (hV : Sl (hp w) aO l V) (hI : ∀ x ∈ l, InsOK x) (h40 : l.length ≤ 700) :
  Calls Tryz.prog 73 #[V] w (fun e w' => ∃ V', e = .returned V' ∧ Ext w w' ∧ ju w w' 36 aO (fK l) V') := by
 have hV' : Sl (Bg.of w).blk aO l V := hV
 refine enter Tryz.func73 rfl Tryz.ntmps73 rfl ?_
 refine af (zz0 (ab rfl) (aH ?_))
 refine gl df rfl (fun b1 => ?_)
 refine zz0 (ab rfl) (aH (zz0 (ab rfl) (ad (al (af (zz0 (aa rfl) (zz0 (gW rfl aM) ?_)))))))
 refine zz0 (aa rfl) (ad (aF (bZ 36 aO ?_)))
 refine bL (ι := Nat × Value) (fun ⟨k, V'⟩ => k ≤ l.length) (fun _ => _) (fun ⟨k, V'⟩ => [rowE V' 36 aO (s8 (l.take k)), mapE b1 df (yC (s8 (l.take k)))]) (fun ⟨k, V'⟩ => [(10, .int .i64 (k : Nat)), (4, V')]) (fun ⟨k, V'⟩ => l.length - k) (0, _) (Nat.zero_le _) (Front.c (Front.c Front.nil)) (by repeat' constructor) rfl (fun i hi m hm => ?_)
 obtain ⟨k, V'⟩ := i
 replace hi : k ≤ l.length := hi
 replace hm : m = l.length - k := hm
 change Tr _ _ [rowE V' 36 aO (s8 (l.take k)), mapE b1 df (yC (s8 (l.take k)))] ([(10, .int .i64 (k : Nat)), (4, V')] ++ _) _
 have hcl := Az (l.take k)
 rw [List.length_take] at hcl
 have hIk : k < l.length → InsOK (l.getD k default) := fun q => hI _ (cM q)
 refine af (zz0 (bU rfl rfl) (ad (al ?_)))
 refine ar rfl ?_ ?_ <;> intro h2 <;> try simp only [bs] at h2
 ·refine bF (al (aF (af (zz0 (je rfl rfl aM ax) ?_))))
  refine zz0 (o7 rfl aR ax) ?_
  refine dB bV rfl (fun b3 => ?_)
  refine az aO rfl rfl ax ?_
  refine aH (zz0 (aa rfl) (zz0 (zz3 (off := 0) (ft := 23) rfl ak rfl ae) ?_))
  refine zz0 (aJ rfl am) ?_
  refine zz0 (AS rfl rfl (by repeat constructor) er aP m9) ?_
  rw [Gu]
  refine zz0 (cQ rfl) (zz0 (aa rfl) ?_)
  apply cE
  ·exact (rfl : _ = (3, 19, 22))
  ·exact rfl
  ·intro hT4; have hT4' := hT4
   try simp only [bs] at hT4'
   refine zz5 hT4 (bH rfl aR ax) ?_
   refine zz5 hT4 (aA rfl kE (fun w hw => kB (l.getD k default) w (hIk (by omega)))) ?_
   refine zz0 (aS rfl hT4 rfl) ?_
   refine aD (ac ?_)
   exact aI (Sub.cons rfl (zz9 3 rfl))
  ·intro hF4
   refine zz8 hF4 (zz8 hF4 (zz0 (aT rfl hF4 rfl) ?_))
   refine aD (ac ?_)
   exact aI (Sub.cons rfl (zz9 3 rfl))
  refine ad ?_
  refine ar rfl ?_ ?_ <;> intro h5 <;> try simp only [bs] at h5
  ·refine af (zz0 (aa rfl) (zz0 (bH rfl aR ax) ?_))
   refine iQ (E := aO) _ rfl rfl aM ax bV (fun V6 => ?_)
   refine zz1 rfl rfl aM kK (fun V7 => ?_)
   refine zz0 (ab rfl) (ad (an (zz0 (aa rfl) (zz0 (zz3 (off := 0) (ft := 23) rfl ak rfl ae) ?_))))
   refine zz0 (aJ rfl am) ?_
   refine gp _ rfl rfl rfl (by repeat constructor) er aP rfl ?_
   refine aD (aX (ac (an (zz0 (cp rfl rfl) ?_))))
   refine zz0 (aa rfl) (ad ?_)
   have hst := Aw (l := l) (k := k) (by omega)
   rw [il, if_pos (by simp only [Bool.and_eq_true, Bool.not_eq_true', decide_eq_true_eq]; assumption)] at hst
   rw [Gt (by simp_all), ← hst]
   refine cH (k + 1, _) (Front.c (Front.c Front.nil)) (bC 23 rfl) (o := (by show k + 1 ≤ _; omega))
  ·refine cg (aX (ac (an (zz0 (cp rfl rfl) ?_))))
   refine zz0 (aa rfl) (ad ?_)
   have hst := Aw (l := l) (k := k) (by omega)
   rw [il, if_neg (by rw [Bool.and_eq_true, Bool.not_eq_true', decide_eq_true_eq]; rintro ⟨q1, q2⟩; rcases h5 with q | q; (· rw [q1] at q; cases q); (· exact q q2))] at hst
   rw [← hst]
   refine cH (k + 1, _) (Front.c (Front.c Front.nil)) (bC 15 rfl) (o := (by show k + 1 ≤ _; omega))
 ·refine bJ (aG (aG (bv (ac (al ?_)))))
  obtain rfl : k = l.length := by omega
  rw [List.take_length] at *
  refine an (zz0 (aa rfl) (eh rfl Tryz.call82 (by repeat constructor) (fun w hw => rq Tryz.sortIns aO 36 aR ax lO kW 143 [] _ _ w Tryz.call143 (hw.ent _ (.head _)) (by omega) (fun x y w' _ => wk x y w') (nD w 143 #[])) rfl ?_))
  refine aH (zz0 (aa rfl) (zz0 (ab rfl) (ad (aB ?_))))
  refine aV Tryz.results73 rfl (fun w' hw => ?_)
  exact ⟨_, rfl, hw.b0, hw.new (.head _)⟩
theorem zi (l : List Ins) (V : Value) (w : World) (hV : Sl (hp w) aO l V) (hI : ∀ x ∈ l, InsOK x) (h40 : l.length ≤ 700) :
  Calls Tryz.prog 74 #[V] w (fun e w' => ∃ b, e = .returned (.map (some b)) ∧ Ext w w' ∧ NewEnts w w' [mapE b df (rk l)]) := by
 have hV' : Sl (Bg.of w).blk aO l V := hV
 refine enter Tryz.func74 rfl Tryz.ntmps74 rfl ?_
 refine af (zz0 (ab rfl) (aH ?_))
 refine gl df rfl (fun b1 => ?_)
 refine zz0 (ab rfl) (ad (al (af (zz0 (aa rfl) (zz0 (gW rfl aM) ?_)))))
 refine zz0 (aa rfl) (ad (aF ?_))
 refine bL (ι := Nat) (fun k => k ≤ l.length) (fun _ => _) (fun k => [mapE b1 df (rk (l.take k))]) (fun k => [(11, .int .i64 (k : Nat))]) (fun k => l.length - k) 0 (Nat.zero_le _) (Front.c Front.nil) (by repeat' constructor) rfl (fun k hi m hm => ?_)
 replace hi : k ≤ l.length := hi
 replace hm : m = l.length - k := hm
 change Tr _ _ [mapE b1 df (rk (l.take k))] ([(11, .int .i64 (k : Nat))] ++ _) _
 refine af (zz0 (bU rfl rfl) (ad (al ?_)))
 refine ar rfl ?_ ?_ <;> intro h2 <;> try simp only [bs] at h2
 ·refine bF (al (aF (af (zz0 (je rfl rfl aM ax) ?_))))
  refine zz0 (o7 rfl aR ax) ?_
  refine dB bV rfl (fun b3 => ?_)
  refine az aO rfl rfl ax ?_
  refine aH (zz0 (bH rfl aR ax) ?_)
  refine zz0 (aA rfl Tryz.call144 (fun w hw => qP (l.getD k default) w)) ?_
  refine zz0 (aa rfl) (zz0 (aL rfl rfl) (zz0 (aL rfl rfl) (zz0 (ab rfl) (zz0 (ab rfl) (aH (zz0 (aa rfl) (ad ?_)))))))
  refine ar rfl ?_ ?_ <;> intro h4 <;> try simp only [bs] at h4
  ·refine an (zz0 (aa rfl) (zz0 (aa rfl) (gp _ rfl rfl rfl (by repeat constructor) er aP rfl ?_)))
   refine aD (aX (ac (an (zz0 (cp rfl rfl) ?_))))
   refine zz0 (aa rfl) (ad ?_)
   have hst := zf (l := l) (k := k) (by omega)
   rw [ul, if_pos (by assumption)] at hst
   rw [← hst]
   refine cH (k + 1) (Front.c Front.nil) (bC 17 rfl) (o := (by show k + 1 ≤ _; omega))
  ·refine cg (aX (ac (an (zz0 (cp rfl rfl) ?_))))
   refine zz0 (aa rfl) (ad ?_)
   have hst := zf (l := l) (k := k) (by omega)
   rw [ul, if_neg (by simp_all)] at hst
   rw [← hst]
   refine cH (k + 1) (Front.c Front.nil) (bC 15 rfl) (o := (by show k + 1 ≤ _; omega))
 ·refine bJ (aG (aG (bv (ac (af (zz0 (aa rfl) (zz0 (ab rfl) (ad (aB ?_)))))))))
  refine aV Tryz.results74 rfl (fun w' hw => ?_)
  obtain rfl : k = l.length := by omega
  rw [List.take_length] at hw
  exact ⟨_, rfl, hw.b0, hw.ents (w := w) (Bg.le.refl _) (by repeat' constructor)⟩
theorem rA (i : Ins) (ents : List UInt32) (tm : List (UInt32 × Bool)) (Vi Ve Vu Vb : Value) (bc bm bmap : Nat) (w : World) (hc : CellsIn (hp w) bc [Vi, Ve, Vu, Vb]) (hm : CellsIn (hp w) bm [.map (some bmap)]) (hM : MapIn (hp w) bmap df tm) (hE : Sl (hp w) ao ents Ve) :
  Calls Tryz.prog 75 #[.agg (aO.enc i).toArray, .pointer (some ⟨bc, 0, none⟩), .pointer (some ⟨bm, 0, none⟩)] w (fun e w' => e = .returned (.int .i64 (f8 ents tm i)) ∧ Ext w w') := by
 have hc' : CellsIn (Bg.of w).blk bc [Vi, Ve, Vu, Vb] := hc
 have hm' : CellsIn (Bg.of w).blk bm [.map (some bmap)] := hm
 have hM' : MapIn (Bg.of w).blk bmap df tm := hM
 have hE' : Sl (Bg.of w).blk ao ents Ve := hE
 refine enter Tryz.func75 rfl Tryz.ntmps75 rfl ?_
 refine af ?_
 refine dO rfl rfl (fun b1 => ?_)
 refine zz0 (ab rfl) (ad (al (aF (af (zz0 (zz3 (off := 1) (ft := 31) rfl cF rfl cP) ?_)))))
 refine zz0 (kV rfl dV) ?_
 refine zz0 (zz3 (off := 0) (ft := 23) rfl ak rfl ae) ?_
 refine zz0 (aJ rfl am) ?_
 refine zz0 (aA rfl Tryz.call76 (fun w hw => yz ents Ve i.addr w (hw.slF hE'))) ?_
 refine zz0 (ab rfl) (ad ?_)
 refine ar rfl ?_ ?_ <;> intro h2 <;> try simp only [bs] at h2
 ·refine af (zz0 (ab rfl) (ad (aB (bA (ay ?_)))))
  refine aV Tryz.results75 rfl (fun w' hw => ?_)
  exact ⟨by rw [f8, if_pos (by assumption)], hw.b0⟩
 ·refine af (zz0 (kV rfl f5) ?_)
  refine zz0 (zz3 (off := 0) (ft := 23) rfl ak rfl ae) ?_
  refine zz0 (aJ rfl am) ?_
  refine zz0 (Er rfl rfl (by assumption) er aP m9) ?_
  refine zz0 (ab rfl) (ad ?_)
  refine ar rfl ?_ ?_ <;> intro h3 <;> try simp only [bs] at h3
  ·refine af (zz0 (ab rfl) (ad (aB (bA (ay ?_)))))
   refine aV Tryz.results75 rfl (fun w' hw => ?_)
   exact ⟨by rw [f8, if_neg (by simp_all), if_pos (by assumption)], hw.b0⟩
  ·refine cg (aX (ac (af (zz0 (ab rfl) (ad (aB ?_))))))
   refine aV Tryz.results75 rfl (fun w' hw => ?_)
   exact ⟨by rw [f8, if_neg (by simp_all), if_neg (by simp_all)], hw.b0⟩
theorem xY (i j : Ins) (ents : List UInt32) (tm : List (UInt32 × Bool)) (Vi Ve Vu Vb : Value) (bc bm bmap : Nat) (bg : Nat) (w : World) (hc : CellsIn (hp w) bc [Vi, Ve, Vu, Vb]) (hm : CellsIn (hp w) bm [.map (some bmap)]) (hM : MapIn (hp w) bmap df tm) (hE : Sl (hp w) ao ents Ve) (hg : CellsIn (hp w) bg [.func (.func 75) #[] #[.pointer (some ⟨bc, 0, none⟩), .pointer (some ⟨bm, 0, none⟩)]]) :
  Calls Tryz.prog 79 #[.agg (aO.enc i).toArray, .agg (aO.enc j).toArray, .pointer (some ⟨bg, 0, none⟩)] w (fun e w' => e = .returned (.int .i64 (HY ents tm i j)) ∧ Ext w w') := by
 have hc' : CellsIn (Bg.of w).blk bc [Vi, Ve, Vu, Vb] := hc
 have hm' : CellsIn (Bg.of w).blk bm [.map (some bmap)] := hm
 have hM' : MapIn (Bg.of w).blk bmap df tm := hM
 have hE' : Sl (Bg.of w).blk ao ents Ve := hE
 have hg' : CellsIn (Bg.of w).blk bg [.func (.func 75) #[] #[.pointer (some ⟨bc, 0, none⟩), .pointer (some ⟨bm, 0, none⟩)]] := hg
 refine enter Tryz.func79 rfl Tryz.ntmps79 rfl ?_
 refine af ?_
 refine dO rfl rfl (fun b1 => ?_)
 refine dO rfl rfl (fun b2 => ?_)
 refine zz0 (ab rfl) (ad (al (io aQ ?_)))
 refine aw (kV rfl Tryz.isAgg153) ?_
 refine aw (bH rfl aR ax) ?_
 refine aw (iC rfl rfl Tryz.call75 (fun w hw => rA i ents tm Vi Ve Vu Vb bc bm bmap w (hc'.mono hw.bg) (hm'.mono hw.bg) (hM'.mono hw.bg) (hw.slF hE'))) ?_
 refine aw (kV rfl Tryz.isAgg153) ?_
 refine aw (bH rfl aR ax) ?_
 refine aw (iC rfl rfl Tryz.call75 (fun w hw => rA j ents tm Vi Ve Vu Vb bc bm bmap w (hc'.mono hw.bg) (hm'.mono hw.bg) (hM'.mono hw.bg) (hw.slF hE'))) ?_
 refine aw (aA rfl Tryz.call80 (fun w hw => Gv (f8 ents tm i) (f8 ents tm j) w)) ?_
 refine aw (ab rfl) (bK ?_)
 refine ac (aB ?_)
 refine aV Tryz.results79 rfl (fun w' hw => ?_)
 exact ⟨rfl, hw.b0⟩
theorem vX (i : Ins) (a : UInt32) (b : Nat) (w : World) (hc : Cell (hp w) b 0 (.int .u32 a.toNat)) :
  Calls Tryz.prog 87 #[.agg (aO.enc i).toArray, .pointer (some ⟨b, 0, none⟩)] w (fun e w' => e = .returned (.bool (decide (i.addr = a))) ∧ Ext w w') := by
 have hc' : Cell (Bg.of w).blk b 0 (.int .u32 a.toNat) := hc
 refine enter Tryz.func87 rfl Tryz.ntmps87 rfl ?_
 refine af ?_
 refine dO rfl rfl (fun b1 => ?_)
 refine zz0 (ab rfl) (aH (zz0 (zz3 (off := 0) (ft := 23) rfl ak rfl ae) ?_))
 refine zz0 (aJ rfl am) ?_
 refine zz0 (nV rfl (by assumption) am) ?_
 refine zz0 (eN rfl rfl) ?_
 refine zz0 (ab rfl) (ad (aB ?_))
 refine aV Tryz.results87 rfl (fun w' hw => ?_)
 exact ⟨rfl, hw.b0⟩
theorem oo (a : UInt32) (l : List Ins) (V : Value) (b : Nat) (w : World) (hc : CellsIn (hp w) b [V]) (hV : Sl (hp w) aO l V) :
  Calls Tryz.prog 85 #[.int .u32 a.toNat, .pointer (some ⟨b, 0, none⟩)] w (fun e w' => e = .returned (.bool (inK l a)) ∧ Ext w w') := by
 have hc' : CellsIn (Bg.of w).blk b [V] := hc
 have hV' : Sl (Bg.of w).blk aO l V := hV
 refine enter Tryz.func85 rfl Tryz.ntmps85 rfl ?_
 refine af ?_
 refine dO rfl rfl (fun b1 => ?_)
 refine zz0 (ab rfl) (aH (zz0 (kV rfl dR) ?_))
 refine zz0 (fy rfl rfl) ?_
 refine zz0 (aA rfl Tryz.call86 (fun w hw => nQ l V _ _ w (hw.slF hV') Tryz.call87 (fun i => decide (i.addr = a)) (fun x hx w'' h => vX x a _ w'' (cellE.cell (hw.ent _ (by repeat constructor)) h rfl)))) ?_
 refine zz0 (ab rfl) (ad (aB ?_))
 refine aV Tryz.results85 rfl (fun w' hw => ?_)
 exact ⟨rfl, hw.b0⟩
end Go.Proofs.YtiajjbhcpeadfaaGreat
namespace Go.Proofs.YtiajjbhcpeadfaaGreat
open Go Go.HL Go.RowKit
theorem FB (ents : List UInt32) (tm : List (UInt32 × Bool)) : dP (HY ents tm) = ltG (f8 ents tm) := by
 funext x y
 unfold dP HY ltG
 congr 1
 exact propext (HW _ _)
theorem zA (ins : List Ins) (ents unk bad : List UInt32) (Vi Ve Vu Vb : Value) (w : World) (hV : Sl (hp w) aO ins Vi) (hE : Sl (hp w) ao ents Ve) (hU : Sl (hp w) ao unk Vu) (hB : Sl (hp w) ao bad Vb) (hI : ∀ x ∈ ins, InsOK x) (hn1 : ins.length ≤ 700) (hn2 : ents.length ≤ 700) (hn3 : unk.length ≤ 700) (hn4 : bad.length ≤ 100000) :
  Calls Tryz.prog 29 #[.agg #[Vi, Ve, Vu, Vb]] w (fun e w' => ∃ i : Value × Value × Value × Value × Value, e = .returned (.tuple #[.agg #[i.1, i.2.1, i.2.2.1, i.2.2.2.1], i.2.2.2.2]) ∧ Ext w w' ∧ NewEnts w w' [rowE i.1 36 aO (gJ ins ents unk bad).kept, rowE i.2.1 23 ao (gJ ins ents unk bad).ents, rowE i.2.2.1 23 ao (gJ ins ents unk bad).unk, rowE i.2.2.2.1 23 ao (gJ ins ents unk bad).bad, rowE i.2.2.2.2 23 ao (gJ ins ents unk bad).rem]) := by
 have hV' : Sl (Bg.of w).blk aO ins Vi := hV
 have hE' : Sl (Bg.of w).blk ao ents Ve := hE
 have hU' : Sl (Bg.of w).blk ao unk Vu := hU
 have hB' : Sl (Bg.of w).blk ao bad Vb := hB
 obtain ⟨lc, hlc⟩ : ∃ lc, lc = fK ins := ⟨_, rfl⟩
 obtain ⟨tm, htm⟩ : ∃ tm, tm = rk lc := ⟨_, rfl⟩
 have hcl := vD ins
 rw [← hlc] at hcl
 have hcI : ∀ x ∈ lc, InsOK x := fun x hx => hI _ (vC (hlc ▸ hx))
 obtain ⟨w0, hw0⟩ : ∃ w0, w0 = w := ⟨_, rfl⟩
 subst hw0
 refine enter Tryz.func29 rfl Tryz.ntmps29 rfl ?_
 refine af ?_
 refine dO rfl rfl (fun b1 => ?_)
 refine dB eZ rfl (fun b2 => ?_)
 refine zz0 (ab rfl) (ad (sb (af (zz0 (zz3 (off := 0) (ft := 50) rfl cF rfl dz) ?_))))
 refine zz0 (aJ rfl dR) ?_
 refine fG rfl Tryz.call73 (fun w hw => (by rw [hlc]; exact yy ins Vi w (hw.slF hV') hI hn1 : Calls Tryz.prog 73 #[Vi] w (fun e w' => ∃ V', e = .returned V' ∧ Ext w w' ∧ ju w w' 36 aO (lc) V'))) rfl (fun V3 => ?_)
 refine zz0 (ab rfl) (ad (al ?_))
 skip
 refine an (zz0 (aa rfl) ?_)
 refine jt (fun b : Nat => .map (some b)) (fun b => [mapE b df tm]) (ok := fun _ => True) rfl Tryz.call74 (fun w hw => (zi lc _ w (hw.row (by repeat constructor)) hcI (by omega)).mono fun e w' ⟨b, q1, q2, q3⟩ => ⟨b, q1, q2, by rw [htm]; exact q3, trivial⟩) rfl (fun bmap _ => ?_)
 refine dB Tryz.zeroValue141 rfl (fun b4 => ?_)
 refine jE rfl rfl fX (by repeat constructor) (by rfl) (by rfl) (by first | exact List.all_eq_true.1 rfl | exact Enc.one _ _) rfl ?_
 refine aH (zz0 (fy rfl rfl) ?_)
 refine dB Tryz.zeroValue153 rfl (fun b5 => ?_)
 refine jE rfl rfl Tryz.sizeOf153 (by repeat constructor) (by rfl) (by rfl) (by first | exact List.all_eq_true.1 rfl | exact Enc.one _ _) rfl ?_
 refine aH (zz0 (aa rfl) ?_)
 refine fG rfl Tryz.call77 (fun w hw => xk lc _ w (hw.row (by repeat constructor)) (by omega)) rfl (fun V6 => ?_)
 refine zz0 (ab rfl) (aH (zz0 (aa rfl) (zz0 (fy rfl rfl) ?_)))
 refine g9 (fun c => c = ei (f8 ents tm) lc) rfl Tryz.call78 (fun w hw => (pC lc _ 79 [.pointer (some ⟨b5, 0, none⟩)] (HY ents tm) (fun w' => ∃ l', HpOK (Bg.of w0) (rowE V6 36 aO l' :: [cellE b5 [.func (.func 75) #[] #[.pointer (some ⟨b1, 0, none⟩), .pointer (some ⟨b4, 0, none⟩)]] 153, cellE b4 [.map (some bmap)] 141, mapE bmap df tm, rowE V3 36 aO lc, cellE b2 [.slice none 0 0, .slice none 0 0, .slice none 0 0, .slice none 0 0] 52, cellE b1 [Vi, Ve, Vu, Vb] 52]) w') (fun w w' l' ⟨l0, h⟩ m r => ⟨l', HpOK.mut h (.here _) m r⟩) Tryz.call79 (fun x y w' ⟨l0, h⟩ => xY x y ents tm Vi Ve Vu Vb b1 b4 bmap b5 w' (cellE.cellsIn (h.ent _ (by repeat constructor)) (Ext.refl _)) (cellE.cellsIn (h.ent _ (by repeat constructor)) (Ext.refl _)) (mapE.in_ (h.ent _ (by repeat constructor))) (h.slF hE') (cellE.cellsIn (h.ent _ (by repeat constructor)) (Ext.refl _))) (by rw [FB]; exact EA _) w ⟨lc, hw⟩ (hw.ent _ (.head _)) (by omega)).mono fun e w' ⟨q1, c, ⟨q2, q3, q4⟩, q5, q6⟩ => ⟨q1, c, by rw [FB] at q2 q4; exact IL (lZ ents tm) q2 (Srt.all (by rw [q2.len]; exact q4)), q5, q6⟩) rfl (fun c2 hc2 => ?_)
 refine ad (al ?_)
 subst hc2
 refine an ?_
 refine dB Tryz.zeroValue50 rfl (fun b7 => ?_)
 refine ad (al (sd ?_))
 refine ac (al (af (zz0 (aa rfl) (zz0 (ln rfl aM) ?_))))
 refine zz0 (aa rfl) (ad (aF (bZ 36 aO ?_)))
 refine bL (ι := Nat × Value) (fun ⟨k, Vk⟩ => k ≤ (ei (f8 ents tm) lc).length) (fun _ => _) (fun ⟨k, Vk⟩ => [cellE b7 [Vk] 50, rowE Vk 36 aO (lE ((ei (f8 ents tm) lc).take k)), rowE V6 36 aO (ei (f8 ents tm) lc), cellE b5 [.func (.func 75) #[] #[.pointer (some ⟨b1, 0, none⟩), .pointer (some ⟨b4, 0, none⟩)]] 153, cellE b4 [.map (some bmap)] 141, mapE bmap df tm, rowE V3 36 aO lc, cellE b2 [.slice none 0 0, .slice none 0 0, .slice none 0 0, .slice none 0 0] 52, cellE b1 [Vi, Ve, Vu, Vb] 52]) (fun ⟨k, Vk⟩ => [(35, .int .i64 (k : Nat))]) (fun ⟨k, Vk⟩ => (ei (f8 ents tm) lc).length - k) (0, _) (Nat.zero_le _) (Front.c Front.nil) (by repeat' constructor) rfl (fun i hi m hm => ?_)
 obtain ⟨k, Vk⟩ := i
 replace hi : k ≤ (ei (f8 ents tm) lc).length := hi
 replace hm : m = (ei (f8 ents tm) lc).length - k := hm
 change Tr _ _ [cellE b7 [Vk] 50, rowE Vk 36 aO (lE ((ei (f8 ents tm) lc).take k)), rowE V6 36 aO (ei (f8 ents tm) lc), cellE b5 [.func (.func 75) #[] #[.pointer (some ⟨b1, 0, none⟩), .pointer (some ⟨b4, 0, none⟩)]] 153, cellE b4 [.map (some bmap)] 141, mapE bmap df tm, rowE V3 36 aO lc, cellE b2 [.slice none 0 0, .slice none 0 0, .slice none 0 0, .slice none 0 0] 52, cellE b1 [Vi, Ve, Vu, Vb] 52] ([(35, .int .i64 (k : Nat))] ++ _) _
 have hol := yd (lZ ents tm) lc
 have hkl := sQ ((ei (f8 ents tm) lc).take k)
 rw [List.length_take] at hkl
 have hoI : ∀ x ∈ ei (f8 ents tm) lc, InsOK x := fun x hx => hcI x (Cy hx)
 obtain ⟨kq, hkq⟩ : ∃ kq, kq = lE ((ei (f8 ents tm) lc).take k) := ⟨_, rfl⟩
 have hqI : ∀ x ∈ kq, InsOK x := fun x hx => by
  rw [hkq] at hx
  exact hoI x (List.mem_of_mem_take (zT hx))
 rw [← hkq] at hkl ⊢
 refine af (zz0 (bU rfl rfl) (ad (al ?_)))
 refine ar rfl ?_ ?_ <;> intro h8 <;> try simp only [bs] at h8
 ·refine bF (al (aF (af (zz0 (zz7 rfl rfl aM ax) ?_))))
  refine zz0 (mY rfl aR ax) ?_
  refine dB bV rfl (fun b9 => ?_)
  refine az aO rfl rfl ax ?_
  refine ad (al (af (zz0 (aJ rfl dR) ?_)))
  refine zz0 (ln rfl aM) ?_
  refine zz0 (aa rfl) (ad (aF ?_))
  refine bL (ι := Nat) (fun j => j ≤ kq.length ∧ (kq.take j).any (jN ((ei (f8 ents tm) lc).getD k default)) = false) (fun _ => _) (fun j => [cellE b9 (aO.enc ((ei (f8 ents tm) lc).getD k default)) 36, cellE b7 [Vk] 50, rowE Vk 36 aO kq, rowE V6 36 aO (ei (f8 ents tm) lc), cellE b5 [.func (.func 75) #[] #[.pointer (some ⟨b1, 0, none⟩), .pointer (some ⟨b4, 0, none⟩)]] 153, cellE b4 [.map (some bmap)] 141, mapE bmap df tm, rowE V3 36 aO lc, cellE b2 [.slice none 0 0, .slice none 0 0, .slice none 0 0, .slice none 0 0] 52, cellE b1 [Vi, Ve, Vu, Vb] 52]) (fun j => [(41, .int .i64 (j : Nat))]) (fun j => kq.length - j) 0 ⟨Nat.zero_le _, rfl⟩ (Front.c Front.nil) (by repeat' constructor) rfl (fun j hi m hm => ?_)
  replace hi : j ≤ kq.length ∧ (kq.take j).any (jN ((ei (f8 ents tm) lc).getD k default)) = false := hi
  replace hm : m = kq.length - j := hm
  change Tr _ _ [cellE b9 (aO.enc ((ei (f8 ents tm) lc).getD k default)) 36, cellE b7 [Vk] 50, rowE Vk 36 aO kq, rowE V6 36 aO (ei (f8 ents tm) lc), cellE b5 [.func (.func 75) #[] #[.pointer (some ⟨b1, 0, none⟩), .pointer (some ⟨b4, 0, none⟩)]] 153, cellE b4 [.map (some bmap)] 141, mapE bmap df tm, rowE V3 36 aO lc, cellE b2 [.slice none 0 0, .slice none 0 0, .slice none 0 0, .slice none 0 0] 52, cellE b1 [Vi, Ve, Vu, Vb] 52] ([(41, .int .i64 (j : Nat))] ++ _) _
  obtain ⟨hj1, hj2⟩ := hi
  refine af (zz0 (bU rfl rfl) (ad (al ?_)))
  refine ar rfl ?_ ?_ <;> intro h10 <;> try simp only [bs] at h10
  ·refine bF (al (aF (af (zz0 (zz7 rfl rfl aM ax) ?_))))
   refine zz0 (mY rfl aR ax) ?_
   refine dB bV rfl (fun b11 => ?_)
   refine az aO rfl rfl ax ?_
   refine aH (zz0 (bH rfl aR ax) ?_)
   refine zz0 (bH rfl aR ax) ?_
   refine zz0 (aA rfl Tryz.call81 (fun w hw => yA ((ei (f8 ents tm) lc).getD k default) (kq.getD j default) w (hoI _ (cM (by omega))) (hqI _ (cM (by omega))))) ?_
   refine ad ?_
   refine ar rfl ?_ ?_ <;> intro h12 <;> try simp only [bs] at h12
   ·refine bJ (jF rfl ?_)
    refine aG (aG (jF rfl ?_))
    refine aG (bv (ac ?_))
    skip
    refine an (zz0 (cp rfl rfl) ?_)
    refine zz0 (aa rfl) (ad ?_)
    have hst := wW (l := ei (f8 ents tm) lc) (k := k) (by omega)
    rw [← hkq, gP, if_pos (List.any_eq_true.2 ⟨_, cM (k := j) (by omega), by assumption⟩)] at hst
    rw [← hst]
    refine cH (k + 1, _) (Front.c Front.nil) (bC 18 rfl) (o := (by show k + 1 ≤ _; omega))
   ·refine cg (aX (ac (an (zz0 (cp rfl rfl) ?_))))
    refine zz0 (aa rfl) (ad ?_)
    refine cH (j + 1) (Front.c Front.nil) (bC 10 rfl) (o := ⟨by omega, by rw [any_take_succ (by omega), hj2, Bool.false_or]; assumption⟩)
  ·refine bJ (aG (aG (bv (ac (an (zz0 (aJ rfl dR) ?_))))))
   refine zz0 (bH rfl aR ax) ?_
   refine iQ (E := aO) _ rfl rfl aM ax bV (fun V13 => ?_)
   refine zz1 rfl rfl aM kK (fun V14 => ?_)
   refine dA (.head _) (fun pz qz hpv => ?_)
   subst hpv
   refine jE rfl rfl dz (by repeat constructor) (by rfl) (by rfl) (by first | exact List.all_eq_true.1 rfl | exact Enc.one _ _) rfl ?_
   refine aD (aX (ac ?_))
   skip
   refine an (zz0 (cp rfl rfl) ?_)
   refine zz0 (aa rfl) (ad ?_)
   obtain rfl : j = kq.length := by omega
   rw [List.take_length] at hj2
   have hst := wW (l := ei (f8 ents tm) lc) (k := k) (by omega)
   rw [← hkq, gP, if_neg (by rw [hj2]; simp)] at hst
   rw [← hst]
   refine cH (k + 1, _) (Front.c Front.nil) (bC 16 rfl) (o := (by show k + 1 ≤ _; omega))
 ·refine bJ (aG (aG (bv (ac (al ?_)))))
  obtain rfl : k = (ei (f8 ents tm) lc).length := by omega
  rw [List.take_length] at *
  subst hkq
  have hkl := sQ (ei (f8 ents tm) lc)
  have hol := yd (lZ ents tm) lc
  refine an (zz0 (aJ rfl dR) ?_)
  refine eh rfl Tryz.call82 (by repeat constructor) (fun w hw => rq Tryz.sortIns aO 36 aR ax lO kW 83 [] (lE (ei (f8 ents tm) lc)) _ w Tryz.call83 (hw.ent _ (by repeat constructor)) (by omega) (fun x y w' _ => xX x y w') (nD w 83 #[])) rfl ?_
  refine ad (al ?_)
  obtain ⟨kp, hkp⟩ : ∃ kp, kp = mC (Go.Proofs.ltOf lO) (lE (ei (f8 ents tm) lc)) := ⟨_, rfl⟩
  rw [← hkp]
  refine an (zz0 (fy rfl rfl) ?_)
  refine zz0 (ab rfl) (aH (zz0 (ab rfl) (ad (al (af (zz0 (aa rfl) (zz0 (ln rfl aM) ?_)))))))
  refine zz0 (aa rfl) (ad (aF (bZ 23 ao ?_)))
  refine bL (ι := Nat × Value) (fun ⟨k, Vr⟩ => k ≤ lc.length) (fun _ => _) (fun ⟨k, Vr⟩ => [rowE Vr 23 ao (nG (lc.take k) kp), cellE b7 [Vk] 50, rowE Vk 36 aO kp, rowE V6 36 aO (ei (f8 ents tm) lc), cellE b5 [.func (.func 75) #[] #[.pointer (some ⟨b1, 0, none⟩), .pointer (some ⟨b4, 0, none⟩)]] 153, cellE b4 [.map (some bmap)] 141, mapE bmap df tm, rowE V3 36 aO lc, cellE b2 [.slice none 0 0, .slice none 0 0, .slice none 0 0, .slice none 0 0] 52, cellE b1 [Vi, Ve, Vu, Vb] 52]) (fun ⟨k, Vr⟩ => [(59, .int .i64 (k : Nat)), (14, Vr)]) (fun ⟨k, Vr⟩ => lc.length - k) (0, _) (Nat.zero_le _) (Front.c (Front.c Front.nil)) (by repeat' constructor) rfl (fun i hi m hm => ?_)
  obtain ⟨k, Vr⟩ := i
  replace hi : k ≤ lc.length := hi
  replace hm : m = lc.length - k := hm
  change Tr _ _ [rowE Vr 23 ao (nG (lc.take k) kp), cellE b7 [Vk] 50, rowE Vk 36 aO kp, rowE V6 36 aO (ei (f8 ents tm) lc), cellE b5 [.func (.func 75) #[] #[.pointer (some ⟨b1, 0, none⟩), .pointer (some ⟨b4, 0, none⟩)]] 153, cellE b4 [.map (some bmap)] 141, mapE bmap df tm, rowE V3 36 aO lc, cellE b2 [.slice none 0 0, .slice none 0 0, .slice none 0 0, .slice none 0 0] 52, cellE b1 [Vi, Ve, Vu, Vb] 52] ([(59, .int .i64 (k : Nat)), (14, Vr)] ++ _) _
  have hrl := Hn (lc.take k) kp
  rw [List.length_take] at hrl
  refine af (zz0 (bU rfl rfl) (ad (al ?_)))
  refine ar rfl ?_ ?_ <;> intro h15 <;> try simp only [bs] at h15
  ·refine bF (al (aF (af (zz0 (zz7 rfl rfl aM ax) ?_))))
   refine zz0 (mY rfl aR ax) ?_
   refine dB bV rfl (fun b16 => ?_)
   refine az aO rfl rfl ax ?_
   refine aH (zz0 (aa rfl) (zz0 (zz3 (off := 0) (ft := 23) rfl ak rfl ae) ?_))
   refine zz0 (aJ rfl am) ?_
   refine zz0 (iC rfl rfl Tryz.call85 (fun w hw => oo (lc.getD k default).addr kp Vk b7 w (cellE.cellsIn (hw.ent _ (by repeat constructor)) (Ext.refl _)) (hw.row (by repeat constructor)))) ?_
   refine zz0 (cQ rfl) (ad ?_)
   refine ar rfl ?_ ?_ <;> intro h17 <;> try simp only [bs] at h17
   ·refine an (zz0 (aa rfl) (zz0 (zz3 (off := 0) (ft := 23) rfl ak rfl ae) ?_))
    refine zz0 (aJ rfl am) ?_
    refine iQ (E := ao) _ rfl rfl ah ae c9 (fun V18 => ?_)
    refine zz1 rfl rfl ah fb (fun V19 => ?_)
    refine zz0 (ab rfl) (aD (aX (ac (an (zz0 (cp rfl rfl) ?_)))))
    refine zz0 (aa rfl) (ad ?_)
    rw [← Hm (by omega) (by simp_all)]
    refine cH (k + 1, _) (Front.c (Front.c Front.nil)) (bC 19 rfl) (o := (by show k + 1 ≤ _; omega))
   ·refine cg (aX (ac (an (zz0 (cp rfl rfl) ?_))))
    refine zz0 (aa rfl) (ad ?_)
    rw [← IH (by omega) (by simp_all)]
    refine cH (k + 1, _) (Front.c (Front.c Front.nil)) (bC 13 rfl) (o := (by show k + 1 ≤ _; omega))
  ·refine bJ (aG (aG (bv (ac ?_))))
   obtain rfl : k = lc.length := by omega
   rw [List.take_length] at *
   refine gZ (V := Vk) (fun pa1 pc1 hpv => ?_)
   subst hpv
   refine di (ι := Nat × Option Addr × Nat) (fun ⟨b17, pb, cb⟩ => True) (fun _ => Bg.of w0) (fun ⟨b17, pb, cb⟩ => [cellE b17 [(.slice pa1 kp.length pc1), .slice none 0 0, .slice none 0 0, (.slice pb bad.length cb)] 52, rowE (.slice pb bad.length cb) 23 ao bad, rowE Vr 23 ao (nG lc kp), cellE b7 [(.slice pa1 kp.length pc1)] 50, rowE (.slice pa1 kp.length pc1) 36 aO kp, rowE V6 36 aO (ei (f8 ents tm) lc), cellE b5 [.func (.func 75) #[] #[.pointer (some ⟨b1, 0, none⟩), .pointer (some ⟨b4, 0, none⟩)]] 153, cellE b4 [.map (some bmap)] 141, mapE bmap df tm, rowE V3 36 aO lc, cellE b2 [.slice none 0 0, .slice none 0 0, .slice none 0 0, .slice none 0 0] 52, cellE b1 [Vi, Ve, Vu, Vb] 52]) (fun ⟨b17, pb, cb⟩ => [(17, .pointer (some ⟨b17, 0, none⟩))]) ?_ (fun i hi => ?_)
   ·skip
    skip
    refine dW ([rowE Vr 23 ao (nG lc kp), cellE b7 [(.slice pa1 kp.length pc1)] 50, rowE (.slice pa1 kp.length pc1) 36 aO kp, rowE V6 36 aO (ei (f8 ents tm) lc), cellE b5 [.func (.func 75) #[] #[.pointer (some ⟨b1, 0, none⟩), .pointer (some ⟨b4, 0, none⟩)]] 153, cellE b4 [.map (some bmap)] 141, mapE bmap df tm, rowE V3 36 aO lc, cellE b2 [.slice none 0 0, .slice none 0 0, .slice none 0 0, .slice none 0 0] 52, cellE b1 [Vi, Ve, Vu, Vb] 52]) 7 rfl aQ ?_
    refine zz4 0 rfl (aJ rfl dR) ?_
    refine zz4 1 rfl (zz3 (off := 3) (ft := 31) rfl cF rfl cP) ?_
    refine zz4 2 rfl (aJ rfl dV) ?_
    refine cY [3, 5] (fun iq hq => ?_)
    rcases List.mem_cons.1 hq with rfl | hq
    ·skip
     refine bj rfl ?_
     refine fG rfl Tryz.call57 (fun w hw => s9 bad Vb w (hw.slF hB') (by omega)) rfl (fun V20 => ?_)
     refine dA (.head _) (fun pb cb hpv => ?_)
     subst hpv
     refine bN ?_
     refine zz4 4 rfl (bG (vs := [(0, _), (3, _)]) rfl rfl rfl) ?_
     refine cY [5] (fun iq hq => ?_)
     obtain rfl := List.mem_singleton.1 hq
     refine bj rfl ?_
     refine dB eZ rfl (fun b21 => ?_)
     refine bN ?_
     refine cY [6] (fun iq hq => ?_)
     obtain rfl := List.mem_singleton.1 hq
     refine bj rfl ?_
     refine zz6 rfl rfl cO ?_
     refine bN ?_
     refine ij ?_
     refine ac ?_
     refine cw (_, _, _) (Front.c Front.nil) (bC 6 rfl) (o := trivial)
    obtain rfl := List.mem_singleton.1 hq
    refine bj rfl ?_
    refine dB eZ rfl (fun b22 => ?_)
    refine bN ?_
    refine cY [3] (fun iq hq => ?_)
    obtain rfl := List.mem_singleton.1 hq
    refine bj rfl ?_
    refine fG rfl Tryz.call57 (fun w hw => s9 bad Vb w (hw.slF hB') (by omega)) rfl (fun V23 => ?_)
    refine dA (.head _) (fun pb cb hpv => ?_)
    subst hpv
    refine bN ?_
    refine zz4 4 rfl (bG (vs := [(0, _), (3, _)]) rfl rfl rfl) ?_
    refine cY [6] (fun iq hq => ?_)
    obtain rfl := List.mem_singleton.1 hq
    refine bj rfl ?_
    refine zz6 rfl rfl cO ?_
    refine bN ?_
    refine ij ?_
    refine ac ?_
    refine cw (_, _, _) (Front.c Front.nil) (bC 6 rfl) (o := trivial)
   ·obtain ⟨b17, pb, cb⟩ := i
    replace hi : True := hi
    change Tr _ _ [cellE b17 [(.slice pa1 kp.length pc1), .slice none 0 0, .slice none 0 0, (.slice pb bad.length cb)] 52, rowE (.slice pb bad.length cb) 23 ao bad, rowE Vr 23 ao (nG lc kp), cellE b7 [(.slice pa1 kp.length pc1)] 50, rowE (.slice pa1 kp.length pc1) 36 aO kp, rowE V6 36 aO (ei (f8 ents tm) lc), cellE b5 [.func (.func 75) #[] #[.pointer (some ⟨b1, 0, none⟩), .pointer (some ⟨b4, 0, none⟩)]] 153, cellE b4 [.map (some bmap)] 141, mapE bmap df tm, rowE V3 36 aO lc, cellE b2 [.slice none 0 0, .slice none 0 0, .slice none 0 0, .slice none 0 0] 52, cellE b1 [Vi, Ve, Vu, Vb] 52] ([(17, .pointer (some ⟨b17, 0, none⟩))] ++ _) _
    refine al (al ?_)
    skip
    refine an (zz0 (zz3 (off := 1) (ft := 31) rfl cF rfl cP) ?_)
    refine zz0 (aJ rfl dV) ?_
    refine zz0 (gW rfl ah) ?_
    refine zz0 (aa rfl) (ad (aF (bZ 23 ao ?_)))
    refine bL (ι := Nat × Value) (fun ⟨k, Ve2⟩ => k ≤ ents.length) (fun _ => _) (fun ⟨k, Ve2⟩ => [cellE b17 [(.slice pa1 kp.length pc1), Ve2, .slice none 0 0, (.slice pb bad.length cb)] 52, rowE Ve2 23 ao ((ents.take k).filter (inK kp)), rowE (.slice pb bad.length cb) 23 ao bad, rowE Vr 23 ao (nG lc kp), cellE b7 [(.slice pa1 kp.length pc1)] 50, rowE (.slice pa1 kp.length pc1) 36 aO kp, rowE V6 36 aO (ei (f8 ents tm) lc), cellE b5 [.func (.func 75) #[] #[.pointer (some ⟨b1, 0, none⟩), .pointer (some ⟨b4, 0, none⟩)]] 153, cellE b4 [.map (some bmap)] 141, mapE bmap df tm, rowE V3 36 aO lc, cellE b2 [.slice none 0 0, .slice none 0 0, .slice none 0 0, .slice none 0 0] 52, cellE b1 [Vi, Ve, Vu, Vb] 52]) (fun ⟨k, Ve2⟩ => [(82, .int .i64 (k : Nat))]) (fun ⟨k, Ve2⟩ => ents.length - k) (0, _) (Nat.zero_le _) (Front.c Front.nil) (by repeat' constructor) rfl (fun i hi m hm => ?_)
    obtain ⟨k, Ve2⟩ := i
    replace hi : k ≤ ents.length := hi
    replace hm : m = ents.length - k := hm
    change Tr _ _ [cellE b17 [(.slice pa1 kp.length pc1), Ve2, .slice none 0 0, (.slice pb bad.length cb)] 52, rowE Ve2 23 ao ((ents.take k).filter (inK kp)), rowE (.slice pb bad.length cb) 23 ao bad, rowE Vr 23 ao (nG lc kp), cellE b7 [(.slice pa1 kp.length pc1)] 50, rowE (.slice pa1 kp.length pc1) 36 aO kp, rowE V6 36 aO (ei (f8 ents tm) lc), cellE b5 [.func (.func 75) #[] #[.pointer (some ⟨b1, 0, none⟩), .pointer (some ⟨b4, 0, none⟩)]] 153, cellE b4 [.map (some bmap)] 141, mapE bmap df tm, rowE V3 36 aO lc, cellE b2 [.slice none 0 0, .slice none 0 0, .slice none 0 0, .slice none 0 0] 52, cellE b1 [Vi, Ve, Vu, Vb] 52] ([(82, .int .i64 (k : Nat))] ++ _) _
    have hfl := List.length_filter_le (inK kp) (ents.take k)
    rw [List.length_take] at hfl
    refine af (zz0 (bU rfl rfl) (ad (al ?_)))
    refine ar rfl ?_ ?_ <;> intro h24 <;> try simp only [bs] at h24
    ·refine bF (al (aF (af (zz0 (je rfl rfl ah ae) ?_))))
     refine zz0 (j2 rfl am) ?_
     refine zz0 (ab rfl) (aH (zz0 (aa rfl) (zz0 (aa rfl) (zz0 (iC rfl rfl Tryz.call85 (fun w hw => oo (ents.getD k default) kp _ b7 w (cellE.cellsIn (hw.ent _ (by repeat constructor)) (Ext.refl _)) (hw.row (by repeat constructor)))) ?_))))
     refine ad ?_
     refine ar rfl ?_ ?_ <;> intro h25 <;> try simp only [bs] at h25
     ·refine an (zz0 (zz3 (off := 1) (ft := 31) rfl cF rfl cP) ?_)
      refine zz0 (aJ rfl dV) ?_
      refine zz0 (aa rfl) ?_
      refine iQ (E := ao) _ rfl rfl ah ae c9 (fun V26 => ?_)
      refine zz1 rfl rfl ah fb (fun V27 => ?_)
      refine dA (.head _) (fun pz qz hpv => ?_)
      subst hpv
      refine zz0 (zz3 (off := 1) (ft := 31) rfl cF rfl cP) ?_
      refine zz2 (cs' := [_, _, _, _]) rfl rfl cP rfl ?_
      refine aD (aX (ac (an (zz0 (cp rfl rfl) ?_))))
      refine zz0 (aa rfl) (ad ?_)
      rw [← lu (by omega) (by assumption)]
      refine cH (k + 1, _) (Front.c Front.nil) (bC 16 rfl) (o := (by show k + 1 ≤ _; omega))
     ·refine cg (aX (ac (an (zz0 (cp rfl rfl) ?_))))
      refine zz0 (aa rfl) (ad ?_)
      rw [← lw (p := inK kp) (by omega) (by assumption)]
      refine cH (k + 1, _) (Front.c Front.nil) (bC 10 rfl) (o := (by show k + 1 ≤ _; omega))
    ·refine bJ (aG (aG (bv (ac (al (al ?_))))))
     obtain rfl : k = ents.length := by omega
     rw [List.take_length] at *
     refine gZ (V := Ve2) (fun pa3 pc3 hpv => ?_)
     subst hpv
     refine an (zz0 (zz3 (off := 2) (ft := 31) rfl cF rfl cP) ?_)
     refine zz0 (aJ rfl dV) ?_
     refine zz0 (gW rfl ah) ?_
     refine zz0 (aa rfl) (ad (aF (bZ 23 ao ?_)))
     refine bL (ι := Nat × Value) (fun ⟨k, Vu2⟩ => k ≤ unk.length) (fun _ => _) (fun ⟨k, Vu2⟩ => [cellE b17 [(.slice pa1 kp.length pc1), (.slice pa3 (ents.filter (inK kp)).length pc3), Vu2, (.slice pb bad.length cb)] 52, rowE Vu2 23 ao ((unk.take k).filter (inK kp)), rowE (.slice pa3 (ents.filter (inK kp)).length pc3) 23 ao (ents.filter (inK kp)), rowE (.slice pb bad.length cb) 23 ao bad, rowE Vr 23 ao (nG lc kp), cellE b7 [(.slice pa1 kp.length pc1)] 50, rowE (.slice pa1 kp.length pc1) 36 aO kp, rowE V6 36 aO (ei (f8 ents tm) lc), cellE b5 [.func (.func 75) #[] #[.pointer (some ⟨b1, 0, none⟩), .pointer (some ⟨b4, 0, none⟩)]] 153, cellE b4 [.map (some bmap)] 141, mapE bmap df tm, rowE V3 36 aO lc, cellE b2 [.slice none 0 0, .slice none 0 0, .slice none 0 0, .slice none 0 0] 52, cellE b1 [Vi, Ve, Vu, Vb] 52]) (fun ⟨k, Vu2⟩ => [(99, .int .i64 (k : Nat))]) (fun ⟨k, Vu2⟩ => unk.length - k) (0, _) (Nat.zero_le _) (Front.c Front.nil) (by repeat' constructor) rfl (fun i hi m hm => ?_)
     obtain ⟨k, Vu2⟩ := i
     replace hi : k ≤ unk.length := hi
     replace hm : m = unk.length - k := hm
     change Tr _ _ [cellE b17 [(.slice pa1 kp.length pc1), (.slice pa3 (ents.filter (inK kp)).length pc3), Vu2, (.slice pb bad.length cb)] 52, rowE Vu2 23 ao ((unk.take k).filter (inK kp)), rowE (.slice pa3 (ents.filter (inK kp)).length pc3) 23 ao (ents.filter (inK kp)), rowE (.slice pb bad.length cb) 23 ao bad, rowE Vr 23 ao (nG lc kp), cellE b7 [(.slice pa1 kp.length pc1)] 50, rowE (.slice pa1 kp.length pc1) 36 aO kp, rowE V6 36 aO (ei (f8 ents tm) lc), cellE b5 [.func (.func 75) #[] #[.pointer (some ⟨b1, 0, none⟩), .pointer (some ⟨b4, 0, none⟩)]] 153, cellE b4 [.map (some bmap)] 141, mapE bmap df tm, rowE V3 36 aO lc, cellE b2 [.slice none 0 0, .slice none 0 0, .slice none 0 0, .slice none 0 0] 52, cellE b1 [Vi, Ve, Vu, Vb] 52] ([(99, .int .i64 (k : Nat))] ++ _) _
     have hfl := List.length_filter_le (inK kp) (unk.take k)
     rw [List.length_take] at hfl
     refine af (zz0 (bU rfl rfl) (ad (al ?_)))
     refine ar rfl ?_ ?_ <;> intro h28 <;> try simp only [bs] at h28
     ·refine bF (al (aF (af (zz0 (je rfl rfl ah ae) ?_))))
      refine zz0 (j2 rfl am) ?_
      refine zz0 (ab rfl) (aH (zz0 (aa rfl) (zz0 (aa rfl) (zz0 (iC rfl rfl Tryz.call85 (fun w hw => oo (unk.getD k default) kp _ b7 w (cellE.cellsIn (hw.ent _ (by repeat constructor)) (Ext.refl _)) (hw.row (by repeat constructor)))) ?_))))
      refine ad ?_
      refine ar rfl ?_ ?_ <;> intro h29 <;> try simp only [bs] at h29
      ·refine an (zz0 (zz3 (off := 2) (ft := 31) rfl cF rfl cP) ?_)
       refine zz0 (aJ rfl dV) ?_
       refine zz0 (aa rfl) ?_
       refine iQ (E := ao) _ rfl rfl ah ae c9 (fun V30 => ?_)
       refine zz1 rfl rfl ah fb (fun V31 => ?_)
       refine dA (.head _) (fun pz qz hpv => ?_)
       subst hpv
       refine zz0 (zz3 (off := 2) (ft := 31) rfl cF rfl cP) ?_
       refine zz2 (cs' := [_, _, _, _]) rfl rfl cP rfl ?_
       refine aD (aX (ac (an (zz0 (cp rfl rfl) ?_))))
       refine zz0 (aa rfl) (ad ?_)
       rw [← lu (by omega) (by assumption)]
       refine cH (k + 1, _) (Front.c Front.nil) (bC 16 rfl) (o := (by show k + 1 ≤ _; omega))
      ·refine cg (aX (ac (an (zz0 (cp rfl rfl) ?_))))
       refine zz0 (aa rfl) (ad ?_)
       rw [← lw (p := inK kp) (by omega) (by assumption)]
       refine cH (k + 1, _) (Front.c Front.nil) (bC 10 rfl) (o := (by show k + 1 ≤ _; omega))
     ·refine bJ (aG (aG (bv (ac (al ?_)))))
      obtain rfl : k = unk.length := by omega
      rw [List.take_length] at *
      refine gZ (V := Vu2) (fun pa4 pc4 hpv => ?_)
      subst hpv
      refine an (zz0 (bH rfl gk cO) ?_)
      refine zz0 (aa rfl) (zz6 rfl rfl cO ?_)
      refine zz0 (ab rfl) (ad (aB (fU ?_)))
      refine kf Tryz.results29 rfl rfl gk cO (fun w' hw => ?_)
      subst hkp htm hlc
      exact ⟨(_, _, _, _, _), rfl, hw.b0, hw.ents (w := w0) (Bg.le.refl _) (by repeat' constructor)⟩
end Go.Proofs.YtiajjbhcpeadfaaGreat
namespace Go.Proofs.YtiajjbhcpeadfaaGreat
open Go Go.HL Go.RowKit
theorem yp (i : Ins) (w : World) :
  Calls Tryz.prog 137 #[.agg (aO.enc i).toArray] w (fun e w' => e = .returned (.bool (vq i.op)) ∧ Ext w w') := by
 refine enter Tryz.func137 rfl Tryz.ntmps137 rfl ?_
 refine af ?_
 refine dO rfl rfl (fun b1 => ?_)
 refine zz0 (ab rfl) (aH (zz0 (zz3 (off := 2) (ft := 3) rfl ak rfl aC) ?_))
 refine zz0 (aJ rfl aN) ?_
 refine zz0 (bB rfl rfl) (zz0 (aa rfl) ?_)
 apply dH
 ·exact (rfl : _ = (4, 6, 10))
 ·exact rfl
 ·intro hF2; have hF2' := hF2
  try simp only [bs] at hF2'
  refine zz5 hF2 (zz3 (off := 2) (ft := 3) rfl ak rfl aC) ?_
  refine zz5 hF2 (aJ rfl aN) ?_
  refine zz5 hF2 (bB rfl rfl) (zz0 (aT rfl hF2 rfl) ?_)
  refine aD (ac ?_)
  exact aI (Sub.cons rfl (zz9 4 rfl))
 ·intro hT2
  refine zz8 hT2 (zz8 hT2 (zz8 hT2 (zz0 (aS rfl hT2 rfl) ?_)))
  refine aD (ac ?_)
  exact aI (Sub.cons rfl (zz9 4 rfl))
 refine zz0 (aa rfl) ?_
 apply dH
 ·exact (rfl : _ = (4, 11, 15))
 ·exact rfl
 ·intro hF3; have hF3' := hF3
  try simp only [bs] at hF3'
  refine zz5 hF3 (zz3 (off := 2) (ft := 3) rfl ak rfl aC) ?_
  refine zz5 hF3 (aJ rfl aN) ?_
  refine zz5 hF3 (bB rfl rfl) (zz0 (aT rfl hF3 rfl) ?_)
  refine aD (ac ?_)
  exact aI (Sub.cons rfl (zz9 4 rfl))
 ·intro hT3
  refine zz8 hT3 (zz8 hT3 (zz8 hT3 (zz0 (aS rfl hT3 rfl) ?_)))
  refine aD (ac ?_)
  exact aI (Sub.cons rfl (zz9 4 rfl))
 refine zz0 (ab rfl) (ad (aB ?_))
 refine aV Tryz.results137 rfl (fun w' hw => ?_)
 exact ⟨by unfold vq; congr 2; rw [Bool.eq_iff_iff]; simp [or_assoc], hw.b0⟩
theorem EQ (i : Ins) (w : World) (hI : InsOK i) :
  Calls Tryz.prog 136 #[.agg (aO.enc i).toArray] w (fun e w' => ∃ V', e = .returned V' ∧ Ext w w' ∧ ju w w' 23 ao (dX i) V') := by
 refine enter Tryz.func136 rfl Tryz.ntmps136 rfl ?_
 refine af ?_
 refine dO rfl rfl (fun b1 => ?_)
 refine zz0 (ab rfl) (ad (al (af (zz0 (bH rfl aR ax) ?_))))
 refine zz0 (aA rfl kE (fun w hw => kB i w hI)) ?_
 refine zz0 (cQ rfl) (ad ?_)
 refine ar rfl ?_ ?_ <;> intro h2 <;> try simp only [bs] at h2
 ·refine al (bZ 23 ao ?_)
  refine an (zz0 (ab rfl) (ad (aB (ay ?_))))
  refine aV Tryz.results136 rfl (fun w' hw => ?_)
  exact ⟨_, rfl, hw.b0, by rw [show dX i = [] by unfold dX; rw [if_neg (by simp_all)]]; exact hw.new (.head _)⟩
 ·refine bF (al (bZ 23 ao ?_))
  refine an (zz0 (ab rfl) (ad ?_))
  refine di (ι := Value) (fun V1 => True) (fun _ => Bg.of w) (fun V1 => [rowE V1 23 ao (if (dj i).2 = true then [(dj i).1] else []), cellE b1 (aO.enc i) 36]) (fun V1 => [(3, V1)]) ?_ (fun V1 hi => ?_)
  ·skip
   refine af (zz0 (bH rfl aR ax) ?_)
   refine zz0 (aA rfl Tryz.call144 (fun w hw => qP i w)) ?_
   refine zz0 (aa rfl) (zz0 (aL rfl rfl) (zz0 (aL rfl rfl) (zz0 (ab rfl) (zz0 (ab rfl) (aH (zz0 (aa rfl) (ad ?_)))))))
   refine ar rfl ?_ ?_ <;> intro h3 <;> try simp only [bs] at h3
   ·refine an (zz0 (aa rfl) (zz0 (aa rfl) ?_))
    refine iQ (E := ao) (dj i).1 rfl rfl ah ae c9 (fun V4 => ?_)
    refine zz1 rfl rfl ah fb (fun V5 => ?_)
    refine zz0 (ab rfl) (ad (f7 (l' := if (dj i).2 = true then [(dj i).1] else []) (by rw [if_pos (by assumption)]; rfl) ?_))
    refine cw _ (Front.c Front.nil) (bC 13 rfl) (o := trivial)
   ·refine bF (f7 (l' := if (dj i).2 = true then [(dj i).1] else []) (by rw [if_neg (by simp_all)]) ?_)
    refine cw _ (Front.c Front.nil) (bC 8 rfl) (o := trivial)
  ·skip
   replace hi : True := hi
   change Tr _ _ [rowE V1 23 ao (if (dj i).2 = true then [(dj i).1] else []), cellE b1 (aO.enc i) 36] ([(3, V1)] ++ _) _
   have htl : (if (dj i).2 = true then [(dj i).1] else []).length ≤ 1 := by split <;> simp
   refine di (ι := Value) (fun V2 => True) (fun _ => Bg.of w) (fun V2 => [rowE V2 23 ao ((if (dj i).2 = true then [(dj i).1] else []) ++ (if lF i = true then [] else [o6 i])), cellE b1 (aO.enc i) 36]) (fun V2 => [(3, V2)]) ?_ (fun V2 hi => ?_)
   ·skip
    refine af (zz0 (bH rfl aR ax) ?_)
    refine zz0 (aA rfl Tryz.call195 (fun w hw => An i w)) ?_
    refine zz0 (cQ rfl) (ad ?_)
    refine ar rfl ?_ ?_ <;> intro h6 <;> try simp only [bs] at h6
    ·refine an (zz0 (aa rfl) (zz0 (bH rfl aR ax) ?_))
     refine zz0 (aA rfl Tryz.call60 (fun w hw => zJ i w hI)) ?_
     refine iQ (E := ao) (o6 i) rfl rfl ah ae c9 (fun V7 => ?_)
     refine zz1 rfl rfl ah fb (fun V8 => ?_)
     refine zz0 (ab rfl) (ad (f7 (l' := (if (dj i).2 = true then [(dj i).1] else []) ++ (if lF i = true then [] else [o6 i])) (by rw [if_neg (c := lF i = true) (by simp_all)]) ?_))
     refine cw _ (Front.c Front.nil) (bC 9 rfl) (o := trivial)
    ·refine bF (f7 (l' := (if (dj i).2 = true then [(dj i).1] else []) ++ (if lF i = true then [] else [o6 i])) (by rw [if_pos (c := lF i = true) (by simp_all), List.append_nil]) ?_)
     refine cw _ (Front.c Front.nil) (bC 3 rfl) (o := trivial)
   ·skip
    replace hi : True := hi
    change Tr _ _ [rowE V2 23 ao ((if (dj i).2 = true then [(dj i).1] else []) ++ (if lF i = true then [] else [o6 i])), cellE b1 (aO.enc i) 36] ([(3, V2)] ++ _) _
    refine af (zz0 (aa rfl) (zz0 (ab rfl) (ad (aB ?_))))
    refine aV Tryz.results136 rfl (fun w' hw => ?_)
    exact ⟨_, rfl, hw.b0, by rw [show dX i = _ by unfold dX; rw [if_pos (by simp_all)]]; exact hw.new (.head _)⟩
theorem HU (l : List SecV) (V : Value) (a : UInt32) (w : World) (hV : Sl (hp w) dx l V) (hB : SecB l) (hD : DataIn (hp w) l) :
  Calls Tryz.prog 68 #[V, .int .u32 a.toNat] w (fun e w' => e = .returned (.tuple #[.agg (aO.enc (atP l a).1).toArray, .bool (atP l a).2]) ∧ Ext w w') := by
 have hV' : Sl (Bg.of w).blk dx l V := hV
 have hlen := hB.1
 have hf := gQ (l := l) (a := a)
 have ha := a.toNat_lt
 refine enter Tryz.func68 rfl Tryz.ntmps68 rfl ?_
 refine af ?_
 refine dB bV rfl (fun b1 => ?_)
 refine zz0 (ab rfl) (aH (zz0 (aa rfl) (zz0 (aa rfl) (zz0 (aA rfl oR (fun w hw => rV l V a w (hw.slF hV') hB)) ?_))))
 refine zz0 (ab rfl) (ad (al (af (zz0 (aa rfl) (zz0 (bU rfl rfl) (zz0 (aa rfl) ?_))))))
 apply dH
 ·exact (rfl : _ = (7, 15, 22))
 ·exact rfl
 ·intro hF2; have hF2' := hF2
  try simp only [bs] at hF2'
  refine zz5 hF2 (aa rfl) (zz5 hF2 (aa rfl) (zz5 hF2 (o8 rfl rfl cG de) ?_))
  refine zz5 hF2 (zz3 (off := 4) (ft := 4) rfl cT rfl bT) ?_
  refine zz5 hF2 (qe rfl (by assumption) cB (by omega) (by rfl)) ?_
  refine zz5 hF2 (cQ rfl) (zz0 (aT rfl hF2 rfl) ?_)
  refine aD (ac ?_)
  exact aI (Sub.cons rfl (zz9 7 rfl))
 ·intro hT2
  refine zz8 hT2 (zz8 hT2 (zz8 hT2 (zz8 hT2 (zz8 hT2 (zz8 hT2 (zz0 (aS rfl hT2 rfl) ?_))))))
  refine aD (ac ?_)
  exact aI (Sub.cons rfl (zz9 7 rfl))
 refine ad ?_
 refine ar rfl ?_ ?_ <;> intro h3 <;> try simp only [bs] at h3
 ·refine af (zz0 (bG (vs := []) rfl rfl (lm)) ?_)
  refine az aO rfl rfl ax ?_
  refine zz0 (ab rfl) (ad (aB (ay ?_)))
  refine kf Tryz.results68 rfl rfl aR ax (fun w' hw => ?_)
  exact ⟨by unfold atP; rw [if_pos (by unfold DR; simp_all)]; rfl, hw.b0⟩
 ·refine bF (al ?_)
  have hna : DR l a = false := by unfold DR; rw [Bool.or_eq_false_iff]; exact ⟨decide_eq_false h3.1, by rw [h3.2]; rfl⟩
  have hin := mL.1 (k7 (l := l) (a := a) (by omega))
  have hen : lL (l.getD (cK l a).toNat default) ≤ ((l.getD (cK l a).toNat default).addr.toNat : Int) + (l.getD (cK l a).toNat default).data.length := by unfold lL; omega
  have hsub : (a - (l.getD (cK l a).toNat default).addr).toNat = a.toNat - (l.getD (cK l a).toNat default).addr.toNat := UInt32.toNat_sub_of_le _ _ (UInt32.le_iff_toNat_le.2 hin.1)
  have hdl := hB.at (k := (cK l a).toNat) (by omega)
  have hDk : Sl (Bg.of w).blk dQ (l.getD (cK l a).toNat default).data (.slice (l.getD (cK l a).toNat default).dp (l.getD (cK l a).toNat default).data.length (l.getD (cK l a).toNat default).dc) := hD _ (cM (by omega))
  refine io aQ ?_
  refine aw (aa rfl) (aw (aa rfl) (aw (o8 rfl rfl cG de) ?_))
  refine aw (zz3 (off := 2) (ft := 47) rfl cT rfl fZ) ?_
  refine aw (qe rfl (by assumption) gR (by omega) (by rfl)) ?_
  refine aw (aa rfl) (aw (aa rfl) (aw (aa rfl) (aw (o8 rfl rfl cG de) ?_)))
  refine aw (zz3 (off := 1) (ft := 23) rfl cT rfl ae) ?_
  refine aw (qe rfl (by assumption) am (by omega) (by rfl)) ?_
  refine aw (fH rfl rfl) ?_
  refine aw (Df (lv := some (_, _)) (hv := none) rfl rfl rfl bh dF) ?_
  refine aw (ab rfl) (bK ?_)
  refine ac (al ?_)
  have hs1 := Sl.resl (l := (a - (l.getD (cK l a).toNat default).addr).toNat) (h := (l.getD (cK l a).toNat default).data.length) hDk (by omega) (Nat.le_refl _)
  rw [List.take_length] at hs1
  have hs1l : (List.drop (a - (l.getD (cK l a).toNat default).addr).toNat (l.getD (cK l a).toNat default).data).length = (l.getD (cK l a).toNat default).data.length - (a - (l.getD (cK l a).toNat default).addr).toNat := List.length_drop
  have hs3 := Sl.resl (l := 0) (h := (min (((l.getD (cK l a).toNat default).data.drop (a - (l.getD (cK l a).toNat default).addr).toNat).length : Int) 6).toNat) hs1 (Nat.zero_le _) (by omega)
  rw [List.drop_zero, show ((l.getD (cK l a).toNat default).data.drop (a - (l.getD (cK l a).toNat default).addr).toNat).take (min (((l.getD (cK l a).toNat default).data.drop (a - (l.getD (cK l a).toNat default).addr).toNat).length : Int) 6).toNat = Di l a by unfold Di; rw [List.take_eq_take_iff]; omega] at hs3
  refine an (zz0 (aa rfl) (zz0 (aa rfl) (zz0 (gW rfl bh) ?_)))
  refine zz0 (qF rfl rfl) ?_
  refine zz0 (Df (lv := none) (hv := some (_, _)) rfl rfl rfl bh dF) ?_
  refine zz0 (aa rfl) (zz0 (aA rfl Tryz.call135 (fun w hw => BH (Di l a) _ a w (hw.slF hs3))) ?_)
  refine zz0 (aa rfl) (zz0 (aL rfl rfl) (zz0 (aL rfl rfl) ?_))
  refine dB bV rfl (fun b4 => ?_)
  refine az aO rfl rfl ax ?_
  refine zz0 (ab rfl) (aH (zz0 (bH rfl aR ax) ?_))
  refine zz0 (aa rfl) (zz0 (bB rfl rfl) (az aO rfl rfl ax ?_))
  refine zz0 (ab rfl) (ad (aB ?_))
  refine kf Tryz.results68 rfl rfl aR ax (fun w' hw => ?_)
  exact ⟨by unfold atP; rw [if_neg (by simp [hna])]; rfl, hw.b0⟩
theorem BG (bw bi bb be bu : Nat) (VT VP : Value) (ts : List TabV) (at_ : List UInt32) (a : UInt32) (w : World) (hcw : CellsIn (hp w) bw [.map (some bi), .map (some bb), .map (some be), .map (some bu), VT, VP]) (hT : Sl (hp w) gi ts VT) (hP : Sl (hp w) ao at_ VP) (hl : ts.length = at_.length) :
  Calls Tryz.prog 138 #[.pointer (some ⟨bw, 0, none⟩), .int .u32 a.toNat] w (fun e w' => e = .returned (.tuple #[sO ts at_ a, .bool (fB ts at_ a).isSome]) ∧ Ext w w') := by
 have hcw' : CellsIn (Bg.of w).blk bw [.map (some bi), .map (some bb), .map (some be), .map (some bu), VT, VP] := hcw
 have hT' : Sl (Bg.of w).blk gi ts VT := hT
 have hP' : Sl (Bg.of w).blk ao at_ VP := hP
 have hib := iJ (fun x => decide (a = x)) at_ 0
 refine enter Tryz.func138 rfl Tryz.ntmps138 rfl ?_
 refine af (zz0 (ab rfl) (zz0 (ab rfl) (aH (zz0 (aa rfl) (zz0 (aY rfl) ?_)))))
 refine zz0 (zz3 (off := 5) (ft := 31) rfl db rfl cP) ?_
 refine zz0 (kV rfl dV) ?_
 refine zz0 (aa rfl) (zz0 (aA rfl Tryz.call145 (fun w hw => wZ at_ VP a w (hw.slF hP'))) ?_)
 refine zz0 (ab rfl) (ad (al (af (zz0 (aa rfl) (zz0 (bU rfl rfl) (ad ?_))))))
 refine ar rfl ?_ ?_ <;> intro h1 <;> try simp only [bs] at h1
 ·refine af (zz0 (ab rfl) (zz0 (ab rfl) (ad (aB (ay ?_)))))
  refine dq Tryz.results138 rfl rfl (fun w' hw => ?_)
  exact ⟨by rw [wT (by omega), wU (by omega)]; rfl, hw.b0⟩
 ·refine dl (zz0 (aa rfl) (zz0 (aY rfl) ?_))
  refine zz0 (zz3 (off := 4) (ft := 53) rfl db rfl gu) ?_
  refine zz0 (kV rfl ka) ?_
  refine zz0 (aa rfl) (zz0 (o8 rfl rfl dE cP) ?_)
  refine zz0 (j2 rfl dV) ?_
  refine zz0 (ab rfl) (zz0 (ab rfl) (ad (aB ?_)))
  refine dq Tryz.results138 rfl rfl (fun w' hw => ?_)
  exact ⟨by rw [vl (by omega), vm (by omega)]; rfl, hw.b0⟩
theorem BD (bw bi bb be bu : Nat) (VT VP : Value) (ts : List TabV) (at_ : List UInt32) (i : Ins) (ents unk : List (UInt32 × Bool)) (w : World) (ho : OwnAt w [mapE be df ents, mapE bu df unk]) (hcw : CellsIn (Bg.lessB w [be, bu] 0).blk bw [.map (some bi), .map (some bb), .map (some be), .map (some bu), VT, VP]) (hT : Sl (Bg.lessB w [be, bu] 0).blk gi ts VT) (hTI : TabIn (Bg.lessB w [be, bu] 0).blk ts) (hTB : pY ts) (hP : Sl (Bg.lessB w [be, bu] 0).blk ao at_ VP) (hl : ts.length = at_.length) (hI : InsOK i) :
  Calls Tryz.prog 69 #[.pointer (some ⟨bw, 0, none⟩), .agg (aO.enc i).toArray] w (fun e w' => ∃ V : Value, e = .returned V ∧ Upd 0 w w' (cZ [mapE be df ents, mapE bu df unk]) [rowE V 23 ao (kA ts at_ i), mapE be df (gK ents (kr ts at_ i)), mapE bu df (if qG ts at_ i = true then fm unk i.addr true else unk)] ∧ True) := by
 have hKS := FD hTI hTB (at_ := at_) (a := i.addr) hl
 have hkl := sN hTB at_ i.addr
 have hsl := ki i
 refine qX (L := [mapE be df ents, mapE bu df unk]) ho rfl (Nat.zero_le _) Tryz.func69 rfl Tryz.ntmps69 rfl ?_
 refine af ?_
 refine dO rfl rfl (fun b1 => ?_)
 refine zz0 (ab rfl) (aH (zz0 (bH rfl aR ax) ?_))
 refine fG rfl Tryz.call136 (fun w hw => EQ i w hI) rfl (fun V2 => ?_)
 refine zz0 (ab rfl) (ad ?_)
 refine di (ι := List (UInt32 × Bool)) (fun m1 => m1 = (if i.op = 23 then fm ents i.imm true else ents)) (fun _ => (Bg.lessB w [be, bu] 0)) (fun m1 => [rowE V2 23 ao (dX i), mapE be df m1, mapE bu df unk, cellE b1 (aO.enc i) 36]) (fun m1 => []) ?_ (fun m1 hi => ?_)
 ·skip
  refine af (zz0 (zz3 (off := 2) (ft := 3) rfl ak rfl aC) ?_)
  refine zz0 (aJ rfl aN) ?_
  refine zz0 (bB rfl rfl) (ad ?_)
  refine ar rfl ?_ ?_ <;> intro h3 <;> try simp only [bs] at h3
  ·refine fO 0 6 aQ ?_
   refine bI ?_
   refine aw (aa rfl) (aw (aY rfl) ?_)
   refine aw (zz3 (off := 2) (ft := 141) rfl db rfl fX) ?_
   refine aw (kV rfl f5) ?_
   refine aw (zz3 (off := 1) (ft := 23) rfl ak rfl ae) ?_
   refine aw (aJ rfl am) ?_
   refine bK ?_
   refine gp true rfl rfl rfl (by repeat constructor) er aP rfl ?_
   refine ad ?_
   refine cw _ Front.nil (bC 9 rfl) (o := (by show _ = _; rw [if_pos (by assumption)]))
  ·refine bF ?_
   refine cw _ Front.nil (bC 3 rfl) (o := (by show _ = _; rw [if_neg (by assumption)]))
 ·skip
  replace hi : m1 = (if i.op = 23 then fm ents i.imm true else ents) := hi
  change Tr _ _ [rowE V2 23 ao (dX i), mapE be df m1, mapE bu df unk, cellE b1 (aO.enc i) 36] ([] ++ _) _
  have hm1 := hi
  refine al (af (zz0 (bH rfl aR ax) ?_))
  refine zz0 (aA rfl Tryz.call137 (fun w hw => yp i w)) ?_
  refine zz0 (cQ rfl) (ad ?_)
  refine ar rfl ?_ ?_ <;> intro h4 <;> try simp only [bs] at h4
  ·refine af (zz0 (aa rfl) (zz0 (ab rfl) (ad (aB (ay ?_)))))
   refine aV Tryz.results69 rfl (fun w' hw => ?_)
   have hb1 : kA ts at_ i = dX i := by unfold kA; rw [if_neg (by simp_all), List.append_nil]
   have hb2 : gK ents (kr ts at_ i) = m1 := BO hm1 (by simp_all)
   have hb3 : qG ts at_ i = false := by unfold qG; simp_all
   exact ⟨_, rfl, by rw [hb1, hb2, hb3, if_neg (by decide)]; exact hw.upd (Bg.le.refl _) (by repeat' constructor), trivial⟩
  ·refine dl (zz0 (aa rfl) (zz0 (zz3 (off := 0) (ft := 23) rfl ak rfl ae) ?_))
   refine zz0 (aJ rfl am) ?_
   refine zz0 (aA rfl Tryz.call138 (fun w hw => BG bw bi bb be bu VT VP ts at_ i.addr w (hcw.mono hw.bg) (hw.slF hT) (hw.slF hP) hl)) ?_
   refine zz0 (aa rfl) (zz0 (aL rfl rfl) (zz0 (aL rfl rfl) (zz0 (ab rfl) (zz0 (ab rfl) (ad ?_)))))
   refine di (ι := List (UInt32 × Bool)) (fun u1 => u1 = (if (fB ts at_ i.addr).isSome = true then unk else fm unk i.addr true)) (fun _ => (Bg.lessB w [be, bu] 0)) (fun u1 => [rowE V2 23 ao (dX i), mapE be df m1, mapE bu df u1, cellE b1 (aO.enc i) 36]) (fun u1 => []) ?_ (fun u1 hi => ?_)
   ·skip
    refine af (zz0 (aa rfl) (zz0 (cQ rfl) (ad ?_)))
    refine ar rfl ?_ ?_ <;> intro h5 <;> try simp only [bs] at h5
    ·refine fO 0 6 aQ ?_
     refine bI ?_
     refine aw (aa rfl) (aw (aY rfl) ?_)
     refine aw (zz3 (off := 3) (ft := 141) rfl db rfl fX) ?_
     refine aw (kV rfl f5) ?_
     refine aw (zz3 (off := 0) (ft := 23) rfl ak rfl ae) ?_
     refine aw (aJ rfl am) ?_
     refine bK ?_
     refine gp true rfl rfl rfl (by repeat constructor) er aP rfl ?_
     refine ad ?_
     refine cw _ Front.nil (bC 8 rfl) (o := (by show _ = _; rw [if_neg (by simp_all)]))
    ·refine bF ?_
     refine cw _ Front.nil (bC 2 rfl) (o := (by show _ = _; rw [if_pos (by assumption)]))
   ·skip
    replace hi : u1 = (if (fB ts at_ i.addr).isSome = true then unk else fm unk i.addr true) := hi
    change Tr _ _ [rowE V2 23 ao (dX i), mapE be df m1, mapE bu df u1, cellE b1 (aO.enc i) 36] ([] ++ _) _
    have hu1 := hi
    refine di (ι := List (UInt32 × Bool)) (fun m2 => m2 = if i.op = 24 then gK m1 ((fB ts at_ i.addr).getD []) else m1) (fun _ => (Bg.lessB w [be, bu] 0)) (fun m2 => [rowE V2 23 ao (dX i), mapE be df m2, mapE bu df u1, cellE b1 (aO.enc i) 36]) (fun m2 => []) ?_ (fun m2 hi => ?_)
    ·skip
     refine af (zz0 (zz3 (off := 2) (ft := 3) rfl ak rfl aC) ?_)
     refine zz0 (aJ rfl aN) ?_
     refine zz0 (bB rfl rfl) (ad ?_)
     refine ar rfl ?_ ?_ <;> intro h6 <;> try simp only [bs] at h6
     ·refine af (zz0 (aa rfl) (zz0 (gW rfl ah) ?_))
      refine zz0 (aa rfl) (ad (aF ?_))
      refine bL (ι := Nat) (fun k => k ≤ ((fB ts at_ i.addr).getD []).length) (fun _ => (Bg.lessB w [be, bu] 0)) (fun k => [rowE V2 23 ao (dX i), mapE be df (gK m1 (((fB ts at_ i.addr).getD []).take k)), mapE bu df u1, cellE b1 (aO.enc i) 36]) (fun k => [(45, .int .i64 (k : Nat))]) (fun k => ((fB ts at_ i.addr).getD []).length - k) 0 (Nat.zero_le _) (Front.c Front.nil) (by repeat' constructor) rfl (fun k hi m hm => ?_)
      replace hi : k ≤ ((fB ts at_ i.addr).getD []).length := hi
      replace hm : m = ((fB ts at_ i.addr).getD []).length - k := hm
      change Tr _ _ [rowE V2 23 ao (dX i), mapE be df (gK m1 (((fB ts at_ i.addr).getD []).take k)), mapE bu df u1, cellE b1 (aO.enc i) 36] ([(45, .int .i64 (k : Nat))] ++ _) _
      refine af (zz0 (bU rfl rfl) (ad (al ?_)))
      refine ar rfl ?_ ?_ <;> intro h7 <;> try simp only [bs] at h7
      ·refine bF (al (aF (af (zz0 (je rfl rfl ah ae) ?_))))
       refine zz0 (j2 rfl am) ?_
       refine zz0 (ab rfl) (ad (an (zz0 (aa rfl) (zz0 (aY rfl) ?_))))
       refine zz0 (zz3 (off := 2) (ft := 141) rfl db rfl fX) ?_
       refine zz0 (kV rfl f5) ?_
       refine zz0 (aa rfl) (gp true rfl rfl rfl (by repeat constructor) er aP rfl ?_)
       refine aD (aX (ac (an (zz0 (cp rfl rfl) ?_))))
       refine zz0 (aa rfl) (ad ?_)
       rw [← vd, ← dm (by omega)]
       refine cH (k + 1) (Front.c Front.nil) (bC 12 rfl) (o := (by show k + 1 ≤ _; omega))
      ·refine bJ (aG (aG (bv (ac ?_))))
       refine cw _ Front.nil (bC 8 rfl) (o := (by show _ = _; rw [if_pos (by assumption), List.take_of_length_le (by omega)]))
     ·refine bF ?_
      refine cw _ Front.nil (bC 3 rfl) (o := (by show _ = _; rw [if_neg (by assumption)]))
    ·skip
     replace hi : m2 = if i.op = 24 then gK m1 ((fB ts at_ i.addr).getD []) else m1 := hi
     change Tr _ _ [rowE V2 23 ao (dX i), mapE be df m2, mapE bu df u1, cellE b1 (aO.enc i) 36] ([] ++ _) _
     have hm2 := hi
     refine af (zz0 (aa rfl) (zz0 (aa rfl) ?_))
     refine De rfl rfl (by repeat constructor) (fun w hw => hw.slF (by assumption)) ah fb (fun V8 => ?_)
     refine zz0 (ab rfl) (ad (aB ?_))
     refine aV Tryz.results69 rfl (fun w' hw => ?_)
     have hb1 : kA ts at_ i = dX i ++ ((fB ts at_ i.addr).getD []) := by unfold kA; rw [if_pos (by simp_all)]
     have hb2 : gK ents (kr ts at_ i) = m2 := Gz hm1 hm2 (by simp_all)
     have hb3 : (if qG ts at_ i = true then fm unk i.addr true else unk) = u1 := Hd hu1 (by simp_all)
     exact ⟨_, rfl, by rw [hb1, hb2, hb3]; exact hw.upd (Bg.le.refl _) (by repeat' constructor), trivial⟩
theorem walk_any (l : List SecV) (ts : List TabV) (at_ es : List UInt32) (V VE VT VP : Value) (w : World) (hV : Sl (hp w) dx l V) (hB : SecB l) (hD : DataIn (hp w) l) (hN : ∀ s ∈ l, s.name.size ≤ 140737488351232) (hE : Sl (hp w) ao es VE) (hT : Sl (hp w) gi ts VT) (hTI : TabIn (hp w) ts) (hTB : pY ts) (hP : Sl (hp w) ao at_ VP) (ht : totD l ≤ 600) (hel : es.length ≤ 100) :
  Calls Tryz.prog 28 #[V, VE, VT, VP] w (fun e w' => ∃ i : ((Value × Value × Value × Value) × CodeP × Int), e = .returned ((fun i : ((Value × Value × Value × Value) × CodeP × Int) => .tuple #[.agg #[i.1.1, i.1.2.1, i.1.2.2.1, i.1.2.2.2], .int .i64 i.2.2]) i) ∧ Below w.heap.size w w' ∧ NewEnts w w' ((fun i : ((Value × Value × Value × Value) × CodeP × Int) => [rowE i.1.1 36 aO i.2.1.ins, rowE i.1.2.1 23 ao i.2.1.ents, rowE i.1.2.2.1 23 ao i.2.1.unk, rowE i.1.2.2.2 23 ao i.2.1.bad]) i) ∧ WalkIs l ts at_ es i.2.1 i.2.2) := by
 obtain ⟨ta, tc, hvt, _⟩ := hT.shape
 subst hvt
 obtain ⟨pa, pc, hvp, _⟩ := hP.shape
 subst hvp
 have hV0 : Sl (Bg.of0 w).blk dx l V := hV
 have hD0 : DataIn (Bg.of0 w).blk l := hD
 have hE0 : Sl (Bg.of0 w).blk ao es VE := hE
 have hT0 : Sl (Bg.of0 w).blk gi ts (.slice ta ts.length tc) := hT
 have hTI0 : TabIn (Bg.of0 w).blk ts := hTI
 have hP0 : Sl (Bg.of0 w).blk ao at_ (.slice pa at_.length pc) := hP
 refine lx Tryz.func28 rfl Tryz.ntmps28 rfl ?_
 refine af ?_
 refine dB eZ rfl (fun b1 => ?_)
 refine zz0 (ab rfl) (ad (sb (al (af (zz0 (aa rfl) (zz0 (gW rfl dE) ?_))))))
 refine zz0 (aa rfl) (zz0 (gW rfl ah) ?_)
 refine zz0 (fV rfl rfl) (ad ?_)
 refine ar rfl ?_ ?_ <;> intro h2 <;> try simp only [bs] at h2
 ·refine al (bZ 36 aO ?_)
  refine bZ 23 ao ?_
  refine bZ 23 ao ?_
  refine bZ 23 ao ?_
  refine an (zz0 (bG (vs := []) rfl rfl (qh)) ?_)
  refine zz6 rfl rfl cO ?_
  refine zz0 (ab rfl) (ad (aB (ay (fU ?_))))
  refine kf Tryz.results28 rfl rfl gk cO (fun w' hw => ?_)
  exact ⟨((.slice none 0 0, .slice none 0 0, .slice none 0 0, .slice none 0 0), ⟨[], [], [], []⟩, 2), rfl, hw.below0 (Bg.le.refl _), hw.ents0 rfl (by repeat' constructor), .arg (by show ts.length ≠ at_.length; omega) rfl rfl⟩
 ·refine bF (al (af (zz0 (aa rfl) (zz0 (aA rfl qB (fun w hw => qx l V w (hw.slF hV0) hB (fun s hs => by have := hN s hs; omega))) ?_))))
  refine zz0 (ab rfl) (aH (zz0 (aa rfl) (zz0 (fV rfl rfl) (ad ?_))))
  refine ar rfl ?_ ?_ <;> intro h3 <;> try simp only [bs] at h3
  ·refine al (bZ 36 aO ?_)
   refine bZ 23 ao ?_
   refine bZ 23 ao ?_
   refine bZ 23 ao ?_
   refine an (zz0 (bG (vs := []) rfl rfl (qh)) ?_)
   refine zz0 (aa rfl) (zz6 rfl rfl cO ?_)
   refine zz0 (ab rfl) (ad (aB (ay (fU ?_))))
   refine kf Tryz.results28 rfl rfl gk cO (fun w' hw => ?_)
   exact ⟨((.slice none 0 0, .slice none 0 0, .slice none 0 0, .slice none 0 0), ⟨[], [], [], []⟩, dT l), rfl, hw.below0 (Bg.le.refl _), hw.ents0 rfl (by repeat' constructor), .chk (by show ts.length = at_.length; omega) (by assumption) rfl rfl⟩
  ·refine bF (al ?_)
   have hl : ts.length = at_.length := by omega
   refine an ?_
   refine gl sS rfl (fun b4 => ?_)
   refine gl df rfl (fun b5 => ?_)
   refine gl df rfl (fun b6 => ?_)
   refine gl df rfl (fun b7 => ?_)
   refine zz0 (aa rfl) (zz0 (aa rfl) (zz0 (bG (vs := [(0, _), (1, _), (2, _), (3, _), (4, _), (5, _)]) (cs := #[.map (some b4), .map (some b5), .map (some b6), .map (some b7), (.slice ta ts.length tc), (.slice pa at_.length pc)]) rfl rfl (by kernel_rfl)) ?_))
   refine dO (cs := [.map (some b4), .map (some b5), .map (some b6), .map (some b7), (.slice ta ts.length tc), (.slice pa at_.length pc)]) rfl rfl (fun b8 => ?_)
   refine vJ (b := b8) (by repeat constructor) (fun F1 hF1 hcw => ?_)
   have hV1 := hV0.mono hF1.blk
   have hD1 := hD0.mono hF1.blk
   have hE1 := hE0.mono hF1.blk
   have hT1 := hT0.mono hF1.blk
   have hTI1 := hTI0.mono hF1.blk
   have hP1 := hP0.mono hF1.blk
   refine zz0 (ab rfl) (ad (al (af (zz0 (aa rfl) (zz0 (gW rfl ah) ?_)))))
   refine zz0 (aa rfl) (ad (aF ?_))
   refine bL (ι := Nat) (fun k => k ≤ es.length) (fun _ => _) (fun k => [mapE b6 df (gK [] (es.take k)), mapE b4 sS [], mapE b5 df [], mapE b7 df [], cellE b1 [.slice none 0 0, .slice none 0 0, .slice none 0 0, .slice none 0 0] 52]) (fun k => [(50, .int .i64 (k : Nat))]) (fun k => es.length - k) 0 (Nat.zero_le _) (Front.c Front.nil) (by repeat' constructor) rfl (fun k hi m hm => ?_)
   replace hi : k ≤ es.length := hi
   replace hm : m = es.length - k := hm
   change Tr _ _ [mapE b6 df (gK [] (es.take k)), mapE b4 sS [], mapE b5 df [], mapE b7 df [], cellE b1 [.slice none 0 0, .slice none 0 0, .slice none 0 0, .slice none 0 0] 52] ([(50, .int .i64 (k : Nat))] ++ _) _
   refine af (zz0 (bU rfl rfl) (ad (al ?_)))
   refine ar rfl ?_ ?_ <;> intro h8 <;> try simp only [bs] at h8
   ·refine bF (al (aF (af (zz0 (je rfl rfl ah ae) ?_))))
    refine zz0 (j2 rfl am) ?_
    refine zz0 (ab rfl) (ad (an (zz0 (aa rfl) (zz0 (aY rfl) ?_))))
    refine zz0 (zz3 (off := 2) (ft := 141) rfl db rfl fX) ?_
    refine zz0 (e8 rfl hcw f5 (by rfl)) ?_
    refine zz0 (aa rfl) (gp true rfl rfl rfl (by repeat constructor) er aP rfl ?_)
    refine aD (aX (ac (an (zz0 (cp rfl rfl) ?_))))
    refine zz0 (aa rfl) (ad ?_)
    rw [← vd, ← dm (by omega)]
    refine cH (k + 1) (Front.c Front.nil) (bC 12 rfl) (o := (by show k + 1 ≤ _; omega))
   ·refine bJ (aG (aG (bv (ac (al ?_)))))
    obtain rfl : k = es.length := by omega
    rw [List.take_length]
    refine an (zz0 (aa rfl) ?_)
    refine fG rfl Tryz.call57 (fun w hw => s9 es VE w (hw.slF hE1) (by omega)) rfl (fun V9 => ?_)
    refine zz0 (ab rfl) (aH (zz0 (ab rfl) (ad (al (sd ?_)))))
    refine ac (al (aF ?_))
    refine bL (ι := DSt × Value) (fun ⟨s, Vr⟩ => DInv l ts at_ es s) (fun _ => _) (fun ⟨s, Vr⟩ => [rowE Vr 23 ao s.rest, mapE b4 sS s.ins, mapE b5 df s.bad, mapE b6 df s.ents, mapE b7 df s.unk, cellE b1 [.slice none 0 0, .slice none 0 0, .slice none 0 0, .slice none 0 0] 52]) (fun ⟨s, Vr⟩ => [(14, Vr), (15, .bool false)]) (fun ⟨s, Vr⟩ => (601 - s.ins.length) * 70 + s.rest.length) (⟨[], [], gK [] es, [], es⟩, _) DInv.begin (Front.c (Front.c Front.nil)) (by repeat' constructor) rfl (fun i hi m hm => ?_)
    obtain ⟨s, Vr⟩ := i
    replace hi : DInv l ts at_ es s := hi
    replace hm : m = (601 - s.ins.length) * 70 + s.rest.length := hm
    change Tr _ _ [rowE Vr 23 ao s.rest, mapE b4 sS s.ins, mapE b5 df s.bad, mapE b6 df s.ents, mapE b7 df s.unk, cellE b1 [.slice none 0 0, .slice none 0 0, .slice none 0 0, .slice none 0 0] 52] ([(14, Vr), (15, .bool false)] ++ _) _
    have hinv := hi
    have hic := hinv.count
    have hil := hinv.lRest
    refine al (af (zz0 (aa rfl) (zz0 (ln rfl ah) ?_)))
    refine zz0 (fj rfl rfl) (ad ?_)
    refine ar rfl ?_ ?_ <;> intro h10 <;> try simp only [bs] at h10
    ·refine bF (aF (af (zz0 (aa rfl) (zz0 (aa rfl) (zz0 (ln rfl ah) ?_)))))
     refine zz0 (eE rfl rfl) ?_
     refine zz0 (jJ rfl rfl ah ae) ?_
     refine zz0 (eF rfl am) ?_
     obtain ⟨a, ha⟩ : ∃ a, a = s.rest.getD ((s.rest.length : Int) - 1).toNat default := ⟨_, rfl⟩
     obtain ⟨r, hre⟩ : ∃ r, r = s.rest.take ((s.rest.length : Int) - 1).toNat := ⟨_, rfl⟩
     have hr : s.rest = r ++ [a] := by rw [ha, hre]; exact Bu (by omega)
     have hrl : r.length + 1 = s.rest.length := by rw [hr, List.length_append]; rfl
     rw [← ha]
     refine zz0 (ab rfl) (aH (zz0 (aa rfl) (zz0 (aa rfl) (zz0 (ln rfl ah) ?_))))
     refine zz0 (eE rfl rfl) ?_
     refine El rfl (by repeat constructor) rfl ah ae (by omega) rfl (fun Vr2 => ?_)
     rw [← hre]
     refine zz0 (ab rfl) (ad (al (af (zz0 (aa rfl) (zz0 (aY rfl) ?_)))))
     refine zz0 (zz3 (off := 0) (ft := 140) rfl db rfl jC) ?_
     refine zz0 (e8 rfl hcw jr (by rfl)) ?_
     refine zz0 (aa rfl) (zz0 (Cf rfl rfl (by repeat constructor) fS aP bV (by rfl)) ?_)
     refine zz0 (aa rfl) (zz0 (aL rfl rfl) (zz0 (aL rfl rfl) ?_))
     refine dB bV rfl (fun b11 => ?_)
     refine az aO rfl rfl ax ?_
     refine zz0 (ab rfl) (aH (zz0 (aa rfl) (zz0 (aa rfl) ?_)))
     apply dH
     ·exact (rfl : _ = (7, 86, 93))
     ·exact rfl
     ·intro hF12; have hF12' := hF12
      try simp only [bs] at hF12'
      refine zz5 hF12 (aa rfl) (zz5 hF12 (aY rfl) ?_)
      refine zz5 hF12 (zz3 (off := 1) (ft := 141) rfl db rfl fX) ?_
      refine zz5 hF12 (e8 rfl hcw f5 (by rfl)) ?_
      refine zz5 hF12 (aa rfl) (zz5 hF12 (AS rfl rfl (by repeat constructor) er aP m9) ?_)
      refine zz0 (aT rfl hF12 rfl) ?_
      refine aD (ac ?_)
      exact aI (Sub.cons rfl (zz9 7 rfl))
     ·intro hT12
      refine zz8 hT12 (zz8 hT12 (zz8 hT12 (zz8 hT12 (zz8 hT12 (zz8 hT12 (zz0 (aS rfl hT12 rfl) ?_))))))
      refine aD (ac ?_)
      exact aI (Sub.cons rfl (zz9 7 rfl))
     refine ad ?_
     refine ar rfl ?_ ?_ <;> intro h13 <;> try simp only [bs] at h13
     ·refine bJ (aG (bv (ac ?_)))
      apply gm (⟨s.ins, s.bad, s.ents, s.unk, r⟩, _)
      ·exact rfl
      ·exact (Front.c (Front.c Front.nil))
      ·exact bC 32 rfl
      ·exact (by repeat' constructor)
      ·exact (hinv.skip hr (zp (by assumption)))
      ·exact (by show (601 - s.ins.length) * 70 + r.length < m; omega)
     ·refine dl (zz0 (aa rfl) (zz0 (aa rfl) (zz0 (aA rfl Tryz.call68 (fun w hw => HU l V a w (hw.slF hV1) hB (hD1.mono hw.bg))) ?_)))
      refine zz0 (aa rfl) (zz0 (aL rfl rfl) (zz0 (aL rfl rfl) ?_))
      refine dB bV rfl (fun b14 => ?_)
      refine az aO rfl rfl ax ?_
      refine zz0 (ab rfl) (ad (al (af (zz0 (aa rfl) (zz0 (cQ rfl) (ad ?_))))))
      refine ar rfl ?_ ?_ <;> intro h15 <;> try simp only [bs] at h15
      ·refine af (zz0 (aa rfl) (zz0 (aY rfl) ?_))
       refine zz0 (zz3 (off := 1) (ft := 141) rfl db rfl fX) ?_
       refine zz0 (e8 rfl hcw f5 (by rfl)) ?_
       refine zz0 (aa rfl) (gp true rfl rfl rfl (by repeat constructor) er aP rfl ?_)
       refine ad (bJ (aG (bv (ac ?_))))
       apply gm (⟨s.ins, fm s.bad a true, s.ents, s.unk, r⟩, _)
       ·exact rfl
       ·exact (Front.c (Front.c Front.nil))
       ·exact bC 47 rfl
       ·exact (by repeat' constructor)
       ·exact (hinv.isBad hr (by assumption))
       ·exact (by show (601 - s.ins.length) * 70 + r.length < m; omega)
      ·refine bF (al ?_)
       have hok : (atP l a).2 = true := by assumption
       have hnk : a ∉ s.ins.map (·.1) := Cq (by assumption)
       have hinv2 := DInv.found hTB hinv hr hok hnk
       have hct : (fm s.ins a (atP l a).1).length ≤ totD l := hinv2.count
       have hml := rI (l := s.ins) (k := a) (by cases hq : dJ s.ins a with | none => rfl | some x => exact absurd (ym hq) hnk) (atP l a).1
       have hml2 : (fm s.ins a (atP l a).1).length = s.ins.length + 1 := by rw [hml, List.length_append]; rfl
       have hld := vk hTB at_ (atP l a).1
       refine fO 0 6 aQ ?_
       refine bI ?_
       refine aw (aa rfl) (aw (aY rfl) ?_)
       refine aw (zz3 (off := 0) (ft := 140) rfl db rfl jC) ?_
       refine aw (e8 rfl hcw jr (by rfl)) ?_
       refine aw (aa rfl) (aw (bH rfl aR ax) ?_)
       refine bK ?_
       refine gp (atP l a).1 rfl rfl rfl (by repeat constructor) fS aP rfl ?_
       refine ad (al (af (zz0 (aa rfl) (zz0 (aY rfl) ?_))))
       refine zz0 (zz3 (off := 0) (ft := 140) rfl db rfl jC) ?_
       refine zz0 (e8 rfl hcw jr (by rfl)) ?_
       refine zz0 (Ev rfl (by repeat constructor) fS) ?_
       refine zz0 (fj rfl rfl) (ad ?_)
       refine ar rfl ?_ ?_ <;> intro h16 <;> try simp only [bs] at h16
       ·first | contradiction | (exfalso; omega) | simp_all
       ·refine bF (an (zz0 (aa rfl) (zz0 (aa rfl) (zz0 (bH rfl aR ax) ?_))))
        refine iY (fun V : Value => V) [mapE b6 df s.ents, mapE b7 df s.unk] (fun V => [rowE V 23 ao (kA ts at_ (atP l a).1), mapE b6 df (gK s.ents (kr ts at_ (atP l a).1)), mapE b7 df (if qG ts at_ (atP l a).1 = true then fm s.unk (atP l a).1.addr true else s.unk)]) (ok := fun _ => True) (dd := fun _ => 0) rfl Tryz.call69 (by repeat' constructor) (fun w hw => Nat.le_of_eq hF1.dr) (fun w hw => BD b8 b4 b5 b6 b7 (.slice ta ts.length tc) (.slice pa at_.length pc) ts at_ (atP l a).1 s.ents s.unk w (hw.own (by repeat' constructor)) (hcw.mono (show Hp.le F1.blk (Bg.lessB w [b6, b7] 0).blk from hw.lessB (Lo := [mapE b6 df s.ents, mapE b7 df s.unk]) (by repeat' constructor))) (hT1.mono (show Hp.le F1.blk (Bg.lessB w [b6, b7] 0).blk from hw.lessB (Lo := [mapE b6 df s.ents, mapE b7 df s.unk]) (by repeat' constructor))) (hTI1.mono (show Hp.le F1.blk (Bg.lessB w [b6, b7] 0).blk from hw.lessB (Lo := [mapE b6 df s.ents, mapE b7 df s.unk]) (by repeat' constructor))) hTB (hP1.mono (show Hp.le F1.blk (Bg.lessB w [b6, b7] 0).blk from hw.lessB (Lo := [mapE b6 df s.ents, mapE b7 df s.unk]) (by repeat' constructor))) hl (Iw l a)) rfl (fun V25 _ => ?_)
        refine De rfl rfl (by repeat constructor) (fun w hw => hw.row (by repeat constructor)) ah fb (fun V17 => ?_)
        refine zz0 (ab rfl) (aD (aX (ac ?_)))
        apply gm (stepD l ts at_ a s r, _)
        ·exact rfl
        ·exact (Front.c (Front.c Front.nil))
        ·exact bC 60 rfl
        ·exact (by repeat' constructor)
        ·exact hinv2
        ·exact (by show (601 - (fm s.ins a (atP l a).1).length) * 70 + (r ++ kA ts at_ (atP l a).1).length < m; rw [List.length_append]; omega)
    ·refine bJ (aG (aG (bv (ac (al (al ?_))))))
     have hr0 : s.rest = [] := List.length_eq_zero_iff.1 (by omega)
     have hcode := hinv.code hr0
     have hcnt := hinv.count
     have hl1 := hinv.lRest
     have hl2 := hinv.lEnts
     have hl3 := hinv.lUnk
     refine an (zz0 (aa rfl) (ad ?_))
     refine ar rfl ?_ ?_ <;> intro h18 <;> try simp only [bs] at h18
     ·first | contradiction | (exfalso; omega) | simp_all
     ·refine bF ?_
      refine mr (b := b4) (by repeat constructor) (fun F2 hF2 hmI => ?_)
      refine mr (b := b5) (by repeat constructor) (fun F3 hF3 hmB => ?_)
      refine mr (b := b6) (by repeat constructor) (fun F4 hF4 hmE => ?_)
      refine mr (b := b7) (by repeat constructor) (fun F5 hF5 hmU5 => ?_)
      have hmI5 := hmI.mono (hF3.trans (hF4.trans hF5)).blk
      have hmB5 := hmB.mono (hF4.trans hF5).blk
      have hmE5 := hmE.mono hF5.blk
      have hF15 := hF2.trans (hF3.trans (hF4.trans hF5))
      have hdr5 : F5.dr = 0 := hF15.dr.trans hF1.dr
      have hcw5 := hcw.mono hF15.blk
      refine di (ι := Value × Value × Nat) (fun ⟨Vu, Vb, bc⟩ => True) (fun _ => F5) (fun ⟨Vu, Vb, bc⟩ => [cellE bc [.slice none 0 0, .slice none 0 0, Vu, Vb] 52, rowE Vu 23 ao (gh (s.unk.map (·.1))), rowE Vb 23 ao (gh (s.bad.map (·.1))), cellE b1 [.slice none 0 0, .slice none 0 0, .slice none 0 0, .slice none 0 0] 52]) (fun ⟨Vu, Vb, bc⟩ => [(21, .pointer (some ⟨bc, 0, none⟩))]) ?_ (fun i hi => ?_)
      ·skip
       refine dW ([cellE b1 [.slice none 0 0, .slice none 0 0, .slice none 0 0, .slice none 0 0] 52]) 13 rfl aQ ?_
       refine zz4 0 rfl (aa rfl) ?_
       refine zz4 1 rfl (aY rfl) ?_
       refine zz4 2 rfl (zz3 (off := 3) (ft := 141) rfl db rfl fX) ?_
       refine iW 3 rfl (by kernel_rfl) (bD (j6 dh)) (e8 rfl hcw5 f5 (by rfl)) ?_
       refine zz4 5 rfl (aa rfl) ?_
       refine zz4 6 rfl (aY rfl) ?_
       refine zz4 7 rfl (zz3 (off := 1) (ft := 141) rfl db rfl fX) ?_
       refine iW 8 rfl (by kernel_rfl) (bD (j6 dh)) (e8 rfl hcw5 f5 (by rfl)) ?_
       refine cY [4, 11] (fun iq hq => ?_)
       rcases List.mem_cons.1 hq with rfl | hq
       ·skip
        refine bj rfl ?_
        refine eW (fun V : Value => V) (fun V => [rowE V 23 ao (gh (s.unk.map (·.1)))]) (ok := fun _ => True) (hdr5) rfl l3 (fun w hw => kc s.unk b7 w (hmU5.mono hw.bg) (by omega)) rfl (fun V28 _ => ?_)
        refine gZ (V := V28) (fun pu cu hpv => ?_)
        subst hpv
        refine bN ?_
        refine cY [9, 11] (fun iq hq => ?_)
        rcases List.mem_cons.1 hq with rfl | hq
        ·skip
         refine bj rfl ?_
         refine eW (fun V : Value => V) (fun V => [rowE V 23 ao (gh (s.bad.map (·.1)))]) (ok := fun _ => True) (hdr5) rfl l3 (fun w hw => kc s.bad b5 w (hmB5.mono hw.bg) (by omega)) rfl (fun V29 _ => ?_)
         refine gZ (V := V29) (fun pb cb hpv => ?_)
         subst hpv
         refine bN ?_
         refine iW 10 rfl (by kernel_rfl) (bD (j6 dh)) (bG (vs := [(2, _), (3, _)]) (cs := #[.slice none 0 0, .slice none 0 0, .slice pu (gh (s.unk.map (·.1))).length cu, .slice pb (gh (s.bad.map (·.1))).length cb]) rfl rfl (by kernel_rfl)) ?_
         refine cY [11] (fun iq hq => ?_)
         obtain rfl := List.mem_singleton.1 hq
         refine bj rfl ?_
         refine dB eZ rfl (fun b19 => ?_)
         refine bN ?_
         refine cY [12] (fun iq hq => ?_)
         obtain rfl := List.mem_singleton.1 hq
         refine bj rfl ?_
         refine zz6 rfl rfl cO ?_
         refine bN ?_
         refine ij ?_
         refine ac ?_
         refine cw (_, _, _) (Front.c Front.nil) (bC 12 rfl) (o := trivial)
        obtain rfl := List.mem_singleton.1 hq
        refine bj rfl ?_
        refine dB eZ rfl (fun b20 => ?_)
        refine bN ?_
        refine cY [9] (fun iq hq => ?_)
        obtain rfl := List.mem_singleton.1 hq
        refine bj rfl ?_
        refine eW (fun V : Value => V) (fun V => [rowE V 23 ao (gh (s.bad.map (·.1)))]) (ok := fun _ => True) (hdr5) rfl l3 (fun w hw => kc s.bad b5 w (hmB5.mono hw.bg) (by omega)) rfl (fun V29 _ => ?_)
        refine gZ (V := V29) (fun pb cb hpv => ?_)
        subst hpv
        refine bN ?_
        refine iW 10 rfl (by kernel_rfl) (bD (j6 dh)) (bG (vs := [(2, _), (3, _)]) (cs := #[.slice none 0 0, .slice none 0 0, .slice pu (gh (s.unk.map (·.1))).length cu, .slice pb (gh (s.bad.map (·.1))).length cb]) rfl rfl (by kernel_rfl)) ?_
        refine cY [12] (fun iq hq => ?_)
        obtain rfl := List.mem_singleton.1 hq
        refine bj rfl ?_
        refine zz6 rfl rfl cO ?_
        refine bN ?_
        refine ij ?_
        refine ac ?_
        refine cw (_, _, _) (Front.c Front.nil) (bC 12 rfl) (o := trivial)
       obtain rfl := List.mem_singleton.1 hq
       refine bj rfl ?_
       refine dB eZ rfl (fun b21 => ?_)
       refine bN ?_
       refine cY [4] (fun iq hq => ?_)
       obtain rfl := List.mem_singleton.1 hq
       refine bj rfl ?_
       refine eW (fun V : Value => V) (fun V => [rowE V 23 ao (gh (s.unk.map (·.1)))]) (ok := fun _ => True) (hdr5) rfl l3 (fun w hw => kc s.unk b7 w (hmU5.mono hw.bg) (by omega)) rfl (fun V28 _ => ?_)
       refine gZ (V := V28) (fun pu cu hpv => ?_)
       subst hpv
       refine bN ?_
       refine cY [9] (fun iq hq => ?_)
       obtain rfl := List.mem_singleton.1 hq
       refine bj rfl ?_
       refine eW (fun V : Value => V) (fun V => [rowE V 23 ao (gh (s.bad.map (·.1)))]) (ok := fun _ => True) (hdr5) rfl l3 (fun w hw => kc s.bad b5 w (hmB5.mono hw.bg) (by omega)) rfl (fun V29 _ => ?_)
       refine gZ (V := V29) (fun pb cb hpv => ?_)
       subst hpv
       refine bN ?_
       refine iW 10 rfl (by kernel_rfl) (bD (j6 dh)) (bG (vs := [(2, _), (3, _)]) (cs := #[.slice none 0 0, .slice none 0 0, .slice pu (gh (s.unk.map (·.1))).length cu, .slice pb (gh (s.bad.map (·.1))).length cb]) rfl rfl (by kernel_rfl)) ?_
       refine cY [12] (fun iq hq => ?_)
       obtain rfl := List.mem_singleton.1 hq
       refine bj rfl ?_
       refine zz6 rfl rfl cO ?_
       refine bN ?_
       refine ij ?_
       refine ac ?_
       refine cw (_, _, _) (Front.c Front.nil) (bC 12 rfl) (o := trivial)
      ·obtain ⟨Vu, Vb, bc⟩ := i
       replace hi : True := hi
       change Tr _ _ [cellE bc [.slice none 0 0, .slice none 0 0, Vu, Vb] 52, rowE Vu 23 ao (gh (s.unk.map (·.1))), rowE Vb 23 ao (gh (s.bad.map (·.1))), cellE b1 [.slice none 0 0, .slice none 0 0, .slice none 0 0, .slice none 0 0] 52] ([(21, .pointer (some ⟨bc, 0, none⟩))] ++ _) _
       refine al (af (zz0 (aa rfl) (zz0 (aY rfl) ?_)))
       refine zz0 (zz3 (off := 0) (ft := 140) rfl db rfl jC) ?_
       refine zz0 (e8 rfl hcw5 jr (by rfl)) ?_
       refine xA (fun i : Nat => .func (.func 142) #[] #[.pointer (some ⟨i, 0, none⟩)]) (R := fun h i => CellsIn h i [.map (some b4)]) (fun h h' i hh r => r.mono hh) rfl Tryz.call72 (fun w hw => FG b4 w) rfl (fun i9 F9 hF9 hR9 => ?_)
       have hmI9 := hmI5.mono hF9.blk
       have hmB9 := hmB5.mono hF9.blk
       have hcw9 := hcw5.mono hF9.blk
       refine eW (fun V : Value => V) (fun V => [rowE V 23 ao (gh (s.ins.map (·.1)))]) (ok := fun _ => True) (hF9.dr.trans hdr5) rfl Tryz.call71 (fun w hw => uO _ _ (s.ins.map (·.1)) s.ins.length (by omega) Tryz.call142 (by rw [List.length_map]; omega) w (vn b4 i9 w (hmI9.mono hw.bg) (hR9.mono hw.bg))) rfl (fun V30 _ => ?_)
       obtain ⟨ks, hks⟩ : ∃ ks, ks = gh (s.ins.map (·.1)) := ⟨_, rfl⟩
       rw [← hks]
       refine zz0 (ln rfl ah) ?_
       refine zz0 (aa rfl) (ad (aF (bZ 36 aO ?_)))
       refine bL (ι := Nat × Value) (fun ⟨k, Vi⟩ => k ≤ ks.length) (fun _ => _) (fun ⟨k, Vi⟩ => [rowE V30 23 ao ks, cellE bc [Vi, .slice none 0 0, Vu, Vb] 52, rowE Vi 36 aO ((ks.take k).map fun a => (atP l a).1), rowE Vu 23 ao (gh (s.unk.map (·.1))), rowE Vb 23 ao (gh (s.bad.map (·.1))), cellE b1 [.slice none 0 0, .slice none 0 0, .slice none 0 0, .slice none 0 0] 52]) (fun ⟨k, Vi⟩ => [(144, .int .i64 (k : Nat))]) (fun ⟨k, Vi⟩ => ks.length - k) (0, _) (Nat.zero_le _) (Front.c Front.nil) (by repeat' constructor) rfl (fun i hi m hm => ?_)
       obtain ⟨k, Vi⟩ := i
       replace hi : k ≤ ks.length := hi
       replace hm : m = ks.length - k := hm
       change Tr _ _ [rowE V30 23 ao ks, cellE bc [Vi, .slice none 0 0, Vu, Vb] 52, rowE Vi 36 aO ((ks.take k).map fun a => (atP l a).1), rowE Vu 23 ao (gh (s.unk.map (·.1))), rowE Vb 23 ao (gh (s.bad.map (·.1))), cellE b1 [.slice none 0 0, .slice none 0 0, .slice none 0 0, .slice none 0 0] 52] ([(144, .int .i64 (k : Nat))] ++ _) _
       have hksl : ks.length ≤ 600 := by rw [hks, rn, List.length_map]; omega
       have hkml : ((ks.take k).map fun a => (atP l a).1).length ≤ 600 := by rw [List.length_map, List.length_take]; omega
       refine af (zz0 (bU rfl rfl) (ad (al ?_)))
       refine ar rfl ?_ ?_ <;> intro h22 <;> try simp only [bs] at h22
       ·refine bF (al (aF (af (zz0 (zz7 rfl rfl ah ae) ?_))))
        refine zz0 (eF rfl am) ?_
        refine zz0 (ab rfl) (ad ?_)
        have hga : (dJ s.ins (ks.getD k default)).getD cx = (atP l (ks.getD k default)).1 := IX hinv (by rw [← nJ, ← hks]; exact cM (by omega))
        refine dW ([cellE b1 [.slice none 0 0, .slice none 0 0, .slice none 0 0, .slice none 0 0] 52]) 12 rfl aQ ?_
        refine zz4 0 rfl (zz3 (off := 0) (ft := 50) rfl cF rfl dz) ?_
        refine zz4 2 rfl (aa rfl) ?_
        refine zz4 3 rfl (aY rfl) ?_
        refine zz4 4 rfl (zz3 (off := 0) (ft := 140) rfl db rfl jC) ?_
        refine iW 5 rfl (by kernel_rfl) (dN (bD (bD (dN (bD (j6 dh)))))) (e8 rfl hcw9 jr (by rfl)) ?_
        refine zz4 6 rfl (aa rfl) ?_
        refine cY [1, 7] (fun iq hq => ?_)
        rcases List.mem_cons.1 hq with rfl | hq
        ·skip
         refine bj rfl ?_
         refine zz0 (aJ rfl dR) ?_
         refine bN ?_
         refine cY [7] (fun iq hq => ?_)
         obtain rfl := List.mem_singleton.1 hq
         refine bj rfl ?_
         refine zz0 (xE rfl rfl (by assumption) fS aP bV (by rfl)) ?_
         rw [hga]
         refine bN ?_
         refine cY [8] (fun iq hq => ?_)
         obtain rfl := List.mem_singleton.1 hq
         refine bj rfl ?_
         refine iQ (E := aO) (atP l (ks.getD k default)).1 rfl rfl aM ax bV (fun V23 => ?_)
         refine bN ?_
         refine cY [9] (fun iq hq => ?_)
         obtain rfl := List.mem_singleton.1 hq
         refine bj rfl ?_
         refine zz1 rfl rfl aM kK (fun V24 => ?_)
         refine dA (.head _) (fun pi ci hpv => ?_)
         subst hpv
         refine bN ?_
         refine zz4 10 rfl (zz3 (off := 0) (ft := 50) rfl cF rfl dz) ?_
         refine cY [11] (fun iq hq => ?_)
         obtain rfl := List.mem_singleton.1 hq
         refine bj rfl ?_
         refine zz2 (cs' := [_, _, _, _]) rfl rfl dz rfl ?_
         refine bN ?_
         refine ij ?_
         refine aX (ac (an (zz0 (cp rfl rfl) ?_)))
         refine zz0 (aa rfl) (ad ?_)
         rw [m5 (fun a => (atP l a).1) (by omega)]
         refine cH (k + 1, _) (Front.c Front.nil) (bC 18 rfl) (o := (by show k + 1 ≤ _; omega))
        obtain rfl := List.mem_singleton.1 hq
        refine bj rfl ?_
        refine zz0 (xE rfl rfl (by assumption) fS aP bV (by rfl)) ?_
        rw [hga]
        refine bN ?_
        refine cY [1, 8] (fun iq hq => ?_)
        rcases List.mem_cons.1 hq with rfl | hq
        ·skip
         refine bj rfl ?_
         refine zz0 (aJ rfl dR) ?_
         refine bN ?_
         refine cY [8] (fun iq hq => ?_)
         obtain rfl := List.mem_singleton.1 hq
         refine bj rfl ?_
         refine iQ (E := aO) (atP l (ks.getD k default)).1 rfl rfl aM ax bV (fun V25 => ?_)
         refine bN ?_
         refine cY [9] (fun iq hq => ?_)
         obtain rfl := List.mem_singleton.1 hq
         refine bj rfl ?_
         refine zz1 rfl rfl aM kK (fun V26 => ?_)
         refine dA (.head _) (fun pi ci hpv => ?_)
         subst hpv
         refine bN ?_
         refine zz4 10 rfl (zz3 (off := 0) (ft := 50) rfl cF rfl dz) ?_
         refine cY [11] (fun iq hq => ?_)
         obtain rfl := List.mem_singleton.1 hq
         refine bj rfl ?_
         refine zz2 (cs' := [_, _, _, _]) rfl rfl dz rfl ?_
         refine bN ?_
         refine ij ?_
         refine aX (ac (an (zz0 (cp rfl rfl) ?_)))
         refine zz0 (aa rfl) (ad ?_)
         rw [m5 (fun a => (atP l a).1) (by omega)]
         refine cH (k + 1, _) (Front.c Front.nil) (bC 18 rfl) (o := (by show k + 1 ≤ _; omega))
        obtain rfl := List.mem_singleton.1 hq
        refine bj rfl ?_
        refine iQ (E := aO) (atP l (ks.getD k default)).1 rfl rfl aM ax bV (fun V27 => ?_)
        refine bN ?_
        refine cY [1] (fun iq hq => ?_)
        obtain rfl := List.mem_singleton.1 hq
        refine bj rfl ?_
        refine zz0 (aJ rfl dR) ?_
        refine bN ?_
        refine cY [9] (fun iq hq => ?_)
        obtain rfl := List.mem_singleton.1 hq
        refine bj rfl ?_
        refine zz1 rfl rfl aM kK (fun V28 => ?_)
        refine dA (.head _) (fun pi ci hpv => ?_)
        subst hpv
        refine bN ?_
        refine zz4 10 rfl (zz3 (off := 0) (ft := 50) rfl cF rfl dz) ?_
        refine cY [11] (fun iq hq => ?_)
        obtain rfl := List.mem_singleton.1 hq
        refine bj rfl ?_
        refine zz2 (cs' := [_, _, _, _]) rfl rfl dz rfl ?_
        refine bN ?_
        refine ij ?_
        refine aX (ac (an (zz0 (cp rfl rfl) ?_)))
        refine zz0 (aa rfl) (ad ?_)
        rw [m5 (fun a => (atP l a).1) (by omega)]
        refine cH (k + 1, _) (Front.c Front.nil) (bC 18 rfl) (o := (by show k + 1 ≤ _; omega))
       ·refine bJ (aG (aG (bv (ac (al (al ?_))))))
        obtain rfl : k = ks.length := by omega
        rw [List.take_length]
        refine an (zz0 (aa rfl) (zz0 (aY rfl) ?_))
        refine zz0 (zz3 (off := 2) (ft := 141) rfl db rfl fX) ?_
        refine zz0 (e8 rfl hcw9 f5 (by rfl)) ?_
        refine eW (fun V : Value => V) (fun V => [rowE V 23 ao (gh (s.ents.map (·.1)))]) (ok := fun _ => True) (hF9.dr.trans hdr5) rfl l3 (fun w hw => kc s.ents b6 w ((hmE5.mono hF9.blk).mono hw.bg) (by omega)) rfl (fun V31 _ => ?_)
        obtain ⟨se, hse⟩ : ∃ se, se = gh (s.ents.map (·.1)) := ⟨_, rfl⟩
        rw [← hse]
        refine zz0 (ln rfl ah) ?_
        refine zz0 (aa rfl) (ad (aF (bZ 23 ao ?_)))
        refine bL (ι := Nat × Value) (fun ⟨j, Ve⟩ => j ≤ se.length) (fun _ => _) (fun ⟨j, Ve⟩ => [rowE V31 23 ao se, cellE bc [Vi, Ve, Vu, Vb] 52, rowE Ve 23 ao ((se.take j).filter fun a => (dJ s.ins a).isSome), rowE Vi 36 aO ((ks).map fun a => (atP l a).1), rowE Vu 23 ao (gh (s.unk.map (·.1))), rowE Vb 23 ao (gh (s.bad.map (·.1))), cellE b1 [.slice none 0 0, .slice none 0 0, .slice none 0 0, .slice none 0 0] 52]) (fun ⟨j, Ve⟩ => [(166, .int .i64 (j : Nat))]) (fun ⟨j, Ve⟩ => se.length - j) (0, _) (Nat.zero_le _) (Front.c Front.nil) (by repeat' constructor) rfl (fun i hi m hm => ?_)
        obtain ⟨j, Ve⟩ := i
        replace hi : j ≤ se.length := hi
        replace hm : m = se.length - j := hm
        change Tr _ _ [rowE V31 23 ao se, cellE bc [Vi, Ve, Vu, Vb] 52, rowE Ve 23 ao ((se.take j).filter fun a => (dJ s.ins a).isSome), rowE Vi 36 aO ((ks).map fun a => (atP l a).1), rowE Vu 23 ao (gh (s.unk.map (·.1))), rowE Vb 23 ao (gh (s.bad.map (·.1))), cellE b1 [.slice none 0 0, .slice none 0 0, .slice none 0 0, .slice none 0 0] 52] ([(166, .int .i64 (j : Nat))] ++ _) _
        have hsel : se.length ≤ 50000 := by rw [hse, rn, List.length_map]; omega
        have hfl : ((se.take j).filter fun a => (dJ s.ins a).isSome).length ≤ 50000 := Nat.le_trans (List.length_filter_le _ _) (by rw [List.length_take]; omega)
        refine af (zz0 (bU rfl rfl) (ad (al ?_)))
        refine ar rfl ?_ ?_ <;> intro h29 <;> try simp only [bs] at h29
        ·refine bF (al (aF (af (zz0 (zz7 rfl rfl ah ae) ?_))))
         refine zz0 (eF rfl am) ?_
         refine zz0 (ab rfl) (aH (zz0 (aa rfl) (zz0 (aY rfl) ?_)))
         refine zz0 (zz3 (off := 0) (ft := 140) rfl db rfl jC) ?_
         refine zz0 (e8 rfl hcw9 jr (by rfl)) ?_
         refine zz0 (aa rfl) (zz0 (AU rfl rfl (by assumption) fS aP bV (by rfl)) ?_)
         refine zz0 (aa rfl) (zz0 (aL rfl rfl) (zz0 (aL rfl rfl) ?_))
         refine dB bV rfl (fun b30 => ?_)
         refine az aO rfl rfl ax ?_
         refine zz0 (ab rfl) (aH (zz0 (aa rfl) (ad ?_)))
         refine ar rfl ?_ ?_ <;> intro h31 <;> try simp only [bs] at h31
         ·refine an (zz0 (zz3 (off := 1) (ft := 31) rfl cF rfl cP) ?_)
          refine zz0 (aJ rfl dV) ?_
          refine zz0 (aa rfl) ?_
          refine iQ (E := ao) (se.getD j default) rfl rfl ah ae c9 (fun V32 => ?_)
          refine zz1 rfl rfl ah fb (fun V33 => ?_)
          refine dA (.head _) (fun pe ce hpv => ?_)
          subst hpv
          refine zz0 (zz3 (off := 1) (ft := 31) rfl cF rfl cP) ?_
          refine zz2 (cs' := [_, _, _, _]) rfl rfl cP rfl ?_
          refine aD (aX (ac (an (zz0 (cp rfl rfl) ?_))))
          refine zz0 (aa rfl) (ad ?_)
          rw [uf (p := fun a => (dJ s.ins a).isSome) (by omega) (by assumption)]
          refine cH (j + 1, _) (Front.c Front.nil) (bC 25 rfl) (o := (by show j + 1 ≤ _; omega))
         ·refine cg (aX (ac (an (zz0 (cp rfl rfl) ?_))))
          refine zz0 (aa rfl) (ad ?_)
          rw [vy (p := fun a => (dJ s.ins a).isSome) (by omega) (by simp_all)]
          refine cH (j + 1, _) (Front.c Front.nil) (bC 19 rfl) (o := (by show j + 1 ≤ _; omega))
        ·refine bJ (aG (aG (bv (ac (al ?_)))))
         obtain rfl : j = se.length := by omega
         rw [List.take_length]
         refine gZ (V := Vi) (fun pVi cVi hpv => ?_)
         subst hpv
         refine gZ (V := Ve) (fun pVe cVe hpv => ?_)
         subst hpv
         refine gZ (V := Vu) (fun pVu cVu hpv => ?_)
         subst hpv
         refine gZ (V := Vb) (fun pVb cVb hpv => ?_)
         subst hpv
         refine an (zz0 (bH rfl gk cO) ?_)
         refine zz6 rfl rfl cO ?_
         refine zz0 (ab rfl) (ad (aB (fU ?_)))
         refine kf Tryz.results28 rfl rfl gk cO (fun w' hw => ?_)
         rw [← hks, ← hse] at hcode
         exact ⟨((_, _, _, _), ⟨_, _, _, _⟩, 0), rfl, hw.below0 (hF1.trans (hF15.trans hF9)), hw.ents0 (hF1.trans (hF15.trans hF9)).lo (by repeat' constructor), .ok hl (by simp_all) rfl hcode⟩
end Go.Proofs.YtiajjbhcpeadfaaGreat
namespace Go.HL
open Go Go.Sort
open Go.Proofs (ltOf)
def ltA (x y : Ins) : Bool := decide (x.addr < y.addr)
theorem CE (x : Ins) : ltA x x = false := by simp [ltA]
theorem FC (x y z : Ins) (h1 : ltA x y = true) (h2 : ltA y z = true) : ltA x z = true := by
 simp only [ltA, decide_eq_true_eq, UInt32.lt_iff_toNat_lt] at *; omega
theorem yq {l : List Ins} {a : UInt32} : inK l a = true ↔ ∃ x ∈ l, x.addr = a := by
 unfold inK; rw [List.any_eq_true]; simp
def rX (l : List Ins) : Prop := l.Pairwise fun a b => a.addr ≠ b.addr
theorem Ay : ∀ (xs out : List Ins), rX out → rX (xs.foldl il out)
 | [], out, h => h
 | x :: t, out, h => by
  rw [List.foldl_cons]
  apply Ay
  unfold il
  split
  ·rename_i c
   simp only [Bool.and_eq_true, Bool.not_eq_true', decide_eq_true_eq] at c
   refine List.pairwise_append.2 ⟨h, by simp, fun a ha b hb => ?_⟩
   simp at hb; subst hb
   intro q
   have := yq.2 ⟨a, ha, q⟩
   rw [c.1] at this; cases this
  ·exact h
theorem xg {l m : List Ins} (h : l.Perm m) (hd : rX l) : rX m := (h.pairwise_iff fun {a b} q => Ne.symm q).1 hd
theorem uP {l : List Ins} (hd : rX l) : (mC (ltOf lO) l).Pairwise (fun a b => ltA a b = true) ∧ ∀ x, x ∈ mC (ltOf lO) l ↔ x ∈ l := by
 have hp := ol kW l
 have hs := xU kW l
 have hd' := xg hp.symm hd
 refine ⟨?_, fun x => hp.mem_iff⟩
 refine (hs.and hd').imp fun {a b} ⟨h1, h2⟩ => ?_
 rw [ql] at h1
 simp only [ltA, decide_eq_true_eq, decide_eq_false_iff_not, UInt32.lt_iff_toNat_lt] at *
 have : a.addr.toNat ≠ b.addr.toNat := fun q => h2 (UInt32.toNat_inj.1 q)
 omega
theorem Ap (l : List Ins) : (fK l).Pairwise (fun a b => ltA a b = true) ∧ ∀ x, x ∈ fK l ↔ x ∈ s8 l := uP (Ay l [] .nil)
theorem tq {l : List Ins} (h : l.Pairwise fun a b => ltA a b = true) : rX l := h.imp fun {a b} q e => by
 simp only [ltA, decide_eq_true_eq, UInt32.lt_iff_toNat_lt] at q; rw [e] at q; omega
theorem BJ (l : List Ins) : rX (fK l) := tq (Ap l).1
theorem Ax : ∀ (xs out : List Ins), rX (out ++ xs) → (∀ y ∈ xs, jn y = 0) → xs.foldl il out = out ++ xs
 | [], out, _, _ => by simp
 | x :: t, out, hd, hv => by
  have hn : inK out x.addr = false := by
   cases c : inK out x.addr
   ·rfl
   ·obtain ⟨y, hy, e⟩ := yq.1 c
    exact absurd e ((List.pairwise_append.1 hd).2.2 y hy x (.head _))
  have e : il out x = out ++ [x] := by unfold il; rw [hn, hv x (.head _)]; simp
  rw [List.foldl_cons, e, Ax t (out ++ [x]) (by rw [List.append_assoc]; exact hd) (fun y hy => hv y (.tail _ hy)), List.append_assoc]; rfl
theorem BI {l : List Ins} (hd : rX l) (hv : ∀ y ∈ l, jn y = 0) : fK l = mC (ltOf lO) l := by
 unfold fK s8; rw [Ax l [] hd hv]; rfl
theorem Fo {g : Ins → Int} (hg : ∀ i, g i = 0 ∨ g i = 1 ∨ g i = 2) {l : List Ins} (h : rX l) : rX (ei g l) := xg (rF hg l).1.1 h
theorem sP : ∀ (xs out : List Ins), rX (out ++ xs) → rX (xs.foldl gP out)
 | [], out, h => by simpa using h
 | x :: t, out, h => by
  rw [List.foldl_cons]
  unfold gP
  split
  ·refine sP t out (h.sublist ?_)
   exact (List.Sublist.refl out).append (List.sublist_cons_self x t)
  ·exact sP t (out ++ [x]) (by rw [List.append_assoc]; exact h)
end Go.HL
namespace Go.HL
open Go Go.Sort
open Go.Proofs (ltOf)
theorem zV : ∀ (xs out : List Ins), (∀ a ∈ out ++ xs, ∀ b ∈ out ++ xs, jN a b = false) → xs.foldl gP out = out ++ xs
 | [], out, _ => by simp
 | x :: t, out, h => by
  have c : ¬ out.any (jN x) = true := fun q => by
   obtain ⟨y, hy, q⟩ := List.any_eq_true.1 q
   rw [h x (by simp) y (by simp [hy])] at q; cases q
  rw [List.foldl_cons, gP, if_neg c, zV t (out ++ [x]) (by simpa using h)]; simp
theorem rB {ins : List Ins} {ents unk bad : List UInt32} {x : Ins} : x ∈ (gJ ins ents unk bad).kept ↔ x ∈ lE (ei (f8 ents (rk (fK ins))) (fK ins)) :=
 (ol kW _).mem_iff
theorem E5 (ins : List Ins) (ents : List UInt32) : rX (lE (ei (f8 ents (rk (fK ins))) (fK ins))) :=
 sP _ [] (by simpa using Fo (lZ ents (rk (fK ins))) (BJ ins))
theorem uU (ins : List Ins) (ents unk bad : List UInt32) : (gJ ins ents unk bad).kept.Pairwise fun a b => ltA a b = true := (uP (E5 ins ents)).1
theorem IG {ins : List Ins} {ents unk bad : List UInt32} {x : Ins} (h : x ∈ (gJ ins ents unk bad).kept) : x ∈ fK ins := Cy (zT (rB.1 h))
theorem yc {g : Ins → Int} (hg : ∀ i, g i = 0 ∨ g i = 1 ∨ g i = 2) {l : List Ins} {x : Ins} : x ∈ ei g l ↔ x ∈ l := (rF hg l).1.1.mem_iff.symm
theorem Hl {ins : List Ins} {ents unk bad : List UInt32} (h : ∀ a ∈ fK ins, ∀ b ∈ fK ins, jN a b = false) : (gJ ins ents unk bad).kept = fK ins ∧ (gJ ins ents unk bad).rem = [] := by
 have hg := lZ ents (rk (fK ins))
 have e1 : lE (ei (f8 ents (rk (fK ins))) (fK ins)) = ei (f8 ents (rk (fK ins))) (fK ins) := by
  unfold lE
  rw [zV _ [] (fun a ha b hb => h a ((yc hg).1 (by simpa using ha)) b ((yc hg).1 (by simpa using hb)))]; rfl
 have e2 : (gJ ins ents unk bad).kept = fK ins := xW CE FC _ _ (uU ins ents unk bad) (Ap ins).1 fun x => by rw [rB, e1, yc hg]
 refine ⟨e2, ?_⟩
 show nG (fK ins) (gJ ins ents unk bad).kept = []
 rw [e2]
 unfold nG
 rw [List.map_eq_nil_iff, List.filter_eq_nil_iff]
 intro x hx
 rw [yq.2 ⟨x, hx, rfl⟩]; simp
end Go.HL
namespace Go.HL
open Go Go.Sort
end Go.HL
namespace Go.HL
open Go Go.Sort
end Go.HL
namespace Go.HL
open Go Go.Sort
open Go.Proofs (ltOf)
def oW (p : Nat → Prop) : List Nat → Prop
 | [] => True
 | x :: t => p x ∧ oW p t
theorem oW.nil {p : Nat → Prop} : oW p [] := trivial
theorem oW.cons {p : Nat → Prop} {x : Nat} {t : List Nat} (h : p x) (k : oW p t) : oW p (x :: t) := ⟨h, k⟩
theorem oW.all {p : Nat → Prop} : ∀ {l : List Nat}, oW p l → ∀ i ∈ l, p i
 | _ :: _, h, i, hi => by
  rcases List.mem_cons.1 hi with rfl | hi
  ·exact h.1
  ·exact oW.all h.2 i hi
section
variable {P : Program} {N : Nat} {F : Bg} {L : List Ent} {M : Fr} {ops : Array Oper} {Q : Exit → Act → World → Prop} {fuel : Nat} {listed : Array Bool}
def nK (n m : Nat) : Array Bool := (Array.range n).map fun i => m.testBit i
structure Tr.AnyG (P : Program) (N : Nat) (F : Bg) (L : List Ent) (M : Fr) (ops : Array Oper) (Q : Exit → Act → World → Prop) (S : World → Prop) (fuel n m : Nat) : Prop where
 get : Tr N F L M (wpAnyH P .any ops Q S fuel (nK n m))
structure Tr.OpG (P : Program) (N : Nat) (F : Bg) (L : List Ent) (M : Fr) (ops : Array Oper) (Q : Exit → Act → World → Prop) (S : World → Prop) (fuel n m i : Nat) : Prop where
 get : Tr N F L M (fun a w => wpOp P ops Q i (fun a' w' => S w' ∧ wpAnyH P .any ops Q S fuel ((nK n m).setIfInBounds i true) a' w') a w)
theorem Ji {S : World → Prop} (n : Nat) (k : Tr.AnyG P N F L M ops Q S fuel n 0) (e : listed = nK n 0 := by decide +kernel) : Tr N F L M (wpAnyH P .any ops Q S fuel listed) := by
 subst e; exact k.get
theorem gU {S : World → Prop} {n : Nat} (m : Nat) (k : Tr.AnyG P N F L M ops Q S fuel n m) : Tr.AnyG P N F L M ops Q S fuel n m := k
theorem mT {S : World → Prop} {n m : Nat} (i : Nat) (k : Tr.OpG P N F L M ops Q S fuel n m i) : Tr.OpG P N F L M ops Q S fuel n m i := k
theorem pX {S : World → Prop} {n m : Nat} {o : Oper} {i : Nat} (hi : ops[i]? = some o) (h : Tr N F L M (wpList P ops (Exit.then (fun a' w' => S w' ∧ wpAnyH P .any ops Q S fuel (nK n (m + 2 ^ i)) a' w') Q) [o]))
  (e : (nK n m).setIfInBounds i true = nK n (m + 2 ^ i) := by decide +kernel) : Tr.OpG P N F L M ops Q S fuel n m i := ⟨by rw [e]; exact bj hi h⟩
theorem Ia {S : World → Prop} {n m : Nat} (rs : List Nat) (hr : Region.ready .any ops (nK n m) = rs) (h : oW (fun i => Tr.OpG P N F L M ops Q S fuel n m i) rs)
  (hne : rs ≠ [] := by simp) : Tr.AnyG P N F L M ops Q S (fuel + 1) n m := ⟨yQ rs hr hne fun i hi => (oW.all h i hi).get⟩
theorem mz {S : World → Prop} {n m : Nat} (rs : List Nat) (h : oW (fun i => Tr.OpG P N F L M ops Q S fuel n m i) rs) (hr : Region.ready .any ops (nK n m) = rs := by kernel_rfl) (hne : rs ≠ [] := by simp) : Tr.AnyG P N F L M ops Q S (fuel + 1) n m := Ia rs hr h hne
theorem GP {S : World → Prop} {n m : Nat} (hr : Region.ready .any ops (nK n m) = []) (h : Tr N F L M (Q .normal)) : Tr.AnyG P N F L M ops Q S fuel n m := ⟨AP hr h⟩
variable {L0 : List Ent} {op : Op} {ty : TypeId} {pos : String} {after : Array Edge} {d : Nat}
theorem tR {n m : Nat} (k : Tr.AnyG P N F L M ops Q (HpOK F L0) fuel n m) (hL : Pick L L0 := by repeat' (first | exact Pick.nil _ | exact Del.here _ | apply Pick.cons | apply Del.there)) :
  Tr N F L M (wpList P ops (Exit.then (fun a w => HpOK F L0 w ∧ wpAnyH P .any ops Q (HpOK F L0) fuel (nK n m) a w) Q) []) := AO hL k.get
theorem tQ {v : Value} {n m : Nat} (i : Nat) (hi : ops[i]? = some ⟨some d, op, ty, pos, after, none⟩) (hB : takeB ops (nK n m) i = true) (hQ : ∀ c a d v w, Q (.panic c) (a.put d v) w → Q (.panic c) a w)
  (h : QS P N F L0 M ⟨some d, op, ty, pos, after, none⟩ v) (k : Tr.AnyG P N F L ((d, v) :: M) ops Q (HpOK F L0) fuel n (m + 2 ^ i))
  (e : (nK n m).setIfInBounds i true = nK n (m + 2 ^ i) := by decide +kernel)
  (hp : mF op = true := by rfl) (hd : Nat.ble (d + 1) N = true := by rfl) (hL : Pick L L0 := by repeat' (first | exact Pick.nil _ | exact Del.here _ | apply Pick.cons | apply Del.there)) :
  Tr.AnyG P N F L M ops Q (HpOK F L0) (fuel + 1) n m := ⟨AN i hi hB hQ hp h hL hd (by rw [e]; exact k.get)⟩
end
def lC (r : RV UInt32) : TabV := ⟨r.data, r.dp, r.dc⟩
theorem EM {h : Hp} {rs : List (RV UInt32)} {V : Value} (s : Sl h dL rs V) : Sl h gi (rs.map lC) V := by
 obtain ⟨⟨a, c, h1, h2, h3, h4⟩, hc⟩ := s
 refine ⟨⟨a, c, by rw [List.length_map]; exact h1, by rw [List.length_map]; exact h2, h3, fun e => h4 (fun q => e (by rw [q]; rfl))⟩, fun i x hx => ?_⟩
 rw [List.getElem?_map] at hx
 cases hr : rs[i]? with
 | none => rw [hr] at hx; cases hx
 | some r =>
  rw [hr] at hx
  simp only [Option.map_some, Option.some.injEq] at hx
  subst hx
  exact hc i r hr
theorem EN {h : Hp} {rs : List (RV UInt32)} (s : RvIn ao h rs) : TabIn h (rs.map lC) := fun t ht => by
 obtain ⟨r, hr, rfl⟩ := List.mem_map.1 ht
 exact s r hr
def l9 (ins : List Ins) (ls : List (List UInt32)) : List UInt32 := ls.flatMap fun t => t.filter (inK ins)
def kC (ins : List Ins) (ents : List UInt32) (ts : List (List UInt32)) : List UInt32 := fM (gh (l9 ins (ents :: ts)))
def kX (ins : List Ins) (ls : List TabV) (k j : Nat) : List UInt32 := l9 ins ((ls.map (·.data)).take k) ++ (((ls.map (·.data)).getD k []).take j).filter (inK ins)
theorem Bd (ins : List Ins) (ls : List TabV) {k : Nat} (hk : k < ls.length) {j : Nat} (hj : ((ls.map (·.data)).getD k []).length ≤ j) : kX ins ls k j = kX ins ls (k + 1) 0 := by
 unfold kX l9
 rw [List.take_of_length_le hj, show (k + 1 : Nat) = k + 1 from rfl, dm (l := ls.map (·.data)) (k := k) (by rw [List.length_map]; exact hk), List.flatMap_append]
 simp
 rfl
theorem DC {ins : List Ins} {ls : List TabV} {k j : Nat} (hj : j < (ls.getD k default).data.length) (h : inK ins ((ls.getD k default).data.getD j default) = true) : kX ins ls k (j + 1) = kX ins ls k j ++ [(ls.getD k default).data.getD j default] := by
 have e : (ls.map (·.data)).getD k [] = (ls.getD k default).data := by
  simp only [List.getD_eq_getElem?_getD, List.getElem?_map]
  cases ls[k]? <;> rfl
 unfold kX
 rw [e, dm hj, List.filter_append, List.filter_cons, if_pos h, List.filter_nil, List.append_assoc]
theorem E2 {ins : List Ins} {ls : List TabV} {k j : Nat} (hj : j < (ls.getD k default).data.length) (h : inK ins ((ls.getD k default).data.getD j default) = false) : kX ins ls k (j + 1) = kX ins ls k j := by
 have e : (ls.map (·.data)).getD k [] = (ls.getD k default).data := by
  simp only [List.getD_eq_getElem?_getD, List.getElem?_map]
  cases ls[k]? <;> rfl
 unfold kX
 rw [e, dm hj, List.filter_append, List.filter_cons, if_neg (by rw [h]; simp), List.filter_nil, List.append_nil]
theorem om (ins : List Ins) : ∀ {ls : List (List UInt32)} {n : Nat}, (∀ t ∈ ls, t.length ≤ n) → (l9 ins ls).length ≤ ls.length * n
 | [], n, _ => by simp [l9]
 | t :: ls, n, h => by
  have ih := om ins (ls := ls) (n := n) fun x hx => h x (.tail _ hx)
  have h1 := h t (.head _)
  have h2 := List.length_filter_le (inK ins) t
  unfold l9 at *
  rw [List.flatMap_cons, List.length_append, List.length_cons, Nat.add_mul]
  omega
theorem DD {ins : List Ins} {ls : List TabV} {k j n : Nat} (h : ∀ t ∈ ls, t.data.length ≤ n) (hk : k < ls.length) : (kX ins ls k j).length ≤ (k + 1) * n := by
 unfold kX
 rw [List.length_append]
 have h1 := om ins (ls := (ls.map (·.data)).take k) (n := n) (fun t ht => by
  obtain ⟨r, hr, rfl⟩ := List.mem_map.1 (List.mem_of_mem_take ht)
  exact h r hr)
 rw [List.length_take, List.length_map] at h1
 have h2 : (((ls.map (·.data)).getD k []).take j).length ≤ n := by
  rw [List.length_take]
  have e : (ls.map (·.data)).getD k [] = (ls.getD k default).data := by
   simp only [List.getD_eq_getElem?_getD, List.getElem?_map]
   cases ls[k]? <;> rfl
  rw [e]
  have := h _ (cM (l := ls) hk)
  omega
 have h3 := List.length_filter_le (inK ins) (((ls.map (·.data)).getD k []).take j)
 have h4 : min k ls.length * n ≤ k * n := Nat.mul_le_mul_right _ (Nat.min_le_left _ _)
 rw [Nat.add_mul]; omega
theorem DF (ins : List Ins) (ls : List TabV) : kX ins ls ls.length 0 = l9 ins (ls.map (·.data)) := by
 unfold kX
 rw [List.take_zero, List.filter_nil, List.append_nil, List.take_of_length_le (by rw [List.length_map]; exact Nat.le_refl _)]
def mA (ins : List Ins) : List UInt32 → Int
 | [] => 0
 | r :: t => if (eR ins r 4096).2 ≠ 0 then (eR ins r 4096).2 else mA ins t
theorem sX {ins : List Ins} : ∀ {rts : List UInt32} {k : Nat}, mA ins (rts.take k) = 0 → k < rts.length → mA ins (rts.take (k + 1)) = (eR ins (rts.getD k default) 4096).2
 | [], k, _, h => by simp at h
 | r :: t, 0, _, _ => by
  simp only [List.take_succ_cons, List.take_zero, mA, List.getD_cons_zero]
  split
  ·rfl
  ·rename_i q; simp only [ne_eq, Decidable.not_not] at q; rw [q]
 | r :: t, k + 1, h, hk => by
  simp only [List.take_succ_cons, mA] at h ⊢
  split at h
  ·rename_i q; exact absurd h q
  ·rename_i q
   rw [if_neg q, List.getD_cons_succ]
   exact sX h (by simpa using hk)
theorem Al {ins : List Ins} : ∀ {rts : List UInt32} {k : Nat}, mA ins (rts.take k) ≠ 0 → mA ins rts = mA ins (rts.take k)
 | [], k, h => by simp [mA] at h
 | r :: t, 0, h => by simp [mA] at h
 | r :: t, k + 1, h => by
  simp only [List.take_succ_cons, mA] at h ⊢
  split
  ·rfl
  ·rename_i q
   rw [if_neg q] at h
   exact Al h
def kN (ins : List Ins) (rts : List UInt32) : List (List StV) := rts.map fun r => (eR ins r 4096).1
def H4 (ins : List Ins) (a : UInt32) (b : StV × Bool) (s : List StV) : StV × Bool :=
 if (jx ins s a).2 = true then (if b.2 = true then (jh b.1 (jx ins s a).1 8, true) else ((jx ins s a).1, true)) else b
def tf (ins : List Ins) (a : UInt32) (ss : List (List StV)) : StV × Bool := ss.foldl (H4 ins a) (gI, false)
structure FndV where
 ts : List (List UInt32)
 at_ : List UInt32
def k6 (l : List SecV) (ins : List Ins) (ss : List (List StV)) (f : FndV) (i : Ins) : FndV :=
 if vr i = true ∧ (tf ins i.addr ss).2 = true ∧ (cC l i ((tf ins i.addr ss).1.get i.a)).2 = 0
 then ⟨f.ts ++ [(cC l i ((tf ins i.addr ss).1.get i.a)).1], f.at_ ++ [i.addr]⟩ else f
def nN (l : List SecV) (ins : List Ins) (ss : List (List StV)) (xs : List Ins) : FndV := xs.foldl (k6 l ins ss) ⟨[], []⟩
def sE (l : List SecV) (c : CodeP) (ts : List (List UInt32)) : CodeP × FndV × Int :=
 if mA (gJ c.ins c.ents c.unk c.bad).kept (kC (gJ c.ins c.ents c.unk c.bad).kept (gJ c.ins c.ents c.unk c.bad).ents ts) ≠ 0
 then (⟨[], [], [], []⟩, ⟨[], []⟩, mA (gJ c.ins c.ents c.unk c.bad).kept (kC (gJ c.ins c.ents c.unk c.bad).kept (gJ c.ins c.ents c.unk c.bad).ents ts))
 else (⟨(gJ c.ins c.ents c.unk c.bad).kept, (gJ c.ins c.ents c.unk c.bad).ents, (gJ c.ins c.ents c.unk c.bad).unk, (gJ c.ins c.ents c.unk c.bad).bad⟩,
  nN l (gJ c.ins c.ents c.unk c.bad).kept (kN (gJ c.ins c.ents c.unk c.bad).kept (kC (gJ c.ins c.ents c.unk c.bad).kept (gJ c.ins c.ents c.unk c.bad).ents ts)) (gJ c.ins c.ents c.unk c.bad).kept, 0)
def RoundIs (l : List SecV) (es : List UInt32) (ts : List TabV) (at_ : List UInt32) (o : CodeP × FndV × Int) : Prop :=
 ∃ c e, WalkIs l ts at_ es c e ∧ if e ≠ 0 then o = (⟨[], [], [], []⟩, ⟨[], []⟩, e) else o = sE l c (ts.map (·.data))
theorem xj {l : List SecV} {ts : List TabV} {at_ es : List UInt32} {c : CodeP} {e : Int} (hT : pY ts) (h : WalkIs l ts at_ es c e) : (c.ins.length ≤ totD l ∧ c.ents.length ≤ totD l) ∧ c.unk.length ≤ totD l ∧ c.bad.length ≤ es.length + totD l * 66 := by
 cases h with
 | arg h1 h2 h3 => subst h3; simp
 | chk h0 h1 h2 h3 => subst h3; simp
 | ok h0 h1 h2 h =>
  have key : ∀ xs : List UInt32, xs.Pairwise (· < ·) → (∀ a ∈ xs, (atP l a).2 = true) → xs.length ≤ totD l := fun xs h1 h2 => by
   rw [← uM]; exact nI (rL h1) (fun a ha => yF (h2 a ha))
  refine ⟨⟨?_, key _ h.ents.1 (fun a ha => ((h.ents.2 a).1 ha).1.2)⟩, key _ h.unk.1 (fun a ha => ((h.unk.2 a).1 ha).1.2), ?_⟩
  ·obtain ⟨ks, k1, k2, k3⟩ := h.ins
   rw [k3, List.length_map]; exact key ks k1 (fun a ha => ((k2 a).1 ha).2)
  ·have hsub : ∀ a ∈ c.bad, a ∈ es ++ (wE l).flatMap (fun b => kA ts at_ (atP l b).1) := fun a ha => by
    cases ((h.bad.2 a).1 ha).1 with
    | ent a q => exact List.mem_append_left _ q
    | step b a q1 q2 q3 => exact List.mem_append_right _ (List.mem_flatMap.2 ⟨b, yF q2, q3⟩)
   have h1 := nI (rL h.bad.1) hsub
   rw [List.length_append] at h1
   have h2 : ∀ xs : List UInt32, (xs.flatMap (fun b => kA ts at_ (atP l b).1)).length ≤ xs.length * 66 := by
    intro xs
    induction xs with
    | nil => simp
    | cons x xs ih =>
     rw [List.flatMap_cons, List.length_append, List.length_cons]
     have := vk hT at_ (atP l x).1
     omega
   have h3 := h2 (wE l)
   rw [uM] at h3
   omega
theorem uH {l : List SecV} {ts : List TabV} {at_ es : List UInt32} {c : CodeP} {e : Int} (h : WalkIs l ts at_ es c e) : ∀ x ∈ c.ins, InsOK x := by
 cases h with
 | arg h1 h2 h3 => subst h3; intro x hx; cases hx
 | chk h0 h1 h2 h3 => subst h3; intro x hx; cases hx
 | ok h0 h1 h2 h =>
  obtain ⟨ks, k1, k2, k3⟩ := h.ins
  intro x hx
  rw [k3] at hx
  obtain ⟨a, _, rfl⟩ := List.mem_map.1 hx
  exact Iw l a
theorem wV (ins : List Ins) (ents unk bad : List UInt32) : ((gJ ins ents unk bad).kept.length ≤ ins.length ∧ (gJ ins ents unk bad).ents.length ≤ ents.length) ∧ (gJ ins ents unk bad).unk.length ≤ unk.length ∧ (gJ ins ents unk bad).bad.length = bad.length := by
 refine ⟨⟨?_, List.length_filter_le _ _⟩, List.length_filter_le _ _, rfl⟩
 show (mC _ _).length ≤ _
 rw [lH kW]
 exact Nat.le_trans (sQ _) (Nat.le_trans (Nat.le_of_eq (yd (lZ ents _) _)) (vD ins))
theorem FH {ins : List Ins} {ents unk bad : List UInt32} {x : Ins} (h : x ∈ (gJ ins ents unk bad).kept) : x ∈ ins := vC (IG h)
theorem yB {α : Type} [DecidableEq α] : ∀ l : List α, (fM l).length ≤ l.length
 | [] => Nat.le_refl _
 | x :: t => by
  have : ∀ (t : List α) (x : α), (nR x t).length ≤ t.length := by
   intro t
   induction t with
   | nil => intro x; simp [nR]
   | cons y t ih =>
    intro x
    unfold nR
    split
    ·have := ih x; simp only [List.length_cons]; omega
    ·have := ih y; simp only [List.length_cons]; omega
  have := this t x
  simp only [fM, List.length_cons]; omega
theorem qq {l : List SecV} {ins : List Ins} {ss : List (List StV)} {f : FndV} {i : Ins} (h : vr i = false) : k6 l ins ss f i = f := if_neg (fun q => by rw [h] at q; cases q.1)
theorem qp {l : List SecV} {ins : List Ins} {ss : List (List StV)} {f : FndV} {i : Ins} {b : StV} (h : (b, false) = tf ins i.addr ss) : k6 l ins ss f i = f := if_neg (fun q => by rw [← h] at q; cases q.2.1)
theorem qu {l : List SecV} {ins : List Ins} {ss : List (List StV)} {f : FndV} {i : Ins} {b : StV} {k : Bool} (h : (b, k) = tf ins i.addr ss) (h2 : (cC l i (b.get i.a)).2 ≠ 0) : k6 l ins ss f i = f := if_neg (fun q => by rw [← h] at q; exact h2 q.2.2)
theorem qo {l : List SecV} {ins : List Ins} {ss : List (List StV)} {f : FndV} {i : Ins} {b : StV} (h1 : vr i = true) (h : (b, true) = tf ins i.addr ss) (h2 : (cC l i (b.get i.a)).2 = 0) : k6 l ins ss f i = ⟨f.ts ++ [(cC l i (b.get i.a)).1], f.at_ ++ [i.addr]⟩ := by
 unfold k6; rw [← h]; exact if_pos ⟨h1, rfl, h2⟩
theorem xt {ins : List Ins} {a : UInt32} {ss : List (List StV)} {q : Nat} (hq : q < ss.length) : tf ins a (ss.take (q + 1)) = H4 ins a (tf ins a (ss.take q)) (ss.getD q default) := qn _ _ _ hq
theorem BE {l : List SecV} {ins : List Ins} {ss : List (List StV)} {xs : List Ins} {k : Nat} (hk : k < xs.length) : nN l ins ss (xs.take (k + 1)) = k6 l ins ss (nN l ins ss (xs.take k)) (xs.getD k default) := qn _ _ _ hk
def D6 (cmp : Ins → Ins → Int) (x y : Ins) : Bool := decide (cmp x y < 0)
theorem EB : WO (D6 lO) where
 irr := fun x => by simp [D6, lO, vG]
 tr := fun x y z h1 h2 => by
  simp only [D6, decide_eq_true_eq, lO, uw, UInt32.lt_iff_toNat_lt] at *; omega
 ntr := fun x y z h1 h2 => by
  simp only [D6, decide_eq_false_iff_not, lO, uw, UInt32.lt_iff_toNat_lt] at *; omega
theorem w8 (l : List SecV) (ins : List Ins) (ss : List (List StV)) : ∀ (xs : List Ins), (nN l ins ss xs).ts.length ≤ xs.length ∧ (nN l ins ss xs).at_.length ≤ xs.length := by
 have key : ∀ (xs : List Ins) (f : FndV), (xs.foldl (k6 l ins ss) f).ts.length ≤ f.ts.length + xs.length ∧ (xs.foldl (k6 l ins ss) f).at_.length ≤ f.at_.length + xs.length := by
  intro xs
  induction xs with
  | nil => intro f; simp
  | cons x xs ih =>
   intro f
   have h := ih (k6 l ins ss f x)
   have h2 : (k6 l ins ss f x).ts.length ≤ f.ts.length + 1 ∧ (k6 l ins ss f x).at_.length ≤ f.at_.length + 1 := by
    unfold k6
    split
    ·simp
    ·omega
   simp only [List.foldl_cons, List.length_cons]; omega
 intro xs
 have := key xs ⟨[], []⟩
 simpa [nN] using this
theorem pp {l : List SecV} {i : Ins} {x : VSet} : (cC l i x).1.length ≤ 64 := by
 unfold cC
 split
 ·simp
 split
 ·simp
 split
 ·simp
 split
 ·split
  ·simp
  ·rename_i h
   exact xf (by simpa using (fun q => h (.inl q)))
 split
 ·simp
 ·rename_i h
  split
  ·simp
  ·rename_i out ho
   have := pw ho
   rw [UInt32.not_le, UInt32.lt_iff_toNat_lt] at h
   have e : (64 : UInt32).toNat = 64 := rfl
   show out.length ≤ 64
   omega
theorem Ef (l : List SecV) (ins : List Ins) (ss : List (List StV)) (xs : List Ins) : ∀ t ∈ (nN l ins ss xs).ts, t.length ≤ 64 := by
 have key : ∀ (xs : List Ins) (f : FndV), (∀ t ∈ f.ts, t.length ≤ 64) → ∀ t ∈ (xs.foldl (k6 l ins ss) f).ts, t.length ≤ 64 := by
  intro xs
  induction xs with
  | nil => intro f h; exact h
  | cons x xs ih =>
   intro f h
   refine ih _ ?_
   unfold k6
   split
   ·intro t ht
    rcases List.mem_append.1 ht with ht | ht
    ·exact h t ht
    ·rw [List.mem_singleton.1 ht]; exact pp
   ·exact h
 exact key xs ⟨[], []⟩ (fun t ht => by cases ht)
theorem Bb {l : List SecV} {c : CodeP} {ts : List (List UInt32)} {R : ResV} (hR : R = gJ c.ins c.ents c.unk c.bad) (h : mA R.kept (kC R.kept R.ents ts) ≠ 0) : sE l c ts = (⟨[], [], [], []⟩, ⟨[], []⟩, mA R.kept (kC R.kept R.ents ts)) := by
 subst hR; exact if_pos h
theorem Dw {l : List SecV} {c : CodeP} {ts : List (List UInt32)} {R : ResV} (hR : R = gJ c.ins c.ents c.unk c.bad) (h : mA R.kept (kC R.kept R.ents ts) = 0) : sE l c ts = (⟨R.kept, R.ents, R.unk, R.bad⟩, nN l R.kept (kN R.kept (kC R.kept R.ents ts)) R.kept, 0) := by
 subst hR; exact if_neg (fun q => q h)
theorem zk {ins : List Ins} {rts : List UInt32} {k : Nat} (hk : k < rts.length) : kN ins (rts.take (k + 1)) = kN ins (rts.take k) ++ [(eR ins (rts.getD k default) 4096).1] := by
 unfold kN; rw [dm hk, List.map_append]; rfl
theorem Dy {ins : List Ins} {ents : List UInt32} {ts : List (List UInt32)} (h1 : ents.length ≤ 700) (h2 : ∀ t ∈ ts, t.length ≤ 700) (h3 : ts.length ≤ 700) : (kC ins ents ts).length ≤ 490700 := by
 have h := om ins (ls := ents :: ts) (n := 700) (fun t ht => by
  rcases List.mem_cons.1 ht with rfl | ht
  ·exact h1
  ·exact h2 t ht)
 rw [List.length_cons] at h
 have h4 := yB (gh (l9 ins (ents :: ts)))
 rw [rn] at h4
 have h5 : (ts.length + 1) * 700 ≤ 701 * 700 := Nat.mul_le_mul_right _ (by omega)
 unfold kC; omega
theorem B6 {α : Type} {N : Nat} {F : Bg} {A : List Ent} {M : Fr} {X : Act → World → Prop} {f : α → Ent} {rs : List α} (r : α) (K : Tr N F (A ++ ((rs ++ [r]).map f ++ [])) M X) : Tr N F (f r :: (A ++ (rs.map f ++ []))) M X := by
 refine qD (L' := A ++ ((rs ++ [r]).map f ++ [])) ?_ K
 rw [List.append_nil, List.append_nil, List.map_append, ← List.append_assoc]
 exact List.perm_append_comm
end Go.HL
namespace Go.Proofs.YtiajjbhcpeadfaaGreat
open Go Go.HL Go.RowKit
theorem xd (l n2 : List UInt32) (V W : Value) (w : World) (hV : Sl (hp w) ao l V) (hW : Sl (hp w) ao n2 W) :
  Calls Tryz.prog 111 #[V, W] w (fun e w' => e = .returned (.bool (decide (l = n2))) ∧ Ext w w') := by
 have hV' : Sl (Bg.of w).blk ao l V := hV
 have hW' : Sl (Bg.of w).blk ao n2 W := hW
 have hlen := hV.len_le
 refine enter Tryz.func111 rfl Tryz.ntmps111 rfl ?_
 refine af (zz0 (ab rfl) (ad (al (af (zz0 (aa rfl) (zz0 (gW rfl ah) ?_))))))
 refine zz0 (aa rfl) (zz0 (gW rfl ah) ?_)
 refine zz0 (fV rfl rfl) (ad ?_)
 refine ar rfl ?_ ?_ <;> intro h1 <;> try simp only [bs] at h1
 ·have hq := h1
  refine af (zz0 (ab rfl) (ad (aB (ay ?_))))
  refine aV nr rfl (fun w' hw => ?_)
  exact ⟨by rw [decide_eq_false (fun e => hq (by rw [e]))], hw.b0⟩
 ·have hq := h1
  refine bF (al (af (zz0 (aa rfl) (zz0 (gW rfl ah) ?_))))
  refine zz0 (aa rfl) (ad (aF ?_))
  refine bL (ι := Nat) (fun k => k ≤ l.length ∧ l.take k = n2.take k) (fun _ => _) (fun k => []) (fun k => [(13, .int .i64 (k : Nat))]) (fun k => l.length - k) 0 ⟨Nat.zero_le _, rfl⟩ (Front.c Front.nil) (by repeat' constructor) rfl (fun k hi m hm => ?_)
  replace hi : k ≤ l.length ∧ l.take k = n2.take k := hi
  replace hm : m = l.length - k := hm
  change Tr _ _ [] ([(13, .int .i64 (k : Nat))] ++ _) _
  obtain ⟨hk1, hk2⟩ := hi
  refine af (zz0 (bU rfl rfl) (ad (al ?_)))
  refine ar rfl ?_ ?_ <;> intro h2 <;> try simp only [bs] at h2
  ·refine bF (al (aF (af (zz0 (aa rfl) (zz0 (ab rfl) (ad (al (io aQ ?_))))))))
   refine aw (aa rfl) (aw (aa rfl) (aw (je rfl rfl ah ae) ?_))
   refine aw (j2 rfl am) ?_
   refine aw (aa rfl) (aw (aa rfl) (aw (je rfl rfl ah ae) ?_))
   refine aw (j2 rfl am) ?_
   refine aw (jW rfl rfl) ?_
   refine bK ?_
   refine ac ?_
   refine ar rfl ?_ ?_ <;> intro h3 <;> try simp only [bs] at h3
   ·have hq2 := h3
    refine af (zz0 (ab rfl) (ad (aB (bA (ay (ay (bA (ay ?_))))))))
    refine aV nr rfl (fun w' hw => ?_)
    exact ⟨by rw [decide_eq_false (fun e => hq2 (by rw [e]))], hw.b0⟩
   ·have hq2 := h3
    refine cg (aX (ac (an (zz0 (cp rfl rfl) ?_))))
    refine zz0 (aa rfl) (ad ?_)
    refine cH (k + 1) (Front.c Front.nil) (bC 15 rfl) (o := ⟨by omega, by rw [dm (by omega), dm (by omega), hk2, show l.getD k default = n2.getD k default by first | exact hq2 | simp_all]⟩)
  ·refine bJ (aG (aG (bv (ac (af (zz0 (ab rfl) (ad (aB ?_))))))))
   refine aV nr rfl (fun w' hw => ?_)
   exact ⟨by rw [decide_eq_true (show l = n2 by rw [← List.take_length (l := l), ← List.take_length (l := n2), show n2.length = l.length by omega, show l.length = k by omega]; exact hk2)], hw.b0⟩
theorem EW (l n2 : List UInt32) (V W : Value) (w : World) (hV : Sl (hp w) ao l V) (hW : Sl (hp w) ao n2 W) :
  Calls Tryz.prog 113 #[V, W] w (fun e w' => e = .returned (.bool (decide (l = n2))) ∧ Ext w w') := by
 have hV' : Sl (Bg.of w).blk ao l V := hV
 have hW' : Sl (Bg.of w).blk ao n2 W := hW
 refine enter Tryz.func113 rfl Tryz.ntmps113 rfl ?_
 refine af (zz0 (ab rfl) (aH (zz0 (aa rfl) (zz0 (aa rfl) (zz0 (aA rfl Tryz.call111 (fun w hw => xd l n2 V W w (hw.slF hV') (hw.slF hW'))) ?_)))))
 refine zz0 (ab rfl) (ad (aB ?_))
 refine aV Tryz.results113 rfl (fun w' hw => ?_)
 exact ⟨rfl, hw.b0⟩
theorem we (l n2 : List TabV) (V W : Value) (w : World) (hV : Sl (hp w) gi l V) (hW : Sl (hp w) gi n2 W) (hI : TabIn (hp w) l) (hJ : TabIn (hp w) n2) :
  Calls Tryz.prog 112 #[V, W, .func (.func 113) #[] #[]] w (fun e w' => e = .returned (.bool (decide (l.map (·.data) = n2.map (·.data)))) ∧ Ext w w') := by
 have hV' : Sl (Bg.of w).blk gi l V := hV
 have hW' : Sl (Bg.of w).blk gi n2 W := hW
 have hI' : TabIn (Bg.of w).blk l := hI
 have hJ' : TabIn (Bg.of w).blk n2 := hJ
 have hlen := hV.len_le
 refine enter Tryz.func112 rfl Tryz.ntmps112 rfl ?_
 refine af (zz0 (ab rfl) (ad (al (af (zz0 (aa rfl) (zz0 (gW rfl dE) ?_))))))
 refine zz0 (aa rfl) (zz0 (gW rfl dE) ?_)
 refine zz0 (fV rfl rfl) (ad ?_)
 refine ar rfl ?_ ?_ <;> intro h1 <;> try simp only [bs] at h1
 ·have hq := h1
  refine af (zz0 (ab rfl) (ad (aB (ay ?_))))
  refine aV nq rfl (fun w' hw => ?_)
  exact ⟨by rw [decide_eq_false (fun e => hq (by have := congrArg List.length e; rw [List.length_map, List.length_map] at this; rw [this]))], hw.b0⟩
 ·have hq := h1
  refine bF (al (af (zz0 (aa rfl) (zz0 (gW rfl dE) ?_))))
  refine zz0 (aa rfl) (ad (aF ?_))
  refine bL (ι := Nat) (fun k => k ≤ l.length ∧ (l.map (·.data)).take k = (n2.map (·.data)).take k) (fun _ => _) (fun k => []) (fun k => [(17, .int .i64 (k : Nat))]) (fun k => l.length - k) 0 ⟨Nat.zero_le _, rfl⟩ (Front.c Front.nil) (by repeat' constructor) rfl (fun k hi m hm => ?_)
  replace hi : k ≤ l.length ∧ (l.map (·.data)).take k = (n2.map (·.data)).take k := hi
  replace hm : m = l.length - k := hm
  change Tr _ _ [] ([(17, .int .i64 (k : Nat))] ++ _) _
  obtain ⟨hk1, hk2⟩ := hi
  have hgl : ∀ q : List TabV, (q.map (·.data)).getD k default = (q.getD k default).data := fun q => by
   simp only [List.getD_eq_getElem?_getD, List.getElem?_map]
   cases q[k]? <;> rfl
  refine af (zz0 (bU rfl rfl) (ad (al ?_)))
  refine ar rfl ?_ ?_ <;> intro h2 <;> try simp only [bs] at h2
  ·refine bF (al (aF (af (zz0 (aa rfl) (zz0 (je rfl rfl dE cP) ?_)))))
   refine zz0 (j2 rfl dV) ?_
   refine zz0 (ab rfl) (zz0 (ab rfl) (aH (zz0 (aa rfl) (zz0 (aa rfl) (zz0 (je rfl rfl dE cP) ?_)))))
   refine zz0 (j2 rfl dV) ?_
   refine zz0 (ab rfl) (aH (zz0 (aa rfl) (zz0 (aa rfl) (zz0 (aa rfl) (zz0 (iC rfl rfl Tryz.call113 (fun w hw => EW (l.getD k default).data (n2.getD k default).data _ _ w (hw.slF (hI' _ (cM (by omega)))) (hw.slF (hJ' _ (cM (by omega)))))) ?_)))))
   refine zz0 (cQ rfl) (ad ?_)
   refine ar rfl ?_ ?_ <;> intro h3 <;> try simp only [bs] at h3
   ·have hq2 := h3
    refine af (zz0 (ab rfl) (ad (aB (bA (ay (ay (bA (ay ?_))))))))
    refine aV nq rfl (fun w' hw => ?_)
    exact ⟨by rw [decide_eq_false (fun e => hq2 (by rw [← hgl, ← hgl, e]))], hw.b0⟩
   ·have hq2 := h3
    refine cg (aX (ac (an (zz0 (cp rfl rfl) ?_))))
    refine zz0 (aa rfl) (ad ?_)
    refine cH (k + 1) (Front.c Front.nil) (bC 19 rfl) (o := ⟨by omega, by rw [dm (by rw [List.length_map]; omega), dm (by rw [List.length_map]; omega), hk2, hgl, hgl, show (l.getD k default).data = (n2.getD k default).data by first | exact hq2 | simp_all]⟩)
  ·refine bJ (aG (aG (bv (ac (af (zz0 (ab rfl) (ad (aB ?_))))))))
   refine aV nq rfl (fun w' hw => ?_)
   exact ⟨by rw [decide_eq_true (show l.map (·.data) = n2.map (·.data) by rw [← List.take_length (l := l.map (·.data)), ← List.take_length (l := n2.map (·.data)), List.length_map, List.length_map, show n2.length = l.length by omega, show l.length = k by omega]; exact hk2)], hw.b0⟩
theorem Hj (x0 x1 x2 x3 : Option Addr) (xn0 xc0 xn1 xc1 xn2 xc2 xn3 xc3 : Nat) (y0 y1 y2 y3 : Option Addr) (yn0 yc0 yn1 yc1 yn2 yc2 yn3 yc3 : Nat) (ts us : List TabV) (at_ bt_ : List UInt32) (pt pa qt qa : Option Addr) (ct ca dt da : Nat) (w : World) (h1 : Sl (hp w) gi ts (.slice pt ts.length ct)) (h2 : TabIn (hp w) ts) (h3 : Sl (hp w) ao at_ (.slice pa at_.length ca)) (k1 : Sl (hp w) gi us (.slice qt us.length dt)) (k2 : TabIn (hp w) us) (k3 : Sl (hp w) ao bt_ (.slice qa bt_.length da)) :
  Calls Tryz.prog 53 #[.agg #[.slice x0 xn0 xc0, .slice x1 xn1 xc1, .slice x2 xn2 xc2, .slice x3 xn3 xc3, .slice pt ts.length ct, .slice pa at_.length ca], .agg #[.slice y0 yn0 yc0, .slice y1 yn1 yc1, .slice y2 yn2 yc2, .slice y3 yn3 yc3, .slice qt us.length dt, .slice qa bt_.length da]] w (fun e w' => e = .returned (.bool (decide (at_ = bt_) && decide (ts.map (·.data) = us.map (·.data)))) ∧ Ext w w') := by
 have h1' : Sl (Bg.of w).blk gi ts (.slice pt ts.length ct) := h1
 have h2' : TabIn (Bg.of w).blk ts := h2
 have h3' : Sl (Bg.of w).blk ao at_ (.slice pa at_.length ca) := h3
 have k1' : Sl (Bg.of w).blk gi us (.slice qt us.length dt) := k1
 have k2' : TabIn (Bg.of w).blk us := k2
 have k3' : Sl (Bg.of w).blk ao bt_ (.slice qa bt_.length da) := k3
 refine enter Tryz.func53 rfl Tryz.ntmps53 rfl ?_
 refine af ?_
 refine dO rfl rfl (fun b1 => ?_)
 refine dO rfl rfl (fun b2 => ?_)
 refine zz0 (ab rfl) (aH (zz0 (zz3 (off := 5) (ft := 31) rfl cR rfl cP) ?_))
 refine zz0 (aJ rfl dV) ?_
 refine zz0 (zz3 (off := 5) (ft := 31) rfl cR rfl cP) ?_
 refine zz0 (aJ rfl dV) ?_
 refine zz0 (aA rfl Tryz.call111 (fun w hw => xd at_ bt_ _ _ w (hw.slF h3') (hw.slF k3'))) ?_
 refine zz0 (aa rfl) ?_
 apply cE
 ·exact (rfl : _ = (6, 10, 16))
 ·exact rfl
 ·intro hT3; have hT3' := hT3
  try simp only [bs] at hT3'
  refine zz5 hT3 (zz3 (off := 4) (ft := 53) rfl cR rfl gu) ?_
  refine zz5 hT3 (aJ rfl ka) ?_
  refine zz5 hT3 (zz3 (off := 4) (ft := 53) rfl cR rfl gu) ?_
  refine zz5 hT3 (aJ rfl ka) ?_
  refine zz5 hT3 (aA rfl Tryz.call112 (fun w hw => we ts us _ _ w (hw.slF h1') (hw.slF k1') (h2'.mono hw.bg) (k2'.mono hw.bg))) ?_
  refine zz0 (aS rfl hT3 rfl) ?_
  refine aD (ac ?_)
  exact aI (Sub.cons rfl (zz9 6 rfl))
 ·intro hF3
  refine zz8 hF3 (zz8 hF3 (zz8 hF3 (zz8 hF3 (zz8 hF3 (zz0 (aT rfl hF3 rfl) ?_)))))
  refine aD (ac ?_)
  exact aI (Sub.cons rfl (zz9 6 rfl))
 refine zz0 (ab rfl) (ad (aB ?_))
 refine aV Tryz.results53 rfl (fun w' hw => ?_)
 exact ⟨rfl, hw.b0⟩
theorem Dz (i : Ins) (a : UInt32) (b : Nat) (w : World) (hc : Cell (hp w) b 0 (.int .u32 a.toNat)) :
  Calls Tryz.prog 158 #[.agg (aO.enc i).toArray, .pointer (some ⟨b, 0, none⟩)] w (fun e w' => e = .returned (.bool (decide (i.addr = a))) ∧ Ext w w') := by
 have hc' : Cell (Bg.of w).blk b 0 (.int .u32 a.toNat) := hc
 refine enter Tryz.func158 rfl Tryz.ntmps158 rfl ?_
 refine af ?_
 refine dO rfl rfl (fun b1 => ?_)
 refine zz0 (ab rfl) (aH (zz0 (zz3 (off := 0) (ft := 23) rfl ak rfl ae) ?_))
 refine zz0 (aJ rfl am) ?_
 refine zz0 (nV rfl (by assumption) am) ?_
 refine zz0 (eN rfl rfl) ?_
 refine zz0 (ab rfl) (ad (aB ?_))
 refine aV Tryz.results158 rfl (fun w' hw => ?_)
 exact ⟨rfl, hw.b0⟩
theorem Dx (x y : Ins) (w : World) :
  Calls Tryz.prog 108 #[.agg (aO.enc x).toArray, .agg (aO.enc y).toArray] w (fun e w' => e = .returned (.int .i64 (lO x y)) ∧ Ext w w') := by
 refine enter Tryz.func108 rfl Tryz.ntmps108 rfl ?_
 refine af ?_
 refine dO rfl rfl (fun b1 => ?_)
 refine dO rfl rfl (fun b2 => ?_)
 refine zz0 (ab rfl) (ad (al (aF (af (zz0 (zz3 (off := 0) (ft := 23) rfl ak rfl ae) ?_)))))
 refine zz0 (aJ rfl am) ?_
 refine zz0 (zz3 (off := 0) (ft := 23) rfl ak rfl ae) ?_
 refine zz0 (aJ rfl am) ?_
 refine zz0 (iZ rfl rfl) ?_
 refine zz0 (ab rfl) (ad ?_)
 refine ar rfl ?_ ?_ <;> intro h3 <;> try simp only [bs] at h3
 ·refine af (zz0 (ab rfl) (ad (aB (bA (ay ?_)))))
  refine aV ns rfl (fun w' hw => ?_)
  exact ⟨by unfold lO vG; rw [if_pos (by assumption)], hw.b0⟩
 ·refine af (zz0 (zz3 (off := 0) (ft := 23) rfl ak rfl ae) ?_)
  refine zz0 (aJ rfl am) ?_
  refine zz0 (zz3 (off := 0) (ft := 23) rfl ak rfl ae) ?_
  refine zz0 (aJ rfl am) ?_
  refine zz0 (lk rfl rfl) ?_
  refine zz0 (ab rfl) (ad ?_)
  refine ar rfl ?_ ?_ <;> intro h4 <;> try simp only [bs] at h4
  ·refine af (zz0 (ab rfl) (ad (aB (bA (ay ?_)))))
   refine aV ns rfl (fun w' hw => ?_)
   exact ⟨by unfold lO vG; rw [if_neg (by assumption), if_pos (by assumption)], hw.b0⟩
  ·refine cg (aX (ac (af (zz0 (ab rfl) (ad (aB ?_))))))
   refine aV ns rfl (fun w' hw => ?_)
   exact ⟨by unfold lO vG; rw [if_neg (by assumption), if_neg (by assumption)], hw.b0⟩
theorem Au (l : List UInt32) (V : Value) (w : World) (hr : (rowE V 23 ao l).holds w) (hl : l.length ≤ 1000000) :
  Calls Tryz.prog 159 #[V] w (fun e w' => ∃ V', e = .returned V' ∧ V'.ownBlock = V.ownBlock ∧ Mut w w' V ∧ (rowE V' 23 ao (fM l)).holds w') := by
 refine fL (l := l) (E := ao) (T := 23) hr Tryz.func159 rfl Tryz.ntmps159 rfl ?_
 refine af (zz0 (ab rfl) (ad (al (af (zz0 (aa rfl) (zz0 (ln rfl ah) ?_))))))
 refine zz0 (bU rfl rfl) (ad ?_)
 refine ar rfl ?_ ?_ <;> intro h1 <;> try simp only [bs] at h1
 ·refine af (zz0 (aa rfl) (zz0 (ab rfl) (ad (aB (ay ?_)))))
  refine aV nn rfl (fun w' hw => ?_)
  have e : fM l = l := by rw [← List.take_length (l := l)]; exact lN (Nat.le_refl _) (fun j a b => by omega)
  exact ⟨_, rfl, rfl, (HpOK.mutOwn hw (.head _) rfl).1, by rw [e]; exact (HpOK.mutOwn hw (.head _) rfl).2⟩
 ·refine bF (al (af (zz0 (ab rfl) (ad (aF ?_)))))
  refine bL (ι := Nat) (fun k => 1 ≤ k ∧ k ≤ l.length ∧ ∀ j, 0 < j → j < k → l.getD j default ≠ l.getD (j - 1) default) (fun _ => _) (fun k => [rowE V 23 ao l]) (fun k => [(3, .int .i64 (k : Nat))]) (fun k => l.length - k) 1 ⟨Nat.le_refl _, by omega, fun j a b => by omega⟩ (Front.c Front.nil) (by repeat' constructor) rfl (fun k hi m hm => ?_)
  replace hi : 1 ≤ k ∧ k ≤ l.length ∧ ∀ j, 0 < j → j < k → l.getD j default ≠ l.getD (j - 1) default := hi
  replace hm : m = l.length - k := hm
  change Tr _ _ [rowE V 23 ao l] ([(3, .int .i64 (k : Nat))] ++ _) _
  obtain ⟨hk1, hk2, hk3⟩ := hi
  have hj : ((k : Int) - 1).toNat = k - 1 := by omega
  refine al (af (zz0 (aa rfl) (zz0 (aa rfl) (zz0 (ln rfl ah) ?_))))
  refine zz0 (bU rfl rfl) (ad ?_)
  refine ar rfl ?_ ?_ <;> intro h2 <;> try simp only [bs] at h2
  ·refine bF (al (aF (al (io aQ ?_))))
   refine aw (aa rfl) (aw (aa rfl) (aw (zz7 rfl rfl ah ae) ?_))
   refine aw (eF rfl am) ?_
   refine aw (aa rfl) (aw (aa rfl) (aw (eE rfl rfl) ?_))
   refine aw (jJ rfl rfl ah ae) ?_
   refine aw (eF rfl am) ?_
   refine aw (eN rfl rfl) ?_
   refine bK ?_
   refine ac ?_
   refine ar rfl ?_ ?_ <;> intro h3 <;> try simp only [bs] at h3
   ·refine af (zz0 (aa rfl) (zz0 (aa rfl) (zz0 (sg rfl (by repeat constructor) rfl ah ae rfl (by omega)) ?_)))
    refine zz0 (ab rfl) (ad (al (af (zz0 (ab rfl) (ad (aF ?_))))))
    refine bL (ι := Nat × Nat × List UInt32) (fun ⟨wi, k2, cur⟩ => (1 ≤ k2 ∧ k + k2 ≤ l.length ∧ wi < k + k2) ∧ cur.length = l.length ∧ cur.take wi = fM (l.take (k + k2)) ∧ ∀ j, k + k2 - 1 ≤ j → cur.getD j default = l.getD j default) (fun _ => _) (fun ⟨wi, k2, cur⟩ => [rowE V 23 ao cur]) (fun ⟨wi, k2, cur⟩ => [(3, .int .i64 (wi : Nat)), (5, .int .i64 (k2 : Nat))]) (fun ⟨wi, k2, cur⟩ => l.length - (k + k2)) (k, 1, l) ⟨⟨Nat.le_refl _, by omega, by omega⟩, rfl, by rw [lM (by omega) (by omega), if_pos (by rw [← hj]; assumption), lN (by omega) hk3], fun j _ => rfl⟩ (Front.c (Front.c Front.nil)) (by repeat' constructor) rfl (fun i hi m hm => ?_)
    obtain ⟨wi, k2, cur⟩ := i
    replace hi : (1 ≤ k2 ∧ k + k2 ≤ l.length ∧ wi < k + k2) ∧ cur.length = l.length ∧ cur.take wi = fM (l.take (k + k2)) ∧ ∀ j, k + k2 - 1 ≤ j → cur.getD j default = l.getD j default := hi
    replace hm : m = l.length - (k + k2) := hm
    change Tr _ _ [rowE V 23 ao cur] ([(3, .int .i64 (wi : Nat)), (5, .int .i64 (k2 : Nat))] ++ _) _
    obtain ⟨⟨hq1, hq2, hq3⟩, hq4, hq5, hq6⟩ := hi
    have hA := hq6 (k + k2) (by omega)
    have hB := hq6 (k + k2 - 1) (by omega)
    have hi1 : k + (k2 : Int).toNat = k + k2 := rfl
    have hi2 : k + ((k2 : Int) - 1).toNat = k + k2 - 1 := by omega
    refine al (af (zz0 (aa rfl) (zz0 (aa rfl) (zz0 (Cg rfl (by repeat constructor) ah) ?_))))
    refine zz0 (bU rfl rfl) (ad ?_)
    refine ar rfl ?_ ?_ <;> intro h4 <;> try simp only [bs] at h4
    ·refine bF (al (aF (al (io aQ ?_))))
     refine aw (aa rfl) (aw (aa rfl) (aw (rf rfl rfl (by repeat constructor) ah ae rfl (by omega) (by omega)) ?_))
     refine aw (eF rfl am) ?_
     refine aw (aa rfl) (aw (aa rfl) (aw (eE rfl rfl) ?_))
     refine aw (rf rfl rfl (by repeat constructor) ah ae rfl (by omega) (by omega)) ?_
     refine aw (eF rfl am) ?_
     refine aw (jW rfl rfl) ?_
     refine bK ?_
     refine ac ?_
     refine ar rfl ?_ ?_ <;> intro h5 <;> try simp only [bs] at h5
     ·refine af (zz0 (aa rfl) (zz0 (aa rfl) (zz0 (aa rfl) (zz0 (aa rfl) (zz0 (rf rfl rfl (by repeat constructor) ah ae rfl (by omega) (by omega)) ?_)))))
      refine zz0 (eF rfl am) ?_
      refine zz0 (zz7 rfl rfl ah ae) ?_
      refine gg (l := cur) (i := wi) (cur.getD (k + (k2 : Int).toNat) default) rfl rfl ae ?_
      have hls6 : (List.set cur (wi) (cur.getD (k + (k2 : Int).toNat) default)).length = (cur).length := List.length_set
      refine ad (an (zz0 (aa rfl) (zz0 (cp rfl rfl) ?_)))
      refine zz0 (ab rfl) (aD (aX (ac (an (zz0 (aa rfl) (zz0 (cp rfl rfl) ?_))))))
      refine zz0 (ab rfl) (ad ?_)
      rw [hi1, hi2, hA, hB] at h5
      have hcs := lM (l := l) (k := k + k2) (by omega) (by omega)
      rw [if_neg h5, ← hq5] at hcs
      have hcm : (cur.set wi (cur.getD (k + (k2 : Int).toNat) default)).take (wi + 1) = fM (l.take (k + (k2 + 1))) := by
       rw [show k + (k2 + 1) = k + k2 + 1 by omega, hcs, dm (by rw [List.length_set]; omega), hi1, hA]
       congr 1
       ·rw [List.take_set_of_le (Nat.le_refl _)]
       ·simp [List.getD_eq_getElem?_getD, show wi < cur.length by omega]
      refine cH (wi + 1, k2 + 1, cur.set wi (cur.getD (k + (k2 : Int).toNat) default)) (Front.c (Front.c Front.nil)) (bC 29 rfl) (o := ⟨⟨by omega, by omega, by omega⟩, by rw [List.length_set]; exact hq4, hcm, fun j a => by rw [List.getD_eq_getElem?_getD, List.getElem?_set_ne (by omega), ← List.getD_eq_getElem?_getD]; exact hq6 j (by omega)⟩)
     ·refine cg (aX (ac (an (zz0 (aa rfl) (zz0 (cp rfl rfl) ?_)))))
      refine zz0 (ab rfl) (ad ?_)
      rw [hi1, hi2, hA, hB] at h5
      have hcs := lM (l := l) (k := k + k2) (by omega) (by omega)
      rw [if_pos h5, ← hq5] at hcs
      refine cH (wi, k2 + 1, cur) (Front.c (Front.c Front.nil)) (bC 19 rfl) (o := ⟨⟨by omega, by omega, by omega⟩, hq4, by rw [show k + (k2 + 1) = k + k2 + 1 by omega, hcs], fun j a => hq6 j (by omega)⟩)
    ·refine bJ (aG (aG (bv (ac (af (zz0 (aa rfl) (zz0 (aa rfl) (zz0 (sg rfl (by repeat constructor) rfl ah ae rfl (by omega)) ?_))))))))
     refine yS 0 rfl (by repeat constructor) (by omega) ah c9 rfl rfl rfl ?_
     refine aH (zz0 (aa rfl) (zz0 (aa rfl) (zz0 (Cc rfl (by repeat constructor) rfl ah ae rfl (by rw [List.length_append, List.length_take]; omega)) ?_)))
     refine zz0 (ab rfl) (ad (aB (bA (ay (ay (bA (ay ?_)))))))
     refine aV nn rfl (fun w' hw => ?_)
     have hkn : k + k2 = l.length := by omega
     rw [hkn, List.take_length] at hq5
     have hm := HpOK.mutOwn hw (.head _) rfl
     have hh := rowE.resl0 (hw.ent _ (.head _)) (k := wi) (by rw [List.length_append, List.length_take]; omega)
     have e : (cur.take wi ++ List.replicate (cur.length - wi) (0 : UInt32)).take wi = fM l := by rw [← hq5, List.take_append_of_le_length (by rw [List.length_take]; omega), List.take_take, Nat.min_self]
     exact ⟨_, rfl, hh.2, hm.1, by rw [← e]; exact hh.1⟩
   ·refine cg (aX (ac (an (zz0 (aa rfl) (zz0 (cp rfl rfl) ?_)))))
    refine zz0 (ab rfl) (ad ?_)
    have hk4 : ∀ j, 0 < j → j < k + 1 → l.getD j default ≠ l.getD (j - 1) default := fun j a b => by
     by_cases c : j = k
     ·subst c; rw [← hj]; assumption
     ·exact hk3 j a (by omega)
    refine cH (k + 1) (Front.c Front.nil) (bC 18 rfl) (o := ⟨by omega, by omega, hk4⟩)
  ·refine bJ (aG (aG (bv (ac (af (zz0 (aa rfl) (zz0 (ab rfl) (ad (aB ?_)))))))))
   refine aV nn rfl (fun w' hw => ?_)
   have e : fM l = l := by rw [← List.take_length (l := l)]; exact lN (Nat.le_refl _) (fun j a b => hk3 j a (by omega))
   exact ⟨_, rfl, rfl, (HpOK.mutOwn hw (.head _) rfl).1, by rw [e]; exact (HpOK.mutOwn hw (.head _) rfl).2⟩
theorem E1 (ins : List Ins) (ents : List UInt32) (ts : List TabV) (pI p1 pu pb : Option Addr) (cI c1 nu cu nb cb : Nat) (VT : Value) (w : World) (hI : Sl (hp w) aO ins (.slice pI ins.length cI)) (hE : Sl (hp w) ao ents (.slice p1 ents.length c1)) (hT : Sl (hp w) gi ts VT) (hTI : TabIn (hp w) ts) (hTB : pY ts) (hel : ents.length ≤ 700) :
  Calls Tryz.prog 106 #[.agg #[.slice pI ins.length cI, .slice p1 ents.length c1, .slice pu nu cu, .slice pb nb cb], VT] w (fun e w' => ∃ V' : Value, e = .returned V' ∧ Ext w w' ∧ ju w w' 23 ao (kC ins ents (ts.map (·.data))) V') := by
 have hI' : Sl (Bg.of w).blk aO ins (.slice pI ins.length cI) := hI
 have hT' : Sl (Bg.of w).blk gi ts VT := hT
 have hls : ∀ t ∈ ((⟨ents, p1, c1⟩ : TabV) :: ts), Sl (Bg.of w).blk ao t.data (.slice t.dp t.data.length t.dc) := fun t ht => by
  rcases List.mem_cons.1 ht with rfl | ht
  ·exact hE
  ·exact hTI t ht
 have hlb : ∀ t ∈ ((⟨ents, p1, c1⟩ : TabV) :: ts), t.data.length ≤ 700 := fun t ht => by
  rcases List.mem_cons.1 ht with rfl | ht
  ·exact hel
  ·have := hTB.2 t ht; omega
 have htl := hTB.1
 have hll : ((⟨ents, p1, c1⟩ : TabV) :: ts).length ≤ 701 := by have := hTB.1; rw [List.length_cons]; omega
 refine enter Tryz.func106 rfl Tryz.ntmps106 rfl ?_
 refine af ?_
 refine dO rfl rfl (fun b1 => ?_)
 refine zz0 (ab rfl) (aH (zz0 (ab rfl) (ad (al (af (zz0 (zz3 (off := 1) (ft := 31) rfl cF rfl cP) ?_))))))
 refine zz0 (aJ rfl dV) ?_
 refine iQ (E := gi) (⟨ents, p1, c1⟩ : TabV) rfl rfl dE cP Tryz.zeroValue31 (fun V2 => ?_)
 refine zz0 (aa rfl) ?_
 refine De rfl rfl (by repeat constructor) (fun w hw => hw.slF (by assumption)) dE vR (fun V3 => ?_)
 refine f7 (l' := ((⟨ents, p1, c1⟩ : TabV) :: ts)) rfl ?_
 refine zz0 (ln rfl dE) ?_
 refine zz0 (aa rfl) (ad (aF (bZ 23 ao ?_)))
 refine bL (ι := Nat × Value) (fun ⟨k, Vo⟩ => k ≤ ((⟨ents, p1, c1⟩ : TabV) :: ts).length) (fun _ => _) (fun ⟨k, Vo⟩ => [rowE Vo 23 ao (kX ins ((⟨ents, p1, c1⟩ : TabV) :: ts) k 0), rowE V3 31 gi ((⟨ents, p1, c1⟩ : TabV) :: ts), cellE b1 [.slice pI ins.length cI, .slice p1 ents.length c1, .slice pu nu cu, .slice pb nb cb] 52]) (fun ⟨k, Vo⟩ => [(16, .int .i64 (k : Nat)), (5, Vo)]) (fun ⟨k, Vo⟩ => ((⟨ents, p1, c1⟩ : TabV) :: ts).length - k) (0, _) (Nat.zero_le _) (Front.c (Front.c Front.nil)) (by repeat' constructor) rfl (fun i hi m hm => ?_)
 obtain ⟨k, Vo⟩ := i
 replace hi : k ≤ ((⟨ents, p1, c1⟩ : TabV) :: ts).length := hi
 replace hm : m = ((⟨ents, p1, c1⟩ : TabV) :: ts).length - k := hm
 change Tr _ _ [rowE Vo 23 ao (kX ins ((⟨ents, p1, c1⟩ : TabV) :: ts) k 0), rowE V3 31 gi ((⟨ents, p1, c1⟩ : TabV) :: ts), cellE b1 [.slice pI ins.length cI, .slice p1 ents.length c1, .slice pu nu cu, .slice pb nb cb] 52] ([(16, .int .i64 (k : Nat)), (5, Vo)] ++ _) _
 refine af (zz0 (bU rfl rfl) (ad (al ?_)))
 refine ar rfl ?_ ?_ <;> intro h4 <;> try simp only [bs] at h4
 ·refine bF (al (aF (af (zz0 (zz7 rfl rfl dE cP) ?_))))
  refine zz0 (eF rfl dV) ?_
  refine zz0 (ab rfl) (ad (al ?_))
  have hkj : Sl (Bg.of w).blk ao (((⟨ents, p1, c1⟩ : TabV) :: ts).getD k default).data (.slice (((⟨ents, p1, c1⟩ : TabV) :: ts).getD k default).dp (((⟨ents, p1, c1⟩ : TabV) :: ts).getD k default).data.length (((⟨ents, p1, c1⟩ : TabV) :: ts).getD k default).dc) := hls _ (cM (by omega))
  have hkjb := hlb _ (cM (l := ((⟨ents, p1, c1⟩ : TabV) :: ts)) (k := k) (by omega))
  have hdm : (((⟨ents, p1, c1⟩ : TabV) :: ts).map (·.data)).getD k [] = (((⟨ents, p1, c1⟩ : TabV) :: ts).getD k default).data := by
   simp only [List.getD_eq_getElem?_getD, List.getElem?_map]
   cases ((⟨ents, p1, c1⟩ : TabV) :: ts)[k]? <;> rfl
  refine an (zz0 (aa rfl) (zz0 (gW rfl ah) ?_))
  refine zz0 (aa rfl) (ad (aF ?_))
  refine bL (ι := Nat × Value) (fun ⟨j, Vo⟩ => j ≤ (((⟨ents, p1, c1⟩ : TabV) :: ts).getD k default).data.length) (fun _ => _) (fun ⟨j, Vo⟩ => [rowE Vo 23 ao (kX ins ((⟨ents, p1, c1⟩ : TabV) :: ts) k j), rowE V3 31 gi ((⟨ents, p1, c1⟩ : TabV) :: ts), cellE b1 [.slice pI ins.length cI, .slice p1 ents.length c1, .slice pu nu cu, .slice pb nb cb] 52]) (fun ⟨j, Vo⟩ => [(22, .int .i64 (j : Nat)), (5, Vo)]) (fun ⟨j, Vo⟩ => (((⟨ents, p1, c1⟩ : TabV) :: ts).getD k default).data.length - j) (0, _) (Nat.zero_le _) (Front.c (Front.c Front.nil)) (by repeat' constructor) rfl (fun i hi m hm => ?_)
  obtain ⟨j, Vo⟩ := i
  replace hi : j ≤ (((⟨ents, p1, c1⟩ : TabV) :: ts).getD k default).data.length := hi
  replace hm : m = (((⟨ents, p1, c1⟩ : TabV) :: ts).getD k default).data.length - j := hm
  change Tr _ _ [rowE Vo 23 ao (kX ins ((⟨ents, p1, c1⟩ : TabV) :: ts) k j), rowE V3 31 gi ((⟨ents, p1, c1⟩ : TabV) :: ts), cellE b1 [.slice pI ins.length cI, .slice p1 ents.length c1, .slice pu nu cu, .slice pb nb cb] 52] ([(22, .int .i64 (j : Nat)), (5, Vo)] ++ _) _
  have hkl := DD (ins := ins) (k := k) (j := j) hlb (by omega)
  have hkm : (k + 1) * 700 ≤ 701 * 700 := Nat.mul_le_mul_right _ (by omega)
  refine af (zz0 (bU rfl rfl) (ad (al ?_)))
  refine ar rfl ?_ ?_ <;> intro h5 <;> try simp only [bs] at h5
  ·refine bF (al (aF (af (zz0 (je rfl rfl ah ae) ?_))))
   refine zz0 (j2 rfl am) ?_
   refine dB c9 rfl (fun b6 => ?_)
   refine az ao rfl rfl ae ?_
   refine aH (zz0 (zz3 (off := 0) (ft := 50) rfl cF rfl dz) ?_)
   refine zz0 (aJ rfl dR) ?_
   refine zz0 (fy rfl rfl) ?_
   refine zz0 (aA rfl Tryz.call86 (fun w hw => nQ ins _ _ _ w (hw.slF hI') Tryz.call158 (fun i => decide (i.addr = (((⟨ents, p1, c1⟩ : TabV) :: ts).getD k default).data.getD j default)) (fun x hx w'' h => Dz x _ _ w'' (cellE.cell (hw.ent _ (by repeat constructor)) h rfl)))) ?_
   refine ad ?_
   refine ar rfl ?_ ?_ <;> intro h7 <;> try simp only [bs] at h7
   ·refine an (zz0 (aa rfl) (zz0 (aJ rfl am) ?_))
    refine iQ (E := ao) ((((⟨ents, p1, c1⟩ : TabV) :: ts).getD k default).data.getD j default) rfl rfl ah ae c9 (fun V8 => ?_)
    refine zz1 rfl rfl ah fb (fun V9 => ?_)
    refine zz0 (ab rfl) (aD (aX (ac (an (zz0 (cp rfl rfl) ?_)))))
    refine zz0 (aa rfl) (ad ?_)
    rw [← DC (by omega) (by assumption)]
    refine cH (j + 1, _) (Front.c (Front.c Front.nil)) (bC 17 rfl) (o := (by show j + 1 ≤ _; omega))
   ·refine cg (aX (ac (an (zz0 (cp rfl rfl) ?_))))
    refine zz0 (aa rfl) (ad ?_)
    rw [← E2 (by omega) (by first | assumption | simp_all)]
    refine cH (j + 1, _) (Front.c (Front.c Front.nil)) (bC 12 rfl) (o := (by show j + 1 ≤ _; omega))
  ·refine bJ (aG (aG (bv (aX (ac (an (zz0 (cp rfl rfl) ?_)))))))
   refine zz0 (aa rfl) (ad ?_)
   rw [Bd ins ((⟨ents, p1, c1⟩ : TabV) :: ts) (by omega) (j := j) (by rw [hdm]; omega)]
   refine cH (k + 1, _) (Front.c (Front.c Front.nil)) (bC 14 rfl) (o := (by show k + 1 ≤ _; omega))
 ·refine bJ (aG (aG (bv (ac (al ?_)))))
  obtain rfl : k = ((⟨ents, p1, c1⟩ : TabV) :: ts).length := by omega
  rw [DF]
  have hrl := om ins (ls := ((⟨ents, p1, c1⟩ : TabV) :: ts).map (·.data)) (n := 700) (fun t ht => by
   obtain ⟨r, hr, rfl⟩ := List.mem_map.1 ht
   exact hlb r hr)
  rw [List.length_map] at hrl
  have hrm : ((⟨ents, p1, c1⟩ : TabV) :: ts).length * 700 ≤ 701 * 700 := Nat.mul_le_mul_right _ hll
  refine an (zz0 (aa rfl) (eh rfl Tryz.call141 (by repeat constructor) (fun w hw => wF (l9 ins (((⟨ents, p1, c1⟩ : TabV) :: ts).map (·.data))).toArray _ w (hw.ent _ (.head _)) (by rw [List.size_toArray]; omega)) rfl ?_))
  rw [zn]
  refine aH (zz0 (aa rfl) ?_)
  refine wv rfl Tryz.call159 (by repeat constructor) (fun w hw => Au (gh (l9 ins (((⟨ents, p1, c1⟩ : TabV) :: ts).map (·.data)))) _ w (hw.ent _ (.head _)) (by rw [rn]; omega)) rfl (fun V10 hV10 => ?_)
  refine zz0 (ab rfl) (ad (aB ?_))
  refine aV Tryz.results106 rfl (fun w' hw => ?_)
  exact ⟨_, rfl, hw.b0, hw.new (.head _)⟩
end Go.Proofs.YtiajjbhcpeadfaaGreat
namespace Go.Proofs.YtiajjbhcpeadfaaGreat
open Go Go.HL Go.RowKit
theorem EZ (x0 x1 x2 x3 : Option Addr) (xn0 xc0 xn1 xc1 xn2 xc2 xn3 xc3 : Nat) (l : List SecV) (pV : Option Addr) (cV : Nat) (es : List UInt32) (VE : Value) (ts : List TabV) (at_ : List UInt32) (pt pa : Option Addr) (ct ca : Nat) (w : World) (hV : Sl (hp w) dx l (.slice pV l.length cV)) (hB : SecB l) (hD : DataIn (hp w) l) (hN : ∀ s ∈ l, s.name.size ≤ 140737488351232) (hE : Sl (hp w) ao es VE) (hT : Sl (hp w) gi ts (.slice pt ts.length ct)) (hTI : TabIn (hp w) ts) (hTB : pY ts) (hP : Sl (hp w) ao at_ (.slice pa at_.length ca)) (ht : totD l ≤ 600) (hel : es.length ≤ 100) :
  Calls Tryz.prog 52 #[.agg #[.slice x0 xn0 xc0, .slice x1 xn1 xc1, .slice x2 xn2 xc2, .slice x3 xn3 xc3, .slice pt ts.length ct, .slice pa at_.length ca], (.slice pV l.length cV), VE] w (fun e w' => ∃ i : (Value × Value × Value × Value × Value × Value) × (CodeP × FndV × Int) × List (RV UInt32), e = .returned ((fun i : (Value × Value × Value × Value × Value × Value) × (CodeP × FndV × Int) × List (RV UInt32) => .tuple #[.agg #[i.1.1, i.1.2.1, i.1.2.2.1, i.1.2.2.2.1, i.1.2.2.2.2.1, i.1.2.2.2.2.2], .int .i64 i.2.1.2.2]) i) ∧ Below w.heap.size w w' ∧ NewEnts w w' ((fun i : (Value × Value × Value × Value × Value × Value) × (CodeP × FndV × Int) × List (RV UInt32) => rowE i.1.1 36 aO i.2.1.1.ins :: rowE i.1.2.1 23 ao i.2.1.1.ents :: rowE i.1.2.2.1 23 ao i.2.1.1.unk :: rowE i.1.2.2.2.1 23 ao i.2.1.1.bad :: rowE i.1.2.2.2.2.1 31 dL i.2.2 :: rowE i.1.2.2.2.2.2 23 ao i.2.1.2.1.at_ :: i.2.2.map (rvE 23 ao)) i) ∧ (fun i : (Value × Value × Value × Value × Value × Value) × (CodeP × FndV × Int) × List (RV UInt32) => RoundIs l es ts at_ i.2.1 ∧ i.2.2.map (·.data) = i.2.1.2.1.ts) i) := by
 have hV0 : Sl (Bg.of0 w).blk dx l (.slice pV l.length cV) := hV
 have hD0 : DataIn (Bg.of0 w).blk l := hD
 have hE0 : Sl (Bg.of0 w).blk ao es VE := hE
 have hT0 : Sl (Bg.of0 w).blk gi ts (.slice pt ts.length ct) := hT
 have hTI0 : TabIn (Bg.of0 w).blk ts := hTI
 have hP0 : Sl (Bg.of0 w).blk ao at_ (.slice pa at_.length ca) := hP
 refine lx Tryz.func52 rfl Tryz.ntmps52 rfl ?_
 refine af ?_
 refine dO rfl rfl (fun b1 => ?_)
 refine dB jY rfl (fun b2 => ?_)
 refine zz0 (ab rfl) (aH (zz0 (aa rfl) (zz0 (aa rfl) (zz0 (zz3 (off := 4) (ft := 53) rfl cR rfl gu) ?_))))
 refine zz0 (aJ rfl ka) ?_
 refine zz0 (zz3 (off := 5) (ft := 31) rfl cR rfl cP) ?_
 refine zz0 (aJ rfl dV) ?_
 refine eW (fun i : ((Value × Value × Value × Value) × CodeP × Int) => .tuple #[.agg #[i.1.1, i.1.2.1, i.1.2.2.1, i.1.2.2.2], .int .i64 i.2.2]) (fun i : ((Value × Value × Value × Value) × CodeP × Int) => [rowE i.1.1 36 aO i.2.1.ins, rowE i.1.2.1 23 ao i.2.1.ents, rowE i.1.2.2.1 23 ao i.2.1.unk, rowE i.1.2.2.2 23 ao i.2.1.bad]) (ok := fun i => WalkIs l ts at_ es i.2.1 i.2.2) rfl rfl Tryz.call28 (fun w hw => walk_any l ts at_ es _ VE _ _ w (hw.slF hV0) hB (hD0.mono hw.bg) hN (hw.slF hE0) (hw.slF hT0) (hTI0.mono hw.bg) hTB (hw.slF hP0) ht hel) rfl (fun i hwk => ?_)
 obtain ⟨⟨Vi, Ve, Vu, Vb⟩, c, ew⟩ := i
 replace hwk : WalkIs l ts at_ es c ew := hwk
 have hcl := xj hTB hwk
 change Tr _ _ [rowE Vi 36 aO c.ins, rowE Ve 23 ao c.ents, rowE Vu 23 ao c.unk, rowE Vb 23 ao c.bad, cellE b2 [.slice none 0 0, .slice none 0 0, .slice none 0 0, .slice none 0 0, .slice none 0 0, .slice none 0 0] 114, cellE b1 [.slice x0 xn0 xc0, .slice x1 xn1 xc1, .slice x2 xn2 xc2, .slice x3 xn3 xc3, .slice pt ts.length ct, .slice pa at_.length ca] 114] _ _
 refine gZ (V := Vi) (fun pVi cVi hpv => ?_)
 subst hpv
 refine gZ (V := Ve) (fun pVe cVe hpv => ?_)
 subst hpv
 refine gZ (V := Vu) (fun pVu cVu hpv => ?_)
 subst hpv
 refine gZ (V := Vb) (fun pVb cVb hpv => ?_)
 subst hpv
 refine zz0 (aa rfl) (zz0 (aL rfl rfl) (zz0 (aL rfl rfl) ?_))
 refine dB eZ rfl (fun b3 => ?_)
 refine zz6 rfl rfl cO ?_
 refine zz0 (ab rfl) (ad (al (af (zz0 (aa rfl) (zz0 (fV rfl rfl) (ad ?_))))))
 refine ar rfl ?_ ?_ <;> intro h4 <;> try simp only [bs] at h4
 ·have hqw := h4
  refine al (bZ 36 aO ?_)
  refine bZ 23 ao ?_
  refine bZ 23 ao ?_
  refine bZ 23 ao ?_
  refine bZ 23 ao ?_
  refine bZ 31 (dL (α := UInt32)) ?_
  refine an (zz0 (bG (vs := []) rfl rfl (sq)) ?_)
  refine zz0 (aa rfl) (zz6 rfl rfl eU ?_)
  refine zz0 (ab rfl) (ad (aB (ay ?_)))
  refine kf Tryz.results52 rfl rfl iE eU (fun w' hw => ?_)
  exact ⟨((.slice none 0 0, .slice none 0 0, .slice none 0 0, .slice none 0 0, .slice none 0 0, .slice none 0 0), (⟨[], [], [], []⟩, ⟨[], []⟩, ew), []), rfl, hw.below0 (Bg.le.refl _), hw.ents0 rfl (by repeat' (first | exact Pick.refl _ | exact Del.here _ | apply Pick.cons | apply Del.there | apply Pick.skip | exact Pick.nil _)), ⟨c, ew, hwk, by rw [if_pos hqw]⟩, rfl⟩
 ·have hqw : ew = 0 := by simpa using h4
  refine bF (al ?_)
  obtain ⟨R, hR⟩ : ∃ R, R = gJ c.ins c.ents c.unk c.bad := ⟨_, rfl⟩
  have hkl := wV c.ins c.ents c.unk c.bad
  rw [← hR] at hkl
  have hkI : ∀ x ∈ R.kept, InsOK x := fun x hx => uH hwk x (FH (by rw [← hR]; exact hx))
  have hks : R.kept.Pairwise (fun x y => D6 lO y x = false) := (by rw [hR]; exact uU c.ins c.ents c.unk c.bad : R.kept.Pairwise fun a b => ltA a b = true).imp fun {a b} q => EB.asym (by unfold D6 lO; unfold ltA at q; rw [decide_eq_true_eq] at q ⊢; exact (uw _ _).2 q)
  refine an (zz0 (bH rfl gk cO) ?_)
  refine jt (fun i : (Value × Value × Value × Value × Value) => .tuple #[.agg #[i.1, i.2.1, i.2.2.1, i.2.2.2.1], i.2.2.2.2]) (fun i : (Value × Value × Value × Value × Value) => [rowE i.1 36 aO R.kept, rowE i.2.1 23 ao R.ents, rowE i.2.2.1 23 ao R.unk, rowE i.2.2.2.1 23 ao R.bad, rowE i.2.2.2.2 23 ao R.rem]) (ok := fun _ => True) rfl Tryz.call29 (fun w hw => (zA c.ins c.ents c.unk c.bad _ _ _ _ w (hw.row (by repeat constructor)) (hw.row (by repeat constructor)) (hw.row (by repeat constructor)) (hw.row (by repeat constructor)) (uH hwk) (by omega) (by omega) (by omega) (by omega)).mono fun e w' ⟨i, q1, q2, q3⟩ => ⟨i, q1, q2, by rw [hR]; exact q3, trivial⟩) rfl (fun i5 _ => ?_)
  obtain ⟨Ki, Ke, Ku, Kb, Kr⟩ := i5
  change Tr _ _ (rowE Ki 36 aO R.kept :: rowE Ke 23 ao R.ents :: rowE Ku 23 ao R.unk :: rowE Kb 23 ao R.bad :: rowE Kr 23 ao R.rem :: _) _ _
  refine gZ (V := Ki) (fun pKi cKi hpv => ?_)
  subst hpv
  refine gZ (V := Ke) (fun pKe cKe hpv => ?_)
  subst hpv
  refine gZ (V := Ku) (fun pKu cKu hpv => ?_)
  subst hpv
  refine gZ (V := Kb) (fun pKb cKb hpv => ?_)
  subst hpv
  refine zz0 (aa rfl) (zz0 (aL rfl rfl) (zz0 (aL rfl rfl) ?_))
  refine dB eZ rfl (fun b5 => ?_)
  refine zz6 rfl rfl cO ?_
  refine zz0 (ab rfl) (aH (zz0 (bH rfl gk cO) ?_))
  refine zz0 (bG (vs := [(0, _)]) (cs := #[.slice pKi R.kept.length cKi, .slice pKe R.ents.length cKe, .slice pKu R.unk.length cKu, .slice pKb R.bad.length cKb, .slice none 0 0, .slice none 0 0]) rfl rfl (by kernel_rfl)) ?_
  refine dB jY rfl (fun b6 => ?_)
  refine zz6 rfl rfl eU ?_
  refine aH (zz0 (ab rfl) (ad (al (af (zz0 (zz3 (off := 0) (ft := 52) rfl cR rfl cO) ?_)))))
  refine zz0 (fW (vs := [.slice pKi R.kept.length cKi, .slice pKe R.ents.length cKe, .slice pKu R.unk.length cKu, .slice pKb R.bad.length cKb]) rfl (by repeat constructor) gk cO (by rfl) (by rfl)) ?_
  refine zz0 (zz3 (off := 4) (ft := 53) rfl cR rfl gu) ?_
  refine zz0 (aJ rfl ka) ?_
  refine fG rfl Tryz.call106 (fun w hw => E1 R.kept R.ents ts _ _ _ _ _ _ _ _ _ _ _ w (hw.row (by repeat constructor)) (hw.row (by repeat constructor)) (hw.slF hT0) (hTI0.mono hw.bg) hTB (by omega)) rfl (fun V7 => ?_)
  obtain ⟨rts, hrts⟩ : ∃ rts, rts = kC R.kept R.ents (ts.map (·.data)) := ⟨_, rfl⟩
  rw [← hrts]
  have hrl : rts.length ≤ 490700 := by
   rw [hrts]
   refine Dy (by omega) (fun t ht => ?_) (by rw [List.length_map]; exact hTB.1)
   obtain ⟨r, hr, rfl⟩ := List.mem_map.1 ht
   have := hTB.2 r hr; omega
  refine zz0 (ln rfl ah) ?_
  refine zz0 (aa rfl) (ad (aF (bZ 177 (dL (α := StV)) ?_)))
  refine bL (ι := Nat × Bg × List (RV StV) × Value) (fun ⟨k, G, ss, Vs⟩ => ((k ≤ rts.length ∧ (Bg.of0 w).le G) ∧ RvIn cL G.blk ss) ∧ ss.map (·.data) = kN R.kept (rts.take k) ∧ mA R.kept (rts.take k) = 0) (fun ⟨k, G, ss, Vs⟩ => G) (fun ⟨k, G, ss, Vs⟩ => [rowE Vs 177 dL ss, rowE V7 23 ao rts, cellE b6 [.slice pKi R.kept.length cKi, .slice pKe R.ents.length cKe, .slice pKu R.unk.length cKu, .slice pKb R.bad.length cKb, .slice none 0 0, .slice none 0 0] 114, rowE (.slice pKi R.kept.length cKi) 36 aO R.kept, rowE (.slice pKe R.ents.length cKe) 23 ao R.ents, rowE (.slice pKu R.unk.length cKu) 23 ao R.unk, rowE (.slice pKb R.bad.length cKb) 23 ao R.bad, cellE b2 [.slice none 0 0, .slice none 0 0, .slice none 0 0, .slice none 0 0, .slice none 0 0, .slice none 0 0] 114]) (fun ⟨k, G, ss, Vs⟩ => [(56, .int .i64 (k : Nat)), (13, Vs)]) (fun ⟨k, G, ss, Vs⟩ => rts.length - k) (0, _, [], _) ⟨⟨⟨Nat.zero_le _, Bg.le.refl _⟩, fun t ht => by cases ht⟩, rfl, rfl⟩ (Front.c (Front.c Front.nil)) (by repeat' constructor) rfl (fun i hi m hm => ?_)
  obtain ⟨k, G, ss, Vs⟩ := i
  replace hi : ((k ≤ rts.length ∧ (Bg.of0 w).le G) ∧ RvIn cL G.blk ss) ∧ ss.map (·.data) = kN R.kept (rts.take k) ∧ mA R.kept (rts.take k) = 0 := hi
  replace hm : m = rts.length - k := hm
  change Tr _ (G) [rowE Vs 177 dL ss, rowE V7 23 ao rts, cellE b6 [.slice pKi R.kept.length cKi, .slice pKe R.ents.length cKe, .slice pKu R.unk.length cKu, .slice pKb R.bad.length cKb, .slice none 0 0, .slice none 0 0] 114, rowE (.slice pKi R.kept.length cKi) 36 aO R.kept, rowE (.slice pKe R.ents.length cKe) 23 ao R.ents, rowE (.slice pKu R.unk.length cKu) 23 ao R.unk, rowE (.slice pKb R.bad.length cKb) 23 ao R.bad, cellE b2 [.slice none 0 0, .slice none 0 0, .slice none 0 0, .slice none 0 0, .slice none 0 0, .slice none 0 0] 114] ([(56, .int .i64 (k : Nat)), (13, Vs)] ++ _) _
  obtain ⟨⟨⟨hk, hG⟩, hss⟩, hks1, hks0⟩ := hi
  have hsl : ss.length = min k rts.length := by have := congrArg List.length hks1; rw [List.length_map] at this; rw [this]; unfold kN; rw [List.length_map, List.length_take]
  refine af (zz0 (bU rfl rfl) (ad (al ?_)))
  refine ar rfl ?_ ?_ <;> intro h8 <;> try simp only [bs] at h8
  ·refine bF (al (aF (af (zz0 (zz7 rfl rfl ah ae) ?_))))
   refine zz0 (eF rfl am) ?_
   refine zz0 (ab rfl) (aH (zz0 (zz3 (off := 0) (ft := 52) rfl cR rfl cO) ?_))
   refine zz0 (zz3 (off := 0) (ft := 50) rfl cF rfl dz) ?_
   refine zz0 (aJ rfl dR) ?_
   refine zz0 (aa rfl) ?_
   refine eW (fun V : Value => .tuple #[V, .int .i64 (eR R.kept (rts.getD k default) 4096).2]) (fun V => [rowE V 37 cL (eR R.kept (rts.getD k default) 4096).1]) (ok := fun _ => True) hG.dr rfl Tryz.call107 (fun w hw => (AE R.kept (rts.getD k default) 4096 _ w (hw.row (by repeat constructor)) hkI (by omega)).mono fun e w' ⟨V, q1, q2, q3⟩ => ⟨V, q1, q2, q3, trivial⟩) rfl (fun VA _ => ?_)
   refine zz0 (aa rfl) (zz0 (aL rfl rfl) (zz0 (aL rfl rfl) (zz0 (ab rfl) (zz0 (ab rfl) (ad (al (af (zz0 (aa rfl) (zz0 (fV rfl rfl) (ad ?_))))))))))
   refine ar rfl ?_ ?_ <;> intro h9 <;> try simp only [bs] at h9
   ·have hqe := h9
    refine al (bZ 36 aO ?_)
    refine bZ 23 ao ?_
    refine bZ 23 ao ?_
    refine bZ 23 ao ?_
    refine bZ 23 ao ?_
    refine bZ 31 (dL (α := UInt32)) ?_
    refine an (zz0 (bG (vs := []) rfl rfl (sq)) ?_)
    refine zz0 (aa rfl) (zz6 rfl rfl eU ?_)
    refine zz0 (ab rfl) (ad (aB (ay (bA (ay (ay (bA (ay ?_))))))))
    refine kf Tryz.results52 rfl rfl iE eU (fun w' hw => ?_)
    have h1 := sX hks0 (by omega : k < rts.length)
    have hee : mA R.kept rts = (eR R.kept (rts.getD k default) 4096).2 := by rw [Al (k := k + 1) (by rw [h1]; exact hqe), h1]
    exact ⟨((.slice none 0 0, .slice none 0 0, .slice none 0 0, .slice none 0 0, .slice none 0 0, .slice none 0 0), (⟨[], [], [], []⟩, ⟨[], []⟩, (eR R.kept (rts.getD k default) 4096).2), []), rfl, hw.below0 hG, hw.ents0 hG.lo (by repeat' (first | exact Pick.refl _ | exact Del.here _ | apply Pick.cons | apply Del.there | apply Pick.skip | exact Pick.nil _)), ⟨c, ew, hwk, by rw [if_neg (fun q => q hqw), Bb hR (by rw [← hrts, hee]; exact hqe), ← hrts, hee]⟩, rfl⟩
   ·have hqe : (eR R.kept (rts.getD k default) 4096).2 = 0 := by simpa using h9
    refine bF ?_
    have hek : mA R.kept (rts.take (k + 1)) = 0 := by
     rw [sX hks0 (by omega)]; exact hqe
    refine gZ (V := VA) (fun pA cA hpv => ?_)
    subst hpv
    refine kH (V := .slice pA (eR R.kept (rts.getD k default) 4096).1.length cA) (T := 37) (E := cL) (by repeat constructor) (fun G2 hG2 hA2 => ?_)
    refine an (zz0 (aa rfl) (zz0 (aa rfl) ?_))
    refine iQ (E := (dL (α := StV))) (⟨(eR R.kept (rts.getD k default) 4096).1, pA, cA⟩ : RV StV) rfl rfl jy eT Tryz.zeroValue177 (fun V10 => ?_)
    refine zz1 rfl rfl jy A1 (fun V11 => ?_)
    refine zz0 (ab rfl) (aD (aX (ac (an (zz0 (cp rfl rfl) ?_)))))
    refine zz0 (aa rfl) (ad ?_)
    apply gm (k + 1, G2, ss ++ [⟨(eR R.kept (rts.getD k default) 4096).1, pA, cA⟩], _)
    ·exact rfl
    ·exact (Front.c (Front.c Front.nil))
    ·exact bC 25 rfl
    ·exact (by repeat' constructor)
    ·exact ⟨⟨⟨by omega, hG.trans hG2⟩, fun t ht => by
     rcases List.mem_append.1 ht with ht | ht
     ·exact (hss t ht).mono hG2.blk
     ·rw [List.mem_singleton.1 ht]; exact hA2⟩, by rw [List.map_append, hks1, zk (by omega)]; rfl, hek⟩
    ·exact (by (try dsimp only); omega)
  ·refine bJ (aG (aG (bv (ac (al ?_)))))
   obtain rfl : k = rts.length := by omega
   rw [List.take_length] at hks1 hks0
   have hVG := hV0.mono hG.blk
   have hDG := hD0.mono hG.blk
   refine an (zz0 (zz3 (off := 0) (ft := 52) rfl cR rfl cO) ?_)
   refine zz0 (zz3 (off := 0) (ft := 50) rfl cF rfl dz) ?_
   refine zz0 (aJ rfl dR) ?_
   refine fG rfl Tryz.call77 (fun w hw => xk R.kept _ w (hw.row (by repeat constructor)) (by omega)) rfl (fun VC => ?_)
   refine zz0 (ab rfl) (aH (zz0 (aa rfl) ?_))
   refine g9 (fun c2 => c2 = R.kept) rfl Tryz.call78 (fun w hw => (pC R.kept _ 108 [] lO (fun _ => True) (fun _ _ _ _ _ _ => trivial) Tryz.call108 (fun x y w' _ => Dx x y w') EB w trivial (hw.ent _ (.head _)) (by omega)).mono fun e w' ⟨q1, c2, ⟨q2, q3, q4⟩, q5, q6⟩ => ⟨q1, c2, (sB EB _ _ q2 hks (Srt.all (by rw [q2.len]; exact q4))).symm, q5, q6⟩) rfl (fun c2 hc2 => ?_)
   subst hc2
   refine ad (al (af (zz0 (aa rfl) (zz0 (ln rfl aM) ?_))))
   refine zz0 (aa rfl) (ad (aF (bZ 31 (dL (α := UInt32)) ?_)))
   refine bZ 23 ao ?_
   refine bL (ι := Nat × List (RV UInt32) × List UInt32 × Value × Value) (fun ⟨k, rs, at2, Vt, Vp⟩ => k ≤ R.kept.length ∧ (⟨rs.map (·.data), at2⟩ : FndV) = (nN l R.kept (ss.map (·.data)) (R.kept.take k))) (fun _ => G) (fun ⟨k, rs, at2, Vt, Vp⟩ => (rowE VC 36 aO R.kept :: cellE b6 [.slice pKi R.kept.length cKi, .slice pKe R.ents.length cKe, .slice pKu R.unk.length cKu, .slice pKb R.bad.length cKb, Vt, Vp] 114 :: rowE Vt 31 dL rs :: rowE Vp 23 ao at2 :: rowE Vs 177 dL ss :: rowE (.slice pKi R.kept.length cKi) 36 aO R.kept :: rowE (.slice pKe R.ents.length cKe) 23 ao R.ents :: rowE (.slice pKu R.unk.length cKu) 23 ao R.unk :: rowE (.slice pKb R.bad.length cKb) 23 ao R.bad :: cellE b2 [.slice none 0 0, .slice none 0 0, .slice none 0 0, .slice none 0 0, .slice none 0 0, .slice none 0 0] 114 :: (rs.map (rvE 23 ao) ++ []))) (fun ⟨k, rs, at2, Vt, Vp⟩ => [(85, .int .i64 (k : Nat))]) (fun ⟨k, rs, at2, Vt, Vp⟩ => R.kept.length - k) (0, [], [], _, _) ⟨Nat.zero_le _, rfl⟩ (Front.c Front.nil) (by repeat' (first | exact Pick.refl _ | exact Del.here _ | apply Pick.cons | apply Del.there | apply Pick.skip | exact Pick.nil _)) rfl (fun i hi m hm => ?_)
   obtain ⟨k, rs, at2, Vt, Vp⟩ := i
   replace hi : k ≤ R.kept.length ∧ (⟨rs.map (·.data), at2⟩ : FndV) = (nN l R.kept (ss.map (·.data)) (R.kept.take k)) := hi
   replace hm : m = R.kept.length - k := hm
   change Tr _ _ (rowE VC 36 aO R.kept :: cellE b6 [.slice pKi R.kept.length cKi, .slice pKe R.ents.length cKe, .slice pKu R.unk.length cKu, .slice pKb R.bad.length cKb, Vt, Vp] 114 :: rowE Vt 31 dL rs :: rowE Vp 23 ao at2 :: rowE Vs 177 dL ss :: rowE (.slice pKi R.kept.length cKi) 36 aO R.kept :: rowE (.slice pKe R.ents.length cKe) 23 ao R.ents :: rowE (.slice pKu R.unk.length cKu) 23 ao R.unk :: rowE (.slice pKb R.bad.length cKb) 23 ao R.bad :: cellE b2 [.slice none 0 0, .slice none 0 0, .slice none 0 0, .slice none 0 0, .slice none 0 0, .slice none 0 0] 114 :: (rs.map (rvE 23 ao) ++ [])) ([(85, .int .i64 (k : Nat))] ++ _) _
   obtain ⟨hk, hfa⟩ := hi
   refine af (zz0 (bU rfl rfl) (ad (al ?_)))
   refine ar rfl ?_ ?_ <;> intro h12 <;> try simp only [bs] at h12
   ·refine bF ?_
    refine di (ι := List (RV UInt32) × List UInt32 × Value × Value) (fun ⟨rs3, at3, Vt3, Vp3⟩ => (⟨rs3.map (·.data), at3⟩ : FndV) = k6 l R.kept (ss.map (·.data)) ⟨rs.map (·.data), at2⟩ (R.kept.getD k default)) (fun _ => G) (fun ⟨rs3, at3, Vt3, Vp3⟩ => (rowE VC 36 aO R.kept :: cellE b6 [.slice pKi R.kept.length cKi, .slice pKe R.ents.length cKe, .slice pKu R.unk.length cKu, .slice pKb R.bad.length cKb, Vt3, Vp3] 114 :: rowE Vt3 31 dL rs3 :: rowE Vp3 23 ao at3 :: rowE Vs 177 dL ss :: rowE (.slice pKi R.kept.length cKi) 36 aO R.kept :: rowE (.slice pKe R.ents.length cKe) 23 ao R.ents :: rowE (.slice pKu R.unk.length cKu) 23 ao R.unk :: rowE (.slice pKb R.bad.length cKb) 23 ao R.bad :: cellE b2 [.slice none 0 0, .slice none 0 0, .slice none 0 0, .slice none 0 0, .slice none 0 0, .slice none 0 0] 114 :: (rs3.map (rvE 23 ao) ++ []))) (fun ⟨rs3, at3, Vt3, Vp3⟩ => []) ?_ (fun i hi => ?_)
    ·skip
     refine aF (af (zz0 (zz7 rfl rfl aM ax) ?_))
     refine zz0 (mY rfl aR ax) ?_
     refine dB bV rfl (fun b13 => ?_)
     refine az aO rfl rfl ax ?_
     refine ad (al (af (zz0 (bH rfl aR ax) ?_)))
     refine zz0 (aA rfl Tryz.call38 (fun w hw => tI (R.kept.getD k default) w (hkI _ (cM (by omega))))) ?_
     refine zz0 (cQ rfl) (ad ?_)
     refine ar rfl ?_ ?_ <;> intro h14 <;> try simp only [bs] at h14
     ·have hqi : vr (R.kept.getD k default) = false := h14
      refine bJ (aG (bv (ac ?_)))
      refine rc (_, _, _, _) Front.nil (bC 6 rfl) (o := (by show _ = _; first | exact (qq hqi).symm | exact (qp hbk).symm | exact (qu hbt hqt).symm | (rw [qo hqi hbt hqt]; simp)))
     ·have hqi : vr (R.kept.getD k default) = true := by simpa using h14
      refine dl (zz0 (bG (vs := []) rfl rfl (tY)) ?_)
      refine dB cS rfl (fun b15 => ?_)
      refine az cL rfl rfl aU ?_
      refine zz0 (ab rfl) (ad (al (af (zz0 (aa rfl) (zz0 (ln rfl jy) ?_)))))
      refine zz0 (aa rfl) (ad (aF ?_))
      refine bL (ι := Nat × StV × Bool) (fun ⟨q, b, kn⟩ => q ≤ ss.length ∧ (b, kn) = (tf R.kept (R.kept.getD k default).addr ((ss.map (·.data)).take q))) (fun _ => G) (fun ⟨q, b, kn⟩ => (cellE b15 (cL.enc b) 37 :: cellE b13 (aO.enc (R.kept.getD k default)) 36 :: rowE VC 36 aO R.kept :: cellE b6 [.slice pKi R.kept.length cKi, .slice pKe R.ents.length cKe, .slice pKu R.unk.length cKu, .slice pKb R.bad.length cKb, Vt, Vp] 114 :: rowE Vt 31 dL rs :: rowE Vp 23 ao at2 :: rowE Vs 177 dL ss :: rowE (.slice pKi R.kept.length cKi) 36 aO R.kept :: rowE (.slice pKe R.ents.length cKe) 23 ao R.ents :: rowE (.slice pKu R.unk.length cKu) 23 ao R.unk :: rowE (.slice pKb R.bad.length cKb) 23 ao R.bad :: cellE b2 [.slice none 0 0, .slice none 0 0, .slice none 0 0, .slice none 0 0, .slice none 0 0, .slice none 0 0] 114 :: (rs.map (rvE 23 ao) ++ []))) (fun ⟨q, b, kn⟩ => [(95, .int .i64 (q : Nat)), (22, .bool kn)]) (fun ⟨q, b, kn⟩ => ss.length - q) (0, gI, false) ⟨Nat.zero_le _, rfl⟩ (Front.c (Front.c Front.nil)) (by repeat' (first | exact Pick.refl _ | exact Del.here _ | apply Pick.cons | apply Del.there | apply Pick.skip | exact Pick.nil _)) rfl (fun i hi m hm => ?_)
      obtain ⟨q, b, kn⟩ := i
      replace hi : q ≤ ss.length ∧ (b, kn) = (tf R.kept (R.kept.getD k default).addr ((ss.map (·.data)).take q)) := hi
      replace hm : m = ss.length - q := hm
      change Tr _ _ (cellE b15 (cL.enc b) 37 :: cellE b13 (aO.enc (R.kept.getD k default)) 36 :: rowE VC 36 aO R.kept :: cellE b6 [.slice pKi R.kept.length cKi, .slice pKe R.ents.length cKe, .slice pKu R.unk.length cKu, .slice pKb R.bad.length cKb, Vt, Vp] 114 :: rowE Vt 31 dL rs :: rowE Vp 23 ao at2 :: rowE Vs 177 dL ss :: rowE (.slice pKi R.kept.length cKi) 36 aO R.kept :: rowE (.slice pKe R.ents.length cKe) 23 ao R.ents :: rowE (.slice pKu R.unk.length cKu) 23 ao R.unk :: rowE (.slice pKb R.bad.length cKb) 23 ao R.bad :: cellE b2 [.slice none 0 0, .slice none 0 0, .slice none 0 0, .slice none 0 0, .slice none 0 0, .slice none 0 0] 114 :: (rs.map (rvE 23 ao) ++ [])) ([(95, .int .i64 (q : Nat)), (22, .bool kn)] ++ _) _
      obtain ⟨hq, hbf⟩ := hi
      have hgd : ((ss.map (·.data))).getD q default = (ss.getD q default).data := by
       simp only [List.getD_eq_getElem?_getD, List.getElem?_map]
       cases ss[q]? <;> rfl
      refine af (zz0 (bU rfl rfl) (ad (al ?_)))
      refine ar rfl ?_ ?_ <;> intro h16 <;> try simp only [bs] at h16
      ·refine bF (al (aF (af (zz0 (zz7 rfl rfl jy eT) ?_))))
       refine zz0 (eF rfl g8) ?_
       refine zz0 (ab rfl) (aH (zz0 (zz3 (off := 0) (ft := 52) rfl cR rfl cO) ?_))
       refine zz0 (zz3 (off := 0) (ft := 50) rfl cF rfl dz) ?_
       refine zz0 (aJ rfl dR) ?_
       refine zz0 (aa rfl) (zz0 (zz3 (off := 0) (ft := 23) rfl ak rfl ae) ?_)
       refine zz0 (aJ rfl am) ?_
       refine zz0 (aA rfl Tryz.call109 (fun w hw => BQ R.kept (ss.getD q default).data (R.kept.getD k default).addr _ _ w (hw.row (by repeat constructor)) (hw.slF (hss _ (cM (by omega)))))) ?_
       refine zz0 (aa rfl) (zz0 (aL rfl rfl) (zz0 (aL rfl rfl) ?_))
       refine dB cS rfl (fun b17 => ?_)
       refine az cL rfl rfl aU ?_
       refine zz0 (ab rfl) (ad (al (af (zz0 (aa rfl) (zz0 (cQ rfl) (ad ?_))))))
       refine ar rfl ?_ ?_ <;> intro h18 <;> try simp only [bs] at h18
       ·have hqb : (jx R.kept (ss.getD q default).data (R.kept.getD k default).addr).2 = false := h18
        refine bJ (aG (bv (ac (an (zz0 (cp rfl rfl) ?_)))))
        refine zz0 (aa rfl) (ad ?_)
        refine oV (q + 1, b, kn) (Front.c (Front.c Front.nil)) (bC 22 rfl) (o := ⟨by omega, by rw [xt (by rw [List.length_map]; omega), ← hbf, hgd]; unfold H4; rw [if_neg (by rw [hqb]; simp)]⟩)
       ·have hqb : (jx R.kept (ss.getD q default).data (R.kept.getD k default).addr).2 = true := by simpa using h18
        refine bF ?_
        refine di (ι := StV) (fun x1 => x1 = if kn = true then jh b (jx R.kept (ss.getD q default).data (R.kept.getD k default).addr).1 8 else (jx R.kept (ss.getD q default).data (R.kept.getD k default).addr).1) (fun _ => G) (fun x1 => (cellE b17 (cL.enc x1) 37 :: cellE b15 (cL.enc b) 37 :: cellE b13 (aO.enc (R.kept.getD k default)) 36 :: rowE VC 36 aO R.kept :: cellE b6 [.slice pKi R.kept.length cKi, .slice pKe R.ents.length cKe, .slice pKu R.unk.length cKu, .slice pKb R.bad.length cKb, Vt, Vp] 114 :: rowE Vt 31 dL rs :: rowE Vp 23 ao at2 :: rowE Vs 177 dL ss :: rowE (.slice pKi R.kept.length cKi) 36 aO R.kept :: rowE (.slice pKe R.ents.length cKe) 23 ao R.ents :: rowE (.slice pKu R.unk.length cKu) 23 ao R.unk :: rowE (.slice pKb R.bad.length cKb) 23 ao R.bad :: cellE b2 [.slice none 0 0, .slice none 0 0, .slice none 0 0, .slice none 0 0, .slice none 0 0, .slice none 0 0] 114 :: (rs.map (rvE 23 ao) ++ []))) (fun x1 => []) ?_ (fun x1 hi => ?_)
        ·skip
         refine af (zz0 (aa rfl) (ad ?_))
         refine ar rfl ?_ ?_ <;> intro h19 <;> try simp only [bs] at h19
         ·have hkn : kn = true := h19
          refine an (zz0 (bH rfl bS aU) ?_)
          refine zz0 (bH rfl bS aU) ?_
          refine zz0 (aA rfl oQ (fun w hw => oz _ _ w)) ?_
          refine az cL rfl rfl aU ?_
          refine ad ?_
          refine rc _ Front.nil (bC 4 rfl) (o := (by show _ = _; rw [if_pos hkn]))
         ·have hkn : kn = false := by simpa using h19
          refine bF ?_
          refine rc _ Front.nil (bC 1 rfl) (o := (by show _ = _; rw [if_neg (by rw [hkn]; simp)]))
        ·skip
         replace hi : x1 = if kn = true then jh b (jx R.kept (ss.getD q default).data (R.kept.getD k default).addr).1 8 else (jx R.kept (ss.getD q default).data (R.kept.getD k default).addr).1 := hi
         change Tr _ _ (cellE b17 (cL.enc x1) 37 :: cellE b15 (cL.enc b) 37 :: cellE b13 (aO.enc (R.kept.getD k default)) 36 :: rowE VC 36 aO R.kept :: cellE b6 [.slice pKi R.kept.length cKi, .slice pKe R.ents.length cKe, .slice pKu R.unk.length cKu, .slice pKb R.bad.length cKb, Vt, Vp] 114 :: rowE Vt 31 dL rs :: rowE Vp 23 ao at2 :: rowE Vs 177 dL ss :: rowE (.slice pKi R.kept.length cKi) 36 aO R.kept :: rowE (.slice pKe R.ents.length cKe) 23 ao R.ents :: rowE (.slice pKu R.unk.length cKu) 23 ao R.unk :: rowE (.slice pKb R.bad.length cKb) 23 ao R.bad :: cellE b2 [.slice none 0 0, .slice none 0 0, .slice none 0 0, .slice none 0 0, .slice none 0 0, .slice none 0 0] 114 :: (rs.map (rvE 23 ao) ++ [])) ([] ++ _) _
         have hx1 := hi
         refine an (zz0 (bH rfl bS aU) ?_)
         refine az cL rfl rfl aU ?_
         refine zz0 (ab rfl) (aD (aX (ac (an (zz0 (cp rfl rfl) ?_)))))
         refine zz0 (aa rfl) (ad ?_)
         refine oV (q + 1, x1, true) (Front.c (Front.c Front.nil)) (bC 24 rfl) (o := ⟨by omega, by rw [xt (by rw [List.length_map]; omega), ← hbf, hgd]; unfold H4; rw [if_pos hqb, hx1]; cases kn <;> rfl⟩)
      ·refine bJ (aG (aG (bv (ac (al (al ?_))))))
       obtain rfl : q = ss.length := by omega
       have hbf2 : (b, kn) = tf R.kept (R.kept.getD k default).addr (ss.map (·.data)) := by rw [hbf, List.take_of_length_le (by rw [List.length_map]; exact Nat.le_refl _)]
       refine an (zz0 (aa rfl) (zz0 (cQ rfl) (ad ?_)))
       refine ar rfl ?_ ?_ <;> intro h20 <;> try simp only [bs] at h20
       ·have hkn : kn = false := h20
        have hbk : (b, false) = tf R.kept (R.kept.getD k default).addr (ss.map (·.data)) := by rw [← hkn]; exact hbf2
        refine bJ (aG (bv (ac ?_)))
        refine rc (_, _, _, _) Front.nil (bC 17 rfl) (o := (by show _ = _; first | exact (qq hqi).symm | exact (qp hbk).symm | exact (qu hbt hqt).symm | (rw [qo hqi hbt hqt]; simp)))
       ·have hkn : kn = true := by simpa using h20
        have hbt : (b, true) = tf R.kept (R.kept.getD k default).addr (ss.map (·.data)) := by rw [← hkn]; exact hbf2
        refine dl (zz0 (aa rfl) (zz0 (bH rfl aR ax) ?_))
        refine zz0 (bH rfl bS aU) ?_
        refine gx (fun V => .tuple #[V, .int .i64 (cC l (R.kept.getD k default) (b.get (R.kept.getD k default).a)).2]) rfl kF (fun w hw => j4 l pV cV (R.kept.getD k default) b w (hw.slF hVG) hB (hDG.mono hw.bg) hN (hkI _ (cM (by omega)))) rfl (fun VJ => ?_)
        refine zz0 (aa rfl) (zz0 (aL rfl rfl) (zz0 (aL rfl rfl) (zz0 (ab rfl) (zz0 (ab rfl) (aH (zz0 (aa rfl) (zz0 (bB rfl rfl) (ad ?_))))))))
        refine ar rfl ?_ ?_ <;> intro h21 <;> try simp only [bs] at h21
        ·have hqt : (cC l (R.kept.getD k default) (b.get (R.kept.getD k default).a)).2 = 0 := h21
         refine gZ (V := VJ) (fun pJ cJ hpv => ?_)
         subst hpv
         have htl : (cC l (R.kept.getD k default) (b.get (R.kept.getD k default).a)).1.length ≤ 64 := pp
         have hfl := w8 l R.kept (ss.map (·.data)) (R.kept.take k)
         rw [List.length_take] at hfl
         have hrsl : rs.length = (nN l R.kept (ss.map (·.data)) (R.kept.take k)).ts.length := by rw [← hfa]; simp
         have hatl : at2.length = (nN l R.kept (ss.map (·.data)) (R.kept.take k)).at_.length := by rw [← hfa]
         refine B6 (A := [cellE b15 (cL.enc b) 37, cellE b13 (aO.enc (R.kept.getD k default)) 36, rowE VC 36 aO R.kept, cellE b6 [.slice pKi R.kept.length cKi, .slice pKe R.ents.length cKe, .slice pKu R.unk.length cKu, .slice pKb R.bad.length cKb, Vt, Vp] 114, rowE Vt 31 dL rs, rowE Vp 23 ao at2, rowE Vs 177 dL ss, rowE (.slice pKi R.kept.length cKi) 36 aO R.kept, rowE (.slice pKe R.ents.length cKe) 23 ao R.ents, rowE (.slice pKu R.unk.length cKu) 23 ao R.unk, rowE (.slice pKb R.bad.length cKb) 23 ao R.bad, cellE b2 [.slice none 0 0, .slice none 0 0, .slice none 0 0, .slice none 0 0, .slice none 0 0, .slice none 0 0] 114]) (f := (rvE 23 ao)) (rs := rs) (⟨(cC l (R.kept.getD k default) (b.get (R.kept.getD k default).a)).1, pJ, cJ⟩ : RV UInt32) ?_
         change Tr _ _ (cellE b15 (cL.enc b) 37 :: cellE b13 (aO.enc (R.kept.getD k default)) 36 :: rowE VC 36 aO R.kept :: cellE b6 [.slice pKi R.kept.length cKi, .slice pKe R.ents.length cKe, .slice pKu R.unk.length cKu, .slice pKb R.bad.length cKb, Vt, Vp] 114 :: rowE Vt 31 dL rs :: rowE Vp 23 ao at2 :: rowE Vs 177 dL ss :: rowE (.slice pKi R.kept.length cKi) 36 aO R.kept :: rowE (.slice pKe R.ents.length cKe) 23 ao R.ents :: rowE (.slice pKu R.unk.length cKu) 23 ao R.unk :: rowE (.slice pKb R.bad.length cKb) 23 ao R.bad :: cellE b2 [.slice none 0 0, .slice none 0 0, .slice none 0 0, .slice none 0 0, .slice none 0 0, .slice none 0 0] 114 :: ((rs ++ [(⟨(cC l (R.kept.getD k default) (b.get (R.kept.getD k default).a)).1, pJ, cJ⟩ : RV UInt32)]).map (rvE 23 ao) ++ [])) _ _
         refine dW ([cellE b13 (aO.enc (R.kept.getD k default)) 36]) 15 rfl aQ ?_
         refine Ji 15 ?_
         repeat' (first
          | refine oW.cons ?_ ?_
          | exact oW.nil
          | (refine mT 1 ?_; refine pX rfl ?_; refine zz0 (aJ rfl ka) ?_; refine tR ?_)
          | (refine mT 3 ?_; refine pX rfl ?_; refine iQ (E := (dL (α := UInt32))) (⟨(cC l (R.kept.getD k default) (b.get (R.kept.getD k default).a)).1, pJ, cJ⟩ : RV UInt32) rfl rfl dE cP Tryz.zeroValue31 (fun V22 => ?_); refine tR ?_)
          | (refine mT 4 ?_; refine pX rfl ?_; refine zz1 rfl rfl dE vR (fun V23 => ?_); refine dA (.head _) (fun pz cz hpz => ?_); subst hpz; refine tR ?_)
          | (refine mT 6 ?_; refine pX rfl ?_; refine zz0 (aJ rfl dV) ?_; refine tR ?_)
          | (refine mT 9 ?_; refine pX rfl ?_; refine iQ (E := ao) (R.kept.getD k default).addr rfl rfl ah ae c9 (fun V24 => ?_); refine tR ?_)
          | (refine mT 10 ?_; refine pX rfl ?_; refine zz1 rfl rfl ah fb (fun V25 => ?_); refine dA (.head _) (fun py cy hpy => ?_); subst hpy; refine tR ?_)
          | (refine mT 12 ?_; refine pX rfl ?_; refine zz2 (cs' := [_, _, _, _, _, _]) rfl rfl gu rfl ?_; refine tR ?_)
          | (refine mT 14 ?_; refine pX rfl ?_; refine zz2 (cs' := [_, _, _, _, _, _]) rfl rfl cP rfl ?_; refine tR ?_)
          | (refine gU 0 ?_; refine tQ 0 rfl (by kernel_rfl) (dN (bD (bD (dN (bD dh))))) (zz3 (off := 4) (ft := 53) rfl cR rfl gu) ?_)
          | (refine gU 1 ?_; refine tQ 2 rfl (by kernel_rfl) (dN (bD (bD (dN (bD dh))))) (aa rfl) ?_)
          | (refine gU 5 ?_; refine tQ 5 rfl (by kernel_rfl) (dN (bD (bD (dN (bD dh))))) (zz3 (off := 5) (ft := 31) rfl cR rfl cP) ?_)
          | (refine gU 37 ?_; refine tQ 7 rfl (by kernel_rfl) (dN (bD (bD (dN (bD dh))))) (zz3 (off := 0) (ft := 23) rfl ak rfl ae) ?_)
          | (refine gU 165 ?_; refine tQ 8 rfl (by kernel_rfl) (dN (bD (bD (dN (bD dh))))) (aJ rfl am) ?_)
          | (refine gU 511 ?_; refine tQ 11 rfl (by kernel_rfl) (dN (bD (bD (dN (bD dh))))) (zz3 (off := 4) (ft := 53) rfl cR rfl gu) ?_)
          | (refine gU 8191 ?_; refine tQ 13 rfl (by kernel_rfl) (dN (bD (bD (dN (bD dh))))) (zz3 (off := 5) (ft := 31) rfl cR rfl cP) ?_)
          | (refine gU 1023 ?_; refine tQ 11 rfl (by kernel_rfl) (dN (bD (bD (dN (bD dh))))) (zz3 (off := 4) (ft := 53) rfl cR rfl gu) ?_)
          | (refine gU 421 ?_; refine mz [1, 3, 6, 9] ?_)
          | (refine gU 423 ?_; refine mz [3, 6, 9] ?_)
          | (refine gU 431 ?_; refine mz [4, 6, 9] ?_)
          | (refine gU 447 ?_; refine mz [6, 9] ?_)
          | (refine gU 2559 ?_; refine mz [9] ?_)
          | (refine gU 3071 ?_; refine mz [10] ?_)
          | (refine gU 4095 ?_; refine mz [12] ?_)
          | (refine gU 16383 ?_; refine mz [14] ?_)
          | (refine gU 959 ?_; refine mz [6] ?_)
          | (refine gU 495 ?_; refine mz [4, 9] ?_)
          | (refine gU 1007 ?_; refine mz [4] ?_)
          | (refine gU 943 ?_; refine mz [4, 6] ?_)
          | (refine gU 487 ?_; refine mz [3, 9] ?_)
          | (refine gU 999 ?_; refine mz [3] ?_)
          | (refine gU 935 ?_; refine mz [3, 6] ?_)
          | (refine gU 429 ?_; refine mz [1, 6, 9] ?_)
          | (refine gU 493 ?_; refine mz [1, 9] ?_)
          | (refine gU 1005 ?_; refine mz [1] ?_)
          | (refine gU 941 ?_; refine mz [1, 6] ?_)
          | (refine gU 485 ?_; refine mz [1, 3, 9] ?_)
          | (refine gU 997 ?_; refine mz [1, 3] ?_)
          | (refine gU 933 ?_; refine mz [1, 3, 6] ?_)
          | (
           refine gU 32767 ?_
           refine GP (by kernel_rfl) ?_
           refine aX (ac ?_)
           apply eC (_, _, _, _)
           ·exact rfl
           ·exact Front.nil
           ·exact bC 41 rfl
           ·exact (by repeat' (first | exact Pick.refl _ | exact Del.here _ | apply Pick.cons | apply Del.there | apply Pick.skip | exact Pick.nil _))
           ·exact (by show _ = _; first | exact (qq hqi).symm | exact (qp hbk).symm | exact (qu hbt hqt).symm | (rw [qo hqi hbt hqt]; simp))
           )
          )
        ·have hqt : (cC l (R.kept.getD k default) (b.get (R.kept.getD k default).a)).2 ≠ 0 := h21
         refine cg (aX (ac ?_))
         refine rc (_, _, _, _) Front.nil (bC 28 rfl) (o := (by show _ = _; first | exact (qq hqi).symm | exact (qp hbk).symm | exact (qu hbt hqt).symm | (rw [qo hqi hbt hqt]; simp)))
    ·obtain ⟨rs3, at3, Vt3, Vp3⟩ := i
     replace hi : (⟨rs3.map (·.data), at3⟩ : FndV) = k6 l R.kept (ss.map (·.data)) ⟨rs.map (·.data), at2⟩ (R.kept.getD k default) := hi
     change Tr _ _ (rowE VC 36 aO R.kept :: cellE b6 [.slice pKi R.kept.length cKi, .slice pKe R.ents.length cKe, .slice pKu R.unk.length cKu, .slice pKb R.bad.length cKb, Vt3, Vp3] 114 :: rowE Vt3 31 dL rs3 :: rowE Vp3 23 ao at3 :: rowE Vs 177 dL ss :: rowE (.slice pKi R.kept.length cKi) 36 aO R.kept :: rowE (.slice pKe R.ents.length cKe) 23 ao R.ents :: rowE (.slice pKu R.unk.length cKu) 23 ao R.unk :: rowE (.slice pKb R.bad.length cKb) 23 ao R.bad :: cellE b2 [.slice none 0 0, .slice none 0 0, .slice none 0 0, .slice none 0 0, .slice none 0 0, .slice none 0 0] 114 :: (rs3.map (rvE 23 ao) ++ [])) ([] ++ _) _
     have hi3 := hi
     refine an (zz0 (cp rfl rfl) ?_)
     refine zz0 (aa rfl) (ad ?_)
     refine oV (k + 1, rs3, at3, Vt3, Vp3) (Front.c Front.nil) (bC 4 rfl) (o := ⟨by omega, by rw [BE (by omega), ← hfa]; exact hi3⟩)
   ·refine bJ (aG (aG (bv (ac (al ?_)))))
    refine gZ (V := Vt) (fun pVt cVt hpv => ?_)
    subst hpv
    refine gZ (V := Vp) (fun pVp cVp hpv => ?_)
    subst hpv
    refine an (zz0 (bH rfl iE eU) ?_)
    refine zz6 rfl rfl eU ?_
    refine zz0 (ab rfl) (ad (aB ?_))
    refine kf Tryz.results52 rfl rfl iE eU (fun w' hw => ?_)
    obtain rfl : k = R.kept.length := by omega
    rw [List.take_length] at hfa
    rw [List.append_nil] at hw
    exact ⟨((.slice pKi R.kept.length cKi, .slice pKe R.ents.length cKe, .slice pKu R.unk.length cKu, .slice pKb R.bad.length cKb, _, _), (⟨R.kept, R.ents, R.unk, R.bad⟩, ⟨rs.map (·.data), at2⟩, 0), rs), rfl, hw.below0 hG, hw.ents0 hG.lo (by repeat' (first | exact Pick.refl _ | exact Del.here _ | apply Pick.cons | apply Del.there | apply Pick.skip | exact Pick.nil _)), ⟨c, ew, hwk, by rw [if_neg (fun q => q hqw), Dw hR (by rw [← hrts]; exact hks0), ← hrts, ← hks1, hfa]⟩, rfl⟩
end Go.Proofs.YtiajjbhcpeadfaaGreat
namespace Go.HL
open Go
section
variable {P : Program} {Q : Exit → Act → World → Prop} {N : Nat} {F : Bg} {L : List Ent} {M : Fr}
theorem AK {fn : Func} {R : Ending → World → Prop} {t T : TypeId} {u s r q : Tmp} {v v2 v3 : Value} {b k : Nat} {cs : List Value} (hr : fn.results = #[.cell u t, .tmp s, .tmp r, .tmp q]) (hv : look M u = some (.pointer (some ⟨b, 0, none⟩))) (hs : look M s = some v) (hs2 : look M r = some v2) (hs3 : look M q = some v3) (hm : cellE b cs T ∈ L)
  (hagg : ∀ w, (isAgg t).run P w = .ok true w) (hz : ∀ w, (sizeOf t).run P w = .ok k w) (hl : cs.length = k) (h : ∀ w, HpOK F L w → R (.returned (.tuple #[.agg cs.toArray, v, v2, v3])) w) (hD : look M mk0 = some undef := by rfl) :
  Tr N F L M (bodyPost P fn R .ret) := fun a w ha hw => ⟨ha.defers0 hD, _, by
   have h1 := ha.val u _ hv
   have h2 := ha.val s _ hs
   have h3 := ha.val r _ hs2
   have h4 := ha.val q _ hs3
   rw [Array.getD_eq_getD_getElem?] at h1 h2 h3 h4
   simp [results, hr, h1, h2, h3, h4, asAddr, pE (hw.ent _ hm) hagg hz hl], h w hw⟩
theorem HpOK.rvs {α : Type} {T : TypeId} {E : Enc α} {rs : List (RV α)} {w : World} (h : HpOK F L w) (hm : ∀ r ∈ rs, rvE T E r ∈ L) : RvIn E (HL.hp w) rs := fun r hr => rowE.sl (h.ent _ (hm r hr))
end
theorem Pick.left : ∀ (A B : List Ent), Pick (A ++ B) A
 | [], B => .nil _
 | a :: A, B => .cons (.here _) (Pick.left A B)
theorem BY {A B C : List Ent} {N : Nat} {F : Bg} {M : Fr} {X : Act → World → Prop} (K : Tr N F (A ++ (C ++ (B ++ []))) M X) : Tr N F (A ++ (B ++ C)) M X := by
 refine qD (L' := A ++ (C ++ (B ++ []))) ?_ K
 rw [List.append_nil]
 exact List.perm_append_comm.append_left _
theorem uK (rs : List (RV UInt32)) : (rs.map lC).map (·.data) = rs.map (·.data) := by rw [List.map_map]; rfl
theorem Hg {rs : List (RV UInt32)} {L : List (List UInt32)} (h : rs.map (·.data) = L) (h1 : L.length ≤ 700) (h2 : ∀ t ∈ L, t.length ≤ 64) : pY (rs.map lC) := by
 subst h
 rw [List.length_map] at h1
 refine ⟨by rw [List.length_map]; exact h1, fun t ht => ?_⟩
 obtain ⟨r, hr, rfl⟩ := List.mem_map.1 ht
 exact h2 r.data (List.mem_map.2 ⟨r, hr, rfl⟩)
inductive Rnds (l : List SecV) (es : List UInt32) : Nat → FndV → Prop
 | zero : Rnds l es 0 ⟨[], []⟩
 | step (n : Nat) (f : FndV) (ts : List TabV) (o : CodeP × FndV × Int) (h : Rnds l es n f) (ht : ts.map (·.data) = f.ts) (hr : RoundIs l es ts f.at_ o) (h0 : o.2.2 = 0) (hn : ¬ (o.2.1.at_ = f.at_ ∧ o.2.1.ts = f.ts)) : Rnds l es (n + 1) o.2.1
def u5 : CodeP := ⟨[], [], [], []⟩
inductive ResIs (l : List SecV) (es : List UInt32) (o : CodeP × FndV × Int) : Prop
 | err (n : Nat) (f : FndV) (ts : List TabV) (o' : CodeP × FndV × Int) (h : Rnds l es n f) (hn : n < 16) (ht : ts.map (·.data) = f.ts) (hr : RoundIs l es ts f.at_ o') (h0 : o'.2.2 ≠ 0) (ho : o = (u5, ⟨[], []⟩, o'.2.2)) : ResIs l es o
 | ok (n : Nat) (f : FndV) (ts : List TabV) (o' : CodeP × FndV × Int) (h : Rnds l es n f) (hn : n < 16) (ht : ts.map (·.data) = f.ts) (hr : RoundIs l es ts f.at_ o') (h0 : o'.2.2 = 0) (hs : o'.2.1.at_ = f.at_ ∧ o'.2.1.ts = f.ts) (ho : o = o') : ResIs l es o
 | out (f : FndV) (h : Rnds l es 16 f) (ho : o = (u5, ⟨[], []⟩, 15)) : ResIs l es o
theorem RoundIs.tabs {l : List SecV} {es : List UInt32} {ts : List TabV} {at_ : List UInt32} {o : CodeP × FndV × Int} (hT : pY ts) (h : RoundIs l es ts at_ o) : (o.2.1.ts.length ≤ totD l ∧ o.2.1.at_.length ≤ totD l) ∧ ∀ t ∈ o.2.1.ts, t.length ≤ 64 := by
 obtain ⟨c, e, hw, hi⟩ := h
 split at hi
 ·subst hi; exact ⟨⟨Nat.zero_le _, Nat.zero_le _⟩, fun t ht => by cases ht⟩
 ·subst hi
  unfold sE
  split
  ·exact ⟨⟨Nat.zero_le _, Nat.zero_le _⟩, fun t ht => by cases ht⟩
  ·have h1 := (xj hT hw).1.1
   have h2 := (wV c.ins c.ents c.unk c.bad).1.1
   have h3 := w8 l (gJ c.ins c.ents c.unk c.bad).kept (kN (gJ c.ins c.ents c.unk c.bad).kept (kC (gJ c.ins c.ents c.unk c.bad).kept (gJ c.ins c.ents c.unk c.bad).ents (ts.map (·.data)))) (gJ c.ins c.ents c.unk c.bad).kept
   exact ⟨⟨Nat.le_trans h3.1 (Nat.le_trans h2 h1), Nat.le_trans h3.2 (Nat.le_trans h2 h1)⟩, Ef _ _ _ _⟩
end Go.HL
namespace Go.Proofs.YtiajjbhcpeadfaaGreat
open Go Go.HL Go.RowKit
theorem Be (l : List SecV) (pV : Option Addr) (cV : Nat) (es : List UInt32) (VE : Value) (w : World) (hV : Sl (hp w) dx l (.slice pV l.length cV)) (hB : SecB l) (hD : DataIn (hp w) l) (hN : ∀ s ∈ l, s.name.size ≤ 140737488351232) (hE : Sl (hp w) ao es VE) (ht : totD l ≤ 600) (hel : es.length ≤ 100) :
  Calls Tryz.prog 17 #[(.slice pV l.length cV), VE] w (fun e w' => ∃ i : (Value × Value × Value × Value × Value × Value) × (CodeP × FndV × Int) × List (RV UInt32), e = .returned ((fun i : (Value × Value × Value × Value × Value × Value) × (CodeP × FndV × Int) × List (RV UInt32) => .tuple #[.agg #[i.1.1, i.1.2.1, i.1.2.2.1, i.1.2.2.2.1], i.1.2.2.2.2.1, i.1.2.2.2.2.2, .int .i64 i.2.1.2.2]) i) ∧ Below w.heap.size w w' ∧ NewEnts w w' ((fun i : (Value × Value × Value × Value × Value × Value) × (CodeP × FndV × Int) × List (RV UInt32) => rowE i.1.1 36 aO i.2.1.1.ins :: rowE i.1.2.1 23 ao i.2.1.1.ents :: rowE i.1.2.2.1 23 ao i.2.1.1.unk :: rowE i.1.2.2.2.1 23 ao i.2.1.1.bad :: rowE i.1.2.2.2.2.1 31 dL i.2.2 :: rowE i.1.2.2.2.2.2 23 ao i.2.1.2.1.at_ :: i.2.2.map (rvE 23 ao)) i) ∧ (fun i : (Value × Value × Value × Value × Value × Value) × (CodeP × FndV × Int) × List (RV UInt32) => ResIs l es i.2.1 ∧ i.2.2.map (·.data) = i.2.1.2.1.ts) i) := by
 have hV0 : Sl (Bg.of0 w).blk dx l (.slice pV l.length cV) := hV
 have hD0 : DataIn (Bg.of0 w).blk l := hD
 have hE0 : Sl (Bg.of0 w).blk ao es VE := hE
 refine lx Tryz.func17 rfl Tryz.ntmps17 rfl ?_
 refine af ?_
 refine dB eZ rfl (fun b1 => ?_)
 refine zz0 (ab rfl) (zz0 (ab rfl) (zz0 (ab rfl) (ad (sb (af ?_)))))
 refine dB jY rfl (fun b2 => ?_)
 refine aH (zz0 (ab rfl) (ad (al (sd ?_))))
 refine ac ?_
 refine di (ι := Bg × Int) (fun ⟨G9, e9⟩ => (Bg.of0 w).le G9 ∧ ResIs l es (u5, ⟨[], []⟩, e9)) (fun ⟨G9, e9⟩ => G9) (fun ⟨G9, e9⟩ => [cellE b1 [.slice none 0 0, .slice none 0 0, .slice none 0 0, .slice none 0 0] 52]) (fun ⟨G9, e9⟩ => [(9, .int .i64 e9)]) ?_ (fun i hi => ?_)
 ·skip
  refine af (zz0 (aa rfl) (ad (aF ?_)))
  refine bL (ι := Nat × Bg × ((Option Addr × Nat × Nat) × (Option Addr × Nat × Nat) × (Option Addr × Nat × Nat) × (Option Addr × Nat × Nat)) × (List TabV × Option Addr × Nat) × (List UInt32 × Option Addr × Nat)) (fun ⟨k, G, ⟨⟨x0, xn0, xc0⟩, ⟨x1, xn1, xc1⟩, ⟨x2, xn2, xc2⟩, ⟨x3, xn3, xc3⟩⟩, ⟨ts, pt, ct⟩, ⟨at_, pa, ca⟩⟩ => ((k ≤ 16 ∧ (Bg.of0 w).le G) ∧ pY ts) ∧ (Sl G.blk gi ts (.slice pt ts.length ct) ∧ TabIn G.blk ts ∧ Sl G.blk ao at_ (.slice pa at_.length ca)) ∧ Rnds l es k ⟨ts.map (·.data), at_⟩) (fun ⟨k, G, ⟨⟨x0, xn0, xc0⟩, ⟨x1, xn1, xc1⟩, ⟨x2, xn2, xc2⟩, ⟨x3, xn3, xc3⟩⟩, ⟨ts, pt, ct⟩, ⟨at_, pa, ca⟩⟩ => G) (fun ⟨k, G, ⟨⟨x0, xn0, xc0⟩, ⟨x1, xn1, xc1⟩, ⟨x2, xn2, xc2⟩, ⟨x3, xn3, xc3⟩⟩, ⟨ts, pt, ct⟩, ⟨at_, pa, ca⟩⟩ => [cellE b2 [.slice x0 xn0 xc0, .slice x1 xn1 xc1, .slice x2 xn2 xc2, .slice x3 xn3 xc3, .slice pt ts.length ct, .slice pa at_.length ca] 114, cellE b1 [.slice none 0 0, .slice none 0 0, .slice none 0 0, .slice none 0 0] 52]) (fun ⟨k, G, ⟨⟨x0, xn0, xc0⟩, ⟨x1, xn1, xc1⟩, ⟨x2, xn2, xc2⟩, ⟨x3, xn3, xc3⟩⟩, ⟨ts, pt, ct⟩, ⟨at_, pa, ca⟩⟩ => [(12, .int .i64 (k : Nat))]) (fun ⟨k, G, ⟨⟨x0, xn0, xc0⟩, ⟨x1, xn1, xc1⟩, ⟨x2, xn2, xc2⟩, ⟨x3, xn3, xc3⟩⟩, ⟨ts, pt, ct⟩, ⟨at_, pa, ca⟩⟩ => 16 - k) (0, _, ((none, 0, 0), (none, 0, 0), (none, 0, 0), (none, 0, 0)), ([], none, 0), ([], none, 0)) ⟨⟨⟨Nat.zero_le _, Bg.le.refl _⟩, ⟨Nat.zero_le _, (fun t ht => by cases ht)⟩⟩, ⟨Sl.nil _ _, (fun t ht => by cases ht), Sl.nil _ _⟩, .zero⟩ (Front.c Front.nil) (by repeat' constructor) rfl (fun i hi m hm => ?_)
  obtain ⟨k, G, ⟨⟨x0, xn0, xc0⟩, ⟨x1, xn1, xc1⟩, ⟨x2, xn2, xc2⟩, ⟨x3, xn3, xc3⟩⟩, ⟨ts, pt, ct⟩, ⟨at_, pa, ca⟩⟩ := i
  replace hi : ((k ≤ 16 ∧ (Bg.of0 w).le G) ∧ pY ts) ∧ (Sl G.blk gi ts (.slice pt ts.length ct) ∧ TabIn G.blk ts ∧ Sl G.blk ao at_ (.slice pa at_.length ca)) ∧ Rnds l es k ⟨ts.map (·.data), at_⟩ := hi
  replace hm : m = 16 - k := hm
  change Tr _ (G) [cellE b2 [.slice x0 xn0 xc0, .slice x1 xn1 xc1, .slice x2 xn2 xc2, .slice x3 xn3 xc3, .slice pt ts.length ct, .slice pa at_.length ca] 114, cellE b1 [.slice none 0 0, .slice none 0 0, .slice none 0 0, .slice none 0 0] 52] ([(12, .int .i64 (k : Nat))] ++ _) _
  obtain ⟨⟨⟨hk, hG⟩, hTB⟩, ⟨hT, hTI, hP⟩, hRn⟩ := hi
  refine af (zz0 (bU rfl rfl) (ad (al ?_)))
  refine ar rfl ?_ ?_ <;> intro h3 <;> try simp only [bs] at h3
  ·refine bF (al (aF (af (zz0 (bH rfl iE eU) ?_))))
   refine zz0 (aa rfl) (zz0 (aa rfl) ?_)
   refine eW (fun i : (Value × Value × Value × Value × Value × Value) × (CodeP × FndV × Int) × List (RV UInt32) => .tuple #[.agg #[i.1.1, i.1.2.1, i.1.2.2.1, i.1.2.2.2.1, i.1.2.2.2.2.1, i.1.2.2.2.2.2], .int .i64 i.2.1.2.2]) (fun i : (Value × Value × Value × Value × Value × Value) × (CodeP × FndV × Int) × List (RV UInt32) => rowE i.1.1 36 aO i.2.1.1.ins :: rowE i.1.2.1 23 ao i.2.1.1.ents :: rowE i.1.2.2.1 23 ao i.2.1.1.unk :: rowE i.1.2.2.2.1 23 ao i.2.1.1.bad :: rowE i.1.2.2.2.2.1 31 dL i.2.2 :: rowE i.1.2.2.2.2.2 23 ao i.2.1.2.1.at_ :: i.2.2.map (rvE 23 ao)) (ok := fun i : (Value × Value × Value × Value × Value × Value) × (CodeP × FndV × Int) × List (RV UInt32) => RoundIs l es ts at_ i.2.1 ∧ i.2.2.map (·.data) = i.2.1.2.1.ts) hG.dr rfl Tryz.call52 (fun w hw => EZ _ _ _ _ _ _ _ _ _ _ _ _ l pV cV es VE ts at_ _ _ _ _ w ((hw.slF (hV0.mono hG.blk))) hB ((hD0.mono hG.blk).mono hw.bg) hN (hw.slF (hE0.mono hG.blk)) (hw.slF hT) (hTI.mono hw.bg) hTB (hw.slF hP) ht hel) rfl (fun i hri => ?_)
   obtain ⟨⟨Wi, We, Wu, Wb, Wt, Wp⟩, o, rs⟩ := i
   obtain ⟨hro, hrs⟩ : RoundIs l es ts at_ o ∧ rs.map (·.data) = o.2.1.ts := hri
   change Tr _ _ (rowE Wi 36 aO o.1.ins :: rowE We 23 ao o.1.ents :: rowE Wu 23 ao o.1.unk :: rowE Wb 23 ao o.1.bad :: rowE Wt 31 dL rs :: rowE Wp 23 ao o.2.1.at_ :: (rs.map (rvE 23 ao) ++ _)) _ _
   refine gZ (V := Wi) (fun pWi cWi hpv => ?_)
   subst hpv
   refine gZ (V := We) (fun pWe cWe hpv => ?_)
   subst hpv
   refine gZ (V := Wu) (fun pWu cWu hpv => ?_)
   subst hpv
   refine gZ (V := Wb) (fun pWb cWb hpv => ?_)
   subst hpv
   refine gZ (V := Wt) (fun pWt cWt hpv => ?_)
   subst hpv
   refine gZ (V := Wp) (fun pWp cWp hpv => ?_)
   subst hpv
   have hml : rs.length = (rs.map lC).length := (List.length_map _).symm
   rw [hml]
   refine BY (A := [rowE (.slice pWi o.1.ins.length cWi) 36 aO o.1.ins, rowE (.slice pWe o.1.ents.length cWe) 23 ao o.1.ents, rowE (.slice pWu o.1.unk.length cWu) 23 ao o.1.unk, rowE (.slice pWb o.1.bad.length cWb) 23 ao o.1.bad, rowE (.slice pWt (rs.map lC).length cWt) 31 dL rs, rowE (.slice pWp o.2.1.at_.length cWp) 23 ao o.2.1.at_]) (B := rs.map (rvE 23 ao)) (C := [cellE b2 [.slice x0 xn0 xc0, .slice x1 xn1 xc1, .slice x2 xn2 xc2, .slice x3 xn3 xc3, .slice pt ts.length ct, .slice pa at_.length ca] 114, cellE b1 [.slice none 0 0, .slice none 0 0, .slice none 0 0, .slice none 0 0] 52]) ?_
   change Tr _ _ (rowE (.slice pWi o.1.ins.length cWi) 36 aO o.1.ins :: rowE (.slice pWe o.1.ents.length cWe) 23 ao o.1.ents :: rowE (.slice pWu o.1.unk.length cWu) 23 ao o.1.unk :: rowE (.slice pWb o.1.bad.length cWb) 23 ao o.1.bad :: rowE (.slice pWt (rs.map lC).length cWt) 31 dL rs :: rowE (.slice pWp o.2.1.at_.length cWp) 23 ao o.2.1.at_ :: cellE b2 [.slice x0 xn0 xc0, .slice x1 xn1 xc1, .slice x2 xn2 xc2, .slice x3 xn3 xc3, .slice pt ts.length ct, .slice pa at_.length ca] 114 :: cellE b1 [.slice none 0 0, .slice none 0 0, .slice none 0 0, .slice none 0 0] 52 :: (rs.map (rvE 23 ao) ++ [])) _ _
   refine zz0 (aa rfl) (zz0 (aL rfl rfl) (zz0 (aL rfl rfl) ?_))
   refine dB jY rfl (fun b4 => ?_)
   refine zz6 rfl rfl eU ?_
   refine zz0 (ab rfl) (ad (al (af (zz0 (aa rfl) (zz0 (fV rfl rfl) (ad ?_))))))
   refine ar rfl ?_ ?_ <;> intro h5 <;> try simp only [bs] at h5
   ·have hqq : o.2.2 ≠ 0 := h5
    refine af (zz0 (aa rfl) (zz0 (ab rfl) (ad (bJ (aG (jF rfl ?_))))))
    refine aG (aG (bv (ac ?_)))
    refine rc (_, o.2.2) (Front.c Front.nil) (bC 16 rfl) (o := ⟨hG, .err k _ ts o hRn (by omega) rfl hro hqq rfl⟩)
   ·have hqq : o.2.2 = 0 := by simpa using h5
    refine bF (al (af (zz0 (bH rfl iE eU) ?_)))
    refine zz0 (bH rfl iE eU) ?_
    refine zz0 (aA rfl Tryz.call53 (fun w hw => Hj _ _ _ _ _ _ _ _ _ _ _ _ _ _ _ _ _ _ _ _ _ _ _ _ (rs.map lC) ts o.2.1.at_ at_ _ _ _ _ _ _ _ _ w (EM (hw.row (by repeat constructor))) (EN (hw.rvs (T := 23) (fun r hr => by repeat (first | exact List.mem_append_left _ (List.mem_map.2 ⟨r, hr, rfl⟩) | apply List.Mem.tail)))) (hw.row (by repeat constructor)) (hw.slF hT) (hTI.mono hw.bg) (hw.slF hP))) ?_
    refine ad ?_
    refine ar rfl ?_ ?_ <;> intro h6 <;> try simp only [bs] at h6
    ·have hsm := h6
     refine al (dW ([cellE b4 [.slice pWi o.1.ins.length cWi, .slice pWe o.1.ents.length cWe, .slice pWu o.1.unk.length cWu, .slice pWb o.1.bad.length cWb, .slice pWt (rs.map lC).length cWt, .slice pWp o.2.1.at_.length cWp] 114]) 10 rfl aQ ?_)
     refine zz4 0 rfl (zz3 (off := 0) (ft := 52) rfl cR rfl cO) ?_
     refine iW 1 rfl (by kernel_rfl) (bD (bD (dN (bD (bD (dN (bD (j6 dh)))))))) (fW (vs := [.slice pWi o.1.ins.length cWi, .slice pWe o.1.ents.length cWe, .slice pWu o.1.unk.length cWu, .slice pWb o.1.bad.length cWb]) rfl (by repeat constructor) gk cO (by rfl) (by rfl)) ?_
     refine zz4 2 rfl (zz3 (off := 4) (ft := 53) rfl cR rfl gu) ?_
     refine zz4 3 rfl (aJ rfl ka) ?_
     refine zz4 4 rfl (zz3 (off := 5) (ft := 31) rfl cR rfl cP) ?_
     refine zz4 5 rfl (aJ rfl dV) ?_
     refine cY [6] (fun iq hq => ?_)
     obtain rfl := List.mem_singleton.1 hq
     refine bj rfl ?_
     refine zz6 rfl rfl cO ?_
     refine bN ?_
     refine zz4 7 rfl (ab rfl) ?_
     refine zz4 8 rfl (ab rfl) ?_
     refine zz4 9 rfl (ab rfl) ?_
     refine ij ?_
     refine ac (aB (ay (bA (ay (ay (bA (ay (fU ?_))))))))
     refine AK Tryz.results17 rfl rfl rfl rfl (by repeat constructor) gk cO (by rfl) (fun w' hw => ?_)
     exact ⟨(((.slice pWi o.1.ins.length cWi), (.slice pWe o.1.ents.length cWe), (.slice pWu o.1.unk.length cWu), (.slice pWb o.1.bad.length cWb), (.slice pWt (rs.map lC).length cWt), (.slice pWp o.2.1.at_.length cWp)), o, rs), (by show _ = Ending.returned (Value.tuple #[_, _, _, Value.int .i64 o.2.2]); rw [hqq]; rfl), hw.below0 hG, hw.ents0 hG.lo (by repeat' (first | exact Pick.refl _ | exact Pick.left _ _ | exact Del.here _ | apply Pick.cons | apply Del.there | apply Pick.skip | exact Pick.nil _)), .ok k _ ts o hRn (by omega) rfl hro hqq ⟨hsm.1, by rw [← hrs, ← uK]; exact hsm.2⟩ rfl, hrs⟩
    ·have hsm := h6
     refine bF ?_
     have hne : ¬ (o.2.1.at_ = at_ ∧ o.2.1.ts = ts.map (·.data)) := fun q => by
      rcases hsm with h | h
      ·exact h q.1
      ·exact h (by rw [uK, hrs]; exact q.2)
     have htb := hro.tabs hTB
     have hTB9 := Hg hrs (by omega) htb.2
     refine oS (A := [cellE b4 [.slice pWi o.1.ins.length cWi, .slice pWe o.1.ents.length cWe, .slice pWu o.1.unk.length cWu, .slice pWb o.1.bad.length cWb, .slice pWt (rs.map lC).length cWt, .slice pWp o.2.1.at_.length cWp] 114, rowE (.slice pWi o.1.ins.length cWi) 36 aO o.1.ins, rowE (.slice pWe o.1.ents.length cWe) 23 ao o.1.ents, rowE (.slice pWu o.1.unk.length cWu) 23 ao o.1.unk, rowE (.slice pWb o.1.bad.length cWb) 23 ao o.1.bad, rowE (.slice pWt (rs.map lC).length cWt) 31 dL rs, rowE (.slice pWp o.2.1.at_.length cWp) 23 ao o.2.1.at_, cellE b2 [.slice x0 xn0 xc0, .slice x1 xn1 xc1, .slice x2 xn2 xc2, .slice x3 xn3 xc3, .slice pt ts.length ct, .slice pa at_.length ca] 114, cellE b1 [.slice none 0 0, .slice none 0 0, .slice none 0 0, .slice none 0 0] 52]) rs (fun F6 hF6 hI6 => ?_)
     change Tr _ _ [cellE b4 [.slice pWi o.1.ins.length cWi, .slice pWe o.1.ents.length cWe, .slice pWu o.1.unk.length cWu, .slice pWb o.1.bad.length cWb, .slice pWt (rs.map lC).length cWt, .slice pWp o.2.1.at_.length cWp] 114, rowE (.slice pWi o.1.ins.length cWi) 36 aO o.1.ins, rowE (.slice pWe o.1.ents.length cWe) 23 ao o.1.ents, rowE (.slice pWu o.1.unk.length cWu) 23 ao o.1.unk, rowE (.slice pWb o.1.bad.length cWb) 23 ao o.1.bad, rowE (.slice pWt (rs.map lC).length cWt) 31 dL rs, rowE (.slice pWp o.2.1.at_.length cWp) 23 ao o.2.1.at_, cellE b2 [.slice x0 xn0 xc0, .slice x1 xn1 xc1, .slice x2 xn2 xc2, .slice x3 xn3 xc3, .slice pt ts.length ct, .slice pa at_.length ca] 114, cellE b1 [.slice none 0 0, .slice none 0 0, .slice none 0 0, .slice none 0 0] 52] _ _
     refine kH (V := .slice pWt (rs.map lC).length cWt) (T := 31) (E := dL) (l := rs) (by repeat constructor) (fun F7 hF7 hT7 => ?_)
     refine kH (V := .slice pWp o.2.1.at_.length cWp) (T := 23) (E := ao) (l := o.2.1.at_) (by repeat constructor) (fun F9 hF9 hP9 => ?_)
     have hF59 := hF6.trans (hF7.trans hF9)
     refine an (zz0 (bH rfl iE eU) ?_)
     refine zz6 rfl rfl eU ?_
     refine aD (aX (ac (an (zz0 (cp rfl rfl) ?_))))
     refine zz0 (aa rfl) (ad ?_)
     refine cH (k + 1, F9, ((_, _, _), (_, _, _), (_, _, _), (_, _, _)), (rs.map lC, pWt, cWt), (o.2.1.at_, pWp, cWp)) (Front.c Front.nil) (bC 19 rfl) (o := ⟨⟨⟨by omega, hG.trans hF59⟩, hTB9⟩, ⟨EM (hT7.mono hF9.blk), EN (hI6.mono (hF7.trans hF9).blk), hP9⟩, by rw [uK, hrs]; exact Rnds.step k _ ts o hRn rfl hro hqq hne⟩)
  ·refine bJ (aG (aG (bv (ac ?_))))
   refine rc (_, 15) (Front.c Front.nil) (bC 3 rfl) (o := ⟨hG, .out ⟨ts.map (·.data), at_⟩ (by have e : k = 16 := (by omega); subst e; exact hRn) rfl⟩)
 ·obtain ⟨G9, e9⟩ := i
  replace hi : (Bg.of0 w).le G9 ∧ ResIs l es (u5, ⟨[], []⟩, e9) := hi
  change Tr _ _ [cellE b1 [.slice none 0 0, .slice none 0 0, .slice none 0 0, .slice none 0 0] 52] ([(9, .int .i64 e9)] ++ _) _
  obtain ⟨hG9, hrr⟩ := hi
  refine al (bZ 36 aO ?_)
  refine bZ 23 ao ?_
  refine bZ 23 ao ?_
  refine bZ 23 ao ?_
  refine bZ 23 ao ?_
  refine bZ 31 (dL (α := UInt32)) ?_
  refine an (zz0 (bG (vs := []) rfl rfl (qh)) ?_)
  refine zz0 (aa rfl) (zz6 rfl rfl cO ?_)
  refine zz0 (ab rfl) (zz0 (ab rfl) (zz0 (ab rfl) (ad (aB (fU ?_)))))
  refine AK Tryz.results17 rfl rfl rfl rfl (by repeat constructor) gk cO (by rfl) (fun w' hw => ?_)
  exact ⟨((.slice none 0 0, .slice none 0 0, .slice none 0 0, .slice none 0 0, .slice none 0 0, .slice none 0 0), (u5, ⟨[], []⟩, e9), []), rfl, hw.below0 hG9, hw.ents0 hG9.lo (by repeat' (first | exact Pick.refl _ | exact Pick.left _ _ | exact Del.here _ | apply Pick.cons | apply Del.there | apply Pick.skip | exact Pick.nil _)), hrr, rfl⟩
end Go.Proofs.YtiajjbhcpeadfaaGreat
namespace Go.HL
open Go Go.Sort
open Go.Proofs (ltOf)
def Bw (x : UInt32) : List UInt32 → List UInt32
 | [] => [x]
 | y :: t => if x ≤ y then x :: y :: t else y :: Bw x t
def yo : List UInt32 → List UInt32
 | [] => []
 | x :: t => Bw x (yo t)
theorem sT (x : UInt32) : ∀ l, (Bw x l).Perm (x :: l)
 | [] => .refl _
 | y :: t => by
  unfold Bw
  split
  ·exact .refl _
  ·exact ((sT x t).cons y).trans (.swap x y t)
theorem tG (x : UInt32) : ∀ l : List UInt32, l.Pairwise (fun a b => a ≤ b) → (Bw x l).Pairwise (fun a b => a ≤ b)
 | [], _ => by simp [Bw]
 | y :: t, h => by
  unfold Bw
  rw [List.pairwise_cons] at h
  split
  ·rename_i q
   rw [List.pairwise_cons]
   refine ⟨fun z hz => ?_, List.pairwise_cons.2 h⟩
   rcases List.mem_cons.1 hz with rfl | hz
   ·exact q
   ·have := h.1 z hz
    rw [UInt32.le_iff_toNat_le] at *; omega
  ·rename_i q
   rw [List.pairwise_cons]
   refine ⟨fun z hz => ?_, tG x t h.2⟩
   rcases List.mem_cons.1 ((sT x t).mem_iff.1 hz) with rfl | hz
   ·rw [UInt32.le_iff_toNat_le] at *; omega
   ·exact h.1 z hz
theorem nM : ∀ l, gh l = yo l := by
 have h1 : ∀ l, (yo l).Perm l := by
  intro l
  induction l with
  | nil => exact .refl _
  | cons x t ih => exact (sT x _).trans (ih.cons x)
 have h2 : ∀ l, (yo l).Pairwise (fun a b => a ≤ b) := by
  intro l
  induction l with
  | nil => exact .nil
  | cons x t ih => exact tG x _ ih
 exact fun l => sC ((lX l).trans (h1 l).symm) (mB l) (h2 l)
def xR (es : List UInt32) : DSt := ⟨[], [], gK [] es, [], es⟩
def Ip (l : List SecV) (ts : List TabV) (at_ : List UInt32) (s : DSt) (a : UInt32) (r : List UInt32) : DSt :=
 if ((dJ s.ins a).isSome || (dJ s.bad a).getD false) = true then ⟨s.ins, s.bad, s.ents, s.unk, r⟩
 else if (atP l a).2 = true then stepD l ts at_ a s r else ⟨s.ins, fm s.bad a true, s.ents, s.unk, r⟩
def uI (l : List SecV) (ts : List TabV) (at_ : List UInt32) : Nat → DSt → DSt
 | 0, s => s
 | n + 1, s => match s.rest with
  | [] => s
  | x :: t => uI l ts at_ n (Ip l ts at_ s ((x :: t).getLast (by simp)) (x :: t).dropLast)
theorem wz {l : List SecV} {ts : List TabV} {at_ es : List UInt32} (hT : pY ts) : ∀ (n : Nat) (s : DSt), DInv l ts at_ es s → DInv l ts at_ es (uI l ts at_ n s)
 | 0, s, h => h
 | n + 1, s, h => by
  unfold uI
  split
  ·exact h
  ·rename_i x t hr
   refine wz hT n _ ?_
   have hr' : s.rest = (x :: t).dropLast ++ [(x :: t).getLast (by simp)] := by rw [hr, List.dropLast_concat_getLast]
   unfold Ip
   split
   ·rename_i q
    rw [Bool.or_eq_true] at q
    exact h.skip hr' (zp q)
   ·rename_i q
    rw [Bool.not_eq_true, Bool.or_eq_false_iff] at q
    split
    ·rename_i q2
     exact h.found hT hr' q2 (Cq q)
    ·rename_i q2
     exact h.isBad hr' (by simpa using q2)
def Gs (s : DSt) : CodeP := ⟨(yo (s.ins.map (·.1))).map fun a => (dJ s.ins a).getD cx, (yo (s.ents.map (·.1))).filter fun a => (dJ s.ins a).isSome, yo (s.unk.map (·.1)), yo (s.bad.map (·.1))⟩
theorem Dj {l : List SecV} {ts : List TabV} {at_ es : List UInt32} {c : CodeP} {e : Int} (hT : pY ts) (h : WalkIs l ts at_ es c e) (hl : ts.length = at_.length) (hc : dT l = 0) {n : Nat} (hr : (uI l ts at_ n (xR es)).rest = []) :
  c = Gs (uI l ts at_ n (xR es)) ∧ e = 0 := by
 have hi := wz hT n _ (DInv.begin (l := l) (ts := ts) (at_ := at_) (es := es))
 have hk := hi.code hr
 cases h with
 | arg h => exact absurd hl h
 | chk h h1 => exact absurd hc h1
 | ok h h1 he hcc =>
  refine ⟨(hcc.eq hk (fun a => Iff.rfl) (fun a => Iff.rfl)).trans ?_, he⟩
  unfold Gs
  rw [nM, nM, nM, nM]
  congr 1
  refine List.map_congr_left fun a ha => ?_
  have hm : a ∈ (uI l ts at_ n (xR es)).ins.map (·.1) := by
   rw [← nM, nJ] at ha; exact ha
  obtain ⟨x, hx⟩ := ov hm
  rw [hx, (hi.ins a x hx).2.2]; rfl
def apartB : List Ins → Bool
 | [] => true
 | a :: t => (match t with
  | [] => true
  | b :: _ => decide (a.addr < b.addr) && decide (vB a ≤ (b.addr.toNat : Int))) && apartB t
theorem AD : ∀ l : List Ins, apartB l = true → l.Pairwise fun a b => ltA a b = true ∧ vB a ≤ (b.addr.toNat : Int)
 | [], _ => .nil
 | [a], _ => by simp
 | a :: b :: t, h => by
  unfold apartB at h
  simp only [Bool.and_eq_true, decide_eq_true_eq] at h
  have ih := AD (b :: t) h.2
  rw [List.pairwise_cons]
  refine ⟨fun z hz => ?_, ih⟩
  rcases List.mem_cons.1 hz with rfl | hz
  ·exact ⟨by simp [ltA, h.1.1], h.1.2⟩
  ·have h1 := (List.pairwise_cons.1 ih).1 z hz
   have h2 : b.addr < z.addr := by have := h1.1; simpa [ltA] using this
   have h3 := h.1.1
   have h4 := h.1.2
   rw [UInt32.lt_iff_toNat_lt] at h2 h3
   exact ⟨by simp only [ltA, decide_eq_true_eq, UInt32.lt_iff_toNat_lt]; omega, by omega⟩
def FZ (ins : List Ins) : Bool := ins.all (fun i => decide (jn i = 0)) && apartB ins
theorem FY {ins : List Ins} (h : FZ ins = true) (ents unk bad : List UInt32) : gJ ins ents unk bad = ⟨ins, ents.filter (inK ins), unk.filter (inK ins), bad, []⟩ := by
 unfold FZ at h
 rw [Bool.and_eq_true, List.all_eq_true] at h
 have hp := AD ins h.2
 have hs : ins.Pairwise fun a b => ltA a b = true := hp.imp fun q => q.1
 have hd := tq hs
 have hc : fK ins = ins := by
  rw [BI hd (fun y hy => by simpa using h.1 y hy)]
  obtain ⟨k1, k2⟩ := uP hd
  exact xW CE FC _ _ k1 hs k2
 have hn : ∀ a ∈ ins, ∀ b ∈ ins, jN a b = false := by
  have key : ∀ a b : Ins, ltA a b = true → vB a ≤ (b.addr.toNat : Int) → jN a b = false := by
   intro a b h1 h2
   simp only [ltA, decide_eq_true_eq, UInt32.lt_iff_toNat_lt] at h1
   unfold jN
   rw [Bool.and_eq_false_iff]; right
   rw [decide_eq_false_iff_not]
   have : (mxU a.addr b.addr).toNat = b.addr.toNat := by
    unfold mxU
    split
    ·rfl
    ·rename_i q; rw [UInt32.lt_iff_toNat_lt] at q; omega
   rw [this]; omega
  intro a ha b hb
  obtain ⟨i, hi, rfl⟩ := List.mem_iff_getElem.1 ha
  obtain ⟨j, hj, rfl⟩ := List.mem_iff_getElem.1 hb
  rw [List.pairwise_iff_getElem] at hp
  rcases Nat.lt_trichotomy i j with q | q | q
  ·exact key _ _ (hp i j hi hj q).1 (hp i j hi hj q).2
  ·subst q; unfold jN; simp
  ·rw [Gr]; exact key _ _ (hp j i hj hi q).1 (hp j i hj hi q).2
 have hr := Hl (ins := ins) (ents := ents) (unk := unk) (bad := bad) (by rw [hc]; exact hn)
 rw [hc] at hr
 have e1 : (gJ ins ents unk bad).ents = ents.filter (inK (gJ ins ents unk bad).kept) := rfl
 have e2 : (gJ ins ents unk bad).unk = unk.filter (inK (gJ ins ents unk bad).kept) := rfl
 have e3 : (gJ ins ents unk bad).bad = bad := rfl
 rw [hr.1] at e1 e2
 generalize hR : gJ ins ents unk bad = R at *
 cases R
 simp only at hr e1 e2 e3
 rw [hr.1, hr.2, e1, e2, e3]
def Gh : List (List StV × Int) → Int
 | [] => 0
 | x :: t => if x.2 ≠ 0 then x.2 else Gh t
theorem CQ (ins : List Ins) : ∀ rts, mA ins rts = Gh (rts.map fun r => eR ins r 4096)
 | [] => rfl
 | r :: t => by simp only [mA, List.map_cons, Gh, CQ ins t]
def Iv (l : List SecV) (c : CodeP) (A : List (List StV × Int)) : CodeP × FndV × Int :=
 if Gh A ≠ 0 then (⟨[], [], [], []⟩, ⟨[], []⟩, Gh A) else (c, nN l c.ins (A.map (·.1)) c.ins, 0)
def Iu (l : List SecV) (c : CodeP) (ts : List (List UInt32)) : CodeP × FndV × Int :=
 Iv l c ((fM (yo (l9 c.ins (c.ents :: ts)))).map fun r => eR c.ins r 4096)
def Gg (l : List SecV) (c : CodeP) (ts : List (List UInt32)) : Option (CodeP × FndV × Int) :=
 if FZ c.ins = true then some (Iu l ⟨c.ins, c.ents.filter (inK c.ins), c.unk.filter (inK c.ins), c.bad⟩ ts) else none
def evalW (l : List SecV) (s : DSt) (ts : List (List UInt32)) : Option (CodeP × FndV × Int) := match s.rest with
 | [] => Gg l (Gs s) ts
 | _ :: _ => none
def tabs (ts : List (List UInt32)) : List TabV := ts.map fun d => ⟨d, none, 0⟩
def sW (l : List SecV) (es : List UInt32) (f : FndV) (n : Nat) : Option (CodeP × FndV × Int) :=
 if f.ts.length = f.at_.length ∧ dT l = 0 then evalW l (uI l (tabs f.ts) f.at_ n (xR es)) f.ts else none
theorem Gf {l : List SecV} {c : CodeP} {ts : List (List UInt32)} {o : CodeP × FndV × Int} (h : Gg l c ts = some o) : o = sE l c ts := by
 unfold Gg at h
 split at h
 ·rename_i hf
  cases h
  unfold sE Iu Iv kC
  rw [FY hf]
  simp only [nM, CQ, kN, List.map_map]
  rfl
 ·cases h
theorem zR {ts ts' : List TabV} (h : ts.map (·.data) = ts'.map (·.data)) (at_ : List UInt32) : fB ts at_ = fB ts' at_ := by
 funext a
 have key : ∀ j, (ts.getD j default).data = (ts'.getD j default).data := fun j => by
  have e : ∀ q : List TabV, (q.getD j default).data = (q.map (·.data)).getD j [] := fun q => by
   simp only [List.getD_eq_getElem?_getD, List.getElem?_map]
   cases q[j]? <;> rfl
  rw [e, e, h]
 unfold fB
 split
 ·rfl
 ·rw [key]
theorem tA {l : List SecV} {ts ts' : List TabV} {at_ es : List UInt32} (h : fB ts at_ = fB ts' at_) {a : UInt32} (r : Reach l ts at_ es a) : Reach l ts' at_ es a := by
 induction r with
 | ent a q => exact .ent a q
 | step b a q1 q2 q3 ih => exact .step b a ih q2 (by unfold kA at *; rw [← h]; exact q3)
theorem A4 {l : List SecV} {ts ts' : List TabV} {at_ es : List UInt32} {c : CodeP} {e : Int} (h : ts.map (·.data) = ts'.map (·.data)) (hw : WalkIs l ts at_ es c e) : WalkIs l ts' at_ es c e := by
 have hk := zR h at_
 have hl : ts.length = ts'.length := by have := congrArg List.length h; simpa using this
 have hR : ∀ a, Reach l ts at_ es a ↔ Reach l ts' at_ es a := fun a => ⟨tA hk, tA hk.symm⟩
 cases hw with
 | arg h1 h2 h3 => exact .arg (hl ▸ h1) h2 h3
 | chk h1 h2 h3 h4 => exact .chk (hl ▸ h1) h2 h3 h4
 | ok h1 h2 h3 h4 =>
  refine .ok (hl ▸ h1) h2 h3 ⟨?_, ?_, ?_, ?_⟩
  ·obtain ⟨ks, k1, k2, k3⟩ := h4.ins
   exact ⟨ks, k1, fun a => by rw [k2, hR], k3⟩
  ·exact ⟨h4.bad.1, fun a => by rw [h4.bad.2, hR]⟩
  ·refine ⟨h4.ents.1, fun a => ?_⟩
   rw [h4.ents.2, hR]
   have : ∀ i, kr ts at_ i = kr ts' at_ i := fun i => by unfold kr; rw [hk]
   simp only [hR, this]
  ·refine ⟨h4.unk.1, fun a => ?_⟩
   rw [h4.unk.2, hR]
   have : ∀ i, qG ts at_ i = qG ts' at_ i := fun i => by unfold qG; rw [hk]
   simp only [this]
theorem qR {l : List SecV} {es : List UInt32} {f : FndV} {ts : List TabV} {o o2 : CodeP × FndV × Int} {n : Nat} (hb : f.ts.length ≤ 700) (hb2 : ∀ t ∈ f.ts, t.length ≤ 64) (ht : ts.map (·.data) = f.ts) (h : RoundIs l es ts f.at_ o) (he : sW l es f n = some o2) : o = o2 := by
 have hd : ts.map (·.data) = (tabs f.ts).map (·.data) := by rw [ht]; unfold tabs; rw [List.map_map]; exact (List.map_id' _).symm
 have hT : pY (tabs f.ts) := ⟨by unfold tabs; rw [List.length_map]; exact hb, fun t q => by
  obtain ⟨d, hd, rfl⟩ := List.mem_map.1 q
  exact hb2 d hd⟩
 obtain ⟨c, e, hw, hi⟩ := h
 have hw := A4 hd hw
 unfold sW at he
 split at he
 ·rename_i hc
  unfold evalW at he
  split at he
  ·rename_i hr
   obtain ⟨k1, k2⟩ := Dj hT hw (by unfold tabs; rw [List.length_map]; exact hc.1) hc.2 hr
   rw [if_neg (by rw [k2]; simp)] at hi
   rw [hi, Gf he, k1, ht]
  ·cases he
 ·cases he
def mN (l : List SecV) (es : List UInt32) (n : Nat) : Nat → FndV → Option (CodeP × FndV × Int)
 | 0, f => some (u5, ⟨[], []⟩, 15)
 | k + 1, f => match sW l es f n with
  | none => none
  | some o => if o.2.2 ≠ 0 then some (u5, ⟨[], []⟩, o.2.2) else if o.2.1.at_ = f.at_ ∧ o.2.1.ts = f.ts then some o else mN l es n k o.2.1
theorem qS {l : List SecV} {es : List UInt32} (ht : totD l ≤ 600) {n : Nat} {f : FndV} (h : Rnds l es n f) : f.ts.length ≤ 700 ∧ ∀ t ∈ f.ts, t.length ≤ 64 := by
 induction h with
 | zero => exact ⟨Nat.zero_le _, fun t q => by cases q⟩
 | step n f ts o h hd hr h0 hn ih =>
  have hT : pY ts := ⟨by have := congrArg List.length hd; rw [List.length_map] at this; rw [this]; exact ih.1, fun t q => by
   have := ih.2 t.data (by rw [← hd]; exact List.mem_map.2 ⟨t, q, rfl⟩); exact this⟩
  have := hr.tabs hT
  exact ⟨by omega, this.2⟩
theorem sF {l : List SecV} {es : List UInt32} (ht : totD l ≤ 600) {n N : Nat} {f : FndV} {o : CodeP × FndV × Int} (h : Rnds l es n f) : n ≤ 16 → mN l es N 16 ⟨[], []⟩ = some o → mN l es N (16 - n) f = some o := by
 induction h with
 | zero => exact fun _ h => h
 | step n f ts o' h hd hr h0 hn ih =>
  intro hle he
  have ih := ih (by omega) he
  rw [show 16 - n = 16 - (n + 1) + 1 by omega] at ih
  unfold mN at ih
  have hs := qS ht h
  split at ih
  ·cases ih
  ·rename_i o2 hq
   have e := qR hs.1 hs.2 hd hr hq
   subst e
   rw [if_neg (by rw [h0]; simp), if_neg hn] at ih
   exact ih
theorem E4 {l : List SecV} {es : List UInt32} (ht : totD l ≤ 600) {N : Nat} {o o' : CodeP × FndV × Int} (h : ResIs l es o) (he : mN l es N 16 ⟨[], []⟩ = some o') : o = o' := by
 cases h with
 | err n f ts o2 h hn hd hr h0 ho =>
  have k := sF ht h (by omega) he
  have hs := qS ht h
  rw [show 16 - n = 16 - (n + 1) + 1 by omega] at k
  unfold mN at k
  split at k
  ·cases k
  ·rename_i o3 hq
   have e := qR hs.1 hs.2 hd hr hq
   subst e
   rw [if_pos h0] at k
   cases k; exact ho
 | ok n f ts o2 h hn hd hr h0 hs2 ho =>
  have k := sF ht h (by omega) he
  have hs := qS ht h
  rw [show 16 - n = 16 - (n + 1) + 1 by omega] at k
  unfold mN at k
  split at k
  ·cases k
  ·rename_i o3 hq
   have e := qR hs.1 hs.2 hd hr hq
   subst e
   rw [if_neg (by rw [h0]; simp), if_pos hs2] at k
   cases k; exact ho
 | out f h ho =>
  have k := sF ht h (Nat.le_refl _) he
  rw [show 16 - 16 = 0 from rfl] at k
  cases k; exact ho
end Go.HL
namespace Go.HL
open Go
def vH (n : Nat) : List UInt8 := [160, 1, 58, 1, u8 (n : Int), 104, u8 ((n : Int) + 6), 131, 1, 0, 48, 0, 0]
def bEl (n k i : Nat) : List UInt8 := [u8 (13 + ((i : Int) + (k : Int)) % (n : Int)), 16, 0, 0]
def lz (n k j : Nat) : List UInt8 := (List.range j).flatMap (bEl n k)
def jR (n : Nat) : List UInt8 := (vH n ++ List.replicate n 1) ++ [1]
def nmC : ByteArray := ⟨#[99, 111, 100, 101]⟩
def nmT : ByteArray := ⟨#[116, 97, 98, 108, 101]⟩
def j8 (n k : Nat) (wr : Bool) (p q : Option Addr) (c d : Nat) : List SecV := [⟨nmC, 4096, jR n, p, c, false, true⟩, ⟨nmT, 12288, lz n k n, q, d, wr, false⟩]
theorem xu (n k j : Nat) : lz n k (j + 1) = lz n k j ++ bEl n k j := by unfold lz; rw [List.range_succ, List.flatMap_append]; simp
theorem sa (n k : Nat) : ∀ j, (lz n k j).length = 4 * j
 | 0 => rfl
 | j + 1 => by rw [xu, List.length_append, sa n k j]; simp [bEl]; omega
theorem xw (n : Nat) : (jR n).length = 14 + n := by unfold jR vH; simp; omega
theorem oI {h : Hp} {n k : Nat} {wr : Bool} {p q : Option Addr} {c d : Nat} (h1 : Sl h dQ (jR n) (.slice p (jR n).length c)) (h2 : Sl h dQ (lz n k n) (.slice q (lz n k n).length d)) : DataIn h (j8 n k wr p q c d) := by
 intro s hs
 rcases List.mem_cons.1 hs with rfl | hs
 ·exact h1
 ·rw [List.mem_singleton.1 hs]; exact h2
theorem rb {n k : Nat} {wr : Bool} {p q : Option Addr} {c d : Nat} (hn : n ≤ 200) : SecB (j8 n k wr p q c d) := by
 refine ⟨by simp [j8], fun s hs => ?_⟩
 rcases List.mem_cons.1 hs with rfl | hs
 ·have := xw n; simp only; omega
 ·rw [List.mem_singleton.1 hs]; have := sa n k n; simp only; omega
theorem oH {n k : Nat} {wr : Bool} {p q : Option Addr} {c d : Nat} : ∀ s ∈ j8 n k wr p q c d, s.name.size ≤ 140737488351232 := by
 intro s hs
 rcases List.mem_cons.1 hs with rfl | hs
 ·show nmC.size ≤ _; decide
 ·rw [List.mem_singleton.1 hs]; show nmT.size ≤ _; decide
theorem AC {n k : Nat} {wr : Bool} {p q : Option Addr} {c d : Nat} (hn : n ≤ 100) : totD (j8 n k wr p q c d) ≤ 600 := by
 have h1 := xw n; have h2 := sa n k n
 simp only [totD, j8, List.map_cons, List.map_nil, List.sum_cons, List.sum_nil]
 omega
def JG : List Ins := [⟨4096, 0, 26, 0, 0, 0, 1, 0, 2⟩, ⟨4098, 3, 15, 1, 0, 0, 1, 0, 3⟩, ⟨4101, 4112, 20, 1, 0, 8, 0, 0, 2⟩, ⟨4103, 12288, 22, 0, 0, 0, 1, 0, 6⟩]
def hlt (a : UInt32) : Ins := ⟨a, 0, 1, 0, 0, 0, 0, 0, 1⟩
def It : CodeP := ⟨JG ++ [hlt 4109, hlt 4110, hlt 4111, hlt 4112], [4096], [], []⟩
theorem Ge (p q : Option Addr) (c d : Nat) : mN (j8 3 0 false p q c d) [4096] 3000 16 ⟨[], []⟩ = some (It, ⟨[[4109, 4110, 4111]], [4103]⟩, 0) := by kernel_rfl
theorem I2 {p q : Option Addr} {c d : Nat} {o : CodeP × FndV × Int} (h : ResIs (j8 3 0 false p q c d) [4096] o) : o = (It, ⟨[[4109, 4110, 4111]], [4103]⟩, 0) := E4 (AC (by omega)) h (Ge p q c d)
def exX : VSet := eK 1 3 2
def Gd : Ins := ⟨0, 12288, 22, 0, 0, 0, 1, 0, 0⟩
def Gc : Ins := ⟨0, 0, 21, 0, 0, 0, 2, 0, 0⟩
theorem HN (p q : Option Addr) (c d : Nat) : cC (j8 4 0 false p q c d) Gd exX = ([4110, 4110, 4110, 4112], 0) := by kernel_rfl
theorem HM (p q : Option Addr) (c d : Nat) : cC (j8 4 0 true p q c d) Gd exX = ([], 19) := by kernel_rfl
theorem HK (p q : Option Addr) (c d : Nat) : cC (j8 4 0 false p q c d) Gc (ia 4112) = ([4112], 0) := by kernel_rfl
theorem HJ (p q : Option Addr) (c d : Nat) : cC (j8 4 0 false p q c d) Gc o9 = ([], 19) := by kernel_rfl
theorem HQ (p q : Option Addr) (c d : Nat) : sR (j8 4 0 false p q c d) 12288 4 = true := by kernel_rfl
theorem HO (p q : Option Addr) (c d : Nat) : sR (j8 4 0 false p q c d) 12288 5 = false := by kernel_rfl
theorem IN {α : Type} {rs : List (RV α)} {x : List α} (h : rs.map (·.data) = [x]) : ∃ p c, rs = [⟨x, p, c⟩] := by
 cases rs with
 | nil => cases h
 | cons r t =>
  cases t with
  | nil =>
   obtain ⟨d, p, c⟩ := r
   simp only [List.map_cons, List.map_nil, List.cons.injEq, and_true] at h
   subst h
   exact ⟨p, c, rfl⟩
  | cons _ _ => simp at h
def HI : StV := gI.set 1 exX
def JE : StV := HI.set 2 (ia 4112)
def JQ : StV := JE.set 2 o9
theorem CP : InsOK Gd := by constructor <;> (unfold I64; decide)
theorem CO : InsOK Gc := by constructor <;> (unfold I64; decide)
end Go.HL
