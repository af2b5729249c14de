/- Own rules and walks, part 5. -/
import Derived.Test.YtiajjbhcpeadfaaGreatB4
set_option linter.unusedSimpArgs false
set_option linter.unusedVariables false
set_option linter.unusedSectionVars false
set_option maxRecDepth 100000
set_option maxHeartbeats 16000000
namespace Go.Proofs.YtiajjbhcpeadfaaGreat
open Go Go.HL Go.RowKit
def dJ (cmp : Ins → Ins → Int) (x y : Ins) : Bool := decide (cmp x y < 0)
def yV (cmp : Ins → Ins → Int) (V : Value) (l : List Ins) (a b : Nat) (w : World) : Ending → World → Prop := fun e w' => e = .returned (.tuple #[]) ∧ ∃ l', (Stab (dJ cmp) l l' ∧ Fram a b l l' ∧ Srt (dJ cmp) l' a b) ∧ Mut w w' V ∧ (rowE V 36 aP l').holds w'
def Cx (g : FuncId) (cb : List Value) (cmp : Ins → Ins → Int) (I : World → Prop) (V : Value) (n : Nat) : Prop := ∀ (l : List Ins) (a md b : Nat) (ai mdi bi : Int) (w : World), ai = ((a : Nat) : Int) → mdi = ((md : Nat) : Int) → bi = ((b : Nat) : Int) → b - a ≤ n → a < md → md < b → b ≤ l.length → l.length ≤ 1000000 → Srt (dJ cmp) l a md → Srt (dJ cmp) l md b → I w → (rowE V 36 aP l).holds w → Calls Tryz.prog 200 #[V, .int .i64 ai, .int .i64 mdi, .int .i64 bi, .func (.func g) #[] cb.toArray] w (yV cmp V l a b w)
theorem qk (l : List Ins) (V : Value) (a : Nat) (b : Nat) (ai : Int) (bi : Int) (ea : ai = ((a : Nat) : Int)) (eb : bi = ((b : Nat) : Int)) (g : FuncId) (cb : List Value) (cmp : Ins → Ins → Int) (I : World → Prop) (hI : ∀ w w' l', I w → Mut w w' V → (rowE V 36 aP l').holds w' → I w') (eg : ∀ args w, (callFunc g args).run Tryz.prog w = .ok (.enter g args) w) (hc : ∀ x y w', I w' → Calls Tryz.prog g ([Value.agg (aP.enc x).toArray, Value.agg (aP.enc y).toArray] ++ cb).toArray w' fun e w'' => e = .returned (.int .i64 (cmp x y)) ∧ Ext w' w'') (hO : WO (dJ cmp)) (w : World) (hIw : I w) (hr : (rowE V 36 aP l).holds w) (hl : l.length ≤ 1000000) (hab : a ≤ b) (hb : b ≤ l.length) :
  Calls Tryz.prog 199 #[V, .int .i64 ai, .int .i64 bi, .func (.func g) #[] cb.toArray] w (yV cmp V l a b w) := by
 subst ea eb
 refine fF (l := l) (E := aP) (T := 36) hr Tryz.func199 rfl Tryz.ntmps199 rfl ?_
 refine ah (zz0 (aa rfl) (zz0 (cx rfl rfl) ?_))
 refine zz0 (ab rfl) (ad (aG ?_))
 refine bN (ι := Nat × List Ins) (fun ⟨i, cur⟩ => a + 1 ≤ i ∧ (i ≤ b ∨ i = a + 1) ∧ Stab (dJ cmp) l cur ∧ Fram a b l cur ∧ Srt (dJ cmp) cur a i) (fun _ => _) (fun ⟨i, cur⟩ => [rowE V 36 aP cur]) (fun ⟨i, cur⟩ => [(8, .int .i64 (i : Nat))]) (fun ⟨i, cur⟩ => b - i) (a + 1, l) ⟨Nat.le_refl _, .inr rfl, .refl _ _, .refl _ _ _, .one (Nat.le_refl _)⟩ (Front.c Front.nil) (by repeat' constructor) rfl (fun i hi m hm => ?_)
 obtain ⟨i, cur⟩ := i
 replace hi : a + 1 ≤ i ∧ (i ≤ b ∨ i = a + 1) ∧ Stab (dJ cmp) l cur ∧ Fram a b l cur ∧ Srt (dJ cmp) cur a i := hi
 replace hm : m = b - i := hm
 change Tr _ _ [rowE V 36 aP cur] ([(8, .int .i64 (i : Nat))] ++ _) _
 obtain ⟨hi1, hi2, hi3, hi4, hi5⟩ := hi
 have hcl : cur.length = l.length := hi4.1
 refine al (ah (zz0 (aa rfl) (zz0 (aa rfl) (zz0 (bS rfl rfl) (ad ?_)))))
 refine ao rfl ?_ ?_ <;> intro h1 <;> try simp only [bs] at h1
 ·refine bB (al (aG (ah (zz0 (aa rfl) (zz0 (ab rfl) (ad (aG ?_)))))))
  have e0 : mp (dB i i (i + 1)) cur = cur := q7 (.inl rfl) (Nat.le_refl _) (by omega)
  refine gx e0.symm ?_
  refine bN (ι := Nat) (fun j => a ≤ j ∧ j ≤ i ∧ ∀ q, j ≤ q → q < i → dJ cmp (cur.getD i default) (cur.getD q default) = true) (fun _ => _) (fun j => [rowE V 36 aP (mp (dB j i (i + 1)) cur)]) (fun j => [(9, .int .i64 (j : Nat))]) (fun j => j) i ⟨by omega, Nat.le_refl _, fun q x y => by omega⟩ (Front.c Front.nil) (by repeat' constructor) rfl (fun j hi m hm => ?_)
  replace hi : a ≤ j ∧ j ≤ i ∧ ∀ q, j ≤ q → q < i → dJ cmp (cur.getD i default) (cur.getD q default) = true := hi
  replace hm : m = j := hm
  change Tr _ _ [rowE V 36 aP (mp (dB j i (i + 1)) cur)] ([(9, .int .i64 (j : Nat))] ++ _) _
  obtain ⟨hj1, hj2, hj3⟩ := hi
  have hml : (mp (dB j i (i + 1)) cur).length = l.length := by rw [g7]; exact hcl
  have ej : ((j : Int) - 1).toNat = j - 1 := by omega
  have ev : (mp (dB j i (i + 1)) cur).getD j default = cur.getD i default := by rw [iy (by omega)]; congr 1; have := fL j i (i + 1) j; omega
  have ew : 0 < j → (mp (dB j i (i + 1)) cur).getD (j - 1) default = cur.getD (j - 1) default := fun q => by rw [iy (by omega)]; congr 1; have := fL j i (i + 1) (j - 1); omega
  refine al (al (gZ aT ?_))
  refine ax (aa rfl) (ax (aa rfl) (ax (eU rfl rfl) (ax (aa rfl) ?_)))
  apply fH
  ·exact (rfl : _ = (13, 21, 34))
  ·exact rfl
  ·intro hT2; have hT2' := hT2
   try simp only [bs] at hT2'
   refine bZ hT2 (aa rfl) (bZ hT2 (aa rfl) (bZ hT2 (aa rfl) (bZ hT2 (dm rfl rfl aM au) ?_)))
   refine bZ hT2 (mF rfl aQ au) ?_
   refine bZ hT2 (aa rfl) (bZ hT2 (aa rfl) (bZ hT2 (d6 rfl rfl) ?_))
   refine bZ hT2 (jv rfl rfl aM au) ?_
   refine bZ hT2 (mF rfl aQ au) ?_
   refine bZ hT2 (ig rfl rfl eg (fun w hw => hc _ _ w (hI _ _ _ hIw (HpOK.mutOwn hw (.head _) rfl).1 (HpOK.mutOwn hw (.head _) rfl).2))) ?_
   refine bZ hT2 (bS rfl rfl) (ax (aN rfl hT2 rfl) ?_)
   exact dl (Sub.cons rfl (zz7 13 rfl))
  ·intro hF2
   refine bY hF2 (bY hF2 (bY hF2 (bY hF2 (bY hF2 (bY hF2 (bY hF2 (bY hF2 (bY hF2 (bY hF2 (bY hF2 (bY hF2 (ax (aK rfl hF2 rfl) ?_))))))))))))
   exact dl (Sub.cons rfl (zz7 13 rfl))
  refine bK ?_
  refine ac ?_
  refine ao rfl ?_ ?_ <;> intro h3 <;> try simp only [bs] at h3
  ·refine bB (al (aG (fK 5 15 aT ?_)))
   refine ei rfl ?_
   refine ei rfl ?_
   refine ei rfl ?_
   refine ei rfl ?_
   refine gp (fun _ => d6 rfl rfl) (by rfl) rfl ?_
   refine bH ?_
   refine ax (aa rfl) (ax (aa rfl) (ax (d6 rfl rfl) ?_))
   refine ax (jv rfl rfl aM au) ?_
   refine ax (mF rfl aQ au) ?_
   refine ax (aa rfl) (ax (aa rfl) (ax (dm rfl rfl aM au) ?_))
   refine ax (mF rfl aQ au) ?_
   refine ax (dm rfl rfl aM au) ?_
   refine bK ?_
   refine f9 (l := (mp (dB j i (i + 1)) cur)) (i := j) ((mp (dB j i (i + 1)) cur).getD (((j : Int) - 1).toNat) default) rfl rfl au ?_
   have hls4 : (List.set (mp (dB j i (i + 1)) cur) (j) ((mp (dB j i (i + 1)) cur).getD (((j : Int) - 1).toNat) default)).length = ((mp (dB j i (i + 1)) cur)).length := List.length_set
   refine zz0 (jv rfl rfl aM au) ?_
   refine f9 (l := ((mp (dB j i (i + 1)) cur).set (j) ((mp (dB j i (i + 1)) cur).getD (((j : Int) - 1).toNat) default))) (i := ((j : Int) - 1).toNat) ((mp (dB j i (i + 1)) cur).getD (j) default) rfl rfl au ?_
   have hls5 : (List.set ((mp (dB j i (i + 1)) cur).set (j) ((mp (dB j i (i + 1)) cur).getD (((j : Int) - 1).toNat) default)) (((j : Int) - 1).toNat) ((mp (dB j i (i + 1)) cur).getD (j) default)).length = (((mp (dB j i (i + 1)) cur).set (j) ((mp (dB j i (i + 1)) cur).getD (((j : Int) - 1).toNat) default))).length := List.length_set
   refine az (aX (ac (ar (zz0 (aa rfl) (zz0 (d6 rfl rfl) ?_)))))
   refine zz0 (ab rfl) (ad ?_)
   have hsw := Cb (l := (mp (dB j i (i + 1)) cur)) (p := j) (q := j - 1) (by omega) (by omega)
   rw [zc (by omega) hj2 (by omega)] at hsw
   have hlt : dJ cmp (cur.getD i default) (cur.getD (j - 1) default) = true := by
    rw [← ev, ← ew (by omega), ← ej]
    simpa [dJ] using h3.2
   have hj3' : ∀ q, j - 1 ≤ q → q < i → dJ cmp (cur.getD i default) (cur.getD q default) = true := fun q x y => by
    by_cases c : q = j - 1
    ·rw [c]; exact hlt
    ·exact hj3 q (by omega) y
   rw [ej, hsw]
   refine cC (j - 1) (Front.c Front.nil) (bA 25 rfl) (o := ⟨by omega, by omega, hj3'⟩)
  refine bG (aJ (aJ (bj (aX (ac (ar (zz0 (aa rfl) (zz0 (cx rfl rfl) ?_))))))))
  refine zz0 (ab rfl) (ad ?_)
  have hB : j = a ∨ dJ cmp (cur.getD i default) (cur.getD (j - 1) default) = false := by
   rcases h3 with h3 | h3
   ·exact .inl (by omega)
   ·by_cases q : j = a
    ·exact .inl q
    ·refine .inr ?_
     rw [← ev, ← ew (by omega), ← ej]
     simpa [dJ] using h3
  have hin := BZ hO hi5 (by omega) hj1 hj2 hj3 hB
  have hfr : Fram a b l (mp (dB j i (i + 1)) cur) := hi4.trans (Fram.rot hj1 (by omega) hj2 (by omega))
  refine cC (i + 1, _) (Front.c Front.nil) (bA 15 rfl) (o := ⟨by omega, by omega, hi3.trans hin.1, hfr, hin.2⟩)
 refine bG (aJ (aJ (bj ?_)))
 refine fq Tryz.results199 (fun w' hw => ?_)
 exact ⟨rfl, _, ⟨hi3, hi4, hi5.sub (Nat.le_refl _) (by omega)⟩, HpOK.mutOwn hw (.head _) rfl⟩
theorem mG (l : List Ins) (V : Value) (a : Nat) (b : Nat) (n : Nat) (ai : Int) (bi : Int) (ni : Int) (ea : ai = ((a : Nat) : Int)) (eb : bi = ((b : Nat) : Int)) (en : ni = ((n : Nat) : Int)) (cv : Value) (w : World) (hr : (rowE V 36 aP l).holds w) (hl : l.length ≤ 1000000) (hab : a + n ≤ b) (hb : b + n ≤ l.length) :
  Calls Tryz.prog 296 #[V, .int .i64 ai, .int .i64 bi, .int .i64 ni, cv] w (fun e w' => e = .returned (.tuple #[]) ∧ Mut w w' V ∧ (rowE V 36 aP (mp (swR a b n) l)).holds w') := by
 subst ea eb en
 refine fF (l := l) (E := aP) (T := 36) hr Tryz.func296 rfl Tryz.ntmps296 rfl ?_
 refine ah (zz0 (ab rfl) (ad (aG ?_)))
 have e0 : mp (swR a b 0) l = l := IN
 refine gx e0.symm ?_
 refine bN (ι := Nat) (fun i => i ≤ n) (fun _ => _) (fun i => [rowE V 36 aP (mp (swR a b i) l)]) (fun i => [(10, .int .i64 (i : Nat))]) (fun i => n - i) 0 (Nat.zero_le _) (Front.c Front.nil) (by repeat' constructor) rfl (fun i hi m hm => ?_)
 replace hi : i ≤ n := hi
 replace hm : m = n - i := hm
 change Tr _ _ [rowE V 36 aP (mp (swR a b i) l)] ([(10, .int .i64 (i : Nat))] ++ _) _
 have hml : (mp (swR a b i) l).length = l.length := g7 _ _
 refine al (ah (zz0 (aa rfl) (zz0 (aa rfl) (zz0 (bS rfl rfl) (ad ?_)))))
 refine ao rfl ?_ ?_ <;> intro h1 <;> try simp only [bs] at h1
 ·refine bB (al (aG (fK 8 21 aT ?_)))
  refine ei rfl ?_
  refine ei rfl ?_
  refine ei rfl ?_
  refine gp (fun _ => cx rfl rfl) (by rfl) rfl ?_
  refine ei rfl ?_
  refine ei rfl ?_
  refine ei rfl ?_
  refine gp (fun _ => cx rfl rfl) (by rfl) rfl ?_
  refine bH ?_
  refine ax (aa rfl) (ax (aa rfl) (ax (aa rfl) (ax (cx rfl rfl) ?_)))
  refine ax (dm rfl rfl aM au) ?_
  refine ax (mF rfl aQ au) ?_
  refine ax (aa rfl) (ax (aa rfl) (ax (aa rfl) (ax (cx rfl rfl) ?_)))
  refine ax (dm rfl rfl aM au) ?_
  refine ax (mF rfl aQ au) ?_
  refine ax (dm rfl rfl aM au) ?_
  refine bK ?_
  refine f9 (l := (mp (swR a b i) l)) (i := a + i) ((mp (swR a b i) l).getD (b + i) default) rfl rfl au ?_
  have hls2 : (List.set (mp (swR a b i) l) (a + i) ((mp (swR a b i) l).getD (b + i) default)).length = ((mp (swR a b i) l)).length := List.length_set
  refine zz0 (dm rfl rfl aM au) ?_
  refine f9 (l := ((mp (swR a b i) l).set (a + i) ((mp (swR a b i) l).getD (b + i) default))) (i := b + i) ((mp (swR a b i) l).getD (a + i) default) rfl rfl au ?_
  have hls3 : (List.set ((mp (swR a b i) l).set (a + i) ((mp (swR a b i) l).getD (b + i) default)) (b + i) ((mp (swR a b i) l).getD (a + i) default)).length = (((mp (swR a b i) l).set (a + i) ((mp (swR a b i) l).getD (b + i) default))).length := List.length_set
  refine az (aX (ac (ar (zz0 (aa rfl) (zz0 (cx rfl rfl) ?_)))))
  refine zz0 (ab rfl) (ad ?_)
  have hsw := Cb (l := (mp (swR a b i) l)) (p := a + i) (q := b + i) (by omega) (by omega)
  rw [El hab hb (by omega)] at hsw
  rw [hsw]
  refine cC (i + 1) (Front.c Front.nil) (bA 29 rfl) (o := (by show i + 1 ≤ n; omega))
 refine bG (aJ (aJ (bj ?_)))
 refine fq Tryz.results296 (fun w' hw => ?_)
 obtain rfl : i = n := by omega
 exact ⟨rfl, HpOK.mutOwn hw (.head _) rfl⟩
theorem AX (l : List Ins) (V : Value) (a : Nat) (md : Nat) (b : Nat) (ai : Int) (mdi : Int) (bi : Int) (ea : ai = ((a : Nat) : Int)) (emd : mdi = ((md : Nat) : Int)) (eb : bi = ((b : Nat) : Int)) (cv : Value) (w : World) (hr : (rowE V 36 aP l).holds w) (hl : l.length ≤ 1000000) (ham : a < md) (hmb : md < b) (hb : b ≤ l.length) :
  Calls Tryz.prog 263 #[V, .int .i64 ai, .int .i64 mdi, .int .i64 bi, cv] w (fun e w' => e = .returned (.tuple #[]) ∧ Mut w w' V ∧ (rowE V 36 aP (mp (dB a md b) l)).holds w') := by
 subst ea emd eb
 refine fF (l := l) (E := aP) (T := 36) hr Tryz.func263 rfl Tryz.ntmps263 rfl ?_
 refine ah (zz0 (aa rfl) (zz0 (aa rfl) (zz0 (d6 rfl rfl) ?_)))
 refine zz0 (ab rfl) (aL (zz0 (aa rfl) (zz0 (aa rfl) (zz0 (d6 rfl rfl) ?_))))
 refine zz0 (ab rfl) (ad (al (aG ?_)))
 refine bN (ι := Nat × Nat × List Ins) (fun ⟨i, j, cur⟩ => 0 < i ∧ 0 < j ∧ i ≤ md ∧ md + j ≤ l.length ∧ cur.length = l.length ∧ mp (dB (md - i) md (md + j)) cur = mp (dB a md b) l) (fun _ => _) (fun ⟨i, j, cur⟩ => [rowE V 36 aP cur]) (fun ⟨i, j, cur⟩ => [(10, .int .i64 (i : Nat)), (11, .int .i64 (j : Nat))]) (fun ⟨i, j, cur⟩ => i + j) (md - a, b - md, l) ⟨by omega, by omega, by omega, by omega, rfl, by rw [show md - (md - a) = a by omega, show md + (b - md) = b by omega]⟩ (Front.c (Front.c Front.nil)) (by repeat' constructor) rfl (fun i hi m hm => ?_)
 obtain ⟨i, j, cur⟩ := i
 replace hi : 0 < i ∧ 0 < j ∧ i ≤ md ∧ md + j ≤ l.length ∧ cur.length = l.length ∧ mp (dB (md - i) md (md + j)) cur = mp (dB a md b) l := hi
 replace hm : m = i + j := hm
 change Tr _ _ [rowE V 36 aP cur] ([(10, .int .i64 (i : Nat)), (11, .int .i64 (j : Nat))] ++ _) _
 obtain ⟨hi1, hi2, hi3, hi4, hi5, hi6⟩ := hi
 refine al (ah (zz0 (aa rfl) (zz0 (aa rfl) (zz0 (fa rfl rfl) (ad ?_)))))
 refine ao rfl ?_ ?_ <;> intro h1 <;> try simp only [bs] at h1
 ·refine bB (aG (ah (zz0 (aa rfl) (zz0 (aa rfl) (zz0 (eU rfl rfl) (ad ?_))))))
  refine ao rfl ?_ ?_ <;> intro h2 <;> try simp only [bs] at h2
  ·refine ah (zz0 (aa rfl) (zz0 (aa rfl) (zz0 (aa rfl) (zz0 (d6 rfl rfl) ?_))))
   refine zz0 (aa rfl) (zz0 (aa rfl) (zz0 (aa rfl) (dY rfl Tryz.call296 (by repeat constructor) (fun w hw => mG cur V (md - i) md j _ _ _ (by omega) (by omega) (by omega) cv w (hw.ent _ (.head _)) (by omega) (by omega) (by omega)) rfl ?_)))
   refine ad (ar (zz0 (aa rfl) (zz0 (aa rfl) (zz0 (d6 rfl rfl) ?_))))
   refine zz0 (ab rfl) (az (aX (ac ?_)))
   have hn := (H3 (l := cur) (m := md) (i := i) (j := j) hi3 (by omega) (by omega)).trans hi6
   refine cC (i - j, j, _) (Front.c (Front.c Front.nil)) (bA 20 rfl) (o := ⟨by omega, hi2, by omega, hi4, by rw [g7]; exact hi5, hn⟩)
  refine ah (zz0 (aa rfl) (zz0 (aa rfl) (zz0 (aa rfl) (zz0 (d6 rfl rfl) ?_))))
  refine zz0 (aa rfl) (zz0 (aa rfl) (zz0 (cx rfl rfl) ?_))
  refine zz0 (aa rfl) (zz0 (d6 rfl rfl) ?_)
  refine zz0 (aa rfl) (zz0 (aa rfl) (dY rfl Tryz.call296 (by repeat constructor) (fun w hw => mG cur V (md - i) (md + j - i) i _ _ _ (by omega) (by omega) (by omega) cv w (hw.ent _ (.head _)) (by omega) (by omega) (by omega)) rfl ?_))
  refine ad (ar (zz0 (aa rfl) (zz0 (aa rfl) (zz0 (d6 rfl rfl) ?_))))
  refine zz0 (ab rfl) (az (aX (ac ?_)))
  have hn := (H2 (l := cur) (m := md) (i := i) (j := j) hi3 (by omega) (by omega)).trans hi6
  refine cC (i, j - i, _) (Front.c (Front.c Front.nil)) (bA 24 rfl) (o := ⟨hi1, by omega, hi3, by omega, by rw [g7]; exact hi5, hn⟩)
 refine bG (aJ (aJ (bj (ac (ar (zz0 (aa rfl) (zz0 (aa rfl) (zz0 (aa rfl) (zz0 (d6 rfl rfl) ?_)))))))))
 refine zz0 (aa rfl) (zz0 (aa rfl) (zz0 (aa rfl) (dY rfl Tryz.call296 (by repeat constructor) (fun w hw => mG cur V (md - i) md i _ _ _ (by omega) (by omega) (by omega) cv w (hw.ent _ (.head _)) (by omega) (by omega) (by omega)) rfl ?_)))
 refine az ?_
 refine fq Tryz.results263 (fun w' hw => ?_)
 obtain rfl : j = i := by omega
 rw [H4 hi3, hi6] at hw
 exact ⟨rfl, HpOK.mutOwn hw (.head _) rfl⟩
theorem CW (l : List Ins) (V : Value) (a : Nat) (md : Nat) (b : Nat) (ai : Int) (mdi : Int) (bi : Int) (ea : ai = ((a : Nat) : Int)) (emd : mdi = ((md : Nat) : Int)) (eb : bi = ((b : Nat) : Int)) (g : FuncId) (cb : List Value) (cmp : Ins → Ins → Int) (I : World → Prop) (hI : ∀ w w' l', I w → Mut w w' V → (rowE V 36 aP l').holds w' → I w') (eg : ∀ args w, (callFunc g args).run Tryz.prog w = .ok (.enter g args) w) (hc : ∀ x y w', I w' → Calls Tryz.prog g ([Value.agg (aP.enc x).toArray, Value.agg (aP.enc y).toArray] ++ cb).toArray w' fun e w'' => e = .returned (.int .i64 (cmp x y)) ∧ Ext w' w'') (hO : WO (dJ cmp)) (w : World) (hIw : I w) (hr : (rowE V 36 aP l).holds w) (hl : l.length ≤ 1000000) (ih : ∀ n, n < b - a → Cx g cb cmp I V n) (ham : a < md) (hmb : md < b) (hb : b ≤ l.length) (h1s : Srt (dJ cmp) l a md) (h2s : Srt (dJ cmp) l md b) :
  Calls Tryz.prog 200 #[V, .int .i64 ai, .int .i64 mdi, .int .i64 bi, .func (.func g) #[] cb.toArray] w (yV cmp V l a b w) := by
 subst ea emd eb
 refine fF (l := l) (E := aP) (T := 36) hr Tryz.func200 rfl Tryz.ntmps200 rfl ?_
 refine al (ah (zz0 (aa rfl) (zz0 (aa rfl) (zz0 (d6 rfl rfl) ?_))))
 refine zz0 (aY rfl rfl) (ad ?_)
 refine ao rfl ?_ ?_ <;> intro h1 <;> try simp only [bs] at h1
 ·refine ah (zz0 (aa rfl) (zz0 (ab rfl) (aL (zz0 (aa rfl) (zz0 (ab rfl) (ad (al (aG ?_))))))))
  refine bN (ι := Nat × Nat) (fun ⟨i, j⟩ => md ≤ i ∧ i ≤ j ∧ j ≤ b ∧ (∀ q, md ≤ q → q < i → dJ cmp (l.getD q default) (l.getD a default) = true) ∧ (∀ q, j ≤ q → q < b → dJ cmp (l.getD q default) (l.getD a default) = false)) (fun _ => _) (fun ⟨i, j⟩ => [rowE V 36 aP l]) (fun ⟨i, j⟩ => [(10, .int .i64 (i : Nat)), (11, .int .i64 (j : Nat))]) (fun ⟨i, j⟩ => j - i) (md, b) ⟨Nat.le_refl _, by omega, Nat.le_refl _, fun q x y => by omega, fun q x y => by omega⟩ (Front.c (Front.c Front.nil)) (by repeat' constructor) rfl (fun i hi m hm => ?_)
  obtain ⟨i, j⟩ := i
  replace hi : md ≤ i ∧ i ≤ j ∧ j ≤ b ∧ (∀ q, md ≤ q → q < i → dJ cmp (l.getD q default) (l.getD a default) = true) ∧ (∀ q, j ≤ q → q < b → dJ cmp (l.getD q default) (l.getD a default) = false) := hi
  replace hm : m = j - i := hm
  change Tr _ _ [rowE V 36 aP l] ([(10, .int .i64 (i : Nat)), (11, .int .i64 (j : Nat))] ++ _) _
  obtain ⟨hi1, hi2, hi3, hi4, hi5⟩ := hi
  refine al (ah (zz0 (aa rfl) (zz0 (aa rfl) (zz0 (bS rfl rfl) (ad ?_)))))
  refine ao rfl ?_ ?_ <;> intro h2 <;> try simp only [bs] at h2
  ·refine bB (aG (ah (zz0 (aa rfl) (zz0 (aa rfl) (zz0 (cx rfl rfl) ?_)))))
   refine zz0 (fb rfl ba dR (IntWalk.u64_in _ (by omega))) ?_
   refine zz0 (t8 rfl rfl (by omega)) ?_
   refine zz0 (fb rfl dR ba (IntWalk.i64_in _ (by omega))) ?_
   refine zz0 (ab rfl) (ad (al ?_))
   obtain ⟨h, hhh⟩ : ∃ h, h = (i + j) / 2 := ⟨_, rfl⟩
   rw [show (((i : Nat) : Int) + ((j : Nat) : Int)) / 2 = ((h : Nat) : Int) by omega]
   refine gZ aT ?_
   refine ax (aa rfl) (ax (aa rfl) (ax (aa rfl) (ax (dm rfl rfl aM au) ?_)))
   refine ax (mF rfl aQ au) ?_
   refine ax (aa rfl) (ax (aa rfl) (ax (dm rfl rfl aM au) ?_))
   refine ax (mF rfl aQ au) ?_
   refine ax (ig rfl rfl eg (fun w hw => hc _ _ w (hI _ _ _ hIw (HpOK.mutOwn hw (.head _) rfl).1 (HpOK.mutOwn hw (.head _) rfl).2))) ?_
   refine ax (bS rfl rfl) (bK ?_)
   refine ac ?_
   refine ao rfl ?_ ?_ <;> intro h3 <;> try simp only [bs] at h3
   ·refine ar (zz0 (aa rfl) (zz0 (cx rfl rfl) ?_))
    refine zz0 (ab rfl) (az (aX (ac ?_)))
    have hx : dJ cmp (l.getD h default) (l.getD a default) = true := by simp only [dJ, decide_eq_true_eq]; assumption
    have hn : ∀ q, md ≤ q → q < h + 1 → dJ cmp (l.getD q default) (l.getD a default) = true := fun q x y => hO.le_lt (h2s.le hO x (by omega) (by omega)) hx
    refine cC (h + 1, j) (Front.c (Front.c Front.nil)) (bA 26 rfl) (o := ⟨by omega, by omega, hi3, hn, hi5⟩)
   refine ar (zz0 (aa rfl) (zz0 (ab rfl) (az (aX (ac ?_)))))
   have hx : dJ cmp (l.getD h default) (l.getD a default) = false := by simp only [dJ, decide_eq_false_iff_not]; assumption
   have hn : ∀ q, h ≤ q → q < b → dJ cmp (l.getD q default) (l.getD a default) = false := fun q x y => hO.ntr _ _ _ (h2s.le hO (by omega) x y) hx
   refine cC (i, h) (Front.c (Front.c Front.nil)) (bA 25 rfl) (o := ⟨hi1, by omega, by omega, hi4, hn⟩)
  refine bG (aJ (aJ (bj (ac (al (ah (zz0 (aa rfl) (zz0 (ab rfl) (ad (aG ?_))))))))))
  have e0 : mp (dB a (a + 1) (a + 1)) l = l := q7 (.inr rfl) (by omega) (Nat.le_refl _)
  refine gx e0.symm ?_
  refine bN (ι := Nat) (fun k => a ≤ k ∧ k + 1 ≤ i) (fun _ => _) (fun k => [rowE V 36 aP (mp (dB a (a + 1) (k + 1)) l)]) (fun k => [(13, .int .i64 (k : Nat))]) (fun k => i - k) a ⟨Nat.le_refl _, by omega⟩ (Front.c Front.nil) (by repeat' constructor) rfl (fun k hi m hm => ?_)
  replace hi : a ≤ k ∧ k + 1 ≤ i := hi
  replace hm : m = i - k := hm
  change Tr _ _ [rowE V 36 aP (mp (dB a (a + 1) (k + 1)) l)] ([(13, .int .i64 (k : Nat))] ++ _) _
  obtain ⟨hk1, hk2⟩ := hi
  have hml : (mp (dB a (a + 1) (k + 1)) l).length = l.length := g7 _ _
  refine al (ah (zz0 (aa rfl) (zz0 (aa rfl) (zz0 (d6 rfl rfl) ?_))))
  refine zz0 (bS rfl rfl) (ad ?_)
  refine ao rfl ?_ ?_ <;> intro h4 <;> try simp only [bs] at h4
  ·refine bB (al (aG (fK 5 15 aT ?_)))
   refine ei rfl ?_
   refine ei rfl ?_
   refine ei rfl ?_
   refine ei rfl ?_
   refine gp (fun _ => cx rfl rfl) (by rfl) rfl ?_
   refine bH ?_
   refine ax (aa rfl) (ax (aa rfl) (ax (cx rfl rfl) ?_))
   refine ax (jv rfl rfl aM au) ?_
   refine ax (mF rfl aQ au) ?_
   refine ax (aa rfl) (ax (aa rfl) (ax (dm rfl rfl aM au) ?_))
   refine ax (mF rfl aQ au) ?_
   refine ax (dm rfl rfl aM au) ?_
   refine bK ?_
   refine f9 (l := (mp (dB a (a + 1) (k + 1)) l)) (i := k) ((mp (dB a (a + 1) (k + 1)) l).getD (k + 1) default) rfl rfl au ?_
   have hls5 : (List.set (mp (dB a (a + 1) (k + 1)) l) (k) ((mp (dB a (a + 1) (k + 1)) l).getD (k + 1) default)).length = ((mp (dB a (a + 1) (k + 1)) l)).length := List.length_set
   refine zz0 (jv rfl rfl aM au) ?_
   refine f9 (l := ((mp (dB a (a + 1) (k + 1)) l).set (k) ((mp (dB a (a + 1) (k + 1)) l).getD (k + 1) default))) (i := k + 1) ((mp (dB a (a + 1) (k + 1)) l).getD (k) default) rfl rfl au ?_
   have hls6 : (List.set ((mp (dB a (a + 1) (k + 1)) l).set (k) ((mp (dB a (a + 1) (k + 1)) l).getD (k + 1) default)) (k + 1) ((mp (dB a (a + 1) (k + 1)) l).getD (k) default)).length = (((mp (dB a (a + 1) (k + 1)) l).set (k) ((mp (dB a (a + 1) (k + 1)) l).getD (k + 1) default))).length := List.length_set
   refine az (aX (ac (ar (zz0 (aa rfl) (zz0 (cx rfl rfl) ?_)))))
   refine zz0 (ab rfl) (ad ?_)
   have hsw := Cb (l := (mp (dB a (a + 1) (k + 1)) l)) (p := k) (q := k + 1) (by omega) (by omega)
   rw [HZ hk1 (by omega)] at hsw
   rw [hsw]
   refine cC (k + 1) (Front.c Front.nil) (bA 24 rfl) (o := ⟨by omega, by omega⟩)
  refine bG (aJ (aJ (bj (ac (aD (aB ?_))))))
  refine lD kG (fun w' hw => ?_)
  have hin := En hO (l := l) (a := a) (i := i) (b := b) (by rw [show a + 1 = md by omega]; exact h2s) hb (by omega) (by omega) (fun q x y => hi4 q (by omega) y) (fun q x y => hi5 q (by omega) y)
  obtain rfl : i = k + 1 := by omega
  exact ⟨rfl, _, ⟨hin.1, Fram.rot (Nat.le_refl _) (by omega) (by omega) (by omega), hin.2⟩, HpOK.mutOwn hw (.head _) rfl⟩
 refine bB (al (ah (zz0 (aa rfl) (zz0 (aa rfl) (zz0 (d6 rfl rfl) ?_)))))
 refine zz0 (aY rfl rfl) (ad ?_)
 refine ao rfl ?_ ?_ <;> intro h7 <;> try simp only [bs] at h7
 ·refine ah (zz0 (aa rfl) (zz0 (ab rfl) (aL (zz0 (aa rfl) (zz0 (ab rfl) (ad (al (aG ?_))))))))
  refine bN (ι := Nat × Nat) (fun ⟨i, j⟩ => a ≤ i ∧ i ≤ j ∧ j ≤ md ∧ (∀ q, a ≤ q → q < i → dJ cmp (l.getD md default) (l.getD q default) = false) ∧ (∀ q, j ≤ q → q < md → dJ cmp (l.getD md default) (l.getD q default) = true)) (fun _ => _) (fun ⟨i, j⟩ => [rowE V 36 aP l]) (fun ⟨i, j⟩ => [(14, .int .i64 (i : Nat)), (15, .int .i64 (j : Nat))]) (fun ⟨i, j⟩ => j - i) (a, md) ⟨Nat.le_refl _, by omega, Nat.le_refl _, fun q x y => by omega, fun q x y => by omega⟩ (Front.c (Front.c Front.nil)) (by repeat' constructor) rfl (fun i hi m hm => ?_)
  obtain ⟨i, j⟩ := i
  replace hi : a ≤ i ∧ i ≤ j ∧ j ≤ md ∧ (∀ q, a ≤ q → q < i → dJ cmp (l.getD md default) (l.getD q default) = false) ∧ (∀ q, j ≤ q → q < md → dJ cmp (l.getD md default) (l.getD q default) = true) := hi
  replace hm : m = j - i := hm
  change Tr _ _ [rowE V 36 aP l] ([(14, .int .i64 (i : Nat)), (15, .int .i64 (j : Nat))] ++ _) _
  obtain ⟨hi1, hi2, hi3, hi4, hi5⟩ := hi
  refine al (ah (zz0 (aa rfl) (zz0 (aa rfl) (zz0 (bS rfl rfl) (ad ?_)))))
  refine ao rfl ?_ ?_ <;> intro h8 <;> try simp only [bs] at h8
  ·refine bB (aG (ah (zz0 (aa rfl) (zz0 (aa rfl) (zz0 (cx rfl rfl) ?_)))))
   refine zz0 (fb rfl ba dR (IntWalk.u64_in _ (by omega))) ?_
   refine zz0 (t8 rfl rfl (by omega)) ?_
   refine zz0 (fb rfl dR ba (IntWalk.i64_in _ (by omega))) ?_
   refine zz0 (ab rfl) (ad (al ?_))
   obtain ⟨h, hhh⟩ : ∃ h, h = (i + j) / 2 := ⟨_, rfl⟩
   rw [show (((i : Nat) : Int) + ((j : Nat) : Int)) / 2 = ((h : Nat) : Int) by omega]
   refine gZ aT ?_
   refine ax (aa rfl) (ax (aa rfl) (ax (aa rfl) (ax (dm rfl rfl aM au) ?_)))
   refine ax (mF rfl aQ au) ?_
   refine ax (aa rfl) (ax (aa rfl) (ax (dm rfl rfl aM au) ?_))
   refine ax (mF rfl aQ au) ?_
   refine ax (ig rfl rfl eg (fun w hw => hc _ _ w (hI _ _ _ hIw (HpOK.mutOwn hw (.head _) rfl).1 (HpOK.mutOwn hw (.head _) rfl).2))) ?_
   refine ax (bS rfl rfl) (ax (cj rfl) (bK ?_))
   refine ac ?_
   refine ao rfl ?_ ?_ <;> intro h9 <;> try simp only [bs] at h9
   ·refine ar (zz0 (aa rfl) (zz0 (cx rfl rfl) ?_))
    refine zz0 (ab rfl) (az (aX (ac ?_)))
    have hx : dJ cmp (l.getD md default) (l.getD h default) = false := by simp only [dJ, decide_eq_false_iff_not]; assumption
    have hn : ∀ q, a ≤ q → q < h + 1 → dJ cmp (l.getD md default) (l.getD q default) = false := fun q x y => hO.ntr _ _ _ hx (h1s.le hO x (by omega) (by omega))
    refine cC (h + 1, j) (Front.c (Front.c Front.nil)) (bA 27 rfl) (o := ⟨by omega, by omega, hi3, hn, hi5⟩)
   refine ar (zz0 (aa rfl) (zz0 (ab rfl) (az (aX (ac ?_)))))
   have hx : dJ cmp (l.getD md default) (l.getD h default) = true := by simp only [dJ, decide_eq_true_eq]; assumption
   have hn : ∀ q, h ≤ q → q < md → dJ cmp (l.getD md default) (l.getD q default) = true := fun q x y => hO.lt_le hx (h1s.le hO (by omega) x y)
   refine cC (i, h) (Front.c (Front.c Front.nil)) (bA 26 rfl) (o := ⟨hi1, by omega, by omega, hi4, hn⟩)
  refine bG (aJ (aJ (bj (ac (al (ah (zz0 (aa rfl) (zz0 (ab rfl) (ad (aG ?_))))))))))
  have e0 : mp (dB md md (md + 1)) l = l := q7 (.inl rfl) (Nat.le_refl _) (by omega)
  refine gx e0.symm ?_
  refine bN (ι := Nat) (fun k => i ≤ k ∧ k ≤ md) (fun _ => _) (fun k => [rowE V 36 aP (mp (dB k md (md + 1)) l)]) (fun k => [(17, .int .i64 (k : Nat))]) (fun k => k) md ⟨by omega, Nat.le_refl _⟩ (Front.c Front.nil) (by repeat' constructor) rfl (fun k hi m hm => ?_)
  replace hi : i ≤ k ∧ k ≤ md := hi
  replace hm : m = k := hm
  change Tr _ _ [rowE V 36 aP (mp (dB k md (md + 1)) l)] ([(17, .int .i64 (k : Nat))] ++ _) _
  obtain ⟨hk1, hk2⟩ := hi
  have hml : (mp (dB k md (md + 1)) l).length = l.length := g7 _ _
  have ej : ((k : Int) - 1).toNat = k - 1 := by omega
  refine al (ah (zz0 (aa rfl) (zz0 (aa rfl) (zz0 (eU rfl rfl) (ad ?_)))))
  refine ao rfl ?_ ?_ <;> intro h10 <;> try simp only [bs] at h10
  ·refine bB (al (aG (fK 5 15 aT ?_)))
   refine ei rfl ?_
   refine ei rfl ?_
   refine ei rfl ?_
   refine ei rfl ?_
   refine gp (fun _ => d6 rfl rfl) (by rfl) rfl ?_
   refine bH ?_
   refine ax (aa rfl) (ax (aa rfl) (ax (d6 rfl rfl) ?_))
   refine ax (jv rfl rfl aM au) ?_
   refine ax (mF rfl aQ au) ?_
   refine ax (aa rfl) (ax (aa rfl) (ax (dm rfl rfl aM au) ?_))
   refine ax (mF rfl aQ au) ?_
   refine ax (dm rfl rfl aM au) ?_
   refine bK ?_
   refine f9 (l := (mp (dB k md (md + 1)) l)) (i := k) ((mp (dB k md (md + 1)) l).getD (((k : Int) - 1).toNat) default) rfl rfl au ?_
   have hls11 : (List.set (mp (dB k md (md + 1)) l) (k) ((mp (dB k md (md + 1)) l).getD (((k : Int) - 1).toNat) default)).length = ((mp (dB k md (md + 1)) l)).length := List.length_set
   refine zz0 (jv rfl rfl aM au) ?_
   refine f9 (l := ((mp (dB k md (md + 1)) l).set (k) ((mp (dB k md (md + 1)) l).getD (((k : Int) - 1).toNat) default))) (i := ((k : Int) - 1).toNat) ((mp (dB k md (md + 1)) l).getD (k) default) rfl rfl au ?_
   have hls12 : (List.set ((mp (dB k md (md + 1)) l).set (k) ((mp (dB k md (md + 1)) l).getD (((k : Int) - 1).toNat) default)) (((k : Int) - 1).toNat) ((mp (dB k md (md + 1)) l).getD (k) default)).length = (((mp (dB k md (md + 1)) l).set (k) ((mp (dB k md (md + 1)) l).getD (((k : Int) - 1).toNat) default))).length := List.length_set
   refine az (aX (ac (ar (zz0 (aa rfl) (zz0 (d6 rfl rfl) ?_)))))
   refine zz0 (ab rfl) (ad ?_)
   have hsw := Cb (l := (mp (dB k md (md + 1)) l)) (p := k) (q := k - 1) (by omega) (by omega)
   rw [zc (by omega) hk2 (by omega)] at hsw
   rw [ej, hsw]
   refine cC (k - 1) (Front.c Front.nil) (bA 23 rfl) (o := ⟨by omega, by omega⟩)
  refine bG (aJ (aJ (bj (ac (aD (aB ?_))))))
  refine lD kG (fun w' hw => ?_)
  obtain rfl : i = k := by omega
  have hin := BZ hO (l := l) (a := a) (i := md) (j := i) h1s (by omega) (by omega) (by omega) (fun q x y => hi5 q (by omega) y) (if q : i = a then .inl q else .inr (hi4 _ (by omega) (by omega)))
  obtain rfl : b = md + 1 := by omega
  exact ⟨rfl, _, ⟨hin.1, Fram.rot (by omega) (Nat.le_refl _) (by omega) (by omega), hin.2⟩, HpOK.mutOwn hw (.head _) rfl⟩
 refine df (zz0 (aa rfl) (zz0 (aa rfl) (zz0 (cx rfl rfl) ?_)))
 refine zz0 (fb rfl ba dR (IntWalk.u64_in _ (by omega))) ?_
 refine zz0 (t8 rfl rfl (by omega)) ?_
 refine zz0 (fb rfl dR ba (IntWalk.i64_in _ (by omega))) ?_
 refine zz0 (ab rfl) (ad (al ?_))
 obtain ⟨mid, hhmid⟩ : ∃ mid, mid = (a + b) / 2 := ⟨_, rfl⟩
 rw [show (((a : Nat) : Int) + ((b : Nat) : Int)) / 2 = ((mid : Nat) : Int) by omega]
 refine ar (zz0 (aa rfl) (zz0 (aa rfl) (zz0 (cx rfl rfl) ?_)))
 refine zz0 (ab rfl) (aL (zz0 (ab rfl) (zz0 (ab rfl) (ad ?_))))
 refine db (ι := Nat × Nat) (fun ⟨s0, r0⟩ => (mid < md ∧ s0 + b = mid + md ∧ r0 = mid) ∨ (md ≤ mid ∧ s0 = a ∧ r0 = md)) (fun _ => Bg.less w V) (fun ⟨s0, r0⟩ => [rowE V 36 aP l]) (fun ⟨s0, r0⟩ => [(20, .int .i64 (s0 : Nat)), (21, .int .i64 (r0 : Nat))]) ?_ (fun i hi => ?_)
 ·skip
  refine ah (zz0 (aa rfl) (zz0 (aa rfl) (zz0 (eU rfl rfl) (ad ?_))))
  refine ao rfl ?_ ?_ <;> intro h13 <;> try simp only [bs] at h13
  ·refine ah (zz0 (aa rfl) (zz0 (aa rfl) (zz0 (d6 rfl rfl) ?_)))
   refine zz0 (ab rfl) (ad (ar (zz0 (aa rfl) (zz0 (ab rfl) (ad ?_)))))
   refine cw (mid + md - b, mid) (Front.c (Front.c Front.nil)) (bA 9 rfl) (o := .inl ⟨by omega, by omega, rfl⟩)
  refine ah (zz0 (aa rfl) (zz0 (ab rfl) (ad (ar (zz0 (aa rfl) (zz0 (ab rfl) (ad ?_)))))))
  refine cw (a, md) (Front.c (Front.c Front.nil)) (bA 7 rfl) (o := .inr ⟨by omega, rfl, rfl⟩)
 obtain ⟨s0, r0⟩ := i
 replace hi : (mid < md ∧ s0 + b = mid + md ∧ r0 = mid) ∨ (md ≤ mid ∧ s0 = a ∧ r0 = md) := hi
 change Tr _ _ [rowE V 36 aP l] ([(20, .int .i64 (s0 : Nat)), (21, .int .i64 (r0 : Nat))] ++ _) _
 have hs0 : a ≤ s0 ∧ s0 ≤ r0 ∧ r0 ≤ md := by omega
 refine ah (zz0 (aa rfl) (zz0 (d6 rfl rfl) ?_))
 refine zz0 (ab rfl) (ad (al (aG ?_)))
 refine bN (ι := Nat × Nat) (fun ⟨st, r⟩ => s0 ≤ st ∧ st ≤ r ∧ r ≤ r0 ∧ (st = s0 ∨ dJ cmp (l.getD (mid + md - st) default) (l.getD (st - 1) default) = false) ∧ (r = r0 ∨ dJ cmp (l.getD (mid + md - 1 - r) default) (l.getD r default) = true)) (fun _ => _) (fun ⟨st, r⟩ => [rowE V 36 aP l]) (fun ⟨st, r⟩ => [(20, .int .i64 (st : Nat)), (21, .int .i64 (r : Nat))]) (fun ⟨st, r⟩ => r - st) (s0, r0) ⟨Nat.le_refl _, by omega, Nat.le_refl _, .inl rfl, .inl rfl⟩ (Front.c (Front.c Front.nil)) (by repeat' constructor) rfl (fun i hi m hm => ?_)
 obtain ⟨st, r⟩ := i
 replace hi : s0 ≤ st ∧ st ≤ r ∧ r ≤ r0 ∧ (st = s0 ∨ dJ cmp (l.getD (mid + md - st) default) (l.getD (st - 1) default) = false) ∧ (r = r0 ∨ dJ cmp (l.getD (mid + md - 1 - r) default) (l.getD r default) = true) := hi
 replace hm : m = r - st := hm
 change Tr _ _ [rowE V 36 aP l] ([(20, .int .i64 (st : Nat)), (21, .int .i64 (r : Nat))] ++ _) _
 obtain ⟨hi1, hi2, hi3, hi4, hi5⟩ := hi
 refine al (ah (zz0 (aa rfl) (zz0 (aa rfl) (zz0 (bS rfl rfl) (ad ?_)))))
 refine ao rfl ?_ ?_ <;> intro h14 <;> try simp only [bs] at h14
 ·refine bB (aG (ah (zz0 (aa rfl) (zz0 (aa rfl) (zz0 (cx rfl rfl) ?_)))))
  refine zz0 (fb rfl ba dR (IntWalk.u64_in _ (by omega))) ?_
  refine zz0 (t8 rfl rfl (by omega)) ?_
  refine zz0 (fb rfl dR ba (IntWalk.i64_in _ (by omega))) ?_
  refine zz0 (ab rfl) (ad (al ?_))
  obtain ⟨c, hhc⟩ : ∃ c, c = (st + r) / 2 := ⟨_, rfl⟩
  rw [show (((st : Nat) : Int) + ((r : Nat) : Int)) / 2 = ((c : Nat) : Int) by omega]
  refine gZ aT ?_
  refine ax (aa rfl) (ax (aa rfl) (ax (aa rfl) (ax (aa rfl) (ax (d6 rfl rfl) ?_))))
  refine ax (jv rfl rfl aM au) ?_
  refine ax (mF rfl aQ au) ?_
  refine ax (aa rfl) (ax (aa rfl) (ax (dm rfl rfl aM au) ?_))
  refine ax (mF rfl aQ au) ?_
  refine ax (ig rfl rfl eg (fun w hw => hc _ _ w (hI _ _ _ hIw (HpOK.mutOwn hw (.head _) rfl).1 (HpOK.mutOwn hw (.head _) rfl).2))) ?_
  refine ax (bS rfl rfl) (ax (cj rfl) (bK ?_))
  refine ac ?_
  refine ao rfl ?_ ?_ <;> intro h15 <;> try simp only [bs] at h15
  ·refine ar (zz0 (aa rfl) (zz0 (cx rfl rfl) ?_))
   refine zz0 (ab rfl) (az (aX (ac ?_)))
   have ec : ((((mid : Nat) : Int) + ((md : Nat) : Int)) - 1 - ((c : Nat) : Int)).toNat = mid + md - 1 - c := by omega
   have hx : dJ cmp (l.getD (mid + md - 1 - c) default) (l.getD c default) = false := by rw [← ec]; simp only [dJ, decide_eq_false_iff_not]; assumption
   refine cC (c + 1, r) (Front.c (Front.c Front.nil)) (bA 29 rfl) (o := ⟨by omega, by omega, hi3, .inr (by rw [show mid + md - (c + 1) = mid + md - 1 - c by omega]; exact hx), hi5⟩)
  refine ar (zz0 (aa rfl) (zz0 (ab rfl) (az (aX (ac ?_)))))
  have ec : ((((mid : Nat) : Int) + ((md : Nat) : Int)) - 1 - ((c : Nat) : Int)).toNat = mid + md - 1 - c := by omega
  have hx : dJ cmp (l.getD (mid + md - 1 - c) default) (l.getD c default) = true := by rw [← ec]; simp only [dJ, decide_eq_true_eq]; assumption
  refine cC (st, c) (Front.c (Front.c Front.nil)) (bA 28 rfl) (o := ⟨hi1, by omega, by omega, hi4, .inr hx⟩)
 refine bG (aJ (aJ (bj (ac (ah (zz0 (aa rfl) (zz0 (aa rfl) (zz0 (d6 rfl rfl) ?_))))))))
 refine zz0 (ab rfl) (ad ?_)
 obtain rfl : r = st := by omega
 obtain ⟨e, he⟩ : ∃ e, e = mid + md - r := ⟨_, rfl⟩
 rw [show (((mid : Nat) : Int) + ((md : Nat) : Int)) - ((r : Nat) : Int) = ((e : Nat) : Int) by omega]
 have hme : md ≤ e := by omega
 have heb : e ≤ b := by omega
 have hmm : mid = r + (e - md) := by omega
 have hd : r = md ∨ md = e ∨ dJ cmp (l.getD (e - 1) default) (l.getD r default) = true := by
  rcases hi5 with q | q
  ·omega
  ·exact .inr (.inr (by rw [show e - 1 = mid + md - 1 - r by omega]; exact q))
 have hg : r = a ∨ e = b ∨ dJ cmp (l.getD e default) (l.getD (r - 1) default) = false := by
  rcases hi4 with q | q
  ·omega
  ·exact .inr (.inr (by rw [he]; exact q))
 have hf := E8 hO h1s h2s hb (by omega) (by omega) hme heb hmm hd hg
 have hml : (mp (dB r md e) l).length = l.length := g7 _ _
 refine db (ι := Unit) (fun _u => True) (fun _ => Bg.less w V) (fun _u => [rowE V 36 aP (mp (dB r md e) l)]) (fun _u => []) ?_ (fun _u hi => ?_)
 ·skip
  refine ah (zz0 (aa rfl) (zz0 (aa rfl) (zz0 (bS rfl rfl) (zz0 (aa rfl) ?_))))
  apply bV
  ·exact (rfl : _ = (4, 181, 185))
  ·exact rfl
  ·intro hT16; have hT16' := hT16
   try simp only [bs] at hT16'
   refine zz5 hT16 (aa rfl) (zz5 hT16 (aa rfl) (zz5 hT16 (bS rfl rfl) (zz0 (aN rfl hT16 rfl) ?_)))
   refine az (ac ?_)
   exact aA (Sub.cons rfl (zz7 4 rfl))
  ·intro hF16
   refine zz6 hF16 (zz6 hF16 (zz6 hF16 (zz0 (aK rfl hF16 rfl) ?_)))
   refine az (ac ?_)
   exact aA (Sub.cons rfl (zz7 4 rfl))
  refine ad ?_
  refine ao rfl ?_ ?_ <;> intro h17 <;> try simp only [bs] at h17
  ·refine ar (zz0 (aa rfl) (zz0 (aa rfl) (zz0 (aa rfl) (zz0 (aa rfl) (zz0 (aa rfl) (dY rfl Tryz.call263 (by repeat constructor) (fun w hw => AX l V r md e _ _ _ (by omega) (by omega) (by omega) _ w (hw.ent _ (.head _)) hl (by omega) (by omega) (by omega)) rfl ?_))))))
   refine ad ?_
   refine cw () Front.nil (bA 11 rfl) (o := trivial)
  refine bB (gx (l' := mp (dB r md e) l) (q7 (by omega) (by omega) (by omega)).symm ?_)
  refine cw () Front.nil (bA 5 rfl) (o := trivial)
 skip
 replace hi : True := hi
 change Tr _ _ [rowE V 36 aP (mp (dB r md e) l)] ([] ++ _) _
 refine db (ι := List Ins) (fun c2 => Half (dJ cmp) l c2 a mid mid e b) (fun _ => Bg.less w V) (fun c2 => [rowE V 36 aP c2]) (fun c2 => []) ?_ (fun c2 hi => ?_)
 ·skip
  refine ah (zz0 (aa rfl) (zz0 (aa rfl) (zz0 (bS rfl rfl) (zz0 (aa rfl) ?_))))
  apply bV
  ·exact (rfl : _ = (4, 195, 199))
  ·exact rfl
  ·intro hT18; have hT18' := hT18
   try simp only [bs] at hT18'
   refine zz5 hT18 (aa rfl) (zz5 hT18 (aa rfl) (zz5 hT18 (bS rfl rfl) (zz0 (aN rfl hT18 rfl) ?_)))
   refine az (ac ?_)
   exact aA (Sub.cons rfl (zz7 4 rfl))
  ·intro hF18
   refine zz6 hF18 (zz6 hF18 (zz6 hF18 (zz0 (aK rfl hF18 rfl) ?_)))
   refine az (ac ?_)
   exact aA (Sub.cons rfl (zz7 4 rfl))
  refine ad ?_
  refine ao rfl ?_ ?_ <;> intro h19 <;> try simp only [bs] at h19
  ·refine ar (zz0 (aa rfl) (zz0 (aa rfl) (zz0 (aa rfl) (zz0 (aa rfl) (zz0 (aa rfl) ?_)))))
   refine gR (fun c => Stab (dJ cmp) (mp (dB r md e) l) c ∧ Fram a mid (mp (dB r md e) l) c ∧ Srt (dJ cmp) c a mid) rfl oq (fun w hw => ih (mid - a) (by omega) (mp (dB r md e) l) a r mid _ _ _ w (by omega) (by omega) (by omega) (Nat.le_refl _) (by omega) (by omega) (by omega) (by omega) hf.s1 hf.s2 (hI _ _ _ hIw (HpOK.mutOwn hw (.head _) rfl).1 (HpOK.mutOwn hw (.head _) rfl).2) (hw.ent _ (.head _))) rfl (fun c2 hc2 => ?_)
   refine ad ?_
   refine cw c2 Front.nil (bA 11 rfl) (o := hf.left hb (by omega) (by omega) hc2.1 hc2.2.1 hc2.2.2)
  refine bB ?_
  refine cw _ Front.nil (bA 5 rfl) (o := hf.left0 (by omega) (by omega) (by omega))
 skip
 replace hi : Half (dJ cmp) l c2 a mid mid e b := hi
 change Tr _ _ [rowE V 36 aP c2] ([] ++ _) _
 have hl2 := hi.fr.1
 refine ah (zz0 (aa rfl) (zz0 (aa rfl) (zz0 (bS rfl rfl) (zz0 (aa rfl) ?_))))
 apply bV
 ·exact (rfl : _ = (4, 209, 213))
 ·exact rfl
 ·intro hT20; have hT20' := hT20
  try simp only [bs] at hT20'
  refine zz5 hT20 (aa rfl) (zz5 hT20 (aa rfl) (zz5 hT20 (bS rfl rfl) (zz0 (aN rfl hT20 rfl) ?_)))
  refine az (ac ?_)
  exact aA (Sub.cons rfl (zz7 4 rfl))
 ·intro hF20
  refine zz6 hF20 (zz6 hF20 (zz6 hF20 (zz0 (aK rfl hF20 rfl) ?_)))
  refine az (ac ?_)
  exact aA (Sub.cons rfl (zz7 4 rfl))
 refine ad ?_
 refine ao rfl ?_ ?_ <;> intro h21 <;> try simp only [bs] at h21
 ·refine ar (zz0 (aa rfl) (zz0 (aa rfl) (zz0 (aa rfl) (zz0 (aa rfl) (zz0 (aa rfl) ?_)))))
  refine gR (fun c => Stab (dJ cmp) c2 c ∧ Fram mid b c2 c ∧ Srt (dJ cmp) c mid b) rfl oq (fun w hw => ih (b - mid) (by omega) c2 mid e b _ _ _ w (by omega) (by omega) (by omega) (Nat.le_refl _) (by omega) (by omega) (by omega) (by omega) hi.s3 hi.s4 (hI _ _ _ hIw (HpOK.mutOwn hw (.head _) rfl).1 (HpOK.mutOwn hw (.head _) rfl).2) (hw.ent _ (.head _))) rfl (fun c3 hc3 => ?_)
  refine az ?_
  refine fq kG (fun w' hw => ?_)
  exact ⟨rfl, c3, hi.right hb (by omega) (by omega) hc3.1 hc3.2.1 hc3.2.2, HpOK.mutOwn hw (.head _) rfl⟩
 refine bW ?_
 refine fq kG (fun w' hw => ?_)
 exact ⟨rfl, c2, hi.right0 (by omega) (by omega) (by omega), HpOK.mutOwn hw (.head _) rfl⟩
theorem qS (V : Value) (g : FuncId) (cb : List Value) (cmp : Ins → Ins → Int) (I : World → Prop) (hI : ∀ w w' l', I w → Mut w w' V → (rowE V 36 aP l').holds w' → I w') (eg : ∀ args w, (callFunc g args).run Tryz.prog w = .ok (.enter g args) w) (hc : ∀ x y w', I w' → Calls Tryz.prog g ([Value.agg (aP.enc x).toArray, Value.agg (aP.enc y).toArray] ++ cb).toArray w' fun e w'' => e = .returned (.int .i64 (cmp x y)) ∧ Ext w' w'') (hO : WO (dJ cmp)) : ∀ n, Cx g cb cmp I V n := by
 intro n
 induction n using Nat.strongRecOn with
 | ind n ih =>
  intro l a md b ai mdi bi w ea emd eb hn ham hmb hb hl h1s h2s hIw hr
  exact CW l V a md b ai mdi bi ea emd eb g cb cmp I hI eg hc hO w hIw hr hl (fun k hk => ih k (by omega)) ham hmb hb h1s h2s
theorem zQ {l : List Ins} {k : Nat} (h : l.length ≤ k) : l.getD k default = default := by simp [List.getD_eq_getElem?_getD, List.getElem?_eq_none h]
theorem AT (l : List Ins) (V : Value) (n : Nat) (ni : Int) (en : ni = ((n : Nat) : Int)) (g : FuncId) (cb : List Value) (cmp : Ins → Ins → Int) (I : World → Prop) (hI : ∀ w w' l', I w → Mut w w' V → (rowE V 36 aP l').holds w' → I w') (eg : ∀ args w, (callFunc g args).run Tryz.prog w = .ok (.enter g args) w) (hc : ∀ x y w', I w' → Calls Tryz.prog g ([Value.agg (aP.enc x).toArray, Value.agg (aP.enc y).toArray] ++ cb).toArray w' fun e w'' => e = .returned (.int .i64 (cmp x y)) ∧ Ext w' w'') (hO : WO (dJ cmp)) (w : World) (hIw : I w) (hr : (rowE V 36 aP l).holds w) (hl : l.length ≤ 1000000) (hn : n = l.length) :
  Calls Tryz.prog 146 #[V, .int .i64 ni, .func (.func g) #[] cb.toArray] w (yV cmp V l 0 n w) := by
 subst en
 refine fF (l := l) (E := aP) (T := 36) hr Tryz.func146 rfl Tryz.ntmps146 rfl ?_
 refine ah (zz0 (ab rfl) (aL (zz0 (aa rfl) (zz0 (ab rfl) (zz0 (ab rfl) (ad (al (aG ?_))))))))
 refine bN (ι := Nat × List Ins) (fun ⟨t, cur⟩ => t * 20 ≤ n ∧ Stab (dJ cmp) l cur ∧ Blk (dJ cmp) cur 20 (t * 20)) (fun _ => _) (fun ⟨t, cur⟩ => [rowE V 36 aP cur]) (fun ⟨t, cur⟩ => [(7, .int .i64 ((t * 20 : Nat) : Int)), (8, .int .i64 ((t * 20 + 20 : Nat) : Int))]) (fun ⟨t, cur⟩ => n - t * 20) (0, l) ⟨by omega, .refl _ _, fun t p q a1 a2 a3 a4 => by omega⟩ (Front.c (Front.c Front.nil)) (by repeat' constructor) rfl (fun i hi m hm => ?_)
 obtain ⟨t, cur⟩ := i
 replace hi : t * 20 ≤ n ∧ Stab (dJ cmp) l cur ∧ Blk (dJ cmp) cur 20 (t * 20) := hi
 replace hm : m = n - t * 20 := hm
 change Tr _ _ [rowE V 36 aP cur] ([(7, .int .i64 ((t * 20 : Nat) : Int)), (8, .int .i64 ((t * 20 + 20 : Nat) : Int))] ++ _) _
 obtain ⟨ht1, ht2, ht3⟩ := hi
 have hcl := ht2.len
 refine al (ah (zz0 (aa rfl) (zz0 (aa rfl) (zz0 (fE rfl rfl) (ad ?_)))))
 refine ao rfl ?_ ?_ <;> intro h1 <;> try simp only [bs] at h1
 ·refine bB (aG (ah (zz0 (aa rfl) (zz0 (aa rfl) (zz0 (aa rfl) (zz0 (aa rfl) ?_))))))
  refine gR (fun c => Stab (dJ cmp) cur c ∧ Fram (t * 20) (t * 20 + 20) cur c ∧ Srt (dJ cmp) c (t * 20) (t * 20 + 20)) rfl Tryz.call199 (fun w hw => qk cur V (t * 20) (t * 20 + 20) _ _ (by omega) (by omega) g cb cmp I hI eg hc hO w (hI _ _ _ hIw (HpOK.mutOwn hw (.head _) rfl).1 (HpOK.mutOwn hw (.head _) rfl).2) (hw.ent _ (.head _)) (by omega) (by omega) (by omega)) rfl (fun c2 hc2 => ?_)
  refine aL (zz0 (aa rfl) (zz0 (ab rfl) (ad (ar (zz0 (aa rfl) (zz0 (aa rfl) (zz0 (cx rfl rfl) ?_)))))))
  refine zz0 (ab rfl) (az (aX (ac ?_)))
  have hcl2 := hc2.1.len
  have hb2 : Blk (dJ cmp) c2 20 ((t + 1) * 20) := by rw [show (t + 1) * 20 = t * 20 + 20 by omega]; exact t6 ht3 hc2.2.1 hc2.2.2 (by omega)
  refine cC (t + 1, c2) (Front.c (Front.c Front.nil)) (bA 16 rfl) (o := ⟨by omega, ht2.trans hc2.1, hb2⟩)
 refine bG (aJ (aJ (bj (ac (ah (zz0 (aa rfl) (zz0 (aa rfl) (zz0 (aa rfl) (zz0 (aa rfl) ?_)))))))))
 refine gR (fun c => Stab (dJ cmp) cur c ∧ Fram (t * 20) n cur c ∧ Srt (dJ cmp) c (t * 20) n) rfl Tryz.call199 (fun w hw => qk cur V (t * 20) n _ _ (by omega) (by omega) g cb cmp I hI eg hc hO w (hI _ _ _ hIw (HpOK.mutOwn hw (.head _) rfl).1 (HpOK.mutOwn hw (.head _) rfl).2) (hw.ent _ (.head _)) (by omega) (by omega) (by omega)) rfl (fun c3 hc3 => ?_)
 refine ad (aG ?_)
 have hcl3 := hc3.1.len
 have hb3 : Blk (dJ cmp) c3 20 n := t6 ht3 hc3.2.1 hc3.2.2 (by omega)
 have hst3 := ht2.trans hc3.1
 clear hc3 ht3 ht2
 refine bN (ι := Nat × Int × Int × List Ins) (fun ⟨bz, xa, xb, cur⟩ => 1 ≤ bz ∧ bz ≤ 2 * n + 20 ∧ Stab (dJ cmp) l cur ∧ Blk (dJ cmp) cur bz n) (fun _ => _) (fun ⟨bz, xa, xb, cur⟩ => [rowE V 36 aP cur]) (fun ⟨bz, xa, xb, cur⟩ => [(6, .int .i64 (bz : Nat)), (7, .int .i64 xa), (8, .int .i64 xb)]) (fun ⟨bz, xa, xb, cur⟩ => n - bz) (20, _, _, c3) ⟨by omega, by omega, hst3, hb3⟩ (Front.c (Front.c (Front.c Front.nil))) (by repeat' constructor) rfl (fun i hi m hm => ?_)
 obtain ⟨bz, xa, xb, cur⟩ := i
 replace hi : 1 ≤ bz ∧ bz ≤ 2 * n + 20 ∧ Stab (dJ cmp) l cur ∧ Blk (dJ cmp) cur bz n := hi
 replace hm : m = n - bz := hm
 change Tr _ _ [rowE V 36 aP cur] ([(6, .int .i64 (bz : Nat)), (7, .int .i64 xa), (8, .int .i64 xb)] ++ _) _
 obtain ⟨hb1, hb2, hb4, hb5⟩ := hi
 have hcl4 := hb4.len
 refine al (ah (zz0 (aa rfl) (zz0 (aa rfl) (zz0 (bS rfl rfl) (ad ?_)))))
 refine ao rfl ?_ ?_ <;> intro h2 <;> try simp only [bs] at h2
 ·refine bB (aG (ah (zz0 (aa rfl) (zz0 (kM rfl rfl (by omega)) ?_))))
  refine zz0 (ab rfl) (zz0 (ab rfl) (ad (al (aG ?_))))
  refine bN (ι := Nat × Nat × List Ins) (fun ⟨t, x, c4⟩ => x = t * (2 * bz) ∧ x ≤ n ∧ Stab (dJ cmp) l c4 ∧ Mix (dJ cmp) c4 bz x n) (fun _ => _) (fun ⟨t, x, c4⟩ => [rowE V 36 aP c4]) (fun ⟨t, x, c4⟩ => [(7, .int .i64 (x : Nat)), (8, .int .i64 ((x + 2 * bz : Nat) : Int))]) (fun ⟨t, x, c4⟩ => n - x) (0, 0, cur) ⟨by omega, by omega, hb4, IV hb5⟩ (Front.c (Front.c Front.nil)) (by repeat' constructor) rfl (fun i hi m hm => ?_)
  obtain ⟨t, x, c4⟩ := i
  replace hi : x = t * (2 * bz) ∧ x ≤ n ∧ Stab (dJ cmp) l c4 ∧ Mix (dJ cmp) c4 bz x n := hi
  replace hm : m = n - x := hm
  change Tr _ _ [rowE V 36 aP c4] ([(7, .int .i64 (x : Nat)), (8, .int .i64 ((x + 2 * bz : Nat) : Int))] ++ _) _
  obtain ⟨ht1, ht2, ht3, ht4⟩ := hi
  have hcl5 := ht3.len
  refine al (ah (zz0 (aa rfl) (zz0 (aa rfl) (zz0 (fE rfl rfl) (ad ?_)))))
  refine ao rfl ?_ ?_ <;> intro h3 <;> try simp only [bs] at h3
  ·refine bB (aG (al ?_))
   have hs1 : Srt (dJ cmp) c4 x (x + bz) := by subst ht1; exact uO ht4 (Nat.le_refl _) (by omega)
   have hs2 : Srt (dJ cmp) c4 (x + bz) (x + 2 * bz) := by subst ht1; exact wt ht4 (Nat.le_refl _) (by omega)
   refine ar (zz0 (aa rfl) (zz0 (aa rfl) (zz0 (aa rfl) (zz0 (aa rfl) (zz0 (cx rfl rfl) ?_)))))
   refine zz0 (aa rfl) (zz0 (aa rfl) ?_)
   refine gR (fun c => Stab (dJ cmp) c4 c ∧ Fram x (x + 2 * bz) c4 c ∧ Srt (dJ cmp) c x (x + 2 * bz)) rfl oq (fun w hw => qS V g cb cmp I hI eg hc hO _ c4 x (x + bz) (x + 2 * bz) _ _ _ w (by omega) (by omega) (by omega) (Nat.le_refl _) (by omega) (by omega) (by omega) (by omega) hs1 hs2 (hI _ _ _ hIw (HpOK.mutOwn hw (.head _) rfl).1 (HpOK.mutOwn hw (.head _) rfl).2) (hw.ent _ (.head _))) rfl (fun c5 hc5 => ?_)
   refine aL (zz0 (aa rfl) (zz0 (ab rfl) (ad (ar (zz0 (aa rfl) (zz0 (aa rfl) (zz0 (kM rfl rfl (by omega)) ?_)))))))
   refine zz0 (cx rfl rfl) ?_
   refine zz0 (ab rfl) (az (aX (ac ?_)))
   have hm2 : Mix (dJ cmp) c5 bz (x + 2 * bz) n := by
    have f := hc5.2.1
    have so := hc5.2.2
    subst ht1
    exact EX ht4 f so (Nat.le_refl _) (by omega)
   refine cC (t + 1, x + 2 * bz, c5) (Front.c (Front.c Front.nil)) (bA 20 rfl) (o := ⟨by rw [Nat.add_mul, ht1]; omega, by omega, ht3.trans hc5.1, hm2⟩)
  refine bG (aJ (aJ (bj (ac ?_))))
  refine db (ι := List Ins) (fun c6 => Stab (dJ cmp) l c6 ∧ Blk (dJ cmp) c6 (2 * bz) n) (fun _ => Bg.less w V) (fun c6 => [rowE V 36 aP c6]) (fun c6 => []) ?_ (fun c6 hi => ?_)
  ·skip
   refine ah (zz0 (aa rfl) (zz0 (aa rfl) (zz0 (cx rfl rfl) ?_)))
   refine zz0 (ab rfl) (aL (zz0 (aa rfl) (zz0 (aa rfl) (zz0 (bS rfl rfl) (ad ?_)))))
   refine ao rfl ?_ ?_ <;> intro h4 <;> try simp only [bs] at h4
   ·have hs1 : Srt (dJ cmp) c4 x (x + bz) := by subst ht1; exact uO ht4 (Nat.le_refl _) (by omega)
    have hs2 : Srt (dJ cmp) c4 (x + bz) n := by subst ht1; exact wt ht4 (by omega) (Nat.le_refl _)
    refine ar (zz0 (aa rfl) (zz0 (aa rfl) (zz0 (aa rfl) (zz0 (aa rfl) (zz0 (aa rfl) ?_)))))
    refine gR (fun c => Stab (dJ cmp) c4 c ∧ Fram x n c4 c ∧ Srt (dJ cmp) c x n) rfl oq (fun w hw => qS V g cb cmp I hI eg hc hO _ c4 x (x + bz) n _ _ _ w (by omega) (by omega) (by omega) (Nat.le_refl _) (by omega) (by omega) (by omega) (by omega) hs1 hs2 (hI _ _ _ hIw (HpOK.mutOwn hw (.head _) rfl).1 (HpOK.mutOwn hw (.head _) rfl).2) (hw.ent _ (.head _))) rfl (fun c5 hc5 => ?_)
    refine ad ?_
    have hm2 : Blk (dJ cmp) c5 (2 * bz) n := by
     have f := hc5.2.1
     have so := hc5.2.2
     subst ht1
     exact t6 ht4.1 f so (by rw [Nat.add_mul]; omega)
    refine cw c5 Front.nil (bA 13 rfl) (o := ⟨ht3.trans hc5.1, hm2⟩)
   refine bB ?_
   have hm2 : Blk (dJ cmp) c4 (2 * bz) n := by
    subst ht1
    exact GU ht4 (by omega)
   refine cw c4 Front.nil (bA 7 rfl) (o := ⟨ht3, hm2⟩)
  skip
  replace hi : Stab (dJ cmp) l c6 ∧ Blk (dJ cmp) c6 (2 * bz) n := hi
  change Tr _ _ [rowE V 36 aP c6] ([] ++ _) _
  refine ar (zz0 (aa rfl) (zz0 (kM rfl rfl (by omega)) ?_))
  refine zz0 (ab rfl) (az (aX (ac ?_)))
  refine cC (2 * bz, _, _, c6) (Front.c (Front.c (Front.c Front.nil))) (bA 18 rfl) (o := ⟨by omega, by omega, hi.1, hi.2⟩)
 refine bG (aJ (aJ (bj ?_)))
 refine fq Tryz.results146 (fun w' hw => ?_)
 exact ⟨rfl, cur, ⟨hb4, ⟨hb4.len, fun k hk => by rw [zQ (by omega), zQ (by omega)]⟩, hb5.all (by omega)⟩, HpOK.mutOwn hw (.head _) rfl⟩
theorem oZ (l : List Ins) (V : Value) (g : FuncId) (cb : List Value) (cmp : Ins → Ins → Int) (I : World → Prop) (hI : ∀ w w' l', I w → Mut w w' V → (rowE V 36 aP l').holds w' → I w') (eg : ∀ args w, (callFunc g args).run Tryz.prog w = .ok (.enter g args) w) (hc : ∀ x y w', I w' → Calls Tryz.prog g ([Value.agg (aP.enc x).toArray, Value.agg (aP.enc y).toArray] ++ cb).toArray w' fun e w'' => e = .returned (.int .i64 (cmp x y)) ∧ Ext w' w'') (hO : WO (dJ cmp)) (w : World) (hIw : I w) (hr : (rowE V 36 aP l).holds w) (hl : l.length ≤ 1000000) :
  Calls Tryz.prog 78 #[V, .func (.func g) #[] cb.toArray] w (yV cmp V l 0 l.length w) := by
 refine fF (l := l) (E := aP) (T := 36) hr Tryz.func78 rfl Tryz.ntmps78 rfl ?_
 refine ar (zz0 (aa rfl) (zz0 (aa rfl) (zz0 (mg rfl aM) ?_)))
 refine zz0 (aa rfl) ?_
 refine gR (fun c => Stab (dJ cmp) l c ∧ Fram 0 l.length l c ∧ Srt (dJ cmp) c 0 l.length) rfl Tryz.call146 (fun w hw => AT l V l.length _ rfl g cb cmp I hI eg hc hO w (hI _ _ _ hIw (HpOK.mutOwn hw (.head _) rfl).1 (HpOK.mutOwn hw (.head _) rfl).2) (hw.ent _ (.head _)) hl rfl) rfl (fun c2 hc2 => ?_)
 refine az ?_
 refine fq Tryz.results78 (fun w' hw => ?_)
 exact ⟨rfl, c2, hc2, HpOK.mutOwn hw (.head _) rfl⟩
end Go.Proofs.YtiajjbhcpeadfaaGreat
namespace Go.Proofs
open Go.Shelf
def Tryz.sortIns_ren : Go.Shelf.Ren := ⟨fun | 6 => 82 | 15 => 150 | 14 => 149 | 28 => 208 | 29 => 209 | 20 => 199 | 21 => 201 | 22 => 202 | 23 => 203 | 24 => 204 | 25 => 205 | 26 => 206 | 27 => 207 | 46 => 264 | 47 => 265 | 48 => 266 | 49 => 267 | 50 => 268 | 57 => 297 | n => n, fun | 22 => 50 | 24 => 36 | 25 => 156 | 3 => 3 | 39 => 191 | 0 => 0 | 53 => 23 | 55 => 43 | 4 => 4 | 46 => 261 | 45 => 260 | 50 => 229 | 5 => 5 | 9 => 9 | 66 => 292 | 70 => 296 | 76 => 316 | 77 => 317 | n => n, fun | n => n⟩
theorem Tryz.sortIns : Go.Proofs.SlLaysF0.n6 Tryz.prog Tryz.sortIns_ren := {
 mixed := by kernel_rfl
 f6 := ⟨Tryz.f82.name, by decide, Tryz.func82.trans (congrArg some (by kernel_rfl))⟩
 f14 := ⟨Tryz.f149.name, by decide, Tryz.func149.trans (congrArg some (by kernel_rfl))⟩
 f15 := Tryz.func150.trans (congrArg some (by kernel_rfl))
 f20 := ⟨Tryz.f199.name, by decide, Tryz.func199.trans (congrArg some (by kernel_rfl))⟩
 f21 := ⟨Tryz.f201.name, by decide, Tryz.func201.trans (congrArg some (by kernel_rfl))⟩
 f22 := ⟨Tryz.f202.name, by decide, Tryz.func202.trans (congrArg some (by kernel_rfl))⟩
 f23 := ⟨Tryz.f203.name, by decide, Tryz.func203.trans (congrArg some (by kernel_rfl))⟩
 f24 := ⟨Tryz.f204.name, by decide, Tryz.func204.trans (congrArg some (by kernel_rfl))⟩
 f25 := ⟨Tryz.f205.name, by decide, Tryz.func205.trans (congrArg some (by kernel_rfl))⟩
 f26 := ⟨Tryz.f206.name, by decide, Tryz.func206.trans (congrArg some (by kernel_rfl))⟩
 f27 := ⟨Tryz.f207.name, by decide, Tryz.func207.trans (congrArg some (by kernel_rfl))⟩
 f28 := Tryz.func208.trans (congrArg some (by kernel_rfl))
 f29 := Tryz.func209.trans (congrArg some (by kernel_rfl))
 f46 := ⟨Tryz.f264.name, by decide, Tryz.func264.trans (congrArg some (by kernel_rfl))⟩
 f47 := Tryz.func265.trans (congrArg some (by kernel_rfl))
 f48 := Tryz.func266.trans (congrArg some (by kernel_rfl))
 f49 := ⟨Tryz.f267.name, by decide, Tryz.func267.trans (congrArg some (by kernel_rfl))⟩
 f50 := ⟨Tryz.f268.name, by decide, Tryz.func268.trans (congrArg some (by kernel_rfl))⟩
 f57 := ⟨Tryz.f297.name, by decide, Tryz.func297.trans (congrArg some (by kernel_rfl))⟩
 t0 := Tryz.underlying0
 a0 := Tryz.isAgg0
 z0 := Tryz.sizeOf0
 v0 := Tryz.zeroValue0
 t3 := Tryz.underlying3
 a3 := Tryz.isAgg3
 z3 := Tryz.sizeOf3
 v3 := Tryz.zeroValue3
 t4 := Tryz.underlying4
 a4 := Tryz.isAgg4
 z4 := Tryz.sizeOf4
 v4 := Tryz.zeroValue4
 t5 := Tryz.underlying5
 a5 := Tryz.isAgg5
 z5 := Tryz.sizeOf5
 v5 := Tryz.zeroValue5
 t9 := Tryz.underlying9
 a9 := Tryz.isAgg9
 z9 := Tryz.sizeOf9
 v9 := Tryz.zeroValue9
 t22 := Tryz.underlying50
 a22 := Tryz.isAgg50
 z22 := Tryz.sizeOf50
 v22 := Tryz.zeroValue50
 t25 := Tryz.underlying156
 a25 := Tryz.isAgg156
 z25 := Tryz.sizeOf156
 v25 := Tryz.zeroValue156
 t39 := Tryz.underlying191
 a39 := Tryz.isAgg191
 z39 := Tryz.sizeOf191
 v39 := Tryz.zeroValue191
 t45 := Tryz.underlying260
 a45 := Tryz.isAgg260
 z45 := Tryz.sizeOf260
 v45 := Tryz.zeroValue260
 t46 := Tryz.underlying261
 a46 := Tryz.isAgg261
 z46 := Tryz.sizeOf261
 v46 := Tryz.zeroValue261
 t50 := Tryz.underlying229
 a50 := Tryz.isAgg229
 z50 := Tryz.sizeOf229
 v50 := Tryz.zeroValue229
 t53 := Tryz.underlying23
 a53 := Tryz.isAgg23
 z53 := Tryz.sizeOf23
 v53 := Tryz.zeroValue23
 t55 := Tryz.underlying43
 a55 := Tryz.isAgg43
 z55 := Tryz.sizeOf43
 v55 := Tryz.zeroValue43
 t66 := Tryz.underlying292
 a66 := Tryz.isAgg292
 z66 := Tryz.sizeOf292
 v66 := Tryz.zeroValue292
 t70 := Tryz.underlying296
 a70 := Tryz.isAgg296
 z70 := Tryz.sizeOf296
 v70 := Tryz.zeroValue296
 t76 := Tryz.underlying316
 a76 := Tryz.isAgg316
 z76 := Tryz.sizeOf316
 v76 := Tryz.zeroValue316
 t77 := Tryz.underlying317
 a77 := Tryz.isAgg317
 z77 := Tryz.sizeOf317
 v77 := Tryz.zeroValue317 }
end Go.Proofs
namespace Go.Proofs.YtiajjbhcpeadfaaGreat
open Go Go.HL Go.RowKit
theorem Cp (i : Ins) (w : World) (hI : InsOK i) :
  Cr Tryz.prog 148 #[.agg (aP.enc i).toArray] w (.int .u64 (vb i)) := by
 have hl := xO i
 have ha := i.addr.toNat_lt
 refine enter Tryz.func148 rfl Tryz.ntmps148 rfl ?_
 refine ah ?_
 refine dE rfl rfl (fun b1 => ?_)
 refine zz0 (ab rfl) (ad (al (gZ aT ?_)))
 refine ax (zz1 (off := 0) (ft := 23) rfl af rfl ae) ?_
 refine ax (aH rfl am) ?_
 refine ax (eQ rfl aV cH) (ax (bE rfl aQ au) ?_)
 refine ax (aC rfl ow (fun w hw => oa i w hI)) ?_
 refine ax (fb rfl ba cH (IntWalk.u64_in _ (by omega))) ?_
 refine ax (qe rfl rfl (by omega)) ?_
 refine ax (ab rfl) (bK ?_)
 refine ac (aD ?_)
 refine aS Tryz.results148 rfl (fun w' hw => ?_)
 exact ⟨rfl, hw.b0⟩
theorem yi (a b : Ins) (w : World) (hI : InsOK a) (hJ : InsOK b) :
  Cr Tryz.prog 81 #[.agg (aP.enc a).toArray, .agg (aP.enc b).toArray] w (.bool (jy a b)) := by
 refine enter Tryz.func81 rfl Tryz.ntmps81 rfl ?_
 refine ah ?_
 refine dE rfl rfl (fun b1 => ?_)
 refine dE rfl rfl (fun b2 => ?_)
 refine zz0 (ab rfl) (ad (al (gZ aT ?_)))
 refine ax (zz1 (off := 0) (ft := 23) rfl af rfl ae) ?_
 refine ax (aH rfl am) ?_
 refine ax (zz1 (off := 0) (ft := 23) rfl af rfl ae) ?_
 refine ax (aH rfl am) ?_
 refine ax (jc rfl rfl) ?_
 refine ax (aa rfl) ?_
 apply fH
 ·exact (rfl : _ = (4, 10, 14))
 ·exact rfl
 ·intro hT3; have hT3' := hT3
  try simp only [bs] at hT3'
  refine bZ hT3 (bE rfl aQ au) ?_
  refine bZ hT3 (aC rfl ow (fun w hw => oa a w hI)) ?_
  refine bZ hT3 (eU rfl rfl) (ax (aN rfl hT3 rfl) ?_)
  exact dl (Sub.cons rfl (zz7 4 rfl))
 ·intro hF3
  refine bY hF3 (bY hF3 (bY hF3 (ax (aK rfl hF3 rfl) ?_)))
  exact dl (Sub.cons rfl (zz7 4 rfl))
 refine ax (aa rfl) ?_
 apply fH
 ·exact (rfl : _ = (4, 15, 19))
 ·exact rfl
 ·intro hT4; have hT4' := hT4
  try simp only [bs] at hT4'
  refine bZ hT4 (bE rfl aQ au) ?_
  refine bZ hT4 (aC rfl ow (fun w hw => oa b w hJ)) ?_
  refine bZ hT4 (eU rfl rfl) (ax (aN rfl hT4 rfl) ?_)
  exact dl (Sub.cons rfl (zz7 4 rfl))
 ·intro hF4
  refine bY hF4 (bY hF4 (bY hF4 (ax (aK rfl hF4 rfl) ?_)))
  exact dl (Sub.cons rfl (zz7 4 rfl))
 refine ax (aa rfl) ?_
 apply fH
 ·exact (rfl : _ = (13, 20, 33))
 ·exact rfl
 ·intro hT5; have hT5' := hT5
  try simp only [bs] at hT5'
  refine bZ hT5 (zz1 (off := 0) (ft := 23) rfl af rfl ae) ?_
  refine bZ hT5 (aH rfl am) ?_
  refine bZ hT5 (zz1 (off := 0) (ft := 23) rfl af rfl ae) ?_
  refine bZ hT5 (aH rfl am) ?_
  refine bZ hT5 (pL rfl rfl) ?_
  refine bZ hT5 (eQ rfl aV cH) (bZ hT5 (bE rfl aQ au) ?_)
  refine bZ hT5 (aC rfl Tryz.call148 (fun w hw => Cp a w hI)) ?_
  refine bZ hT5 (bE rfl aQ au) ?_
  refine bZ hT5 (aC rfl Tryz.call148 (fun w hw => Cp b w hJ)) ?_
  refine bZ hT5 (rL rfl rfl) ?_
  refine bZ hT5 (bS rfl rfl) (ax (aN rfl hT5 rfl) ?_)
  exact dl (Sub.cons rfl (zz7 13 rfl))
 ·intro hF5
  refine bY hF5 (bY hF5 (bY hF5 (bY hF5 (bY hF5 (bY hF5 (bY hF5 (bY hF5 (bY hF5 (bY hF5 (bY hF5 (bY hF5 (ax (aK rfl hF5 rfl) ?_))))))))))))
  exact dl (Sub.cons rfl (zz7 13 rfl))
 refine ax (ab rfl) (bK ?_)
 refine ac (aD ?_)
 refine aS Tryz.results81 rfl (fun w' hw => ?_)
 exact ⟨rfl, hw.b0⟩
theorem oO (w : World) (g : FuncId) (cb : Array Value) :
  Cr Tryz.prog 199 #[.slice none 0 0, .int .i64 0, .int .i64 0, .func (.func g) #[] cb] w (.tuple #[]) := by
 refine enter Tryz.func199 rfl Tryz.ntmps199 rfl ?_
 refine ah (zz0 (aa rfl) (zz0 (cx rfl rfl) ?_))
 refine zz0 (ab rfl) (ad (aG ?_))
 refine bN (ι := Unit) (fun _u => True) (fun _ => _) (fun _u => []) (fun _u => [(8, .int .i64 1)]) (fun _u => 0) () trivial (Front.c Front.nil) (by repeat' constructor) rfl (fun _u hi m hm => ?_)
 replace hi : True := hi
 replace hm : m = 0 := hm
 change Tr _ _ [] ([(8, .int .i64 1)] ++ _) _
 refine al (ah (zz0 (aa rfl) (zz0 (aa rfl) (zz0 (bS rfl rfl) (ad ?_)))))
 refine ao rfl ?_ ?_ <;> intro h1 <;> try simp only [bs] at h1
 ·first | contradiction | (exfalso; omega) | simp_all
 refine bG (aJ (aJ (bj ?_)))
 refine fq Tryz.results199 (fun w' hw => ?_)
 exact ⟨rfl, hw.b0⟩
theorem tz (w : World) (g : FuncId) (cb : Array Value) :
  Cr Tryz.prog 149 #[.slice none 0 0, .int .i64 0, .int .i64 0, .int .i64 0, .func (.func g) #[] cb] w (.tuple #[]) := by
 refine enter Tryz.func149 rfl Tryz.ntmps149 rfl ?_
 refine ah (zz0 (ab rfl) (aL (zz0 (ab rfl) (ad (aG ?_)))))
 refine bN (ι := Unit) (fun _u => True) (fun _ => _) (fun _u => []) (fun _u => []) (fun _u => 0) () trivial Front.nil (by repeat' constructor) rfl (fun _u hi m hm => ?_)
 replace hi : True := hi
 replace hm : m = 0 := hm
 change Tr _ _ [] ([] ++ _) _
 refine aG (ah (zz0 (aa rfl) (zz0 (aa rfl) (zz0 (d6 rfl rfl) ?_))))
 refine zz0 (ab rfl) (ad (al (ah (zz0 (aa rfl) (zz0 (fE rfl rfl) (ad ?_))))))
 refine ao rfl ?_ ?_ <;> intro h1 <;> try simp only [bs] at h1
 ·refine ah (zz0 (aa rfl) (zz0 (aa rfl) (zz0 (aa rfl) (zz0 (aa rfl) (zz0 (aC rfl Tryz.call199 (fun w hw => oO w g cb)) ?_)))))
  refine ad (aD (aB (bv (aB (bv ?_)))))
  refine lD Tryz.results149 (fun w' hw => ?_)
  exact ⟨rfl, hw.b0⟩
 first | contradiction | (exfalso; omega) | simp_all
theorem nh (w : World) (g : FuncId) (cb : Array Value) :
  Cr Tryz.prog 82 #[.slice none 0 0, .func (.func g) #[] cb] w (.tuple #[]) := by
 refine enter Tryz.func82 rfl Tryz.ntmps82 rfl ?_
 refine ah (zz0 (aa rfl) (zz0 (nH rfl aM) ?_))
 refine zz0 (ab rfl) (ad (ar (zz0 (aa rfl) (zz0 (aa rfl) (zz0 (aa rfl) (zz0 (fb rfl ba dR (IntWalk.u64_in _ (by omega))) ?_))))))
 refine zz0 (aC rfl Tryz.call150 (fun w hw => (Go.Proofs.Any.bits_Len (Go.Proofs.SlLaysF0.n15.bits (P := Tryz.prog) (ρ := Tryz.sortIns_ren) { Tryz.sortIns with }) 0 w (by decide) (by decide)).mono (fun e w' h => ⟨h.1, by rw [h.2]; exact Ext.refl _⟩))) ?_
 refine zz0 (aa rfl) (zz0 (aC rfl Tryz.call149 (fun w hw => tz w g cb)) ?_)
 refine az ?_
 refine fq Tryz.results82 (fun w' hw => ?_)
 exact ⟨rfl, hw.b0⟩
theorem vQ (a b : Ins) (w : World) :
  Cr Tryz.prog 143 #[.agg (aP.enc a).toArray, .agg (aP.enc b).toArray] w (.int .i64 (lz a b)) := by
 refine enter Tryz.func143 rfl Tryz.ntmps143 rfl ?_
 refine ah ?_
 refine dE rfl rfl (fun b1 => ?_)
 refine dE rfl rfl (fun b2 => ?_)
 refine zz0 (ab rfl) (aL (zz0 (zz1 (off := 0) (ft := 23) rfl af rfl ae) ?_))
 refine zz0 (aH rfl am) ?_
 refine zz0 (zz1 (off := 0) (ft := 23) rfl af rfl ae) ?_
 refine zz0 (aH rfl am) ?_
 refine zz0 (aC rfl Tryz.call84 (fun w hw => Al a.addr b.addr w)) ?_
 refine zz0 (ab rfl) (ad (aD ?_))
 refine aS Tryz.results143 rfl (fun w' hw => ?_)
 exact ⟨rfl, hw.b0⟩
theorem xz (a b : Ins) (w : World) :
  Cr Tryz.prog 83 #[.agg (aP.enc a).toArray, .agg (aP.enc b).toArray] w (.int .i64 (lz a b)) := by
 refine enter Tryz.func83 rfl Tryz.ntmps83 rfl ?_
 refine ah ?_
 refine dE rfl rfl (fun b1 => ?_)
 refine dE rfl rfl (fun b2 => ?_)
 refine zz0 (ab rfl) (aL (zz0 (zz1 (off := 0) (ft := 23) rfl af rfl ae) ?_))
 refine zz0 (aH rfl am) ?_
 refine zz0 (zz1 (off := 0) (ft := 23) rfl af rfl ae) ?_
 refine zz0 (aH rfl am) ?_
 refine zz0 (aC rfl Tryz.call84 (fun w hw => Al a.addr b.addr w)) ?_
 refine zz0 (ab rfl) (ad (aD ?_))
 refine aS Tryz.results83 rfl (fun w' hw => ?_)
 exact ⟨rfl, hw.b0⟩
theorem yg (l : List Ins) (V : Value) (w : World) (hV : Sl (hp w) aP l V) (hI : ∀ x ∈ l, InsOK x) (h40 : l.length ≤ 700) :
  Calls Tryz.prog 73 #[V] w (fun e w' => ∃ V', e = .returned V' ∧ Ext w w' ∧ jA w w' 36 aP (fD l) V') := by
 have hV' : Sl (Bg.of w).blk aP l V := hV
 refine enter Tryz.func73 rfl Tryz.ntmps73 rfl ?_
 refine ah (zz0 (ab rfl) (aL ?_))
 refine gy cY rfl (fun b1 => ?_)
 refine zz0 (ab rfl) (aL (zz0 (ab rfl) (ad (al (ah (zz0 (aa rfl) (zz0 (fJ rfl aM) ?_)))))))
 refine zz0 (aa rfl) (ad (aG (cd 36 aP ?_)))
 refine bN (ι := Nat × Value) (fun ⟨k, V'⟩ => k ≤ l.length) (fun _ => _) (fun ⟨k, V'⟩ => [rowE V' 36 aP (sF (l.take k)), mapE b1 cY (yk (sF (l.take k)))]) (fun ⟨k, V'⟩ => [(10, .int .i64 (k : Nat)), (4, V')]) (fun ⟨k, V'⟩ => l.length - k) (0, _) (Nat.zero_le _) (Front.c (Front.c Front.nil)) (by repeat' constructor) rfl (fun i hi m hm => ?_)
 obtain ⟨k, V'⟩ := i
 replace hi : k ≤ l.length := hi
 replace hm : m = l.length - k := hm
 change Tr _ _ [rowE V' 36 aP (sF (l.take k)), mapE b1 cY (yk (sF (l.take k)))] ([(10, .int .i64 (k : Nat)), (4, V')] ++ _) _
 have hcl := Ak (l.take k)
 rw [List.length_take] at hcl
 have hIk : k < l.length → InsOK (l.getD k default) := fun q => hI _ (cS q)
 refine ah (zz0 (bS rfl rfl) (ad (al ?_)))
 refine ao rfl ?_ ?_ <;> intro h2 <;> try simp only [bs] at h2
 ·refine bB (al (aG (ah (zz0 (gB rfl rfl aM au) ?_))))
  refine zz0 (m8 rfl aQ au) ?_
  refine dA bP rfl (fun b3 => ?_)
  refine aF aP rfl rfl au ?_
  refine aL (zz0 (aa rfl) (zz0 (zz1 (off := 0) (ft := 23) rfl af rfl ae) ?_))
  refine zz0 (aH rfl am) ?_
  refine zz0 (AC rfl rfl (by repeat constructor) ed aV mN) ?_
  rw [FM]
  refine zz0 (cj rfl) (zz0 (aa rfl) ?_)
  apply bV
  ·exact (rfl : _ = (3, 19, 22))
  ·exact rfl
  ·intro hT4; have hT4' := hT4
   try simp only [bs] at hT4'
   refine zz5 hT4 (bE rfl aQ au) ?_
   refine zz5 hT4 (aC rfl kt (fun w hw => kl (l.getD k default) w (hIk (by omega)))) ?_
   refine zz0 (aN rfl hT4 rfl) ?_
   refine az (ac ?_)
   exact aA (Sub.cons rfl (zz7 3 rfl))
  ·intro hF4
   refine zz6 hF4 (zz6 hF4 (zz0 (aK rfl hF4 rfl) ?_))
   refine az (ac ?_)
   exact aA (Sub.cons rfl (zz7 3 rfl))
  refine ad ?_
  refine ao rfl ?_ ?_ <;> intro h5 <;> try simp only [bs] at h5
  ·refine ah (zz0 (aa rfl) (zz0 (bE rfl aQ au) ?_))
   refine jB (E := aP) _ rfl rfl aM au bP (fun V6 => ?_)
   refine zz2 rfl rfl aM ky (fun V7 => ?_)
   refine zz0 (ab rfl) (ad (ar (zz0 (aa rfl) (zz0 (zz1 (off := 0) (ft := 23) rfl af rfl ae) ?_))))
   refine zz0 (aH rfl am) ?_
   refine ga _ rfl rfl rfl (by repeat constructor) ed aV rfl ?_
   refine az (aX (ac (ar (zz0 (cx rfl rfl) ?_))))
   refine zz0 (aa rfl) (ad ?_)
   have hst := Ah (l := l) (k := k) (by omega)
   rw [g5, if_pos (by simp only [Bool.and_eq_true, Bool.not_eq_true', decide_eq_true_eq]; assumption)] at hst
   rw [FK (by simp_all), ← hst]
   refine cC (k + 1, _) (Front.c (Front.c Front.nil)) (bA 23 rfl) (o := (by show k + 1 ≤ _; omega))
  refine bW (aX (ac (ar (zz0 (cx rfl rfl) ?_))))
  refine zz0 (aa rfl) (ad ?_)
  have hst := Ah (l := l) (k := k) (by omega)
  rw [g5, if_neg (by rw [Bool.and_eq_true, Bool.not_eq_true', decide_eq_true_eq]; rintro ⟨q1, q2⟩; rcases h5 with q | q; (· rw [q1] at q; cases q); (· exact q q2))] at hst
  rw [← hst]
  refine cC (k + 1, _) (Front.c (Front.c Front.nil)) (bA 15 rfl) (o := (by show k + 1 ≤ _; omega))
 refine bG (aJ (aJ (bj (ac (al ?_)))))
 obtain rfl : k = l.length := by omega
 rw [List.take_length] at *
 refine ar (zz0 (aa rfl) (dY rfl Tryz.call82 (by repeat constructor) (fun w hw => qV Tryz.sortIns aP 36 aQ au lz kN 143 [] _ _ w Tryz.call143 (hw.ent _ (.head _)) (by omega) (fun x y w' _ => vQ x y w') (nh w 143 #[])) rfl ?_))
 refine aL (zz0 (aa rfl) (zz0 (ab rfl) (ad (aD ?_))))
 refine aS Tryz.results73 rfl (fun w' hw => ?_)
 exact ⟨_, rfl, hw.b0, hw.new (.head _)⟩
theorem yS (l : List Ins) (V : Value) (w : World) (hV : Sl (hp w) aP l V) (hI : ∀ x ∈ l, InsOK x) (h40 : l.length ≤ 700) :
  Calls Tryz.prog 74 #[V] w (fun e w' => ∃ b, e = .returned (.map (some b)) ∧ Ext w w' ∧ NewEnts w w' [mapE b cY (qQ l)]) := by
 have hV' : Sl (Bg.of w).blk aP l V := hV
 refine enter Tryz.func74 rfl Tryz.ntmps74 rfl ?_
 refine ah (zz0 (ab rfl) (aL ?_))
 refine gy cY rfl (fun b1 => ?_)
 refine zz0 (ab rfl) (ad (al (ah (zz0 (aa rfl) (zz0 (fJ rfl aM) ?_)))))
 refine zz0 (aa rfl) (ad (aG ?_))
 refine bN (ι := Nat) (fun k => k ≤ l.length) (fun _ => _) (fun k => [mapE b1 cY (qQ (l.take k))]) (fun k => [(11, .int .i64 (k : Nat))]) (fun k => l.length - k) 0 (Nat.zero_le _) (Front.c Front.nil) (by repeat' constructor) rfl (fun k hi m hm => ?_)
 replace hi : k ≤ l.length := hi
 replace hm : m = l.length - k := hm
 change Tr _ _ [mapE b1 cY (qQ (l.take k))] ([(11, .int .i64 (k : Nat))] ++ _) _
 refine ah (zz0 (bS rfl rfl) (ad (al ?_)))
 refine ao rfl ?_ ?_ <;> intro h2 <;> try simp only [bs] at h2
 ·refine bB (al (aG (ah (zz0 (gB rfl rfl aM au) ?_))))
  refine zz0 (m8 rfl aQ au) ?_
  refine dA bP rfl (fun b3 => ?_)
  refine aF aP rfl rfl au ?_
  refine aL (zz0 (bE rfl aQ au) ?_)
  refine zz0 (aC rfl Tryz.call144 (fun w hw => qo (l.getD k default) w)) ?_
  refine zz0 (aa rfl) (zz0 (aR rfl rfl) (zz0 (aR rfl rfl) (zz0 (ab rfl) (zz0 (ab rfl) (aL (zz0 (aa rfl) (ad ?_)))))))
  refine ao rfl ?_ ?_ <;> intro h4 <;> try simp only [bs] at h4
  ·refine ar (zz0 (aa rfl) (zz0 (aa rfl) (ga _ rfl rfl rfl (by repeat constructor) ed aV rfl ?_)))
   refine az (aX (ac (ar (zz0 (cx rfl rfl) ?_))))
   refine zz0 (aa rfl) (ad ?_)
   have hst := yQ (l := l) (k := k) (by omega)
   rw [tN, if_pos (by assumption)] at hst
   rw [← hst]
   refine cC (k + 1) (Front.c Front.nil) (bA 17 rfl) (o := (by show k + 1 ≤ _; omega))
  refine bW (aX (ac (ar (zz0 (cx rfl rfl) ?_))))
  refine zz0 (aa rfl) (ad ?_)
  have hst := yQ (l := l) (k := k) (by omega)
  rw [tN, if_neg (by simp_all)] at hst
  rw [← hst]
  refine cC (k + 1) (Front.c Front.nil) (bA 15 rfl) (o := (by show k + 1 ≤ _; omega))
 refine bG (aJ (aJ (bj (ac (ah (zz0 (aa rfl) (zz0 (ab rfl) (ad (aD ?_)))))))))
 refine aS Tryz.results74 rfl (fun w' hw => ?_)
 obtain rfl : k = l.length := by omega
 rw [List.take_length] at hw
 exact ⟨_, rfl, hw.b0, hw.ents (w := w) (Bg.le.refl _) (by repeat' constructor)⟩
theorem q8 (i : Ins) (ents : List UInt32) (tm : List (UInt32 × Bool)) (Vi Ve Vu Vb : Value) (bc bm bmap : Nat) (w : World) (hc : CellsIn (hp w) bc [Vi, Ve, Vu, Vb]) (hm : CellsIn (hp w) bm [.map (some bmap)]) (hM : MapIn (hp w) bmap cY tm) (hE : Sl (hp w) an ents Ve) :
  Cr Tryz.prog 75 #[.agg (aP.enc i).toArray, .pointer (some ⟨bc, 0, none⟩), .pointer (some ⟨bm, 0, none⟩)] w (.int .i64 (fW ents tm i)) := by
 have hc' : CellsIn (Bg.of w).blk bc [Vi, Ve, Vu, Vb] := hc
 have hm' : CellsIn (Bg.of w).blk bm [.map (some bmap)] := hm
 have hM' : MapIn (Bg.of w).blk bmap cY tm := hM
 have hE' : Sl (Bg.of w).blk an ents Ve := hE
 refine enter Tryz.func75 rfl Tryz.ntmps75 rfl ?_
 refine ah ?_
 refine dE rfl rfl (fun b1 => ?_)
 refine zz0 (ab rfl) (ad (al (aG (ah (zz0 (zz1 (off := 1) (ft := 31) rfl bI rfl cn) ?_)))))
 refine zz0 (lK rfl dq) ?_
 refine zz0 (zz1 (off := 0) (ft := 23) rfl af rfl ae) ?_
 refine zz0 (aH rfl am) ?_
 refine zz0 (aC rfl Tryz.call76 (fun w hw => yh ents Ve i.addr w (hw.slF hE'))) ?_
 refine zz0 (ab rfl) (ad ?_)
 refine ao rfl ?_ ?_ <;> intro h2 <;> try simp only [bs] at h2
 ·refine ah (zz0 (ab rfl) (ad (aD (bv (aB ?_)))))
  refine aS Tryz.results75 rfl (fun w' hw => ?_)
  exact ⟨by rw [fW, if_pos (by assumption)], hw.b0⟩
 refine ah (zz0 (lK rfl fU) ?_)
 refine zz0 (zz1 (off := 0) (ft := 23) rfl af rfl ae) ?_
 refine zz0 (aH rfl am) ?_
 refine zz0 (DX rfl rfl (by assumption) ed aV mN) ?_
 refine zz0 (ab rfl) (ad ?_)
 refine ao rfl ?_ ?_ <;> intro h3 <;> try simp only [bs] at h3
 ·refine ah (zz0 (ab rfl) (ad (aD (bv (aB ?_)))))
  refine aS Tryz.results75 rfl (fun w' hw => ?_)
  exact ⟨by rw [fW, if_neg (by simp_all), if_pos (by assumption)], hw.b0⟩
 refine bW (aX (ac (ah (zz0 (ab rfl) (ad (aD ?_))))))
 refine aS Tryz.results75 rfl (fun w' hw => ?_)
 exact ⟨by rw [fW, if_neg (by simp_all), if_neg (by simp_all)], hw.b0⟩
theorem xA (i j : Ins) (ents : List UInt32) (tm : List (UInt32 × Bool)) (Vi Ve Vu Vb : Value) (bc bm bmap : Nat) (bg : Nat) (w : World) (hc : CellsIn (hp w) bc [Vi, Ve, Vu, Vb]) (hm : CellsIn (hp w) bm [.map (some bmap)]) (hM : MapIn (hp w) bmap cY tm) (hE : Sl (hp w) an ents Ve) (hg : CellsIn (hp w) bg [.func (.func 75) #[] #[.pointer (some ⟨bc, 0, none⟩), .pointer (some ⟨bm, 0, none⟩)]]) :
  Cr Tryz.prog 79 #[.agg (aP.enc i).toArray, .agg (aP.enc j).toArray, .pointer (some ⟨bg, 0, none⟩)] w (.int .i64 (Hk ents tm i j)) := by
 have hc' : CellsIn (Bg.of w).blk bc [Vi, Ve, Vu, Vb] := hc
 have hm' : CellsIn (Bg.of w).blk bm [.map (some bmap)] := hm
 have hM' : MapIn (Bg.of w).blk bmap cY tm := hM
 have hE' : Sl (Bg.of w).blk an ents Ve := hE
 have hg' : CellsIn (Bg.of w).blk bg [.func (.func 75) #[] #[.pointer (some ⟨bc, 0, none⟩), .pointer (some ⟨bm, 0, none⟩)]] := hg
 refine enter Tryz.func79 rfl Tryz.ntmps79 rfl ?_
 refine ah ?_
 refine dE rfl rfl (fun b1 => ?_)
 refine dE rfl rfl (fun b2 => ?_)
 refine zz0 (ab rfl) (ad (al (gZ aT ?_)))
 refine ax (lK rfl Tryz.isAgg153) ?_
 refine ax (bE rfl aQ au) ?_
 refine ax (ig rfl rfl Tryz.call75 (fun w hw => q8 i ents tm Vi Ve Vu Vb bc bm bmap w (hc'.mono hw.bg) (hm'.mono hw.bg) (hM'.mono hw.bg) (hw.slF hE'))) ?_
 refine ax (lK rfl Tryz.isAgg153) ?_
 refine ax (bE rfl aQ au) ?_
 refine ax (ig rfl rfl Tryz.call75 (fun w hw => q8 j ents tm Vi Ve Vu Vb bc bm bmap w (hc'.mono hw.bg) (hm'.mono hw.bg) (hM'.mono hw.bg) (hw.slF hE'))) ?_
 refine ax (aC rfl Tryz.call80 (fun w hw => FN (fW ents tm i) (fW ents tm j) w)) ?_
 refine ax (ab rfl) (bK ?_)
 refine ac (aD ?_)
 refine aS Tryz.results79 rfl (fun w' hw => ?_)
 exact ⟨rfl, hw.b0⟩
theorem vD (i : Ins) (a : UInt32) (b : Nat) (w : World) (hc : Cell (hp w) b 0 (.int .u32 a.toNat)) :
  Cr Tryz.prog 87 #[.agg (aP.enc i).toArray, .pointer (some ⟨b, 0, none⟩)] w (.bool (decide (i.addr = a))) := by
 have hc' : Cell (Bg.of w).blk b 0 (.int .u32 a.toNat) := hc
 refine enter Tryz.func87 rfl Tryz.ntmps87 rfl ?_
 refine ah ?_
 refine dE rfl rfl (fun b1 => ?_)
 refine zz0 (ab rfl) (aL (zz0 (zz1 (off := 0) (ft := 23) rfl af rfl ae) ?_))
 refine zz0 (aH rfl am) ?_
 refine zz0 (nE rfl (by assumption) am) ?_
 refine zz0 (eC rfl rfl) ?_
 refine zz0 (ab rfl) (ad (aD ?_))
 refine aS Tryz.results87 rfl (fun w' hw => ?_)
 exact ⟨rfl, hw.b0⟩
theorem nV (a : UInt32) (l : List Ins) (V : Value) (b : Nat) (w : World) (hc : CellsIn (hp w) b [V]) (hV : Sl (hp w) aP l V) :
  Cr Tryz.prog 85 #[.int .u32 a.toNat, .pointer (some ⟨b, 0, none⟩)] w (.bool (inK l a)) := by
 have hc' : CellsIn (Bg.of w).blk b [V] := hc
 have hV' : Sl (Bg.of w).blk aP l V := hV
 refine enter Tryz.func85 rfl Tryz.ntmps85 rfl ?_
 refine ah ?_
 refine dE rfl rfl (fun b1 => ?_)
 refine zz0 (ab rfl) (aL (zz0 (lK rfl cP) ?_))
 refine zz0 (fu rfl rfl) ?_
 refine zz0 (aC rfl Tryz.call86 (fun w hw => nw l V _ _ w (hw.slF hV') Tryz.call87 (fun i => decide (i.addr = a)) (fun x hx w'' h => vD x a _ w'' (cellE.cell (hw.ent _ (by repeat constructor)) h rfl)))) ?_
 refine zz0 (ab rfl) (ad (aD ?_))
 refine aS Tryz.results85 rfl (fun w' hw => ?_)
 exact ⟨rfl, hw.b0⟩
end Go.Proofs.YtiajjbhcpeadfaaGreat
namespace Go.Proofs.YtiajjbhcpeadfaaGreat
open Go Go.HL Go.RowKit
theorem E0 (ents : List UInt32) (tm : List (UInt32 × Bool)) : dJ (Hk ents tm) = ltG (fW ents tm) := by
 funext x y
 unfold dJ Hk ltG
 congr 1
 exact propext (Hj _ _)
theorem sU (ins : List Ins) (ents unk bad : List UInt32) (Vi Ve Vu Vb : Value) (w : World) (hV : Sl (hp w) aP ins Vi) (hE : Sl (hp w) an ents Ve) (hU : Sl (hp w) an unk Vu) (hB : Sl (hp w) an bad Vb) (hI : ∀ x ∈ ins, InsOK x) (hn1 : ins.length ≤ 700) (hn2 : ents.length ≤ 700) (hn3 : unk.length ≤ 700) (hn4 : bad.length ≤ 100000) :
  Calls Tryz.prog 29 #[.agg #[Vi, Ve, Vu, Vb]] w (fun e w' => ∃ i : Value × Value × Value × Value × Value, e = .returned (.tuple #[.agg #[i.1, i.2.1, i.2.2.1, i.2.2.2.1], i.2.2.2.2]) ∧ Ext w w' ∧ NewEnts w w' [rowE i.1 36 aP (fV ins ents unk bad).kept, rowE i.2.1 23 an (fV ins ents unk bad).ents, rowE i.2.2.1 23 an (fV ins ents unk bad).unk, rowE i.2.2.2.1 23 an (fV ins ents unk bad).bad, rowE i.2.2.2.2 23 an (fV ins ents unk bad).rem]) := by
 have hV' : Sl (Bg.of w).blk aP ins Vi := hV
 have hE' : Sl (Bg.of w).blk an ents Ve := hE
 have hU' : Sl (Bg.of w).blk an unk Vu := hU
 have hB' : Sl (Bg.of w).blk an bad Vb := hB
 obtain ⟨lc, hlc⟩ : ∃ lc, lc = fD ins := ⟨_, rfl⟩
 obtain ⟨tm, htm⟩ : ∃ tm, tm = qQ lc := ⟨_, rfl⟩
 have hcl := vd ins
 rw [← hlc] at hcl
 have hcI : ∀ x ∈ lc, InsOK x := fun x hx => hI _ (vc (hlc ▸ hx))
 obtain ⟨w0, hw0⟩ : ∃ w0, w0 = w := ⟨_, rfl⟩
 subst hw0
 refine enter Tryz.func29 rfl Tryz.ntmps29 rfl ?_
 refine ah ?_
 refine dE rfl rfl (fun b1 => ?_)
 refine dA dW rfl (fun b2 => ?_)
 refine zz0 (ab rfl) (ad (rF (ah (zz0 (zz1 (off := 0) (ft := 50) rfl bI rfl cD) ?_))))
 refine zz0 (aH rfl cP) ?_
 refine gY rfl Tryz.call73 (fun w hw => (by rw [hlc]; exact yg ins Vi w (hw.slF hV') hI hn1 : Calls Tryz.prog 73 #[Vi] w (fun e w' => ∃ V', e = .returned V' ∧ Ext w w' ∧ jA w w' 36 aP (lc) V'))) rfl (fun V3 => ?_)
 refine zz0 (ab rfl) (ad (al ?_))
 skip
 refine ar (zz0 (aa rfl) ?_)
 refine jb (fun b : Nat => .map (some b)) (fun b => [mapE b cY tm]) (ok := fun _ => True) rfl Tryz.call74 (fun w hw => (yS lc _ w (hw.row (by repeat constructor)) hcI (by omega)).mono fun e w' ⟨b, q1, q2, q3⟩ => ⟨b, q1, q2, by rw [htm]; exact q3, trivial⟩) rfl (fun bmap _ => ?_)
 refine dA Tryz.zeroValue141 rfl (fun b4 => ?_)
 refine jq rfl rfl fQ (by repeat constructor) (by rfl) (by rfl) (by first | exact List.all_eq_true.1 rfl | exact Enc.one _ _) rfl ?_
 refine aL (zz0 (fu rfl rfl) ?_)
 refine dA Tryz.zeroValue153 rfl (fun b5 => ?_)
 refine jq rfl rfl Tryz.sizeOf153 (by repeat constructor) (by rfl) (by rfl) (by first | exact List.all_eq_true.1 rfl | exact Enc.one _ _) rfl ?_
 refine aL (zz0 (aa rfl) ?_)
 refine gY rfl Tryz.call77 (fun w hw => wR lc _ w (hw.row (by repeat constructor)) (by omega)) rfl (fun V6 => ?_)
 refine zz0 (ab rfl) (aL (zz0 (aa rfl) (zz0 (fu rfl rfl) ?_)))
 refine gR (fun c => c = dZ (fW ents tm) lc) rfl Tryz.call78 (fun w hw => (oZ lc _ 79 [.pointer (some ⟨b5, 0, none⟩)] (Hk ents tm) (fun w' => ∃ l', HpOK (Bg.of w0) (rowE V6 36 aP l' :: [cellE b5 [.func (.func 75) #[] #[.pointer (some ⟨b1, 0, none⟩), .pointer (some ⟨b4, 0, none⟩)]] 153, cellE b4 [.map (some bmap)] 141, mapE bmap cY tm, rowE V3 36 aP lc, cellE b2 [.slice none 0 0, .slice none 0 0, .slice none 0 0, .slice none 0 0] 52, cellE b1 [Vi, Ve, Vu, Vb] 52]) w') (fun w w' l' ⟨l0, h⟩ m r => ⟨l', HpOK.mut h (.here _) m r⟩) Tryz.call79 (fun x y w' ⟨l0, h⟩ => xA x y ents tm Vi Ve Vu Vb b1 b4 bmap b5 w' (cellE.cellsIn (h.ent _ (by repeat constructor)) (Ext.refl _)) (cellE.cellsIn (h.ent _ (by repeat constructor)) (Ext.refl _)) (mapE.in_ (h.ent _ (by repeat constructor))) (h.slF hE') (cellE.cellsIn (h.ent _ (by repeat constructor)) (Ext.refl _))) (by rw [E0]; exact D8 _) w ⟨lc, hw⟩ (hw.ent _ (.head _)) (by omega)).mono fun e w' ⟨q1, c, ⟨q2, q3, q4⟩, q5, q6⟩ => ⟨q1, c, by rw [E0] at q2 q4; exact Ia (lH ents tm) q2 (Srt.all (by rw [q2.len]; exact q4)), q5, q6⟩) rfl (fun c2 hc2 => ?_)
 refine ad (al ?_)
 subst hc2
 refine ar ?_
 refine dA Tryz.zeroValue50 rfl (fun b7 => ?_)
 refine ad (al (rH ?_))
 refine ac (al (ah (zz0 (aa rfl) (zz0 (mg rfl aM) ?_))))
 refine zz0 (aa rfl) (ad (aG (cd 36 aP ?_)))
 refine bN (ι := Nat × Value) (fun ⟨k, Vk⟩ => k ≤ (dZ (fW ents tm) lc).length) (fun _ => _) (fun ⟨k, Vk⟩ => [cellE b7 [Vk] 50, rowE Vk 36 aP (lj ((dZ (fW ents tm) lc).take k)), rowE V6 36 aP (dZ (fW ents tm) lc), cellE b5 [.func (.func 75) #[] #[.pointer (some ⟨b1, 0, none⟩), .pointer (some ⟨b4, 0, none⟩)]] 153, cellE b4 [.map (some bmap)] 141, mapE bmap cY tm, rowE V3 36 aP lc, cellE b2 [.slice none 0 0, .slice none 0 0, .slice none 0 0, .slice none 0 0] 52, cellE b1 [Vi, Ve, Vu, Vb] 52]) (fun ⟨k, Vk⟩ => [(35, .int .i64 (k : Nat))]) (fun ⟨k, Vk⟩ => (dZ (fW ents tm) lc).length - k) (0, _) (Nat.zero_le _) (Front.c Front.nil) (by repeat' constructor) rfl (fun i hi m hm => ?_)
 obtain ⟨k, Vk⟩ := i
 replace hi : k ≤ (dZ (fW ents tm) lc).length := hi
 replace hm : m = (dZ (fW ents tm) lc).length - k := hm
 change Tr _ _ [cellE b7 [Vk] 50, rowE Vk 36 aP (lj ((dZ (fW ents tm) lc).take k)), rowE V6 36 aP (dZ (fW ents tm) lc), cellE b5 [.func (.func 75) #[] #[.pointer (some ⟨b1, 0, none⟩), .pointer (some ⟨b4, 0, none⟩)]] 153, cellE b4 [.map (some bmap)] 141, mapE bmap cY tm, rowE V3 36 aP lc, cellE b2 [.slice none 0 0, .slice none 0 0, .slice none 0 0, .slice none 0 0] 52, cellE b1 [Vi, Ve, Vu, Vb] 52] ([(35, .int .i64 (k : Nat))] ++ _) _
 have hol := xI (lH ents tm) lc
 have hkl := sj ((dZ (fW ents tm) lc).take k)
 rw [List.length_take] at hkl
 have hoI : ∀ x ∈ dZ (fW ents tm) lc, InsOK x := fun x hx => hcI x (Ca hx)
 obtain ⟨kq, hkq⟩ : ∃ kq, kq = lj ((dZ (fW ents tm) lc).take k) := ⟨_, rfl⟩
 have hqI : ∀ x ∈ kq, InsOK x := fun x hx => by
  rw [hkq] at hx
  exact hoI x (List.mem_of_mem_take (zw hx))
 rw [← hkq] at hkl ⊢
 refine ah (zz0 (bS rfl rfl) (ad (al ?_)))
 refine ao rfl ?_ ?_ <;> intro h8 <;> try simp only [bs] at h8
 ·refine bB (al (aG (ah (zz0 (dm rfl rfl aM au) ?_))))
  refine zz0 (mF rfl aQ au) ?_
  refine dA bP rfl (fun b9 => ?_)
  refine aF aP rfl rfl au ?_
  refine ad (al (ah (zz0 (aH rfl cP) ?_)))
  refine zz0 (mg rfl aM) ?_
  refine zz0 (aa rfl) (ad (aG ?_))
  refine bN (ι := Nat) (fun j => j ≤ kq.length ∧ (kq.take j).any (jy ((dZ (fW ents tm) lc).getD k default)) = false) (fun _ => _) (fun j => [cellE b9 (aP.enc ((dZ (fW ents tm) lc).getD k default)) 36, cellE b7 [Vk] 50, rowE Vk 36 aP kq, rowE V6 36 aP (dZ (fW ents tm) lc), cellE b5 [.func (.func 75) #[] #[.pointer (some ⟨b1, 0, none⟩), .pointer (some ⟨b4, 0, none⟩)]] 153, cellE b4 [.map (some bmap)] 141, mapE bmap cY tm, rowE V3 36 aP lc, cellE b2 [.slice none 0 0, .slice none 0 0, .slice none 0 0, .slice none 0 0] 52, cellE b1 [Vi, Ve, Vu, Vb] 52]) (fun j => [(41, .int .i64 (j : Nat))]) (fun j => kq.length - j) 0 ⟨Nat.zero_le _, rfl⟩ (Front.c Front.nil) (by repeat' constructor) rfl (fun j hi m hm => ?_)
  replace hi : j ≤ kq.length ∧ (kq.take j).any (jy ((dZ (fW ents tm) lc).getD k default)) = false := hi
  replace hm : m = kq.length - j := hm
  change Tr _ _ [cellE b9 (aP.enc ((dZ (fW ents tm) lc).getD k default)) 36, cellE b7 [Vk] 50, rowE Vk 36 aP kq, rowE V6 36 aP (dZ (fW ents tm) lc), cellE b5 [.func (.func 75) #[] #[.pointer (some ⟨b1, 0, none⟩), .pointer (some ⟨b4, 0, none⟩)]] 153, cellE b4 [.map (some bmap)] 141, mapE bmap cY tm, rowE V3 36 aP lc, cellE b2 [.slice none 0 0, .slice none 0 0, .slice none 0 0, .slice none 0 0] 52, cellE b1 [Vi, Ve, Vu, Vb] 52] ([(41, .int .i64 (j : Nat))] ++ _) _
  obtain ⟨hj1, hj2⟩ := hi
  refine ah (zz0 (bS rfl rfl) (ad (al ?_)))
  refine ao rfl ?_ ?_ <;> intro h10 <;> try simp only [bs] at h10
  ·refine bB (al (aG (ah (zz0 (dm rfl rfl aM au) ?_))))
   refine zz0 (mF rfl aQ au) ?_
   refine dA bP rfl (fun b11 => ?_)
   refine aF aP rfl rfl au ?_
   refine aL (zz0 (bE rfl aQ au) ?_)
   refine zz0 (bE rfl aQ au) ?_
   refine zz0 (aC rfl Tryz.call81 (fun w hw => yi ((dZ (fW ents tm) lc).getD k default) (kq.getD j default) w (hoI _ (cS (by omega))) (hqI _ (cS (by omega))))) ?_
   refine ad ?_
   refine ao rfl ?_ ?_ <;> intro h12 <;> try simp only [bs] at h12
   ·refine bG (js rfl ?_)
    refine aJ (aJ (js rfl ?_))
    refine aJ (bj (ac ?_))
    skip
    refine ar (zz0 (cx rfl rfl) ?_)
    refine zz0 (aa rfl) (ad ?_)
    have hst := wA (l := dZ (fW ents tm) lc) (k := k) (by omega)
    rw [← hkq, gw, if_pos (List.any_eq_true.2 ⟨_, cS (k := j) (by omega), by assumption⟩)] at hst
    rw [← hst]
    refine cC (k + 1, _) (Front.c Front.nil) (bA 18 rfl) (o := (by show k + 1 ≤ _; omega))
   refine bW (aX (ac (ar (zz0 (cx rfl rfl) ?_))))
   refine zz0 (aa rfl) (ad ?_)
   refine cC (j + 1) (Front.c Front.nil) (bA 10 rfl) (o := ⟨by omega, by rw [any_take_succ (by omega), hj2, Bool.false_or]; assumption⟩)
  refine bG (aJ (aJ (bj (ac (ar (zz0 (aH rfl cP) ?_))))))
  refine zz0 (bE rfl aQ au) ?_
  refine jB (E := aP) _ rfl rfl aM au bP (fun V13 => ?_)
  refine zz2 rfl rfl aM ky (fun V14 => ?_)
  refine dz (.head _) (fun pz qz hpv => ?_)
  subst hpv
  refine jq rfl rfl cD (by repeat constructor) (by rfl) (by rfl) (by first | exact List.all_eq_true.1 rfl | exact Enc.one _ _) rfl ?_
  refine az (aX (ac ?_))
  skip
  refine ar (zz0 (cx rfl rfl) ?_)
  refine zz0 (aa rfl) (ad ?_)
  obtain rfl : j = kq.length := by omega
  rw [List.take_length] at hj2
  have hst := wA (l := dZ (fW ents tm) lc) (k := k) (by omega)
  rw [← hkq, gw, if_neg (by rw [hj2]; simp)] at hst
  rw [← hst]
  refine cC (k + 1, _) (Front.c Front.nil) (bA 16 rfl) (o := (by show k + 1 ≤ _; omega))
 refine bG (aJ (aJ (bj (ac (al ?_)))))
 obtain rfl : k = (dZ (fW ents tm) lc).length := by omega
 rw [List.take_length] at *
 subst hkq
 have hkl := sj (dZ (fW ents tm) lc)
 have hol := xI (lH ents tm) lc
 refine ar (zz0 (aH rfl cP) ?_)
 refine dY rfl Tryz.call82 (by repeat constructor) (fun w hw => qV Tryz.sortIns aP 36 aQ au lz kN 83 [] (lj (dZ (fW ents tm) lc)) _ w Tryz.call83 (hw.ent _ (by repeat constructor)) (by omega) (fun x y w' _ => xz x y w') (nh w 83 #[])) rfl ?_
 refine ad (al ?_)
 obtain ⟨kp, hkp⟩ : ∃ kp, kp = mi (Go.Proofs.ltOf lz) (lj (dZ (fW ents tm) lc)) := ⟨_, rfl⟩
 rw [← hkp]
 refine ar (zz0 (fu rfl rfl) ?_)
 refine zz0 (ab rfl) (aL (zz0 (ab rfl) (ad (al (ah (zz0 (aa rfl) (zz0 (mg rfl aM) ?_)))))))
 refine zz0 (aa rfl) (ad (aG (cd 23 an ?_)))
 refine bN (ι := Nat × Value) (fun ⟨k, Vr⟩ => k ≤ lc.length) (fun _ => _) (fun ⟨k, Vr⟩ => [rowE Vr 23 an (nl (lc.take k) kp), cellE b7 [Vk] 50, rowE Vk 36 aP kp, rowE V6 36 aP (dZ (fW ents tm) lc), cellE b5 [.func (.func 75) #[] #[.pointer (some ⟨b1, 0, none⟩), .pointer (some ⟨b4, 0, none⟩)]] 153, cellE b4 [.map (some bmap)] 141, mapE bmap cY tm, rowE V3 36 aP lc, cellE b2 [.slice none 0 0, .slice none 0 0, .slice none 0 0, .slice none 0 0] 52, cellE b1 [Vi, Ve, Vu, Vb] 52]) (fun ⟨k, Vr⟩ => [(59, .int .i64 (k : Nat)), (14, Vr)]) (fun ⟨k, Vr⟩ => lc.length - k) (0, _) (Nat.zero_le _) (Front.c (Front.c Front.nil)) (by repeat' constructor) rfl (fun i hi m hm => ?_)
 obtain ⟨k, Vr⟩ := i
 replace hi : k ≤ lc.length := hi
 replace hm : m = lc.length - k := hm
 change Tr _ _ [rowE Vr 23 an (nl (lc.take k) kp), cellE b7 [Vk] 50, rowE Vk 36 aP kp, rowE V6 36 aP (dZ (fW ents tm) lc), cellE b5 [.func (.func 75) #[] #[.pointer (some ⟨b1, 0, none⟩), .pointer (some ⟨b4, 0, none⟩)]] 153, cellE b4 [.map (some bmap)] 141, mapE bmap cY tm, rowE V3 36 aP lc, cellE b2 [.slice none 0 0, .slice none 0 0, .slice none 0 0, .slice none 0 0] 52, cellE b1 [Vi, Ve, Vu, Vb] 52] ([(59, .int .i64 (k : Nat)), (14, Vr)] ++ _) _
 have hrl := GM (lc.take k) kp
 rw [List.length_take] at hrl
 refine ah (zz0 (bS rfl rfl) (ad (al ?_)))
 refine ao rfl ?_ ?_ <;> intro h15 <;> try simp only [bs] at h15
 ·refine bB (al (aG (ah (zz0 (dm rfl rfl aM au) ?_))))
  refine zz0 (mF rfl aQ au) ?_
  refine dA bP rfl (fun b16 => ?_)
  refine aF aP rfl rfl au ?_
  refine aL (zz0 (aa rfl) (zz0 (zz1 (off := 0) (ft := 23) rfl af rfl ae) ?_))
  refine zz0 (aH rfl am) ?_
  refine zz0 (ig rfl rfl Tryz.call85 (fun w hw => nV (lc.getD k default).addr kp Vk b7 w (cellE.cellsIn (hw.ent _ (by repeat constructor)) (Ext.refl _)) (hw.row (by repeat constructor)))) ?_
  refine zz0 (cj rfl) (ad ?_)
  refine ao rfl ?_ ?_ <;> intro h17 <;> try simp only [bs] at h17
  ·refine ar (zz0 (aa rfl) (zz0 (zz1 (off := 0) (ft := 23) rfl af rfl ae) ?_))
   refine zz0 (aH rfl am) ?_
   refine jB (E := an) _ rfl rfl aj ae cU (fun V18 => ?_)
   refine zz2 rfl rfl aj eW (fun V19 => ?_)
   refine zz0 (ab rfl) (az (aX (ac (ar (zz0 (cx rfl rfl) ?_)))))
   refine zz0 (aa rfl) (ad ?_)
   rw [← GL (by omega) (by simp_all)]
   refine cC (k + 1, _) (Front.c (Front.c Front.nil)) (bA 19 rfl) (o := (by show k + 1 ≤ _; omega))
  refine bW (aX (ac (ar (zz0 (cx rfl rfl) ?_))))
  refine zz0 (aa rfl) (ad ?_)
  rw [← H7 (by omega) (by simp_all)]
  refine cC (k + 1, _) (Front.c (Front.c Front.nil)) (bA 13 rfl) (o := (by show k + 1 ≤ _; omega))
 refine bG (aJ (aJ (bj (ac ?_))))
 obtain rfl : k = lc.length := by omega
 rw [List.take_length] at *
 refine iL (V := Vk) (fun pa1 pc1 hpv => ?_)
 subst hpv
 refine db (ι := Nat × Option Addr × Nat) (fun ⟨b17, pb, cb⟩ => True) (fun _ => Bg.of w0) (fun ⟨b17, pb, cb⟩ => [cellE b17 [(.slice pa1 kp.length pc1), .slice none 0 0, .slice none 0 0, (.slice pb bad.length cb)] 52, rowE (.slice pb bad.length cb) 23 an bad, rowE Vr 23 an (nl lc kp), cellE b7 [(.slice pa1 kp.length pc1)] 50, rowE (.slice pa1 kp.length pc1) 36 aP kp, rowE V6 36 aP (dZ (fW ents tm) lc), cellE b5 [.func (.func 75) #[] #[.pointer (some ⟨b1, 0, none⟩), .pointer (some ⟨b4, 0, none⟩)]] 153, cellE b4 [.map (some bmap)] 141, mapE bmap cY tm, rowE V3 36 aP lc, cellE b2 [.slice none 0 0, .slice none 0 0, .slice none 0 0, .slice none 0 0] 52, cellE b1 [Vi, Ve, Vu, Vb] 52]) (fun ⟨b17, pb, cb⟩ => [(17, .pointer (some ⟨b17, 0, none⟩))]) ?_ (fun i hi => ?_)
 ·skip
  skip
  refine dG ([rowE Vr 23 an (nl lc kp), cellE b7 [(.slice pa1 kp.length pc1)] 50, rowE (.slice pa1 kp.length pc1) 36 aP kp, rowE V6 36 aP (dZ (fW ents tm) lc), cellE b5 [.func (.func 75) #[] #[.pointer (some ⟨b1, 0, none⟩), .pointer (some ⟨b4, 0, none⟩)]] 153, cellE b4 [.map (some bmap)] 141, mapE bmap cY tm, rowE V3 36 aP lc, cellE b2 [.slice none 0 0, .slice none 0 0, .slice none 0 0, .slice none 0 0] 52, cellE b1 [Vi, Ve, Vu, Vb] 52]) 7 rfl aT ?_
  refine zz3 0 rfl (aH rfl cP) ?_
  refine zz3 1 rfl (zz1 (off := 3) (ft := 31) rfl bI rfl cn) ?_
  refine zz3 2 rfl (aH rfl dq) ?_
  refine dh [3, 5] (fun iq hq => ?_)
  rcases List.mem_cons.1 hq with rfl | hq
  ·skip
   refine bD rfl ?_
   refine gY rfl Tryz.call57 (fun w hw => sG bad Vb w (hw.slF hB') (by omega)) rfl (fun V20 => ?_)
   refine dz (.head _) (fun pb cb hpv => ?_)
   subst hpv
   refine bU ?_
   refine zz3 4 rfl (bL (vs := [(0, _), (3, _)]) rfl rfl rfl) ?_
   refine dh [5] (fun iq hq => ?_)
   obtain rfl := List.mem_singleton.1 hq
   refine bD rfl ?_
   refine dA dW rfl (fun b21 => ?_)
   refine bU ?_
   refine dh [6] (fun iq hq => ?_)
   obtain rfl := List.mem_singleton.1 hq
   refine bD rfl ?_
   refine zz8 rfl rfl cm ?_
   refine bU ?_
   refine gI ?_
   refine ac ?_
   refine cw (_, _, _) (Front.c Front.nil) (bA 6 rfl) (o := trivial)
  obtain rfl := List.mem_singleton.1 hq
  refine bD rfl ?_
  refine dA dW rfl (fun b22 => ?_)
  refine bU ?_
  refine dh [3] (fun iq hq => ?_)
  obtain rfl := List.mem_singleton.1 hq
  refine bD rfl ?_
  refine gY rfl Tryz.call57 (fun w hw => sG bad Vb w (hw.slF hB') (by omega)) rfl (fun V23 => ?_)
  refine dz (.head _) (fun pb cb hpv => ?_)
  subst hpv
  refine bU ?_
  refine zz3 4 rfl (bL (vs := [(0, _), (3, _)]) rfl rfl rfl) ?_
  refine dh [6] (fun iq hq => ?_)
  obtain rfl := List.mem_singleton.1 hq
  refine bD rfl ?_
  refine zz8 rfl rfl cm ?_
  refine bU ?_
  refine gI ?_
  refine ac ?_
  refine cw (_, _, _) (Front.c Front.nil) (bA 6 rfl) (o := trivial)
 obtain ⟨b17, pb, cb⟩ := i
 replace hi : True := hi
 change Tr _ _ [cellE b17 [(.slice pa1 kp.length pc1), .slice none 0 0, .slice none 0 0, (.slice pb bad.length cb)] 52, rowE (.slice pb bad.length cb) 23 an bad, rowE Vr 23 an (nl lc kp), cellE b7 [(.slice pa1 kp.length pc1)] 50, rowE (.slice pa1 kp.length pc1) 36 aP kp, rowE V6 36 aP (dZ (fW ents tm) lc), cellE b5 [.func (.func 75) #[] #[.pointer (some ⟨b1, 0, none⟩), .pointer (some ⟨b4, 0, none⟩)]] 153, cellE b4 [.map (some bmap)] 141, mapE bmap cY tm, rowE V3 36 aP lc, cellE b2 [.slice none 0 0, .slice none 0 0, .slice none 0 0, .slice none 0 0] 52, cellE b1 [Vi, Ve, Vu, Vb] 52] ([(17, .pointer (some ⟨b17, 0, none⟩))] ++ _) _
 refine al (al ?_)
 skip
 refine ar (zz0 (zz1 (off := 1) (ft := 31) rfl bI rfl cn) ?_)
 refine zz0 (aH rfl dq) ?_
 refine zz0 (fJ rfl aj) ?_
 refine zz0 (aa rfl) (ad (aG (cd 23 an ?_)))
 refine bN (ι := Nat × Value) (fun ⟨k, Ve2⟩ => k ≤ ents.length) (fun _ => _) (fun ⟨k, Ve2⟩ => [cellE b17 [(.slice pa1 kp.length pc1), Ve2, .slice none 0 0, (.slice pb bad.length cb)] 52, rowE Ve2 23 an ((ents.take k).filter (inK kp)), rowE (.slice pb bad.length cb) 23 an bad, rowE Vr 23 an (nl lc kp), cellE b7 [(.slice pa1 kp.length pc1)] 50, rowE (.slice pa1 kp.length pc1) 36 aP kp, rowE V6 36 aP (dZ (fW ents tm) lc), cellE b5 [.func (.func 75) #[] #[.pointer (some ⟨b1, 0, none⟩), .pointer (some ⟨b4, 0, none⟩)]] 153, cellE b4 [.map (some bmap)] 141, mapE bmap cY tm, rowE V3 36 aP lc, cellE b2 [.slice none 0 0, .slice none 0 0, .slice none 0 0, .slice none 0 0] 52, cellE b1 [Vi, Ve, Vu, Vb] 52]) (fun ⟨k, Ve2⟩ => [(82, .int .i64 (k : Nat))]) (fun ⟨k, Ve2⟩ => ents.length - k) (0, _) (Nat.zero_le _) (Front.c Front.nil) (by repeat' constructor) rfl (fun i hi m hm => ?_)
 obtain ⟨k, Ve2⟩ := i
 replace hi : k ≤ ents.length := hi
 replace hm : m = ents.length - k := hm
 change Tr _ _ [cellE b17 [(.slice pa1 kp.length pc1), Ve2, .slice none 0 0, (.slice pb bad.length cb)] 52, rowE Ve2 23 an ((ents.take k).filter (inK kp)), rowE (.slice pb bad.length cb) 23 an bad, rowE Vr 23 an (nl lc kp), cellE b7 [(.slice pa1 kp.length pc1)] 50, rowE (.slice pa1 kp.length pc1) 36 aP kp, rowE V6 36 aP (dZ (fW ents tm) lc), cellE b5 [.func (.func 75) #[] #[.pointer (some ⟨b1, 0, none⟩), .pointer (some ⟨b4, 0, none⟩)]] 153, cellE b4 [.map (some bmap)] 141, mapE bmap cY tm, rowE V3 36 aP lc, cellE b2 [.slice none 0 0, .slice none 0 0, .slice none 0 0, .slice none 0 0] 52, cellE b1 [Vi, Ve, Vu, Vb] 52] ([(82, .int .i64 (k : Nat))] ++ _) _
 have hfl := List.length_filter_le (inK kp) (ents.take k)
 rw [List.length_take] at hfl
 refine ah (zz0 (bS rfl rfl) (ad (al ?_)))
 refine ao rfl ?_ ?_ <;> intro h24 <;> try simp only [bs] at h24
 ·refine bB (al (aG (ah (zz0 (gB rfl rfl aj ae) ?_))))
  refine zz0 (iM rfl am) ?_
  refine zz0 (ab rfl) (aL (zz0 (aa rfl) (zz0 (aa rfl) (zz0 (ig rfl rfl Tryz.call85 (fun w hw => nV (ents.getD k default) kp _ b7 w (cellE.cellsIn (hw.ent _ (by repeat constructor)) (Ext.refl _)) (hw.row (by repeat constructor)))) ?_))))
  refine ad ?_
  refine ao rfl ?_ ?_ <;> intro h25 <;> try simp only [bs] at h25
  ·refine ar (zz0 (zz1 (off := 1) (ft := 31) rfl bI rfl cn) ?_)
   refine zz0 (aH rfl dq) ?_
   refine zz0 (aa rfl) ?_
   refine jB (E := an) _ rfl rfl aj ae cU (fun V26 => ?_)
   refine zz2 rfl rfl aj eW (fun V27 => ?_)
   refine dz (.head _) (fun pz qz hpv => ?_)
   subst hpv
   refine zz0 (zz1 (off := 1) (ft := 31) rfl bI rfl cn) ?_
   refine zz4 (cs' := [_, _, _, _]) rfl rfl cn rfl ?_
   refine az (aX (ac (ar (zz0 (cx rfl rfl) ?_))))
   refine zz0 (aa rfl) (ad ?_)
   rw [← k6 (by omega) (by assumption)]
   refine cC (k + 1, _) (Front.c Front.nil) (bA 16 rfl) (o := (by show k + 1 ≤ _; omega))
  refine bW (aX (ac (ar (zz0 (cx rfl rfl) ?_))))
  refine zz0 (aa rfl) (ad ?_)
  rw [← k7 (p := inK kp) (by omega) (by assumption)]
  refine cC (k + 1, _) (Front.c Front.nil) (bA 10 rfl) (o := (by show k + 1 ≤ _; omega))
 refine bG (aJ (aJ (bj (ac (al (al ?_))))))
 obtain rfl : k = ents.length := by omega
 rw [List.take_length] at *
 refine iL (V := Ve2) (fun pa3 pc3 hpv => ?_)
 subst hpv
 refine ar (zz0 (zz1 (off := 2) (ft := 31) rfl bI rfl cn) ?_)
 refine zz0 (aH rfl dq) ?_
 refine zz0 (fJ rfl aj) ?_
 refine zz0 (aa rfl) (ad (aG (cd 23 an ?_)))
 refine bN (ι := Nat × Value) (fun ⟨k, Vu2⟩ => k ≤ unk.length) (fun _ => _) (fun ⟨k, Vu2⟩ => [cellE b17 [(.slice pa1 kp.length pc1), (.slice pa3 (ents.filter (inK kp)).length pc3), Vu2, (.slice pb bad.length cb)] 52, rowE Vu2 23 an ((unk.take k).filter (inK kp)), rowE (.slice pa3 (ents.filter (inK kp)).length pc3) 23 an (ents.filter (inK kp)), rowE (.slice pb bad.length cb) 23 an bad, rowE Vr 23 an (nl lc kp), cellE b7 [(.slice pa1 kp.length pc1)] 50, rowE (.slice pa1 kp.length pc1) 36 aP kp, rowE V6 36 aP (dZ (fW ents tm) lc), cellE b5 [.func (.func 75) #[] #[.pointer (some ⟨b1, 0, none⟩), .pointer (some ⟨b4, 0, none⟩)]] 153, cellE b4 [.map (some bmap)] 141, mapE bmap cY tm, rowE V3 36 aP lc, cellE b2 [.slice none 0 0, .slice none 0 0, .slice none 0 0, .slice none 0 0] 52, cellE b1 [Vi, Ve, Vu, Vb] 52]) (fun ⟨k, Vu2⟩ => [(99, .int .i64 (k : Nat))]) (fun ⟨k, Vu2⟩ => unk.length - k) (0, _) (Nat.zero_le _) (Front.c Front.nil) (by repeat' constructor) rfl (fun i hi m hm => ?_)
 obtain ⟨k, Vu2⟩ := i
 replace hi : k ≤ unk.length := hi
 replace hm : m = unk.length - k := hm
 change Tr _ _ [cellE b17 [(.slice pa1 kp.length pc1), (.slice pa3 (ents.filter (inK kp)).length pc3), Vu2, (.slice pb bad.length cb)] 52, rowE Vu2 23 an ((unk.take k).filter (inK kp)), rowE (.slice pa3 (ents.filter (inK kp)).length pc3) 23 an (ents.filter (inK kp)), rowE (.slice pb bad.length cb) 23 an bad, rowE Vr 23 an (nl lc kp), cellE b7 [(.slice pa1 kp.length pc1)] 50, rowE (.slice pa1 kp.length pc1) 36 aP kp, rowE V6 36 aP (dZ (fW ents tm) lc), cellE b5 [.func (.func 75) #[] #[.pointer (some ⟨b1, 0, none⟩), .pointer (some ⟨b4, 0, none⟩)]] 153, cellE b4 [.map (some bmap)] 141, mapE bmap cY tm, rowE V3 36 aP lc, cellE b2 [.slice none 0 0, .slice none 0 0, .slice none 0 0, .slice none 0 0] 52, cellE b1 [Vi, Ve, Vu, Vb] 52] ([(99, .int .i64 (k : Nat))] ++ _) _
 have hfl := List.length_filter_le (inK kp) (unk.take k)
 rw [List.length_take] at hfl
 refine ah (zz0 (bS rfl rfl) (ad (al ?_)))
 refine ao rfl ?_ ?_ <;> intro h28 <;> try simp only [bs] at h28
 ·refine bB (al (aG (ah (zz0 (gB rfl rfl aj ae) ?_))))
  refine zz0 (iM rfl am) ?_
  refine zz0 (ab rfl) (aL (zz0 (aa rfl) (zz0 (aa rfl) (zz0 (ig rfl rfl Tryz.call85 (fun w hw => nV (unk.getD k default) kp _ b7 w (cellE.cellsIn (hw.ent _ (by repeat constructor)) (Ext.refl _)) (hw.row (by repeat constructor)))) ?_))))
  refine ad ?_
  refine ao rfl ?_ ?_ <;> intro h29 <;> try simp only [bs] at h29
  ·refine ar (zz0 (zz1 (off := 2) (ft := 31) rfl bI rfl cn) ?_)
   refine zz0 (aH rfl dq) ?_
   refine zz0 (aa rfl) ?_
   refine jB (E := an) _ rfl rfl aj ae cU (fun V30 => ?_)
   refine zz2 rfl rfl aj eW (fun V31 => ?_)
   refine dz (.head _) (fun pz qz hpv => ?_)
   subst hpv
   refine zz0 (zz1 (off := 2) (ft := 31) rfl bI rfl cn) ?_
   refine zz4 (cs' := [_, _, _, _]) rfl rfl cn rfl ?_
   refine az (aX (ac (ar (zz0 (cx rfl rfl) ?_))))
   refine zz0 (aa rfl) (ad ?_)
   rw [← k6 (by omega) (by assumption)]
   refine cC (k + 1, _) (Front.c Front.nil) (bA 16 rfl) (o := (by show k + 1 ≤ _; omega))
  refine bW (aX (ac (ar (zz0 (cx rfl rfl) ?_))))
  refine zz0 (aa rfl) (ad ?_)
  rw [← k7 (p := inK kp) (by omega) (by assumption)]
  refine cC (k + 1, _) (Front.c Front.nil) (bA 10 rfl) (o := (by show k + 1 ≤ _; omega))
 refine bG (aJ (aJ (bj (ac (al ?_)))))
 obtain rfl : k = unk.length := by omega
 rw [List.take_length] at *
 refine iL (V := Vu2) (fun pa4 pc4 hpv => ?_)
 subst hpv
 refine ar (zz0 (bE rfl fy cm) ?_)
 refine zz0 (aa rfl) (zz8 rfl rfl cm ?_)
 refine zz0 (ab rfl) (ad (aD (fP ?_)))
 refine kj Tryz.results29 rfl rfl fy cm (fun w' hw => ?_)
 subst hkp htm hlc
 exact ⟨(_, _, _, _, _), rfl, hw.b0, hw.ents (w := w0) (Bg.le.refl _) (by repeat' constructor)⟩
end Go.Proofs.YtiajjbhcpeadfaaGreat
namespace Go.Proofs.YtiajjbhcpeadfaaGreat
open Go Go.HL Go.RowKit
theorem xW (i : Ins) (w : World) :
  Cr Tryz.prog 137 #[.agg (aP.enc i).toArray] w (.bool (rn i.op)) := by
 refine enter Tryz.func137 rfl Tryz.ntmps137 rfl ?_
 refine ah ?_
 refine dE rfl rfl (fun b1 => ?_)
 refine zz0 (ab rfl) (aL (zz0 (zz1 (off := 2) (ft := 3) rfl af rfl ay) ?_))
 refine zz0 (aH rfl aI) ?_
 refine zz0 (aY rfl rfl) (zz0 (aa rfl) ?_)
 apply cF
 ·exact (rfl : _ = (4, 6, 10))
 ·exact rfl
 ·intro hF2; have hF2' := hF2
  try simp only [bs] at hF2'
  refine zz5 hF2 (zz1 (off := 2) (ft := 3) rfl af rfl ay) ?_
  refine zz5 hF2 (aH rfl aI) ?_
  refine zz5 hF2 (aY rfl rfl) (zz0 (aK rfl hF2 rfl) ?_)
  refine az (ac ?_)
  exact aA (Sub.cons rfl (zz7 4 rfl))
 ·intro hT2
  refine zz6 hT2 (zz6 hT2 (zz6 hT2 (zz0 (aN rfl hT2 rfl) ?_)))
  refine az (ac ?_)
  exact aA (Sub.cons rfl (zz7 4 rfl))
 refine zz0 (aa rfl) ?_
 apply cF
 ·exact (rfl : _ = (4, 11, 15))
 ·exact rfl
 ·intro hF3; have hF3' := hF3
  try simp only [bs] at hF3'
  refine zz5 hF3 (zz1 (off := 2) (ft := 3) rfl af rfl ay) ?_
  refine zz5 hF3 (aH rfl aI) ?_
  refine zz5 hF3 (aY rfl rfl) (zz0 (aK rfl hF3 rfl) ?_)
  refine az (ac ?_)
  exact aA (Sub.cons rfl (zz7 4 rfl))
 ·intro hT3
  refine zz6 hT3 (zz6 hT3 (zz6 hT3 (zz0 (aN rfl hT3 rfl) ?_)))
  refine az (ac ?_)
  exact aA (Sub.cons rfl (zz7 4 rfl))
 refine zz0 (ab rfl) (ad (aD ?_))
 refine aS Tryz.results137 rfl (fun w' hw => ?_)
 exact ⟨by unfold rn; congr 2; rw [Bool.eq_iff_iff]; simp [or_assoc], hw.b0⟩
theorem Em (i : Ins) (w : World) (hI : InsOK i) :
  Calls Tryz.prog 136 #[.agg (aP.enc i).toArray] w (fun e w' => ∃ V', e = .returned V' ∧ Ext w w' ∧ jA w w' 23 an (dP i) V') := by
 refine enter Tryz.func136 rfl Tryz.ntmps136 rfl ?_
 refine ah ?_
 refine dE rfl rfl (fun b1 => ?_)
 refine zz0 (ab rfl) (ad (al (ah (zz0 (bE rfl aQ au) ?_))))
 refine zz0 (aC rfl kt (fun w hw => kl i w hI)) ?_
 refine zz0 (cj rfl) (ad ?_)
 refine ao rfl ?_ ?_ <;> intro h2 <;> try simp only [bs] at h2
 ·refine al (cd 23 an ?_)
  refine ar (zz0 (ab rfl) (ad (aD (aB ?_))))
  refine aS Tryz.results136 rfl (fun w' hw => ?_)
  exact ⟨_, rfl, hw.b0, by rw [show dP i = [] by unfold dP; rw [if_neg (by simp_all)]]; exact hw.new (.head _)⟩
 refine bB (al (cd 23 an ?_))
 refine ar (zz0 (ab rfl) (ad ?_))
 refine db (ι := Value) (fun V1 => True) (fun _ => Bg.of w) (fun V1 => [rowE V1 23 an (if (de i).2 = true then [(de i).1] else []), cellE b1 (aP.enc i) 36]) (fun V1 => [(3, V1)]) ?_ (fun V1 hi => ?_)
 ·skip
  refine ah (zz0 (bE rfl aQ au) ?_)
  refine zz0 (aC rfl Tryz.call144 (fun w hw => qo i w)) ?_
  refine zz0 (aa rfl) (zz0 (aR rfl rfl) (zz0 (aR rfl rfl) (zz0 (ab rfl) (zz0 (ab rfl) (aL (zz0 (aa rfl) (ad ?_)))))))
  refine ao rfl ?_ ?_ <;> intro h3 <;> try simp only [bs] at h3
  ·refine ar (zz0 (aa rfl) (zz0 (aa rfl) ?_))
   refine jB (E := an) (de i).1 rfl rfl aj ae cU (fun V4 => ?_)
   refine zz2 rfl rfl aj eW (fun V5 => ?_)
   refine zz0 (ab rfl) (ad (gx (l' := if (de i).2 = true then [(de i).1] else []) (by rw [if_pos (by assumption)]; rfl) ?_))
   refine cw _ (Front.c Front.nil) (bA 13 rfl) (o := trivial)
  refine bB (gx (l' := if (de i).2 = true then [(de i).1] else []) (by rw [if_neg (by simp_all)]) ?_)
  refine cw _ (Front.c Front.nil) (bA 8 rfl) (o := trivial)
 skip
 replace hi : True := hi
 change Tr _ _ [rowE V1 23 an (if (de i).2 = true then [(de i).1] else []), cellE b1 (aP.enc i) 36] ([(3, V1)] ++ _) _
 have htl : (if (de i).2 = true then [(de i).1] else []).length ≤ 1 := by split <;> simp
 refine db (ι := Value) (fun V2 => True) (fun _ => Bg.of w) (fun V2 => [rowE V2 23 an ((if (de i).2 = true then [(de i).1] else []) ++ (if lk i = true then [] else [oK i])), cellE b1 (aP.enc i) 36]) (fun V2 => [(3, V2)]) ?_ (fun V2 hi => ?_)
 ·skip
  refine ah (zz0 (bE rfl aQ au) ?_)
  refine zz0 (aC rfl Tryz.call195 (fun w hw => zZ i w)) ?_
  refine zz0 (cj rfl) (ad ?_)
  refine ao rfl ?_ ?_ <;> intro h6 <;> try simp only [bs] at h6
  ·refine ar (zz0 (aa rfl) (zz0 (bE rfl aQ au) ?_))
   refine zz0 (aC rfl Tryz.call60 (fun w hw => zk i w hI)) ?_
   refine jB (E := an) (oK i) rfl rfl aj ae cU (fun V7 => ?_)
   refine zz2 rfl rfl aj eW (fun V8 => ?_)
   refine zz0 (ab rfl) (ad (gx (l' := (if (de i).2 = true then [(de i).1] else []) ++ (if lk i = true then [] else [oK i])) (by rw [if_neg (c := lk i = true) (by simp_all)]) ?_))
   refine cw _ (Front.c Front.nil) (bA 9 rfl) (o := trivial)
  refine bB (gx (l' := (if (de i).2 = true then [(de i).1] else []) ++ (if lk i = true then [] else [oK i])) (by rw [if_pos (c := lk i = true) (by simp_all), List.append_nil]) ?_)
  refine cw _ (Front.c Front.nil) (bA 3 rfl) (o := trivial)
 skip
 replace hi : True := hi
 change Tr _ _ [rowE V2 23 an ((if (de i).2 = true then [(de i).1] else []) ++ (if lk i = true then [] else [oK i])), cellE b1 (aP.enc i) 36] ([(3, V2)] ++ _) _
 refine ah (zz0 (aa rfl) (zz0 (ab rfl) (ad (aD ?_))))
 refine aS Tryz.results136 rfl (fun w' hw => ?_)
 exact ⟨_, rfl, hw.b0, by rw [show dP i = _ by unfold dP; rw [if_pos (by simp_all)]]; exact hw.new (.head _)⟩
theorem Hh (l : List SecV) (V : Value) (a : UInt32) (w : World) (hV : Sl (hp w) dK l V) (hB : SecB l) (hD : DataIn (hp w) l) :
  Cr Tryz.prog 68 #[V, .int .u32 a.toNat] w (.tuple #[.agg (aP.enc (atP l a).1).toArray, .bool (atP l a).2]) := by
 have hV' : Sl (Bg.of w).blk dK l V := hV
 have hlen := hB.1
 have hf := nr (l := l) (a := a)
 have ha := a.toNat_lt
 refine enter Tryz.func68 rfl Tryz.ntmps68 rfl ?_
 refine ah ?_
 refine dA bP rfl (fun b1 => ?_)
 refine zz0 (ab rfl) (aL (zz0 (aa rfl) (zz0 (aa rfl) (zz0 (aC rfl oy (fun w hw => rA l V a w (hw.slF hV') hB)) ?_))))
 refine zz0 (ab rfl) (ad (al (ah (zz0 (aa rfl) (zz0 (bS rfl rfl) (zz0 (aa rfl) ?_))))))
 apply cF
 ·exact (rfl : _ = (7, 15, 22))
 ·exact rfl
 ·intro hF2; have hF2' := hF2
  try simp only [bs] at hF2'
  refine zz5 hF2 (aa rfl) (zz5 hF2 (aa rfl) (zz5 hF2 (m9 rfl rfl cO di) ?_))
  refine zz5 hF2 (zz1 (off := 4) (ft := 4) rfl dw rfl bX) ?_
  refine zz5 hF2 (me rfl (by assumption) cK (by omega) (by rfl)) ?_
  refine zz5 hF2 (cj rfl) (zz0 (aK rfl hF2 rfl) ?_)
  refine az (ac ?_)
  exact aA (Sub.cons rfl (zz7 7 rfl))
 ·intro hT2
  refine zz6 hT2 (zz6 hT2 (zz6 hT2 (zz6 hT2 (zz6 hT2 (zz6 hT2 (zz0 (aN rfl hT2 rfl) ?_))))))
  refine az (ac ?_)
  exact aA (Sub.cons rfl (zz7 7 rfl))
 refine ad ?_
 refine ao rfl ?_ ?_ <;> intro h3 <;> try simp only [bs] at h3
 ·refine ah (zz0 (bL (vs := []) rfl rfl (j2)) ?_)
  refine aF aP rfl rfl au ?_
  refine zz0 (ab rfl) (ad (aD (aB ?_)))
  refine kj Tryz.results68 rfl rfl aQ au (fun w' hw => ?_)
  exact ⟨by unfold atP; rw [if_pos (by unfold Dj; simp_all)]; rfl, hw.b0⟩
 refine bB (al ?_)
 have hna : Dj l a = false := by unfold Dj; rw [Bool.or_eq_false_iff]; exact ⟨decide_eq_false h3.1, by rw [h3.2]; rfl⟩
 have hin := rp.1 (pB (l := l) (a := a) (by omega))
 have hen : qC (l.getD (dV l a).toNat default) ≤ ((l.getD (dV l a).toNat default).addr.toNat : Int) + (l.getD (dV l a).toNat default).data.length := by unfold qC; omega
 have hsub : (a - (l.getD (dV l a).toNat default).addr).toNat = a.toNat - (l.getD (dV l a).toNat default).addr.toNat := UInt32.toNat_sub_of_le _ _ (UInt32.le_iff_toNat_le.2 hin.1)
 have hdl := hB.at (k := (dV l a).toNat) (by omega)
 have hDk : Sl (Bg.of w).blk eJ (l.getD (dV l a).toNat default).data (.slice (l.getD (dV l a).toNat default).dp (l.getD (dV l a).toNat default).data.length (l.getD (dV l a).toNat default).dc) := hD _ (cS (by omega))
 refine gZ aT ?_
 refine ax (aa rfl) (ax (aa rfl) (ax (m9 rfl rfl cO di) ?_))
 refine ax (zz1 (off := 2) (ft := 47) rfl dw rfl j1) ?_
 refine ax (me rfl (by assumption) kr (by omega) (by rfl)) ?_
 refine ax (aa rfl) (ax (aa rfl) (ax (aa rfl) (ax (m9 rfl rfl cO di) ?_)))
 refine ax (zz1 (off := 1) (ft := 23) rfl dw rfl ae) ?_
 refine ax (me rfl (by assumption) am (by omega) (by rfl)) ?_
 refine ax (eZ rfl rfl) ?_
 refine ax (D7 (lv := some (_, _)) (hv := none) rfl rfl rfl bJ dX) ?_
 refine ax (ab rfl) (bK ?_)
 refine ac (al ?_)
 have hs1 := Sl.resl (l := (a - (l.getD (dV l a).toNat default).addr).toNat) (h := (l.getD (dV l a).toNat default).data.length) hDk (by omega) (Nat.le_refl _)
 rw [List.take_length] at hs1
 have hs1l : (List.drop (a - (l.getD (dV l a).toNat default).addr).toNat (l.getD (dV l a).toNat default).data).length = (l.getD (dV l a).toNat default).data.length - (a - (l.getD (dV l a).toNat default).addr).toNat := List.length_drop
 have hs3 := Sl.resl (l := 0) (h := (min (((l.getD (dV l a).toNat default).data.drop (a - (l.getD (dV l a).toNat default).addr).toNat).length : Int) 6).toNat) hs1 (Nat.zero_le _) (by omega)
 rw [List.drop_zero, show ((l.getD (dV l a).toNat default).data.drop (a - (l.getD (dV l a).toNat default).addr).toNat).take (min (((l.getD (dV l a).toNat default).data.drop (a - (l.getD (dV l a).toNat default).addr).toNat).length : Int) 6).toNat = CP l a by unfold CP; rw [List.take_eq_take_iff]; omega] at hs3
 refine ar (zz0 (aa rfl) (zz0 (aa rfl) (zz0 (fJ rfl bJ) ?_)))
 refine zz0 (rL rfl rfl) ?_
 refine zz0 (D7 (lv := none) (hv := some (_, _)) rfl rfl rfl bJ dX) ?_
 refine zz0 (aa rfl) (zz0 (aC rfl Tryz.call135 (fun w hw => Bn (CP l a) _ a w (hw.slF hs3))) ?_)
 refine zz0 (aa rfl) (zz0 (aR rfl rfl) (zz0 (aR rfl rfl) ?_))
 refine dA bP rfl (fun b4 => ?_)
 refine aF aP rfl rfl au ?_
 refine zz0 (ab rfl) (aL (zz0 (bE rfl aQ au) ?_))
 refine zz0 (aa rfl) (zz0 (aY rfl rfl) (aF aP rfl rfl au ?_))
 refine zz0 (ab rfl) (ad (aD ?_))
 refine kj Tryz.results68 rfl rfl aQ au (fun w' hw => ?_)
 exact ⟨by unfold atP; rw [if_neg (by simp [hna])]; rfl, hw.b0⟩
theorem Bl (bw bi bb be bu : Nat) (VT VP : Value) (ts : List TabV) (at_ : List UInt32) (a : UInt32) (w : World) (hcw : CellsIn (hp w) bw [.map (some bi), .map (some bb), .map (some be), .map (some bu), VT, VP]) (hT : Sl (hp w) f5 ts VT) (hP : Sl (hp w) an at_ VP) (hl : ts.length = at_.length) :
  Cr Tryz.prog 138 #[.pointer (some ⟨bw, 0, none⟩), .int .u32 a.toNat] w (.tuple #[sh ts at_ a, .bool (eY ts at_ a).isSome]) := by
 have hcw' : CellsIn (Bg.of w).blk bw [.map (some bi), .map (some bb), .map (some be), .map (some bu), VT, VP] := hcw
 have hT' : Sl (Bg.of w).blk f5 ts VT := hT
 have hP' : Sl (Bg.of w).blk an at_ VP := hP
 have hib := jQ (fun x => decide (a = x)) at_ 0
 refine enter Tryz.func138 rfl Tryz.ntmps138 rfl ?_
 refine ah (zz0 (ab rfl) (zz0 (ab rfl) (aL (zz0 (aa rfl) (zz0 (bh rfl) ?_)))))
 refine zz0 (zz1 (off := 5) (ft := 31) rfl cX rfl cn) ?_
 refine zz0 (lK rfl dq) ?_
 refine zz0 (aa rfl) (zz0 (aC rfl Tryz.call145 (fun w hw => wG at_ VP a w (hw.slF hP'))) ?_)
 refine zz0 (ab rfl) (ad (al (ah (zz0 (aa rfl) (zz0 (bS rfl rfl) (ad ?_))))))
 refine ao rfl ?_ ?_ <;> intro h1 <;> try simp only [bs] at h1
 ·refine ah (zz0 (ab rfl) (zz0 (ab rfl) (ad (aD (aB ?_)))))
  refine dI Tryz.results138 rfl rfl (fun w' hw => ?_)
  exact ⟨by rw [wx (by omega), wy (by omega)]; rfl, hw.b0⟩
 refine df (zz0 (aa rfl) (zz0 (bh rfl) ?_))
 refine zz0 (zz1 (off := 4) (ft := 53) rfl cX rfl gg) ?_
 refine zz0 (lK rfl jV) ?_
 refine zz0 (aa rfl) (zz0 (m9 rfl rfl du cn) ?_)
 refine zz0 (iM rfl dq) ?_
 refine zz0 (ab rfl) (zz0 (ab rfl) (ad (aD ?_)))
 refine dI Tryz.results138 rfl rfl (fun w' hw => ?_)
 exact ⟨by rw [uT (by omega), uU (by omega)]; rfl, hw.b0⟩
theorem Bh (bw bi bb be bu : Nat) (VT VP : Value) (ts : List TabV) (at_ : List UInt32) (i : Ins) (ents unk : List (UInt32 × Bool)) (w : World) (ho : OwnAt w [mapE be cY ents, mapE bu cY unk]) (hcw : CellsIn (Bg.lessB w [be, bu] 0).blk bw [.map (some bi), .map (some bb), .map (some be), .map (some bu), VT, VP]) (hT : Sl (Bg.lessB w [be, bu] 0).blk f5 ts VT) (hTI : TabIn (Bg.lessB w [be, bu] 0).blk ts) (hTB : pH ts) (hP : Sl (Bg.lessB w [be, bu] 0).blk an at_ VP) (hl : ts.length = at_.length) (hI : InsOK i) :
  Calls Tryz.prog 69 #[.pointer (some ⟨bw, 0, none⟩), .agg (aP.enc i).toArray] w (fun e w' => ∃ V : Value, e = .returned V ∧ Upd 0 w w' (cT [mapE be cY ents, mapE bu cY unk]) [rowE V 23 an (kh ts at_ i), mapE be cY (gv ents (kb ts at_ i)), mapE bu cY (if oV ts at_ i = true then fh unk i.addr true else unk)] ∧ True) := by
 have hKS := E2 hTI hTB (at_ := at_) (a := i.addr) hl
 have hkl := sg hTB at_ i.addr
 have hsl := j7 i
 refine qB (L := [mapE be cY ents, mapE bu cY unk]) ho rfl (Nat.zero_le _) Tryz.func69 rfl Tryz.ntmps69 rfl ?_
 refine ah ?_
 refine dE rfl rfl (fun b1 => ?_)
 refine zz0 (ab rfl) (aL (zz0 (bE rfl aQ au) ?_))
 refine gY rfl Tryz.call136 (fun w hw => Em i w hI) rfl (fun V2 => ?_)
 refine zz0 (ab rfl) (ad ?_)
 refine db (ι := List (UInt32 × Bool)) (fun m1 => m1 = (if i.op = 23 then fh ents i.imm true else ents)) (fun _ => (Bg.lessB w [be, bu] 0)) (fun m1 => [rowE V2 23 an (dP i), mapE be cY m1, mapE bu cY unk, cellE b1 (aP.enc i) 36]) (fun m1 => []) ?_ (fun m1 hi => ?_)
 ·skip
  refine ah (zz0 (zz1 (off := 2) (ft := 3) rfl af rfl ay) ?_)
  refine zz0 (aH rfl aI) ?_
  refine zz0 (aY rfl rfl) (ad ?_)
  refine ao rfl ?_ ?_ <;> intro h3 <;> try simp only [bs] at h3
  ·refine fK 0 6 aT ?_
   refine bH ?_
   refine ax (aa rfl) (ax (bh rfl) ?_)
   refine ax (zz1 (off := 2) (ft := 141) rfl cX rfl fQ) ?_
   refine ax (lK rfl fU) ?_
   refine ax (zz1 (off := 1) (ft := 23) rfl af rfl ae) ?_
   refine ax (aH rfl am) ?_
   refine bK ?_
   refine ga true rfl rfl rfl (by repeat constructor) ed aV rfl ?_
   refine ad ?_
   refine cw _ Front.nil (bA 9 rfl) (o := (by show _ = _; rw [if_pos (by assumption)]))
  refine bB ?_
  refine cw _ Front.nil (bA 3 rfl) (o := (by show _ = _; rw [if_neg (by assumption)]))
 skip
 replace hi : m1 = (if i.op = 23 then fh ents i.imm true else ents) := hi
 change Tr _ _ [rowE V2 23 an (dP i), mapE be cY m1, mapE bu cY unk, cellE b1 (aP.enc i) 36] ([] ++ _) _
 have hm1 := hi
 refine al (ah (zz0 (bE rfl aQ au) ?_))
 refine zz0 (aC rfl Tryz.call137 (fun w hw => xW i w)) ?_
 refine zz0 (cj rfl) (ad ?_)
 refine ao rfl ?_ ?_ <;> intro h4 <;> try simp only [bs] at h4
 ·refine ah (zz0 (aa rfl) (zz0 (ab rfl) (ad (aD (aB ?_)))))
  refine aS Tryz.results69 rfl (fun w' hw => ?_)
  have hb1 : kh ts at_ i = dP i := by unfold kh; rw [if_neg (by simp_all), List.append_nil]
  have hb2 : gv ents (kb ts at_ i) = m1 := Bu hm1 (by simp_all)
  have hb3 : oV ts at_ i = false := by unfold oV; simp_all
  exact ⟨_, rfl, by rw [hb1, hb2, hb3, if_neg (by decide)]; exact hw.upd (Bg.le.refl _) (by repeat' constructor), trivial⟩
 refine df (zz0 (aa rfl) (zz0 (zz1 (off := 0) (ft := 23) rfl af rfl ae) ?_))
 refine zz0 (aH rfl am) ?_
 refine zz0 (aC rfl Tryz.call138 (fun w hw => Bl bw bi bb be bu VT VP ts at_ i.addr w (hcw.mono hw.bg) (hw.slF hT) (hw.slF hP) hl)) ?_
 refine zz0 (aa rfl) (zz0 (aR rfl rfl) (zz0 (aR rfl rfl) (zz0 (ab rfl) (zz0 (ab rfl) (ad ?_)))))
 refine db (ι := List (UInt32 × Bool)) (fun u1 => u1 = (if (eY ts at_ i.addr).isSome = true then unk else fh unk i.addr true)) (fun _ => (Bg.lessB w [be, bu] 0)) (fun u1 => [rowE V2 23 an (dP i), mapE be cY m1, mapE bu cY u1, cellE b1 (aP.enc i) 36]) (fun u1 => []) ?_ (fun u1 hi => ?_)
 ·skip
  refine ah (zz0 (aa rfl) (zz0 (cj rfl) (ad ?_)))
  refine ao rfl ?_ ?_ <;> intro h5 <;> try simp only [bs] at h5
  ·refine fK 0 6 aT ?_
   refine bH ?_
   refine ax (aa rfl) (ax (bh rfl) ?_)
   refine ax (zz1 (off := 3) (ft := 141) rfl cX rfl fQ) ?_
   refine ax (lK rfl fU) ?_
   refine ax (zz1 (off := 0) (ft := 23) rfl af rfl ae) ?_
   refine ax (aH rfl am) ?_
   refine bK ?_
   refine ga true rfl rfl rfl (by repeat constructor) ed aV rfl ?_
   refine ad ?_
   refine cw _ Front.nil (bA 8 rfl) (o := (by show _ = _; rw [if_neg (by simp_all)]))
  refine bB ?_
  refine cw _ Front.nil (bA 2 rfl) (o := (by show _ = _; rw [if_pos (by assumption)]))
 skip
 replace hi : u1 = (if (eY ts at_ i.addr).isSome = true then unk else fh unk i.addr true) := hi
 change Tr _ _ [rowE V2 23 an (dP i), mapE be cY m1, mapE bu cY u1, cellE b1 (aP.enc i) 36] ([] ++ _) _
 have hu1 := hi
 refine db (ι := List (UInt32 × Bool)) (fun m2 => m2 = if i.op = 24 then gv m1 ((eY ts at_ i.addr).getD []) else m1) (fun _ => (Bg.lessB w [be, bu] 0)) (fun m2 => [rowE V2 23 an (dP i), mapE be cY m2, mapE bu cY u1, cellE b1 (aP.enc i) 36]) (fun m2 => []) ?_ (fun m2 hi => ?_)
 ·skip
  refine ah (zz0 (zz1 (off := 2) (ft := 3) rfl af rfl ay) ?_)
  refine zz0 (aH rfl aI) ?_
  refine zz0 (aY rfl rfl) (ad ?_)
  refine ao rfl ?_ ?_ <;> intro h6 <;> try simp only [bs] at h6
  ·refine ah (zz0 (aa rfl) (zz0 (fJ rfl aj) ?_))
   refine zz0 (aa rfl) (ad (aG ?_))
   refine bN (ι := Nat) (fun k => k ≤ ((eY ts at_ i.addr).getD []).length) (fun _ => (Bg.lessB w [be, bu] 0)) (fun k => [rowE V2 23 an (dP i), mapE be cY (gv m1 (((eY ts at_ i.addr).getD []).take k)), mapE bu cY u1, cellE b1 (aP.enc i) 36]) (fun k => [(45, .int .i64 (k : Nat))]) (fun k => ((eY ts at_ i.addr).getD []).length - k) 0 (Nat.zero_le _) (Front.c Front.nil) (by repeat' constructor) rfl (fun k hi m hm => ?_)
   replace hi : k ≤ ((eY ts at_ i.addr).getD []).length := hi
   replace hm : m = ((eY ts at_ i.addr).getD []).length - k := hm
   change Tr _ _ [rowE V2 23 an (dP i), mapE be cY (gv m1 (((eY ts at_ i.addr).getD []).take k)), mapE bu cY u1, cellE b1 (aP.enc i) 36] ([(45, .int .i64 (k : Nat))] ++ _) _
   refine ah (zz0 (bS rfl rfl) (ad (al ?_)))
   refine ao rfl ?_ ?_ <;> intro h7 <;> try simp only [bs] at h7
   ·refine bB (al (aG (ah (zz0 (gB rfl rfl aj ae) ?_))))
    refine zz0 (iM rfl am) ?_
    refine zz0 (ab rfl) (ad (ar (zz0 (aa rfl) (zz0 (bh rfl) ?_))))
    refine zz0 (zz1 (off := 2) (ft := 141) rfl cX rfl fQ) ?_
    refine zz0 (lK rfl fU) ?_
    refine zz0 (aa rfl) (ga true rfl rfl rfl (by repeat constructor) ed aV rfl ?_)
    refine az (aX (ac (ar (zz0 (cx rfl rfl) ?_))))
    refine zz0 (aa rfl) (ad ?_)
    rw [← uM, ← dn (by omega)]
    refine cC (k + 1) (Front.c Front.nil) (bA 12 rfl) (o := (by show k + 1 ≤ _; omega))
   refine bG (aJ (aJ (bj (ac ?_))))
   refine cw _ Front.nil (bA 8 rfl) (o := (by show _ = _; rw [if_pos (by assumption), List.take_of_length_le (by omega)]))
  refine bB ?_
  refine cw _ Front.nil (bA 3 rfl) (o := (by show _ = _; rw [if_neg (by assumption)]))
 skip
 replace hi : m2 = if i.op = 24 then gv m1 ((eY ts at_ i.addr).getD []) else m1 := hi
 change Tr _ _ [rowE V2 23 an (dP i), mapE be cY m2, mapE bu cY u1, cellE b1 (aP.enc i) 36] ([] ++ _) _
 have hm2 := hi
 refine ah (zz0 (aa rfl) (zz0 (aa rfl) ?_))
 refine CN rfl rfl (by repeat constructor) (fun w hw => hw.slF (by assumption)) aj eW (fun V8 => ?_)
 refine zz0 (ab rfl) (ad (aD ?_))
 refine aS Tryz.results69 rfl (fun w' hw => ?_)
 have hb1 : kh ts at_ i = dP i ++ ((eY ts at_ i.addr).getD []) := by unfold kh; rw [if_pos (by simp_all)]
 have hb2 : gv ents (kb ts at_ i) = m2 := FR hm1 hm2 (by simp_all)
 have hb3 : (if oV ts at_ i = true then fh unk i.addr true else unk) = u1 := Gz hu1 (by simp_all)
 exact ⟨_, rfl, by rw [hb1, hb2, hb3]; exact hw.upd (Bg.le.refl _) (by repeat' constructor), trivial⟩
theorem walk_any (l : List SecV) (ts : List TabV) (at_ es : List UInt32) (V VE VT VP : Value) (w : World) (hV : Sl (hp w) dK l V) (hB : SecB l) (hD : DataIn (hp w) l) (hN : ∀ s ∈ l, s.name.size ≤ 140737488351232) (hE : Sl (hp w) an es VE) (hT : Sl (hp w) f5 ts VT) (hTI : TabIn (hp w) ts) (hTB : pH ts) (hP : Sl (hp w) an at_ VP) (ht : totD l ≤ 600) (hel : es.length ≤ 100) :
  Calls Tryz.prog 28 #[V, VE, VT, VP] w (fun e w' => ∃ i : ((Value × Value × Value × Value) × CodeP × Int), e = .returned ((fun i : ((Value × Value × Value × Value) × CodeP × Int) => .tuple #[.agg #[i.1.1, i.1.2.1, i.1.2.2.1, i.1.2.2.2], .int .i64 i.2.2]) i) ∧ Below w.heap.size w w' ∧ NewEnts w w' ((fun i : ((Value × Value × Value × Value) × CodeP × Int) => [rowE i.1.1 36 aP i.2.1.ins, rowE i.1.2.1 23 an i.2.1.ents, rowE i.1.2.2.1 23 an i.2.1.unk, rowE i.1.2.2.2 23 an i.2.1.bad]) i) ∧ WalkIs l ts at_ es i.2.1 i.2.2) := by
 obtain ⟨ta, tc, hvt, _⟩ := hT.shape
 subst hvt
 obtain ⟨pa, pc, hvp, _⟩ := hP.shape
 subst hvp
 have hV0 : Sl (Bg.of0 w).blk dK l V := hV
 have hD0 : DataIn (Bg.of0 w).blk l := hD
 have hE0 : Sl (Bg.of0 w).blk an es VE := hE
 have hT0 : Sl (Bg.of0 w).blk f5 ts (.slice ta ts.length tc) := hT
 have hTI0 : TabIn (Bg.of0 w).blk ts := hTI
 have hP0 : Sl (Bg.of0 w).blk an at_ (.slice pa at_.length pc) := hP
 refine l3 Tryz.func28 rfl Tryz.ntmps28 rfl ?_
 refine ah ?_
 refine dA dW rfl (fun b1 => ?_)
 refine zz0 (ab rfl) (ad (rF (al (ah (zz0 (aa rfl) (zz0 (fJ rfl du) ?_))))))
 refine zz0 (aa rfl) (zz0 (fJ rfl aj) ?_)
 refine zz0 (fa rfl rfl) (ad ?_)
 refine ao rfl ?_ ?_ <;> intro h2 <;> try simp only [bs] at h2
 ·refine al (cd 36 aP ?_)
  refine cd 23 an ?_
  refine cd 23 an ?_
  refine cd 23 an ?_
  refine ar (zz0 (bL (vs := []) rfl rfl (pP)) ?_)
  refine zz8 rfl rfl cm ?_
  refine zz0 (ab rfl) (ad (aD (aB (fP ?_))))
  refine kj Tryz.results28 rfl rfl fy cm (fun w' hw => ?_)
  exact ⟨((.slice none 0 0, .slice none 0 0, .slice none 0 0, .slice none 0 0), ⟨[], [], [], []⟩, 2), rfl, hw.below0 (Bg.le.refl _), hw.ents0 rfl (by repeat' constructor), .arg (by show ts.length ≠ at_.length; omega) rfl rfl⟩
 refine bB (al (ah (zz0 (aa rfl) (zz0 (aC rfl Tryz.call39 (fun w hw => sH l V w (hw.slF hV0) hB (fun s hs => by have := hN s hs; omega))) ?_))))
 refine zz0 (ab rfl) (aL (zz0 (aa rfl) (zz0 (fa rfl rfl) (ad ?_))))
 refine ao rfl ?_ ?_ <;> intro h3 <;> try simp only [bs] at h3
 ·refine al (cd 36 aP ?_)
  refine cd 23 an ?_
  refine cd 23 an ?_
  refine cd 23 an ?_
  refine ar (zz0 (bL (vs := []) rfl rfl (pP)) ?_)
  refine zz0 (aa rfl) (zz8 rfl rfl cm ?_)
  refine zz0 (ab rfl) (ad (aD (aB (fP ?_))))
  refine kj Tryz.results28 rfl rfl fy cm (fun w' hw => ?_)
  exact ⟨((.slice none 0 0, .slice none 0 0, .slice none 0 0, .slice none 0 0), ⟨[], [], [], []⟩, gW l), rfl, hw.below0 (Bg.le.refl _), hw.ents0 rfl (by repeat' constructor), .chk (by show ts.length = at_.length; omega) (by assumption) rfl rfl⟩
 refine bB (al ?_)
 have hl : ts.length = at_.length := by omega
 refine ar ?_
 refine gy sq rfl (fun b4 => ?_)
 refine gy cY rfl (fun b5 => ?_)
 refine gy cY rfl (fun b6 => ?_)
 refine gy cY rfl (fun b7 => ?_)
 refine zz0 (aa rfl) (zz0 (aa rfl) (zz0 (bL (vs := [(0, _), (1, _), (2, _), (3, _), (4, _), (5, _)]) (cs := #[.map (some b4), .map (some b5), .map (some b6), .map (some b7), (.slice ta ts.length tc), (.slice pa at_.length pc)]) rfl rfl (by kernel_rfl)) ?_))
 refine dE (cs := [.map (some b4), .map (some b5), .map (some b6), .map (some b7), (.slice ta ts.length tc), (.slice pa at_.length pc)]) rfl rfl (fun b8 => ?_)
 refine vl (b := b8) (by repeat constructor) (fun F1 hF1 hcw => ?_)
 have hV1 := hV0.mono hF1.blk
 have hD1 := hD0.mono hF1.blk
 have hE1 := hE0.mono hF1.blk
 have hT1 := hT0.mono hF1.blk
 have hTI1 := hTI0.mono hF1.blk
 have hP1 := hP0.mono hF1.blk
 refine zz0 (ab rfl) (ad (al (ah (zz0 (aa rfl) (zz0 (fJ rfl aj) ?_)))))
 refine zz0 (aa rfl) (ad (aG ?_))
 refine bN (ι := Nat) (fun k => k ≤ es.length) (fun _ => _) (fun k => [mapE b6 cY (gv [] (es.take k)), mapE b4 sq [], mapE b5 cY [], mapE b7 cY [], cellE b1 [.slice none 0 0, .slice none 0 0, .slice none 0 0, .slice none 0 0] 52]) (fun k => [(50, .int .i64 (k : Nat))]) (fun k => es.length - k) 0 (Nat.zero_le _) (Front.c Front.nil) (by repeat' constructor) rfl (fun k hi m hm => ?_)
 replace hi : k ≤ es.length := hi
 replace hm : m = es.length - k := hm
 change Tr _ _ [mapE b6 cY (gv [] (es.take k)), mapE b4 sq [], mapE b5 cY [], mapE b7 cY [], cellE b1 [.slice none 0 0, .slice none 0 0, .slice none 0 0, .slice none 0 0] 52] ([(50, .int .i64 (k : Nat))] ++ _) _
 refine ah (zz0 (bS rfl rfl) (ad (al ?_)))
 refine ao rfl ?_ ?_ <;> intro h8 <;> try simp only [bs] at h8
 ·refine bB (al (aG (ah (zz0 (gB rfl rfl aj ae) ?_))))
  refine zz0 (iM rfl am) ?_
  refine zz0 (ab rfl) (ad (ar (zz0 (aa rfl) (zz0 (bh rfl) ?_))))
  refine zz0 (zz1 (off := 2) (ft := 141) rfl cX rfl fQ) ?_
  refine zz0 (eT rfl hcw fU (by rfl)) ?_
  refine zz0 (aa rfl) (ga true rfl rfl rfl (by repeat constructor) ed aV rfl ?_)
  refine az (aX (ac (ar (zz0 (cx rfl rfl) ?_))))
  refine zz0 (aa rfl) (ad ?_)
  rw [← uM, ← dn (by omega)]
  refine cC (k + 1) (Front.c Front.nil) (bA 12 rfl) (o := (by show k + 1 ≤ _; omega))
 refine bG (aJ (aJ (bj (ac (al ?_)))))
 obtain rfl : k = es.length := by omega
 rw [List.take_length]
 refine ar (zz0 (aa rfl) ?_)
 refine gY rfl Tryz.call57 (fun w hw => sG es VE w (hw.slF hE1) (by omega)) rfl (fun V9 => ?_)
 refine zz0 (ab rfl) (aL (zz0 (ab rfl) (ad (al (rH ?_)))))
 refine ac (al (aG ?_))
 refine bN (ι := DSt × Value) (fun ⟨s, Vr⟩ => DInv l ts at_ es s) (fun _ => _) (fun ⟨s, Vr⟩ => [rowE Vr 23 an s.rest, mapE b4 sq s.ins, mapE b5 cY s.bad, mapE b6 cY s.ents, mapE b7 cY s.unk, cellE b1 [.slice none 0 0, .slice none 0 0, .slice none 0 0, .slice none 0 0] 52]) (fun ⟨s, Vr⟩ => [(14, Vr), (15, .bool false)]) (fun ⟨s, Vr⟩ => (601 - s.ins.length) * 70 + s.rest.length) (⟨[], [], gv [] es, [], es⟩, _) DInv.begin (Front.c (Front.c Front.nil)) (by repeat' constructor) rfl (fun i hi m hm => ?_)
 obtain ⟨s, Vr⟩ := i
 replace hi : DInv l ts at_ es s := hi
 replace hm : m = (601 - s.ins.length) * 70 + s.rest.length := hm
 change Tr _ _ [rowE Vr 23 an s.rest, mapE b4 sq s.ins, mapE b5 cY s.bad, mapE b6 cY s.ents, mapE b7 cY s.unk, cellE b1 [.slice none 0 0, .slice none 0 0, .slice none 0 0, .slice none 0 0] 52] ([(14, Vr), (15, .bool false)] ++ _) _
 have hinv := hi
 have hic := hinv.count
 have hil := hinv.lRest
 refine al (ah (zz0 (aa rfl) (zz0 (mg rfl aj) ?_)))
 refine zz0 (eU rfl rfl) (ad ?_)
 refine ao rfl ?_ ?_ <;> intro h10 <;> try simp only [bs] at h10
 ·refine bB (aG (ah (zz0 (aa rfl) (zz0 (aa rfl) (zz0 (mg rfl aj) ?_)))))
  refine zz0 (d6 rfl rfl) ?_
  refine zz0 (jv rfl rfl aj ae) ?_
  refine zz0 (er rfl am) ?_
  obtain ⟨a, ha⟩ : ∃ a, a = s.rest.getD ((s.rest.length : Int) - 1).toNat default := ⟨_, rfl⟩
  obtain ⟨r, hre⟩ : ∃ r, r = s.rest.take ((s.rest.length : Int) - 1).toNat := ⟨_, rfl⟩
  have hr : s.rest = r ++ [a] := by rw [ha, hre]; exact A8 (by omega)
  have hrl : r.length + 1 = s.rest.length := by rw [hr, List.length_append]; rfl
  rw [← ha]
  refine zz0 (ab rfl) (aL (zz0 (aa rfl) (zz0 (aa rfl) (zz0 (mg rfl aj) ?_))))
  refine zz0 (d6 rfl rfl) ?_
  refine DR rfl (by repeat constructor) rfl aj ae (by omega) rfl (fun Vr2 => ?_)
  rw [← hre]
  refine zz0 (ab rfl) (ad (al (ah (zz0 (aa rfl) (zz0 (bh rfl) ?_)))))
  refine zz0 (zz1 (off := 0) (ft := 140) rfl cX rfl jo) ?_
  refine zz0 (eT rfl hcw ja (by rfl)) ?_
  refine zz0 (aa rfl) (zz0 (BS rfl rfl (by repeat constructor) fO aV bP (by rfl)) ?_)
  refine zz0 (aa rfl) (zz0 (aR rfl rfl) (zz0 (aR rfl rfl) ?_))
  refine dA bP rfl (fun b11 => ?_)
  refine aF aP rfl rfl au ?_
  refine zz0 (ab rfl) (aL (zz0 (aa rfl) (zz0 (aa rfl) ?_)))
  apply cF
  ·exact (rfl : _ = (7, 86, 93))
  ·exact rfl
  ·intro hF12; have hF12' := hF12
   try simp only [bs] at hF12'
   refine zz5 hF12 (aa rfl) (zz5 hF12 (bh rfl) ?_)
   refine zz5 hF12 (zz1 (off := 1) (ft := 141) rfl cX rfl fQ) ?_
   refine zz5 hF12 (eT rfl hcw fU (by rfl)) ?_
   refine zz5 hF12 (aa rfl) (zz5 hF12 (AC rfl rfl (by repeat constructor) ed aV mN) ?_)
   refine zz0 (aK rfl hF12 rfl) ?_
   refine az (ac ?_)
   exact aA (Sub.cons rfl (zz7 7 rfl))
  ·intro hT12
   refine zz6 hT12 (zz6 hT12 (zz6 hT12 (zz6 hT12 (zz6 hT12 (zz6 hT12 (zz0 (aN rfl hT12 rfl) ?_))))))
   refine az (ac ?_)
   exact aA (Sub.cons rfl (zz7 7 rfl))
  refine ad ?_
  refine ao rfl ?_ ?_ <;> intro h13 <;> try simp only [bs] at h13
  ·refine bG (aJ (bj (ac ?_)))
   apply ie (⟨s.ins, s.bad, s.ents, s.unk, r⟩, _)
   ·exact rfl
   ·exact (Front.c (Front.c Front.nil))
   ·exact bA 32 rfl
   ·exact (by repeat' constructor)
   ·exact (hinv.skip hr (yY (by assumption)))
   exact (by show (601 - s.ins.length) * 70 + r.length < m; omega)
  refine df (zz0 (aa rfl) (zz0 (aa rfl) (zz0 (aC rfl Tryz.call68 (fun w hw => Hh l V a w (hw.slF hV1) hB (hD1.mono hw.bg))) ?_)))
  refine zz0 (aa rfl) (zz0 (aR rfl rfl) (zz0 (aR rfl rfl) ?_))
  refine dA bP rfl (fun b14 => ?_)
  refine aF aP rfl rfl au ?_
  refine zz0 (ab rfl) (ad (al (ah (zz0 (aa rfl) (zz0 (cj rfl) (ad ?_))))))
  refine ao rfl ?_ ?_ <;> intro h15 <;> try simp only [bs] at h15
  ·refine ah (zz0 (aa rfl) (zz0 (bh rfl) ?_))
   refine zz0 (zz1 (off := 1) (ft := 141) rfl cX rfl fQ) ?_
   refine zz0 (eT rfl hcw fU (by rfl)) ?_
   refine zz0 (aa rfl) (ga true rfl rfl rfl (by repeat constructor) ed aV rfl ?_)
   refine ad (bG (aJ (bj (ac ?_))))
   apply ie (⟨s.ins, fh s.bad a true, s.ents, s.unk, r⟩, _)
   ·exact rfl
   ·exact (Front.c (Front.c Front.nil))
   ·exact bA 47 rfl
   ·exact (by repeat' constructor)
   ·exact (hinv.isBad hr (by assumption))
   exact (by show (601 - s.ins.length) * 70 + r.length < m; omega)
  refine bB (al ?_)
  have hok : (atP l a).2 = true := by assumption
  have hnk : a ∉ s.ins.map (·.1) := B0 (by assumption)
  have hinv2 := DInv.found hTB hinv hr hok hnk
  have hct : (fh s.ins a (atP l a).1).length ≤ totD l := hinv2.count
  have hml := rh (l := s.ins) (k := a) (by cases hq : dN s.ins a with | none => rfl | some x => exact absurd (xR hq) hnk) (atP l a).1
  have hml2 : (fh s.ins a (atP l a).1).length = s.ins.length + 1 := by rw [hml, List.length_append]; rfl
  have hld := uS hTB at_ (atP l a).1
  refine fK 0 6 aT ?_
  refine bH ?_
  refine ax (aa rfl) (ax (bh rfl) ?_)
  refine ax (zz1 (off := 0) (ft := 140) rfl cX rfl jo) ?_
  refine ax (eT rfl hcw ja (by rfl)) ?_
  refine ax (aa rfl) (ax (bE rfl aQ au) ?_)
  refine bK ?_
  refine ga (atP l a).1 rfl rfl rfl (by repeat constructor) fO aV rfl ?_
  refine ad (al (ah (zz0 (aa rfl) (zz0 (bh rfl) ?_))))
  refine zz0 (zz1 (off := 0) (ft := 140) rfl cX rfl jo) ?_
  refine zz0 (eT rfl hcw ja (by rfl)) ?_
  refine zz0 (D3 rfl (by repeat constructor) fO) ?_
  refine zz0 (eU rfl rfl) (ad ?_)
  refine ao rfl ?_ ?_ <;> intro h16 <;> try simp only [bs] at h16
  ·first | contradiction | (exfalso; omega) | simp_all
  refine bB (ar (zz0 (aa rfl) (zz0 (aa rfl) (zz0 (bE rfl aQ au) ?_))))
  refine iE (fun V : Value => V) [mapE b6 cY s.ents, mapE b7 cY s.unk] (fun V => [rowE V 23 an (kh ts at_ (atP l a).1), mapE b6 cY (gv s.ents (kb ts at_ (atP l a).1)), mapE b7 cY (if oV ts at_ (atP l a).1 = true then fh s.unk (atP l a).1.addr true else s.unk)]) (ok := fun _ => True) (dd := fun _ => 0) rfl Tryz.call69 (by repeat' constructor) (fun w hw => Nat.le_of_eq hF1.dr) (fun w hw => Bh b8 b4 b5 b6 b7 (.slice ta ts.length tc) (.slice pa at_.length pc) ts at_ (atP l a).1 s.ents s.unk w (hw.own (by repeat' constructor)) (hcw.mono (show Hp.le F1.blk (Bg.lessB w [b6, b7] 0).blk from hw.lessB (Lo := [mapE b6 cY s.ents, mapE b7 cY s.unk]) (by repeat' constructor))) (hT1.mono (show Hp.le F1.blk (Bg.lessB w [b6, b7] 0).blk from hw.lessB (Lo := [mapE b6 cY s.ents, mapE b7 cY s.unk]) (by repeat' constructor))) (hTI1.mono (show Hp.le F1.blk (Bg.lessB w [b6, b7] 0).blk from hw.lessB (Lo := [mapE b6 cY s.ents, mapE b7 cY s.unk]) (by repeat' constructor))) hTB (hP1.mono (show Hp.le F1.blk (Bg.lessB w [b6, b7] 0).blk from hw.lessB (Lo := [mapE b6 cY s.ents, mapE b7 cY s.unk]) (by repeat' constructor))) hl (HT l a)) rfl (fun V25 _ => ?_)
  refine CN rfl rfl (by repeat constructor) (fun w hw => hw.row (by repeat constructor)) aj eW (fun V17 => ?_)
  refine zz0 (ab rfl) (az (aX (ac ?_)))
  apply ie (stepD l ts at_ a s r, _)
  ·exact rfl
  ·exact (Front.c (Front.c Front.nil))
  ·exact bA 60 rfl
  ·exact (by repeat' constructor)
  ·exact hinv2
  exact (by show (601 - (fh s.ins a (atP l a).1).length) * 70 + (r ++ kh ts at_ (atP l a).1).length < m; rw [List.length_append]; omega)
 refine bG (aJ (aJ (bj (ac (al (al ?_))))))
 have hr0 : s.rest = [] := List.length_eq_zero_iff.1 (by omega)
 have hcode := hinv.code hr0
 have hcnt := hinv.count
 have hl1 := hinv.lRest
 have hl2 := hinv.lEnts
 have hl3 := hinv.lUnk
 refine ar (zz0 (aa rfl) (ad ?_))
 refine ao rfl ?_ ?_ <;> intro h18 <;> try simp only [bs] at h18
 ·first | contradiction | (exfalso; omega) | simp_all
 refine bB ?_
 refine ma (b := b4) (by repeat constructor) (fun F2 hF2 hmI => ?_)
 refine ma (b := b5) (by repeat constructor) (fun F3 hF3 hmB => ?_)
 refine ma (b := b6) (by repeat constructor) (fun F4 hF4 hmE => ?_)
 refine ma (b := b7) (by repeat constructor) (fun F5 hF5 hmU5 => ?_)
 have hmI5 := hmI.mono (hF3.trans (hF4.trans hF5)).blk
 have hmB5 := hmB.mono (hF4.trans hF5).blk
 have hmE5 := hmE.mono hF5.blk
 have hF15 := hF2.trans (hF3.trans (hF4.trans hF5))
 have hdr5 : F5.dr = 0 := hF15.dr.trans hF1.dr
 have hcw5 := hcw.mono hF15.blk
 refine db (ι := Value × Value × Nat) (fun ⟨Vu, Vb, bc⟩ => True) (fun _ => F5) (fun ⟨Vu, Vb, bc⟩ => [cellE bc [.slice none 0 0, .slice none 0 0, Vu, Vb] 52, rowE Vu 23 an (fZ (s.unk.map (·.1))), rowE Vb 23 an (fZ (s.bad.map (·.1))), cellE b1 [.slice none 0 0, .slice none 0 0, .slice none 0 0, .slice none 0 0] 52]) (fun ⟨Vu, Vb, bc⟩ => [(21, .pointer (some ⟨bc, 0, none⟩))]) ?_ (fun i hi => ?_)
 ·skip
  refine dG ([cellE b1 [.slice none 0 0, .slice none 0 0, .slice none 0 0, .slice none 0 0] 52]) 13 rfl aT ?_
  refine zz3 0 rfl (aa rfl) ?_
  refine zz3 1 rfl (bh rfl) ?_
  refine zz3 2 rfl (zz1 (off := 3) (ft := 141) rfl cX rfl fQ) ?_
  refine ke 3 rfl (by kernel_rfl) (bF (jP dx)) (eT rfl hcw5 fU (by rfl)) ?_
  refine zz3 5 rfl (aa rfl) ?_
  refine zz3 6 rfl (bh rfl) ?_
  refine zz3 7 rfl (zz1 (off := 1) (ft := 141) rfl cX rfl fQ) ?_
  refine ke 8 rfl (by kernel_rfl) (bF (jP dx)) (eT rfl hcw5 fU (by rfl)) ?_
  refine dh [4, 11] (fun iq hq => ?_)
  rcases List.mem_cons.1 hq with rfl | hq
  ·skip
   refine bD rfl ?_
   refine eE (fun V : Value => V) (fun V => [rowE V 23 an (fZ (s.unk.map (·.1)))]) (ok := fun _ => True) (hdr5) rfl lI (fun w hw => jZ s.unk b7 w (hmU5.mono hw.bg) (by omega)) rfl (fun V28 _ => ?_)
   refine iL (V := V28) (fun pu cu hpv => ?_)
   subst hpv
   refine bU ?_
   refine dh [9, 11] (fun iq hq => ?_)
   rcases List.mem_cons.1 hq with rfl | hq
   ·skip
    refine bD rfl ?_
    refine eE (fun V : Value => V) (fun V => [rowE V 23 an (fZ (s.bad.map (·.1)))]) (ok := fun _ => True) (hdr5) rfl lI (fun w hw => jZ s.bad b5 w (hmB5.mono hw.bg) (by omega)) rfl (fun V29 _ => ?_)
    refine iL (V := V29) (fun pb cb hpv => ?_)
    subst hpv
    refine bU ?_
    refine ke 10 rfl (by kernel_rfl) (bF (jP dx)) (bL (vs := [(2, _), (3, _)]) (cs := #[.slice none 0 0, .slice none 0 0, .slice pu (fZ (s.unk.map (·.1))).length cu, .slice pb (fZ (s.bad.map (·.1))).length cb]) rfl rfl (by kernel_rfl)) ?_
    refine dh [11] (fun iq hq => ?_)
    obtain rfl := List.mem_singleton.1 hq
    refine bD rfl ?_
    refine dA dW rfl (fun b19 => ?_)
    refine bU ?_
    refine dh [12] (fun iq hq => ?_)
    obtain rfl := List.mem_singleton.1 hq
    refine bD rfl ?_
    refine zz8 rfl rfl cm ?_
    refine bU ?_
    refine gI ?_
    refine ac ?_
    refine cw (_, _, _) (Front.c Front.nil) (bA 12 rfl) (o := trivial)
   obtain rfl := List.mem_singleton.1 hq
   refine bD rfl ?_
   refine dA dW rfl (fun b20 => ?_)
   refine bU ?_
   refine dh [9] (fun iq hq => ?_)
   obtain rfl := List.mem_singleton.1 hq
   refine bD rfl ?_
   refine eE (fun V : Value => V) (fun V => [rowE V 23 an (fZ (s.bad.map (·.1)))]) (ok := fun _ => True) (hdr5) rfl lI (fun w hw => jZ s.bad b5 w (hmB5.mono hw.bg) (by omega)) rfl (fun V29 _ => ?_)
   refine iL (V := V29) (fun pb cb hpv => ?_)
   subst hpv
   refine bU ?_
   refine ke 10 rfl (by kernel_rfl) (bF (jP dx)) (bL (vs := [(2, _), (3, _)]) (cs := #[.slice none 0 0, .slice none 0 0, .slice pu (fZ (s.unk.map (·.1))).length cu, .slice pb (fZ (s.bad.map (·.1))).length cb]) rfl rfl (by kernel_rfl)) ?_
   refine dh [12] (fun iq hq => ?_)
   obtain rfl := List.mem_singleton.1 hq
   refine bD rfl ?_
   refine zz8 rfl rfl cm ?_
   refine bU ?_
   refine gI ?_
   refine ac ?_
   refine cw (_, _, _) (Front.c Front.nil) (bA 12 rfl) (o := trivial)
  obtain rfl := List.mem_singleton.1 hq
  refine bD rfl ?_
  refine dA dW rfl (fun b21 => ?_)
  refine bU ?_
  refine dh [4] (fun iq hq => ?_)
  obtain rfl := List.mem_singleton.1 hq
  refine bD rfl ?_
  refine eE (fun V : Value => V) (fun V => [rowE V 23 an (fZ (s.unk.map (·.1)))]) (ok := fun _ => True) (hdr5) rfl lI (fun w hw => jZ s.unk b7 w (hmU5.mono hw.bg) (by omega)) rfl (fun V28 _ => ?_)
  refine iL (V := V28) (fun pu cu hpv => ?_)
  subst hpv
  refine bU ?_
  refine dh [9] (fun iq hq => ?_)
  obtain rfl := List.mem_singleton.1 hq
  refine bD rfl ?_
  refine eE (fun V : Value => V) (fun V => [rowE V 23 an (fZ (s.bad.map (·.1)))]) (ok := fun _ => True) (hdr5) rfl lI (fun w hw => jZ s.bad b5 w (hmB5.mono hw.bg) (by omega)) rfl (fun V29 _ => ?_)
  refine iL (V := V29) (fun pb cb hpv => ?_)
  subst hpv
  refine bU ?_
  refine ke 10 rfl (by kernel_rfl) (bF (jP dx)) (bL (vs := [(2, _), (3, _)]) (cs := #[.slice none 0 0, .slice none 0 0, .slice pu (fZ (s.unk.map (·.1))).length cu, .slice pb (fZ (s.bad.map (·.1))).length cb]) rfl rfl (by kernel_rfl)) ?_
  refine dh [12] (fun iq hq => ?_)
  obtain rfl := List.mem_singleton.1 hq
  refine bD rfl ?_
  refine zz8 rfl rfl cm ?_
  refine bU ?_
  refine gI ?_
  refine ac ?_
  refine cw (_, _, _) (Front.c Front.nil) (bA 12 rfl) (o := trivial)
 obtain ⟨Vu, Vb, bc⟩ := i
 replace hi : True := hi
 change Tr _ _ [cellE bc [.slice none 0 0, .slice none 0 0, Vu, Vb] 52, rowE Vu 23 an (fZ (s.unk.map (·.1))), rowE Vb 23 an (fZ (s.bad.map (·.1))), cellE b1 [.slice none 0 0, .slice none 0 0, .slice none 0 0, .slice none 0 0] 52] ([(21, .pointer (some ⟨bc, 0, none⟩))] ++ _) _
 refine al (ah (zz0 (aa rfl) (zz0 (bh rfl) ?_)))
 refine zz0 (zz1 (off := 0) (ft := 140) rfl cX rfl jo) ?_
 refine zz0 (eT rfl hcw5 ja (by rfl)) ?_
 refine xc (fun i : Nat => .func (.func 142) #[] #[.pointer (some ⟨i, 0, none⟩)]) (R := fun h i => CellsIn h i [.map (some b4)]) (fun h h' i hh r => r.mono hh) rfl Tryz.call72 (fun w hw => E3 b4 w) rfl (fun i9 F9 hF9 hR9 => ?_)
 have hmI9 := hmI5.mono hF9.blk
 have hmB9 := hmB5.mono hF9.blk
 have hcw9 := hcw5.mono hF9.blk
 refine eE (fun V : Value => V) (fun V => [rowE V 23 an (fZ (s.ins.map (·.1)))]) (ok := fun _ => True) (hF9.dr.trans hdr5) rfl Tryz.call71 (fun w hw => ul _ _ (s.ins.map (·.1)) s.ins.length (by omega) Tryz.call142 (by rw [List.length_map]; omega) w (uV b4 i9 w (hmI9.mono hw.bg) (hR9.mono hw.bg))) rfl (fun V30 _ => ?_)
 obtain ⟨ks, hks⟩ : ∃ ks, ks = fZ (s.ins.map (·.1)) := ⟨_, rfl⟩
 rw [← hks]
 refine zz0 (mg rfl aj) ?_
 refine zz0 (aa rfl) (ad (aG (cd 36 aP ?_)))
 refine bN (ι := Nat × Value) (fun ⟨k, Vi⟩ => k ≤ ks.length) (fun _ => _) (fun ⟨k, Vi⟩ => [rowE V30 23 an ks, cellE bc [Vi, .slice none 0 0, Vu, Vb] 52, rowE Vi 36 aP ((ks.take k).map fun a => (atP l a).1), rowE Vu 23 an (fZ (s.unk.map (·.1))), rowE Vb 23 an (fZ (s.bad.map (·.1))), cellE b1 [.slice none 0 0, .slice none 0 0, .slice none 0 0, .slice none 0 0] 52]) (fun ⟨k, Vi⟩ => [(144, .int .i64 (k : Nat))]) (fun ⟨k, Vi⟩ => ks.length - k) (0, _) (Nat.zero_le _) (Front.c Front.nil) (by repeat' constructor) rfl (fun i hi m hm => ?_)
 obtain ⟨k, Vi⟩ := i
 replace hi : k ≤ ks.length := hi
 replace hm : m = ks.length - k := hm
 change Tr _ _ [rowE V30 23 an ks, cellE bc [Vi, .slice none 0 0, Vu, Vb] 52, rowE Vi 36 aP ((ks.take k).map fun a => (atP l a).1), rowE Vu 23 an (fZ (s.unk.map (·.1))), rowE Vb 23 an (fZ (s.bad.map (·.1))), cellE b1 [.slice none 0 0, .slice none 0 0, .slice none 0 0, .slice none 0 0] 52] ([(144, .int .i64 (k : Nat))] ++ _) _
 have hksl : ks.length ≤ 600 := by rw [hks, qT, List.length_map]; omega
 have hkml : ((ks.take k).map fun a => (atP l a).1).length ≤ 600 := by rw [List.length_map, List.length_take]; omega
 refine ah (zz0 (bS rfl rfl) (ad (al ?_)))
 refine ao rfl ?_ ?_ <;> intro h22 <;> try simp only [bs] at h22
 ·refine bB (al (aG (ah (zz0 (dm rfl rfl aj ae) ?_))))
  refine zz0 (er rfl am) ?_
  refine zz0 (ab rfl) (ad ?_)
  have hga : (dN s.ins (ks.getD k default)).getD cB = (atP l (ks.getD k default)).1 := Ik hinv (by rw [← nn, ← hks]; exact cS (by omega))
  refine dG ([cellE b1 [.slice none 0 0, .slice none 0 0, .slice none 0 0, .slice none 0 0] 52]) 12 rfl aT ?_
  refine zz3 0 rfl (zz1 (off := 0) (ft := 50) rfl bI rfl cD) ?_
  refine zz3 2 rfl (aa rfl) ?_
  refine zz3 3 rfl (bh rfl) ?_
  refine zz3 4 rfl (zz1 (off := 0) (ft := 140) rfl cX rfl jo) ?_
  refine ke 5 rfl (by kernel_rfl) (dM (bF (bF (dM (bF (jP dx)))))) (eT rfl hcw9 ja (by rfl)) ?_
  refine zz3 6 rfl (aa rfl) ?_
  refine dh [1, 7] (fun iq hq => ?_)
  rcases List.mem_cons.1 hq with rfl | hq
  ·skip
   refine bD rfl ?_
   refine zz0 (aH rfl cP) ?_
   refine bU ?_
   refine dh [7] (fun iq hq => ?_)
   obtain rfl := List.mem_singleton.1 hq
   refine bD rfl ?_
   refine zz0 (xf rfl rfl (by assumption) fO aV bP (by rfl)) ?_
   rw [hga]
   refine bU ?_
   refine dh [8] (fun iq hq => ?_)
   obtain rfl := List.mem_singleton.1 hq
   refine bD rfl ?_
   refine jB (E := aP) (atP l (ks.getD k default)).1 rfl rfl aM au bP (fun V23 => ?_)
   refine bU ?_
   refine dh [9] (fun iq hq => ?_)
   obtain rfl := List.mem_singleton.1 hq
   refine bD rfl ?_
   refine zz2 rfl rfl aM ky (fun V24 => ?_)
   refine dz (.head _) (fun pi ci hpv => ?_)
   subst hpv
   refine bU ?_
   refine zz3 10 rfl (zz1 (off := 0) (ft := 50) rfl bI rfl cD) ?_
   refine dh [11] (fun iq hq => ?_)
   obtain rfl := List.mem_singleton.1 hq
   refine bD rfl ?_
   refine zz4 (cs' := [_, _, _, _]) rfl rfl cD rfl ?_
   refine bU ?_
   refine gI ?_
   refine aX (ac (ar (zz0 (cx rfl rfl) ?_)))
   refine zz0 (aa rfl) (ad ?_)
   rw [mJ (fun a => (atP l a).1) (by omega)]
   refine cC (k + 1, _) (Front.c Front.nil) (bA 18 rfl) (o := (by show k + 1 ≤ _; omega))
  obtain rfl := List.mem_singleton.1 hq
  refine bD rfl ?_
  refine zz0 (xf rfl rfl (by assumption) fO aV bP (by rfl)) ?_
  rw [hga]
  refine bU ?_
  refine dh [1, 8] (fun iq hq => ?_)
  rcases List.mem_cons.1 hq with rfl | hq
  ·skip
   refine bD rfl ?_
   refine zz0 (aH rfl cP) ?_
   refine bU ?_
   refine dh [8] (fun iq hq => ?_)
   obtain rfl := List.mem_singleton.1 hq
   refine bD rfl ?_
   refine jB (E := aP) (atP l (ks.getD k default)).1 rfl rfl aM au bP (fun V25 => ?_)
   refine bU ?_
   refine dh [9] (fun iq hq => ?_)
   obtain rfl := List.mem_singleton.1 hq
   refine bD rfl ?_
   refine zz2 rfl rfl aM ky (fun V26 => ?_)
   refine dz (.head _) (fun pi ci hpv => ?_)
   subst hpv
   refine bU ?_
   refine zz3 10 rfl (zz1 (off := 0) (ft := 50) rfl bI rfl cD) ?_
   refine dh [11] (fun iq hq => ?_)
   obtain rfl := List.mem_singleton.1 hq
   refine bD rfl ?_
   refine zz4 (cs' := [_, _, _, _]) rfl rfl cD rfl ?_
   refine bU ?_
   refine gI ?_
   refine aX (ac (ar (zz0 (cx rfl rfl) ?_)))
   refine zz0 (aa rfl) (ad ?_)
   rw [mJ (fun a => (atP l a).1) (by omega)]
   refine cC (k + 1, _) (Front.c Front.nil) (bA 18 rfl) (o := (by show k + 1 ≤ _; omega))
  obtain rfl := List.mem_singleton.1 hq
  refine bD rfl ?_
  refine jB (E := aP) (atP l (ks.getD k default)).1 rfl rfl aM au bP (fun V27 => ?_)
  refine bU ?_
  refine dh [1] (fun iq hq => ?_)
  obtain rfl := List.mem_singleton.1 hq
  refine bD rfl ?_
  refine zz0 (aH rfl cP) ?_
  refine bU ?_
  refine dh [9] (fun iq hq => ?_)
  obtain rfl := List.mem_singleton.1 hq
  refine bD rfl ?_
  refine zz2 rfl rfl aM ky (fun V28 => ?_)
  refine dz (.head _) (fun pi ci hpv => ?_)
  subst hpv
  refine bU ?_
  refine zz3 10 rfl (zz1 (off := 0) (ft := 50) rfl bI rfl cD) ?_
  refine dh [11] (fun iq hq => ?_)
  obtain rfl := List.mem_singleton.1 hq
  refine bD rfl ?_
  refine zz4 (cs' := [_, _, _, _]) rfl rfl cD rfl ?_
  refine bU ?_
  refine gI ?_
  refine aX (ac (ar (zz0 (cx rfl rfl) ?_)))
  refine zz0 (aa rfl) (ad ?_)
  rw [mJ (fun a => (atP l a).1) (by omega)]
  refine cC (k + 1, _) (Front.c Front.nil) (bA 18 rfl) (o := (by show k + 1 ≤ _; omega))
 refine bG (aJ (aJ (bj (ac (al (al ?_))))))
 obtain rfl : k = ks.length := by omega
 rw [List.take_length]
 refine ar (zz0 (aa rfl) (zz0 (bh rfl) ?_))
 refine zz0 (zz1 (off := 2) (ft := 141) rfl cX rfl fQ) ?_
 refine zz0 (eT rfl hcw9 fU (by rfl)) ?_
 refine eE (fun V : Value => V) (fun V => [rowE V 23 an (fZ (s.ents.map (·.1)))]) (ok := fun _ => True) (hF9.dr.trans hdr5) rfl lI (fun w hw => jZ s.ents b6 w ((hmE5.mono hF9.blk).mono hw.bg) (by omega)) rfl (fun V31 _ => ?_)
 obtain ⟨se, hse⟩ : ∃ se, se = fZ (s.ents.map (·.1)) := ⟨_, rfl⟩
 rw [← hse]
 refine zz0 (mg rfl aj) ?_
 refine zz0 (aa rfl) (ad (aG (cd 23 an ?_)))
 refine bN (ι := Nat × Value) (fun ⟨j, Ve⟩ => j ≤ se.length) (fun _ => _) (fun ⟨j, Ve⟩ => [rowE V31 23 an se, cellE bc [Vi, Ve, Vu, Vb] 52, rowE Ve 23 an ((se.take j).filter fun a => (dN s.ins a).isSome), rowE Vi 36 aP ((ks).map fun a => (atP l a).1), rowE Vu 23 an (fZ (s.unk.map (·.1))), rowE Vb 23 an (fZ (s.bad.map (·.1))), cellE b1 [.slice none 0 0, .slice none 0 0, .slice none 0 0, .slice none 0 0] 52]) (fun ⟨j, Ve⟩ => [(166, .int .i64 (j : Nat))]) (fun ⟨j, Ve⟩ => se.length - j) (0, _) (Nat.zero_le _) (Front.c Front.nil) (by repeat' constructor) rfl (fun i hi m hm => ?_)
 obtain ⟨j, Ve⟩ := i
 replace hi : j ≤ se.length := hi
 replace hm : m = se.length - j := hm
 change Tr _ _ [rowE V31 23 an se, cellE bc [Vi, Ve, Vu, Vb] 52, rowE Ve 23 an ((se.take j).filter fun a => (dN s.ins a).isSome), rowE Vi 36 aP ((ks).map fun a => (atP l a).1), rowE Vu 23 an (fZ (s.unk.map (·.1))), rowE Vb 23 an (fZ (s.bad.map (·.1))), cellE b1 [.slice none 0 0, .slice none 0 0, .slice none 0 0, .slice none 0 0] 52] ([(166, .int .i64 (j : Nat))] ++ _) _
 have hsel : se.length ≤ 50000 := by rw [hse, qT, List.length_map]; omega
 have hfl : ((se.take j).filter fun a => (dN s.ins a).isSome).length ≤ 50000 := Nat.le_trans (List.length_filter_le _ _) (by rw [List.length_take]; omega)
 refine ah (zz0 (bS rfl rfl) (ad (al ?_)))
 refine ao rfl ?_ ?_ <;> intro h29 <;> try simp only [bs] at h29
 ·refine bB (al (aG (ah (zz0 (dm rfl rfl aj ae) ?_))))
  refine zz0 (er rfl am) ?_
  refine zz0 (ab rfl) (aL (zz0 (aa rfl) (zz0 (bh rfl) ?_)))
  refine zz0 (zz1 (off := 0) (ft := 140) rfl cX rfl jo) ?_
  refine zz0 (eT rfl hcw9 ja (by rfl)) ?_
  refine zz0 (aa rfl) (zz0 (AE rfl rfl (by assumption) fO aV bP (by rfl)) ?_)
  refine zz0 (aa rfl) (zz0 (aR rfl rfl) (zz0 (aR rfl rfl) ?_))
  refine dA bP rfl (fun b30 => ?_)
  refine aF aP rfl rfl au ?_
  refine zz0 (ab rfl) (aL (zz0 (aa rfl) (ad ?_)))
  refine ao rfl ?_ ?_ <;> intro h31 <;> try simp only [bs] at h31
  ·refine ar (zz0 (zz1 (off := 1) (ft := 31) rfl bI rfl cn) ?_)
   refine zz0 (aH rfl dq) ?_
   refine zz0 (aa rfl) ?_
   refine jB (E := an) (se.getD j default) rfl rfl aj ae cU (fun V32 => ?_)
   refine zz2 rfl rfl aj eW (fun V33 => ?_)
   refine dz (.head _) (fun pe ce hpv => ?_)
   subst hpv
   refine zz0 (zz1 (off := 1) (ft := 31) rfl bI rfl cn) ?_
   refine zz4 (cs' := [_, _, _, _]) rfl rfl cn rfl ?_
   refine az (aX (ac (ar (zz0 (cx rfl rfl) ?_))))
   refine zz0 (aa rfl) (ad ?_)
   rw [tH (p := fun a => (dN s.ins a).isSome) (by omega) (by assumption)]
   refine cC (j + 1, _) (Front.c Front.nil) (bA 25 rfl) (o := (by show j + 1 ≤ _; omega))
  refine bW (aX (ac (ar (zz0 (cx rfl rfl) ?_))))
  refine zz0 (aa rfl) (ad ?_)
  rw [u7 (p := fun a => (dN s.ins a).isSome) (by omega) (by simp_all)]
  refine cC (j + 1, _) (Front.c Front.nil) (bA 19 rfl) (o := (by show j + 1 ≤ _; omega))
 refine bG (aJ (aJ (bj (ac (al ?_)))))
 obtain rfl : j = se.length := by omega
 rw [List.take_length]
 refine iL (V := Vi) (fun pVi cVi hpv => ?_)
 subst hpv
 refine iL (V := Ve) (fun pVe cVe hpv => ?_)
 subst hpv
 refine iL (V := Vu) (fun pVu cVu hpv => ?_)
 subst hpv
 refine iL (V := Vb) (fun pVb cVb hpv => ?_)
 subst hpv
 refine ar (zz0 (bE rfl fy cm) ?_)
 refine zz8 rfl rfl cm ?_
 refine zz0 (ab rfl) (ad (aD (fP ?_)))
 refine kj Tryz.results28 rfl rfl fy cm (fun w' hw => ?_)
 rw [← hks, ← hse] at hcode
 exact ⟨((_, _, _, _), ⟨_, _, _, _⟩, 0), rfl, hw.below0 (hF1.trans (hF15.trans hF9)), hw.ents0 (hF1.trans (hF15.trans hF9)).lo (by repeat' constructor), .ok hl (by simp_all) rfl hcode⟩
end Go.Proofs.YtiajjbhcpeadfaaGreat
namespace Go.HL
open Go Go.Sort
open Go.Proofs (ltOf)
def ltA (x y : Ins) : Bool := decide (x.addr < y.addr)
theorem Ce (x : Ins) : ltA x x = false := by simp [ltA]
theorem E1 (x y z : Ins) (h1 : ltA x y = true) (h2 : ltA y z = true) : ltA x z = true := by
 simp only [ltA, decide_eq_true_eq, UInt32.lt_iff_toNat_lt] at *; omega
theorem xX {l : List Ins} {a : UInt32} : inK l a = true ↔ ∃ x ∈ l, x.addr = a := by
 unfold inK; rw [List.any_eq_true]; simp
def rC (l : List Ins) : Prop := l.Pairwise fun a b => a.addr ≠ b.addr
theorem Aj : ∀ (xs out : List Ins), rC out → rC (xs.foldl g5 out)
 | [], out, h => h
 | x :: t, out, h => by
  rw [List.foldl_cons]
  apply Aj
  unfold g5
  split
  ·rename_i c
   simp only [Bool.and_eq_true, Bool.not_eq_true', decide_eq_true_eq] at c
   refine List.pairwise_append.2 ⟨h, by simp, fun a ha b hb => ?_⟩
   simp at hb; subst hb
   intro q
   have := xX.2 ⟨a, ha, q⟩
   rw [c.1] at this; cases this
  ·exact h
theorem wP {l m : List Ins} (h : l.Perm m) (hd : rC l) : rC m := (h.pairwise_iff fun {a b} q => Ne.symm q).1 hd
theorem um {l : List Ins} (hd : rC l) : (mi (ltOf lz) l).Pairwise (fun a b => ltA a b = true) ∧ ∀ x, x ∈ mi (ltOf lz) l ↔ x ∈ l := by
 have hp := nS kN l
 have hs := xx kN l
 have hd' := wP hp.symm hd
 refine ⟨?_, fun x => hp.mem_iff⟩
 refine (hs.and hd').imp fun {a b} ⟨h1, h2⟩ => ?_
 rw [pR] at h1
 simp only [ltA, decide_eq_true_eq, decide_eq_false_iff_not, UInt32.lt_iff_toNat_lt] at *
 have : a.addr.toNat ≠ b.addr.toNat := fun q => h2 (UInt32.toNat_inj.1 q)
 omega
theorem Ab (l : List Ins) : (fD l).Pairwise (fun a b => ltA a b = true) ∧ ∀ x, x ∈ fD l ↔ x ∈ sF l := um (Aj l [] .nil)
theorem sR {l : List Ins} (h : l.Pairwise fun a b => ltA a b = true) : rC l := h.imp fun {a b} q e => by
 simp only [ltA, decide_eq_true_eq, UInt32.lt_iff_toNat_lt] at q; rw [e] at q; omega
theorem Bp (l : List Ins) : rC (fD l) := sR (Ab l).1
theorem Ai : ∀ (xs out : List Ins), rC (out ++ xs) → (∀ y ∈ xs, ij y = 0) → xs.foldl g5 out = out ++ xs
 | [], out, _, _ => by simp
 | x :: t, out, hd, hv => by
  have hn : inK out x.addr = false := by
   cases c : inK out x.addr
   ·rfl
   ·obtain ⟨y, hy, e⟩ := xX.1 c
    exact absurd e ((List.pairwise_append.1 hd).2.2 y hy x (.head _))
  have e : g5 out x = out ++ [x] := by unfold g5; rw [hn, hv x (.head _)]; simp
  rw [List.foldl_cons, e, Ai t (out ++ [x]) (by rw [List.append_assoc]; exact hd) (fun y hy => hv y (.tail _ hy)), List.append_assoc]; rfl
theorem Bo {l : List Ins} (hd : rC l) (hv : ∀ y ∈ l, ij y = 0) : fD l = mi (ltOf lz) l := by
 unfold fD sF; rw [Ai l [] hd hv]; rfl
theorem ER {g : Ins → Int} (hg : ∀ i, g i = 0 ∨ g i = 1 ∨ g i = 2) {l : List Ins} (h : rC l) : rC (dZ g l) := wP (rc hg l).1.1 h
theorem si : ∀ (xs out : List Ins), rC (out ++ xs) → rC (xs.foldl gw out)
 | [], out, h => by simpa using h
 | x :: t, out, h => by
  rw [List.foldl_cons]
  unfold gw
  split
  ·refine si t out (h.sublist ?_)
   exact (List.Sublist.refl out).append (List.sublist_cons_self x t)
  ·exact si t (out ++ [x]) (by rw [List.append_assoc]; exact h)
end Go.HL
namespace Go.HL
open Go Go.Sort
open Go.Proofs (ltOf)
theorem zy : ∀ (xs out : List Ins), (∀ a ∈ out ++ xs, ∀ b ∈ out ++ xs, jy a b = false) → xs.foldl gw out = out ++ xs
 | [], out, _ => by simp
 | x :: t, out, h => by
  have c : ¬ out.any (jy x) = true := fun q => by
   obtain ⟨y, hy, q⟩ := List.any_eq_true.1 q
   rw [h x (by simp) y (by simp [hy])] at q; cases q
  rw [List.foldl_cons, gw, if_neg c, zy t (out ++ [x]) (by simpa using h)]; simp
theorem q9 {ins : List Ins} {ents unk bad : List UInt32} {x : Ins} : x ∈ (fV ins ents unk bad).kept ↔ x ∈ lj (dZ (fW ents (qQ (fD ins))) (fD ins)) :=
 (nS kN _).mem_iff
theorem EE (ins : List Ins) (ents : List UInt32) : rC (lj (dZ (fW ents (qQ (fD ins))) (fD ins))) :=
 si _ [] (by simpa using ER (lH ents (qQ (fD ins))) (Bp ins))
theorem qu (ins : List Ins) (ents unk bad : List UInt32) : (fV ins ents unk bad).kept.Pairwise fun a b => ltA a b = true := (um (EE ins ents)).1
theorem H6 {ins : List Ins} {ents unk bad : List UInt32} {x : Ins} (h : x ∈ (fV ins ents unk bad).kept) : x ∈ fD ins := Ca (zw (q9.1 h))
theorem xH {g : Ins → Int} (hg : ∀ i, g i = 0 ∨ g i = 1 ∨ g i = 2) {l : List Ins} {x : Ins} : x ∈ dZ g l ↔ x ∈ l := (rc hg l).1.1.mem_iff.symm
theorem GK {ins : List Ins} {ents unk bad : List UInt32} (h : ∀ a ∈ fD ins, ∀ b ∈ fD ins, jy a b = false) : (fV ins ents unk bad).kept = fD ins ∧ (fV ins ents unk bad).rem = [] := by
 have hg := lH ents (qQ (fD ins))
 have e1 : lj (dZ (fW ents (qQ (fD ins))) (fD ins)) = dZ (fW ents (qQ (fD ins))) (fD ins) := by
  unfold lj
  rw [zy _ [] (fun a ha b hb => h a ((xH hg).1 (by simpa using ha)) b ((xH hg).1 (by simpa using hb)))]; rfl
 have e2 : (fV ins ents unk bad).kept = fD ins := xy Ce E1 _ _ (qu ins ents unk bad) (Ab ins).1 fun x => by rw [q9, e1, xH hg]
 refine ⟨e2, ?_⟩
 show nl (fD ins) (fV ins ents unk bad).kept = []
 rw [e2]
 unfold nl
 rw [List.map_eq_nil_iff, List.filter_eq_nil_iff]
 intro x hx
 rw [xX.2 ⟨x, hx, rfl⟩]; simp
end Go.HL
namespace Go.HL
open Go Go.Sort
end Go.HL
namespace Go.HL
open Go Go.Sort
end Go.HL
namespace Go.HL
open Go Go.Sort
open Go.Proofs (ltOf)
def oG (p : Nat → Prop) : List Nat → Prop
 | [] => True
 | x :: t => p x ∧ oG p t
theorem oG.nil {p : Nat → Prop} : oG p [] := trivial
theorem oG.cons {p : Nat → Prop} {x : Nat} {t : List Nat} (h : p x) (k : oG p t) : oG p (x :: t) := ⟨h, k⟩
theorem oG.all {p : Nat → Prop} : ∀ {l : List Nat}, oG p l → ∀ i ∈ l, p i
 | _ :: _, h, i, hi => by
  rcases List.mem_cons.1 hi with rfl | hi
  ·exact h.1
  ·exact oG.all h.2 i hi
section
variable {P : Program} {N : Nat} {F : Bg} {L : List Ent} {M : Fr} {ops : Array Oper} {Q : Exit → Act → World → Prop} {fuel : Nat} {listed : Array Bool}
def np (n m : Nat) : Array Bool := (Array.range n).map fun i => m.testBit i
structure Tr.AnyG (P : Program) (N : Nat) (F : Bg) (L : List Ent) (M : Fr) (ops : Array Oper) (Q : Exit → Act → World → Prop) (S : World → Prop) (fuel n m : Nat) : Prop where
 get : Tr N F L M (wpAnyH P .any ops Q S fuel (np n m))
structure Tr.OpG (P : Program) (N : Nat) (F : Bg) (L : List Ent) (M : Fr) (ops : Array Oper) (Q : Exit → Act → World → Prop) (S : World → Prop) (fuel n m i : Nat) : Prop where
 get : Tr N F L M (fun a w => wpOp P ops Q i (fun a' w' => S w' ∧ wpAnyH P .any ops Q S fuel ((np n m).setIfInBounds i true) a' w') a w)
theorem IG {S : World → Prop} (n : Nat) (k : Tr.AnyG P N F L M ops Q S fuel n 0) (e : listed = np n 0 := by decide +kernel) : Tr N F L M (wpAnyH P .any ops Q S fuel listed) := by
 subst e; exact k.get
theorem gz {S : World → Prop} {n : Nat} (m : Nat) (k : Tr.AnyG P N F L M ops Q S fuel n m) : Tr.AnyG P N F L M ops Q S fuel n m := k
theorem mB {S : World → Prop} {n m : Nat} (i : Nat) (k : Tr.OpG P N F L M ops Q S fuel n m i) : Tr.OpG P N F L M ops Q S fuel n m i := k
theorem pG {S : World → Prop} {n m : Nat} {o : Oper} {i : Nat} (hi : ops[i]? = some o) (h : Tr N F L M (wpList P ops (Exit.then (fun a' w' => S w' ∧ wpAnyH P .any ops Q S fuel (np n (m + 2 ^ i)) a' w') Q) [o]))
  (e : (np n m).setIfInBounds i true = np n (m + 2 ^ i) := by decide +kernel) : Tr.OpG P N F L M ops Q S fuel n m i := ⟨by rw [e]; exact bD hi h⟩
theorem Hx {S : World → Prop} {n m : Nat} (rs : List Nat) (hr : Region.ready .any ops (np n m) = rs) (h : oG (fun i => Tr.OpG P N F L M ops Q S fuel n m i) rs)
  (hne : rs ≠ [] := by simp) : Tr.AnyG P N F L M ops Q S (fuel + 1) n m := ⟨yA rs hr hne fun i hi => (oG.all h i hi).get⟩
theorem mf {S : World → Prop} {n m : Nat} (rs : List Nat) (h : oG (fun i => Tr.OpG P N F L M ops Q S fuel n m i) rs) (hr : Region.ready .any ops (np n m) = rs := by kernel_rfl) (hne : rs ≠ [] := by simp) : Tr.AnyG P N F L M ops Q S (fuel + 1) n m := Hx rs hr h hne
theorem Gg {S : World → Prop} {n m : Nat} (hr : Region.ready .any ops (np n m) = []) (h : Tr N F L M (Q .normal)) : Tr.AnyG P N F L M ops Q S fuel n m := ⟨AA hr h⟩
variable {L0 : List Ent} {op : Op} {ty : TypeId} {pos : String} {after : Array Edge} {d : Nat}
theorem ti {n m : Nat} (k : Tr.AnyG P N F L M ops Q (HpOK F L0) fuel n m) (hL : Pick L L0 := by repeat' (first | exact Pick.nil _ | exact Del.here _ | apply Pick.cons | apply Del.there)) :
  Tr N F L M (wpList P ops (Exit.then (fun a w => HpOK F L0 w ∧ wpAnyH P .any ops Q (HpOK F L0) fuel (np n m) a w) Q) []) := Az hL k.get
theorem tg {v : Value} {n m : Nat} (i : Nat) (hi : ops[i]? = some ⟨some d, op, ty, pos, after, none⟩) (hB : takeB ops (np n m) i = true) (hQ : ∀ c a d v w, Q (.panic c) (a.put d v) w → Q (.panic c) a w)
  (h : QS P N F L0 M ⟨some d, op, ty, pos, after, none⟩ v) (k : Tr.AnyG P N F L ((d, v) :: M) ops Q (HpOK F L0) fuel n (m + 2 ^ i))
  (e : (np n m).setIfInBounds i true = np n (m + 2 ^ i) := by decide +kernel)
  (hp : kC op = true := by rfl) (hd : Nat.ble (d + 1) N = true := by rfl) (hL : Pick L L0 := by repeat' (first | exact Pick.nil _ | exact Del.here _ | apply Pick.cons | apply Del.there)) :
  Tr.AnyG P N F L M ops Q (HpOK F L0) (fuel + 1) n m := ⟨Ay i hi hB hQ hp h hL hd (by rw [e]; exact k.get)⟩
end
def j6 (r : RV UInt32) : TabV := ⟨r.data, r.dp, r.dc⟩
theorem AP {h : Hp} {rs : List (RV UInt32)} {V : Value} (s : Sl h dD rs V) : Sl h f5 (rs.map j6) V := by
 obtain ⟨⟨a, c, h1, h2, h3, h4⟩, hc⟩ := s
 refine ⟨⟨a, c, by rw [List.length_map]; exact h1, by rw [List.length_map]; exact h2, h3, fun e => h4 (fun q => e (by rw [q]; rfl))⟩, fun i x hx => ?_⟩
 rw [List.getElem?_map] at hx
 cases hr : rs[i]? with
 | none => rw [hr] at hx; cases hx
 | some r =>
  rw [hr] at hx
  simp only [Option.map_some, Option.some.injEq] at hx
  subst hx
  exact hc i r hr
theorem AQ {h : Hp} {rs : List (RV UInt32)} (s : RvIn an h rs) : TabIn h (rs.map j6) := fun t ht => by
 obtain ⟨r, hr, rfl⟩ := List.mem_map.1 ht
 exact s r hr
def lO (ins : List Ins) (ls : List (List UInt32)) : List UInt32 := ls.flatMap fun t => t.filter (inK ins)
def jx (ins : List Ins) (ents : List UInt32) (ts : List (List UInt32)) : List UInt32 := fG (fZ (lO ins (ents :: ts)))
def kO (ins : List Ins) (ls : List TabV) (k j : Nat) : List UInt32 := lO ins ((ls.map (·.data)).take k) ++ (((ls.map (·.data)).getD k []).take j).filter (inK ins)
theorem AY (ins : List Ins) (ls : List TabV) {k : Nat} (hk : k < ls.length) {j : Nat} (hj : ((ls.map (·.data)).getD k []).length ≤ j) : kO ins ls k j = kO ins ls (k + 1) 0 := by
 unfold kO lO
 rw [List.take_of_length_le hj, show (k + 1 : Nat) = k + 1 from rfl, dn (l := ls.map (·.data)) (k := k) (by rw [List.length_map]; exact hk), List.flatMap_append]
 simp
 rfl
theorem C7 {ins : List Ins} {ls : List TabV} {k j : Nat} (hj : j < (ls.getD k default).data.length) (h : inK ins ((ls.getD k default).data.getD j default) = true) : kO ins ls k (j + 1) = kO ins ls k j ++ [(ls.getD k default).data.getD j default] := by
 have e : (ls.map (·.data)).getD k [] = (ls.getD k default).data := by
  simp only [List.getD_eq_getElem?_getD, List.getElem?_map]
  cases ls[k]? <;> rfl
 unfold kO
 rw [e, dn hj, List.filter_append, List.filter_cons, if_pos h, List.filter_nil, List.append_assoc]
theorem EA {ins : List Ins} {ls : List TabV} {k j : Nat} (hj : j < (ls.getD k default).data.length) (h : inK ins ((ls.getD k default).data.getD j default) = false) : kO ins ls k (j + 1) = kO ins ls k j := by
 have e : (ls.map (·.data)).getD k [] = (ls.getD k default).data := by
  simp only [List.getD_eq_getElem?_getD, List.getElem?_map]
  cases ls[k]? <;> rfl
 unfold kO
 rw [e, dn hj, List.filter_append, List.filter_cons, if_neg (by rw [h]; simp), List.filter_nil, List.append_nil]
theorem nT (ins : List Ins) : ∀ {ls : List (List UInt32)} {n : Nat}, (∀ t ∈ ls, t.length ≤ n) → (lO ins ls).length ≤ ls.length * n
 | [], n, _ => by simp [lO]
 | t :: ls, n, h => by
  have ih := nT ins (ls := ls) (n := n) fun x hx => h x (.tail _ hx)
  have h1 := h t (.head _)
  have h2 := List.length_filter_le (inK ins) t
  unfold lO at *
  rw [List.flatMap_cons, List.length_append, List.length_cons, Nat.add_mul]
  omega
theorem C9 {ins : List Ins} {ls : List TabV} {k j n : Nat} (h : ∀ t ∈ ls, t.data.length ≤ n) (hk : k < ls.length) : (kO ins ls k j).length ≤ (k + 1) * n := by
 unfold kO
 rw [List.length_append]
 have h1 := nT ins (ls := (ls.map (·.data)).take k) (n := n) (fun t ht => by
  obtain ⟨r, hr, rfl⟩ := List.mem_map.1 (List.mem_of_mem_take ht)
  exact h r hr)
 rw [List.length_take, List.length_map] at h1
 have h2 : (((ls.map (·.data)).getD k []).take j).length ≤ n := by
  rw [List.length_take]
  have e : (ls.map (·.data)).getD k [] = (ls.getD k default).data := by
   simp only [List.getD_eq_getElem?_getD, List.getElem?_map]
   cases ls[k]? <;> rfl
  rw [e]
  have := h _ (cS (l := ls) hk)
  omega
 have h3 := List.length_filter_le (inK ins) (((ls.map (·.data)).getD k []).take j)
 have h4 : min k ls.length * n ≤ k * n := Nat.mul_le_mul_right _ (Nat.min_le_left _ _)
 rw [Nat.add_mul]; omega
theorem Da (ins : List Ins) (ls : List TabV) : kO ins ls ls.length 0 = lO ins (ls.map (·.data)) := by
 unfold kO
 rw [List.take_zero, List.filter_nil, List.append_nil, List.take_of_length_le (by rw [List.length_map]; exact Nat.le_refl _)]
def lw (ins : List Ins) : List UInt32 → Int
 | [] => 0
 | r :: t => if (eK ins r 4096).2 ≠ 0 then (eK ins r 4096).2 else lw ins t
theorem sB {ins : List Ins} : ∀ {rts : List UInt32} {k : Nat}, lw ins (rts.take k) = 0 → k < rts.length → lw ins (rts.take (k + 1)) = (eK ins (rts.getD k default) 4096).2
 | [], k, _, h => by simp at h
 | r :: t, 0, _, _ => by
  simp only [List.take_succ_cons, List.take_zero, lw, List.getD_cons_zero]
  split
  ·rfl
  ·rename_i q; simp only [ne_eq, Decidable.not_not] at q; rw [q]
 | r :: t, k + 1, h, hk => by
  simp only [List.take_succ_cons, lw] at h ⊢
  split at h
  ·rename_i q; exact absurd h q
  ·rename_i q
   rw [if_neg q, List.getD_cons_succ]
   exact sB h (by simpa using hk)
theorem zX {ins : List Ins} : ∀ {rts : List UInt32} {k : Nat}, lw ins (rts.take k) ≠ 0 → lw ins rts = lw ins (rts.take k)
 | [], k, h => by simp [lw] at h
 | r :: t, 0, h => by simp [lw] at h
 | r :: t, k + 1, h => by
  simp only [List.take_succ_cons, lw] at h ⊢
  split
  ·rfl
  ·rename_i q
   rw [if_neg q] at h
   exact zX h
def j8 (ins : List Ins) (rts : List UInt32) : List (List StV) := rts.map fun r => (eK ins r 4096).1
def Hq (ins : List Ins) (a : UInt32) (b : StV × Bool) (s : List StV) : StV × Bool :=
 if (jj ins s a).2 = true then (if b.2 = true then (iP b.1 (jj ins s a).1 8, true) else ((jj ins s a).1, true)) else b
def od (ins : List Ins) (a : UInt32) (ss : List (List StV)) : StV × Bool := ss.foldl (Hq ins a) (gu, false)
structure FndV where
 ts : List (List UInt32)
 at_ : List UInt32
def jY (l : List SecV) (ins : List Ins) (ss : List (List StV)) (f : FndV) (i : Ins) : FndV :=
 if oP i = true ∧ (od ins i.addr ss).2 = true ∧ (cZ l i ((od ins i.addr ss).1.get i.a)).2 = 0
 then ⟨f.ts ++ [(cZ l i ((od ins i.addr ss).1.get i.a)).1], f.at_ ++ [i.addr]⟩ else f
def lZ (l : List SecV) (ins : List Ins) (ss : List (List StV)) (xs : List Ins) : FndV := xs.foldl (jY l ins ss) ⟨[], []⟩
def rX (l : List SecV) (c : CodeP) (ts : List (List UInt32)) : CodeP × FndV × Int :=
 if lw (fV c.ins c.ents c.unk c.bad).kept (jx (fV c.ins c.ents c.unk c.bad).kept (fV c.ins c.ents c.unk c.bad).ents ts) ≠ 0
 then (⟨[], [], [], []⟩, ⟨[], []⟩, lw (fV c.ins c.ents c.unk c.bad).kept (jx (fV c.ins c.ents c.unk c.bad).kept (fV c.ins c.ents c.unk c.bad).ents ts))
 else (⟨(fV c.ins c.ents c.unk c.bad).kept, (fV c.ins c.ents c.unk c.bad).ents, (fV c.ins c.ents c.unk c.bad).unk, (fV c.ins c.ents c.unk c.bad).bad⟩,
  lZ l (fV c.ins c.ents c.unk c.bad).kept (j8 (fV c.ins c.ents c.unk c.bad).kept (jx (fV c.ins c.ents c.unk c.bad).kept (fV c.ins c.ents c.unk c.bad).ents ts)) (fV c.ins c.ents c.unk c.bad).kept, 0)
def RoundIs (l : List SecV) (es : List UInt32) (ts : List TabV) (at_ : List UInt32) (o : CodeP × FndV × Int) : Prop :=
 ∃ c e, WalkIs l ts at_ es c e ∧ if e ≠ 0 then o = (⟨[], [], [], []⟩, ⟨[], []⟩, e) else o = rX l c (ts.map (·.data))
theorem sE {l : List SecV} {ts : List TabV} {at_ es : List UInt32} {c : CodeP} {e : Int} (hT : pH ts) (h : WalkIs l ts at_ es c e) : (c.ins.length ≤ totD l ∧ c.ents.length ≤ totD l) ∧ c.unk.length ≤ totD l ∧ c.bad.length ≤ es.length + totD l * 66 := by
 cases h with
 | arg h1 h2 h3 => subst h3; simp
 | chk h0 h1 h2 h3 => subst h3; simp
 | ok h0 h1 h2 h =>
  have key : ∀ xs : List UInt32, xs.Pairwise (· < ·) → (∀ a ∈ xs, (atP l a).2 = true) → xs.length ≤ totD l := fun xs h1 h2 => by
   rw [← uj]; exact nm (rk h1) (fun a ha => yn (h2 a ha))
  refine ⟨⟨?_, key _ h.ents.1 (fun a ha => ((h.ents.2 a).1 ha).1.2)⟩, key _ h.unk.1 (fun a ha => ((h.unk.2 a).1 ha).1.2), ?_⟩
  ·obtain ⟨ks, k1, k2, k3⟩ := h.ins
   rw [k3, List.length_map]; exact key ks k1 (fun a ha => ((k2 a).1 ha).2)
  ·have hsub : ∀ a ∈ c.bad, a ∈ es ++ (wd l).flatMap (fun b => kh ts at_ (atP l b).1) := fun a ha => by
    cases ((h.bad.2 a).1 ha).1 with
    | ent a q => exact List.mem_append_left _ q
    | step b a q1 q2 q3 => exact List.mem_append_right _ (List.mem_flatMap.2 ⟨b, yn q2, q3⟩)
   have h1 := nm (rk h.bad.1) hsub
   rw [List.length_append] at h1
   have h2 : ∀ xs : List UInt32, (xs.flatMap (fun b => kh ts at_ (atP l b).1)).length ≤ xs.length * 66 := by
    intro xs
    induction xs with
    | nil => simp
    | cons x xs ih =>
     rw [List.flatMap_cons, List.length_append, List.length_cons]
     have := uS hT at_ (atP l x).1
     omega
   have h3 := h2 (wd l)
   rw [uj] at h3
   omega
theorem nO {l : List SecV} {ts : List TabV} {at_ es : List UInt32} {c : CodeP} {e : Int} (h : WalkIs l ts at_ es c e) : ∀ x ∈ c.ins, InsOK x := by
 cases h with
 | arg h1 h2 h3 => subst h3; intro x hx; cases hx
 | chk h0 h1 h2 h3 => subst h3; intro x hx; cases hx
 | ok h0 h1 h2 h =>
  obtain ⟨ks, k1, k2, k3⟩ := h.ins
  intro x hx
  rw [k3] at hx
  obtain ⟨a, _, rfl⟩ := List.mem_map.1 hx
  exact HT l a
theorem wz (ins : List Ins) (ents unk bad : List UInt32) : ((fV ins ents unk bad).kept.length ≤ ins.length ∧ (fV ins ents unk bad).ents.length ≤ ents.length) ∧ (fV ins ents unk bad).unk.length ≤ unk.length ∧ (fV ins ents unk bad).bad.length = bad.length := by
 refine ⟨⟨?_, List.length_filter_le _ _⟩, List.length_filter_le _ _, rfl⟩
 show (mi _ _).length ≤ _
 rw [lm kN]
 exact Nat.le_trans (sj _) (Nat.le_trans (Nat.le_of_eq (xI (lH ents _) _)) (vd ins))
theorem zu {ins : List Ins} {ents unk bad : List UInt32} {x : Ins} (h : x ∈ (fV ins ents unk bad).kept) : x ∈ ins := vc (H6 h)
theorem yj {α : Type} [DecidableEq α] : ∀ l : List α, (fG l).length ≤ l.length
 | [] => Nat.le_refl _
 | x :: t => by
  have : ∀ (t : List α) (x : α), (ny x t).length ≤ t.length := by
   intro t
   induction t with
   | nil => intro x; simp [ny]
   | cons y t ih =>
    intro x
    unfold ny
    split
    ·have := ih x; simp only [List.length_cons]; omega
    ·have := ih y; simp only [List.length_cons]; omega
  have := this t x
  simp only [fG, List.length_cons]; omega
theorem pX {l : List SecV} {ins : List Ins} {ss : List (List StV)} {f : FndV} {i : Ins} (h : oP i = false) : jY l ins ss f i = f := if_neg (fun q => by rw [h] at q; cases q.1)
theorem pW {l : List SecV} {ins : List Ins} {ss : List (List StV)} {f : FndV} {i : Ins} {b : StV} (h : (b, false) = od ins i.addr ss) : jY l ins ss f i = f := if_neg (fun q => by rw [← h] at q; cases q.2.1)
theorem pY {l : List SecV} {ins : List Ins} {ss : List (List StV)} {f : FndV} {i : Ins} {b : StV} {k : Bool} (h : (b, k) = od ins i.addr ss) (h2 : (cZ l i (b.get i.a)).2 ≠ 0) : jY l ins ss f i = f := if_neg (fun q => by rw [← h] at q; exact h2 q.2.2)
theorem pU {l : List SecV} {ins : List Ins} {ss : List (List StV)} {f : FndV} {i : Ins} {b : StV} (h1 : oP i = true) (h : (b, true) = od ins i.addr ss) (h2 : (cZ l i (b.get i.a)).2 = 0) : jY l ins ss f i = ⟨f.ts ++ [(cZ l i (b.get i.a)).1], f.at_ ++ [i.addr]⟩ := by
 unfold jY; rw [← h]; exact if_pos ⟨h1, rfl, h2⟩
theorem wW {ins : List Ins} {a : UInt32} {ss : List (List StV)} {q : Nat} (hq : q < ss.length) : od ins a (ss.take (q + 1)) = Hq ins a (od ins a (ss.take q)) (ss.getD q default) := pT _ _ _ hq
theorem Bi {l : List SecV} {ins : List Ins} {ss : List (List StV)} {xs : List Ins} {k : Nat} (hk : k < xs.length) : lZ l ins ss (xs.take (k + 1)) = jY l ins ss (lZ l ins ss (xs.take k)) (xs.getD k default) := pT _ _ _ hk
def Dq (cmp : Ins → Ins → Int) (x y : Ins) : Bool := decide (cmp x y < 0)
theorem D9 : WO (Dq lz) where
 irr := fun x => by simp [Dq, lz, vg]
 tr := fun x y z h1 h2 => by
  simp only [Dq, decide_eq_true_eq, lz, tX, UInt32.lt_iff_toNat_lt] at *; omega
 ntr := fun x y z h1 h2 => by
  simp only [Dq, decide_eq_false_iff_not, lz, tX, UInt32.lt_iff_toNat_lt] at *; omega
theorem wJ (l : List SecV) (ins : List Ins) (ss : List (List StV)) : ∀ (xs : List Ins), (lZ l ins ss xs).ts.length ≤ xs.length ∧ (lZ l ins ss xs).at_.length ≤ xs.length := by
 have key : ∀ (xs : List Ins) (f : FndV), (xs.foldl (jY l ins ss) f).ts.length ≤ f.ts.length + xs.length ∧ (xs.foldl (jY l ins ss) f).at_.length ≤ f.at_.length + xs.length := by
  intro xs
  induction xs with
  | nil => intro f; simp
  | cons x xs ih =>
   intro f
   have h := ih (jY l ins ss f x)
   have h2 : (jY l ins ss f x).ts.length ≤ f.ts.length + 1 ∧ (jY l ins ss f x).at_.length ≤ f.at_.length + 1 := by
    unfold jY
    split
    ·simp
    ·omega
   simp only [List.foldl_cons, List.length_cons]; omega
 intro xs
 have := key xs ⟨[], []⟩
 simpa [lZ] using this
theorem sQ {l : List SecV} {i : Ins} {x : VSet} : (cZ l i x).1.length ≤ 64 := by
 unfold cZ
 split
 ·simp
 split
 ·simp
 split
 ·simp
 split
 ·split
  ·simp
  ·rename_i h
   exact wO (by simpa using (fun q => h (.inl q)))
 split
 ·simp
 ·rename_i h
  split
  ·simp
  ·rename_i out ho
   have := ui ho
   rw [UInt32.not_le, UInt32.lt_iff_toNat_lt] at h
   have e : (64 : UInt32).toNat = 64 := rfl
   show out.length ≤ 64
   omega
theorem DF (l : List SecV) (ins : List Ins) (ss : List (List StV)) (xs : List Ins) : ∀ t ∈ (lZ l ins ss xs).ts, t.length ≤ 64 := by
 have key : ∀ (xs : List Ins) (f : FndV), (∀ t ∈ f.ts, t.length ≤ 64) → ∀ t ∈ (xs.foldl (jY l ins ss) f).ts, t.length ≤ 64 := by
  intro xs
  induction xs with
  | nil => intro f h; exact h
  | cons x xs ih =>
   intro f h
   refine ih _ ?_
   unfold jY
   split
   ·intro t ht
    rcases List.mem_append.1 ht with ht | ht
    ·exact h t ht
    ·rw [List.mem_singleton.1 ht]; exact sQ
   ·exact h
 exact key xs ⟨[], []⟩ (fun t ht => by cases ht)
theorem uw {l : List SecV} {c : CodeP} {ts : List (List UInt32)} {R : ResV} (hR : R = fV c.ins c.ents c.unk c.bad) (h : lw R.kept (jx R.kept R.ents ts) ≠ 0) : rX l c ts = (⟨[], [], [], []⟩, ⟨[], []⟩, lw R.kept (jx R.kept R.ents ts)) := by
 subst hR; exact if_pos h
theorem wm {l : List SecV} {c : CodeP} {ts : List (List UInt32)} {R : ResV} (hR : R = fV c.ins c.ents c.unk c.bad) (h : lw R.kept (jx R.kept R.ents ts) = 0) : rX l c ts = (⟨R.kept, R.ents, R.unk, R.bad⟩, lZ l R.kept (j8 R.kept (jx R.kept R.ents ts)) R.kept, 0) := by
 subst hR; exact if_neg (fun q => q h)
theorem yU {ins : List Ins} {rts : List UInt32} {k : Nat} (hk : k < rts.length) : j8 ins (rts.take (k + 1)) = j8 ins (rts.take k) ++ [(eK ins (rts.getD k default) 4096).1] := by
 unfold j8; rw [dn hk, List.map_append]; rfl
theorem C5 {ins : List Ins} {ents : List UInt32} {ts : List (List UInt32)} (h1 : ents.length ≤ 700) (h2 : ∀ t ∈ ts, t.length ≤ 700) (h3 : ts.length ≤ 700) : (jx ins ents ts).length ≤ 490700 := by
 have h := nT ins (ls := ents :: ts) (n := 700) (fun t ht => by
  rcases List.mem_cons.1 ht with rfl | ht
  ·exact h1
  ·exact h2 t ht)
 rw [List.length_cons] at h
 have h4 := yj (fZ (lO ins (ents :: ts)))
 rw [qT] at h4
 have h5 : (ts.length + 1) * 700 ≤ 701 * 700 := Nat.mul_le_mul_right _ (by omega)
 unfold jx; omega
theorem BK {α : Type} {N : Nat} {F : Bg} {A : List Ent} {M : Fr} {X : Act → World → Prop} {f : α → Ent} {rs : List α} (r : α) (K : Tr N F (A ++ ((rs ++ [r]).map f ++ [])) M X) : Tr N F (f r :: (A ++ (rs.map f ++ []))) M X := by
 refine qd (L' := A ++ ((rs ++ [r]).map f ++ [])) ?_ K
 rw [List.append_nil, List.append_nil, List.map_append, ← List.append_assoc]
 exact List.perm_append_comm
end Go.HL
namespace Go.Proofs.YtiajjbhcpeadfaaGreat
open Go Go.HL Go.RowKit
theorem wM (l n2 : List UInt32) (V W : Value) (w : World) (hV : Sl (hp w) an l V) (hW : Sl (hp w) an n2 W) :
  Cr Tryz.prog 111 #[V, W] w (.bool (decide (l = n2))) := by
 have hV' : Sl (Bg.of w).blk an l V := hV
 have hW' : Sl (Bg.of w).blk an n2 W := hW
 have hlen := hV.len_le
 refine enter Tryz.func111 rfl Tryz.ntmps111 rfl ?_
 refine ah (zz0 (ab rfl) (ad (al (ah (zz0 (aa rfl) (zz0 (fJ rfl aj) ?_))))))
 refine zz0 (aa rfl) (zz0 (fJ rfl aj) ?_)
 refine zz0 (fa rfl rfl) (ad ?_)
 refine ao rfl ?_ ?_ <;> intro h1 <;> try simp only [bs] at h1
 ·have hq := h1
  refine ah (zz0 (ab rfl) (ad (aD (aB ?_))))
  refine aS m4 rfl (fun w' hw => ?_)
  exact ⟨by rw [decide_eq_false (fun e => hq (by rw [e]))], hw.b0⟩
 have hq := h1
 refine bB (al (ah (zz0 (aa rfl) (zz0 (fJ rfl aj) ?_))))
 refine zz0 (aa rfl) (ad (aG ?_))
 refine bN (ι := Nat) (fun k => k ≤ l.length ∧ l.take k = n2.take k) (fun _ => _) (fun k => []) (fun k => [(13, .int .i64 (k : Nat))]) (fun k => l.length - k) 0 ⟨Nat.zero_le _, rfl⟩ (Front.c Front.nil) (by repeat' constructor) rfl (fun k hi m hm => ?_)
 replace hi : k ≤ l.length ∧ l.take k = n2.take k := hi
 replace hm : m = l.length - k := hm
 change Tr _ _ [] ([(13, .int .i64 (k : Nat))] ++ _) _
 obtain ⟨hk1, hk2⟩ := hi
 refine ah (zz0 (bS rfl rfl) (ad (al ?_)))
 refine ao rfl ?_ ?_ <;> intro h2 <;> try simp only [bs] at h2
 ·refine bB (al (aG (ah (zz0 (aa rfl) (zz0 (ab rfl) (ad (al (gZ aT ?_))))))))
  refine ax (aa rfl) (ax (aa rfl) (ax (gB rfl rfl aj ae) ?_))
  refine ax (iM rfl am) ?_
  refine ax (aa rfl) (ax (aa rfl) (ax (gB rfl rfl aj ae) ?_))
  refine ax (iM rfl am) ?_
  refine ax (jc rfl rfl) ?_
  refine bK ?_
  refine ac ?_
  refine ao rfl ?_ ?_ <;> intro h3 <;> try simp only [bs] at h3
  ·have hq2 := h3
   refine ah (zz0 (ab rfl) (ad (aD (bv (aB (aB (bv (aB ?_))))))))
   refine aS m4 rfl (fun w' hw => ?_)
   exact ⟨by rw [decide_eq_false (fun e => hq2 (by rw [e]))], hw.b0⟩
  have hq2 := h3
  refine bW (aX (ac (ar (zz0 (cx rfl rfl) ?_))))
  refine zz0 (aa rfl) (ad ?_)
  refine cC (k + 1) (Front.c Front.nil) (bA 15 rfl) (o := ⟨by omega, by rw [dn (by omega), dn (by omega), hk2, show l.getD k default = n2.getD k default by first | exact hq2 | simp_all]⟩)
 refine bG (aJ (aJ (bj (ac (ah (zz0 (ab rfl) (ad (aD ?_))))))))
 refine aS m4 rfl (fun w' hw => ?_)
 exact ⟨by rw [decide_eq_true (show l = n2 by rw [← List.take_length (l := l), ← List.take_length (l := n2), show n2.length = l.length by omega, show l.length = k by omega]; exact hk2)], hw.b0⟩
theorem Eu (l n2 : List UInt32) (V W : Value) (w : World) (hV : Sl (hp w) an l V) (hW : Sl (hp w) an n2 W) :
  Cr Tryz.prog 113 #[V, W] w (.bool (decide (l = n2))) := by
 have hV' : Sl (Bg.of w).blk an l V := hV
 have hW' : Sl (Bg.of w).blk an n2 W := hW
 refine enter Tryz.func113 rfl Tryz.ntmps113 rfl ?_
 refine ah (zz0 (ab rfl) (aL (zz0 (aa rfl) (zz0 (aa rfl) (zz0 (aC rfl Tryz.call111 (fun w hw => wM l n2 V W w (hw.slF hV') (hw.slF hW'))) ?_)))))
 refine zz0 (ab rfl) (ad (aD ?_))
 refine aS Tryz.results113 rfl (fun w' hw => ?_)
 exact ⟨rfl, hw.b0⟩
theorem vN (l n2 : List TabV) (V W : Value) (w : World) (hV : Sl (hp w) f5 l V) (hW : Sl (hp w) f5 n2 W) (hI : TabIn (hp w) l) (hJ : TabIn (hp w) n2) :
  Cr Tryz.prog 112 #[V, W, .func (.func 113) #[] #[]] w (.bool (decide (l.map (·.data) = n2.map (·.data)))) := by
 have hV' : Sl (Bg.of w).blk f5 l V := hV
 have hW' : Sl (Bg.of w).blk f5 n2 W := hW
 have hI' : TabIn (Bg.of w).blk l := hI
 have hJ' : TabIn (Bg.of w).blk n2 := hJ
 have hlen := hV.len_le
 refine enter Tryz.func112 rfl Tryz.ntmps112 rfl ?_
 refine ah (zz0 (ab rfl) (ad (al (ah (zz0 (aa rfl) (zz0 (fJ rfl du) ?_))))))
 refine zz0 (aa rfl) (zz0 (fJ rfl du) ?_)
 refine zz0 (fa rfl rfl) (ad ?_)
 refine ao rfl ?_ ?_ <;> intro h1 <;> try simp only [bs] at h1
 ·have hq := h1
  refine ah (zz0 (ab rfl) (ad (aD (aB ?_))))
  refine aS m3 rfl (fun w' hw => ?_)
  exact ⟨by rw [decide_eq_false (fun e => hq (by have := congrArg List.length e; rw [List.length_map, List.length_map] at this; rw [this]))], hw.b0⟩
 have hq := h1
 refine bB (al (ah (zz0 (aa rfl) (zz0 (fJ rfl du) ?_))))
 refine zz0 (aa rfl) (ad (aG ?_))
 refine bN (ι := Nat) (fun k => k ≤ l.length ∧ (l.map (·.data)).take k = (n2.map (·.data)).take k) (fun _ => _) (fun k => []) (fun k => [(17, .int .i64 (k : Nat))]) (fun k => l.length - k) 0 ⟨Nat.zero_le _, rfl⟩ (Front.c Front.nil) (by repeat' constructor) rfl (fun k hi m hm => ?_)
 replace hi : k ≤ l.length ∧ (l.map (·.data)).take k = (n2.map (·.data)).take k := hi
 replace hm : m = l.length - k := hm
 change Tr _ _ [] ([(17, .int .i64 (k : Nat))] ++ _) _
 obtain ⟨hk1, hk2⟩ := hi
 have hgl : ∀ q : List TabV, (q.map (·.data)).getD k default = (q.getD k default).data := fun q => by
  simp only [List.getD_eq_getElem?_getD, List.getElem?_map]
  cases q[k]? <;> rfl
 refine ah (zz0 (bS rfl rfl) (ad (al ?_)))
 refine ao rfl ?_ ?_ <;> intro h2 <;> try simp only [bs] at h2
 ·refine bB (al (aG (ah (zz0 (aa rfl) (zz0 (gB rfl rfl du cn) ?_)))))
  refine zz0 (iM rfl dq) ?_
  refine zz0 (ab rfl) (zz0 (ab rfl) (aL (zz0 (aa rfl) (zz0 (aa rfl) (zz0 (gB rfl rfl du cn) ?_)))))
  refine zz0 (iM rfl dq) ?_
  refine zz0 (ab rfl) (aL (zz0 (aa rfl) (zz0 (aa rfl) (zz0 (aa rfl) (zz0 (ig rfl rfl Tryz.call113 (fun w hw => Eu (l.getD k default).data (n2.getD k default).data _ _ w (hw.slF (hI' _ (cS (by omega)))) (hw.slF (hJ' _ (cS (by omega)))))) ?_)))))
  refine zz0 (cj rfl) (ad ?_)
  refine ao rfl ?_ ?_ <;> intro h3 <;> try simp only [bs] at h3
  ·have hq2 := h3
   refine ah (zz0 (ab rfl) (ad (aD (bv (aB (aB (bv (aB ?_))))))))
   refine aS m3 rfl (fun w' hw => ?_)
   exact ⟨by rw [decide_eq_false (fun e => hq2 (by rw [← hgl, ← hgl, e]))], hw.b0⟩
  have hq2 := h3
  refine bW (aX (ac (ar (zz0 (cx rfl rfl) ?_))))
  refine zz0 (aa rfl) (ad ?_)
  refine cC (k + 1) (Front.c Front.nil) (bA 19 rfl) (o := ⟨by omega, by rw [dn (by rw [List.length_map]; omega), dn (by rw [List.length_map]; omega), hk2, hgl, hgl, show (l.getD k default).data = (n2.getD k default).data by first | exact hq2 | simp_all]⟩)
 refine bG (aJ (aJ (bj (ac (ah (zz0 (ab rfl) (ad (aD ?_))))))))
 refine aS m3 rfl (fun w' hw => ?_)
 exact ⟨by rw [decide_eq_true (show l.map (·.data) = n2.map (·.data) by rw [← List.take_length (l := l.map (·.data)), ← List.take_length (l := n2.map (·.data)), List.length_map, List.length_map, show n2.length = l.length by omega, show l.length = k by omega]; exact hk2)], hw.b0⟩
theorem GH (x0 x1 x2 x3 : Option Addr) (xn0 xc0 xn1 xc1 xn2 xc2 xn3 xc3 : Nat) (y0 y1 y2 y3 : Option Addr) (yn0 yc0 yn1 yc1 yn2 yc2 yn3 yc3 : Nat) (ts us : List TabV) (at_ bt_ : List UInt32) (pt pa qt qa : Option Addr) (ct ca dt da : Nat) (w : World) (h1 : Sl (hp w) f5 ts (.slice pt ts.length ct)) (h2 : TabIn (hp w) ts) (h3 : Sl (hp w) an at_ (.slice pa at_.length ca)) (k1 : Sl (hp w) f5 us (.slice qt us.length dt)) (k2 : TabIn (hp w) us) (k3 : Sl (hp w) an bt_ (.slice qa bt_.length da)) :
  Cr Tryz.prog 53 #[.agg #[.slice x0 xn0 xc0, .slice x1 xn1 xc1, .slice x2 xn2 xc2, .slice x3 xn3 xc3, .slice pt ts.length ct, .slice pa at_.length ca], .agg #[.slice y0 yn0 yc0, .slice y1 yn1 yc1, .slice y2 yn2 yc2, .slice y3 yn3 yc3, .slice qt us.length dt, .slice qa bt_.length da]] w (.bool (decide (at_ = bt_) && decide (ts.map (·.data) = us.map (·.data)))) := by
 have h1' : Sl (Bg.of w).blk f5 ts (.slice pt ts.length ct) := h1
 have h2' : TabIn (Bg.of w).blk ts := h2
 have h3' : Sl (Bg.of w).blk an at_ (.slice pa at_.length ca) := h3
 have k1' : Sl (Bg.of w).blk f5 us (.slice qt us.length dt) := k1
 have k2' : TabIn (Bg.of w).blk us := k2
 have k3' : Sl (Bg.of w).blk an bt_ (.slice qa bt_.length da) := k3
 refine enter Tryz.func53 rfl Tryz.ntmps53 rfl ?_
 refine ah ?_
 refine dE rfl rfl (fun b1 => ?_)
 refine dE rfl rfl (fun b2 => ?_)
 refine zz0 (ab rfl) (aL (zz0 (zz1 (off := 5) (ft := 31) rfl cN rfl cn) ?_))
 refine zz0 (aH rfl dq) ?_
 refine zz0 (zz1 (off := 5) (ft := 31) rfl cN rfl cn) ?_
 refine zz0 (aH rfl dq) ?_
 refine zz0 (aC rfl Tryz.call111 (fun w hw => wM at_ bt_ _ _ w (hw.slF h3') (hw.slF k3'))) ?_
 refine zz0 (aa rfl) ?_
 apply bV
 ·exact (rfl : _ = (6, 10, 16))
 ·exact rfl
 ·intro hT3; have hT3' := hT3
  try simp only [bs] at hT3'
  refine zz5 hT3 (zz1 (off := 4) (ft := 53) rfl cN rfl gg) ?_
  refine zz5 hT3 (aH rfl jV) ?_
  refine zz5 hT3 (zz1 (off := 4) (ft := 53) rfl cN rfl gg) ?_
  refine zz5 hT3 (aH rfl jV) ?_
  refine zz5 hT3 (aC rfl Tryz.call112 (fun w hw => vN ts us _ _ w (hw.slF h1') (hw.slF k1') (h2'.mono hw.bg) (k2'.mono hw.bg))) ?_
  refine zz0 (aN rfl hT3 rfl) ?_
  refine az (ac ?_)
  exact aA (Sub.cons rfl (zz7 6 rfl))
 ·intro hF3
  refine zz6 hF3 (zz6 hF3 (zz6 hF3 (zz6 hF3 (zz6 hF3 (zz0 (aK rfl hF3 rfl) ?_)))))
  refine az (ac ?_)
  exact aA (Sub.cons rfl (zz7 6 rfl))
 refine zz0 (ab rfl) (ad (aD ?_))
 refine aS Tryz.results53 rfl (fun w' hw => ?_)
 exact ⟨rfl, hw.b0⟩
theorem C6 (i : Ins) (a : UInt32) (b : Nat) (w : World) (hc : Cell (hp w) b 0 (.int .u32 a.toNat)) :
  Cr Tryz.prog 158 #[.agg (aP.enc i).toArray, .pointer (some ⟨b, 0, none⟩)] w (.bool (decide (i.addr = a))) := by
 have hc' : Cell (Bg.of w).blk b 0 (.int .u32 a.toNat) := hc
 refine enter Tryz.func158 rfl Tryz.ntmps158 rfl ?_
 refine ah ?_
 refine dE rfl rfl (fun b1 => ?_)
 refine zz0 (ab rfl) (aL (zz0 (zz1 (off := 0) (ft := 23) rfl af rfl ae) ?_))
 refine zz0 (aH rfl am) ?_
 refine zz0 (nE rfl (by assumption) am) ?_
 refine zz0 (eC rfl rfl) ?_
 refine zz0 (ab rfl) (ad (aD ?_))
 refine aS Tryz.results158 rfl (fun w' hw => ?_)
 exact ⟨rfl, hw.b0⟩
theorem C4 (x y : Ins) (w : World) :
  Cr Tryz.prog 108 #[.agg (aP.enc x).toArray, .agg (aP.enc y).toArray] w (.int .i64 (lz x y)) := by
 refine enter Tryz.func108 rfl Tryz.ntmps108 rfl ?_
 refine ah ?_
 refine dE rfl rfl (fun b1 => ?_)
 refine dE rfl rfl (fun b2 => ?_)
 refine zz0 (ab rfl) (ad (al (aG (ah (zz0 (zz1 (off := 0) (ft := 23) rfl af rfl ae) ?_)))))
 refine zz0 (aH rfl am) ?_
 refine zz0 (zz1 (off := 0) (ft := 23) rfl af rfl ae) ?_
 refine zz0 (aH rfl am) ?_
 refine zz0 (iF rfl rfl) ?_
 refine zz0 (ab rfl) (ad ?_)
 refine ao rfl ?_ ?_ <;> intro h3 <;> try simp only [bs] at h3
 ·refine ah (zz0 (ab rfl) (ad (aD (bv (aB ?_)))))
  refine aS m5 rfl (fun w' hw => ?_)
  exact ⟨by unfold lz vg; rw [if_pos (by assumption)], hw.b0⟩
 refine ah (zz0 (zz1 (off := 0) (ft := 23) rfl af rfl ae) ?_)
 refine zz0 (aH rfl am) ?_
 refine zz0 (zz1 (off := 0) (ft := 23) rfl af rfl ae) ?_
 refine zz0 (aH rfl am) ?_
 refine zz0 (kU rfl rfl) ?_
 refine zz0 (ab rfl) (ad ?_)
 refine ao rfl ?_ ?_ <;> intro h4 <;> try simp only [bs] at h4
 ·refine ah (zz0 (ab rfl) (ad (aD (bv (aB ?_)))))
  refine aS m5 rfl (fun w' hw => ?_)
  exact ⟨by unfold lz vg; rw [if_neg (by assumption), if_pos (by assumption)], hw.b0⟩
 refine bW (aX (ac (ah (zz0 (ab rfl) (ad (aD ?_))))))
 refine aS m5 rfl (fun w' hw => ?_)
 exact ⟨by unfold lz vg; rw [if_neg (by assumption), if_neg (by assumption)], hw.b0⟩
theorem Af (l : List UInt32) (V : Value) (w : World) (hr : (rowE V 23 an l).holds w) (hl : l.length ≤ 1000000) :
  Calls Tryz.prog 159 #[V] w (fun e w' => ∃ V', e = .returned V' ∧ V'.ownBlock = V.ownBlock ∧ Mut w w' V ∧ (rowE V' 23 an (fG l)).holds w') := by
 refine fF (l := l) (E := an) (T := 23) hr Tryz.func159 rfl Tryz.ntmps159 rfl ?_
 refine ah (zz0 (ab rfl) (ad (al (ah (zz0 (aa rfl) (zz0 (mg rfl aj) ?_))))))
 refine zz0 (bS rfl rfl) (ad ?_)
 refine ao rfl ?_ ?_ <;> intro h1 <;> try simp only [bs] at h1
 ·refine ah (zz0 (aa rfl) (zz0 (ab rfl) (ad (aD (aB ?_)))))
  refine aS mZ rfl (fun w' hw => ?_)
  have e : fG l = l := by rw [← List.take_length (l := l)]; exact ly (Nat.le_refl _) (fun j a b => by omega)
  exact ⟨_, rfl, rfl, (HpOK.mutOwn hw (.head _) rfl).1, by rw [e]; exact (HpOK.mutOwn hw (.head _) rfl).2⟩
 refine bB (al (ah (zz0 (ab rfl) (ad (aG ?_)))))
 refine bN (ι := Nat) (fun k => 1 ≤ k ∧ k ≤ l.length ∧ ∀ j, 0 < j → j < k → l.getD j default ≠ l.getD (j - 1) default) (fun _ => _) (fun k => [rowE V 23 an l]) (fun k => [(3, .int .i64 (k : Nat))]) (fun k => l.length - k) 1 ⟨Nat.le_refl _, by omega, fun j a b => by omega⟩ (Front.c Front.nil) (by repeat' constructor) rfl (fun k hi m hm => ?_)
 replace hi : 1 ≤ k ∧ k ≤ l.length ∧ ∀ j, 0 < j → j < k → l.getD j default ≠ l.getD (j - 1) default := hi
 replace hm : m = l.length - k := hm
 change Tr _ _ [rowE V 23 an l] ([(3, .int .i64 (k : Nat))] ++ _) _
 obtain ⟨hk1, hk2, hk3⟩ := hi
 have hj : ((k : Int) - 1).toNat = k - 1 := by omega
 refine al (ah (zz0 (aa rfl) (zz0 (aa rfl) (zz0 (mg rfl aj) ?_))))
 refine zz0 (bS rfl rfl) (ad ?_)
 refine ao rfl ?_ ?_ <;> intro h2 <;> try simp only [bs] at h2
 ·refine bB (al (aG (al (gZ aT ?_))))
  refine ax (aa rfl) (ax (aa rfl) (ax (dm rfl rfl aj ae) ?_))
  refine ax (er rfl am) ?_
  refine ax (aa rfl) (ax (aa rfl) (ax (d6 rfl rfl) ?_))
  refine ax (jv rfl rfl aj ae) ?_
  refine ax (er rfl am) ?_
  refine ax (eC rfl rfl) ?_
  refine bK ?_
  refine ac ?_
  refine ao rfl ?_ ?_ <;> intro h3 <;> try simp only [bs] at h3
  ·refine ah (zz0 (aa rfl) (zz0 (aa rfl) (zz0 (rJ rfl (by repeat constructor) rfl aj ae rfl (by omega)) ?_)))
   refine zz0 (ab rfl) (ad (al (ah (zz0 (ab rfl) (ad (aG ?_))))))
   refine bN (ι := Nat × Nat × List UInt32) (fun ⟨wi, k2, cur⟩ => (1 ≤ k2 ∧ k + k2 ≤ l.length ∧ wi < k + k2) ∧ cur.length = l.length ∧ cur.take wi = fG (l.take (k + k2)) ∧ ∀ j, k + k2 - 1 ≤ j → cur.getD j default = l.getD j default) (fun _ => _) (fun ⟨wi, k2, cur⟩ => [rowE V 23 an cur]) (fun ⟨wi, k2, cur⟩ => [(3, .int .i64 (wi : Nat)), (5, .int .i64 (k2 : Nat))]) (fun ⟨wi, k2, cur⟩ => l.length - (k + k2)) (k, 1, l) ⟨⟨Nat.le_refl _, by omega, by omega⟩, rfl, by rw [lx (by omega) (by omega), if_pos (by rw [← hj]; assumption), ly (by omega) hk3], fun j _ => rfl⟩ (Front.c (Front.c Front.nil)) (by repeat' constructor) rfl (fun i hi m hm => ?_)
   obtain ⟨wi, k2, cur⟩ := i
   replace hi : (1 ≤ k2 ∧ k + k2 ≤ l.length ∧ wi < k + k2) ∧ cur.length = l.length ∧ cur.take wi = fG (l.take (k + k2)) ∧ ∀ j, k + k2 - 1 ≤ j → cur.getD j default = l.getD j default := hi
   replace hm : m = l.length - (k + k2) := hm
   change Tr _ _ [rowE V 23 an cur] ([(3, .int .i64 (wi : Nat)), (5, .int .i64 (k2 : Nat))] ++ _) _
   obtain ⟨⟨hq1, hq2, hq3⟩, hq4, hq5, hq6⟩ := hi
   have hA := hq6 (k + k2) (by omega)
   have hB := hq6 (k + k2 - 1) (by omega)
   have hi1 : k + (k2 : Int).toNat = k + k2 := rfl
   have hi2 : k + ((k2 : Int) - 1).toNat = k + k2 - 1 := by omega
   refine al (ah (zz0 (aa rfl) (zz0 (aa rfl) (zz0 (BU rfl (by repeat constructor) aj) ?_))))
   refine zz0 (bS rfl rfl) (ad ?_)
   refine ao rfl ?_ ?_ <;> intro h4 <;> try simp only [bs] at h4
   ·refine bB (al (aG (al (gZ aT ?_))))
    refine ax (aa rfl) (ax (aa rfl) (ax (qL rfl rfl (by repeat constructor) aj ae rfl (by omega) (by omega)) ?_))
    refine ax (er rfl am) ?_
    refine ax (aa rfl) (ax (aa rfl) (ax (d6 rfl rfl) ?_))
    refine ax (qL rfl rfl (by repeat constructor) aj ae rfl (by omega) (by omega)) ?_
    refine ax (er rfl am) ?_
    refine ax (jc rfl rfl) ?_
    refine bK ?_
    refine ac ?_
    refine ao rfl ?_ ?_ <;> intro h5 <;> try simp only [bs] at h5
    ·refine ah (zz0 (aa rfl) (zz0 (aa rfl) (zz0 (aa rfl) (zz0 (aa rfl) (zz0 (qL rfl rfl (by repeat constructor) aj ae rfl (by omega) (by omega)) ?_)))))
     refine zz0 (er rfl am) ?_
     refine zz0 (dm rfl rfl aj ae) ?_
     refine f9 (l := cur) (i := wi) (cur.getD (k + (k2 : Int).toNat) default) rfl rfl ae ?_
     have hls6 : (List.set cur (wi) (cur.getD (k + (k2 : Int).toNat) default)).length = (cur).length := List.length_set
     refine ad (ar (zz0 (aa rfl) (zz0 (cx rfl rfl) ?_)))
     refine zz0 (ab rfl) (az (aX (ac (ar (zz0 (aa rfl) (zz0 (cx rfl rfl) ?_))))))
     refine zz0 (ab rfl) (ad ?_)
     rw [hi1, hi2, hA, hB] at h5
     have hcs := lx (l := l) (k := k + k2) (by omega) (by omega)
     rw [if_neg h5, ← hq5] at hcs
     have hcm : (cur.set wi (cur.getD (k + (k2 : Int).toNat) default)).take (wi + 1) = fG (l.take (k + (k2 + 1))) := by
      rw [show k + (k2 + 1) = k + k2 + 1 by omega, hcs, dn (by rw [List.length_set]; omega), hi1, hA]
      congr 1
      ·rw [List.take_set_of_le (Nat.le_refl _)]
      ·simp [List.getD_eq_getElem?_getD, show wi < cur.length by omega]
     refine cC (wi + 1, k2 + 1, cur.set wi (cur.getD (k + (k2 : Int).toNat) default)) (Front.c (Front.c Front.nil)) (bA 29 rfl) (o := ⟨⟨by omega, by omega, by omega⟩, by rw [List.length_set]; exact hq4, hcm, fun j a => by rw [List.getD_eq_getElem?_getD, List.getElem?_set_ne (by omega), ← List.getD_eq_getElem?_getD]; exact hq6 j (by omega)⟩)
    refine bW (aX (ac (ar (zz0 (aa rfl) (zz0 (cx rfl rfl) ?_)))))
    refine zz0 (ab rfl) (ad ?_)
    rw [hi1, hi2, hA, hB] at h5
    have hcs := lx (l := l) (k := k + k2) (by omega) (by omega)
    rw [if_pos h5, ← hq5] at hcs
    refine cC (wi, k2 + 1, cur) (Front.c (Front.c Front.nil)) (bA 19 rfl) (o := ⟨⟨by omega, by omega, by omega⟩, hq4, by rw [show k + (k2 + 1) = k + k2 + 1 by omega, hcs], fun j a => hq6 j (by omega)⟩)
   refine bG (aJ (aJ (bj (ac (ah (zz0 (aa rfl) (zz0 (aa rfl) (zz0 (rJ rfl (by repeat constructor) rfl aj ae rfl (by omega)) ?_))))))))
   refine yC 0 rfl (by repeat constructor) (by omega) aj cU rfl rfl rfl ?_
   refine aL (zz0 (aa rfl) (zz0 (aa rfl) (zz0 (BP rfl (by repeat constructor) rfl aj ae rfl (by rw [List.length_append, List.length_take]; omega)) ?_)))
   refine zz0 (ab rfl) (ad (aD (bv (aB (aB (bv (aB ?_)))))))
   refine aS mZ rfl (fun w' hw => ?_)
   have hkn : k + k2 = l.length := by omega
   rw [hkn, List.take_length] at hq5
   have hm := HpOK.mutOwn hw (.head _) rfl
   have hh := rowE.resl0 (hw.ent _ (.head _)) (k := wi) (by rw [List.length_append, List.length_take]; omega)
   have e : (cur.take wi ++ List.replicate (cur.length - wi) (0 : UInt32)).take wi = fG l := by rw [← hq5, List.take_append_of_le_length (by rw [List.length_take]; omega), List.take_take, Nat.min_self]
   exact ⟨_, rfl, hh.2, hm.1, by rw [← e]; exact hh.1⟩
  refine bW (aX (ac (ar (zz0 (aa rfl) (zz0 (cx rfl rfl) ?_)))))
  refine zz0 (ab rfl) (ad ?_)
  have hk4 : ∀ j, 0 < j → j < k + 1 → l.getD j default ≠ l.getD (j - 1) default := fun j a b => by
   by_cases c : j = k
   ·subst c; rw [← hj]; assumption
   ·exact hk3 j a (by omega)
  refine cC (k + 1) (Front.c Front.nil) (bA 18 rfl) (o := ⟨by omega, by omega, hk4⟩)
 refine bG (aJ (aJ (bj (ac (ah (zz0 (aa rfl) (zz0 (ab rfl) (ad (aD ?_)))))))))
 refine aS mZ rfl (fun w' hw => ?_)
 have e : fG l = l := by rw [← List.take_length (l := l)]; exact ly (Nat.le_refl _) (fun j a b => hk3 j a (by omega))
 exact ⟨_, rfl, rfl, (HpOK.mutOwn hw (.head _) rfl).1, by rw [e]; exact (HpOK.mutOwn hw (.head _) rfl).2⟩
theorem Ez (ins : List Ins) (ents : List UInt32) (ts : List TabV) (pI p1 pu pb : Option Addr) (cI c1 nu cu nb cb : Nat) (VT : Value) (w : World) (hI : Sl (hp w) aP ins (.slice pI ins.length cI)) (hE : Sl (hp w) an ents (.slice p1 ents.length c1)) (hT : Sl (hp w) f5 ts VT) (hTI : TabIn (hp w) ts) (hTB : pH ts) (hel : ents.length ≤ 700) :
  Calls Tryz.prog 106 #[.agg #[.slice pI ins.length cI, .slice p1 ents.length c1, .slice pu nu cu, .slice pb nb cb], VT] w (fun e w' => ∃ V' : Value, e = .returned V' ∧ Ext w w' ∧ jA w w' 23 an (jx ins ents (ts.map (·.data))) V') := by
 have hI' : Sl (Bg.of w).blk aP ins (.slice pI ins.length cI) := hI
 have hT' : Sl (Bg.of w).blk f5 ts VT := hT
 have hls : ∀ t ∈ ((⟨ents, p1, c1⟩ : TabV) :: ts), Sl (Bg.of w).blk an t.data (.slice t.dp t.data.length t.dc) := fun t ht => by
  rcases List.mem_cons.1 ht with rfl | ht
  ·exact hE
  ·exact hTI t ht
 have hlb : ∀ t ∈ ((⟨ents, p1, c1⟩ : TabV) :: ts), t.data.length ≤ 700 := fun t ht => by
  rcases List.mem_cons.1 ht with rfl | ht
  ·exact hel
  ·have := hTB.2 t ht; omega
 have htl := hTB.1
 have hll : ((⟨ents, p1, c1⟩ : TabV) :: ts).length ≤ 701 := by have := hTB.1; rw [List.length_cons]; omega
 refine enter Tryz.func106 rfl Tryz.ntmps106 rfl ?_
 refine ah ?_
 refine dE rfl rfl (fun b1 => ?_)
 refine zz0 (ab rfl) (aL (zz0 (ab rfl) (ad (al (ah (zz0 (zz1 (off := 1) (ft := 31) rfl bI rfl cn) ?_))))))
 refine zz0 (aH rfl dq) ?_
 refine jB (E := f5) (⟨ents, p1, c1⟩ : TabV) rfl rfl du cn Tryz.zeroValue31 (fun V2 => ?_)
 refine zz0 (aa rfl) ?_
 refine CN rfl rfl (by repeat constructor) (fun w hw => hw.slF (by assumption)) du vx (fun V3 => ?_)
 refine gx (l' := ((⟨ents, p1, c1⟩ : TabV) :: ts)) rfl ?_
 refine zz0 (mg rfl du) ?_
 refine zz0 (aa rfl) (ad (aG (cd 23 an ?_)))
 refine bN (ι := Nat × Value) (fun ⟨k, Vo⟩ => k ≤ ((⟨ents, p1, c1⟩ : TabV) :: ts).length) (fun _ => _) (fun ⟨k, Vo⟩ => [rowE Vo 23 an (kO ins ((⟨ents, p1, c1⟩ : TabV) :: ts) k 0), rowE V3 31 f5 ((⟨ents, p1, c1⟩ : TabV) :: ts), cellE b1 [.slice pI ins.length cI, .slice p1 ents.length c1, .slice pu nu cu, .slice pb nb cb] 52]) (fun ⟨k, Vo⟩ => [(16, .int .i64 (k : Nat)), (5, Vo)]) (fun ⟨k, Vo⟩ => ((⟨ents, p1, c1⟩ : TabV) :: ts).length - k) (0, _) (Nat.zero_le _) (Front.c (Front.c Front.nil)) (by repeat' constructor) rfl (fun i hi m hm => ?_)
 obtain ⟨k, Vo⟩ := i
 replace hi : k ≤ ((⟨ents, p1, c1⟩ : TabV) :: ts).length := hi
 replace hm : m = ((⟨ents, p1, c1⟩ : TabV) :: ts).length - k := hm
 change Tr _ _ [rowE Vo 23 an (kO ins ((⟨ents, p1, c1⟩ : TabV) :: ts) k 0), rowE V3 31 f5 ((⟨ents, p1, c1⟩ : TabV) :: ts), cellE b1 [.slice pI ins.length cI, .slice p1 ents.length c1, .slice pu nu cu, .slice pb nb cb] 52] ([(16, .int .i64 (k : Nat)), (5, Vo)] ++ _) _
 refine ah (zz0 (bS rfl rfl) (ad (al ?_)))
 refine ao rfl ?_ ?_ <;> intro h4 <;> try simp only [bs] at h4
 ·refine bB (al (aG (ah (zz0 (dm rfl rfl du cn) ?_))))
  refine zz0 (er rfl dq) ?_
  refine zz0 (ab rfl) (ad (al ?_))
  have hkj : Sl (Bg.of w).blk an (((⟨ents, p1, c1⟩ : TabV) :: ts).getD k default).data (.slice (((⟨ents, p1, c1⟩ : TabV) :: ts).getD k default).dp (((⟨ents, p1, c1⟩ : TabV) :: ts).getD k default).data.length (((⟨ents, p1, c1⟩ : TabV) :: ts).getD k default).dc) := hls _ (cS (by omega))
  have hkjb := hlb _ (cS (l := ((⟨ents, p1, c1⟩ : TabV) :: ts)) (k := k) (by omega))
  have hdm : (((⟨ents, p1, c1⟩ : TabV) :: ts).map (·.data)).getD k [] = (((⟨ents, p1, c1⟩ : TabV) :: ts).getD k default).data := by
   simp only [List.getD_eq_getElem?_getD, List.getElem?_map]
   cases ((⟨ents, p1, c1⟩ : TabV) :: ts)[k]? <;> rfl
  refine ar (zz0 (aa rfl) (zz0 (fJ rfl aj) ?_))
  refine zz0 (aa rfl) (ad (aG ?_))
  refine bN (ι := Nat × Value) (fun ⟨j, Vo⟩ => j ≤ (((⟨ents, p1, c1⟩ : TabV) :: ts).getD k default).data.length) (fun _ => _) (fun ⟨j, Vo⟩ => [rowE Vo 23 an (kO ins ((⟨ents, p1, c1⟩ : TabV) :: ts) k j), rowE V3 31 f5 ((⟨ents, p1, c1⟩ : TabV) :: ts), cellE b1 [.slice pI ins.length cI, .slice p1 ents.length c1, .slice pu nu cu, .slice pb nb cb] 52]) (fun ⟨j, Vo⟩ => [(22, .int .i64 (j : Nat)), (5, Vo)]) (fun ⟨j, Vo⟩ => (((⟨ents, p1, c1⟩ : TabV) :: ts).getD k default).data.length - j) (0, _) (Nat.zero_le _) (Front.c (Front.c Front.nil)) (by repeat' constructor) rfl (fun i hi m hm => ?_)
  obtain ⟨j, Vo⟩ := i
  replace hi : j ≤ (((⟨ents, p1, c1⟩ : TabV) :: ts).getD k default).data.length := hi
  replace hm : m = (((⟨ents, p1, c1⟩ : TabV) :: ts).getD k default).data.length - j := hm
  change Tr _ _ [rowE Vo 23 an (kO ins ((⟨ents, p1, c1⟩ : TabV) :: ts) k j), rowE V3 31 f5 ((⟨ents, p1, c1⟩ : TabV) :: ts), cellE b1 [.slice pI ins.length cI, .slice p1 ents.length c1, .slice pu nu cu, .slice pb nb cb] 52] ([(22, .int .i64 (j : Nat)), (5, Vo)] ++ _) _
  have hkl := C9 (ins := ins) (k := k) (j := j) hlb (by omega)
  have hkm : (k + 1) * 700 ≤ 701 * 700 := Nat.mul_le_mul_right _ (by omega)
  refine ah (zz0 (bS rfl rfl) (ad (al ?_)))
  refine ao rfl ?_ ?_ <;> intro h5 <;> try simp only [bs] at h5
  ·refine bB (al (aG (ah (zz0 (gB rfl rfl aj ae) ?_))))
   refine zz0 (iM rfl am) ?_
   refine dA cU rfl (fun b6 => ?_)
   refine aF an rfl rfl ae ?_
   refine aL (zz0 (zz1 (off := 0) (ft := 50) rfl bI rfl cD) ?_)
   refine zz0 (aH rfl cP) ?_
   refine zz0 (fu rfl rfl) ?_
   refine zz0 (aC rfl Tryz.call86 (fun w hw => nw ins _ _ _ w (hw.slF hI') Tryz.call158 (fun i => decide (i.addr = (((⟨ents, p1, c1⟩ : TabV) :: ts).getD k default).data.getD j default)) (fun x hx w'' h => C6 x _ _ w'' (cellE.cell (hw.ent _ (by repeat constructor)) h rfl)))) ?_
   refine ad ?_
   refine ao rfl ?_ ?_ <;> intro h7 <;> try simp only [bs] at h7
   ·refine ar (zz0 (aa rfl) (zz0 (aH rfl am) ?_))
    refine jB (E := an) ((((⟨ents, p1, c1⟩ : TabV) :: ts).getD k default).data.getD j default) rfl rfl aj ae cU (fun V8 => ?_)
    refine zz2 rfl rfl aj eW (fun V9 => ?_)
    refine zz0 (ab rfl) (az (aX (ac (ar (zz0 (cx rfl rfl) ?_)))))
    refine zz0 (aa rfl) (ad ?_)
    rw [← C7 (by omega) (by assumption)]
    refine cC (j + 1, _) (Front.c (Front.c Front.nil)) (bA 17 rfl) (o := (by show j + 1 ≤ _; omega))
   refine bW (aX (ac (ar (zz0 (cx rfl rfl) ?_))))
   refine zz0 (aa rfl) (ad ?_)
   rw [← EA (by omega) (by first | assumption | simp_all)]
   refine cC (j + 1, _) (Front.c (Front.c Front.nil)) (bA 12 rfl) (o := (by show j + 1 ≤ _; omega))
  refine bG (aJ (aJ (bj (aX (ac (ar (zz0 (cx rfl rfl) ?_)))))))
  refine zz0 (aa rfl) (ad ?_)
  rw [AY ins ((⟨ents, p1, c1⟩ : TabV) :: ts) (by omega) (j := j) (by rw [hdm]; omega)]
  refine cC (k + 1, _) (Front.c (Front.c Front.nil)) (bA 14 rfl) (o := (by show k + 1 ≤ _; omega))
 refine bG (aJ (aJ (bj (ac (al ?_)))))
 obtain rfl : k = ((⟨ents, p1, c1⟩ : TabV) :: ts).length := by omega
 rw [Da]
 have hrl := nT ins (ls := ((⟨ents, p1, c1⟩ : TabV) :: ts).map (·.data)) (n := 700) (fun t ht => by
  obtain ⟨r, hr, rfl⟩ := List.mem_map.1 ht
  exact hlb r hr)
 rw [List.length_map] at hrl
 have hrm : ((⟨ents, p1, c1⟩ : TabV) :: ts).length * 700 ≤ 701 * 700 := Nat.mul_le_mul_right _ hll
 refine ar (zz0 (aa rfl) (dY rfl Tryz.call141 (by repeat constructor) (fun w hw => we (lO ins (((⟨ents, p1, c1⟩ : TabV) :: ts).map (·.data))).toArray _ w (hw.ent _ (.head _)) (by rw [List.size_toArray]; omega)) rfl ?_))
 rw [yX]
 refine aL (zz0 (aa rfl) ?_)
 refine vX rfl Tryz.call159 (by repeat constructor) (fun w hw => Af (fZ (lO ins (((⟨ents, p1, c1⟩ : TabV) :: ts).map (·.data)))) _ w (hw.ent _ (.head _)) (by rw [qT]; omega)) rfl (fun V10 hV10 => ?_)
 refine zz0 (ab rfl) (ad (aD ?_))
 refine aS Tryz.results106 rfl (fun w' hw => ?_)
 exact ⟨_, rfl, hw.b0, hw.new (.head _)⟩
end Go.Proofs.YtiajjbhcpeadfaaGreat
namespace Go.Proofs.YtiajjbhcpeadfaaGreat
open Go Go.HL Go.RowKit
theorem Ex (x0 x1 x2 x3 : Option Addr) (xn0 xc0 xn1 xc1 xn2 xc2 xn3 xc3 : Nat) (l : List SecV) (pV : Option Addr) (cV : Nat) (es : List UInt32) (VE : Value) (ts : List TabV) (at_ : List UInt32) (pt pa : Option Addr) (ct ca : Nat) (w : World) (hV : Sl (hp w) dK l (.slice pV l.length cV)) (hB : SecB l) (hD : DataIn (hp w) l) (hN : ∀ s ∈ l, s.name.size ≤ 140737488351232) (hE : Sl (hp w) an es VE) (hT : Sl (hp w) f5 ts (.slice pt ts.length ct)) (hTI : TabIn (hp w) ts) (hTB : pH ts) (hP : Sl (hp w) an at_ (.slice pa at_.length ca)) (ht : totD l ≤ 600) (hel : es.length ≤ 100) :
  Calls Tryz.prog 52 #[.agg #[.slice x0 xn0 xc0, .slice x1 xn1 xc1, .slice x2 xn2 xc2, .slice x3 xn3 xc3, .slice pt ts.length ct, .slice pa at_.length ca], (.slice pV l.length cV), VE] w (fun e w' => ∃ i : (Value × Value × Value × Value × Value × Value) × (CodeP × FndV × Int) × List (RV UInt32), e = .returned ((fun i : (Value × Value × Value × Value × Value × Value) × (CodeP × FndV × Int) × List (RV UInt32) => .tuple #[.agg #[i.1.1, i.1.2.1, i.1.2.2.1, i.1.2.2.2.1, i.1.2.2.2.2.1, i.1.2.2.2.2.2], .int .i64 i.2.1.2.2]) i) ∧ Below w.heap.size w w' ∧ NewEnts w w' ((fun i : (Value × Value × Value × Value × Value × Value) × (CodeP × FndV × Int) × List (RV UInt32) => rowE i.1.1 36 aP i.2.1.1.ins :: rowE i.1.2.1 23 an i.2.1.1.ents :: rowE i.1.2.2.1 23 an i.2.1.1.unk :: rowE i.1.2.2.2.1 23 an i.2.1.1.bad :: rowE i.1.2.2.2.2.1 31 dD i.2.2 :: rowE i.1.2.2.2.2.2 23 an i.2.1.2.1.at_ :: i.2.2.map (rvE 23 an)) i) ∧ (fun i : (Value × Value × Value × Value × Value × Value) × (CodeP × FndV × Int) × List (RV UInt32) => RoundIs l es ts at_ i.2.1 ∧ i.2.2.map (·.data) = i.2.1.2.1.ts) i) := by
 have hV0 : Sl (Bg.of0 w).blk dK l (.slice pV l.length cV) := hV
 have hD0 : DataIn (Bg.of0 w).blk l := hD
 have hE0 : Sl (Bg.of0 w).blk an es VE := hE
 have hT0 : Sl (Bg.of0 w).blk f5 ts (.slice pt ts.length ct) := hT
 have hTI0 : TabIn (Bg.of0 w).blk ts := hTI
 have hP0 : Sl (Bg.of0 w).blk an at_ (.slice pa at_.length ca) := hP
 refine l3 Tryz.func52 rfl Tryz.ntmps52 rfl ?_
 refine ah ?_
 refine dE rfl rfl (fun b1 => ?_)
 refine dA jJ rfl (fun b2 => ?_)
 refine zz0 (ab rfl) (aL (zz0 (aa rfl) (zz0 (aa rfl) (zz0 (zz1 (off := 4) (ft := 53) rfl cN rfl gg) ?_))))
 refine zz0 (aH rfl jV) ?_
 refine zz0 (zz1 (off := 5) (ft := 31) rfl cN rfl cn) ?_
 refine zz0 (aH rfl dq) ?_
 refine eE (fun i : ((Value × Value × Value × Value) × CodeP × Int) => .tuple #[.agg #[i.1.1, i.1.2.1, i.1.2.2.1, i.1.2.2.2], .int .i64 i.2.2]) (fun i : ((Value × Value × Value × Value) × CodeP × Int) => [rowE i.1.1 36 aP i.2.1.ins, rowE i.1.2.1 23 an i.2.1.ents, rowE i.1.2.2.1 23 an i.2.1.unk, rowE i.1.2.2.2 23 an i.2.1.bad]) (ok := fun i => WalkIs l ts at_ es i.2.1 i.2.2) rfl rfl Tryz.call28 (fun w hw => walk_any l ts at_ es _ VE _ _ w (hw.slF hV0) hB (hD0.mono hw.bg) hN (hw.slF hE0) (hw.slF hT0) (hTI0.mono hw.bg) hTB (hw.slF hP0) ht hel) rfl (fun i hwk => ?_)
 obtain ⟨⟨Vi, Ve, Vu, Vb⟩, c, ew⟩ := i
 replace hwk : WalkIs l ts at_ es c ew := hwk
 have hcl := sE hTB hwk
 change Tr _ _ [rowE Vi 36 aP c.ins, rowE Ve 23 an c.ents, rowE Vu 23 an c.unk, rowE Vb 23 an c.bad, cellE b2 [.slice none 0 0, .slice none 0 0, .slice none 0 0, .slice none 0 0, .slice none 0 0, .slice none 0 0] 114, cellE b1 [.slice x0 xn0 xc0, .slice x1 xn1 xc1, .slice x2 xn2 xc2, .slice x3 xn3 xc3, .slice pt ts.length ct, .slice pa at_.length ca] 114] _ _
 refine iL (V := Vi) (fun pVi cVi hpv => ?_)
 subst hpv
 refine iL (V := Ve) (fun pVe cVe hpv => ?_)
 subst hpv
 refine iL (V := Vu) (fun pVu cVu hpv => ?_)
 subst hpv
 refine iL (V := Vb) (fun pVb cVb hpv => ?_)
 subst hpv
 refine zz0 (aa rfl) (zz0 (aR rfl rfl) (zz0 (aR rfl rfl) ?_))
 refine dA dW rfl (fun b3 => ?_)
 refine zz8 rfl rfl cm ?_
 refine zz0 (ab rfl) (ad (al (ah (zz0 (aa rfl) (zz0 (fa rfl rfl) (ad ?_))))))
 refine ao rfl ?_ ?_ <;> intro h4 <;> try simp only [bs] at h4
 ·have hqw := h4
  refine al (cd 36 aP ?_)
  refine cd 23 an ?_
  refine cd 23 an ?_
  refine cd 23 an ?_
  refine cd 23 an ?_
  refine cd 31 (dD (α := UInt32)) ?_
  refine ar (zz0 (bL (vs := []) rfl rfl (rR)) ?_)
  refine zz0 (aa rfl) (zz8 rfl rfl eN ?_)
  refine zz0 (ab rfl) (ad (aD (aB ?_)))
  refine kj Tryz.results52 rfl rfl il eN (fun w' hw => ?_)
  exact ⟨((.slice none 0 0, .slice none 0 0, .slice none 0 0, .slice none 0 0, .slice none 0 0, .slice none 0 0), (⟨[], [], [], []⟩, ⟨[], []⟩, ew), []), rfl, hw.below0 (Bg.le.refl _), hw.ents0 rfl (by repeat' (first | exact Pick.refl _ | exact Del.here _ | apply Pick.cons | apply Del.there | apply Pick.skip | exact Pick.nil _)), ⟨c, ew, hwk, by rw [if_pos hqw]⟩, rfl⟩
 have hqw : ew = 0 := by simpa using h4
 refine bB (al ?_)
 obtain ⟨R, hR⟩ : ∃ R, R = fV c.ins c.ents c.unk c.bad := ⟨_, rfl⟩
 have hkl := wz c.ins c.ents c.unk c.bad
 rw [← hR] at hkl
 have hkI : ∀ x ∈ R.kept, InsOK x := fun x hx => nO hwk x (zu (by rw [← hR]; exact hx))
 have hks : R.kept.Pairwise (fun x y => Dq lz y x = false) := (by rw [hR]; exact qu c.ins c.ents c.unk c.bad : R.kept.Pairwise fun a b => ltA a b = true).imp fun {a b} q => D9.asym (by unfold Dq lz; unfold ltA at q; rw [decide_eq_true_eq] at q ⊢; exact (tX _ _).2 q)
 refine ar (zz0 (bE rfl fy cm) ?_)
 refine jb (fun i : (Value × Value × Value × Value × Value) => .tuple #[.agg #[i.1, i.2.1, i.2.2.1, i.2.2.2.1], i.2.2.2.2]) (fun i : (Value × Value × Value × Value × Value) => [rowE i.1 36 aP R.kept, rowE i.2.1 23 an R.ents, rowE i.2.2.1 23 an R.unk, rowE i.2.2.2.1 23 an R.bad, rowE i.2.2.2.2 23 an R.rem]) (ok := fun _ => True) rfl Tryz.call29 (fun w hw => (sU c.ins c.ents c.unk c.bad _ _ _ _ w (hw.row (by repeat constructor)) (hw.row (by repeat constructor)) (hw.row (by repeat constructor)) (hw.row (by repeat constructor)) (nO hwk) (by omega) (by omega) (by omega) (by omega)).mono fun e w' ⟨i, q1, q2, q3⟩ => ⟨i, q1, q2, by rw [hR]; exact q3, trivial⟩) rfl (fun i5 _ => ?_)
 obtain ⟨Ki, Ke, Ku, Kb, Kr⟩ := i5
 change Tr _ _ (rowE Ki 36 aP R.kept :: rowE Ke 23 an R.ents :: rowE Ku 23 an R.unk :: rowE Kb 23 an R.bad :: rowE Kr 23 an R.rem :: _) _ _
 refine iL (V := Ki) (fun pKi cKi hpv => ?_)
 subst hpv
 refine iL (V := Ke) (fun pKe cKe hpv => ?_)
 subst hpv
 refine iL (V := Ku) (fun pKu cKu hpv => ?_)
 subst hpv
 refine iL (V := Kb) (fun pKb cKb hpv => ?_)
 subst hpv
 refine zz0 (aa rfl) (zz0 (aR rfl rfl) (zz0 (aR rfl rfl) ?_))
 refine dA dW rfl (fun b5 => ?_)
 refine zz8 rfl rfl cm ?_
 refine zz0 (ab rfl) (aL (zz0 (bE rfl fy cm) ?_))
 refine zz0 (bL (vs := [(0, _)]) (cs := #[.slice pKi R.kept.length cKi, .slice pKe R.ents.length cKe, .slice pKu R.unk.length cKu, .slice pKb R.bad.length cKb, .slice none 0 0, .slice none 0 0]) rfl rfl (by kernel_rfl)) ?_
 refine dA jJ rfl (fun b6 => ?_)
 refine zz8 rfl rfl eN ?_
 refine aL (zz0 (ab rfl) (ad (al (ah (zz0 (zz1 (off := 0) (ft := 52) rfl cN rfl cm) ?_)))))
 refine zz0 (gr (vs := [.slice pKi R.kept.length cKi, .slice pKe R.ents.length cKe, .slice pKu R.unk.length cKu, .slice pKb R.bad.length cKb]) rfl (by repeat constructor) fy cm (by rfl) (by rfl)) ?_
 refine zz0 (zz1 (off := 4) (ft := 53) rfl cN rfl gg) ?_
 refine zz0 (aH rfl jV) ?_
 refine gY rfl Tryz.call106 (fun w hw => Ez R.kept R.ents ts _ _ _ _ _ _ _ _ _ _ _ w (hw.row (by repeat constructor)) (hw.row (by repeat constructor)) (hw.slF hT0) (hTI0.mono hw.bg) hTB (by omega)) rfl (fun V7 => ?_)
 obtain ⟨rts, hrts⟩ : ∃ rts, rts = jx R.kept R.ents (ts.map (·.data)) := ⟨_, rfl⟩
 rw [← hrts]
 have hrl : rts.length ≤ 490700 := by
  rw [hrts]
  refine C5 (by omega) (fun t ht => ?_) (by rw [List.length_map]; exact hTB.1)
  obtain ⟨r, hr, rfl⟩ := List.mem_map.1 ht
  have := hTB.2 r hr; omega
 refine zz0 (mg rfl aj) ?_
 refine zz0 (aa rfl) (ad (aG (cd 177 (dD (α := StV)) ?_)))
 refine bN (ι := Nat × Bg × List (RV StV) × Value) (fun ⟨k, G, ss, Vs⟩ => ((k ≤ rts.length ∧ (Bg.of0 w).le G) ∧ RvIn cL G.blk ss) ∧ ss.map (·.data) = j8 R.kept (rts.take k) ∧ lw R.kept (rts.take k) = 0) (fun ⟨k, G, ss, Vs⟩ => G) (fun ⟨k, G, ss, Vs⟩ => [rowE Vs 177 dD ss, rowE V7 23 an rts, cellE b6 [.slice pKi R.kept.length cKi, .slice pKe R.ents.length cKe, .slice pKu R.unk.length cKu, .slice pKb R.bad.length cKb, .slice none 0 0, .slice none 0 0] 114, rowE (.slice pKi R.kept.length cKi) 36 aP R.kept, rowE (.slice pKe R.ents.length cKe) 23 an R.ents, rowE (.slice pKu R.unk.length cKu) 23 an R.unk, rowE (.slice pKb R.bad.length cKb) 23 an R.bad, cellE b2 [.slice none 0 0, .slice none 0 0, .slice none 0 0, .slice none 0 0, .slice none 0 0, .slice none 0 0] 114]) (fun ⟨k, G, ss, Vs⟩ => [(56, .int .i64 (k : Nat)), (13, Vs)]) (fun ⟨k, G, ss, Vs⟩ => rts.length - k) (0, _, [], _) ⟨⟨⟨Nat.zero_le _, Bg.le.refl _⟩, fun t ht => by cases ht⟩, rfl, rfl⟩ (Front.c (Front.c Front.nil)) (by repeat' constructor) rfl (fun i hi m hm => ?_)
 obtain ⟨k, G, ss, Vs⟩ := i
 replace hi : ((k ≤ rts.length ∧ (Bg.of0 w).le G) ∧ RvIn cL G.blk ss) ∧ ss.map (·.data) = j8 R.kept (rts.take k) ∧ lw R.kept (rts.take k) = 0 := hi
 replace hm : m = rts.length - k := hm
 change Tr _ (G) [rowE Vs 177 dD ss, rowE V7 23 an rts, cellE b6 [.slice pKi R.kept.length cKi, .slice pKe R.ents.length cKe, .slice pKu R.unk.length cKu, .slice pKb R.bad.length cKb, .slice none 0 0, .slice none 0 0] 114, rowE (.slice pKi R.kept.length cKi) 36 aP R.kept, rowE (.slice pKe R.ents.length cKe) 23 an R.ents, rowE (.slice pKu R.unk.length cKu) 23 an R.unk, rowE (.slice pKb R.bad.length cKb) 23 an R.bad, cellE b2 [.slice none 0 0, .slice none 0 0, .slice none 0 0, .slice none 0 0, .slice none 0 0, .slice none 0 0] 114] ([(56, .int .i64 (k : Nat)), (13, Vs)] ++ _) _
 obtain ⟨⟨⟨hk, hG⟩, hss⟩, hks1, hks0⟩ := hi
 have hsl : ss.length = min k rts.length := by have := congrArg List.length hks1; rw [List.length_map] at this; rw [this]; unfold j8; rw [List.length_map, List.length_take]
 refine ah (zz0 (bS rfl rfl) (ad (al ?_)))
 refine ao rfl ?_ ?_ <;> intro h8 <;> try simp only [bs] at h8
 ·refine bB (al (aG (ah (zz0 (dm rfl rfl aj ae) ?_))))
  refine zz0 (er rfl am) ?_
  refine zz0 (ab rfl) (aL (zz0 (zz1 (off := 0) (ft := 52) rfl cN rfl cm) ?_))
  refine zz0 (zz1 (off := 0) (ft := 50) rfl bI rfl cD) ?_
  refine zz0 (aH rfl cP) ?_
  refine zz0 (aa rfl) ?_
  refine eE (fun V : Value => .tuple #[V, .int .i64 (eK R.kept (rts.getD k default) 4096).2]) (fun V => [rowE V 37 cL (eK R.kept (rts.getD k default) 4096).1]) (ok := fun _ => True) hG.dr rfl Tryz.call107 (fun w hw => (Ap R.kept (rts.getD k default) 4096 _ w (hw.row (by repeat constructor)) hkI (by omega)).mono fun e w' ⟨V, q1, q2, q3⟩ => ⟨V, q1, q2, q3, trivial⟩) rfl (fun VA _ => ?_)
  refine zz0 (aa rfl) (zz0 (aR rfl rfl) (zz0 (aR rfl rfl) (zz0 (ab rfl) (zz0 (ab rfl) (ad (al (ah (zz0 (aa rfl) (zz0 (fa rfl rfl) (ad ?_))))))))))
  refine ao rfl ?_ ?_ <;> intro h9 <;> try simp only [bs] at h9
  ·have hqe := h9
   refine al (cd 36 aP ?_)
   refine cd 23 an ?_
   refine cd 23 an ?_
   refine cd 23 an ?_
   refine cd 23 an ?_
   refine cd 31 (dD (α := UInt32)) ?_
   refine ar (zz0 (bL (vs := []) rfl rfl (rR)) ?_)
   refine zz0 (aa rfl) (zz8 rfl rfl eN ?_)
   refine zz0 (ab rfl) (ad (aD (aB (bv (aB (aB (bv (aB ?_))))))))
   refine kj Tryz.results52 rfl rfl il eN (fun w' hw => ?_)
   have h1 := sB hks0 (by omega : k < rts.length)
   have hee : lw R.kept rts = (eK R.kept (rts.getD k default) 4096).2 := by rw [zX (k := k + 1) (by rw [h1]; exact hqe), h1]
   exact ⟨((.slice none 0 0, .slice none 0 0, .slice none 0 0, .slice none 0 0, .slice none 0 0, .slice none 0 0), (⟨[], [], [], []⟩, ⟨[], []⟩, (eK R.kept (rts.getD k default) 4096).2), []), rfl, hw.below0 hG, hw.ents0 hG.lo (by repeat' (first | exact Pick.refl _ | exact Del.here _ | apply Pick.cons | apply Del.there | apply Pick.skip | exact Pick.nil _)), ⟨c, ew, hwk, by rw [if_neg (fun q => q hqw), uw hR (by rw [← hrts, hee]; exact hqe), ← hrts, hee]⟩, rfl⟩
  have hqe : (eK R.kept (rts.getD k default) 4096).2 = 0 := by simpa using h9
  refine bB ?_
  have hek : lw R.kept (rts.take (k + 1)) = 0 := by
   rw [sB hks0 (by omega)]; exact hqe
  refine iL (V := VA) (fun pA cA hpv => ?_)
  subst hpv
  refine kx (V := .slice pA (eK R.kept (rts.getD k default) 4096).1.length cA) (T := 37) (E := cL) (by repeat constructor) (fun G2 hG2 hA2 => ?_)
  refine ar (zz0 (aa rfl) (zz0 (aa rfl) ?_))
  refine jB (E := (dD (α := StV))) (⟨(eK R.kept (rts.getD k default) 4096).1, pA, cA⟩ : RV StV) rfl rfl jk eM Tryz.zeroValue177 (fun V10 => ?_)
  refine zz2 rfl rfl jk AK (fun V11 => ?_)
  refine zz0 (ab rfl) (az (aX (ac (ar (zz0 (cx rfl rfl) ?_)))))
  refine zz0 (aa rfl) (ad ?_)
  apply ie (k + 1, G2, ss ++ [⟨(eK R.kept (rts.getD k default) 4096).1, pA, cA⟩], _)
  ·exact rfl
  ·exact (Front.c (Front.c Front.nil))
  ·exact bA 25 rfl
  ·exact (by repeat' constructor)
  ·exact ⟨⟨⟨by omega, hG.trans hG2⟩, fun t ht => by
   rcases List.mem_append.1 ht with ht | ht
   ·exact (hss t ht).mono hG2.blk
   rw [List.mem_singleton.1 ht]; exact hA2⟩, by rw [List.map_append, hks1, yU (by omega)]; rfl, hek⟩
  exact (by (try dsimp only); omega)
 refine bG (aJ (aJ (bj (ac (al ?_)))))
 obtain rfl : k = rts.length := by omega
 rw [List.take_length] at hks1 hks0
 have hVG := hV0.mono hG.blk
 have hDG := hD0.mono hG.blk
 refine ar (zz0 (zz1 (off := 0) (ft := 52) rfl cN rfl cm) ?_)
 refine zz0 (zz1 (off := 0) (ft := 50) rfl bI rfl cD) ?_
 refine zz0 (aH rfl cP) ?_
 refine gY rfl Tryz.call77 (fun w hw => wR R.kept _ w (hw.row (by repeat constructor)) (by omega)) rfl (fun VC => ?_)
 refine zz0 (ab rfl) (aL (zz0 (aa rfl) ?_))
 refine gR (fun c2 => c2 = R.kept) rfl Tryz.call78 (fun w hw => (oZ R.kept _ 108 [] lz (fun _ => True) (fun _ _ _ _ _ _ => trivial) Tryz.call108 (fun x y w' _ => C4 x y w') D9 w trivial (hw.ent _ (.head _)) (by omega)).mono fun e w' ⟨q1, c2, ⟨q2, q3, q4⟩, q5, q6⟩ => ⟨q1, c2, (rU D9 _ _ q2 hks (Srt.all (by rw [q2.len]; exact q4))).symm, q5, q6⟩) rfl (fun c2 hc2 => ?_)
 subst hc2
 refine ad (al (ah (zz0 (aa rfl) (zz0 (mg rfl aM) ?_))))
 refine zz0 (aa rfl) (ad (aG (cd 31 (dD (α := UInt32)) ?_)))
 refine cd 23 an ?_
 refine bN (ι := Nat × List (RV UInt32) × List UInt32 × Value × Value) (fun ⟨k, rs, at2, Vt, Vp⟩ => k ≤ R.kept.length ∧ (⟨rs.map (·.data), at2⟩ : FndV) = (lZ l R.kept (ss.map (·.data)) (R.kept.take k))) (fun _ => G) (fun ⟨k, rs, at2, Vt, Vp⟩ => (rowE VC 36 aP R.kept :: cellE b6 [.slice pKi R.kept.length cKi, .slice pKe R.ents.length cKe, .slice pKu R.unk.length cKu, .slice pKb R.bad.length cKb, Vt, Vp] 114 :: rowE Vt 31 dD rs :: rowE Vp 23 an at2 :: rowE Vs 177 dD ss :: rowE (.slice pKi R.kept.length cKi) 36 aP R.kept :: rowE (.slice pKe R.ents.length cKe) 23 an R.ents :: rowE (.slice pKu R.unk.length cKu) 23 an R.unk :: rowE (.slice pKb R.bad.length cKb) 23 an R.bad :: cellE b2 [.slice none 0 0, .slice none 0 0, .slice none 0 0, .slice none 0 0, .slice none 0 0, .slice none 0 0] 114 :: (rs.map (rvE 23 an) ++ []))) (fun ⟨k, rs, at2, Vt, Vp⟩ => [(85, .int .i64 (k : Nat))]) (fun ⟨k, rs, at2, Vt, Vp⟩ => R.kept.length - k) (0, [], [], _, _) ⟨Nat.zero_le _, rfl⟩ (Front.c Front.nil) (by repeat' (first | exact Pick.refl _ | exact Del.here _ | apply Pick.cons | apply Del.there | apply Pick.skip | exact Pick.nil _)) rfl (fun i hi m hm => ?_)
 obtain ⟨k, rs, at2, Vt, Vp⟩ := i
 replace hi : k ≤ R.kept.length ∧ (⟨rs.map (·.data), at2⟩ : FndV) = (lZ l R.kept (ss.map (·.data)) (R.kept.take k)) := hi
 replace hm : m = R.kept.length - k := hm
 change Tr _ _ (rowE VC 36 aP R.kept :: cellE b6 [.slice pKi R.kept.length cKi, .slice pKe R.ents.length cKe, .slice pKu R.unk.length cKu, .slice pKb R.bad.length cKb, Vt, Vp] 114 :: rowE Vt 31 dD rs :: rowE Vp 23 an at2 :: rowE Vs 177 dD ss :: rowE (.slice pKi R.kept.length cKi) 36 aP R.kept :: rowE (.slice pKe R.ents.length cKe) 23 an R.ents :: rowE (.slice pKu R.unk.length cKu) 23 an R.unk :: rowE (.slice pKb R.bad.length cKb) 23 an R.bad :: cellE b2 [.slice none 0 0, .slice none 0 0, .slice none 0 0, .slice none 0 0, .slice none 0 0, .slice none 0 0] 114 :: (rs.map (rvE 23 an) ++ [])) ([(85, .int .i64 (k : Nat))] ++ _) _
 obtain ⟨hk, hfa⟩ := hi
 refine ah (zz0 (bS rfl rfl) (ad (al ?_)))
 refine ao rfl ?_ ?_ <;> intro h12 <;> try simp only [bs] at h12
 ·refine bB ?_
  refine db (ι := List (RV UInt32) × List UInt32 × Value × Value) (fun ⟨rs3, at3, Vt3, Vp3⟩ => (⟨rs3.map (·.data), at3⟩ : FndV) = jY l R.kept (ss.map (·.data)) ⟨rs.map (·.data), at2⟩ (R.kept.getD k default)) (fun _ => G) (fun ⟨rs3, at3, Vt3, Vp3⟩ => (rowE VC 36 aP R.kept :: cellE b6 [.slice pKi R.kept.length cKi, .slice pKe R.ents.length cKe, .slice pKu R.unk.length cKu, .slice pKb R.bad.length cKb, Vt3, Vp3] 114 :: rowE Vt3 31 dD rs3 :: rowE Vp3 23 an at3 :: rowE Vs 177 dD ss :: rowE (.slice pKi R.kept.length cKi) 36 aP R.kept :: rowE (.slice pKe R.ents.length cKe) 23 an R.ents :: rowE (.slice pKu R.unk.length cKu) 23 an R.unk :: rowE (.slice pKb R.bad.length cKb) 23 an R.bad :: cellE b2 [.slice none 0 0, .slice none 0 0, .slice none 0 0, .slice none 0 0, .slice none 0 0, .slice none 0 0] 114 :: (rs3.map (rvE 23 an) ++ []))) (fun ⟨rs3, at3, Vt3, Vp3⟩ => []) ?_ (fun i hi => ?_)
  ·skip
   refine aG (ah (zz0 (dm rfl rfl aM au) ?_))
   refine zz0 (mF rfl aQ au) ?_
   refine dA bP rfl (fun b13 => ?_)
   refine aF aP rfl rfl au ?_
   refine ad (al (ah (zz0 (bE rfl aQ au) ?_)))
   refine zz0 (aC rfl Tryz.call38 (fun w hw => s5 (R.kept.getD k default) w (hkI _ (cS (by omega))))) ?_
   refine zz0 (cj rfl) (ad ?_)
   refine ao rfl ?_ ?_ <;> intro h14 <;> try simp only [bs] at h14
   ·have hqi : oP (R.kept.getD k default) = false := h14
    refine bG (aJ (bj (ac ?_)))
    refine qJ (_, _, _, _) Front.nil (bA 6 rfl) (o := (by show _ = _; first | exact (pX hqi).symm | exact (pW hbk).symm | exact (pY hbt hqt).symm | (rw [pU hqi hbt hqt]; simp)))
   have hqi : oP (R.kept.getD k default) = true := by simpa using h14
   refine df (zz0 (bL (vs := []) rfl rfl (tw)) ?_)
   refine dA cR rfl (fun b15 => ?_)
   refine aF cL rfl rfl aU ?_
   refine zz0 (ab rfl) (ad (al (ah (zz0 (aa rfl) (zz0 (mg rfl jk) ?_)))))
   refine zz0 (aa rfl) (ad (aG ?_))
   refine bN (ι := Nat × StV × Bool) (fun ⟨q, b, kn⟩ => q ≤ ss.length ∧ (b, kn) = (od R.kept (R.kept.getD k default).addr ((ss.map (·.data)).take q))) (fun _ => G) (fun ⟨q, b, kn⟩ => (cellE b15 (cL.enc b) 37 :: cellE b13 (aP.enc (R.kept.getD k default)) 36 :: rowE VC 36 aP R.kept :: cellE b6 [.slice pKi R.kept.length cKi, .slice pKe R.ents.length cKe, .slice pKu R.unk.length cKu, .slice pKb R.bad.length cKb, Vt, Vp] 114 :: rowE Vt 31 dD rs :: rowE Vp 23 an at2 :: rowE Vs 177 dD ss :: rowE (.slice pKi R.kept.length cKi) 36 aP R.kept :: rowE (.slice pKe R.ents.length cKe) 23 an R.ents :: rowE (.slice pKu R.unk.length cKu) 23 an R.unk :: rowE (.slice pKb R.bad.length cKb) 23 an R.bad :: cellE b2 [.slice none 0 0, .slice none 0 0, .slice none 0 0, .slice none 0 0, .slice none 0 0, .slice none 0 0] 114 :: (rs.map (rvE 23 an) ++ []))) (fun ⟨q, b, kn⟩ => [(95, .int .i64 (q : Nat)), (22, .bool kn)]) (fun ⟨q, b, kn⟩ => ss.length - q) (0, gu, false) ⟨Nat.zero_le _, rfl⟩ (Front.c (Front.c Front.nil)) (by repeat' (first | exact Pick.refl _ | exact Del.here _ | apply Pick.cons | apply Del.there | apply Pick.skip | exact Pick.nil _)) rfl (fun i hi m hm => ?_)
   obtain ⟨q, b, kn⟩ := i
   replace hi : q ≤ ss.length ∧ (b, kn) = (od R.kept (R.kept.getD k default).addr ((ss.map (·.data)).take q)) := hi
   replace hm : m = ss.length - q := hm
   change Tr _ _ (cellE b15 (cL.enc b) 37 :: cellE b13 (aP.enc (R.kept.getD k default)) 36 :: rowE VC 36 aP R.kept :: cellE b6 [.slice pKi R.kept.length cKi, .slice pKe R.ents.length cKe, .slice pKu R.unk.length cKu, .slice pKb R.bad.length cKb, Vt, Vp] 114 :: rowE Vt 31 dD rs :: rowE Vp 23 an at2 :: rowE Vs 177 dD ss :: rowE (.slice pKi R.kept.length cKi) 36 aP R.kept :: rowE (.slice pKe R.ents.length cKe) 23 an R.ents :: rowE (.slice pKu R.unk.length cKu) 23 an R.unk :: rowE (.slice pKb R.bad.length cKb) 23 an R.bad :: cellE b2 [.slice none 0 0, .slice none 0 0, .slice none 0 0, .slice none 0 0, .slice none 0 0, .slice none 0 0] 114 :: (rs.map (rvE 23 an) ++ [])) ([(95, .int .i64 (q : Nat)), (22, .bool kn)] ++ _) _
   obtain ⟨hq, hbf⟩ := hi
   have hgd : ((ss.map (·.data))).getD q default = (ss.getD q default).data := by
    simp only [List.getD_eq_getElem?_getD, List.getElem?_map]
    cases ss[q]? <;> rfl
   refine ah (zz0 (bS rfl rfl) (ad (al ?_)))
   refine ao rfl ?_ ?_ <;> intro h16 <;> try simp only [bs] at h16
   ·refine bB (al (aG (ah (zz0 (dm rfl rfl jk eM) ?_))))
    refine zz0 (er rfl gQ) ?_
    refine zz0 (ab rfl) (aL (zz0 (zz1 (off := 0) (ft := 52) rfl cN rfl cm) ?_))
    refine zz0 (zz1 (off := 0) (ft := 50) rfl bI rfl cD) ?_
    refine zz0 (aH rfl cP) ?_
    refine zz0 (aa rfl) (zz0 (zz1 (off := 0) (ft := 23) rfl af rfl ae) ?_)
    refine zz0 (aH rfl am) ?_
    refine zz0 (aC rfl Tryz.call109 (fun w hw => Bw R.kept (ss.getD q default).data (R.kept.getD k default).addr _ _ w (hw.row (by repeat constructor)) (hw.slF (hss _ (cS (by omega)))))) ?_
    refine zz0 (aa rfl) (zz0 (aR rfl rfl) (zz0 (aR rfl rfl) ?_))
    refine dA cR rfl (fun b17 => ?_)
    refine aF cL rfl rfl aU ?_
    refine zz0 (ab rfl) (ad (al (ah (zz0 (aa rfl) (zz0 (cj rfl) (ad ?_))))))
    refine ao rfl ?_ ?_ <;> intro h18 <;> try simp only [bs] at h18
    ·have hqb : (jj R.kept (ss.getD q default).data (R.kept.getD k default).addr).2 = false := h18
     refine bG (aJ (bj (ac (ar (zz0 (cx rfl rfl) ?_)))))
     refine zz0 (aa rfl) (ad ?_)
     refine oD (q + 1, b, kn) (Front.c (Front.c Front.nil)) (bA 22 rfl) (o := ⟨by omega, by rw [wW (by rw [List.length_map]; omega), ← hbf, hgd]; unfold Hq; rw [if_neg (by rw [hqb]; simp)]⟩)
    have hqb : (jj R.kept (ss.getD q default).data (R.kept.getD k default).addr).2 = true := by simpa using h18
    refine bB ?_
    refine db (ι := StV) (fun x1 => x1 = if kn = true then iP b (jj R.kept (ss.getD q default).data (R.kept.getD k default).addr).1 8 else (jj R.kept (ss.getD q default).data (R.kept.getD k default).addr).1) (fun _ => G) (fun x1 => (cellE b17 (cL.enc x1) 37 :: cellE b15 (cL.enc b) 37 :: cellE b13 (aP.enc (R.kept.getD k default)) 36 :: rowE VC 36 aP R.kept :: cellE b6 [.slice pKi R.kept.length cKi, .slice pKe R.ents.length cKe, .slice pKu R.unk.length cKu, .slice pKb R.bad.length cKb, Vt, Vp] 114 :: rowE Vt 31 dD rs :: rowE Vp 23 an at2 :: rowE Vs 177 dD ss :: rowE (.slice pKi R.kept.length cKi) 36 aP R.kept :: rowE (.slice pKe R.ents.length cKe) 23 an R.ents :: rowE (.slice pKu R.unk.length cKu) 23 an R.unk :: rowE (.slice pKb R.bad.length cKb) 23 an R.bad :: cellE b2 [.slice none 0 0, .slice none 0 0, .slice none 0 0, .slice none 0 0, .slice none 0 0, .slice none 0 0] 114 :: (rs.map (rvE 23 an) ++ []))) (fun x1 => []) ?_ (fun x1 hi => ?_)
    ·skip
     refine ah (zz0 (aa rfl) (ad ?_))
     refine ao rfl ?_ ?_ <;> intro h19 <;> try simp only [bs] at h19
     ·have hkn : kn = true := h19
      refine ar (zz0 (bE rfl bT aU) ?_)
      refine zz0 (bE rfl bT aU) ?_
      refine zz0 (aC rfl ox (fun w hw => ob _ _ w)) ?_
      refine aF cL rfl rfl aU ?_
      refine ad ?_
      refine qJ _ Front.nil (bA 4 rfl) (o := (by show _ = _; rw [if_pos hkn]))
     have hkn : kn = false := by simpa using h19
     refine bB ?_
     refine qJ _ Front.nil (bA 1 rfl) (o := (by show _ = _; rw [if_neg (by rw [hkn]; simp)]))
    skip
    replace hi : x1 = if kn = true then iP b (jj R.kept (ss.getD q default).data (R.kept.getD k default).addr).1 8 else (jj R.kept (ss.getD q default).data (R.kept.getD k default).addr).1 := hi
    change Tr _ _ (cellE b17 (cL.enc x1) 37 :: cellE b15 (cL.enc b) 37 :: cellE b13 (aP.enc (R.kept.getD k default)) 36 :: rowE VC 36 aP R.kept :: cellE b6 [.slice pKi R.kept.length cKi, .slice pKe R.ents.length cKe, .slice pKu R.unk.length cKu, .slice pKb R.bad.length cKb, Vt, Vp] 114 :: rowE Vt 31 dD rs :: rowE Vp 23 an at2 :: rowE Vs 177 dD ss :: rowE (.slice pKi R.kept.length cKi) 36 aP R.kept :: rowE (.slice pKe R.ents.length cKe) 23 an R.ents :: rowE (.slice pKu R.unk.length cKu) 23 an R.unk :: rowE (.slice pKb R.bad.length cKb) 23 an R.bad :: cellE b2 [.slice none 0 0, .slice none 0 0, .slice none 0 0, .slice none 0 0, .slice none 0 0, .slice none 0 0] 114 :: (rs.map (rvE 23 an) ++ [])) ([] ++ _) _
    have hx1 := hi
    refine ar (zz0 (bE rfl bT aU) ?_)
    refine aF cL rfl rfl aU ?_
    refine zz0 (ab rfl) (az (aX (ac (ar (zz0 (cx rfl rfl) ?_)))))
    refine zz0 (aa rfl) (ad ?_)
    refine oD (q + 1, x1, true) (Front.c (Front.c Front.nil)) (bA 24 rfl) (o := ⟨by omega, by rw [wW (by rw [List.length_map]; omega), ← hbf, hgd]; unfold Hq; rw [if_pos hqb, hx1]; cases kn <;> rfl⟩)
   refine bG (aJ (aJ (bj (ac (al (al ?_))))))
   obtain rfl : q = ss.length := by omega
   have hbf2 : (b, kn) = od R.kept (R.kept.getD k default).addr (ss.map (·.data)) := by rw [hbf, List.take_of_length_le (by rw [List.length_map]; exact Nat.le_refl _)]
   refine ar (zz0 (aa rfl) (zz0 (cj rfl) (ad ?_)))
   refine ao rfl ?_ ?_ <;> intro h20 <;> try simp only [bs] at h20
   ·have hkn : kn = false := h20
    have hbk : (b, false) = od R.kept (R.kept.getD k default).addr (ss.map (·.data)) := by rw [← hkn]; exact hbf2
    refine bG (aJ (bj (ac ?_)))
    refine qJ (_, _, _, _) Front.nil (bA 17 rfl) (o := (by show _ = _; first | exact (pX hqi).symm | exact (pW hbk).symm | exact (pY hbt hqt).symm | (rw [pU hqi hbt hqt]; simp)))
   have hkn : kn = true := by simpa using h20
   have hbt : (b, true) = od R.kept (R.kept.getD k default).addr (ss.map (·.data)) := by rw [← hkn]; exact hbf2
   refine df (zz0 (aa rfl) (zz0 (bE rfl aQ au) ?_))
   refine zz0 (bE rfl bT aU) ?_
   refine im (fun V => .tuple #[V, .int .i64 (cZ l (R.kept.getD k default) (b.get (R.kept.getD k default).a)).2]) rfl nA (fun w hw => lN l pV cV (R.kept.getD k default) b w (hw.slF hVG) hB (hDG.mono hw.bg) hN (hkI _ (cS (by omega)))) rfl (fun VJ => ?_)
   refine zz0 (aa rfl) (zz0 (aR rfl rfl) (zz0 (aR rfl rfl) (zz0 (ab rfl) (zz0 (ab rfl) (aL (zz0 (aa rfl) (zz0 (aY rfl rfl) (ad ?_))))))))
   refine ao rfl ?_ ?_ <;> intro h21 <;> try simp only [bs] at h21
   ·have hqt : (cZ l (R.kept.getD k default) (b.get (R.kept.getD k default).a)).2 = 0 := h21
    refine iL (V := VJ) (fun pJ cJ hpv => ?_)
    subst hpv
    have htl : (cZ l (R.kept.getD k default) (b.get (R.kept.getD k default).a)).1.length ≤ 64 := sQ
    have hfl := wJ l R.kept (ss.map (·.data)) (R.kept.take k)
    rw [List.length_take] at hfl
    have hrsl : rs.length = (lZ l R.kept (ss.map (·.data)) (R.kept.take k)).ts.length := by rw [← hfa]; simp
    have hatl : at2.length = (lZ l R.kept (ss.map (·.data)) (R.kept.take k)).at_.length := by rw [← hfa]
    refine BK (A := [cellE b15 (cL.enc b) 37, cellE b13 (aP.enc (R.kept.getD k default)) 36, rowE VC 36 aP R.kept, cellE b6 [.slice pKi R.kept.length cKi, .slice pKe R.ents.length cKe, .slice pKu R.unk.length cKu, .slice pKb R.bad.length cKb, Vt, Vp] 114, rowE Vt 31 dD rs, rowE Vp 23 an at2, rowE Vs 177 dD ss, rowE (.slice pKi R.kept.length cKi) 36 aP R.kept, rowE (.slice pKe R.ents.length cKe) 23 an R.ents, rowE (.slice pKu R.unk.length cKu) 23 an R.unk, rowE (.slice pKb R.bad.length cKb) 23 an R.bad, cellE b2 [.slice none 0 0, .slice none 0 0, .slice none 0 0, .slice none 0 0, .slice none 0 0, .slice none 0 0] 114]) (f := (rvE 23 an)) (rs := rs) (⟨(cZ l (R.kept.getD k default) (b.get (R.kept.getD k default).a)).1, pJ, cJ⟩ : RV UInt32) ?_
    change Tr _ _ (cellE b15 (cL.enc b) 37 :: cellE b13 (aP.enc (R.kept.getD k default)) 36 :: rowE VC 36 aP R.kept :: cellE b6 [.slice pKi R.kept.length cKi, .slice pKe R.ents.length cKe, .slice pKu R.unk.length cKu, .slice pKb R.bad.length cKb, Vt, Vp] 114 :: rowE Vt 31 dD rs :: rowE Vp 23 an at2 :: rowE Vs 177 dD ss :: rowE (.slice pKi R.kept.length cKi) 36 aP R.kept :: rowE (.slice pKe R.ents.length cKe) 23 an R.ents :: rowE (.slice pKu R.unk.length cKu) 23 an R.unk :: rowE (.slice pKb R.bad.length cKb) 23 an R.bad :: cellE b2 [.slice none 0 0, .slice none 0 0, .slice none 0 0, .slice none 0 0, .slice none 0 0, .slice none 0 0] 114 :: ((rs ++ [(⟨(cZ l (R.kept.getD k default) (b.get (R.kept.getD k default).a)).1, pJ, cJ⟩ : RV UInt32)]).map (rvE 23 an) ++ [])) _ _
    refine dG ([cellE b13 (aP.enc (R.kept.getD k default)) 36]) 15 rfl aT ?_
    refine IG 15 ?_
    repeat' (first
     | refine oG.cons ?_ ?_
     | exact oG.nil
     | (refine mB 1 ?_; refine pG rfl ?_; refine zz0 (aH rfl jV) ?_; refine ti ?_)
     | (refine mB 3 ?_; refine pG rfl ?_; refine jB (E := (dD (α := UInt32))) (⟨(cZ l (R.kept.getD k default) (b.get (R.kept.getD k default).a)).1, pJ, cJ⟩ : RV UInt32) rfl rfl du cn Tryz.zeroValue31 (fun V22 => ?_); refine ti ?_)
     | (refine mB 4 ?_; refine pG rfl ?_; refine zz2 rfl rfl du vx (fun V23 => ?_); refine dz (.head _) (fun pz cz hpz => ?_); subst hpz; refine ti ?_)
     | (refine mB 6 ?_; refine pG rfl ?_; refine zz0 (aH rfl dq) ?_; refine ti ?_)
     | (refine mB 9 ?_; refine pG rfl ?_; refine jB (E := an) (R.kept.getD k default).addr rfl rfl aj ae cU (fun V24 => ?_); refine ti ?_)
     | (refine mB 10 ?_; refine pG rfl ?_; refine zz2 rfl rfl aj eW (fun V25 => ?_); refine dz (.head _) (fun py cy hpy => ?_); subst hpy; refine ti ?_)
     | (refine mB 12 ?_; refine pG rfl ?_; refine zz4 (cs' := [_, _, _, _, _, _]) rfl rfl gg rfl ?_; refine ti ?_)
     | (refine mB 14 ?_; refine pG rfl ?_; refine zz4 (cs' := [_, _, _, _, _, _]) rfl rfl cn rfl ?_; refine ti ?_)
     | (refine gz 0 ?_; refine tg 0 rfl (by kernel_rfl) (dM (bF (bF (dM (bF dx))))) (zz1 (off := 4) (ft := 53) rfl cN rfl gg) ?_)
     | (refine gz 1 ?_; refine tg 2 rfl (by kernel_rfl) (dM (bF (bF (dM (bF dx))))) (aa rfl) ?_)
     | (refine gz 5 ?_; refine tg 5 rfl (by kernel_rfl) (dM (bF (bF (dM (bF dx))))) (zz1 (off := 5) (ft := 31) rfl cN rfl cn) ?_)
     | (refine gz 37 ?_; refine tg 7 rfl (by kernel_rfl) (dM (bF (bF (dM (bF dx))))) (zz1 (off := 0) (ft := 23) rfl af rfl ae) ?_)
     | (refine gz 165 ?_; refine tg 8 rfl (by kernel_rfl) (dM (bF (bF (dM (bF dx))))) (aH rfl am) ?_)
     | (refine gz 511 ?_; refine tg 11 rfl (by kernel_rfl) (dM (bF (bF (dM (bF dx))))) (zz1 (off := 4) (ft := 53) rfl cN rfl gg) ?_)
     | (refine gz 8191 ?_; refine tg 13 rfl (by kernel_rfl) (dM (bF (bF (dM (bF dx))))) (zz1 (off := 5) (ft := 31) rfl cN rfl cn) ?_)
     | (refine gz 1023 ?_; refine tg 11 rfl (by kernel_rfl) (dM (bF (bF (dM (bF dx))))) (zz1 (off := 4) (ft := 53) rfl cN rfl gg) ?_)
     | (refine gz 421 ?_; refine mf [1, 3, 6, 9] ?_)
     | (refine gz 423 ?_; refine mf [3, 6, 9] ?_)
     | (refine gz 431 ?_; refine mf [4, 6, 9] ?_)
     | (refine gz 447 ?_; refine mf [6, 9] ?_)
     | (refine gz 2559 ?_; refine mf [9] ?_)
     | (refine gz 3071 ?_; refine mf [10] ?_)
     | (refine gz 4095 ?_; refine mf [12] ?_)
     | (refine gz 16383 ?_; refine mf [14] ?_)
     | (refine gz 959 ?_; refine mf [6] ?_)
     | (refine gz 495 ?_; refine mf [4, 9] ?_)
     | (refine gz 1007 ?_; refine mf [4] ?_)
     | (refine gz 943 ?_; refine mf [4, 6] ?_)
     | (refine gz 487 ?_; refine mf [3, 9] ?_)
     | (refine gz 999 ?_; refine mf [3] ?_)
     | (refine gz 935 ?_; refine mf [3, 6] ?_)
     | (refine gz 429 ?_; refine mf [1, 6, 9] ?_)
     | (refine gz 493 ?_; refine mf [1, 9] ?_)
     | (refine gz 1005 ?_; refine mf [1] ?_)
     | (refine gz 941 ?_; refine mf [1, 6] ?_)
     | (refine gz 485 ?_; refine mf [1, 3, 9] ?_)
     | (refine gz 997 ?_; refine mf [1, 3] ?_)
     | (refine gz 933 ?_; refine mf [1, 3, 6] ?_)
     | (
      refine gz 32767 ?_
      refine Gg (by kernel_rfl) ?_
      refine aX (ac ?_)
      apply eh (_, _, _, _)
      ·exact rfl
      ·exact Front.nil
      ·exact bA 41 rfl
      ·exact (by repeat' (first | exact Pick.refl _ | exact Del.here _ | apply Pick.cons | apply Del.there | apply Pick.skip | exact Pick.nil _))
      ·exact (by show _ = _; first | exact (pX hqi).symm | exact (pW hbk).symm | exact (pY hbt hqt).symm | (rw [pU hqi hbt hqt]; simp))
      )
     )
   have hqt : (cZ l (R.kept.getD k default) (b.get (R.kept.getD k default).a)).2 ≠ 0 := h21
   refine bW (aX (ac ?_))
   refine qJ (_, _, _, _) Front.nil (bA 28 rfl) (o := (by show _ = _; first | exact (pX hqi).symm | exact (pW hbk).symm | exact (pY hbt hqt).symm | (rw [pU hqi hbt hqt]; simp)))
  obtain ⟨rs3, at3, Vt3, Vp3⟩ := i
  replace hi : (⟨rs3.map (·.data), at3⟩ : FndV) = jY l R.kept (ss.map (·.data)) ⟨rs.map (·.data), at2⟩ (R.kept.getD k default) := hi
  change Tr _ _ (rowE VC 36 aP R.kept :: cellE b6 [.slice pKi R.kept.length cKi, .slice pKe R.ents.length cKe, .slice pKu R.unk.length cKu, .slice pKb R.bad.length cKb, Vt3, Vp3] 114 :: rowE Vt3 31 dD rs3 :: rowE Vp3 23 an at3 :: rowE Vs 177 dD ss :: rowE (.slice pKi R.kept.length cKi) 36 aP R.kept :: rowE (.slice pKe R.ents.length cKe) 23 an R.ents :: rowE (.slice pKu R.unk.length cKu) 23 an R.unk :: rowE (.slice pKb R.bad.length cKb) 23 an R.bad :: cellE b2 [.slice none 0 0, .slice none 0 0, .slice none 0 0, .slice none 0 0, .slice none 0 0, .slice none 0 0] 114 :: (rs3.map (rvE 23 an) ++ [])) ([] ++ _) _
  have hi3 := hi
  refine ar (zz0 (cx rfl rfl) ?_)
  refine zz0 (aa rfl) (ad ?_)
  refine oD (k + 1, rs3, at3, Vt3, Vp3) (Front.c Front.nil) (bA 4 rfl) (o := ⟨by omega, by rw [Bi (by omega), ← hfa]; exact hi3⟩)
 refine bG (aJ (aJ (bj (ac (al ?_)))))
 refine iL (V := Vt) (fun pVt cVt hpv => ?_)
 subst hpv
 refine iL (V := Vp) (fun pVp cVp hpv => ?_)
 subst hpv
 refine ar (zz0 (bE rfl il eN) ?_)
 refine zz8 rfl rfl eN ?_
 refine zz0 (ab rfl) (ad (aD ?_))
 refine kj Tryz.results52 rfl rfl il eN (fun w' hw => ?_)
 obtain rfl : k = R.kept.length := by omega
 rw [List.take_length] at hfa
 rw [List.append_nil] at hw
 exact ⟨((.slice pKi R.kept.length cKi, .slice pKe R.ents.length cKe, .slice pKu R.unk.length cKu, .slice pKb R.bad.length cKb, _, _), (⟨R.kept, R.ents, R.unk, R.bad⟩, ⟨rs.map (·.data), at2⟩, 0), rs), rfl, hw.below0 hG, hw.ents0 hG.lo (by repeat' (first | exact Pick.refl _ | exact Del.here _ | apply Pick.cons | apply Del.there | apply Pick.skip | exact Pick.nil _)), ⟨c, ew, hwk, by rw [if_neg (fun q => q hqw), wm hR (by rw [← hrts]; exact hks0), ← hrts, ← hks1, hfa]⟩, rfl⟩
end Go.Proofs.YtiajjbhcpeadfaaGreat
namespace Go.HL
open Go
section
variable {P : Program} {Q : Exit → Act → World → Prop} {N : Nat} {F : Bg} {L : List Ent} {M : Fr}
theorem Av {fn : Func} {R : Ending → World → Prop} {t T : TypeId} {u s r q : Tmp} {v v2 v3 : Value} {b k : Nat} {cs : List Value} (hr : fn.results = #[.cell u t, .tmp s, .tmp r, .tmp q]) (hv : look M u = some (.pointer (some ⟨b, 0, none⟩))) (hs : look M s = some v) (hs2 : look M r = some v2) (hs3 : look M q = some v3) (hm : cellE b cs T ∈ L)
  (hagg : ∀ w, (isAgg t).run P w = .ok true w) (hz : ∀ w, (sizeOf t).run P w = .ok k w) (hl : cs.length = k) (h : ∀ w, HpOK F L w → R (.returned (.tuple #[.agg cs.toArray, v, v2, v3])) w) (hD : look M mk0 = some undef := by rfl) :
  Tr N F L M (bodyPost P fn R .ret) := fun a w ha hw => ⟨ha.defers0 hD, _, by
   have h1 := ha.val u _ hv
   have h2 := ha.val s _ hs
   have h3 := ha.val r _ hs2
   have h4 := ha.val q _ hs3
   rw [Array.getD_eq_getD_getElem?] at h1 h2 h3 h4
   simp [results, hr, h1, h2, h3, h4, asAddr, o6 (hw.ent _ hm) hagg hz hl], h w hw⟩
theorem HpOK.rvs {α : Type} {T : TypeId} {E : Enc α} {rs : List (RV α)} {w : World} (h : HpOK F L w) (hm : ∀ r ∈ rs, rvE T E r ∈ L) : RvIn E (HL.hp w) rs := fun r hr => rowE.sl (h.ent _ (hm r hr))
end
theorem Pick.left : ∀ (A B : List Ent), Pick (A ++ B) A
 | [], B => .nil _
 | a :: A, B => .cons (.here _) (Pick.left A B)
theorem BE {A B C : List Ent} {N : Nat} {F : Bg} {M : Fr} {X : Act → World → Prop} (K : Tr N F (A ++ (C ++ (B ++ []))) M X) : Tr N F (A ++ (B ++ C)) M X := by
 refine qd (L' := A ++ (C ++ (B ++ []))) ?_ K
 rw [List.append_nil]
 exact List.perm_append_comm.append_left _
theorem qR (rs : List (RV UInt32)) : (rs.map j6).map (·.data) = rs.map (·.data) := by rw [List.map_map]; rfl
theorem BX {rs : List (RV UInt32)} {L : List (List UInt32)} (h : rs.map (·.data) = L) (h1 : L.length ≤ 700) (h2 : ∀ t ∈ L, t.length ≤ 64) : pH (rs.map j6) := by
 subst h
 rw [List.length_map] at h1
 refine ⟨by rw [List.length_map]; exact h1, fun t ht => ?_⟩
 obtain ⟨r, hr, rfl⟩ := List.mem_map.1 ht
 exact h2 r.data (List.mem_map.2 ⟨r, hr, rfl⟩)
inductive Rnds (l : List SecV) (es : List UInt32) : Nat → FndV → Prop
 | zero : Rnds l es 0 ⟨[], []⟩
 | step (n : Nat) (f : FndV) (ts : List TabV) (o : CodeP × FndV × Int) (h : Rnds l es n f) (ht : ts.map (·.data) = f.ts) (hr : RoundIs l es ts f.at_ o) (h0 : o.2.2 = 0) (hn : ¬ (o.2.1.at_ = f.at_ ∧ o.2.1.ts = f.ts)) : Rnds l es (n + 1) o.2.1
def uF : CodeP := ⟨[], [], [], []⟩
inductive ResIs (l : List SecV) (es : List UInt32) (o : CodeP × FndV × Int) : Prop
 | err (n : Nat) (f : FndV) (ts : List TabV) (o' : CodeP × FndV × Int) (h : Rnds l es n f) (hn : n < 16) (ht : ts.map (·.data) = f.ts) (hr : RoundIs l es ts f.at_ o') (h0 : o'.2.2 ≠ 0) (ho : o = (uF, ⟨[], []⟩, o'.2.2)) : ResIs l es o
 | ok (n : Nat) (f : FndV) (ts : List TabV) (o' : CodeP × FndV × Int) (h : Rnds l es n f) (hn : n < 16) (ht : ts.map (·.data) = f.ts) (hr : RoundIs l es ts f.at_ o') (h0 : o'.2.2 = 0) (hs : o'.2.1.at_ = f.at_ ∧ o'.2.1.ts = f.ts) (ho : o = o') : ResIs l es o
 | out (f : FndV) (h : Rnds l es 16 f) (ho : o = (uF, ⟨[], []⟩, 15)) : ResIs l es o
theorem RoundIs.tabs {l : List SecV} {es : List UInt32} {ts : List TabV} {at_ : List UInt32} {o : CodeP × FndV × Int} (hT : pH ts) (h : RoundIs l es ts at_ o) : (o.2.1.ts.length ≤ totD l ∧ o.2.1.at_.length ≤ totD l) ∧ ∀ t ∈ o.2.1.ts, t.length ≤ 64 := by
 obtain ⟨c, e, hw, hi⟩ := h
 split at hi
 ·subst hi; exact ⟨⟨Nat.zero_le _, Nat.zero_le _⟩, fun t ht => by cases ht⟩
 ·subst hi
  unfold rX
  split
  ·exact ⟨⟨Nat.zero_le _, Nat.zero_le _⟩, fun t ht => by cases ht⟩
  ·have h1 := (sE hT hw).1.1
   have h2 := (wz c.ins c.ents c.unk c.bad).1.1
   have h3 := wJ l (fV c.ins c.ents c.unk c.bad).kept (j8 (fV c.ins c.ents c.unk c.bad).kept (jx (fV c.ins c.ents c.unk c.bad).kept (fV c.ins c.ents c.unk c.bad).ents (ts.map (·.data)))) (fV c.ins c.ents c.unk c.bad).kept
   exact ⟨⟨Nat.le_trans h3.1 (Nat.le_trans h2 h1), Nat.le_trans h3.2 (Nat.le_trans h2 h1)⟩, DF _ _ _ _⟩
end Go.HL
namespace Go.Proofs.YtiajjbhcpeadfaaGreat
open Go Go.HL Go.RowKit
theorem ux (l : List SecV) (pV : Option Addr) (cV : Nat) (es : List UInt32) (VE : Value) (w : World) (hV : Sl (hp w) dK l (.slice pV l.length cV)) (hB : SecB l) (hD : DataIn (hp w) l) (hN : ∀ s ∈ l, s.name.size ≤ 140737488351232) (hE : Sl (hp w) an es VE) (ht : totD l ≤ 600) (hel : es.length ≤ 100) :
  Calls Tryz.prog 17 #[(.slice pV l.length cV), VE] w (fun e w' => ∃ i : (Value × Value × Value × Value × Value × Value) × (CodeP × FndV × Int) × List (RV UInt32), e = .returned ((fun i : (Value × Value × Value × Value × Value × Value) × (CodeP × FndV × Int) × List (RV UInt32) => .tuple #[.agg #[i.1.1, i.1.2.1, i.1.2.2.1, i.1.2.2.2.1], i.1.2.2.2.2.1, i.1.2.2.2.2.2, .int .i64 i.2.1.2.2]) i) ∧ Below w.heap.size w w' ∧ NewEnts w w' ((fun i : (Value × Value × Value × Value × Value × Value) × (CodeP × FndV × Int) × List (RV UInt32) => rowE i.1.1 36 aP i.2.1.1.ins :: rowE i.1.2.1 23 an i.2.1.1.ents :: rowE i.1.2.2.1 23 an i.2.1.1.unk :: rowE i.1.2.2.2.1 23 an i.2.1.1.bad :: rowE i.1.2.2.2.2.1 31 dD i.2.2 :: rowE i.1.2.2.2.2.2 23 an i.2.1.2.1.at_ :: i.2.2.map (rvE 23 an)) i) ∧ (fun i : (Value × Value × Value × Value × Value × Value) × (CodeP × FndV × Int) × List (RV UInt32) => ResIs l es i.2.1 ∧ i.2.2.map (·.data) = i.2.1.2.1.ts) i) := by
 have hV0 : Sl (Bg.of0 w).blk dK l (.slice pV l.length cV) := hV
 have hD0 : DataIn (Bg.of0 w).blk l := hD
 have hE0 : Sl (Bg.of0 w).blk an es VE := hE
 refine l3 Tryz.func17 rfl Tryz.ntmps17 rfl ?_
 refine ah ?_
 refine dA dW rfl (fun b1 => ?_)
 refine zz0 (ab rfl) (zz0 (ab rfl) (zz0 (ab rfl) (ad (rF (ah ?_)))))
 refine dA jJ rfl (fun b2 => ?_)
 refine aL (zz0 (ab rfl) (ad (al (rH ?_))))
 refine ac ?_
 refine db (ι := Bg × Int) (fun ⟨G9, e9⟩ => (Bg.of0 w).le G9 ∧ ResIs l es (uF, ⟨[], []⟩, e9)) (fun ⟨G9, e9⟩ => G9) (fun ⟨G9, e9⟩ => [cellE b1 [.slice none 0 0, .slice none 0 0, .slice none 0 0, .slice none 0 0] 52]) (fun ⟨G9, e9⟩ => [(9, .int .i64 e9)]) ?_ (fun i hi => ?_)
 ·skip
  refine ah (zz0 (aa rfl) (ad (aG ?_)))
  refine bN (ι := Nat × Bg × ((Option Addr × Nat × Nat) × (Option Addr × Nat × Nat) × (Option Addr × Nat × Nat) × (Option Addr × Nat × Nat)) × (List TabV × Option Addr × Nat) × (List UInt32 × Option Addr × Nat)) (fun ⟨k, G, ⟨⟨x0, xn0, xc0⟩, ⟨x1, xn1, xc1⟩, ⟨x2, xn2, xc2⟩, ⟨x3, xn3, xc3⟩⟩, ⟨ts, pt, ct⟩, ⟨at_, pa, ca⟩⟩ => ((k ≤ 16 ∧ (Bg.of0 w).le G) ∧ pH ts) ∧ (Sl G.blk f5 ts (.slice pt ts.length ct) ∧ TabIn G.blk ts ∧ Sl G.blk an at_ (.slice pa at_.length ca)) ∧ Rnds l es k ⟨ts.map (·.data), at_⟩) (fun ⟨k, G, ⟨⟨x0, xn0, xc0⟩, ⟨x1, xn1, xc1⟩, ⟨x2, xn2, xc2⟩, ⟨x3, xn3, xc3⟩⟩, ⟨ts, pt, ct⟩, ⟨at_, pa, ca⟩⟩ => G) (fun ⟨k, G, ⟨⟨x0, xn0, xc0⟩, ⟨x1, xn1, xc1⟩, ⟨x2, xn2, xc2⟩, ⟨x3, xn3, xc3⟩⟩, ⟨ts, pt, ct⟩, ⟨at_, pa, ca⟩⟩ => [cellE b2 [.slice x0 xn0 xc0, .slice x1 xn1 xc1, .slice x2 xn2 xc2, .slice x3 xn3 xc3, .slice pt ts.length ct, .slice pa at_.length ca] 114, cellE b1 [.slice none 0 0, .slice none 0 0, .slice none 0 0, .slice none 0 0] 52]) (fun ⟨k, G, ⟨⟨x0, xn0, xc0⟩, ⟨x1, xn1, xc1⟩, ⟨x2, xn2, xc2⟩, ⟨x3, xn3, xc3⟩⟩, ⟨ts, pt, ct⟩, ⟨at_, pa, ca⟩⟩ => [(12, .int .i64 (k : Nat))]) (fun ⟨k, G, ⟨⟨x0, xn0, xc0⟩, ⟨x1, xn1, xc1⟩, ⟨x2, xn2, xc2⟩, ⟨x3, xn3, xc3⟩⟩, ⟨ts, pt, ct⟩, ⟨at_, pa, ca⟩⟩ => 16 - k) (0, _, ((none, 0, 0), (none, 0, 0), (none, 0, 0), (none, 0, 0)), ([], none, 0), ([], none, 0)) ⟨⟨⟨Nat.zero_le _, Bg.le.refl _⟩, ⟨Nat.zero_le _, (fun t ht => by cases ht)⟩⟩, ⟨Sl.nil _ _, (fun t ht => by cases ht), Sl.nil _ _⟩, .zero⟩ (Front.c Front.nil) (by repeat' constructor) rfl (fun i hi m hm => ?_)
  obtain ⟨k, G, ⟨⟨x0, xn0, xc0⟩, ⟨x1, xn1, xc1⟩, ⟨x2, xn2, xc2⟩, ⟨x3, xn3, xc3⟩⟩, ⟨ts, pt, ct⟩, ⟨at_, pa, ca⟩⟩ := i
  replace hi : ((k ≤ 16 ∧ (Bg.of0 w).le G) ∧ pH ts) ∧ (Sl G.blk f5 ts (.slice pt ts.length ct) ∧ TabIn G.blk ts ∧ Sl G.blk an at_ (.slice pa at_.length ca)) ∧ Rnds l es k ⟨ts.map (·.data), at_⟩ := hi
  replace hm : m = 16 - k := hm
  change Tr _ (G) [cellE b2 [.slice x0 xn0 xc0, .slice x1 xn1 xc1, .slice x2 xn2 xc2, .slice x3 xn3 xc3, .slice pt ts.length ct, .slice pa at_.length ca] 114, cellE b1 [.slice none 0 0, .slice none 0 0, .slice none 0 0, .slice none 0 0] 52] ([(12, .int .i64 (k : Nat))] ++ _) _
  obtain ⟨⟨⟨hk, hG⟩, hTB⟩, ⟨hT, hTI, hP⟩, hRn⟩ := hi
  refine ah (zz0 (bS rfl rfl) (ad (al ?_)))
  refine ao rfl ?_ ?_ <;> intro h3 <;> try simp only [bs] at h3
  ·refine bB (al (aG (ah (zz0 (bE rfl il eN) ?_))))
   refine zz0 (aa rfl) (zz0 (aa rfl) ?_)
   refine eE (fun i : (Value × Value × Value × Value × Value × Value) × (CodeP × FndV × Int) × List (RV UInt32) => .tuple #[.agg #[i.1.1, i.1.2.1, i.1.2.2.1, i.1.2.2.2.1, i.1.2.2.2.2.1, i.1.2.2.2.2.2], .int .i64 i.2.1.2.2]) (fun i : (Value × Value × Value × Value × Value × Value) × (CodeP × FndV × Int) × List (RV UInt32) => rowE i.1.1 36 aP i.2.1.1.ins :: rowE i.1.2.1 23 an i.2.1.1.ents :: rowE i.1.2.2.1 23 an i.2.1.1.unk :: rowE i.1.2.2.2.1 23 an i.2.1.1.bad :: rowE i.1.2.2.2.2.1 31 dD i.2.2 :: rowE i.1.2.2.2.2.2 23 an i.2.1.2.1.at_ :: i.2.2.map (rvE 23 an)) (ok := fun i : (Value × Value × Value × Value × Value × Value) × (CodeP × FndV × Int) × List (RV UInt32) => RoundIs l es ts at_ i.2.1 ∧ i.2.2.map (·.data) = i.2.1.2.1.ts) hG.dr rfl Tryz.call52 (fun w hw => Ex _ _ _ _ _ _ _ _ _ _ _ _ l pV cV es VE ts at_ _ _ _ _ w ((hw.slF (hV0.mono hG.blk))) hB ((hD0.mono hG.blk).mono hw.bg) hN (hw.slF (hE0.mono hG.blk)) (hw.slF hT) (hTI.mono hw.bg) hTB (hw.slF hP) ht hel) rfl (fun i hri => ?_)
   obtain ⟨⟨Wi, We, Wu, Wb, Wt, Wp⟩, o, rs⟩ := i
   obtain ⟨hro, hrs⟩ : RoundIs l es ts at_ o ∧ rs.map (·.data) = o.2.1.ts := hri
   change Tr _ _ (rowE Wi 36 aP o.1.ins :: rowE We 23 an o.1.ents :: rowE Wu 23 an o.1.unk :: rowE Wb 23 an o.1.bad :: rowE Wt 31 dD rs :: rowE Wp 23 an o.2.1.at_ :: (rs.map (rvE 23 an) ++ _)) _ _
   refine iL (V := Wi) (fun pWi cWi hpv => ?_)
   subst hpv
   refine iL (V := We) (fun pWe cWe hpv => ?_)
   subst hpv
   refine iL (V := Wu) (fun pWu cWu hpv => ?_)
   subst hpv
   refine iL (V := Wb) (fun pWb cWb hpv => ?_)
   subst hpv
   refine iL (V := Wt) (fun pWt cWt hpv => ?_)
   subst hpv
   refine iL (V := Wp) (fun pWp cWp hpv => ?_)
   subst hpv
   have hml : rs.length = (rs.map j6).length := (List.length_map _).symm
   rw [hml]
   refine BE (A := [rowE (.slice pWi o.1.ins.length cWi) 36 aP o.1.ins, rowE (.slice pWe o.1.ents.length cWe) 23 an o.1.ents, rowE (.slice pWu o.1.unk.length cWu) 23 an o.1.unk, rowE (.slice pWb o.1.bad.length cWb) 23 an o.1.bad, rowE (.slice pWt (rs.map j6).length cWt) 31 dD rs, rowE (.slice pWp o.2.1.at_.length cWp) 23 an o.2.1.at_]) (B := rs.map (rvE 23 an)) (C := [cellE b2 [.slice x0 xn0 xc0, .slice x1 xn1 xc1, .slice x2 xn2 xc2, .slice x3 xn3 xc3, .slice pt ts.length ct, .slice pa at_.length ca] 114, cellE b1 [.slice none 0 0, .slice none 0 0, .slice none 0 0, .slice none 0 0] 52]) ?_
   change Tr _ _ (rowE (.slice pWi o.1.ins.length cWi) 36 aP o.1.ins :: rowE (.slice pWe o.1.ents.length cWe) 23 an o.1.ents :: rowE (.slice pWu o.1.unk.length cWu) 23 an o.1.unk :: rowE (.slice pWb o.1.bad.length cWb) 23 an o.1.bad :: rowE (.slice pWt (rs.map j6).length cWt) 31 dD rs :: rowE (.slice pWp o.2.1.at_.length cWp) 23 an o.2.1.at_ :: cellE b2 [.slice x0 xn0 xc0, .slice x1 xn1 xc1, .slice x2 xn2 xc2, .slice x3 xn3 xc3, .slice pt ts.length ct, .slice pa at_.length ca] 114 :: cellE b1 [.slice none 0 0, .slice none 0 0, .slice none 0 0, .slice none 0 0] 52 :: (rs.map (rvE 23 an) ++ [])) _ _
   refine zz0 (aa rfl) (zz0 (aR rfl rfl) (zz0 (aR rfl rfl) ?_))
   refine dA jJ rfl (fun b4 => ?_)
   refine zz8 rfl rfl eN ?_
   refine zz0 (ab rfl) (ad (al (ah (zz0 (aa rfl) (zz0 (fa rfl rfl) (ad ?_))))))
   refine ao rfl ?_ ?_ <;> intro h5 <;> try simp only [bs] at h5
   ·have hqq : o.2.2 ≠ 0 := h5
    refine ah (zz0 (aa rfl) (zz0 (ab rfl) (ad (bG (aJ (js rfl ?_))))))
    refine aJ (aJ (bj (ac ?_)))
    refine qJ (_, o.2.2) (Front.c Front.nil) (bA 16 rfl) (o := ⟨hG, .err k _ ts o hRn (by omega) rfl hro hqq rfl⟩)
   have hqq : o.2.2 = 0 := by simpa using h5
   refine bB (al (ah (zz0 (bE rfl il eN) ?_)))
   refine zz0 (bE rfl il eN) ?_
   refine zz0 (aC rfl Tryz.call53 (fun w hw => GH _ _ _ _ _ _ _ _ _ _ _ _ _ _ _ _ _ _ _ _ _ _ _ _ (rs.map j6) ts o.2.1.at_ at_ _ _ _ _ _ _ _ _ w (AP (hw.row (by repeat constructor))) (AQ (hw.rvs (T := 23) (fun r hr => by repeat (first | exact List.mem_append_left _ (List.mem_map.2 ⟨r, hr, rfl⟩) | apply List.Mem.tail)))) (hw.row (by repeat constructor)) (hw.slF hT) (hTI.mono hw.bg) (hw.slF hP))) ?_
   refine ad ?_
   refine ao rfl ?_ ?_ <;> intro h6 <;> try simp only [bs] at h6
   ·have hsm := h6
    refine al (dG ([cellE b4 [.slice pWi o.1.ins.length cWi, .slice pWe o.1.ents.length cWe, .slice pWu o.1.unk.length cWu, .slice pWb o.1.bad.length cWb, .slice pWt (rs.map j6).length cWt, .slice pWp o.2.1.at_.length cWp] 114]) 10 rfl aT ?_)
    refine zz3 0 rfl (zz1 (off := 0) (ft := 52) rfl cN rfl cm) ?_
    refine ke 1 rfl (by kernel_rfl) (bF (bF (dM (bF (bF (dM (bF (jP dx)))))))) (gr (vs := [.slice pWi o.1.ins.length cWi, .slice pWe o.1.ents.length cWe, .slice pWu o.1.unk.length cWu, .slice pWb o.1.bad.length cWb]) rfl (by repeat constructor) fy cm (by rfl) (by rfl)) ?_
    refine zz3 2 rfl (zz1 (off := 4) (ft := 53) rfl cN rfl gg) ?_
    refine zz3 3 rfl (aH rfl jV) ?_
    refine zz3 4 rfl (zz1 (off := 5) (ft := 31) rfl cN rfl cn) ?_
    refine zz3 5 rfl (aH rfl dq) ?_
    refine dh [6] (fun iq hq => ?_)
    obtain rfl := List.mem_singleton.1 hq
    refine bD rfl ?_
    refine zz8 rfl rfl cm ?_
    refine bU ?_
    refine zz3 7 rfl (ab rfl) ?_
    refine zz3 8 rfl (ab rfl) ?_
    refine zz3 9 rfl (ab rfl) ?_
    refine gI ?_
    refine ac (aD (aB (bv (aB (aB (bv (aB (fP ?_))))))))
    refine Av Tryz.results17 rfl rfl rfl rfl (by repeat constructor) fy cm (by rfl) (fun w' hw => ?_)
    exact ⟨(((.slice pWi o.1.ins.length cWi), (.slice pWe o.1.ents.length cWe), (.slice pWu o.1.unk.length cWu), (.slice pWb o.1.bad.length cWb), (.slice pWt (rs.map j6).length cWt), (.slice pWp o.2.1.at_.length cWp)), o, rs), (by show _ = Ending.returned (Value.tuple #[_, _, _, Value.int .i64 o.2.2]); rw [hqq]; rfl), hw.below0 hG, hw.ents0 hG.lo (by repeat' (first | exact Pick.refl _ | exact Pick.left _ _ | exact Del.here _ | apply Pick.cons | apply Del.there | apply Pick.skip | exact Pick.nil _)), .ok k _ ts o hRn (by omega) rfl hro hqq ⟨hsm.1, by rw [← hrs, ← qR]; exact hsm.2⟩ rfl, hrs⟩
   have hsm := h6
   refine bB ?_
   have hne : ¬ (o.2.1.at_ = at_ ∧ o.2.1.ts = ts.map (·.data)) := fun q => by
    rcases hsm with h | h
    ·exact h q.1
    ·exact h (by rw [qR, hrs]; exact q.2)
   have htb := hro.tabs hTB
   have hTB9 := BX hrs (by omega) htb.2
   refine oz (A := [cellE b4 [.slice pWi o.1.ins.length cWi, .slice pWe o.1.ents.length cWe, .slice pWu o.1.unk.length cWu, .slice pWb o.1.bad.length cWb, .slice pWt (rs.map j6).length cWt, .slice pWp o.2.1.at_.length cWp] 114, rowE (.slice pWi o.1.ins.length cWi) 36 aP o.1.ins, rowE (.slice pWe o.1.ents.length cWe) 23 an o.1.ents, rowE (.slice pWu o.1.unk.length cWu) 23 an o.1.unk, rowE (.slice pWb o.1.bad.length cWb) 23 an o.1.bad, rowE (.slice pWt (rs.map j6).length cWt) 31 dD rs, rowE (.slice pWp o.2.1.at_.length cWp) 23 an o.2.1.at_, cellE b2 [.slice x0 xn0 xc0, .slice x1 xn1 xc1, .slice x2 xn2 xc2, .slice x3 xn3 xc3, .slice pt ts.length ct, .slice pa at_.length ca] 114, cellE b1 [.slice none 0 0, .slice none 0 0, .slice none 0 0, .slice none 0 0] 52]) rs (fun F6 hF6 hI6 => ?_)
   change Tr _ _ [cellE b4 [.slice pWi o.1.ins.length cWi, .slice pWe o.1.ents.length cWe, .slice pWu o.1.unk.length cWu, .slice pWb o.1.bad.length cWb, .slice pWt (rs.map j6).length cWt, .slice pWp o.2.1.at_.length cWp] 114, rowE (.slice pWi o.1.ins.length cWi) 36 aP o.1.ins, rowE (.slice pWe o.1.ents.length cWe) 23 an o.1.ents, rowE (.slice pWu o.1.unk.length cWu) 23 an o.1.unk, rowE (.slice pWb o.1.bad.length cWb) 23 an o.1.bad, rowE (.slice pWt (rs.map j6).length cWt) 31 dD rs, rowE (.slice pWp o.2.1.at_.length cWp) 23 an o.2.1.at_, cellE b2 [.slice x0 xn0 xc0, .slice x1 xn1 xc1, .slice x2 xn2 xc2, .slice x3 xn3 xc3, .slice pt ts.length ct, .slice pa at_.length ca] 114, cellE b1 [.slice none 0 0, .slice none 0 0, .slice none 0 0, .slice none 0 0] 52] _ _
   refine kx (V := .slice pWt (rs.map j6).length cWt) (T := 31) (E := dD) (l := rs) (by repeat constructor) (fun F7 hF7 hT7 => ?_)
   refine kx (V := .slice pWp o.2.1.at_.length cWp) (T := 23) (E := an) (l := o.2.1.at_) (by repeat constructor) (fun F9 hF9 hP9 => ?_)
   have hF59 := hF6.trans (hF7.trans hF9)
   refine ar (zz0 (bE rfl il eN) ?_)
   refine zz8 rfl rfl eN ?_
   refine az (aX (ac (ar (zz0 (cx rfl rfl) ?_))))
   refine zz0 (aa rfl) (ad ?_)
   refine cC (k + 1, F9, ((_, _, _), (_, _, _), (_, _, _), (_, _, _)), (rs.map j6, pWt, cWt), (o.2.1.at_, pWp, cWp)) (Front.c Front.nil) (bA 19 rfl) (o := ⟨⟨⟨by omega, hG.trans hF59⟩, hTB9⟩, ⟨AP (hT7.mono hF9.blk), AQ (hI6.mono (hF7.trans hF9).blk), hP9⟩, by rw [qR, hrs]; exact Rnds.step k _ ts o hRn rfl hro hqq hne⟩)
  refine bG (aJ (aJ (bj (ac ?_))))
  refine qJ (_, 15) (Front.c Front.nil) (bA 3 rfl) (o := ⟨hG, .out ⟨ts.map (·.data), at_⟩ (by have e : k = 16 := (by omega); subst e; exact hRn) rfl⟩)
 obtain ⟨G9, e9⟩ := i
 replace hi : (Bg.of0 w).le G9 ∧ ResIs l es (uF, ⟨[], []⟩, e9) := hi
 change Tr _ _ [cellE b1 [.slice none 0 0, .slice none 0 0, .slice none 0 0, .slice none 0 0] 52] ([(9, .int .i64 e9)] ++ _) _
 obtain ⟨hG9, hrr⟩ := hi
 refine al (cd 36 aP ?_)
 refine cd 23 an ?_
 refine cd 23 an ?_
 refine cd 23 an ?_
 refine cd 23 an ?_
 refine cd 31 (dD (α := UInt32)) ?_
 refine ar (zz0 (bL (vs := []) rfl rfl (pP)) ?_)
 refine zz0 (aa rfl) (zz8 rfl rfl cm ?_)
 refine zz0 (ab rfl) (zz0 (ab rfl) (zz0 (ab rfl) (ad (aD (fP ?_)))))
 refine Av Tryz.results17 rfl rfl rfl rfl (by repeat constructor) fy cm (by rfl) (fun w' hw => ?_)
 exact ⟨((.slice none 0 0, .slice none 0 0, .slice none 0 0, .slice none 0 0, .slice none 0 0, .slice none 0 0), (uF, ⟨[], []⟩, e9), []), rfl, hw.below0 hG9, hw.ents0 hG9.lo (by repeat' (first | exact Pick.refl _ | exact Pick.left _ _ | exact Del.here _ | apply Pick.cons | apply Del.there | apply Pick.skip | exact Pick.nil _)), hrr, rfl⟩
end Go.Proofs.YtiajjbhcpeadfaaGreat
namespace Go.HL
open Go Go.Sort
open Go.Proofs (ltOf)
def Bb (x : UInt32) : List UInt32 → List UInt32
 | [] => [x]
 | y :: t => if x ≤ y then x :: y :: t else y :: Bb x t
def xU : List UInt32 → List UInt32
 | [] => []
 | x :: t => Bb x (xU t)
theorem su (x : UInt32) : ∀ l, (Bb x l).Perm (x :: l)
 | [] => .refl _
 | y :: t => by
  unfold Bb
  split
  ·exact .refl _
  ·exact ((su x t).cons y).trans (.swap x y t)
theorem sY (x : UInt32) : ∀ l : List UInt32, l.Pairwise (fun a b => a ≤ b) → (Bb x l).Pairwise (fun a b => a ≤ b)
 | [], _ => by simp [Bb]
 | y :: t, h => by
  unfold Bb
  rw [List.pairwise_cons] at h
  split
  ·rename_i q
   rw [List.pairwise_cons]
   refine ⟨fun z hz => ?_, List.pairwise_cons.2 h⟩
   rcases List.mem_cons.1 hz with rfl | hz
   ·exact q
   ·have := h.1 z hz
    rw [UInt32.le_iff_toNat_le] at *; omega
  ·rename_i q
   rw [List.pairwise_cons]
   refine ⟨fun z hz => ?_, sY x t h.2⟩
   rcases List.mem_cons.1 ((su x t).mem_iff.1 hz) with rfl | hz
   ·rw [UInt32.le_iff_toNat_le] at *; omega
   ·exact h.1 z hz
theorem nq : ∀ l, fZ l = xU l := by
 have h1 : ∀ l, (xU l).Perm l := by
  intro l
  induction l with
  | nil => exact .refl _
  | cons x t ih => exact (su x _).trans (ih.cons x)
 have h2 : ∀ l, (xU l).Pairwise (fun a b => a ≤ b) := by
  intro l
  induction l with
  | nil => exact .nil
  | cons x t ih => exact sY x _ ih
 exact fun l => rV ((lF l).trans (h1 l).symm) (mh l) (h2 l)
def xu (es : List UInt32) : DSt := ⟨[], [], gv [] es, [], es⟩
def HJ (l : List SecV) (ts : List TabV) (at_ : List UInt32) (s : DSt) (a : UInt32) (r : List UInt32) : DSt :=
 if ((dN s.ins a).isSome || (dN s.bad a).getD false) = true then ⟨s.ins, s.bad, s.ents, s.unk, r⟩
 else if (atP l a).2 = true then stepD l ts at_ a s r else ⟨s.ins, fh s.bad a true, s.ents, s.unk, r⟩
def ug (l : List SecV) (ts : List TabV) (at_ : List UInt32) : Nat → DSt → DSt
 | 0, s => s
 | n + 1, s => match s.rest with
  | [] => s
  | x :: t => ug l ts at_ n (HJ l ts at_ s ((x :: t).getLast (by simp)) (x :: t).dropLast)
theorem v6 {l : List SecV} {ts : List TabV} {at_ es : List UInt32} (hT : pH ts) : ∀ (n : Nat) (s : DSt), DInv l ts at_ es s → DInv l ts at_ es (ug l ts at_ n s)
 | 0, s, h => h
 | n + 1, s, h => by
  unfold ug
  split
  ·exact h
  ·rename_i x t hr
   refine v6 hT n _ ?_
   have hr' : s.rest = (x :: t).dropLast ++ [(x :: t).getLast (by simp)] := by rw [hr, List.dropLast_concat_getLast]
   unfold HJ
   split
   ·rename_i q
    rw [Bool.or_eq_true] at q
    exact h.skip hr' (yY q)
   ·rename_i q
    rw [Bool.not_eq_true, Bool.or_eq_false_iff] at q
    split
    ·rename_i q2
     exact h.found hT hr' q2 (B0 q)
    ·rename_i q2
     exact h.isBad hr' (by simpa using q2)
def FI (s : DSt) : CodeP := ⟨(xU (s.ins.map (·.1))).map fun a => (dN s.ins a).getD cB, (xU (s.ents.map (·.1))).filter fun a => (dN s.ins a).isSome, xU (s.unk.map (·.1)), xU (s.bad.map (·.1))⟩
theorem CQ {l : List SecV} {ts : List TabV} {at_ es : List UInt32} {c : CodeP} {e : Int} (hT : pH ts) (h : WalkIs l ts at_ es c e) (hl : ts.length = at_.length) (hc : gW l = 0) {n : Nat} (hr : (ug l ts at_ n (xu es)).rest = []) :
  c = FI (ug l ts at_ n (xu es)) ∧ e = 0 := by
 have hi := v6 hT n _ (DInv.begin (l := l) (ts := ts) (at_ := at_) (es := es))
 have hk := hi.code hr
 cases h with
 | arg h => exact absurd hl h
 | chk h h1 => exact absurd hc h1
 | ok h h1 he hcc =>
  refine ⟨(hcc.eq hk (fun a => Iff.rfl) (fun a => Iff.rfl)).trans ?_, he⟩
  unfold FI
  rw [nq, nq, nq, nq]
  congr 1
  refine List.map_congr_left fun a ha => ?_
  have hm : a ∈ (ug l ts at_ n (xu es)).ins.map (·.1) := by
   rw [← nq, nn] at ha; exact ha
  obtain ⟨x, hx⟩ := nX hm
  rw [hx, (hi.ins a x hx).2.2]; rfl
def apartB : List Ins → Bool
 | [] => true
 | a :: t => (match t with
  | [] => true
  | b :: _ => decide (a.addr < b.addr) && decide (vb a ≤ (b.addr.toNat : Int))) && apartB t
theorem Ao : ∀ l : List Ins, apartB l = true → l.Pairwise fun a b => ltA a b = true ∧ vb a ≤ (b.addr.toNat : Int)
 | [], _ => .nil
 | [a], _ => by simp
 | a :: b :: t, h => by
  unfold apartB at h
  simp only [Bool.and_eq_true, decide_eq_true_eq] at h
  have ih := Ao (b :: t) h.2
  rw [List.pairwise_cons]
  refine ⟨fun z hz => ?_, ih⟩
  rcases List.mem_cons.1 hz with rfl | hz
  ·exact ⟨by simp [ltA, h.1.1], h.1.2⟩
  ·have h1 := (List.pairwise_cons.1 ih).1 z hz
   have h2 : b.addr < z.addr := by have := h1.1; simpa [ltA] using this
   have h3 := h.1.1
   have h4 := h.1.2
   rw [UInt32.lt_iff_toNat_lt] at h2 h3
   exact ⟨by simp only [ltA, decide_eq_true_eq, UInt32.lt_iff_toNat_lt]; omega, by omega⟩
def Fl (ins : List Ins) : Bool := ins.all (fun i => decide (ij i = 0)) && apartB ins
theorem Fj {ins : List Ins} (h : Fl ins = true) (ents unk bad : List UInt32) : fV ins ents unk bad = ⟨ins, ents.filter (inK ins), unk.filter (inK ins), bad, []⟩ := by
 unfold Fl at h
 rw [Bool.and_eq_true, List.all_eq_true] at h
 have hp := Ao ins h.2
 have hs : ins.Pairwise fun a b => ltA a b = true := hp.imp fun q => q.1
 have hd := sR hs
 have hc : fD ins = ins := by
  rw [Bo hd (fun y hy => by simpa using h.1 y hy)]
  obtain ⟨k1, k2⟩ := um hd
  exact xy Ce E1 _ _ k1 hs k2
 have hn : ∀ a ∈ ins, ∀ b ∈ ins, jy a b = false := by
  have key : ∀ a b : Ins, ltA a b = true → vb a ≤ (b.addr.toNat : Int) → jy a b = false := by
   intro a b h1 h2
   simp only [ltA, decide_eq_true_eq, UInt32.lt_iff_toNat_lt] at h1
   unfold jy
   rw [Bool.and_eq_false_iff]; right
   rw [decide_eq_false_iff_not]
   have : (mxU a.addr b.addr).toNat = b.addr.toNat := by
    unfold mxU
    split
    ·rfl
    ·rename_i q; rw [UInt32.lt_iff_toNat_lt] at q; omega
   rw [this]; omega
  intro a ha b hb
  obtain ⟨i, hi, rfl⟩ := List.mem_iff_getElem.1 ha
  obtain ⟨j, hj, rfl⟩ := List.mem_iff_getElem.1 hb
  rw [List.pairwise_iff_getElem] at hp
  rcases Nat.lt_trichotomy i j with q | q | q
  ·exact key _ _ (hp i j hi hj q).1 (hp i j hi hj q).2
  ·subst q; unfold jy; simp
  ·rw [FH]; exact key _ _ (hp j i hj hi q).1 (hp j i hj hi q).2
 have hr := GK (ins := ins) (ents := ents) (unk := unk) (bad := bad) (by rw [hc]; exact hn)
 rw [hc] at hr
 have e1 : (fV ins ents unk bad).ents = ents.filter (inK (fV ins ents unk bad).kept) := rfl
 have e2 : (fV ins ents unk bad).unk = unk.filter (inK (fV ins ents unk bad).kept) := rfl
 have e3 : (fV ins ents unk bad).bad = bad := rfl
 rw [hr.1] at e1 e2
 generalize hR : fV ins ents unk bad = R at *
 cases R
 simp only at hr e1 e2 e3
 rw [hr.1, hr.2, e1, e2, e3]
def Fx : List (List StV × Int) → Int
 | [] => 0
 | x :: t => if x.2 ≠ 0 then x.2 else Fx t
theorem Co (ins : List Ins) : ∀ rts, lw ins rts = Fx (rts.map fun r => eK ins r 4096)
 | [] => rfl
 | r :: t => by simp only [lw, List.map_cons, Fx, Co ins t]
def HS (l : List SecV) (c : CodeP) (A : List (List StV × Int)) : CodeP × FndV × Int :=
 if Fx A ≠ 0 then (⟨[], [], [], []⟩, ⟨[], []⟩, Fx A) else (c, lZ l c.ins (A.map (·.1)) c.ins, 0)
def HQ (l : List SecV) (c : CodeP) (ts : List (List UInt32)) : CodeP × FndV × Int :=
 HS l c ((fG (xU (lO c.ins (c.ents :: ts)))).map fun r => eK c.ins r 4096)
def Fw (l : List SecV) (c : CodeP) (ts : List (List UInt32)) : Option (CodeP × FndV × Int) :=
 if Fl c.ins = true then some (HQ l ⟨c.ins, c.ents.filter (inK c.ins), c.unk.filter (inK c.ins), c.bad⟩ ts) else none
def evalW (l : List SecV) (s : DSt) (ts : List (List UInt32)) : Option (CodeP × FndV × Int) := match s.rest with
 | [] => Fw l (FI s) ts
 | _ :: _ => none
def tabs (ts : List (List UInt32)) : List TabV := ts.map fun d => ⟨d, none, 0⟩
def sA (l : List SecV) (es : List UInt32) (f : FndV) (n : Nat) : Option (CodeP × FndV × Int) :=
 if f.ts.length = f.at_.length ∧ gW l = 0 then evalW l (ug l (tabs f.ts) f.at_ n (xu es)) f.ts else none
theorem Fv {l : List SecV} {c : CodeP} {ts : List (List UInt32)} {o : CodeP × FndV × Int} (h : Fw l c ts = some o) : o = rX l c ts := by
 unfold Fw at h
 split at h
 ·rename_i hf
  cases h
  unfold rX HQ HS jx
  rw [Fj hf]
  simp only [nq, Co, j8, List.map_map]
  rfl
 ·cases h
theorem zr {ts ts' : List TabV} (h : ts.map (·.data) = ts'.map (·.data)) (at_ : List UInt32) : eY ts at_ = eY ts' at_ := by
 funext a
 have key : ∀ j, (ts.getD j default).data = (ts'.getD j default).data := fun j => by
  have e : ∀ q : List TabV, (q.getD j default).data = (q.map (·.data)).getD j [] := fun q => by
   simp only [List.getD_eq_getElem?_getD, List.getElem?_map]
   cases q[j]? <;> rfl
  rw [e, e, h]
 unfold eY
 split
 ·rfl
 ·rw [key]
theorem sV {l : List SecV} {ts ts' : List TabV} {at_ es : List UInt32} (h : eY ts at_ = eY ts' at_) {a : UInt32} (r : Reach l ts at_ es a) : Reach l ts' at_ es a := by
 induction r with
 | ent a q => exact .ent a q
 | step b a q1 q2 q3 ih => exact .step b a ih q2 (by unfold kh at *; rw [← h]; exact q3)
theorem uf {l : List SecV} {ts ts' : List TabV} {at_ es : List UInt32} {c : CodeP} {e : Int} (h : ts.map (·.data) = ts'.map (·.data)) (hw : WalkIs l ts at_ es c e) : WalkIs l ts' at_ es c e := by
 have hk := zr h at_
 have hl : ts.length = ts'.length := by have := congrArg List.length h; simpa using this
 have hR : ∀ a, Reach l ts at_ es a ↔ Reach l ts' at_ es a := fun a => ⟨sV hk, sV hk.symm⟩
 cases hw with
 | arg h1 h2 h3 => exact .arg (hl ▸ h1) h2 h3
 | chk h1 h2 h3 h4 => exact .chk (hl ▸ h1) h2 h3 h4
 | ok h1 h2 h3 h4 =>
  refine .ok (hl ▸ h1) h2 h3 ⟨?_, ?_, ?_, ?_⟩
  ·obtain ⟨ks, k1, k2, k3⟩ := h4.ins
   exact ⟨ks, k1, fun a => by rw [k2, hR], k3⟩
  ·exact ⟨h4.bad.1, fun a => by rw [h4.bad.2, hR]⟩
  ·refine ⟨h4.ents.1, fun a => ?_⟩
   rw [h4.ents.2, hR]
   have : ∀ i, kb ts at_ i = kb ts' at_ i := fun i => by unfold kb; rw [hk]
   simp only [hR, this]
  ·refine ⟨h4.unk.1, fun a => ?_⟩
   rw [h4.unk.2, hR]
   have : ∀ i, oV ts at_ i = oV ts' at_ i := fun i => by unfold oV; rw [hk]
   simp only [this]
theorem qq {l : List SecV} {es : List UInt32} {f : FndV} {ts : List TabV} {o o2 : CodeP × FndV × Int} {n : Nat} (hb : f.ts.length ≤ 700) (hb2 : ∀ t ∈ f.ts, t.length ≤ 64) (ht : ts.map (·.data) = f.ts) (h : RoundIs l es ts f.at_ o) (he : sA l es f n = some o2) : o = o2 := by
 have hd : ts.map (·.data) = (tabs f.ts).map (·.data) := by rw [ht]; unfold tabs; rw [List.map_map]; exact (List.map_id' _).symm
 have hT : pH (tabs f.ts) := ⟨by unfold tabs; rw [List.length_map]; exact hb, fun t q => by
  obtain ⟨d, hd, rfl⟩ := List.mem_map.1 q
  exact hb2 d hd⟩
 obtain ⟨c, e, hw, hi⟩ := h
 have hw := uf hd hw
 unfold sA at he
 split at he
 ·rename_i hc
  unfold evalW at he
  split at he
  ·rename_i hr
   obtain ⟨k1, k2⟩ := CQ hT hw (by unfold tabs; rw [List.length_map]; exact hc.1) hc.2 hr
   rw [if_neg (by rw [k2]; simp)] at hi
   rw [hi, Fv he, k1, ht]
  ·cases he
 ·cases he
def mr (l : List SecV) (es : List UInt32) (n : Nat) : Nat → FndV → Option (CodeP × FndV × Int)
 | 0, f => some (uF, ⟨[], []⟩, 15)
 | k + 1, f => match sA l es f n with
  | none => none
  | some o => if o.2.2 ≠ 0 then some (uF, ⟨[], []⟩, o.2.2) else if o.2.1.at_ = f.at_ ∧ o.2.1.ts = f.ts then some o else mr l es n k o.2.1
theorem nU {l : List SecV} {es : List UInt32} (ht : totD l ≤ 600) {n : Nat} {f : FndV} (h : Rnds l es n f) : f.ts.length ≤ 700 ∧ ∀ t ∈ f.ts, t.length ≤ 64 := by
 induction h with
 | zero => exact ⟨Nat.zero_le _, fun t q => by cases q⟩
 | step n f ts o h hd hr h0 hn ih =>
  have hT : pH ts := ⟨by have := congrArg List.length hd; rw [List.length_map] at this; rw [this]; exact ih.1, fun t q => by
   have := ih.2 t.data (by rw [← hd]; exact List.mem_map.2 ⟨t, q, rfl⟩); exact this⟩
  have := hr.tabs hT
  exact ⟨by omega, this.2⟩
theorem rY {l : List SecV} {es : List UInt32} (ht : totD l ≤ 600) {n N : Nat} {f : FndV} {o : CodeP × FndV × Int} (h : Rnds l es n f) : n ≤ 16 → mr l es N 16 ⟨[], []⟩ = some o → mr l es N (16 - n) f = some o := by
 induction h with
 | zero => exact fun _ h => h
 | step n f ts o' h hd hr h0 hn ih =>
  intro hle he
  have ih := ih (by omega) he
  rw [show 16 - n = 16 - (n + 1) + 1 by omega] at ih
  unfold mr at ih
  have hs := nU ht h
  split at ih
  ·cases ih
  ·rename_i o2 hq
   have e := qq hs.1 hs.2 hd hr hq
   subst e
   rw [if_neg (by rw [h0]; simp), if_neg hn] at ih
   exact ih
theorem ED {l : List SecV} {es : List UInt32} (ht : totD l ≤ 600) {N : Nat} {o o' : CodeP × FndV × Int} (h : ResIs l es o) (he : mr l es N 16 ⟨[], []⟩ = some o') : o = o' := by
 cases h with
 | err n f ts o2 h hn hd hr h0 ho =>
  have k := rY ht h (by omega) he
  have hs := nU ht h
  rw [show 16 - n = 16 - (n + 1) + 1 by omega] at k
  unfold mr at k
  split at k
  ·cases k
  ·rename_i o3 hq
   have e := qq hs.1 hs.2 hd hr hq
   subst e
   rw [if_pos h0] at k
   cases k; exact ho
 | ok n f ts o2 h hn hd hr h0 hs2 ho =>
  have k := rY ht h (by omega) he
  have hs := nU ht h
  rw [show 16 - n = 16 - (n + 1) + 1 by omega] at k
  unfold mr at k
  split at k
  ·cases k
  ·rename_i o3 hq
   have e := qq hs.1 hs.2 hd hr hq
   subst e
   rw [if_neg (by rw [h0]; simp), if_pos hs2] at k
   cases k; exact ho
 | out f h ho =>
  have k := rY ht h (Nat.le_refl _) he
  rw [show 16 - 16 = 0 from rfl] at k
  cases k; exact ho
end Go.HL
namespace Go.HL
open Go
def vh (n : Nat) : List UInt8 := [160, 1, 58, 1, u8 (n : Int), 104, u8 ((n : Int) + 6), 131, 1, 0, 48, 0, 0]
def bEl (n k i : Nat) : List UInt8 := [u8 (13 + ((i : Int) + (k : Int)) % (n : Int)), 16, 0, 0]
def lg (n k j : Nat) : List UInt8 := (List.range j).flatMap (bEl n k)
def jE (n : Nat) : List UInt8 := (vh n ++ List.replicate n 1) ++ [1]
def nmC : ByteArray := ⟨#[99, 111, 100, 101]⟩
def nmT : ByteArray := ⟨#[116, 97, 98, 108, 101]⟩
def jT (n k : Nat) (wr : Bool) (p q : Option Addr) (c d : Nat) : List SecV := [⟨nmC, 4096, jE n, p, c, false, true⟩, ⟨nmT, 12288, lg n k n, q, d, wr, false⟩]
theorem wX (n k j : Nat) : lg n k (j + 1) = lg n k j ++ bEl n k j := by unfold lg; rw [List.range_succ, List.flatMap_append]; simp
theorem rE (n k : Nat) : ∀ j, (lg n k j).length = 4 * j
 | 0 => rfl
 | j + 1 => by rw [wX, List.length_append, rE n k j]; simp [bEl]; omega
theorem wY (n : Nat) : (jE n).length = 14 + n := by unfold jE vh; simp; omega
theorem og {h : Hp} {n k : Nat} {wr : Bool} {p q : Option Addr} {c d : Nat} (h1 : Sl h eJ (jE n) (.slice p (jE n).length c)) (h2 : Sl h eJ (lg n k n) (.slice q (lg n k n).length d)) : DataIn h (jT n k wr p q c d) := by
 intro s hs
 rcases List.mem_cons.1 hs with rfl | hs
 ·exact h1
 ·rw [List.mem_singleton.1 hs]; exact h2
theorem qI {n k : Nat} {wr : Bool} {p q : Option Addr} {c d : Nat} (hn : n ≤ 200) : SecB (jT n k wr p q c d) := by
 refine ⟨by simp [jT], fun s hs => ?_⟩
 rcases List.mem_cons.1 hs with rfl | hs
 ·have := wY n; simp only; omega
 ·rw [List.mem_singleton.1 hs]; have := rE n k n; simp only; omega
theorem oe {n k : Nat} {wr : Bool} {p q : Option Addr} {c d : Nat} : ∀ s ∈ jT n k wr p q c d, s.name.size ≤ 140737488351232 := by
 intro s hs
 rcases List.mem_cons.1 hs with rfl | hs
 ·show nmC.size ≤ _; decide
 ·rw [List.mem_singleton.1 hs]; show nmT.size ≤ _; decide
theorem An {n k : Nat} {wr : Bool} {p q : Option Addr} {c d : Nat} (hn : n ≤ 100) : totD (jT n k wr p q c d) ≤ 600 := by
 have h1 := wY n; have h2 := rE n k n
 simp only [totD, jT, List.map_cons, List.map_nil, List.sum_cons, List.sum_nil]
 omega
def I3 : List Ins := [⟨4096, 0, 26, 0, 0, 0, 1, 0, 2⟩, ⟨4098, 3, 15, 1, 0, 0, 1, 0, 3⟩, ⟨4101, 4112, 20, 1, 0, 8, 0, 0, 2⟩, ⟨4103, 12288, 22, 0, 0, 0, 1, 0, 6⟩]
def hlt (a : UInt32) : Ins := ⟨a, 0, 1, 0, 0, 0, 0, 0, 1⟩
def HO : CodeP := ⟨I3 ++ [hlt 4109, hlt 4110, hlt 4111, hlt 4112], [4096], [], []⟩
theorem Fu (p q : Option Addr) (c d : Nat) : mr (jT 3 0 false p q c d) [4096] 3000 16 ⟨[], []⟩ = some (HO, ⟨[[4109, 4110, 4111]], [4103]⟩, 0) := by kernel_rfl
theorem Io {p q : Option Addr} {c d : Nat} {o : CodeP × FndV × Int} (h : ResIs (jT 3 0 false p q c d) [4096] o) : o = (HO, ⟨[[4109, 4110, 4111]], [4103]⟩, 0) := ED (An (by omega)) h (Fu p q c d)
def exX : VSet := eF 1 3 2
def Ft : Ins := ⟨0, 12288, 22, 0, 0, 0, 1, 0, 0⟩
def Fq : Ins := ⟨0, 0, 21, 0, 0, 0, 2, 0, 0⟩
theorem G7 (p q : Option Addr) (c d : Nat) : cZ (jT 4 0 false p q c d) Ft exX = ([4110, 4110, 4110, 4112], 0) := by kernel_rfl
theorem G6 (p q : Option Addr) (c d : Nat) : cZ (jT 4 0 true p q c d) Ft exX = ([], 19) := by kernel_rfl
theorem G5 (p q : Option Addr) (c d : Nat) : cZ (jT 4 0 false p q c d) Fq (gV 4112) = ([4112], 0) := by kernel_rfl
theorem G4 (p q : Option Addr) (c d : Nat) : cZ (jT 4 0 false p q c d) Fq oM = ([], 19) := by kernel_rfl
theorem Ha (p q : Option Addr) (c d : Nat) : sk (jT 4 0 false p q c d) 12288 4 = true := by kernel_rfl
theorem G8 (p q : Option Addr) (c d : Nat) : sk (jT 4 0 false p q c d) 12288 5 = false := by kernel_rfl
theorem Ic {α : Type} {rs : List (RV α)} {x : List α} (h : rs.map (·.data) = [x]) : ∃ p c, rs = [⟨x, p, c⟩] := by
 cases rs with
 | nil => cases h
 | cons r t =>
  cases t with
  | nil =>
   obtain ⟨d, p, c⟩ := r
   simp only [List.map_cons, List.map_nil, List.cons.injEq, and_true] at h
   subst h
   exact ⟨p, c, rfl⟩
  | cons _ _ => simp at h
def G3 : StV := gu.set 1 exX
def I1 : StV := G3.set 2 (gV 4112)
def Jb : StV := I1.set 2 oM
theorem Cn : InsOK Ft := by constructor <;> (unfold I64; decide)
theorem Cm : InsOK Fq := by constructor <;> (unfold I64; decide)
end Go.HL
namespace Go.Proofs.YtiajjbhcpeadfaaGreat
open Go Go.HL Go.RowKit
theorem qH (n k : Nat) (wr : Bool) (w : World) (hn : 1 ≤ n ∧ n ≤ 100) (hk : k ≤ 1000) :
  Calls Tryz.prog 33 #[.int .i64 (n : Nat), .int .i64 (k : Nat), .bool wr] w (fun e w' => ∃ i : Value × Option Addr × Option Addr × Nat × Nat, e = .returned i.1 ∧ Ext w w' ∧ NewEnts w w' ((fun i : Value × Option Addr × Option Addr × Nat × Nat => [rowE i.1 49 dK (jT n k wr i.2.1 i.2.2.1 i.2.2.2.1 i.2.2.2.2), rowE (.slice i.2.1 (jE n).length i.2.2.2.1) 5 eJ (jE n), rowE (.slice i.2.2.1 (lg n k n).length i.2.2.2.2) 5 eJ (lg n k n)]) i) ∧ True) := by
 refine enter Tryz.func33 rfl Tryz.ntmps33 rfl ?_
 refine ah (zz0 (ab rfl) (aL (zz0 (aa rfl) (zz0 (iK rfl ba cg) (zz0 (aa rfl) (zz0 (cx rfl rfl) ?_))))))
 refine zz0 (iK rfl ba cg) ?_
 refine rG (E := eJ) (vh n) (vs := [(0, _), (1, _), (2, _), (3, _), (4, _), (5, _), (6, _), (7, _), (8, _), (9, _), (10, _), (11, _), (12, _)]) rfl rfl bJ dX kE (by rfl) (by rfl) rfl (by first | kernel_rfl | rfl) rfl (fun V1 => ?_)
 refine zz0 (ab rfl) (ad (al (cd 5 eJ ?_)))
 refine ar (zz0 (ab rfl) (ad (al (ah (zz0 (ab rfl) (ad (aG ?_)))))))
 change Tr _ _ [rowE (.slice none 0 0) 5 eJ (lg n k 0), rowE V1 5 eJ (vh n ++ List.replicate 0 (1 : UInt8))] _ _
 refine bN (ι := Nat × Value × Value) (fun ⟨i, Vc, Vt⟩ => i ≤ n) (fun _ => _) (fun ⟨i, Vc, Vt⟩ => [rowE Vt 5 eJ (lg n k i), rowE Vc 5 eJ (vh n ++ List.replicate i 1)]) (fun ⟨i, Vc, Vt⟩ => [(9, .int .i64 (i : Nat)), (7, Vc), (8, Vt)]) (fun ⟨i, Vc, Vt⟩ => n - i) (0, _, _) (Nat.zero_le _) (Front.c (Front.c (Front.c Front.nil))) (by repeat' constructor) rfl (fun i hi m hm => ?_)
 obtain ⟨i, Vc, Vt⟩ := i
 replace hi : i ≤ n := hi
 replace hm : m = n - i := hm
 change Tr _ _ [rowE Vt 5 eJ (lg n k i), rowE Vc 5 eJ (vh n ++ List.replicate i 1)] ([(9, .int .i64 (i : Nat)), (7, Vc), (8, Vt)] ++ _) _
 have hbl := rE n k i
 have hpl : (vh n ++ List.replicate i (1 : UInt8)).length = 13 + i := by simp [vh]; omega
 have hel : (bEl n k i).length = 4 := rfl
 have hmd := Int.emod_nonneg ((i : Int) + (k : Int)) (b := (n : Int)) (by omega)
 have hml := Int.emod_lt_of_pos ((i : Int) + (k : Int)) (b := (n : Int)) (by omega)
 have hp3 : (vh n).length = 13 := rfl
 have hrp : (List.replicate i (1 : UInt8)).length = i := List.length_replicate
 refine al (ah (zz0 (aa rfl) (zz0 (aa rfl) (zz0 (bS rfl rfl) (ad ?_)))))
 refine ao rfl ?_ ?_ <;> intro h2 <;> try simp only [bs] at h2
 ·refine bB (al (aG (ah (zz0 (aa rfl) ?_))))
  refine jB (E := eJ) (1 : UInt8) rfl rfl bJ dX kE (fun V3 => ?_)
  refine zz2 rfl rfl bJ qf (fun V4 => ?_)
  refine zz0 (ab rfl) (ad (ar (zz0 (aa rfl) (zz0 (aa rfl) (zz0 (aa rfl) (zz0 (cx rfl rfl) ?_))))))
  refine zz0 (aa rfl) (zz0 (HA rfl rfl (by omega)) ?_)
  refine zz0 (cx rfl rfl) ?_
  refine zz0 (iK rfl ba cg) ?_
  refine rG (E := eJ) (bEl n k i) (vs := [(0, _), (1, _), (2, _), (3, _)]) rfl rfl bJ dX kE (by rfl) (by rfl) rfl (by first | kernel_rfl | rfl) rfl (fun V5 => ?_)
  refine zz2 rfl rfl bJ qf (fun V6 => ?_)
  refine zz0 (ab rfl) (az (aX (ac (ar (zz0 (aa rfl) (zz0 (cx rfl rfl) ?_))))))
  refine zz0 (ab rfl) (ad ?_)
  have e1 : (vh n ++ List.replicate i (1 : UInt8)) ++ [1] = vh n ++ List.replicate (i + 1) 1 := by rw [List.append_assoc, ← List.replicate_succ']
  rw [e1, ← wX]
  refine cC (i + 1, _, _) (Front.c (Front.c (Front.c Front.nil))) (bA 24 rfl) (o := (by show i + 1 ≤ _; omega))
 refine bG (aJ (aJ (bj (ac (al ?_)))))
 obtain rfl : i = n := by omega
 refine iL (V := Vt) (fun pt ct hpv => ?_)
 subst hpv
 refine ar (zz0 (aa rfl) ?_)
 refine jB (E := eJ) (1 : UInt8) rfl rfl bJ dX kE (fun V7 => ?_)
 refine zz2 rfl rfl bJ qf (fun V8 => ?_)
 refine gx (l' := jE i) rfl ?_
 refine dz (.head _) (fun pc cc hpv => ?_)
 subst hpv
 refine zz0 (bL (vs := [(0, _), (1, _), (2, _), (4, _)]) (cs := #[.string nmC, .int .u32 4096, .slice pc (jE i).length cc, .bool false, .bool true]) rfl rfl (by kernel_rfl)) ?_
 refine zz0 (aa rfl) (zz0 (aa rfl) (zz0 (bL (vs := [(0, _), (1, _), (2, _), (3, _)]) (cs := #[.string nmT, .int .u32 12288, .slice pt (lg i k i).length ct, .bool wr, .bool false]) rfl rfl (by kernel_rfl)) ?_))
 refine rG (E := dK) (jT i k wr pc pt cc ct) (vs := [(0, _), (1, _)]) rfl rfl cO di l5 (by rfl) (by rfl) rfl (by first | kernel_rfl | rfl) rfl (fun V9 => ?_)
 refine zz0 (ab rfl) (ad (aD ?_))
 refine aS Tryz.results33 rfl (fun w' hw => ?_)
 exact ⟨(_, pc, pt, cc, ct), rfl, hw.b0, hw.ents (Bg.le.refl _) (by repeat' (first | exact Pick.refl _ | exact Del.here _ | apply Pick.cons | apply Del.there | apply Pick.skip | exact Pick.nil _)), trivial⟩
theorem qA (w : World) :
  Calls Tryz.prog 11 #[] w (fun e w' => e = .returned (.bool true) ∧ Below w.heap.size w w') := by
 refine l3 Tryz.func11 rfl Tryz.ntmps11 rfl ?_
 refine ah (zz0 (ab rfl) (aL ?_))
 refine jb (fun i : Value × Option Addr × Option Addr × Nat × Nat => i.1) (fun i : Value × Option Addr × Option Addr × Nat × Nat => [rowE i.1 49 dK (jT 3 0 false i.2.1 i.2.2.1 i.2.2.2.1 i.2.2.2.2), rowE (.slice i.2.1 (jE 3).length i.2.2.2.1) 5 eJ (jE 3), rowE (.slice i.2.2.1 (lg 3 0 3).length i.2.2.2.2) 5 eJ (lg 3 0 3)]) (ok := fun _ => True) rfl Tryz.call33 (fun w hw => qH 3 0 false w (by omega) (by omega)) rfl (fun ib1 _ => ?_)
 obtain ⟨VB1, p1, q1, c1, d1⟩ := ib1
 change Tr _ _ (rowE (VB1) 49 dK (jT 3 0 false p1 q1 c1 d1) :: rowE (.slice p1 (jE 3).length c1) 5 eJ (jE 3) :: rowE (.slice q1 (lg 3 0 3).length d1) 5 eJ (lg 3 0 3) :: _) _ _
 refine dz (V := VB1) (.head _) (fun pb1 cb1 hpv => ?_)
 subst hpv
 refine jB (E := an) (4096 : UInt32) rfl rfl aj ae cU (fun V1 => ?_)
 refine eE (fun i : (Value × Value × Value × Value × Value × Value) × (CodeP × FndV × Int) × List (RV UInt32) => .tuple #[.agg #[i.1.1, i.1.2.1, i.1.2.2.1, i.1.2.2.2.1], i.1.2.2.2.2.1, i.1.2.2.2.2.2, .int .i64 i.2.1.2.2]) (fun i : (Value × Value × Value × Value × Value × Value) × (CodeP × FndV × Int) × List (RV UInt32) => rowE i.1.1 36 aP i.2.1.1.ins :: rowE i.1.2.1 23 an i.2.1.1.ents :: rowE i.1.2.2.1 23 an i.2.1.1.unk :: rowE i.1.2.2.2.1 23 an i.2.1.1.bad :: rowE i.1.2.2.2.2.1 31 dD i.2.2 :: rowE i.1.2.2.2.2.2 23 an i.2.1.2.1.at_ :: i.2.2.map (rvE 23 an)) (ok := fun i : (Value × Value × Value × Value × Value × Value) × (CodeP × FndV × Int) × List (RV UInt32) => ResIs (jT 3 0 false p1 q1 c1 d1) [4096] i.2.1 ∧ i.2.2.map (·.data) = i.2.1.2.1.ts) rfl rfl Tryz.call17 (fun w hw => ux (jT 3 0 false p1 q1 c1 d1) _ _ [4096] _ w (hw.row (by repeat constructor)) (qI (by omega)) (og (hw.row (by repeat constructor)) (hw.row (by repeat constructor))) oe (hw.row (by repeat constructor)) (An (by omega)) (by simp)) rfl (fun iR hR => ?_)
 obtain ⟨⟨Wi, We, Wu, Wb, Wt, Wp⟩, o, rs⟩ := iR
 obtain ⟨ho, hrs⟩ : ResIs (jT 3 0 false p1 q1 c1 d1) [4096] o ∧ rs.map (·.data) = o.2.1.ts := hR
 obtain rfl := Io ho
 obtain ⟨pr, cr, rfl⟩ := Ic hrs
 change Tr _ _ (rowE Wi 36 aP HO.ins :: rowE We 23 an HO.ents :: rowE Wu 23 an HO.unk :: rowE Wb 23 an HO.bad :: rowE Wt 31 dD [⟨[4109, 4110, 4111], pr, cr⟩] :: rowE Wp 23 an ([4103] : List UInt32) :: rvE 23 an ⟨[4109, 4110, 4111], pr, cr⟩ ::  _) _ _
 refine iL (V := Wi) (fun pWi cWi hpv => ?_)
 subst hpv
 refine iL (V := We) (fun pWe cWe hpv => ?_)
 subst hpv
 refine iL (V := Wu) (fun pWu cWu hpv => ?_)
 subst hpv
 refine iL (V := Wb) (fun pWb cWb hpv => ?_)
 subst hpv
 refine iL (V := Wt) (fun pWt cWt hpv => ?_)
 subst hpv
 refine iL (V := Wp) (fun pWp cWp hpv => ?_)
 subst hpv
 refine zz0 (aa rfl) (zz0 (aR rfl rfl) (zz0 (aR rfl rfl) (zz0 (aR rfl rfl) (zz0 (aR rfl rfl) ?_))))
 refine dA dW rfl (fun b2 => ?_)
 refine zz8 rfl rfl cm ?_
 refine zz0 (ab rfl) (zz0 (ab rfl) (zz0 (ab rfl) (aL ?_)))
 refine dA cR rfl (fun b3 => ?_)
 change Tr _ _ (cellE b3 (cL.enc gu) 37 :: _) _ _
 refine aL (zz0 (aC rfl eD (fun w hw => dO 1 3 2 w)) ?_)
 refine zz0 (zz1 (off := 0) (ft := 26) rfl co rfl dj) ?_
 refine zz0 (dL rfl rfl cp ak (by omega)) ?_
 refine fY rfl rfl ak (by repeat constructor) (kX (s := gu) (k := (1 : Int)) ⟨by omega, by omega⟩ (by simp) (exX)) (by rfl) (kZ (k := (1 : Int)) ⟨by omega, by omega⟩ (by simp)) (by first | exact Enc.one bR _ | exact List.all_eq_true.1 rfl) rfl ?_
 refine aL ?_
 refine jb (fun i : Value × Option Addr × Option Addr × Nat × Nat => i.1) (fun i : Value × Option Addr × Option Addr × Nat × Nat => [rowE i.1 49 dK (jT 4 0 false i.2.1 i.2.2.1 i.2.2.2.1 i.2.2.2.2), rowE (.slice i.2.1 (jE 4).length i.2.2.2.1) 5 eJ (jE 4), rowE (.slice i.2.2.1 (lg 4 0 4).length i.2.2.2.2) 5 eJ (lg 4 0 4)]) (ok := fun _ => True) rfl Tryz.call33 (fun w hw => qH 4 0 false w (by omega) (by omega)) rfl (fun ib2 _ => ?_)
 obtain ⟨VB2, p2, q2, c2, d2⟩ := ib2
 change Tr _ _ (rowE (VB2) 49 dK (jT 4 0 false p2 q2 c2 d2) :: rowE (.slice p2 (jE 4).length c2) 5 eJ (jE 4) :: rowE (.slice q2 (lg 4 0 4).length d2) 5 eJ (lg 4 0 4) :: _) _ _
 refine dz (V := VB2) (.head _) (fun pb2 cb2 hpv => ?_)
 subst hpv
 refine zz0 (ab rfl) (aL (zz0 (aa rfl) (zz0 (bL (vs := [(2, _), (6, _), (1, _)]) rfl rfl (mD _ _ _)) ?_)))
 refine zz0 (bE rfl bT aU) ?_
 refine im (E := an) (l := ([4110, 4110, 4110, 4112] : List UInt32)) (T := 23) (fun V => .tuple #[V, .int .i64 0]) rfl nA (fun w hw => by have q := lN (jT 4 0 false p2 q2 c2 d2) _ _ Ft G3 w (hw.row (by repeat constructor)) (qI (by omega)) (og (hw.row (by repeat constructor)) (hw.row (by repeat constructor))) oe Cn; rw [show G3.get Ft.a = exX from rfl, G7] at q; exact q) rfl (fun T1 => ?_)
 refine zz0 (aa rfl) (zz0 (aR rfl rfl) (zz0 (aR rfl rfl) (zz0 (ab rfl) (zz0 (ab rfl) (ad (al (dG ([cellE b3 (cL.enc G3) 37]) 9 rfl aT ?_)))))))
 refine zz3 1 rfl (bL (vs := [(2, _), (6, _), (1, _)]) rfl rfl (mD _ _ _)) ?_
 refine zz3 2 rfl (bE rfl bT aU) ?_
 refine dh [0] (fun iq hq => ?_)
 obtain rfl := List.mem_singleton.1 hq
 refine bD rfl ?_
 refine jb (fun i : Value × Option Addr × Option Addr × Nat × Nat => i.1) (fun i : Value × Option Addr × Option Addr × Nat × Nat => [rowE i.1 49 dK (jT 4 0 true i.2.1 i.2.2.1 i.2.2.2.1 i.2.2.2.2), rowE (.slice i.2.1 (jE 4).length i.2.2.2.1) 5 eJ (jE 4), rowE (.slice i.2.2.1 (lg 4 0 4).length i.2.2.2.2) 5 eJ (lg 4 0 4)]) (ok := fun _ => True) rfl Tryz.call33 (fun w hw => qH 4 0 true w (by omega) (by omega)) rfl (fun ib3 _ => ?_)
 obtain ⟨VB3, p3, q3, c3, d3⟩ := ib3
 change Tr _ _ (rowE (VB3) 49 dK (jT 4 0 true p3 q3 c3 d3) :: rowE (.slice p3 (jE 4).length c3) 5 eJ (jE 4) :: rowE (.slice q3 (lg 4 0 4).length d3) 5 eJ (lg 4 0 4) :: _) _ _
 refine dz (V := VB3) (.head _) (fun pb3 cb3 hpv => ?_)
 subst hpv
 refine bU ?_
 refine dh [3] (fun iq hq => ?_)
 obtain rfl := List.mem_singleton.1 hq
 refine bD rfl ?_
 refine im (E := an) (l := ([] : List UInt32)) (T := 23) (fun V => .tuple #[V, .int .i64 19]) rfl nA (fun w hw => by have q := lN (jT 4 0 true p3 q3 c3 d3) _ _ Ft G3 w (hw.row (by repeat constructor)) (qI (by omega)) (og (hw.row (by repeat constructor)) (hw.row (by repeat constructor))) oe Cn; rw [show G3.get Ft.a = exX from rfl, G6] at q; exact q) rfl (fun T2 => ?_)
 refine bU ?_
 refine zz3 4 rfl (aa rfl) ?_
 refine zz3 5 rfl (aR rfl rfl) ?_
 refine zz3 6 rfl (aR rfl rfl) ?_
 refine zz3 7 rfl (ab rfl) ?_
 refine zz3 8 rfl (ab rfl) ?_
 refine gI ?_
 refine ac (ah (zz0 (aC rfl iJ (fun w hw => jC 4112 w)) ?_))
 refine zz0 (zz1 (off := 0) (ft := 26) rfl co rfl dj) ?_
 refine zz0 (dL rfl rfl cp ak (by omega)) ?_
 refine fY rfl rfl ak (by repeat constructor) (kX (s := G3) (k := (2 : Int)) ⟨by omega, by omega⟩ (by simp) (gV 4112)) (by rfl) (kZ (k := (2 : Int)) ⟨by omega, by omega⟩ (by simp)) (by first | exact Enc.one bR _ | exact List.all_eq_true.1 rfl) rfl ?_
 refine aL (zz0 (aa rfl) (zz0 (bL (vs := [(2, _), (6, _)]) rfl rfl (jL _ _)) ?_))
 refine zz0 (bE rfl bT aU) ?_
 refine im (E := an) (l := ([4112] : List UInt32)) (T := 23) (fun V => .tuple #[V, .int .i64 0]) rfl nA (fun w hw => by have q := lN (jT 4 0 false p2 q2 c2 d2) _ _ Fq I1 w (hw.row (by repeat constructor)) (qI (by omega)) (og (hw.row (by repeat constructor)) (hw.row (by repeat constructor))) oe Cm; rw [show I1.get Fq.a = gV 4112 from rfl, G5] at q; exact q) rfl (fun T3 => ?_)
 refine zz0 (aa rfl) (zz0 (aR rfl rfl) (zz0 (aR rfl rfl) (zz0 (ab rfl) (zz0 (ab rfl) (aL (zz0 (aC rfl fX (fun w hw => j5 w)) ?_))))))
 refine zz0 (zz1 (off := 0) (ft := 26) rfl co rfl dj) ?_
 refine zz0 (dL rfl rfl cp ak (by omega)) ?_
 refine fY rfl rfl ak (by repeat constructor) (kX (s := I1) (k := (2 : Int)) ⟨by omega, by omega⟩ (by simp) (oM)) (by rfl) (kZ (k := (2 : Int)) ⟨by omega, by omega⟩ (by simp)) (by first | exact Enc.one bR _ | exact List.all_eq_true.1 rfl) rfl ?_
 refine aL (zz0 (aa rfl) (zz0 (bL (vs := [(2, _), (6, _)]) rfl rfl (jL _ _)) ?_))
 refine zz0 (bE rfl bT aU) ?_
 refine im (E := an) (l := ([] : List UInt32)) (T := 23) (fun V => .tuple #[V, .int .i64 19]) rfl nA (fun w hw => by have q := lN (jT 4 0 false p2 q2 c2 d2) _ _ Fq Jb w (hw.row (by repeat constructor)) (qI (by omega)) (og (hw.row (by repeat constructor)) (hw.row (by repeat constructor))) oe Cm; rw [show Jb.get Fq.a = oM from rfl, G4] at q; exact q) rfl (fun T4 => ?_)
 refine zz0 (aa rfl) (zz0 (aR rfl rfl) (zz0 (aR rfl rfl) (zz0 (ab rfl) (zz0 (ab rfl) (aL (zz0 (aa rfl) (zz0 (aY rfl rfl) (zz0 (aa rfl) (zz5 rfl (aa rfl) ?_)))))))))
 refine vj rfl rfl rfl ?_
 refine jB (E := an) (4103 : UInt32) rfl rfl aj ae cU (fun V4 => ?_)
 refine zz5 rfl (aC rfl lJ (fun w hw => lE [4103] [4103] _ _ w (hw.row (by repeat constructor)) (hw.row (by repeat constructor)))) ?_
 refine zz0 (jt rfl rfl rfl) ?_
 refine zz0 (aa rfl) (zz5 rfl (aa rfl) ?_)
 refine zz5 rfl (mg rfl du) ?_
 refine zz5 rfl (aY rfl rfl) ?_
 refine zz0 (jt rfl rfl rfl) ?_
 refine zz0 (aa rfl) (zz5 rfl (aa rfl) ?_)
 refine zz5 rfl (vu (E := dD (α := UInt32)) (l := [⟨[4109, 4110, 4111], pr, cr⟩]) (i := 0) rfl rfl (by repeat constructor) du cn (by rfl) (by simp)) ?_
 refine zz5 rfl (CJ (E := dD (α := UInt32)) (l := [⟨[4109, 4110, 4111], pr, cr⟩]) (i := 0) rfl (by repeat constructor) dq (by simp) (by rfl)) ?_
 refine vj rfl rfl rfl ?_
 refine rG (E := an) ([4109, 4110, 4111] : List UInt32) (vs := [(0, _), (1, _), (2, _)]) rfl rfl aj ae cU (by rfl) (by rfl) rfl (by first | kernel_rfl | rfl) rfl (fun V5 => ?_)
 refine zz5 rfl (aC rfl lJ (fun w hw => lE [4109, 4110, 4111] [4109, 4110, 4111] _ _ w (hw.row (by repeat constructor)) (hw.row (by repeat constructor)))) ?_
 refine zz0 (jt rfl rfl rfl) ?_
 refine zz0 (aa rfl) (zz5 rfl (zz1 (off := 0) (ft := 50) rfl bI rfl cD) ?_)
 refine zz5 rfl (aH rfl cP) ?_
 refine zz5 rfl (mg rfl aM) ?_
 refine zz5 rfl (aY rfl rfl) ?_
 refine zz0 (jt rfl rfl rfl) ?_
 refine zz0 (aa rfl) (zz5 rfl (zz1 (off := 2) (ft := 31) rfl bI rfl cn) ?_)
 refine zz5 rfl (aH rfl dq) ?_
 refine zz5 rfl (mg rfl aj) ?_
 refine zz5 rfl (aY rfl rfl) ?_
 refine zz0 (jt rfl rfl rfl) ?_
 refine zz0 (aa rfl) (zz5 rfl (aa rfl) ?_)
 refine zz5 rfl (aY rfl rfl) ?_
 refine zz0 (jt rfl rfl rfl) ?_
 refine zz0 (aa rfl) (zz5 rfl (aa rfl) ?_)
 refine vj rfl rfl rfl ?_
 refine rG (E := an) ([4110, 4110, 4110, 4112] : List UInt32) (vs := [(0, _), (1, _), (2, _), (3, _)]) rfl rfl aj ae cU (by rfl) (by rfl) rfl (by first | kernel_rfl | rfl) rfl (fun V6 => ?_)
 refine zz5 rfl (aC rfl lJ (fun w hw => lE [4110, 4110, 4110, 4112] [4110, 4110, 4110, 4112] _ _ w (hw.row (by repeat constructor)) (hw.row (by repeat constructor)))) ?_
 refine zz0 (jt rfl rfl rfl) ?_
 refine zz0 (aa rfl) (zz5 rfl (aa rfl) ?_)
 refine zz5 rfl (aY rfl rfl) ?_
 refine zz0 (jt rfl rfl rfl) ?_
 refine zz0 (aa rfl) (zz5 rfl (aa rfl) ?_)
 refine zz5 rfl (aY rfl rfl) ?_
 refine zz0 (jt rfl rfl rfl) ?_
 refine zz0 (aa rfl) (zz5 rfl (aa rfl) ?_)
 refine vj rfl rfl rfl ?_
 refine jB (E := an) (4112 : UInt32) rfl rfl aj ae cU (fun V7 => ?_)
 refine zz5 rfl (aC rfl lJ (fun w hw => lE [4112] [4112] _ _ w (hw.row (by repeat constructor)) (hw.row (by repeat constructor)))) ?_
 refine zz0 (jt rfl rfl rfl) ?_
 refine zz0 (aa rfl) (zz5 rfl (aa rfl) ?_)
 refine zz5 rfl (aY rfl rfl) ?_
 refine zz0 (jt rfl rfl rfl) ?_
 refine zz0 (aa rfl) (zz5 rfl (aa rfl) ?_)
 refine zz5 rfl (aC rfl Tryz.call23 (fun w hw => uX (jT 4 0 false p2 q2 c2 d2) _ _ 12288 4 w (hw.row (by repeat constructor)) (qI (by omega)) (og (hw.row (by repeat constructor)) (hw.row (by repeat constructor))) oe)) ?_
 rw [Ha]
 refine zz0 (jt rfl rfl rfl) ?_
 refine zz0 (aa rfl) (zz5 rfl (aa rfl) ?_)
 refine zz5 rfl (aC rfl Tryz.call23 (fun w hw => uX (jT 4 0 false p2 q2 c2 d2) _ _ 12288 5 w (hw.row (by repeat constructor)) (qI (by omega)) (og (hw.row (by repeat constructor)) (hw.row (by repeat constructor))) oe)) ?_
 rw [G8]
 refine zz5 rfl (cj rfl) ?_
 refine zz0 (jt rfl rfl rfl) ?_
 refine zz0 (ab rfl) (ad (aD ?_))
 refine aS Tryz.results11 rfl (fun w' hw => ?_)
 exact ⟨rfl, hw.below0 (Bg.le.refl _)⟩
end Go.Proofs.YtiajjbhcpeadfaaGreat
