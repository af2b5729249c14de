/- Own rules and walks, part 6. -/
import Derived.Test.YtiajjbhcpeadfaaGreatB5
set_option linter.unusedSimpArgs false
set_option linter.unusedVariables false
set_option linter.unusedSectionVars false
set_option maxRecDepth 100000
set_option maxHeartbeats 16000000
namespace Go.Proofs.YtiajjbhcpeadfaaGreat
open Go Go.HL Go.RowKit
theorem qx (n k : Nat) (wr : Bool) (w : World) (hn : 1 ≤ n ∧ n ≤ 100) (hk : k ≤ 1000) :
  Calls Tryz.prog 33 #[.int .i64 (n : Nat), .int .i64 (k : Nat), .bool wr] w (fun e w' => ∃ i : Value × Option Addr × Option Addr × Nat × Nat, e = .returned i.1 ∧ Ext w w' ∧ NewEnts w w' ((fun i : Value × Option Addr × Option Addr × Nat × Nat => [rowE i.1 49 cR (jR n k wr i.2.1 i.2.2.1 i.2.2.2.1 i.2.2.2.2), rowE (.slice i.2.1 (jB n).length i.2.2.2.1) 5 dO (jB n), rowE (.slice i.2.2.1 (k5 n k n).length i.2.2.2.2) 5 dO (k5 n k n)]) i) ∧ True) := by
 refine enter Tryz.func33 rfl Tryz.ntmps33 rfl ?_
 refine af (zz0 (ab rfl) (aI (zz0 (aa rfl) (zz0 (iM rfl aY bZ) (zz0 (aa rfl) (zz0 (cp rfl rfl) ?_))))))
 refine zz0 (iM rfl aY bZ) ?_
 refine ru (E := dO) (uU n) (vs := [(0, _), (1, _), (2, _), (3, _), (4, _), (5, _), (6, _), (7, _), (8, _), (9, _), (10, _), (11, _), (12, _)]) rfl rfl aZ dl jC (by rfl) (by rfl) rfl (by first | kernel_rfl | rfl) rfl (fun V1 => ?_)
 refine zz0 (ab rfl) (ad (al (cj 5 dO ?_)))
 refine ao (zz0 (ab rfl) (ad (al (af (zz0 (ab rfl) (ad (aD ?_)))))))
 change Tr _ _ [rowE (.slice none 0 0) 5 dO (k5 n k 0), rowE V1 5 dO (uU n ++ List.replicate 0 (1 : UInt8))] _ _
 refine bK (ι := Nat × Value × Value) (fun ⟨i, Vc, Vt⟩ => i ≤ n) (fun _ => _) (fun ⟨i, Vc, Vt⟩ => [rowE Vt 5 dO (k5 n k i), rowE Vc 5 dO (uU n ++ List.replicate i 1)]) (fun ⟨i, Vc, Vt⟩ => [(9, .int .i64 (i : Nat)), (7, Vc), (8, Vt)]) (fun ⟨i, Vc, Vt⟩ => n - i) (0, _, _) (Nat.zero_le _) (Front.c (Front.c (Front.c Front.nil))) (by repeat' constructor) rfl (fun i hi m hm => ?_)
 obtain ⟨i, Vc, Vt⟩ := i
 replace hi : i ≤ n := hi
 replace hm : m = n - i := hm
 change Tr _ _ [rowE Vt 5 dO (k5 n k i), rowE Vc 5 dO (uU n ++ List.replicate i 1)] ([(9, .int .i64 (i : Nat)), (7, Vc), (8, Vt)] ++ _) _
 have hbl := rq n k i
 have hpl : (uU n ++ List.replicate i (1 : UInt8)).length = 13 + i := by simp [uU]; omega
 have hel : (bEl n k i).length = 4 := rfl
 have hmd := Int.emod_nonneg ((i : Int) + (k : Int)) (b := (n : Int)) (by omega)
 have hml := Int.emod_lt_of_pos ((i : Int) + (k : Int)) (b := (n : Int)) (by omega)
 have hp3 : (uU n).length = 13 := rfl
 have hrp : (List.replicate i (1 : UInt8)).length = i := List.length_replicate
 refine al (af (zz0 (aa rfl) (zz0 (aa rfl) (zz0 (bP rfl rfl) (ad ?_)))))
 refine an rfl ?_ ?_ <;> intro h2 <;> try simp only [bs] at h2
 ·refine bA (al (aD (af (zz0 (aa rfl) ?_))))
  refine js (E := dO) (1 : UInt8) rfl rfl aZ dl jC (fun V3 => ?_)
  refine zz1 rfl rfl aZ nC (fun V4 => ?_)
  refine zz0 (ab rfl) (ad (ao (zz0 (aa rfl) (zz0 (aa rfl) (zz0 (aa rfl) (zz0 (cp rfl rfl) ?_))))))
  refine zz0 (aa rfl) (zz0 (GF rfl rfl (by omega)) ?_)
  refine zz0 (cp rfl rfl) ?_
  refine zz0 (iM rfl aY bZ) ?_
  refine ru (E := dO) (bEl n k i) (vs := [(0, _), (1, _), (2, _), (3, _)]) rfl rfl aZ dl jC (by rfl) (by rfl) rfl (by first | kernel_rfl | rfl) rfl (fun V5 => ?_)
  refine zz1 rfl rfl aZ nC (fun V6 => ?_)
  refine zz0 (ab rfl) (aB (aX (ac (ao (zz0 (aa rfl) (zz0 (cp rfl rfl) ?_))))))
  refine zz0 (ab rfl) (ad ?_)
  have e1 : (uU n ++ List.replicate i (1 : UInt8)) ++ [1] = uU n ++ List.replicate (i + 1) 1 := by rw [List.append_assoc, ← List.replicate_succ']
  rw [e1, ← wA]
  refine cC (i + 1, _, _) (Front.c (Front.c (Front.c Front.nil))) (bB 24 rfl) (o := (by show i + 1 ≤ _; omega))
 ·refine bF (aG (aG (bj (ac (al ?_)))))
  obtain rfl : i = n := by omega
  refine iN (V := Vt) (fun pt ct hpv => ?_)
  subst hpv
  refine ao (zz0 (aa rfl) ?_)
  refine js (E := dO) (1 : UInt8) rfl rfl aZ dl jC (fun V7 => ?_)
  refine zz1 rfl rfl aZ nC (fun V8 => ?_)
  refine gC (l' := jB i) rfl ?_
  refine dw (.head _) (fun pc cc hpv => ?_)
  subst hpv
  refine zz0 (bO (vs := [(0, _), (1, _), (2, _), (4, _)]) (cs := #[.string nmC, .int .u32 4096, .slice pc (jB i).length cc, .bool false, .bool true]) rfl rfl (by kernel_rfl)) ?_
  refine zz0 (aa rfl) (zz0 (aa rfl) (zz0 (bO (vs := [(0, _), (1, _), (2, _), (3, _)]) (cs := #[.string nmT, .int .u32 12288, .slice pt (k5 i k i).length ct, .bool wr, .bool false]) rfl rfl (by kernel_rfl)) ?_))
  refine ru (E := cR) (jR i k wr pc pt cc ct) (vs := [(0, _), (1, _)]) rfl rfl bE bT j4 (by rfl) (by rfl) rfl (by first | kernel_rfl | rfl) rfl (fun V9 => ?_)
  refine zz0 (ab rfl) (ad (az ?_))
  refine aT Tryz.results33 rfl (fun w' hw => ?_)
  exact ⟨(_, pc, pt, cc, ct), rfl, hw.b0, hw.ents (Bg.le.refl _) (by repeat' (first | exact Pick.refl _ | exact Del.here _ | apply Pick.cons | apply Del.there | apply Pick.skip | exact Pick.nil _)), trivial⟩
theorem uN (w : World) :
  Calls Tryz.prog 11 #[] w (fun e w' => e = .returned (.bool true) ∧ Below w.heap.size w w') := by
 refine lZ Tryz.func11 rfl Tryz.ntmps11 rfl ?_
 refine af (zz0 (ab rfl) (aI ?_))
 refine jW (fun i : Value × Option Addr × Option Addr × Nat × Nat => i.1) (fun i : Value × Option Addr × Option Addr × Nat × Nat => [rowE i.1 49 cR (jR 3 0 false i.2.1 i.2.2.1 i.2.2.2.1 i.2.2.2.2), rowE (.slice i.2.1 (jB 3).length i.2.2.2.1) 5 dO (jB 3), rowE (.slice i.2.2.1 (k5 3 0 3).length i.2.2.2.2) 5 dO (k5 3 0 3)]) (ok := fun _ => True) rfl Tryz.call33 (fun w hw => qx 3 0 false w (by omega) (by omega)) rfl (fun ib1 _ => ?_)
 obtain ⟨VB1, p1, q1, c1, d1⟩ := ib1
 change Tr _ _ (rowE (VB1) 49 cR (jR 3 0 false p1 q1 c1 d1) :: rowE (.slice p1 (jB 3).length c1) 5 dO (jB 3) :: rowE (.slice q1 (k5 3 0 3).length d1) 5 dO (k5 3 0 3) :: _) _ _
 refine dw (V := VB1) (.head _) (fun pb1 cb1 hpv => ?_)
 subst hpv
 refine js (E := ar) (4096 : UInt32) rfl rfl ah ae cU (fun V1 => ?_)
 refine eM (fun i : (Value × Value × Value × Value × Value × Value) × (CodeP × FndV × Int) × List (RV UInt32) => .tuple #[.agg #[i.1.1, i.1.2.1, i.1.2.2.1, i.1.2.2.2.1], i.1.2.2.2.2.1, i.1.2.2.2.2.2, .int .i64 i.2.1.2.2]) (fun i : (Value × Value × Value × Value × Value × Value) × (CodeP × FndV × Int) × List (RV UInt32) => rowE i.1.1 36 aP i.2.1.1.ins :: rowE i.1.2.1 23 ar i.2.1.1.ents :: rowE i.1.2.2.1 23 ar i.2.1.1.unk :: rowE i.1.2.2.2.1 23 ar i.2.1.1.bad :: rowE i.1.2.2.2.2.1 31 dE i.2.2 :: rowE i.1.2.2.2.2.2 23 ar i.2.1.2.1.at_ :: i.2.2.map (rvE 23 ar)) (ok := fun i : (Value × Value × Value × Value × Value × Value) × (CodeP × FndV × Int) × List (RV UInt32) => ResIs (jR 3 0 false p1 q1 c1 d1) [4096] i.2.1 ∧ i.2.2.map (·.data) = i.2.1.2.1.ts) rfl rfl Tryz.call17 (fun w hw => Al (jR 3 0 false p1 q1 c1 d1) _ _ [4096] _ w (hw.row (by repeat constructor)) (qy (by omega)) (nY (hw.row (by repeat constructor)) (hw.row (by repeat constructor))) nX (hw.row (by repeat constructor)) (zF (by omega)) (by simp)) rfl (fun iR hR => ?_)
 obtain ⟨⟨Wi, We, Wu, Wb, Wt, Wp⟩, o, rs⟩ := iR
 obtain ⟨ho, hrs⟩ : ResIs (jR 3 0 false p1 q1 c1 d1) [4096] o ∧ rs.map (·.data) = o.2.1.ts := hR
 obtain rfl := Ho ho
 obtain ⟨pr, cr, rfl⟩ := Hf hrs
 change Tr _ _ (rowE Wi 36 aP GU.ins :: rowE We 23 ar GU.ents :: rowE Wu 23 ar GU.unk :: rowE Wb 23 ar GU.bad :: rowE Wt 31 dE [⟨[4109, 4110, 4111], pr, cr⟩] :: rowE Wp 23 ar ([4103] : List UInt32) :: rvE 23 ar ⟨[4109, 4110, 4111], pr, cr⟩ ::  _) _ _
 refine iN (V := Wi) (fun pWi cWi hpv => ?_)
 subst hpv
 refine iN (V := We) (fun pWe cWe hpv => ?_)
 subst hpv
 refine iN (V := Wu) (fun pWu cWu hpv => ?_)
 subst hpv
 refine iN (V := Wb) (fun pWb cWb hpv => ?_)
 subst hpv
 refine iN (V := Wt) (fun pWt cWt hpv => ?_)
 subst hpv
 refine iN (V := Wp) (fun pWp cWp hpv => ?_)
 subst hpv
 refine zz0 (aa rfl) (zz0 (aO rfl rfl) (zz0 (aO rfl rfl) (zz0 (aO rfl rfl) (zz0 (aO rfl rfl) ?_))))
 refine dD eR rfl (fun b2 => ?_)
 refine zz6 rfl rfl cL ?_
 refine zz0 (ab rfl) (zz0 (ab rfl) (zz0 (ab rfl) (aI ?_)))
 refine dD cS rfl (fun b3 => ?_)
 change Tr _ _ (cellE b3 (cH.enc gy) 37 :: _) _ _
 refine aI (zz0 (aA rfl eB (fun w hw => dL 1 3 2 w)) ?_)
 refine zz0 (zz2 (off := 0) (ft := 26) rfl cn rfl dj) ?_
 refine zz0 (dI rfl rfl co ak (by omega)) ?_
 refine f7 rfl rfl ak (by repeat constructor) (kU (s := gy) (k := (1 : Int)) ⟨by omega, by omega⟩ (by simp) (exX)) (by rfl) (kW (k := (1 : Int)) ⟨by omega, by omega⟩ (by simp)) (by first | exact Enc.one bU _ | exact List.all_eq_true.1 rfl) rfl ?_
 refine aI ?_
 refine jW (fun i : Value × Option Addr × Option Addr × Nat × Nat => i.1) (fun i : Value × Option Addr × Option Addr × Nat × Nat => [rowE i.1 49 cR (jR 4 0 false i.2.1 i.2.2.1 i.2.2.2.1 i.2.2.2.2), rowE (.slice i.2.1 (jB 4).length i.2.2.2.1) 5 dO (jB 4), rowE (.slice i.2.2.1 (k5 4 0 4).length i.2.2.2.2) 5 dO (k5 4 0 4)]) (ok := fun _ => True) rfl Tryz.call33 (fun w hw => qx 4 0 false w (by omega) (by omega)) rfl (fun ib2 _ => ?_)
 obtain ⟨VB2, p2, q2, c2, d2⟩ := ib2
 change Tr _ _ (rowE (VB2) 49 cR (jR 4 0 false p2 q2 c2 d2) :: rowE (.slice p2 (jB 4).length c2) 5 dO (jB 4) :: rowE (.slice q2 (k5 4 0 4).length d2) 5 dO (k5 4 0 4) :: _) _ _
 refine dw (V := VB2) (.head _) (fun pb2 cb2 hpv => ?_)
 subst hpv
 refine zz0 (ab rfl) (aI (zz0 (aa rfl) (zz0 (bO (vs := [(2, _), (6, _), (1, _)]) rfl rfl (mC _ _ _)) ?_)))
 refine zz0 (bI rfl bX aV) ?_
 refine gX (E := ar) (l := ([4110, 4110, 4110, 4112] : List UInt32)) (T := 23) (fun V => .tuple #[V, .int .i64 0]) rfl ns (fun w hw => by have q := lN (jR 4 0 false p2 q2 c2 d2) _ _ EE Ge w (hw.row (by repeat constructor)) (qy (by omega)) (nY (hw.row (by repeat constructor)) (hw.row (by repeat constructor))) nX BI; rw [show Ge.get EE.a = exX from rfl, Gi] at q; exact q) rfl (fun T1 => ?_)
 refine zz0 (aa rfl) (zz0 (aO rfl rfl) (zz0 (aO rfl rfl) (zz0 (ab rfl) (zz0 (ab rfl) (ad (al (d6 ([cellE b3 (cH.enc Ge) 37]) 9 rfl aS ?_)))))))
 refine zz4 1 rfl (bO (vs := [(2, _), (6, _), (1, _)]) rfl rfl (mC _ _ _)) ?_
 refine zz4 2 rfl (bI rfl bX aV) ?_
 refine dx [0] (fun iq hq => ?_)
 obtain rfl := List.mem_singleton.1 hq
 refine bJ rfl ?_
 refine jW (fun i : Value × Option Addr × Option Addr × Nat × Nat => i.1) (fun i : Value × Option Addr × Option Addr × Nat × Nat => [rowE i.1 49 cR (jR 4 0 true i.2.1 i.2.2.1 i.2.2.2.1 i.2.2.2.2), rowE (.slice i.2.1 (jB 4).length i.2.2.2.1) 5 dO (jB 4), rowE (.slice i.2.2.1 (k5 4 0 4).length i.2.2.2.2) 5 dO (k5 4 0 4)]) (ok := fun _ => True) rfl Tryz.call33 (fun w hw => qx 4 0 true w (by omega) (by omega)) rfl (fun ib3 _ => ?_)
 obtain ⟨VB3, p3, q3, c3, d3⟩ := ib3
 change Tr _ _ (rowE (VB3) 49 cR (jR 4 0 true p3 q3 c3 d3) :: rowE (.slice p3 (jB 4).length c3) 5 dO (jB 4) :: rowE (.slice q3 (k5 4 0 4).length d3) 5 dO (k5 4 0 4) :: _) _ _
 refine dw (V := VB3) (.head _) (fun pb3 cb3 hpv => ?_)
 subst hpv
 refine cg ?_
 refine dx [3] (fun iq hq => ?_)
 obtain rfl := List.mem_singleton.1 hq
 refine bJ rfl ?_
 refine gX (E := ar) (l := ([] : List UInt32)) (T := 23) (fun V => .tuple #[V, .int .i64 19]) rfl ns (fun w hw => by have q := lN (jR 4 0 true p3 q3 c3 d3) _ _ EE Ge w (hw.row (by repeat constructor)) (qy (by omega)) (nY (hw.row (by repeat constructor)) (hw.row (by repeat constructor))) nX BI; rw [show Ge.get EE.a = exX from rfl, Gh] at q; exact q) rfl (fun T2 => ?_)
 refine cg ?_
 refine zz4 4 rfl (aa rfl) ?_
 refine zz4 5 rfl (aO rfl rfl) ?_
 refine zz4 6 rfl (aO rfl rfl) ?_
 refine zz4 7 rfl (ab rfl) ?_
 refine zz4 8 rfl (ab rfl) ?_
 refine iT ?_
 refine ac (af (zz0 (aA rfl iL (fun w hw => jz 4112 w)) ?_))
 refine zz0 (zz2 (off := 0) (ft := 26) rfl cn rfl dj) ?_
 refine zz0 (dI rfl rfl co ak (by omega)) ?_
 refine f7 rfl rfl ak (by repeat constructor) (kU (s := Ge) (k := (2 : Int)) ⟨by omega, by omega⟩ (by simp) (g5 4112)) (by rfl) (kW (k := (2 : Int)) ⟨by omega, by omega⟩ (by simp)) (by first | exact Enc.one bU _ | exact List.all_eq_true.1 rfl) rfl ?_
 refine aI (zz0 (aa rfl) (zz0 (bO (vs := [(2, _), (6, _)]) rfl rfl (jK _ _)) ?_))
 refine zz0 (bI rfl bX aV) ?_
 refine gX (E := ar) (l := ([4112] : List UInt32)) (T := 23) (fun V => .tuple #[V, .int .i64 0]) rfl ns (fun w hw => by have q := lN (jR 4 0 false p2 q2 c2 d2) _ _ ED H6 w (hw.row (by repeat constructor)) (qy (by omega)) (nY (hw.row (by repeat constructor)) (hw.row (by repeat constructor))) nX BH; rw [show H6.get ED.a = g5 4112 from rfl, Gg] at q; exact q) rfl (fun T3 => ?_)
 refine zz0 (aa rfl) (zz0 (aO rfl rfl) (zz0 (aO rfl rfl) (zz0 (ab rfl) (zz0 (ab rfl) (aI (zz0 (aA rfl f5 (fun w hw => jY w)) ?_))))))
 refine zz0 (zz2 (off := 0) (ft := 26) rfl cn rfl dj) ?_
 refine zz0 (dI rfl rfl co ak (by omega)) ?_
 refine f7 rfl rfl ak (by repeat constructor) (kU (s := H6) (k := (2 : Int)) ⟨by omega, by omega⟩ (by simp) (oz)) (by rfl) (kW (k := (2 : Int)) ⟨by omega, by omega⟩ (by simp)) (by first | exact Enc.one bU _ | exact List.all_eq_true.1 rfl) rfl ?_
 refine aI (zz0 (aa rfl) (zz0 (bO (vs := [(2, _), (6, _)]) rfl rfl (jK _ _)) ?_))
 refine zz0 (bI rfl bX aV) ?_
 refine gX (E := ar) (l := ([] : List UInt32)) (T := 23) (fun V => .tuple #[V, .int .i64 19]) rfl ns (fun w hw => by have q := lN (jR 4 0 false p2 q2 c2 d2) _ _ ED Ih w (hw.row (by repeat constructor)) (qy (by omega)) (nY (hw.row (by repeat constructor)) (hw.row (by repeat constructor))) nX BH; rw [show Ih.get ED.a = oz from rfl, Gf] at q; exact q) rfl (fun T4 => ?_)
 refine zz0 (aa rfl) (zz0 (aO rfl rfl) (zz0 (aO rfl rfl) (zz0 (ab rfl) (zz0 (ab rfl) (aI (zz0 (aa rfl) (zz0 (bD rfl rfl) (zz0 (aa rfl) (zz5 rfl (aa rfl) ?_)))))))))
 refine uV rfl rfl rfl ?_
 refine js (E := ar) (4103 : UInt32) rfl rfl ah ae cU (fun V4 => ?_)
 refine zz5 rfl (aA rfl pN (fun w hw => pC [4103] [4103] _ _ w (hw.row (by repeat constructor)) (hw.row (by repeat constructor)))) ?_
 refine zz0 (jq rfl rfl rfl) ?_
 refine zz0 (aa rfl) (zz5 rfl (aa rfl) ?_)
 refine zz5 rfl (lI rfl dz) ?_
 refine zz5 rfl (bD rfl rfl) ?_
 refine zz0 (jq rfl rfl rfl) ?_
 refine zz0 (aa rfl) (zz5 rfl (aa rfl) ?_)
 refine zz5 rfl (u4 (E := dE (α := UInt32)) (l := [⟨[4109, 4110, 4111], pr, cr⟩]) (i := 0) rfl rfl (by repeat constructor) dz cM (by rfl) (by simp)) ?_
 refine zz5 rfl (B2 (E := dE (α := UInt32)) (l := [⟨[4109, 4110, 4111], pr, cr⟩]) (i := 0) rfl (by repeat constructor) dM (by simp) (by rfl)) ?_
 refine uV rfl rfl rfl ?_
 refine ru (E := ar) ([4109, 4110, 4111] : List UInt32) (vs := [(0, _), (1, _), (2, _)]) rfl rfl ah ae cU (by rfl) (by rfl) rfl (by first | kernel_rfl | rfl) rfl (fun V5 => ?_)
 refine zz5 rfl (aA rfl pN (fun w hw => pC [4109, 4110, 4111] [4109, 4110, 4111] _ _ w (hw.row (by repeat constructor)) (hw.row (by repeat constructor)))) ?_
 refine zz0 (jq rfl rfl rfl) ?_
 refine zz0 (aa rfl) (zz5 rfl (zz2 (off := 0) (ft := 50) rfl cF rfl du) ?_)
 refine zz5 rfl (aJ rfl dH) ?_
 refine zz5 rfl (lI rfl aM) ?_
 refine zz5 rfl (bD rfl rfl) ?_
 refine zz0 (jq rfl rfl rfl) ?_
 refine zz0 (aa rfl) (zz5 rfl (zz2 (off := 2) (ft := 31) rfl cF rfl cM) ?_)
 refine zz5 rfl (aJ rfl dM) ?_
 refine zz5 rfl (lI rfl ah) ?_
 refine zz5 rfl (bD rfl rfl) ?_
 refine zz0 (jq rfl rfl rfl) ?_
 refine zz0 (aa rfl) (zz5 rfl (aa rfl) ?_)
 refine zz5 rfl (bD rfl rfl) ?_
 refine zz0 (jq rfl rfl rfl) ?_
 refine zz0 (aa rfl) (zz5 rfl (aa rfl) ?_)
 refine uV rfl rfl rfl ?_
 refine ru (E := ar) ([4110, 4110, 4110, 4112] : List UInt32) (vs := [(0, _), (1, _), (2, _), (3, _)]) rfl rfl ah ae cU (by rfl) (by rfl) rfl (by first | kernel_rfl | rfl) rfl (fun V6 => ?_)
 refine zz5 rfl (aA rfl pN (fun w hw => pC [4110, 4110, 4110, 4112] [4110, 4110, 4110, 4112] _ _ w (hw.row (by repeat constructor)) (hw.row (by repeat constructor)))) ?_
 refine zz0 (jq rfl rfl rfl) ?_
 refine zz0 (aa rfl) (zz5 rfl (aa rfl) ?_)
 refine zz5 rfl (bD rfl rfl) ?_
 refine zz0 (jq rfl rfl rfl) ?_
 refine zz0 (aa rfl) (zz5 rfl (aa rfl) ?_)
 refine zz5 rfl (bD rfl rfl) ?_
 refine zz0 (jq rfl rfl rfl) ?_
 refine zz0 (aa rfl) (zz5 rfl (aa rfl) ?_)
 refine uV rfl rfl rfl ?_
 refine js (E := ar) (4112 : UInt32) rfl rfl ah ae cU (fun V7 => ?_)
 refine zz5 rfl (aA rfl pN (fun w hw => pC [4112] [4112] _ _ w (hw.row (by repeat constructor)) (hw.row (by repeat constructor)))) ?_
 refine zz0 (jq rfl rfl rfl) ?_
 refine zz0 (aa rfl) (zz5 rfl (aa rfl) ?_)
 refine zz5 rfl (bD rfl rfl) ?_
 refine zz0 (jq rfl rfl rfl) ?_
 refine zz0 (aa rfl) (zz5 rfl (aa rfl) ?_)
 refine zz5 rfl (aA rfl Tryz.call23 (fun w hw => qn (jR 4 0 false p2 q2 c2 d2) _ _ 12288 4 w (hw.row (by repeat constructor)) (qy (by omega)) (nY (hw.row (by repeat constructor)) (hw.row (by repeat constructor))) nX)) ?_
 rw [Gk]
 refine zz0 (jq rfl rfl rfl) ?_
 refine zz0 (aa rfl) (zz5 rfl (aa rfl) ?_)
 refine zz5 rfl (aA rfl Tryz.call23 (fun w hw => qn (jR 4 0 false p2 q2 c2 d2) _ _ 12288 5 w (hw.row (by repeat constructor)) (qy (by omega)) (nY (hw.row (by repeat constructor)) (hw.row (by repeat constructor))) nX)) ?_
 rw [Gj]
 refine zz5 rfl (cN rfl) ?_
 refine zz0 (jq rfl rfl rfl) ?_
 refine zz0 (ab rfl) (ad (az ?_))
 refine aT Tryz.results11 rfl (fun w' hw => ?_)
 exact ⟨rfl, hw.below0 (Bg.le.refl _)⟩
end Go.Proofs.YtiajjbhcpeadfaaGreat
namespace Go.Proofs.YtiajjbhcpeadfaaGreat
open Go Go.HL Go.RowKit
theorem lP (s : SecV) (w : World) (hs : s.data.length ≤ 200000) :
  Calls Tryz.prog 119 #[.agg (cR.enc s).toArray] w (fun e w' => e = .returned (.int .i64 (lr s)) ∧ Ext w w') := by
 have hadr := s.addr.toNat_lt
 refine enter Tryz.func119 rfl Tryz.ntmps119 rfl ?_
 refine af ?_
 refine dJ rfl rfl (fun b1 => ?_)
 refine zz0 (ab rfl) (aI (zz0 (zz2 (off := 1) (ft := 23) rfl bL rfl ae) ?_))
 refine zz0 (aJ rfl am) ?_
 refine zz0 (fX rfl aL aY) (zz0 (zz2 (off := 2) (ft := 47) rfl bL rfl fk) ?_)
 refine zz0 (aJ rfl fO) ?_
 refine zz0 (im rfl aZ) ?_
 refine zz0 (cp rfl rfl) ?_
 refine zz0 (ab rfl) (ad (al (af (zz0 (aa rfl) (zz0 (eo rfl rfl) (ad ?_))))))
 refine an rfl ?_ ?_ <;> intro h2 <;> try simp only [bs] at h2
 ·refine af (zz0 (ab rfl) (ad (az (ay ?_))))
  refine aT Tryz.results119 rfl (fun w' hw => ?_)
  exact ⟨by unfold lr; rw [Int.min_eq_right (by omega)], hw.b0⟩
 ·refine dh (zz0 (aa rfl) (zz0 (ab rfl) (ad (az ?_))))
  refine aT Tryz.results119 rfl (fun w' hw => ?_)
  exact ⟨by unfold lr; rw [Int.min_eq_left (by omega)], hw.b0⟩
theorem yH (s : ByteArray) (w : World) (hs : s.size ≤ 9223372036854775807) :
  Calls Tryz.prog 171 #[.string s] w (fun e w' => e = .returned (.bool (um s)) ∧ Ext w w') := by
 have hbl := rp s
 refine enter Tryz.func171 rfl Tryz.ntmps171 rfl ?_
 refine af (zz0 (ab rfl) (ad (al (af (zz0 (ab rfl) (ad (aD ?_)))))))
 refine bK (ι := Nat) (fun k => k ≤ s.size ∧ ((bts s).take k).any pU = false) (fun _ => _) (fun k => []) (fun k => [(3, .int .i64 (k : Nat))]) (fun k => s.size - k) 0 ⟨Nat.zero_le _, rfl⟩ (Front.c Front.nil) (by repeat' constructor) rfl (fun k hi m hm => ?_)
 replace hi : k ≤ s.size ∧ ((bts s).take k).any pU = false := hi
 replace hm : m = s.size - k := hm
 change Tr _ _ [] ([(3, .int .i64 (k : Nat))] ++ _) _
 obtain ⟨hk1, hk2⟩ := hi
 refine al (af (zz0 (aa rfl) (zz0 (aa rfl) (zz0 (nz rfl eZ) ?_))))
 refine zz0 (bP rfl rfl) (ad ?_)
 refine an rfl ?_ ?_ <;> intro h1 <;> try simp only [bs] at h1
 ·refine bA (al (aD (af (zz0 (aa rfl) (zz0 (aa rfl) (zz0 (pQ rfl rfl eZ (by omega)) ?_))))))
  refine zz0 (ab rfl) (aI (zz0 (aa rfl) (zz0 (tI (n := 97) rfl rfl) ?_)))
  refine zz0 (aa rfl) ?_
  apply cm
  ·exact (rfl : _ = (3, 17, 20))
  ·exact rfl
  ·intro hT2; have hT2' := hT2
   try simp only [bs] at hT2'
   refine zz5 hT2 (aa rfl) (zz5 hT2 (ye (n := 122) rfl rfl) ?_)
   refine zz0 (aQ rfl hT2 rfl) ?_
   refine aB (ac ?_)
   exact aH (Sub.cons rfl (zz9 3 rfl))
  ·intro hF2
   refine zz8 hF2 (zz8 hF2 (zz0 (aR rfl hF2 rfl) ?_))
   refine aB (ac ?_)
   exact aH (Sub.cons rfl (zz9 3 rfl))
  refine zz0 (aa rfl) ?_
  apply dB
  ·exact (rfl : _ = (7, 21, 28))
  ·exact rfl
  ·intro hF3; have hF3' := hF3
   try simp only [bs] at hF3'
   refine zz5 hF3 (aa rfl) (zz5 hF3 (tI (n := 65) rfl rfl) ?_)
   refine zz5 hF3 (aa rfl) ?_
   apply cm
   ·exact (rfl : _ = (3, 24, 27))
   ·exact rfl
   ·intro hT4; have hT4' := hT4
    try simp only [bs] at hT4'
    refine zz5 hT4 (aa rfl) (zz5 hT4 (ye (n := 90) rfl rfl) ?_)
    refine zz5 hF3 (aQ rfl hT4 rfl) ?_
    refine aB (ac ?_)
    exact aH (Sub.cons rfl (zz9 3 rfl))
   ·intro hF4
    refine zz8 hF4 (zz8 hF4 (zz5 hF3 (aR rfl hF4 rfl) ?_))
    refine aB (ac ?_)
    exact aH (Sub.cons rfl (zz9 3 rfl))
   refine zz0 (aR rfl hF3 rfl) ?_
   refine aB (ac ?_)
   exact aH (Sub.cons rfl (zz9 5 rfl))
  ·intro hT3
   refine zz8 hT3 (zz8 hT3 (zz8 hT3 (gi ?_)))
   refine gi ?_
   refine zz8 hT3 (zz0 (aQ rfl hT3 rfl) ?_)
   refine aB (ac ?_)
   exact aH (Sub.cons rfl (zz9 7 rfl))
  refine zz0 (ab rfl) (aI (zz0 (aa rfl) (zz0 (cN rfl) (zz0 (aa rfl) ?_))))
  apply cm
  ·exact (rfl : _ = (7, 31, 38))
  ·exact rfl
  ·intro hT5; have hT5' := hT5
   try simp only [bs] at hT5'
   refine zz5 hT5 (aa rfl) (zz5 hT5 (pR (n := 48) rfl rfl) ?_)
   refine zz5 hT5 (aa rfl) ?_
   apply dB
   ·exact (rfl : _ = (3, 34, 37))
   ·exact rfl
   ·intro hF6; have hF6' := hF6
    try simp only [bs] at hF6'
    refine zz5 hF6 (aa rfl) (zz5 hF6 (tH (n := 57) rfl rfl) ?_)
    refine zz5 hT5 (aR rfl hF6 rfl) ?_
    refine aB (ac ?_)
    exact aH (Sub.cons rfl (zz9 3 rfl))
   ·intro hT6
    refine zz8 hT6 (zz8 hT6 (zz5 hT5 (aQ rfl hT6 rfl) ?_))
    refine aB (ac ?_)
    exact aH (Sub.cons rfl (zz9 3 rfl))
   refine zz0 (aQ rfl hT5 rfl) ?_
   refine aB (ac ?_)
   exact aH (Sub.cons rfl (zz9 5 rfl))
  ·intro hF5
   refine zz8 hF5 (zz8 hF5 (zz8 hF5 (gi ?_)))
   refine gi ?_
   refine zz8 hF5 (zz0 (aR rfl hF5 rfl) ?_)
   refine aB (ac ?_)
   exact aH (Sub.cons rfl (zz9 7 rfl))
  refine zz0 (aa rfl) ?_
  apply cm
  ·exact (rfl : _ = (3, 39, 42))
  ·exact rfl
  ·intro hT7; have hT7' := hT7
   try simp only [bs] at hT7'
   refine zz5 hT7 (aa rfl) (zz5 hT7 (rB (n := 95) rfl rfl) ?_)
   refine zz0 (aQ rfl hT7 rfl) ?_
   refine aB (ac ?_)
   exact aH (Sub.cons rfl (zz9 3 rfl))
  ·intro hF7
   refine zz8 hF7 (zz8 hF7 (zz0 (aR rfl hF7 rfl) ?_))
   refine aB (ac ?_)
   exact aH (Sub.cons rfl (zz9 3 rfl))
  refine zz0 (aa rfl) ?_
  apply cm
  ·exact (rfl : _ = (3, 43, 46))
  ·exact rfl
  ·intro hT8; have hT8' := hT8
   try simp only [bs] at hT8'
   refine zz5 hT8 (aa rfl) (zz5 hT8 (rB (n := 46) rfl rfl) ?_)
   refine zz0 (aQ rfl hT8 rfl) ?_
   refine aB (ac ?_)
   exact aH (Sub.cons rfl (zz9 3 rfl))
  ·intro hF8
   refine zz8 hF8 (zz8 hF8 (zz0 (aR rfl hF8 rfl) ?_))
   refine aB (ac ?_)
   exact aH (Sub.cons rfl (zz9 3 rfl))
  refine ad ?_
  refine an rfl ?_ ?_ <;> intro h9 <;> try simp only [bs] at h9
  ·refine af (zz0 (ab rfl) (ad (az (bh (ay (ay (bh (ay ?_))))))))
   refine aT Tryz.results171 rfl (fun w' hw => ?_)
   have hbad : pU ((bts s).getD k default) = true := by rw [DX]; simp only [bs]; assumption
   exact ⟨by rw [vR (by omega) hbad], hw.b0⟩
  ·refine cd (aX (ac (ao (zz0 (aa rfl) (zz0 (cp rfl rfl) ?_)))))
   refine zz0 (ab rfl) (ad ?_)
   have hbad : pU ((bts s).getD k default) = false := by rw [DX]; simp only [bs]; assumption
   refine cC (k + 1) (Front.c Front.nil) (bB 27 rfl) (o := ⟨by omega, by rw [any_take_succ (by omega), hk2, hbad]; rfl⟩)
 ·refine bF (aG (aG (bj (ac (af (zz0 (aa rfl) (zz0 (nz rfl eZ) ?_)))))))
  refine zz0 (eo rfl rfl) (zz0 (aa rfl) ?_)
  apply cm
  ·exact (rfl : _ = (4, 50, 54))
  ·exact rfl
  ·intro hT10; have hT10' := hT10
   try simp only [bs] at hT10'
   refine zz5 hT10 (aa rfl) (zz5 hT10 (nz rfl eZ) ?_)
   refine zz5 hT10 (fV rfl rfl) (zz0 (aQ rfl hT10 rfl) ?_)
   refine aB (ac ?_)
   exact aH (Sub.cons rfl (zz9 4 rfl))
  ·intro hF10
   refine zz8 hF10 (zz8 hF10 (zz8 hF10 (zz0 (aR rfl hF10 rfl) ?_)))
   refine aB (ac ?_)
   exact aH (Sub.cons rfl (zz9 4 rfl))
  refine zz0 (ab rfl) (ad (az ?_))
  refine aT Tryz.results171 rfl (fun w' hw => ?_)
  exact ⟨by rw [vQ (by omega) hk2]; congr 2, hw.b0⟩
theorem oO (l : List SecV) (V : Value) (a : UInt32) (w : World) (hV : Sl (hp w) cR l V) (hB : SecB l) :
  Calls Tryz.prog 126 #[V, .int .u32 a.toNat] w (fun e w' => e = .returned (.int .i64 (cO l a)) ∧ Ext w w') := by
 have hV' : Sl (Bg.of w).blk cR l V := hV
 have hlen := hB.1
 refine enter Tryz.func126 rfl Tryz.ntmps126 rfl ?_
 refine af (zz0 (ab rfl) (ad (al (af (zz0 (ab rfl) (ad (aD ?_)))))))
 refine bK (ι := Nat) (fun k => k ≤ l.length ∧ dW (inS a) k (l.drop k) = dW (inS a) 0 l) (fun _ => _) (fun k => []) (fun k => [(5, .int .i64 (k : Nat))]) (fun k => l.length - k) 0 ⟨Nat.zero_le _, rfl⟩ (Front.c Front.nil) (by repeat' constructor) rfl (fun k hi m hm => ?_)
 replace hi : k ≤ l.length ∧ dW (inS a) k (l.drop k) = dW (inS a) 0 l := hi
 replace hm : m = l.length - k := hm
 change Tr _ _ [] ([(5, .int .i64 (k : Nat))] ++ _) _
 obtain ⟨hk1, hk2⟩ := hi
 refine al (af (zz0 (aa rfl) (zz0 (aa rfl) (zz0 (gx rfl bE) ?_))))
 refine zz0 (bP rfl rfl) (ad ?_)
 refine an rfl ?_ ?_ <;> intro h1 <;> try simp only [bs] at h1
 ·refine bA (al (aD (af (zz0 (aa rfl) (zz0 (aa rfl) (zz0 (gK rfl rfl bE bT) ?_))))))
  refine zz0 (zz2 (off := 1) (ft := 23) rfl bL rfl ae) ?_
  refine zz0 (oy rfl am) ?_
  refine zz0 (aa rfl) (zz0 (rD rfl rfl) ?_)
  refine zz0 (aa rfl) ?_
  apply cm
  ·exact (rfl : _ = (9, 19, 28))
  ·exact rfl
  ·intro hT2; have hT2' := hT2
   try simp only [bs] at hT2'
   refine zz5 hT2 (aa rfl) (zz5 hT2 (fX rfl aL aY) (zz5 hT2 (aa rfl) (zz5 hT2 (aa rfl) (zz5 hT2 (gK rfl rfl bE bT) ?_))))
   refine zz5 hT2 (mE rfl fB bT) ?_
   refine zz5 hT2 (aA rfl l8 (fun w hw => lP (l.getD k default) w (hB.at (by omega)))) ?_
   refine zz5 hT2 (bP rfl rfl) (zz0 (aQ rfl hT2 rfl) ?_)
   refine aB (ac ?_)
   exact aH (Sub.cons rfl (zz9 9 rfl))
  ·intro hF2
   refine zz8 hF2 (zz8 hF2 (zz8 hF2 (zz8 hF2 (zz8 hF2 (zz8 hF2 (zz8 hF2 (zz8 hF2 (zz0 (aR rfl hF2 rfl) ?_))))))))
   refine aB (ac ?_)
   exact aH (Sub.cons rfl (zz9 9 rfl))
  refine ad ?_
  refine an rfl ?_ ?_ <;> intro h3 <;> try simp only [bs] at h3
  ·refine af (zz0 (aa rfl) (zz0 (ab rfl) (ad (az (bh (ay (ay (bh (ay ?_)))))))))
   refine aT Tryz.results126 rfl (fun w' hw => ?_)
   exact ⟨by unfold cO; rw [← hk2, drop_cons (k := k) (by omega), dW, if_pos (by rw [nV]; simp only [UInt32.le_iff_toNat_le] at *; omega)], hw.b0⟩
  ·refine cd (aX (ac (ao (zz0 (aa rfl) (zz0 (cp rfl rfl) ?_)))))
   refine zz0 (ab rfl) (ad ?_)
   refine cC (k + 1) (Front.c Front.nil) (bB 17 rfl) (o := ⟨by omega, by rw [← hk2, drop_cons (k := k) (by omega), dW, if_neg (by rw [nV]; simp only [UInt32.le_iff_toNat_le] at *; omega)]⟩)
 ·refine bF (aG (aG (bj (ac (af (zz0 (ab rfl) (ad (az ?_))))))))
  refine aT Tryz.results126 rfl (fun w' hw => ?_)
  exact ⟨by unfold cO; rw [← hk2, List.drop_of_length_le (by omega)]; rfl, hw.b0⟩
theorem vd (l : List SecV) (V : Value) (a : UInt32) (n : Int) (w : World) (hV : Sl (hp w) cR l V) (hB : SecB l) :
  Calls Tryz.prog 172 #[V, .int .u32 a.toNat, .int .i64 n] w (fun e w' => e = .returned (.tuple #[.int .i64 (kt l a n).1, .bool (kt l a n).2]) ∧ Ext w w') := by
 have hV' : Sl (Bg.of w).blk cR l V := hV
 have hlen := hB.1
 have hf := jy (l := l) (a := a)
 have hadr := a.toNat_lt
 refine enter Tryz.func172 rfl Tryz.ntmps172 rfl ?_
 refine af (zz0 (ab rfl) (zz0 (ab rfl) (aI (zz0 (aa rfl) (zz0 (aa rfl) (zz0 (aA rfl Tryz.call126 (fun w hw => oO l V a w (hw.slF hV) hB)) ?_))))))
 refine zz0 (ab rfl) (ad (al (af (zz0 (aa rfl) (zz0 (bP rfl rfl) (ad ?_))))))
 refine an rfl ?_ ?_ <;> intro h1 <;> try simp only [bs] at h1
 ·refine af (zz0 (ab rfl) (zz0 (ab rfl) (ad (az (ay ?_)))))
  refine df Tryz.results172 rfl rfl (fun w' hw => ?_)
  exact ⟨by rw [kt, if_pos (by assumption)], hw.b0⟩
 ·refine bA (al ?_)
  have hen := zn (l.getD (cO l a).toNat default)
  refine ao (zz0 (aa rfl) (zz0 (aa rfl) (zz0 (aa rfl) (zz0 (aa rfl) (zz0 (ll rfl rfl bE bT) ?_)))))
  refine zz0 (mE rfl fB bT) ?_
  refine zz0 (aA rfl l8 (fun w hw => lP (l.getD (cO l a).toNat default) w (hB.at (by omega)))) ?_
  refine zz0 (aa rfl) (zz0 (fX rfl aL aY) (zz0 (dX rfl rfl) ?_))
  refine zz0 (fV rfl rfl) (zz0 (ab rfl) (zz0 (ab rfl) (ad (az ?_))))
  refine df Tryz.results172 rfl rfl (fun w' hw => ?_)
  exact ⟨by rw [kt, if_neg (by assumption)], hw.b0⟩
theorem yG (l : List SecV) (V : Value) (a : UInt32) (n : Int) (w : World) (hV : Sl (hp w) cR l V) (hB : SecB l) (hD : DataIn (hp w) l) (hn : n ≤ 9223372036854775807) :
  Calls Tryz.prog 127 #[V, .int .u32 a.toNat, .int .i64 n] w (fun e w' => ∃ V', e = .returned (.tuple #[V', .int .i64 (fy l a n).2]) ∧ Ext w w' ∧ je w w' 5 dO (fy l a n).1 V') := by
 have hV' : Sl (Bg.of w).blk cR l V := hV
 have hlen := hB.1
 have hadr := a.toNat_lt
 have hf := jy (l := l) (a := a)
 obtain ⟨ik, iy, hin⟩ : ∃ ik iy, kt l a n = (ik, iy) := ⟨_, _, rfl⟩
 have hno := CO (l := l) (a := a) (n := n)
 have hye := Az (l := l) (a := a) (n := n)
 have hplo := vO (l := l) (a := a) (n := n)
 rw [hin] at hno hye
 dsimp only at hno hye
 have di : ∀ w', Sl (hp w') cR l V → Calls Tryz.prog 172 #[V, .int .u32 a.toNat, .int .i64 n] w' (fun e w'' => e = .returned (.tuple #[.int .i64 ik, .bool iy]) ∧ Ext w' w'') := fun w' h => by have q := vd l V a n w' h hB; rw [hin] at q; exact q
 refine enter Tryz.func127 rfl Tryz.ntmps127 rfl ?_
 refine af (zz0 (ab rfl) (zz0 (ab rfl) (ad (al (af (zz0 (aa rfl) (zz0 (bP rfl rfl) (ad ?_))))))))
 refine an rfl ?_ ?_ <;> intro h1 <;> try simp only [bs] at h1
 ·refine af (zz0 (ab rfl) (zz0 (ab rfl) (ad (az (ay ?_)))))
  refine df kB rfl rfl (fun w' hw => ?_)
  exact ⟨_, by rw [fy, if_pos (by assumption)], hw.b0, eW (by rw [fy, if_pos (by assumption)])⟩
 ·refine bA (al (af (zz0 (aa rfl) (zz0 (bD rfl rfl) (ad ?_)))))
  refine an rfl ?_ ?_ <;> intro h2 <;> try simp only [bs] at h2
  ·refine af (zz0 (ab rfl) (zz0 (ab rfl) (ad (az (ay ?_)))))
   refine df kB rfl rfl (fun w' hw => ?_)
   exact ⟨_, by rw [fy, if_neg (by assumption), if_pos (by assumption)], hw.b0, eW (by rw [fy, if_neg (by assumption), if_pos (by assumption)])⟩
  ·refine dh (zz0 (aa rfl) (zz0 (aa rfl) (zz0 (aa rfl) (zz0 (aA rfl Tryz.call172 (fun w hw => di w (hw.slF hV))) ?_))))
   refine zz0 (aa rfl) (zz0 (aO rfl rfl) (zz0 (aO rfl rfl) (zz0 (ab rfl) (zz0 (ab rfl) (ad (al (af (zz0 (aa rfl) (zz0 (cN rfl) (ad ?_))))))))))
   refine an rfl ?_ ?_ <;> intro h3 <;> try simp only [bs] at h3
   ·refine af (zz0 (ab rfl) (zz0 (ab rfl) (ad (az (ay ?_)))))
    refine df kB rfl rfl (fun w' hw => ?_)
    have hno' := hno (by assumption)
    exact ⟨_, by rw [fy, if_neg (by assumption), if_neg (by assumption), hno', if_pos (by decide)], hw.b0, eW (by rw [fy, if_neg (by assumption), if_neg (by assumption), hno', if_pos (by decide)])⟩
   ·refine bA (al ?_)
    obtain ⟨y1, y2, y3⟩ := hye (by simp_all)
    subst y2
    rw [y3] at hplo
    obtain ⟨p1, p2, p3, p4, p5⟩ := hplo rfl
    dsimp only at p1 p2 p3 p4 p5
    have hdl := hB.at (k := (cO l a).toNat) (by omega)
    have hDk : Sl (Bg.of w).blk dO (l.getD (cO l a).toNat default).data (.slice (l.getD (cO l a).toNat default).dp (l.getD (cO l a).toNat default).data.length (l.getD (cO l a).toNat default).dc) := hD _ (cZ (by omega))
    have hadr2 := (l.getD (cO l a).toNat default).addr.toNat_lt
    obtain ⟨off, hoff⟩ : ∃ off : Nat, (off : Int) = (a.toNat : Int) - (l.getD (cO l a).toNat default).addr.toNat := ⟨((a.toNat : Int) - (l.getD (cO l a).toNat default).addr.toNat).toNat, by omega⟩
    refine ao (zz0 (ab rfl) (ad (al (af (zz0 (ab rfl) (ad (aD (cj 5 dO ?_))))))))
    refine bK (ι := Nat × Value) (fun ⟨k, V'⟩ => (k : Int) ≤ n) (fun _ => _) (fun ⟨k, V'⟩ => [rowE V' 5 dO (((l.getD (cO l a).toNat default).data.drop off).take k)]) (fun ⟨k, V'⟩ => [(11, .int .i64 (k : Nat)), (10, V')]) (fun ⟨k, V'⟩ => n.toNat - k) (0, _) (by show ((0 : Nat) : Int) ≤ n; omega) (Front.c (Front.c Front.nil)) (by repeat' constructor) rfl (fun i hi m hm => ?_)
    obtain ⟨k, V'⟩ := i
    replace hi : (k : Int) ≤ n := hi
    replace hm : m = n.toNat - k := hm
    change Tr _ _ [rowE V' 5 dO (((l.getD (cO l a).toNat default).data.drop off).take k)] ([(11, .int .i64 (k : Nat)), (10, V')] ++ _) _
    refine al (af (zz0 (aa rfl) (zz0 (aa rfl) (zz0 (bP rfl rfl) (ad ?_)))))
    refine an rfl ?_ ?_ <;> intro h4 <;> try simp only [bs] at h4
    ·refine bA (al (aD (fG 1 19 aS ?_)))
     refine dZ rfl ?_
     refine bG ?_
     refine aw (aa rfl) (aw (aa rfl) (aw (ll rfl rfl bE bT) ?_))
     refine aw (zz2 (off := 2) (ft := 47) rfl bL rfl fk) ?_
     refine aw (oy rfl fO) ?_
     refine aw (aa rfl) (aw (fX rfl aL aY) (aw (aa rfl) (aw (aa rfl) (aw (ll rfl rfl bE bT) ?_))))
     refine aw (zz2 (off := 1) (ft := 23) rfl bL rfl ae) ?_
     refine aw (oy rfl am) ?_
     refine aw (fX rfl aL aY) (aw (dX rfl rfl) ?_)
     refine aw (aa rfl) (aw (cp rfl rfl) ?_)
     refine aw (ll rfl rfl aZ dl) ?_
     refine aw (jx rfl fm) ?_
     refine bH ?_
     refine js (E := dO) _ rfl rfl aZ dl jC (fun V5 => ?_)
     refine zz1 rfl rfl aZ nC (fun V6 => ?_)
     refine zz0 (ab rfl) (aB (aX (ac (ao (zz0 (aa rfl) (zz0 (cp rfl rfl) ?_))))))
     refine zz0 (ab rfl) (ad ?_)
     have hst := dn (l := (l.getD (cO l a).toNat default).data.drop off) (k := k) (by rw [List.length_drop]; omega)
     have hgd : ((l.getD (cO l a).toNat default).data.drop off).getD k default = (l.getD (cO l a).toNat default).data.getD ((a.toNat : Int) - (l.getD (cO l a).toNat default).addr.toNat + k).toNat default := by rw [show ((a.toNat : Int) - (l.getD (cO l a).toNat default).addr.toNat + k).toNat = off + k by omega]; simp [List.getD_eq_getElem?_getD]
     rw [hgd] at hst
     rw [← hst]
     refine cC (k + 1, _) (Front.c (Front.c Front.nil)) (bB 30 rfl) (o := (by show ((k + 1 : Nat) : Int) ≤ n; omega))
    ·refine bF (aG (aG (bj (ac (af (zz0 (aa rfl) (zz0 (ab rfl) (zz0 (ab rfl) (ad (az ?_))))))))))
     refine df kB rfl rfl (fun w' hw => ?_)
     have hrd : fy l a n = (((l.getD (cO l a).toNat default).data.drop off).take k, 0) := by rw [fy, if_neg (by assumption), if_neg (by assumption), y3, if_neg (by simp)]; dsimp only; rw [List.drop_take, show ((a.toNat : Int) - (l.getD (cO l a).toNat default).addr.toNat).toNat = off by omega, show ((a.toNat : Int) - (l.getD (cO l a).toNat default).addr.toNat + n).toNat - off = k by omega]
     exact ⟨_, by rw [hrd], hw.b0, by rw [hrd]; exact hw.new (.head _)⟩
theorem An (l : List SecV) (V : Value) (i : Nat) (w : World) (hV : Sl (hp w) cR l V) (hB : SecB l) (hi : i < l.length) (hN : (l.getD i default).name.size ≤ 9223372036854775807) :
  Calls Tryz.prog 118 #[V, .int .i64 (i : Nat)] w (fun e w' => e = .returned (.int .i64 (jN l i)) ∧ Ext w w') := by
 have hV' : Sl (Bg.of w).blk cR l V := hV
 have hlen := hB.1
 obtain ⟨s, hs⟩ : ∃ s, s = l.getD i default := ⟨_, rfl⟩
 have hsd : s.data.length ≤ 200000 := by rw [hs]; exact hB.at hi
 have hadr := s.addr.toNat_lt
 have hst := Cg s
 refine enter Tryz.func118 rfl Tryz.ntmps118 rfl ?_
 refine af (zz0 (ab rfl) (aI (zz0 (aa rfl) (zz0 (aa rfl) (zz0 (gK rfl rfl bE bT) ?_)))))
 refine zz0 (mE rfl fB bT) ?_
 refine dD j4 rfl (fun b1 => ?_)
 refine aF cR rfl rfl bT ?_
 refine ad (al (al ?_))
 rw [← hs]
 refine ao (zz0 (zz2 (off := 2) (ft := 47) rfl bL rfl fk) ?_)
 refine zz0 (aJ rfl fO) ?_
 refine zz0 (im rfl aZ) ?_
 refine zz0 (eo rfl rfl) (ad ?_)
 refine an rfl ?_ ?_ <;> intro h2 <;> try simp only [bs] at h2
 ·refine af (zz0 (ab rfl) (ad (az (ay ?_))))
  refine aT iK rfl (fun w' hw => ?_)
  exact ⟨by unfold jN; dsimp only; rw [← hs, if_pos (by assumption)], hw.b0⟩
 ·refine bA (al (af (zz0 (zz2 (off := 0) (ft := 9) rfl bL rfl kf) ?_)))
  refine zz0 (aJ rfl lG) ?_
  refine zz0 (aA rfl Tryz.call171 (fun w hw => yH s.name w (by rw [hs]; exact hN))) ?_
  refine zz0 (cN rfl) (ad ?_)
  refine an rfl ?_ ?_ <;> intro h3 <;> try simp only [bs] at h3
  ·refine af (zz0 (ab rfl) (ad (az (ay ?_))))
   refine aT iK rfl (fun w' hw => ?_)
   exact ⟨by unfold jN; dsimp only; rw [← hs, if_neg (by assumption), if_pos (by assumption)], hw.b0⟩
  ·refine bA (al (af (zz0 (ab rfl) (ad (aD ?_)))))
   refine bK (ι := Nat) (fun k => k ≤ i ∧ (l.take k).any (fun x => decide (x.name = s.name)) = false) (fun _ => _) (fun k => [cellE b1 (cR.enc s) 49]) (fun k => [(6, .int .i64 (k : Nat))]) (fun k => i - k) 0 ⟨Nat.zero_le _, rfl⟩ (Front.c Front.nil) (by repeat' constructor) rfl (fun k hi m hm => ?_)
   replace hi : k ≤ i ∧ (l.take k).any (fun x => decide (x.name = s.name)) = false := hi
   replace hm : m = i - k := hm
   change Tr _ _ [cellE b1 (cR.enc s) 49] ([(6, .int .i64 (k : Nat))] ++ _) _
   obtain ⟨hk1, hk2⟩ := hi
   refine al (af (zz0 (aa rfl) (zz0 (aa rfl) (zz0 (bP rfl rfl) (ad ?_)))))
   refine an rfl ?_ ?_ <;> intro h4 <;> try simp only [bs] at h4
   ·refine bA (al (aD (al (gQ aS ?_))))
    refine aw (aa rfl) (aw (aa rfl) (aw (gK rfl rfl bE bT) ?_))
    refine aw (zz2 (off := 0) (ft := 9) rfl bL rfl kf) ?_
    refine aw (oy rfl lG) ?_
    refine aw (zz2 (off := 0) (ft := 9) rfl bL rfl kf) ?_
    refine aw (aJ rfl lG) ?_
    refine aw (uY rfl rfl) ?_
    refine bH ?_
    refine ac ?_
    refine an rfl ?_ ?_ <;> intro h5 <;> try simp only [bs] at h5
    ·refine af (zz0 (ab rfl) (ad (az (bh (ay (ay (bh (ay ?_))))))))
     refine aT iK rfl (fun w' hw => ?_)
     have hany : (l.take i).any (fun x => decide (x.name = s.name)) = true := List.any_eq_true.2 ⟨l.getD k default, by rw [List.mem_take_iff_getElem]; exact ⟨k, by omega, by simp [List.getD_eq_getElem?_getD, show k < l.length by omega]⟩, decide_eq_true (by assumption)⟩
     exact ⟨by unfold jN; dsimp only; rw [← hs, if_neg (by assumption), if_neg (by simp_all), if_pos hany], hw.b0⟩
    ·refine cd (aX (ac (ao (zz0 (aa rfl) (zz0 (cp rfl rfl) ?_)))))
     refine zz0 (ab rfl) (ad ?_)
     refine cC (k + 1) (Front.c Front.nil) (bB 15 rfl) (o := ⟨by omega, by rw [any_take_succ (by omega), hk2, Bool.false_or]; exact decide_eq_false (by assumption)⟩)
   ·refine bF (aG (aG (bj (ac (al (af (zz0 (zz2 (off := 1) (ft := 23) rfl bL rfl ae) ?_)))))))
    refine zz0 (aJ rfl am) ?_
    refine zz0 (fX rfl aL aY) (zz0 (zz2 (off := 2) (ft := 47) rfl bL rfl fk) ?_)
    refine zz0 (aJ rfl fO) ?_
    refine zz0 (im rfl aZ) ?_
    refine zz0 (cp rfl rfl) ?_
    refine zz0 (eo rfl rfl) (ad ?_)
    refine an rfl ?_ ?_ <;> intro h6 <;> try simp only [bs] at h6
    ·refine af (zz0 (ab rfl) (ad (az (ay ?_))))
     refine aT iK rfl (fun w' hw => ?_)
     have hany : ¬ (l.take i).any (fun x => decide (x.name = s.name)) = true := by obtain rfl : k = i := (by omega); rw [hk2]; decide
     exact ⟨by unfold jN; dsimp only; rw [← hs, if_neg (by assumption), if_neg (by simp_all), if_neg hany, if_pos (.inl (by assumption))], hw.b0⟩
    ·refine bA (al (af (zz0 (zz2 (off := 2) (ft := 47) rfl bL rfl fk) ?_)))
     refine zz0 (aJ rfl fO) ?_
     refine zz0 (im rfl aZ) ?_
     refine zz0 (eo rfl rfl) (zz0 (aa rfl) ?_)
     apply cm
     ·exact (rfl : _ = (5, 44, 49))
     ·exact rfl
     ·intro hT7; have hT7' := hT7
      try simp only [bs] at hT7'
      refine zz5 hT7 (zz2 (off := 1) (ft := 23) rfl bL rfl ae) ?_
      refine zz5 hT7 (aJ rfl am) ?_
      refine zz5 hT7 (fX rfl aL aY) (zz5 hT7 (bP rfl rfl) (zz0 (aQ rfl hT7 rfl) ?_))
      refine aB (ac ?_)
      exact aH (Sub.cons rfl (zz9 5 rfl))
     ·intro hF7
      refine zz8 hF7 (zz8 hF7 (zz8 hF7 (zz8 hF7 (zz0 (aR rfl hF7 rfl) ?_))))
      refine aB (ac ?_)
      exact aH (Sub.cons rfl (zz9 5 rfl))
     refine zz0 (aa rfl) ?_
     apply cm
     ·exact (rfl : _ = (4, 50, 54))
     ·exact rfl
     ·intro hT8; have hT8' := hT8
      try simp only [bs] at hT8'
      refine zz5 hT8 (bI rfl fB bT) ?_
      refine zz5 hT8 (aA rfl l8 (fun w hw => lP s w hsd)) ?_
      refine zz5 hT8 (eo rfl rfl) (zz0 (aQ rfl hT8 rfl) ?_)
      refine aB (ac ?_)
      exact aH (Sub.cons rfl (zz9 4 rfl))
     ·intro hF8
      refine zz8 hF8 (zz8 hF8 (zz8 hF8 (zz0 (aR rfl hF8 rfl) ?_)))
      refine aB (ac ?_)
      exact aH (Sub.cons rfl (zz9 4 rfl))
     refine ad ?_
     refine an rfl ?_ ?_ <;> intro h9 <;> try simp only [bs] at h9
     ·refine af (zz0 (ab rfl) (ad (az (ay ?_))))
      refine aT iK rfl (fun w' hw => ?_)
      have hany : ¬ (l.take i).any (fun x => decide (x.name = s.name)) = true := by obtain rfl : k = i := (by omega); rw [hk2]; decide
      exact ⟨by unfold jN; dsimp only; rw [← hs, if_neg (by assumption), if_neg (by simp_all), if_neg hany, if_pos (.inr (hst.2 (by omega)))], hw.b0⟩
     ·refine dh (zz0 (ab rfl) (ad (az ?_)))
      refine aT iK rfl (fun w' hw => ?_)
      have hany : ¬ (l.take i).any (fun x => decide (x.name = s.name)) = true := by obtain rfl : k = i := (by omega); rw [hk2]; decide
      exact ⟨by unfold jN; dsimp only; rw [← hs, if_neg (by assumption), if_neg (by simp_all), if_neg hany, if_neg (fun q => q.elim (by assumption) (fun q => by have := hst.1 q; omega))], hw.b0⟩
theorem ve (l : List SecV) (V : Value) (w : World) (hV : Sl (hp w) cR l V) (hB : SecB l) (hN : ∀ s ∈ l, s.name.size ≤ 9223372036854775807) :
  Calls Tryz.prog 61 #[V] w (fun e w' => e = .returned (.int .i64 (gP l)) ∧ Ext w w') := by
 have hV' : Sl (Bg.of w).blk cR l V := hV
 have hlen := hB.1
 refine enter Tryz.func61 rfl Tryz.ntmps61 rfl ?_
 refine af (zz0 (ab rfl) (ad (al (af (zz0 (aa rfl) (zz0 (gx rfl bE) ?_))))))
 refine zz0 (eo rfl rfl) (ad ?_)
 refine an rfl ?_ ?_ <;> intro h1 <;> try simp only [bs] at h1
 ·refine af (zz0 (ab rfl) (ad (az (ay ?_))))
  refine aT lA rfl (fun w' hw => ?_)
  exact ⟨by rw [BR (by assumption)], hw.b0⟩
 ·refine bA (al (af (zz0 (ab rfl) (ad (aD ?_)))))
  refine bK (ι := Nat) (fun k => k ≤ l.length ∧ eQ (jN l) k (l.length - k) = eQ (jN l) 0 l.length) (fun _ => _) (fun k => []) (fun k => [(3, .int .i64 (k : Nat))]) (fun k => l.length - k) 0 ⟨Nat.zero_le _, rfl⟩ (Front.c Front.nil) (by repeat' constructor) rfl (fun k hi m hm => ?_)
  replace hi : k ≤ l.length ∧ eQ (jN l) k (l.length - k) = eQ (jN l) 0 l.length := hi
  replace hm : m = l.length - k := hm
  change Tr _ _ [] ([(3, .int .i64 (k : Nat))] ++ _) _
  obtain ⟨hk1, hk2⟩ := hi
  refine al (af (zz0 (aa rfl) (zz0 (aa rfl) (zz0 (gx rfl bE) ?_))))
  refine zz0 (bP rfl rfl) (ad ?_)
  refine an rfl ?_ ?_ <;> intro h2 <;> try simp only [bs] at h2
  ·refine bA (al (aD (af (zz0 (aa rfl) (zz0 (aa rfl) (zz0 (aA rfl Tryz.call118 (fun w hw => An l V k w (hw.slF hV) hB (by omega) (hN _ (cZ (by omega))))) ?_))))))
   refine zz0 (ab rfl) (aI (zz0 (aa rfl) (zz0 (fU rfl rfl) (ad ?_))))
   refine an rfl ?_ ?_ <;> intro h3 <;> try simp only [bs] at h3
   ·refine af (zz0 (aa rfl) (zz0 (ab rfl) (ad (az (bh (ay (ay (bh (ay ?_)))))))))
    refine aT lA rfl (fun w' hw => ?_)
    exact ⟨by rw [rn (v := jN l k) (by assumption) (by omega) hk2 rfl (by assumption)], hw.b0⟩
   ·refine cd (aX (ac (ao (zz0 (aa rfl) (zz0 (cp rfl rfl) ?_)))))
    refine zz0 (ab rfl) (ad ?_)
    refine cC (k + 1) (Front.c Front.nil) (bB 14 rfl) (o := ⟨by omega, by rw [mo (by omega) (by omega), hk2]⟩)
  ·refine bF (aG (aG (bj (ac (al (af (zz0 (ab rfl) (ad (aD ?_)))))))))
   have hz1 : eQ (jN l) 0 l.length = 0 := by rw [← hk2]; exact mn (by omega)
   clear hk2 hk1 hm
   refine bK (ι := Nat) (fun k => k ≤ l.length ∧ eQ (fun i => if lh l i = true then 10 else 0) k (l.length - k) = eQ (fun i => if lh l i = true then 10 else 0) 0 l.length) (fun _ => _) (fun k => []) (fun k => [(5, .int .i64 (k : Nat))]) (fun k => l.length - k) 0 ⟨Nat.zero_le _, rfl⟩ (Front.c Front.nil) (by repeat' constructor) rfl (fun k hi m hm => ?_)
   replace hi : k ≤ l.length ∧ eQ (fun i => if lh l i = true then 10 else 0) k (l.length - k) = eQ (fun i => if lh l i = true then 10 else 0) 0 l.length := hi
   replace hm : m = l.length - k := hm
   change Tr _ _ [] ([(5, .int .i64 (k : Nat))] ++ _) _
   obtain ⟨hk1, hk2⟩ := hi
   refine al (af (zz0 (aa rfl) (zz0 (aa rfl) (zz0 (gx rfl bE) ?_))))
   refine zz0 (bP rfl rfl) (ad ?_)
   refine an rfl ?_ ?_ <;> intro h4 <;> try simp only [bs] at h4
   ·refine bA (al (aD (af (zz0 (ab rfl) (ad (aD ?_))))))
    refine bK (ι := Nat) (fun j => j ≤ k ∧ (l.take j).any (fun x => ox (fK x) (fK (l.getD k default))) = false) (fun _ => _) (fun j => []) (fun j => [(6, .int .i64 (j : Nat))]) (fun j => k - j) 0 ⟨Nat.zero_le _, rfl⟩ (Front.c Front.nil) (by repeat' constructor) rfl (fun j hi m hm => ?_)
    replace hi : j ≤ k ∧ (l.take j).any (fun x => ox (fK x) (fK (l.getD k default))) = false := hi
    replace hm : m = k - j := hm
    change Tr _ _ [] ([(6, .int .i64 (j : Nat))] ++ _) _
    obtain ⟨hj1, hj2⟩ := hi
    have hmi := Eg (l.getD j default) (l.getD k default)
    refine al (af (zz0 (aa rfl) (zz0 (aa rfl) (zz0 (bP rfl rfl) (ad ?_)))))
    refine an rfl ?_ ?_ <;> intro h5 <;> try simp only [bs] at h5
    ·refine bA (al (aD (al (gQ aS ?_))))
     refine aw (aa rfl) (aw (aa rfl) (aw (gK rfl rfl bE bT) ?_))
     refine aw (zz2 (off := 2) (ft := 47) rfl bL rfl fk) ?_
     refine aw (oy rfl fO) ?_
     refine aw (im rfl aZ) ?_
     refine aw (eo rfl rfl) (aw (aa rfl) ?_)
     apply e8
     ·exact (rfl : _ = (8, 40, 48))
     ·exact rfl
     ·intro hT6; have hT6' := hT6
      try simp only [bs] at hT6'
      refine bS hT6 (aa rfl) (bS hT6 (aa rfl) (bS hT6 (gK rfl rfl bE bT) ?_))
      refine bS hT6 (zz2 (off := 2) (ft := 47) rfl bL rfl fk) ?_
      refine bS hT6 (oy rfl fO) ?_
      refine bS hT6 (im rfl aZ) ?_
      refine bS hT6 (eo rfl rfl) (aw (aQ rfl hT6 rfl) ?_)
      exact cT (Sub.cons rfl (zz9 8 rfl))
     ·intro hF6
      refine bR hF6 (bR hF6 (bR hF6 (bR hF6 (bR hF6 (bR hF6 (bR hF6 (aw (aR rfl hF6 rfl) ?_)))))))
      exact cT (Sub.cons rfl (zz9 8 rfl))
     refine aw (aa rfl) ?_
     apply e8
     ·exact (rfl : _ = (13, 49, 62))
     ·exact rfl
     ·intro hT7; have hT7' := hT7
      try simp only [bs] at hT7'
      refine bS hT7 (aa rfl) (bS hT7 (aa rfl) (bS hT7 (gK rfl rfl bE bT) ?_))
      refine bS hT7 (zz2 (off := 1) (ft := 23) rfl bL rfl ae) ?_
      refine bS hT7 (oy rfl am) ?_
      refine bS hT7 (fX rfl aL aY) (bS hT7 (aa rfl) (bS hT7 (aa rfl) (bS hT7 (gK rfl rfl bE bT) ?_)))
      refine bS hT7 (mE rfl fB bT) ?_
      refine bS hT7 (aA rfl l8 (fun w hw => lP (l.getD j default) w (hB.at (by omega)))) ?_
      refine bS hT7 (bP rfl rfl) (aw (aQ rfl hT7 rfl) ?_)
      exact cT (Sub.cons rfl (zz9 13 rfl))
     ·intro hF7
      refine bR hF7 (bR hF7 (bR hF7 (bR hF7 (bR hF7 (bR hF7 (bR hF7 (bR hF7 (bR hF7 (bR hF7 (bR hF7 (bR hF7 (aw (aR rfl hF7 rfl) ?_))))))))))))
      exact cT (Sub.cons rfl (zz9 13 rfl))
     refine aw (aa rfl) ?_
     apply e8
     ·exact (rfl : _ = (13, 63, 76))
     ·exact rfl
     ·intro hT8; have hT8' := hT8
      try simp only [bs] at hT8'
      refine bS hT8 (aa rfl) (bS hT8 (aa rfl) (bS hT8 (gK rfl rfl bE bT) ?_))
      refine bS hT8 (zz2 (off := 1) (ft := 23) rfl bL rfl ae) ?_
      refine bS hT8 (oy rfl am) ?_
      refine bS hT8 (fX rfl aL aY) (bS hT8 (aa rfl) (bS hT8 (aa rfl) (bS hT8 (gK rfl rfl bE bT) ?_)))
      refine bS hT8 (mE rfl fB bT) ?_
      refine bS hT8 (aA rfl l8 (fun w hw => lP (l.getD k default) w (hB.at (by omega)))) ?_
      refine bS hT8 (bP rfl rfl) (aw (aQ rfl hT8 rfl) ?_)
      exact cT (Sub.cons rfl (zz9 13 rfl))
     ·intro hF8
      refine bR hF8 (bR hF8 (bR hF8 (bR hF8 (bR hF8 (bR hF8 (bR hF8 (bR hF8 (bR hF8 (bR hF8 (bR hF8 (bR hF8 (aw (aR rfl hF8 rfl) ?_))))))))))))
      exact cT (Sub.cons rfl (zz9 13 rfl))
     refine bH ?_
     refine ac ?_
     refine an rfl ?_ ?_ <;> intro h9 <;> try simp only [bs] at h9
     ·refine af (zz0 (ab rfl) (ad (az (bh (ay (ay (bh (bh (ay (ay (bh ?_)))))))))))
      refine ay ?_
      refine aT lA rfl (fun w' hw => ?_)
      have hov : lh l k = true := List.any_eq_true.2 ⟨l.getD j default, by rw [List.mem_take_iff_getElem]; exact ⟨j, by omega, by simp [List.getD_eq_getElem?_getD, show j < l.length by omega]⟩, hmi.2 (by omega)⟩
      exact ⟨by rw [BQ (k := k) (by assumption) hz1 (by omega) hk2 hov], hw.b0⟩
     ·refine cd (aX (ac (ao (zz0 (aa rfl) (zz0 (cp rfl rfl) ?_)))))
      refine zz0 (ab rfl) (ad ?_)
      have hmf : ox (fK (l.getD j default)) (fK (l.getD k default)) = false := by rw [← Bool.not_eq_true, hmi]; omega
      refine cC (j + 1) (Front.c Front.nil) (bB 20 rfl) (o := ⟨by omega, by rw [any_take_succ (by omega), hj2, hmf]; rfl⟩)
    ·refine bF (aG (aG (bj (aX (ac (ao (zz0 (aa rfl) (zz0 (cp rfl rfl) ?_))))))))
     refine zz0 (ab rfl) (ad ?_)
     have hz : lh l k = false := by obtain rfl : j = k := (by omega); exact hj2
     refine cC (k + 1) (Front.c Front.nil) (bB 13 rfl) (o := ⟨by omega, by rw [mo (by omega) (by rw [if_neg (by rw [hz]; decide)]), hk2]⟩)
   ·refine bF (aG (aG (bj (ac (af (zz0 (ab rfl) (ad (az ?_))))))))
    refine aT lA rfl (fun w' hw => ?_)
    exact ⟨by rw [BP (by assumption) hz1 (by rw [← hk2]; exact mn (by omega))], hw.b0⟩
end Go.Proofs.YtiajjbhcpeadfaaGreat
namespace Go.HL
open Go
def lM (l : List SecV) : Nat → Int
 | 0 => 0
 | k + 1 => lM l k + min ((l.getD k default).data.length : Int) 600
theorem vG (l : List SecV) (k : Nat) : ∀ n, lM l k ≤ lM l (k + n)
 | 0 => Int.le_refl _
 | n + 1 => by
  have := vG l k n
  show lM l k ≤ lM l (k + n) + min ((l.getD (k + n) default).data.length : Int) 600
  omega
theorem wR {l : List SecV} {k n : Nat} (h : k ≤ n) : lM l k ≤ lM l n := by
 have := vG l k (n - k)
 rw [show k + (n - k) = n by omega] at this; exact this
def tW (l : List SecV) : Bool := decide ((l.length : Int) < 20) && decide (lM l l.length < 600)
structure Sm16 (l : List SecV) : Prop where
 secB : SecB l
 tot : totD l ≤ 600
theorem yn {l : List SecV} : ∀ {k : Nat}, k ≤ l.length → lM l k < 600 → (totD (l.take k) : Int) = lM l k
 | 0, _, _ => by simp [totD, lM]
 | k + 1, hk, h => by
  have h1 : lM l (k + 1) = lM l k + min ((l.getD k default).data.length : Int) 600 := rfl
  have h2 := wR (l := l) (Nat.zero_le k)
  have h3 : lM l 0 = 0 := rfl
  have ih := yn (l := l) (k := k) (by omega) (by omega)
  have e : totD (l.take (k + 1)) = totD (l.take k) + (l.getD k default).data.length := by
   rw [dn (by omega)]; unfold totD; rw [List.map_append, List.sum_append]; simp
  rw [e]; omega
theorem Bj : ∀ {l : List SecV} {s : SecV}, s ∈ l → s.data.length ≤ totD l
 | x :: l, s, h => by
  have e : totD (x :: l) = x.data.length + totD l := by simp [totD]
  rcases List.mem_cons.1 h with rfl | h
  ·omega
  ·have := Bj h; omega
theorem FG {l : List SecV} (h : tW l = true) : Sm16 l := by
 unfold tW at h
 simp only [Bool.and_eq_true, decide_eq_true_eq] at h
 have ht := yn (l := l) (Nat.le_refl _) h.2
 rw [List.take_length] at ht
 exact ⟨⟨by omega, fun s hs => by have := Bj hs; omega⟩, by omega⟩
theorem vN {l : List SecV} {a : UInt32} (h : (fy l a 4).2 = 0) : 0 ≤ cO l a := by
 rcases Int.lt_or_le (cO l a) 0 with q | q
 ·unfold fy at h
  rw [if_neg (by decide), if_neg (by decide), ua q] at h
  simp at h
 ·exact q
theorem FZ {l : List UInt8} (h : l.length = 4) :
  (((l.getD 0 default).toUInt32 + lg (l.getD 1 default).toUInt32 8) + lg (l.getD 2 default).toUInt32 16) + lg (l.getD 3 default).toUInt32 24 = leP l := by
 obtain ⟨a, b, c, d, rfl⟩ : ∃ a b c d, l = [a, b, c, d] := by
  match l, h with
  | [a, b, c, d], _ => exact ⟨a, b, c, d, rfl⟩
 rw [← UInt32.toNat_inj]
 have ha := a.toNat_lt
 have hb := b.toNat_lt
 have hc := c.toNat_lt
 have hd := d.toNat_lt
 simp [leP, UInt32.toNat_add, UInt32.toNat_mul, kG]
 omega
theorem Di {l : List SecV} {a : UInt32} (h : ((fy l a 4).2 ≠ 0 ∨ ((fy l a 4).1.length : Int) ≠ 4) ∨ (l.getD (cO l a).toNat default).wr = true) : k7 l a = (0, false) := by
  unfold k7
  split
  · rfl
  · rename_i q
    rw [if_pos (by rcases h with h | h
                   · exact absurd (by rcases h with h | h
                                      · exact .inl h
                                      · exact .inr (by omega)) q
                   · exact .inr h)]
theorem B7 {l : List SecV} {a : UInt32} (h0 : (fy l a 4).2 = 0) (h1 : ((fy l a 4).1.length : Int) = 4) (h2 : (l.getD (cO l a).toNat default).wr = false) : k7 l a = (leP (fy l a 4).1, true) := by
 have := vN h0
 unfold k7
 rw [if_neg (by omega), if_neg (by rw [h2]; simp; omega)]
end Go.HL
namespace Go.Proofs.YtiajjbhcpeadfaaGreat
open Go Go.HL Go.RowKit
theorem DD (l : List SecV) (V : Value) (w : World) (hV : Sl (hp w) cR l V) (hz : ∀ s ∈ l, s.data.length ≤ 140737488351232) :
  Calls Tryz.prog 10 #[V] w (fun e w' => e = .returned (.bool (tW l)) ∧ Ext w w') := by
 have hV' : Sl (Bg.of w).blk cR l V := hV
 have hlen := hV.len_le
 refine enter Tryz.func10 rfl Tryz.ntmps10 rfl ?_
 refine af (zz0 (ab rfl) (ad (al (af (zz0 (aa rfl) (zz0 (gx rfl bE) ?_))))))
 refine zz0 (eE rfl rfl) (ad ?_)
 refine an rfl ?_ ?_ <;> intro h1 <;> try simp only [bs] at h1
 ·refine af (zz0 (ab rfl) (ad (az (ay ?_))))
  refine aT Tryz.results10 rfl (fun w' hw => ?_)
  exact ⟨by unfold tW; rw [decide_eq_false (by omega), Bool.false_and], hw.b0⟩
 ·refine dh (zz0 (ab rfl) (ad (al (af (zz0 (ab rfl) (ad (aD ?_)))))))
  refine bK (ι := Nat) (fun k => k ≤ l.length ∧ lM l k < 600) (fun _ => _) (fun k => []) (fun k => [(4, .int .i64 (k : Nat)), (3, .int .i64 (lM l k))]) (fun k => l.length - k) 0 ⟨Nat.zero_le _, by show (0 : Int) < 600; decide⟩ (Front.c (Front.c Front.nil)) (by repeat' constructor) rfl (fun k hi m hm => ?_)
  replace hi : k ≤ l.length ∧ lM l k < 600 := hi
  replace hm : m = l.length - k := hm
  change Tr _ _ [] ([(4, .int .i64 (k : Nat)), (3, .int .i64 (lM l k))] ++ _) _
  obtain ⟨hk1, hk2⟩ := hi
  have hk0 : 0 ≤ lM l k := wR (l := l) (Nat.zero_le k)
  have hbk : k < l.length → (l.getD k default).data.length ≤ 140737488351232 := fun q => hz _ (cZ q)
  refine al (af (zz0 (aa rfl) (zz0 (aa rfl) (zz0 (gx rfl bE) ?_))))
  refine zz0 (bP rfl rfl) (ad ?_)
  refine an rfl ?_ ?_ <;> intro h2 <;> try simp only [bs] at h2
  ·refine bA (al (aD (af (zz0 (aa rfl) (zz0 (aa rfl) (zz0 (aa rfl) (zz0 (gK rfl rfl bE bT) ?_)))))))
   refine zz0 (zz2 (off := 2) (ft := 47) rfl bL rfl fk) ?_
   refine zz0 (oy rfl fO) ?_
   refine zz0 (im rfl aZ) ?_
   refine zz0 (rC rfl rfl) ?_
   refine zz0 (cp rfl rfl) ?_
   refine zz0 (ab rfl) (aI (zz0 (aa rfl) (zz0 (eE rfl rfl) (ad ?_))))
   refine an rfl ?_ ?_ <;> intro h3 <;> try simp only [bs] at h3
   ·refine af (zz0 (ab rfl) (ad (az (bh (ay (ay (bh (ay ?_))))))))
    refine aT Tryz.results10 rfl (fun w' hw => ?_)
    have hle := wR (l := l) (show k + 1 ≤ l.length by omega)
    have he : lM l (k + 1) = lM l k + min ((l.getD k default).data.length : Int) 600 := rfl
    exact ⟨by unfold tW; rw [decide_eq_false (p := lM l l.length < 600) (by omega), Bool.and_false], hw.b0⟩
   ·refine cd (aX (ac (ao (zz0 (aa rfl) (zz0 (cp rfl rfl) ?_)))))
    refine zz0 (ab rfl) (ad ?_)
    refine cC (k + 1) (Front.c (Front.c Front.nil)) (bB 21 rfl) (o := ⟨by omega, by show lM l k + min ((l.getD k default).data.length : Int) 600 < 600; omega⟩)
  ·refine bF (aG (aG (bj (ac (af (zz0 (ab rfl) (ad (az ?_))))))))
   refine aT Tryz.results10 rfl (fun w' hw => ?_)
   obtain rfl : k = l.length := by omega
   exact ⟨by unfold tW; rw [decide_eq_true hk2, decide_eq_true (by omega)]; rfl, hw.b0⟩
theorem Dh (l : List SecV) (V : Value) (a : UInt32) (w : World) (hV : Sl (hp w) cR l V) (hB : SecB l) (hD : DataIn (hp w) l) :
  Calls Tryz.prog 66 #[V, .int .u32 a.toNat] w (fun e w' => e = .returned (.tuple #[.int .u32 (k7 l a).1.toNat, .bool (k7 l a).2]) ∧ Ext w w') := by
 have hV' : Sl (Bg.of w).blk cR l V := hV
 have hff := jy (l := l) (a := a)
 have hD' : DataIn (Bg.of w).blk l := hD
 refine enter Tryz.func66 rfl Tryz.ntmps66 rfl ?_
 refine af (zz0 (ab rfl) (zz0 (ab rfl) (aI (zz0 (aa rfl) (zz0 (aa rfl) ?_)))))
 refine gX (fun V => .tuple #[V, .int .i64 (fy l a 4).2]) rfl Tryz.call127 (fun w hw => yG l V a 4 w (hw.slF hV') hB (hD'.mono hw.bg) (by omega)) rfl (fun V1 => ?_)
 refine zz0 (aa rfl) (zz0 (aO rfl rfl) (zz0 (aO rfl rfl) (zz0 (ab rfl) (zz0 (ab rfl) (ad (al (af (zz0 (aa rfl) (zz0 (fU rfl rfl) (zz0 (aa rfl) ?_))))))))))
 apply dB
 ·exact (rfl : _ = (4, 16, 20))
 ·exact rfl
 ·intro hF2; have hF2' := hF2
  try simp only [bs] at hF2'
  refine zz5 hF2 (aa rfl) (zz5 hF2 (lI rfl aZ) ?_)
  refine zz5 hF2 (fU rfl rfl) (zz0 (aR rfl hF2 rfl) ?_)
  refine aB (ac ?_)
  exact aH (Sub.cons rfl (zz9 4 rfl))
 ·intro hT2
  refine zz8 hT2 (zz8 hT2 (zz8 hT2 (zz0 (aQ rfl hT2 rfl) ?_)))
  refine aB (ac ?_)
  exact aH (Sub.cons rfl (zz9 4 rfl))
 refine zz0 (aa rfl) ?_
 apply dB
 ·exact (rfl : _ = (8, 21, 29))
 ·exact rfl
 ·intro hF3; have hF3' := hF3
  try simp only [bs] at hF3'
  refine zz5 hF3 (aa rfl) (zz5 hF3 (aa rfl) (zz5 hF3 (aa rfl) (zz5 hF3 (aA rfl Tryz.call126 (fun w hw => oO l V a w (hw.slF hV') hB)) ?_)))
  have hfi := vN (l := l) (a := a) (by omega)
  refine zz5 hF3 (ll rfl rfl bE bT) ?_
  refine zz5 hF3 (zz2 (off := 3) (ft := 4) rfl bL rfl bW) ?_
  refine zz5 hF3 (oy rfl cB) ?_
  refine zz0 (aR rfl hF3 rfl) ?_
  refine aB (ac ?_)
  exact aH (Sub.cons rfl (zz9 8 rfl))
 ·intro hT3
  refine zz8 hT3 (zz8 hT3 (zz8 hT3 (zz8 hT3 (zz8 hT3 (zz8 hT3 (zz8 hT3 (zz0 (aQ rfl hT3 rfl) ?_)))))))
  refine aB (ac ?_)
  exact aH (Sub.cons rfl (zz9 8 rfl))
 refine ad ?_
 refine an rfl ?_ ?_ <;> intro h4 <;> try simp only [bs] at h4
 ·have hq2 := h4
  refine af (zz0 (ab rfl) (zz0 (ab rfl) (ad (az (ay ?_)))))
  refine df Tryz.results66 rfl rfl (fun w' hw => ?_)
  exact ⟨by rw [Di hq2]; rfl, hw.b0⟩
 ·have hq2 := h4
  refine bA (al (gQ aS ?_))
  refine aw (aa rfl) (aw (zz7 (E := dO) (l := (fy l a 4).1) (i := 0) rfl rfl aZ dl) ?_)
  refine aw (dY rfl fm) ?_
  refine aw (fW rfl bZ aL) (aw (aa rfl) (aw (zz7 (E := dO) (l := (fy l a 4).1) (i := 1) rfl rfl aZ dl) ?_))
  refine aw (dY rfl fm) ?_
  refine aw (fW rfl bZ aL) (aw (j8 rfl rfl (by omega)) ?_)
  refine aw (fY rfl rfl) ?_
  refine aw (aa rfl) (aw (zz7 (E := dO) (l := (fy l a 4).1) (i := 2) rfl rfl aZ dl) ?_)
  refine aw (dY rfl fm) ?_
  refine aw (fW rfl bZ aL) (aw (j8 rfl rfl (by omega)) ?_)
  refine aw (fY rfl rfl) ?_
  refine aw (aa rfl) (aw (zz7 (E := dO) (l := (fy l a 4).1) (i := 3) rfl rfl aZ dl) ?_)
  refine aw (dY rfl fm) ?_
  refine aw (fW rfl bZ aL) (aw (j8 rfl rfl (by omega)) ?_)
  refine aw (fY rfl rfl) ?_
  refine aw (ab rfl) (aw (ab rfl) (bH ?_))
  refine ac (az ?_)
  refine df Tryz.results66 rfl rfl (fun w' hw => ?_)
  refine ⟨?_, hw.b0⟩
  rw [B7 (by omega) (by omega) (by simp_all)]
  exact congrArg (fun x : UInt32 => Ending.returned (.tuple #[.int .u32 x.toNat, .bool true])) (FZ (by omega))
theorem xr (l : List SecV) (V : Value) (a : UInt32) (w : World) (hV : Sl (hp w) cR l V) (hB : SecB l) :
  Calls Tryz.prog 65 #[V, .int .u32 a.toNat] w (fun e w' => e = .returned (.bool (Cd l a)) ∧ Ext w w') := by
 have hV' : Sl (Bg.of w).blk cR l V := hV
 have hff := jy (l := l) (a := a)
 refine enter Tryz.func65 rfl Tryz.ntmps65 rfl ?_
 refine af (zz0 (ab rfl) (aI (zz0 (aa rfl) (zz0 (aa rfl) (zz0 (aA rfl Tryz.call126 (fun w hw => oO l V a w (hw.slF hV') hB)) ?_)))))
 refine zz0 (ab rfl) (aI (zz0 (aa rfl) (zz0 (eE rfl rfl) (zz0 (aa rfl) ?_))))
 apply cm
 ·exact (rfl : _ = (6, 11, 17))
 ·exact rfl
 ·intro hT1; have hT1' := hT1
  try simp only [bs] at hT1'
  refine zz5 hT1 (aa rfl) (zz5 hT1 (aa rfl) (zz5 hT1 (ll rfl rfl bE bT) ?_))
  refine zz5 hT1 (zz2 (off := 4) (ft := 4) rfl bL rfl bW) ?_
  refine zz5 hT1 (oy rfl cB) ?_
  refine zz0 (aQ rfl hT1 rfl) ?_
  refine aB (ac ?_)
  exact aH (Sub.cons rfl (zz9 6 rfl))
 ·intro hF1
  refine zz8 hF1 (zz8 hF1 (zz8 hF1 (zz8 hF1 (zz8 hF1 (zz0 (aR rfl hF1 rfl) ?_)))))
  refine aB (ac ?_)
  exact aH (Sub.cons rfl (zz9 6 rfl))
 refine zz0 (ab rfl) (ad (az ?_))
 refine aT Tryz.results65 rfl (fun w' hw => ?_)
 exact ⟨rfl, hw.b0⟩
theorem y8 (l : List SecV) (V : Value) (a : UInt32) (n : Int) (w : World) (hV : Sl (hp w) cR l V) (hB : SecB l) (hD : DataIn (hp w) l) (hN : ∀ s ∈ l, s.name.size ≤ 140737488351232) :
  Calls Tryz.prog 24 #[V, .int .u32 a.toNat, .int .i64 n] w (fun e w' => e = .returned (.bool (mK l a n)) ∧ Ext w w') := by
 have hV' : Sl (Bg.of w).blk cR l V := hV
 have hD' : DataIn (Bg.of w).blk l := hD
 refine enter Tryz.func24 rfl Tryz.ntmps24 rfl ?_
 refine af (zz0 (ab rfl) (ad (al (af (zz0 (aa rfl) (zz0 (bP rfl rfl) (zz0 (aa rfl) ?_)))))))
 apply dB
 ·exact (rfl : _ = (3, 12, 15))
 ·exact rfl
 ·intro hF1; have hF1' := hF1
  try simp only [bs] at hF1'
  refine zz5 hF1 (aa rfl) (zz5 hF1 (eo rfl rfl) (zz0 (aR rfl hF1 rfl) ?_))
  refine aB (ac ?_)
  exact aH (Sub.cons rfl (zz9 3 rfl))
 ·intro hT1
  refine zz8 hT1 (zz8 hT1 (zz0 (aQ rfl hT1 rfl) ?_))
  refine aB (ac ?_)
  exact aH (Sub.cons rfl (zz9 3 rfl))
 refine zz0 (aa rfl) ?_
 apply dB
 ·exact (rfl : _ = (4, 16, 20))
 ·exact rfl
 ·intro hF2; have hF2' := hF2
  try simp only [bs] at hF2'
  refine zz5 hF2 (aa rfl) (zz5 hF2 (aA rfl Tryz.call61 (fun w hw => ve l V w (hw.slF hV') hB (fun s hs => by have := hN s hs; omega))) ?_)
  refine zz5 hF2 (fU rfl rfl) (zz0 (aR rfl hF2 rfl) ?_)
  refine aB (ac ?_)
  exact aH (Sub.cons rfl (zz9 4 rfl))
 ·intro hT2
  refine zz8 hT2 (zz8 hT2 (zz8 hT2 (zz0 (aQ rfl hT2 rfl) ?_)))
  refine aB (ac ?_)
  exact aH (Sub.cons rfl (zz9 4 rfl))
 refine ad ?_
 refine an rfl ?_ ?_ <;> intro h3 <;> try simp only [bs] at h3
 ·have hq1 := h3
  refine af (zz0 (ab rfl) (ad (az (ay ?_))))
  refine aT Tryz.results24 rfl (fun w' hw => ?_)
  exact ⟨by unfold mK; rw [if_pos (by omega)], hw.b0⟩
 ·have hq1 := h3
  refine bA (al (af (zz0 (ab rfl) (ad (aD ?_)))))
  refine bK (ι := Nat) (fun j => (j : Int) ≤ n ∧ jO l a j = true) (fun _ => _) (fun j => []) (fun j => [(7, .int .i64 (j : Nat))]) (fun j => n.toNat - j) 0 ⟨by omega, rfl⟩ (Front.c Front.nil) (by repeat' constructor) rfl (fun j hi m hm => ?_)
  replace hi : (j : Int) ≤ n ∧ jO l a j = true := hi
  replace hm : m = n.toNat - j := hm
  change Tr _ _ [] ([(7, .int .i64 (j : Nat))] ++ _) _
  obtain ⟨hj, hto⟩ := hi
  refine al (af (zz0 (aa rfl) (zz0 (aa rfl) (zz0 (bP rfl rfl) (ad ?_)))))
  refine an rfl ?_ ?_ <;> intro h4 <;> try simp only [bs] at h4
  ·refine bA (al (aD (af (zz0 (aa rfl) (zz0 (aa rfl) (zz0 (aa rfl) (zz0 (g8 rfl aY aL) (zz0 (ma (m := 4) rfl rfl) ?_))))))))
   refine zz0 (fY rfl rfl) ?_
   refine zz0 (aA rfl Tryz.call66 (fun w hw => Dh l V (a + 4 * u32 (j : Int)) w (hw.slF hV') hB (hD'.mono hw.bg))) ?_
   refine zz0 (aa rfl) (zz0 (aO rfl rfl) (zz0 (aO rfl rfl) (zz0 (ab rfl) (zz0 (ab rfl) (aI (zz0 (aa rfl) (zz0 (cN rfl) (zz0 (aa rfl) ?_))))))))
   apply dB
   ·exact (rfl : _ = (5, 38, 43))
   ·exact rfl
   ·intro hF5; have hF5' := hF5
    try simp only [bs] at hF5'
    refine zz5 hF5 (aa rfl) (zz5 hF5 (aa rfl) (zz5 hF5 (aA rfl Tryz.call65 (fun w hw => xr l V (k7 l (a + 4 * u32 (j : Int))).1 w (hw.slF hV') hB)) ?_))
    refine zz5 hF5 (cN rfl) (zz0 (aR rfl hF5 rfl) ?_)
    refine aB (ac ?_)
    exact aH (Sub.cons rfl (zz9 5 rfl))
   ·intro hT5
    refine zz8 hT5 (zz8 hT5 (zz8 hT5 (zz8 hT5 (zz0 (aQ rfl hT5 rfl) ?_))))
    refine aB (ac ?_)
    exact aH (Sub.cons rfl (zz9 5 rfl))
   refine ad ?_
   refine an rfl ?_ ?_ <;> intro h6 <;> try simp only [bs] at h6
   ·have hq2 : (iP l a (u32 (j : Int))).2 = false := by unfold iP; simp only [Bool.and_eq_false_iff]; exact h6
    refine af (zz0 (ab rfl) (ad (az (bh (ay (ay (bh (ay ?_))))))))
    refine aT Tryz.results24 rfl (fun w' hw => ?_)
    have hf := sK (show jO l a (j + 1) = false by simp only [jO, hq2, Bool.and_false]) n.toNat (by omega)
    exact ⟨by unfold mK; rw [if_neg (by omega), hf], hw.b0⟩
   ·have hq2 : (iP l a (u32 (j : Int))).2 = true := by unfold iP; simp only [Bool.and_eq_true]; have := h6; simp_all
    refine cd (aX (ac (ao (zz0 (aa rfl) (zz0 (cp rfl rfl) ?_)))))
    refine zz0 (ab rfl) (ad ?_)
    refine cC (j + 1) (Front.c Front.nil) (bB 23 rfl) (o := ⟨by omega, by simp only [jO, hto, hq2, Bool.and_self]⟩)
  ·refine bF (aG (aG (bj (ac (af (zz0 (ab rfl) (ad (az ?_))))))))
   refine aT Tryz.results24 rfl (fun w' hw => ?_)
   exact ⟨by unfold mK; rw [if_neg (by omega), show n.toNat = j by omega, hto], hw.b0⟩
theorem uF (l : List SecV) (pV : Option Addr) (cV : Nat) (a : UInt32) (n : Int) (w : World) (hV : Sl (hp w) cR l (.slice pV l.length cV)) (hD : DataIn (hp w) l) (hz : ∀ s ∈ l, s.data.length ≤ 140737488351232) (hN : ∀ s ∈ l, s.name.size ≤ 140737488351232) :
  Calls Tryz.prog 6 #[(.slice pV l.length cV), .int .u32 a.toNat, .int .i64 n] w (fun e w' => e = .returned (.bool true) ∧ Below w.heap.size w w') := by
 have hV' : Sl (Bg.of0 w).blk cR l (.slice pV l.length cV) := hV
 have hD' : DataIn (Bg.of0 w).blk l := hD
 refine lZ Tryz.func6 rfl Tryz.ntmps6 rfl ?_
 refine af (zz0 (ab rfl) (ad (al (af (zz0 (aa rfl) (zz0 (aA rfl Tryz.call10 (fun w hw => DD l (.slice pV l.length cV) w (hw.slF hV') hz)) ?_))))))
 refine zz0 (cN rfl) (ad ?_)
 refine an rfl ?_ ?_ <;> intro h1 <;> try simp only [bs] at h1
 ·have hq1 := h1
  refine af (zz0 (zV rfl rfl Tryz.call11 (fun w hw => uN w)) ?_)
  refine zz0 (ab rfl) (ad (az (ay ?_)))
  refine aT Tryz.results6 rfl (fun w' hw => ?_)
  exact ⟨by simp, hw.below0 (Bg.le.refl _)⟩
 ·have hq1 : tW l = true := by simpa using h1
  obtain ⟨hB, hto⟩ := FG hq1
  refine dh (zz0 (aa rfl) (zz0 (aa rfl) (zz0 (aa rfl) (zz0 (aA rfl Tryz.call23 (fun w hw => qn l pV cV a n w (hw.slF hV') hB (hD'.mono hw.bg) hN)) ?_))))
  refine zz0 (aa rfl) (zz0 (aa rfl) (zz0 (aa rfl) (zz0 (aA rfl Tryz.call24 (fun w hw => y8 l (.slice pV l.length cV) a n w (hw.slF hV') hB (hD'.mono hw.bg) hN)) ?_)))
  refine zz0 (sX rfl rfl Tryz.underlying4) ?_
  refine zz0 (aa rfl) ?_
  apply cm
  ·exact (rfl : _ = (2, 20, 22))
  ·exact rfl
  ·intro hT2; have hT2' := hT2
   try simp only [bs] at hT2'
   refine zz5 hT2 (zV rfl rfl Tryz.call11 (fun w hw => uN w)) ?_
   refine zz0 (aQ rfl hT2 rfl) ?_
   refine aB (ac ?_)
   exact aH (Sub.cons rfl (zz9 2 rfl))
  ·intro hF2
   refine zz8 hF2 (zz0 (aR rfl hF2 rfl) ?_)
   refine aB (ac ?_)
   exact aH (Sub.cons rfl (zz9 2 rfl))
  refine zz0 (ab rfl) (ad (az ?_))
  refine aT Tryz.results6 rfl (fun w' hw => ?_)
  exact ⟨by simp, hw.below0 (Bg.le.refl _)⟩
theorem vk (l : List SecV) (V : Value) (a : UInt32) (n : Int) (w : World) (hV : Sl (hp w) cR l V) (hD : DataIn (hp w) l) (hz : ∀ s ∈ l, s.data.length ≤ 140737488351232) (hN : ∀ s ∈ l, s.name.size ≤ 140737488351232) : Calls Tryz.prog 6 #[V, .int .u32 a.toNat, .int .i64 n] w (fun e w' => e = .returned (.bool true) ∧ Below w.heap.size w w') := by
 obtain ⟨pV, cV, hv, _⟩ := hV.shape
 subst hv
 exact uF l pV cV a n w hV hD hz hN
end Go.Proofs.YtiajjbhcpeadfaaGreat
namespace Go.HL
open Go Go.Deep Go.ChangeShapes Go.WideShapes
section
variable {H : Type} {enc : TypeId × Value → H} {P : Program} {w : World} {base : Nat} {spare : Nat → Bool} {held : Bool}
theorem Ds {n : Int} (h : (Lit.int .u8 n).wf = true) : ∃ x : UInt8, n = (x.toNat : Int) := by
 have := bounds_u8 h
 refine ⟨UInt8.ofNat n.toNat, ?_⟩
 rw [UInt8.toNat_ofNat']; omega
theorem vF {n : Int} (h : (Lit.int .u32 n).wf = true) : ∃ x : UInt32, n = (x.toNat : Int) := by
 have := bounds_u32 h
 refine ⟨UInt32.ofNat n.toNat, ?_⟩
 rw [UInt32.toNat_ofNat']; omega
theorem Gc {e : TypeId} (he : P.underlying e = some (.int .u8)) {n : Nat} {cs : List Value} {y : DataW H × List MemPlace} (h : DataW.trod enc P w base spare held n e cs = some y) : ∃ a, cs = dO.enc a ∧ True := by
 obtain ⟨z, rfl, _, hw⟩ := DataW.trod_int he h
 obtain ⟨x, rfl⟩ := Ds hw
 exact ⟨x, rfl, trivial⟩
end
end Go.HL
namespace Go.HL
open Go Go.Deep Go.ChangeShapes Go.WideShapes
section
variable {H : Type} {enc : TypeId × Value → H} {P : Program} {w : World} {base : Nat} {spare : Nat → Bool} {held : Bool}
def zW (P : Program) (t : TypeId) (d : DataW H) : Prop := ∀ n ∈ d.weights P t, n ≤ reachBytes
theorem weightsAll_mem {P : Program} {e : TypeId} : ∀ {l : List (DataW H)} {d : DataW H}, d ∈ l → ∀ n ∈ d.weights P e, n ∈ DataW.weightsAll P e l
 | x :: l, d, h, n, hn => by
  simp only [DataW.weightsAll, List.mem_append]
  rcases List.mem_cons.1 h with rfl | h
  ·exact .inl hn
  ·exact .inr (weightsAll_mem h n hn)
theorem sE {α : Type} [Inhabited α] {E : Enc α} {R : α → Prop} {t e : TypeId} {fuel : Nat} {V : Value} {x : DataW H × List MemPlace} (ht : P.underlying t = some (.slice e)) (hc : P.cellsOf e = E.k) (hk : 0 < E.k) (hL : zW P t x.1)
  (hf : ∀ n cs y, cs.length = E.k → DataW.trod enc P w base spare held n e cs = some y → zW P e y.1 → ∃ a : α, cs = E.enc a ∧ R a)
  (h : DataW.trod enc P w base spare held fuel t [V] = some x) : ∃ l : List α, Sl (hp w) E l V ∧ (∀ a ∈ l, R a) ∧ l.length * P.bytesOf e ≤ reachBytes := by
 rcases open_slice ht h with ⟨h0, _⟩ | ⟨a, len, cap, m, n, D, Pl, hv, hb, hl, hm, hmm, hxx, hx⟩
 ·simp only [List.cons.injEq, and_true] at h0
  subst h0
  exact ⟨[], Sl.nil _ _, by simp, by simp⟩
 ·simp only [List.cons.injEq, and_true] at hv
  subst hv
  subst hxx
  have hlm : len ≤ m := by rw [hmm]; split <;> omega
  have hw : DataW.weights P t (.slice ((List.range len).map D) ((List.range (m - len)).map fun j => D (len + j))) = (((List.range len).map D).length + ((List.range (m - len)).map fun j => D (len + j)).length) * P.bytesOf e :: (DataW.weightsAll P e ((List.range len).map D) ++ DataW.weightsAll P e ((List.range (m - len)).map fun j => D (len + j))) := by
   simp only [DataW.weights, ht]
  have each : ∀ i, i < len → ∃ q : α, w.cells? base (a.add (i * E.k)) E.k = some (E.enc q) ∧ R q := fun i hi => by
   obtain ⟨cs', h1, h2⟩ := hx i (by omega)
   rw [hc] at h1
   obtain ⟨q, rfl, hq⟩ := hf n cs' _ (World.cells?_some h1).2.1 h2 (fun z hz => hL z (by
    rw [hw]
    exact .tail _ (List.mem_append.2 (.inl (weightsAll_mem (List.mem_map.2 ⟨i, List.mem_range.2 hi, rfl⟩) z hz)))))
   exact ⟨q, h1, hq⟩
  obtain ⟨f, hfn⟩ := choose_lt each
  have hsp : 0 < len → a = ⟨a.block, a.off, none⟩ := fun hl0 => by
   have h1 := (World.cells?_some (hfn 0 hl0).1).2.2 0 hk
   have hlen : 0 < (E.enc (f 0)).length := by rw [E.len]; exact hk
   rw [List.getElem?_eq_getElem hlen] at h1
   have hsp := World.cell?_spot h1
   obtain ⟨b, o, sp⟩ := a
   have : sp = none := by simpa [Addr.add] using hsp
   subst this
   rfl
  refine ⟨(List.range len).map f, ⟨⟨some a, cap, by simp, by simpa using hl, hm, fun hne => ?_⟩, fun i q hq => ?_⟩, fun q hq => ?_, ?_⟩
  ·have hl0 : 0 < len := by
    rcases Nat.eq_zero_or_pos len with h | h
    ·subst h; simp at hne
    ·exact h
   rw [hsp hl0]; rfl
  ·have hi : i < len := by
    have := (List.getElem?_eq_some_iff.1 hq).1
    simpa using this
   have hq' : f i = q := by simpa [hi] using hq
   subst hq'
   have ha := hsp (by omega)
   obtain ⟨b, o, sp⟩ := a
   obtain rfl : sp = none := by simpa using ha
   have hc' := (World.cells?_some (hfn i hi).1).2.2
   have hlen : (E.enc (f i)).length = E.k := E.len _
   have eA : ∀ j, (((⟨b, o, none⟩ : Addr).add (i * E.k)).add j) = ⟨b, o + i * E.k + j, none⟩ := fun j => by
    rw [Go.Deep.add_add]; simp only [Addr.add]
    by_cases h0 : i * E.k + j = 0
    ·rw [if_pos h0]
     have : i * E.k = 0 := by omega
     have : j = 0 := by omega
     simp_all
    ·rw [if_neg h0, Nat.add_assoc]
   have h1 := hc' 0 hk
   rw [List.getElem?_eq_getElem (by omega), eA] at h1
   have hb1 : ∃ cs T fz, w.heap[b]? = some (.cells cs T fz) := by
    unfold World.cell? at h1
    split at h1
    ·rename_i cs T fz hh; exact ⟨cs, T, fz, hh⟩
    ·simp at h1
   obtain ⟨cs, T, fz, hh⟩ := hb1
   refine ⟨cs, T, fz, hh, fun j v hj => ?_⟩
   have hjk : j < E.k := by have := (List.getElem?_eq_some_iff.1 hj).1; omega
   have h2 := hc' j hjk
   rw [hj, eA] at h2
   unfold World.cell? at h2
   simp only [hh] at h2
   simp only [ofs]
   simpa using h2
  ·obtain ⟨i, hi, rfl⟩ := List.mem_map.1 hq
   exact (hfn i (List.mem_range.1 hi)).2
  ·have := hL _ (by rw [hw]; exact .head _)
   simp only [List.length_map, List.length_range] at this ⊢
   exact Nat.le_trans (Nat.mul_le_mul_right _ (by omega)) this
theorem Ey {e ts tu tb tB eu : TypeId} {f0 f1 f2 f3 f4 : Field} (he : P.underlying e = some (.struct #[f0, f1, f2, f3, f4]))
  (ho : [f0.offset, f1.offset, f2.offset, f3.offset, f4.offset] = [0, 1, 2, 3, 4]) (ht : [f0.type, f1.type, f2.type, f3.type, f4.type] = [ts, tu, tb, tB, tB])
  (c0 : P.cellsOf ts = 1) (c1 : P.cellsOf tu = 1) (c2 : P.cellsOf tb = 1) (c3 : P.cellsOf tB = 1) (us : P.underlying ts = some .string) (uu : P.underlying tu = some (.int .u32))
  (ub : P.underlying tb = some (.slice eu)) (ue : P.underlying eu = some (.int .u8)) (ce : P.cellsOf eu = 1) (be : P.bytesOf eu = 1) (uB : P.underlying tB = some .bool)
  {n : Nat} {cs : List Value} {y : DataW H × List MemPlace} (hl : cs.length = 5) (h : DataW.trod enc P w base spare held n e cs = some y) (hL : zW P e y.1) :
  ∃ s : SecV, cs = cR.enc s ∧ Sl (hp w) dO s.data (.slice s.dp s.data.length s.dc) ∧ s.data.length ≤ reachBytes ∧ s.name.size ≤ reachBytes := by
 simp only [List.cons.injEq, and_true] at ho ht
 obtain ⟨o0, o1, o2, o3, o4⟩ := ho
 obtain ⟨t0, t1, t2, t3, t4⟩ := ht
 obtain ⟨xs, k, hk, hxy, _, hxl, hf⟩ := DataW.trod_struct he h
 match xs, hxl, cs, hl with
 | [y0, y1, y2, y3, y4], _, [v0, v1, v2, v3, v4], _ =>
  have g0 := hf 0 f0 rfl
  have g1 := hf 1 f1 rfl
  have g2 := hf 2 f2 rfl
  have g3 := hf 3 f3 rfl
  have g4 := hf 4 f4 rfl
  simp [o0, o1, o2, o3, o4, t0, t1, t2, t3, t4, c0, c1, c2, c3] at g0 g1 g2 g3 g4
  subst hxy
  have hw : ∀ j t d, [ts, tu, tb, tB, tB][j]? = some t → [y0.1, y1.1, y2.1, y3.1, y4.1][j]? = some d → zW P t d := fun j t d q1 q2 z hz => hL z (by
   simp only [DataW.weights, he, List.map_cons, List.map_nil, t0, t1, t2, t3, t4]
   exact DataW.weights_mem_each (j := j) q1 q2 z hz)
  have w0' := hw 0 ts y0.1 rfl rfl
  have w2' := hw 2 tb y2.1 rfl rfl
  obtain ⟨z0, e0, q0, w0⟩ := DataW.trod_string us g0
  obtain ⟨z1, e1, _, w1⟩ := DataW.trod_int uu g1
  obtain ⟨l, s2, _, hbl⟩ := sE (E := dO) (R := fun _ => True) ub ce (by decide) w2' (fun n cs y _ hh _ => Gc ue hh) g2
  obtain ⟨z3, e3, _⟩ := DataW.trod_bool uB g3
  obtain ⟨z4, e4, _⟩ := DataW.trod_bool uB g4
  obtain ⟨x1, rfl⟩ := vF w1
  simp only [List.cons.injEq, and_true] at e0 e1 e3 e4
  subst e0; subst e1; subst e3; subst e4
  obtain ⟨a, c, hv, _⟩ := s2.shape
  subst hv
  refine ⟨⟨z0, x1, l, a, c, z3, z4⟩, rfl, s2, by rw [be, Nat.mul_one] at hbl; exact hbl, ?_⟩
  have := w0' z0.data.toList.length (by rw [q0]; simp [DataW.weights])
  rw [Array.length_toList] at this
  exact this
end
end Go.HL
