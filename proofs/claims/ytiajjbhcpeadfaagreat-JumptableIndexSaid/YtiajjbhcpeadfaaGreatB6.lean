/- Own rules and walks, part 6. -/
import Derived.Test.YtiajjbhcpeadfaaGreatB5
set_option linter.unusedSimpArgs false
set_option linter.unusedVariables false
set_option linter.unusedSectionVars false
set_option maxRecDepth 100000
set_option maxHeartbeats 16000000
namespace Go.Proofs.YtiajjbhcpeadfaaGreat
open Go Go.HL Go.RowKit
theorem ra (n k : Nat) (wr : Bool) (w : World) (hn : 1 ≤ n ∧ n ≤ 100) (hk : k ≤ 1000) :
  Calls Tryz.prog 33 #[.int .i64 (n : Nat), .int .i64 (k : Nat), .bool wr] w (fun e w' => ∃ i : Value × Option Addr × Option Addr × Nat × Nat, e = .returned i.1 ∧ Ext w w' ∧ NewEnts w w' ((fun i : Value × Option Addr × Option Addr × Nat × Nat => [rowE i.1 49 dx (j8 n k wr i.2.1 i.2.2.1 i.2.2.2.1 i.2.2.2.2), rowE (.slice i.2.1 (jR n).length i.2.2.2.1) 5 dQ (jR n), rowE (.slice i.2.2.1 (lz n k n).length i.2.2.2.2) 5 dQ (lz n k n)]) i) ∧ True) := by
 refine enter Tryz.func33 rfl Tryz.ntmps33 rfl ?_
 refine af (zz0 (ab rfl) (aH (zz0 (aa rfl) (zz0 (jc rfl aZ bW) (zz0 (aa rfl) (zz0 (cp rfl rfl) ?_))))))
 refine zz0 (jc rfl aZ bW) ?_
 refine sc (E := dQ) (vH n) (vs := [(0, _), (1, _), (2, _), (3, _), (4, _), (5, _), (6, _), (7, _), (8, _), (9, _), (10, _), (11, _), (12, _)]) rfl rfl bh dF jS (by rfl) (by rfl) rfl (by first | kernel_rfl | rfl) rfl (fun V1 => ?_)
 refine zz0 (ab rfl) (ad (al (bZ 5 dQ ?_)))
 refine an (zz0 (ab rfl) (ad (al (af (zz0 (ab rfl) (ad (aF ?_)))))))
 change Tr _ _ [rowE (.slice none 0 0) 5 dQ (lz n k 0), rowE V1 5 dQ (vH n ++ List.replicate 0 (1 : UInt8))] _ _
 refine bL (ι := Nat × Value × Value) (fun ⟨i, Vc, Vt⟩ => i ≤ n) (fun _ => _) (fun ⟨i, Vc, Vt⟩ => [rowE Vt 5 dQ (lz n k i), rowE Vc 5 dQ (vH n ++ List.replicate i 1)]) (fun ⟨i, Vc, Vt⟩ => [(9, .int .i64 (i : Nat)), (7, Vc), (8, Vt)]) (fun ⟨i, Vc, Vt⟩ => n - i) (0, _, _) (Nat.zero_le _) (Front.c (Front.c (Front.c Front.nil))) (by repeat' constructor) rfl (fun i hi m hm => ?_)
 obtain ⟨i, Vc, Vt⟩ := i
 replace hi : i ≤ n := hi
 replace hm : m = n - i := hm
 change Tr _ _ [rowE Vt 5 dQ (lz n k i), rowE Vc 5 dQ (vH n ++ List.replicate i 1)] ([(9, .int .i64 (i : Nat)), (7, Vc), (8, Vt)] ++ _) _
 have hbl := sa n k i
 have hpl : (vH n ++ List.replicate i (1 : UInt8)).length = 13 + i := by simp [vH]; omega
 have hel : (bEl n k i).length = 4 := rfl
 have hmd := Int.emod_nonneg ((i : Int) + (k : Int)) (b := (n : Int)) (by omega)
 have hml := Int.emod_lt_of_pos ((i : Int) + (k : Int)) (b := (n : Int)) (by omega)
 have hp3 : (vH n).length = 13 := rfl
 have hrp : (List.replicate i (1 : UInt8)).length = i := List.length_replicate
 refine al (af (zz0 (aa rfl) (zz0 (aa rfl) (zz0 (bU rfl rfl) (ad ?_)))))
 refine ar rfl ?_ ?_ <;> intro h2 <;> try simp only [bs] at h2
 ·refine bF (al (aF (af (zz0 (aa rfl) ?_))))
  refine iQ (E := dQ) (1 : UInt8) rfl rfl bh dF jS (fun V3 => ?_)
  refine zz1 rfl rfl bh l5 (fun V4 => ?_)
  refine zz0 (ab rfl) (ad (an (zz0 (aa rfl) (zz0 (aa rfl) (zz0 (aa rfl) (zz0 (cp rfl rfl) ?_))))))
  refine zz0 (aa rfl) (zz0 (Ie rfl rfl (by omega)) ?_)
  refine zz0 (cp rfl rfl) ?_
  refine zz0 (jc rfl aZ bW) ?_
  refine sc (E := dQ) (bEl n k i) (vs := [(0, _), (1, _), (2, _), (3, _)]) rfl rfl bh dF jS (by rfl) (by rfl) rfl (by first | kernel_rfl | rfl) rfl (fun V5 => ?_)
  refine zz1 rfl rfl bh l5 (fun V6 => ?_)
  refine zz0 (ab rfl) (aD (aX (ac (an (zz0 (aa rfl) (zz0 (cp rfl rfl) ?_))))))
  refine zz0 (ab rfl) (ad ?_)
  have e1 : (vH n ++ List.replicate i (1 : UInt8)) ++ [1] = vH n ++ List.replicate (i + 1) 1 := by rw [List.append_assoc, ← List.replicate_succ']
  rw [e1, ← xu]
  refine cH (i + 1, _, _) (Front.c (Front.c (Front.c Front.nil))) (bC 24 rfl) (o := (by show i + 1 ≤ _; omega))
 ·refine bJ (aG (aG (bv (ac (al ?_)))))
  obtain rfl : i = n := by omega
  refine gZ (V := Vt) (fun pt ct hpv => ?_)
  subst hpv
  refine an (zz0 (aa rfl) ?_)
  refine iQ (E := dQ) (1 : UInt8) rfl rfl bh dF jS (fun V7 => ?_)
  refine zz1 rfl rfl bh l5 (fun V8 => ?_)
  refine f7 (l' := jR i) rfl ?_
  refine dA (.head _) (fun pc cc hpv => ?_)
  subst hpv
  refine zz0 (bG (vs := [(0, _), (1, _), (2, _), (4, _)]) (cs := #[.string nmC, .int .u32 4096, .slice pc (jR i).length cc, .bool false, .bool true]) rfl rfl (by kernel_rfl)) ?_
  refine zz0 (aa rfl) (zz0 (aa rfl) (zz0 (bG (vs := [(0, _), (1, _), (2, _), (3, _)]) (cs := #[.string nmT, .int .u32 12288, .slice pt (lz i k i).length ct, .bool wr, .bool false]) rfl rfl (by kernel_rfl)) ?_))
  refine sc (E := dx) (j8 i k wr pc pt cc ct) (vs := [(0, _), (1, _)]) rfl rfl cG de kt (by rfl) (by rfl) rfl (by first | kernel_rfl | rfl) rfl (fun V9 => ?_)
  refine zz0 (ab rfl) (ad (aB ?_))
  refine aV Tryz.results33 rfl (fun w' hw => ?_)
  exact ⟨(_, pc, pt, cc, ct), rfl, hw.b0, hw.ents (Bg.le.refl _) (by repeat' (first | exact Pick.refl _ | exact Del.here _ | apply Pick.cons | apply Del.there | apply Pick.skip | exact Pick.nil _)), trivial⟩
theorem mj (w : World) :
  Calls Tryz.prog 11 #[] w (fun e w' => e = .returned (.bool true) ∧ Below w.heap.size w w') := by
 refine lx Tryz.func11 rfl Tryz.ntmps11 rfl ?_
 refine af (zz0 (ab rfl) (aH ?_))
 refine jt (fun i : Value × Option Addr × Option Addr × Nat × Nat => i.1) (fun i : Value × Option Addr × Option Addr × Nat × Nat => [rowE i.1 49 dx (j8 3 0 false i.2.1 i.2.2.1 i.2.2.2.1 i.2.2.2.2), rowE (.slice i.2.1 (jR 3).length i.2.2.2.1) 5 dQ (jR 3), rowE (.slice i.2.2.1 (lz 3 0 3).length i.2.2.2.2) 5 dQ (lz 3 0 3)]) (ok := fun _ => True) rfl Tryz.call33 (fun w hw => ra 3 0 false w (by omega) (by omega)) rfl (fun ib1 _ => ?_)
 obtain ⟨VB1, p1, q1, c1, d1⟩ := ib1
 change Tr _ _ (rowE (VB1) 49 dx (j8 3 0 false p1 q1 c1 d1) :: rowE (.slice p1 (jR 3).length c1) 5 dQ (jR 3) :: rowE (.slice q1 (lz 3 0 3).length d1) 5 dQ (lz 3 0 3) :: _) _ _
 refine dA (V := VB1) (.head _) (fun pb1 cb1 hpv => ?_)
 subst hpv
 refine iQ (E := ao) (4096 : UInt32) rfl rfl ah ae c9 (fun V1 => ?_)
 refine eW (fun i : (Value × Value × Value × Value × Value × Value) × (CodeP × FndV × Int) × List (RV UInt32) => .tuple #[.agg #[i.1.1, i.1.2.1, i.1.2.2.1, i.1.2.2.2.1], i.1.2.2.2.2.1, i.1.2.2.2.2.2, .int .i64 i.2.1.2.2]) (fun i : (Value × Value × Value × Value × Value × Value) × (CodeP × FndV × Int) × List (RV UInt32) => rowE i.1.1 36 aO i.2.1.1.ins :: rowE i.1.2.1 23 ao i.2.1.1.ents :: rowE i.1.2.2.1 23 ao i.2.1.1.unk :: rowE i.1.2.2.2.1 23 ao i.2.1.1.bad :: rowE i.1.2.2.2.2.1 31 dL i.2.2 :: rowE i.1.2.2.2.2.2 23 ao i.2.1.2.1.at_ :: i.2.2.map (rvE 23 ao)) (ok := fun i : (Value × Value × Value × Value × Value × Value) × (CodeP × FndV × Int) × List (RV UInt32) => ResIs (j8 3 0 false p1 q1 c1 d1) [4096] i.2.1 ∧ i.2.2.map (·.data) = i.2.1.2.1.ts) rfl rfl Tryz.call17 (fun w hw => Be (j8 3 0 false p1 q1 c1 d1) _ _ [4096] _ w (hw.row (by repeat constructor)) (rb (by omega)) (oI (hw.row (by repeat constructor)) (hw.row (by repeat constructor))) oH (hw.row (by repeat constructor)) (AC (by omega)) (by simp)) rfl (fun iR hR => ?_)
 obtain ⟨⟨Wi, We, Wu, Wb, Wt, Wp⟩, o, rs⟩ := iR
 obtain ⟨ho, hrs⟩ : ResIs (j8 3 0 false p1 q1 c1 d1) [4096] o ∧ rs.map (·.data) = o.2.1.ts := hR
 obtain rfl := I2 ho
 obtain ⟨pr, cr, rfl⟩ := IN hrs
 change Tr _ _ (rowE Wi 36 aO It.ins :: rowE We 23 ao It.ents :: rowE Wu 23 ao It.unk :: rowE Wb 23 ao It.bad :: rowE Wt 31 dL [⟨[4109, 4110, 4111], pr, cr⟩] :: rowE Wp 23 ao ([4103] : List UInt32) :: rvE 23 ao ⟨[4109, 4110, 4111], pr, cr⟩ ::  _) _ _
 refine gZ (V := Wi) (fun pWi cWi hpv => ?_)
 subst hpv
 refine gZ (V := We) (fun pWe cWe hpv => ?_)
 subst hpv
 refine gZ (V := Wu) (fun pWu cWu hpv => ?_)
 subst hpv
 refine gZ (V := Wb) (fun pWb cWb hpv => ?_)
 subst hpv
 refine gZ (V := Wt) (fun pWt cWt hpv => ?_)
 subst hpv
 refine gZ (V := Wp) (fun pWp cWp hpv => ?_)
 subst hpv
 refine zz0 (aa rfl) (zz0 (aL rfl rfl) (zz0 (aL rfl rfl) (zz0 (aL rfl rfl) (zz0 (aL rfl rfl) ?_))))
 refine dB eZ rfl (fun b2 => ?_)
 refine zz6 rfl rfl cO ?_
 refine zz0 (ab rfl) (zz0 (ab rfl) (zz0 (ab rfl) (aH ?_)))
 refine dB cS rfl (fun b3 => ?_)
 change Tr _ _ (cellE b3 (cL.enc gI) 37 :: _) _ _
 refine aH (zz0 (aA rfl eH (fun w hw => dU 1 3 2 w)) ?_)
 refine zz0 (zz3 (off := 0) (ft := 26) rfl cm rfl cX) ?_
 refine zz0 (dI rfl rfl cj aj (by omega)) ?_
 refine ga rfl rfl aj (by repeat constructor) (lq (s := gI) (k := (1 : Int)) ⟨by omega, by omega⟩ (by simp) (exX)) (by rfl) (lr (k := (1 : Int)) ⟨by omega, by omega⟩ (by simp)) (by first | exact Enc.one bQ _ | exact List.all_eq_true.1 rfl) rfl ?_
 refine aH ?_
 refine jt (fun i : Value × Option Addr × Option Addr × Nat × Nat => i.1) (fun i : Value × Option Addr × Option Addr × Nat × Nat => [rowE i.1 49 dx (j8 4 0 false i.2.1 i.2.2.1 i.2.2.2.1 i.2.2.2.2), rowE (.slice i.2.1 (jR 4).length i.2.2.2.1) 5 dQ (jR 4), rowE (.slice i.2.2.1 (lz 4 0 4).length i.2.2.2.2) 5 dQ (lz 4 0 4)]) (ok := fun _ => True) rfl Tryz.call33 (fun w hw => ra 4 0 false w (by omega) (by omega)) rfl (fun ib2 _ => ?_)
 obtain ⟨VB2, p2, q2, c2, d2⟩ := ib2
 change Tr _ _ (rowE (VB2) 49 dx (j8 4 0 false p2 q2 c2 d2) :: rowE (.slice p2 (jR 4).length c2) 5 dQ (jR 4) :: rowE (.slice q2 (lz 4 0 4).length d2) 5 dQ (lz 4 0 4) :: _) _ _
 refine dA (V := VB2) (.head _) (fun pb2 cb2 hpv => ?_)
 subst hpv
 refine zz0 (ab rfl) (aH (zz0 (aa rfl) (zz0 (bG (vs := [(2, _), (6, _), (1, _)]) rfl rfl (mW _ _ _)) ?_)))
 refine zz0 (bH rfl bS aU) ?_
 refine gx (E := ao) (l := ([4110, 4110, 4110, 4112] : List UInt32)) (T := 23) (fun V => .tuple #[V, .int .i64 0]) rfl kF (fun w hw => by have q := j4 (j8 4 0 false p2 q2 c2 d2) _ _ Gd HI w (hw.row (by repeat constructor)) (rb (by omega)) (oI (hw.row (by repeat constructor)) (hw.row (by repeat constructor))) oH CP; rw [show HI.get Gd.a = exX from rfl, HN] at q; exact q) rfl (fun T1 => ?_)
 refine zz0 (aa rfl) (zz0 (aL rfl rfl) (zz0 (aL rfl rfl) (zz0 (ab rfl) (zz0 (ab rfl) (ad (al (dW ([cellE b3 (cL.enc HI) 37]) 9 rfl aQ ?_)))))))
 refine zz4 1 rfl (bG (vs := [(2, _), (6, _), (1, _)]) rfl rfl (mW _ _ _)) ?_
 refine zz4 2 rfl (bH rfl bS aU) ?_
 refine cY [0] (fun iq hq => ?_)
 obtain rfl := List.mem_singleton.1 hq
 refine bj rfl ?_
 refine jt (fun i : Value × Option Addr × Option Addr × Nat × Nat => i.1) (fun i : Value × Option Addr × Option Addr × Nat × Nat => [rowE i.1 49 dx (j8 4 0 true i.2.1 i.2.2.1 i.2.2.2.1 i.2.2.2.2), rowE (.slice i.2.1 (jR 4).length i.2.2.2.1) 5 dQ (jR 4), rowE (.slice i.2.2.1 (lz 4 0 4).length i.2.2.2.2) 5 dQ (lz 4 0 4)]) (ok := fun _ => True) rfl Tryz.call33 (fun w hw => ra 4 0 true w (by omega) (by omega)) rfl (fun ib3 _ => ?_)
 obtain ⟨VB3, p3, q3, c3, d3⟩ := ib3
 change Tr _ _ (rowE (VB3) 49 dx (j8 4 0 true p3 q3 c3 d3) :: rowE (.slice p3 (jR 4).length c3) 5 dQ (jR 4) :: rowE (.slice q3 (lz 4 0 4).length d3) 5 dQ (lz 4 0 4) :: _) _ _
 refine dA (V := VB3) (.head _) (fun pb3 cb3 hpv => ?_)
 subst hpv
 refine bN ?_
 refine cY [3] (fun iq hq => ?_)
 obtain rfl := List.mem_singleton.1 hq
 refine bj rfl ?_
 refine gx (E := ao) (l := ([] : List UInt32)) (T := 23) (fun V => .tuple #[V, .int .i64 19]) rfl kF (fun w hw => by have q := j4 (j8 4 0 true p3 q3 c3 d3) _ _ Gd HI w (hw.row (by repeat constructor)) (rb (by omega)) (oI (hw.row (by repeat constructor)) (hw.row (by repeat constructor))) oH CP; rw [show HI.get Gd.a = exX from rfl, HM] at q; exact q) rfl (fun T2 => ?_)
 refine bN ?_
 refine zz4 4 rfl (aa rfl) ?_
 refine zz4 5 rfl (aL rfl rfl) ?_
 refine zz4 6 rfl (aL rfl rfl) ?_
 refine zz4 7 rfl (ab rfl) ?_
 refine zz4 8 rfl (ab rfl) ?_
 refine ij ?_
 refine ac (af (zz0 (aA rfl jb (fun w hw => jP 4112 w)) ?_))
 refine zz0 (zz3 (off := 0) (ft := 26) rfl cm rfl cX) ?_
 refine zz0 (dI rfl rfl cj aj (by omega)) ?_
 refine ga rfl rfl aj (by repeat constructor) (lq (s := HI) (k := (2 : Int)) ⟨by omega, by omega⟩ (by simp) (ia 4112)) (by rfl) (lr (k := (2 : Int)) ⟨by omega, by omega⟩ (by simp)) (by first | exact Enc.one bQ _ | exact List.all_eq_true.1 rfl) rfl ?_
 refine aH (zz0 (aa rfl) (zz0 (bG (vs := [(2, _), (6, _)]) rfl rfl (j1 _ _)) ?_))
 refine zz0 (bH rfl bS aU) ?_
 refine gx (E := ao) (l := ([4112] : List UInt32)) (T := 23) (fun V => .tuple #[V, .int .i64 0]) rfl kF (fun w hw => by have q := j4 (j8 4 0 false p2 q2 c2 d2) _ _ Gc JE w (hw.row (by repeat constructor)) (rb (by omega)) (oI (hw.row (by repeat constructor)) (hw.row (by repeat constructor))) oH CO; rw [show JE.get Gc.a = ia 4112 from rfl, HK] at q; exact q) rfl (fun T3 => ?_)
 refine zz0 (aa rfl) (zz0 (aL rfl rfl) (zz0 (aL rfl rfl) (zz0 (ab rfl) (zz0 (ab rfl) (aH (zz0 (aA rfl f9 (fun w hw => kh w)) ?_))))))
 refine zz0 (zz3 (off := 0) (ft := 26) rfl cm rfl cX) ?_
 refine zz0 (dI rfl rfl cj aj (by omega)) ?_
 refine ga rfl rfl aj (by repeat constructor) (lq (s := JE) (k := (2 : Int)) ⟨by omega, by omega⟩ (by simp) (o9)) (by rfl) (lr (k := (2 : Int)) ⟨by omega, by omega⟩ (by simp)) (by first | exact Enc.one bQ _ | exact List.all_eq_true.1 rfl) rfl ?_
 refine aH (zz0 (aa rfl) (zz0 (bG (vs := [(2, _), (6, _)]) rfl rfl (j1 _ _)) ?_))
 refine zz0 (bH rfl bS aU) ?_
 refine gx (E := ao) (l := ([] : List UInt32)) (T := 23) (fun V => .tuple #[V, .int .i64 19]) rfl kF (fun w hw => by have q := j4 (j8 4 0 false p2 q2 c2 d2) _ _ Gc JQ w (hw.row (by repeat constructor)) (rb (by omega)) (oI (hw.row (by repeat constructor)) (hw.row (by repeat constructor))) oH CO; rw [show JQ.get Gc.a = o9 from rfl, HJ] at q; exact q) rfl (fun T4 => ?_)
 refine zz0 (aa rfl) (zz0 (aL rfl rfl) (zz0 (aL rfl rfl) (zz0 (ab rfl) (zz0 (ab rfl) (aH (zz0 (aa rfl) (zz0 (bB rfl rfl) (zz0 (aa rfl) (zz5 rfl (aa rfl) ?_)))))))))
 refine vI rfl rfl rfl ?_
 refine iQ (E := ao) (4103 : UInt32) rfl rfl ah ae c9 (fun V4 => ?_)
 refine zz5 rfl (aA rfl qC (fun w hw => qj [4103] [4103] _ _ w (hw.row (by repeat constructor)) (hw.row (by repeat constructor)))) ?_
 refine zz0 (jG rfl rfl rfl) ?_
 refine zz0 (aa rfl) (zz5 rfl (aa rfl) ?_)
 refine zz5 rfl (ln rfl dE) ?_
 refine zz5 rfl (bB rfl rfl) ?_
 refine zz0 (jG rfl rfl rfl) ?_
 refine zz0 (aa rfl) (zz5 rfl (aa rfl) ?_)
 refine zz5 rfl (vP (E := dL (α := UInt32)) (l := [⟨[4109, 4110, 4111], pr, cr⟩]) (i := 0) rfl rfl (by repeat constructor) dE cP (by rfl) (by simp)) ?_
 refine zz5 rfl (Dc (E := dL (α := UInt32)) (l := [⟨[4109, 4110, 4111], pr, cr⟩]) (i := 0) rfl (by repeat constructor) dV (by simp) (by rfl)) ?_
 refine vI rfl rfl rfl ?_
 refine sc (E := ao) ([4109, 4110, 4111] : List UInt32) (vs := [(0, _), (1, _), (2, _)]) rfl rfl ah ae c9 (by rfl) (by rfl) rfl (by first | kernel_rfl | rfl) rfl (fun V5 => ?_)
 refine zz5 rfl (aA rfl qC (fun w hw => qj [4109, 4110, 4111] [4109, 4110, 4111] _ _ w (hw.row (by repeat constructor)) (hw.row (by repeat constructor)))) ?_
 refine zz0 (jG rfl rfl rfl) ?_
 refine zz0 (aa rfl) (zz5 rfl (zz3 (off := 0) (ft := 50) rfl cF rfl dz) ?_)
 refine zz5 rfl (aJ rfl dR) ?_
 refine zz5 rfl (ln rfl aM) ?_
 refine zz5 rfl (bB rfl rfl) ?_
 refine zz0 (jG rfl rfl rfl) ?_
 refine zz0 (aa rfl) (zz5 rfl (zz3 (off := 2) (ft := 31) rfl cF rfl cP) ?_)
 refine zz5 rfl (aJ rfl dV) ?_
 refine zz5 rfl (ln rfl ah) ?_
 refine zz5 rfl (bB rfl rfl) ?_
 refine zz0 (jG rfl rfl rfl) ?_
 refine zz0 (aa rfl) (zz5 rfl (aa rfl) ?_)
 refine zz5 rfl (bB rfl rfl) ?_
 refine zz0 (jG rfl rfl rfl) ?_
 refine zz0 (aa rfl) (zz5 rfl (aa rfl) ?_)
 refine vI rfl rfl rfl ?_
 refine sc (E := ao) ([4110, 4110, 4110, 4112] : List UInt32) (vs := [(0, _), (1, _), (2, _), (3, _)]) rfl rfl ah ae c9 (by rfl) (by rfl) rfl (by first | kernel_rfl | rfl) rfl (fun V6 => ?_)
 refine zz5 rfl (aA rfl qC (fun w hw => qj [4110, 4110, 4110, 4112] [4110, 4110, 4110, 4112] _ _ w (hw.row (by repeat constructor)) (hw.row (by repeat constructor)))) ?_
 refine zz0 (jG rfl rfl rfl) ?_
 refine zz0 (aa rfl) (zz5 rfl (aa rfl) ?_)
 refine zz5 rfl (bB rfl rfl) ?_
 refine zz0 (jG rfl rfl rfl) ?_
 refine zz0 (aa rfl) (zz5 rfl (aa rfl) ?_)
 refine zz5 rfl (bB rfl rfl) ?_
 refine zz0 (jG rfl rfl rfl) ?_
 refine zz0 (aa rfl) (zz5 rfl (aa rfl) ?_)
 refine vI rfl rfl rfl ?_
 refine iQ (E := ao) (4112 : UInt32) rfl rfl ah ae c9 (fun V7 => ?_)
 refine zz5 rfl (aA rfl qC (fun w hw => qj [4112] [4112] _ _ w (hw.row (by repeat constructor)) (hw.row (by repeat constructor)))) ?_
 refine zz0 (jG rfl rfl rfl) ?_
 refine zz0 (aa rfl) (zz5 rfl (aa rfl) ?_)
 refine zz5 rfl (bB rfl rfl) ?_
 refine zz0 (jG rfl rfl rfl) ?_
 refine zz0 (aa rfl) (zz5 rfl (aa rfl) ?_)
 refine zz5 rfl (aA rfl Tryz.call23 (fun w hw => vp (j8 4 0 false p2 q2 c2 d2) _ _ 12288 4 w (hw.row (by repeat constructor)) (rb (by omega)) (oI (hw.row (by repeat constructor)) (hw.row (by repeat constructor))) oH)) ?_
 rw [HQ]
 refine zz0 (jG rfl rfl rfl) ?_
 refine zz0 (aa rfl) (zz5 rfl (aa rfl) ?_)
 refine zz5 rfl (aA rfl Tryz.call23 (fun w hw => vp (j8 4 0 false p2 q2 c2 d2) _ _ 12288 5 w (hw.row (by repeat constructor)) (rb (by omega)) (oI (hw.row (by repeat constructor)) (hw.row (by repeat constructor))) oH)) ?_
 rw [HO]
 refine zz5 rfl (cQ rfl) ?_
 refine zz0 (jG rfl rfl rfl) ?_
 refine zz0 (ab rfl) (ad (aB ?_))
 refine aV Tryz.results11 rfl (fun w' hw => ?_)
 exact ⟨rfl, hw.below0 (Bg.le.refl _)⟩
end Go.Proofs.YtiajjbhcpeadfaaGreat
namespace Go.HL
open Go
def l8 (l : List SecV) : Nat → Int
 | 0 => 0
 | k + 1 => l8 l k + min ((l.getD k default).data.length : Int) 600
theorem wA (l : List SecV) (k : Nat) : ∀ n, l8 l k ≤ l8 l (k + n)
 | 0 => Int.le_refl _
 | n + 1 => by
  have := wA l k n
  show l8 l k ≤ l8 l (k + n) + min ((l.getD (k + n) default).data.length : Int) 600
  omega
theorem xP {l : List SecV} {k n : Nat} (h : k ≤ n) : l8 l k ≤ l8 l n := by
 have := wA l k (n - k)
 rw [show k + (n - k) = n by omega] at this; exact this
def tt (l : List SecV) : Bool := decide ((l.length : Int) < 20) && decide (l8 l l.length < 600)
structure Sm16 (l : List SecV) : Prop where
 secB : SecB l
 tot : totD l ≤ 600
theorem ze {l : List SecV} : ∀ {k : Nat}, k ≤ l.length → l8 l k < 600 → (totD (l.take k) : Int) = l8 l k
 | 0, _, _ => by simp [totD, l8]
 | k + 1, hk, h => by
  have h1 : l8 l (k + 1) = l8 l k + min ((l.getD k default).data.length : Int) 600 := rfl
  have h2 := xP (l := l) (Nat.zero_le k)
  have h3 : l8 l 0 = 0 := rfl
  have ih := ze (l := l) (k := k) (by omega) (by omega)
  have e : totD (l.take (k + 1)) = totD (l.take k) + (l.getD k default).data.length := by
   rw [dm (by omega)]; unfold totD; rw [List.map_append, List.sum_append]; simp
  rw [e]; omega
theorem Cl : ∀ {l : List SecV} {s : SecV}, s ∈ l → s.data.length ≤ totD l
 | x :: l, s, h => by
  have e : totD (x :: l) = x.data.length + totD l := by simp [totD]
  rcases List.mem_cons.1 h with rfl | h
  ·omega
  ·have := Cl h; omega
theorem Cp {l : List SecV} (h : tt l = true) : Sm16 l := by
 unfold tt at h
 simp only [Bool.and_eq_true, decide_eq_true_eq] at h
 have ht := ze (l := l) (Nat.le_refl _) h.2
 rw [List.take_length] at ht
 exact ⟨⟨by omega, fun s hs => by have := Cl hs; omega⟩, by omega⟩
end Go.HL
namespace Go.Proofs.YtiajjbhcpeadfaaGreat
open Go Go.HL Go.RowKit
theorem zo (l : List SecV) (V : Value) (w : World) (hV : Sl (hp w) dx l V) (hz : ∀ s ∈ l, s.data.length ≤ 140737488351232) :
  Calls Tryz.prog 10 #[V] w (fun e w' => e = .returned (.bool (tt l)) ∧ Ext w w') := by
 have hV' : Sl (Bg.of w).blk dx l V := hV
 have hlen := hV.len_le
 refine enter Tryz.func10 rfl Tryz.ntmps10 rfl ?_
 refine af (zz0 (ab rfl) (ad (al (af (zz0 (aa rfl) (zz0 (gW rfl cG) ?_))))))
 refine zz0 (eJ rfl rfl) (ad ?_)
 refine ar rfl ?_ ?_ <;> intro h1 <;> try simp only [bs] at h1
 ·refine af (zz0 (ab rfl) (ad (aB (ay ?_))))
  refine aV Tryz.results10 rfl (fun w' hw => ?_)
  exact ⟨by unfold tt; rw [decide_eq_false (by omega), Bool.false_and], hw.b0⟩
 ·refine dl (zz0 (ab rfl) (ad (al (af (zz0 (ab rfl) (ad (aF ?_)))))))
  refine bL (ι := Nat) (fun k => k ≤ l.length ∧ l8 l k < 600) (fun _ => _) (fun k => []) (fun k => [(4, .int .i64 (k : Nat)), (3, .int .i64 (l8 l k))]) (fun k => l.length - k) 0 ⟨Nat.zero_le _, by show (0 : Int) < 600; decide⟩ (Front.c (Front.c Front.nil)) (by repeat' constructor) rfl (fun k hi m hm => ?_)
  replace hi : k ≤ l.length ∧ l8 l k < 600 := hi
  replace hm : m = l.length - k := hm
  change Tr _ _ [] ([(4, .int .i64 (k : Nat)), (3, .int .i64 (l8 l k))] ++ _) _
  obtain ⟨hk1, hk2⟩ := hi
  have hk0 : 0 ≤ l8 l k := xP (l := l) (Nat.zero_le k)
  have hbk : k < l.length → (l.getD k default).data.length ≤ 140737488351232 := fun q => hz _ (cM q)
  refine al (af (zz0 (aa rfl) (zz0 (aa rfl) (zz0 (gW rfl cG) ?_))))
  refine zz0 (bU rfl rfl) (ad ?_)
  refine ar rfl ?_ ?_ <;> intro h2 <;> try simp only [bs] at h2
  ·refine bF (al (aF (af (zz0 (aa rfl) (zz0 (aa rfl) (zz0 (aa rfl) (zz0 (je rfl rfl cG de) ?_)))))))
   refine zz0 (zz3 (off := 2) (ft := 47) rfl cT rfl fZ) ?_
   refine zz0 (qe rfl (by assumption) gR (by omega) (by rfl)) ?_
   refine zz0 (kJ rfl bh) ?_
   refine zz0 (qF rfl rfl) ?_
   refine zz0 (cp rfl rfl) ?_
   refine zz0 (ab rfl) (aH (zz0 (aa rfl) (zz0 (eJ rfl rfl) (ad ?_))))
   refine ar rfl ?_ ?_ <;> intro h3 <;> try simp only [bs] at h3
   ·refine af (zz0 (ab rfl) (ad (aB (bA (ay (ay (bA (ay ?_))))))))
    refine aV Tryz.results10 rfl (fun w' hw => ?_)
    have hle := xP (l := l) (show k + 1 ≤ l.length by omega)
    have he : l8 l (k + 1) = l8 l k + min ((l.getD k default).data.length : Int) 600 := rfl
    exact ⟨by unfold tt; rw [decide_eq_false (p := l8 l l.length < 600) (by omega), Bool.and_false], hw.b0⟩
   ·refine cg (aX (ac (an (zz0 (aa rfl) (zz0 (cp rfl rfl) ?_)))))
    refine zz0 (ab rfl) (ad ?_)
    refine cH (k + 1) (Front.c (Front.c Front.nil)) (bC 21 rfl) (o := ⟨by omega, by show l8 l k + min ((l.getD k default).data.length : Int) 600 < 600; omega⟩)
  ·refine bJ (aG (aG (bv (ac (af (zz0 (ab rfl) (ad (aB ?_))))))))
   refine aV Tryz.results10 rfl (fun w' hw => ?_)
   obtain rfl : k = l.length := by omega
   exact ⟨by unfold tt; rw [decide_eq_true hk2, decide_eq_true (by omega)]; rfl, hw.b0⟩
end Go.Proofs.YtiajjbhcpeadfaaGreat
namespace Go.HL
open Go
theorem Dl {s : VSet} (hv : ir s = true) (h : ¬(s.top = true ∨ s.em = true)) (h0 : s.st = 0) : s.lo = s.hi := by
 unfold ir at hv
 rw [if_neg h, if_pos h0, decide_eq_true_eq] at hv; exact hv
theorem IY {s : VSet} {n : UInt32} (h : ¬((ba s).top = true ∨ (ba s).em = true)) (h2 : n < (ba s).lo ∨ (ba s).hi < n) : pP s n = false := by
 unfold pP Ad
 rw [if_neg h]
 split
 ·rename_i q
  rw [decide_eq_false_iff_not]
  have := Dl (mJ s) h q
  rintro rfl
  rw [← this] at h2
  rcases h2 with h2 | h2 <;> exact absurd h2 (UInt32.lt_irrefl _)
 ·rcases h2 with h2 | h2
  ·rw [decide_eq_false (by rw [UInt32.not_le]; exact h2), Bool.false_and, Bool.false_and]
  ·rw [decide_eq_false (p := n ≤ _) (by rw [UInt32.not_le]; exact h2), Bool.and_false, Bool.false_and]
end Go.HL
namespace Go.Proofs.YtiajjbhcpeadfaaGreat
open Go Go.HL Go.RowKit
theorem zl (s : StV) (w : World) :
  Calls Tryz.prog 13 #[.agg (cL.enc s).toArray] w (fun e w' => e = .returned (.agg (cL.enc s).toArray) ∧ Ext w w') := by
 refine enter Tryz.func13 rfl Tryz.ntmps13 rfl ?_
 refine af ?_
 refine dO rfl rfl (fun b1 => ?_)
 refine dB cS rfl (fun b2 => ?_)
 refine aH (zz0 (zz3 (off := 0) (ft := 26) rfl lB rfl cX) ?_)
 refine zz0 (xF rfl (by repeat constructor) Tryz.isAgg26 cX (by rfl)) ?_
 refine zz0 (bG (vs := [(0, _)]) rfl rfl (ww _ _ _ _ _ _ _ _ _ _ _ _ _ _ _ _ _ _ _ _ _ _ _ _ _ _ _ _ _ _ _ _ _ _ _ _ _ _ _ _)) ?_
 refine az cL rfl rfl aU ?_
 refine ad (aB ?_)
 refine eY Tryz.results13 rfl bS aU (fun w' hw => ?_)
 exact ⟨rfl, hw.b0⟩
end Go.Proofs.YtiajjbhcpeadfaaGreat
namespace Go.Proofs.YtiajjbhcpeadfaaGreat
open Go Go.HL Go.RowKit
theorem DZ (bM bm : Nat) (VR : Value) (w : World) (hC : CellsIn (hp w) bM [VR, .map (some bm)]) :
  Calls Tryz.prog 48 #[.pointer (some ⟨bM, 0, none⟩)] w (fun e w' => e = .returned (.bool true) ∧ Ext w w') := by
 have hC' : CellsIn (Bg.of w).blk bM [VR, .map (some bm)] := hC
 refine enter Tryz.func48 rfl Tryz.ntmps48 rfl ?_
 refine af (zz0 (ab rfl) (aH (zz0 (aa rfl) (zz0 (G1 rfl rfl Tryz.underlying39 rfl) ?_))))
 refine zz0 (aa rfl) ?_
 apply cE
 ·exact (rfl : _ = (6, 5, 11))
 ·exact rfl
 ·intro hT1; have hT1' := hT1
  try simp only [bs] at hT1'
  refine zz5 hT1 (aa rfl) (zz5 hT1 (aY rfl) ?_)
  refine zz5 hT1 (zz3 (off := 1) (ft := 99) rfl eB rfl Tryz.sizeOf99) ?_
  refine zz5 hT1 (kV rfl Tryz.isAgg99) ?_
  refine zz5 hT1 (G3 rfl rfl Tryz.underlying99 rfl) ?_
  refine zz0 (aS rfl hT1 rfl) ?_
  refine aD (ac ?_)
  exact aI (Sub.cons rfl (zz9 6 rfl))
 ·intro hF1
  refine zz8 hF1 (zz8 hF1 (zz8 hF1 (zz8 hF1 (zz8 hF1 (zz0 (aT rfl hF1 rfl) ?_)))))
  refine aD (ac ?_)
  exact aI (Sub.cons rfl (zz9 6 rfl))
 refine zz0 (ab rfl) (ad (aB ?_))
 refine aV Tryz.results48 rfl (fun w' hw => ?_)
 exact ⟨rfl, hw.b0⟩
theorem Bp (n : Int) (w : World) :
  Calls Tryz.prog 49 #[.int .i64 n] w (fun e w' => e = .returned (.bool (tZ n)) ∧ Ext w w') := by
 refine enter Tryz.func49 rfl Tryz.ntmps49 rfl ?_
 refine af (zz0 (ab rfl) (aH (zz0 (aa rfl) (zz0 (bB rfl rfl) (zz0 (aa rfl) ?_)))))
 apply dH
 ·exact (rfl : _ = (3, 5, 8))
 ·exact rfl
 ·intro hF1; have hF1' := hF1
  try simp only [bs] at hF1'
  refine zz5 hF1 (aa rfl) (zz5 hF1 (bB rfl rfl) (zz0 (aT rfl hF1 rfl) ?_))
  refine aD (ac ?_)
  exact aI (Sub.cons rfl (zz9 3 rfl))
 ·intro hT1
  refine zz8 hT1 (zz8 hT1 (zz0 (aS rfl hT1 rfl) ?_))
  refine aD (ac ?_)
  exact aI (Sub.cons rfl (zz9 3 rfl))
 refine zz0 (aa rfl) ?_
 apply dH
 ·exact (rfl : _ = (3, 9, 12))
 ·exact rfl
 ·intro hF2; have hF2' := hF2
  try simp only [bs] at hF2'
  refine zz5 hF2 (aa rfl) (zz5 hF2 (bB rfl rfl) (zz0 (aT rfl hF2 rfl) ?_))
  refine aD (ac ?_)
  exact aI (Sub.cons rfl (zz9 3 rfl))
 ·intro hT2
  refine zz8 hT2 (zz8 hT2 (zz0 (aS rfl hT2 rfl) ?_))
  refine aD (ac ?_)
  exact aI (Sub.cons rfl (zz9 3 rfl))
 refine zz0 (ab rfl) (ad (aB ?_))
 refine aV Tryz.results49 rfl (fun w' hw => ?_)
 exact ⟨by unfold tZ; congr 2; rw [Bool.eq_iff_iff]; simp [or_assoc], hw.b0⟩
theorem D2 (bM bm : Nat) (VR : Value) (rs : List RegV) (l : List SecV) (a : UInt32) (w : World) (hM : MemAt (hp w) bM bm VR rs) (hO : MemOK l rs) :
  Calls Tryz.prog 105 #[.pointer (some ⟨bM, 0, none⟩), .int .u32 a.toNat] w (fun e w' => e = .returned (.tuple #[.agg (fC.enc (fg rs a)).toArray, .bool (decide (¬ jM rs a < 0))]) ∧ Ext w w') := by
 have hC' : CellsIn (Bg.of w).blk bM [VR, .map (some bm)] := hM.cells
 have hR' : Sl (Bg.of w).blk fC rs VR := hM.regs
 have hM' : MemAt (Bg.of w).blk bM bm VR rs := hM
 have hrl := hO.bounds.1
 refine enter Tryz.func105 rfl Tryz.ntmps105 rfl ?_
 refine af ?_
 refine dB eL rfl (fun b1 => ?_)
 refine zz0 (ab rfl) (ad (al (af (zz0 (aa rfl) (zz0 (aY rfl) ?_)))))
 refine zz0 (zz3 (off := 0) (ft := 100) rfl eB rfl eI) ?_
 refine zz0 (kV rfl js) ?_
 refine zz0 (gW rfl dC) ?_
 refine zz0 (aa rfl) (ad (aF ?_))
 refine bL (ι := Nat) (fun k => k ≤ rs.length ∧ dw (inG a) k (rs.drop k) = dw (inG a) 0 rs) (fun _ => _) (fun k => [cellE b1 [.int .u64 0, .slice none 0 0, .bool false, .bool false] 107]) (fun k => [(14, .int .i64 (k : Nat))]) (fun k => rs.length - k) 0 ⟨Nat.zero_le _, rfl⟩ (Front.c Front.nil) (by repeat' constructor) rfl (fun k hi m hm => ?_)
 replace hi : k ≤ rs.length ∧ dw (inG a) k (rs.drop k) = dw (inG a) 0 rs := hi
 replace hm : m = rs.length - k := hm
 change Tr _ _ [cellE b1 [.int .u64 0, .slice none 0 0, .bool false, .bool false] 107] ([(14, .int .i64 (k : Nat))] ++ _) _
 obtain ⟨hk1, hk2⟩ := hi
 refine af (zz0 (bU rfl rfl) (ad (al ?_)))
 refine ar rfl ?_ ?_ <;> intro h2 <;> try simp only [bs] at h2
 ·refine bF (al (aF (al ?_)))
  have hbk := hO.bounds.2 (rs.getD k default) (cM (by omega))
  have hal := a.toNat_lt
  refine an (zz0 (je rfl rfl dC dn) ?_)
  refine zz0 (o7 rfl iF dn) ?_
  refine dB eL rfl (fun b3 => ?_)
  refine az fC rfl rfl dn ?_
  refine aH (zz0 (aa rfl) (zz0 (dS rfl aP bO) (zz0 (ab rfl) (aH (zz0 (aa rfl) (zz0 (zz3 (off := 0) (ft := 43) rfl fw rfl mR) ?_))))))
  refine zz0 (aJ rfl oJ) ?_
  refine zz0 (eJ rfl rfl) (zz0 (aa rfl) ?_)
  apply cE
  ·exact (rfl : _ = (10, 24, 34))
  ·exact rfl
  ·intro hT4; have hT4' := hT4
   try simp only [bs] at hT4'
   refine zz5 hT4 (aa rfl) (zz5 hT4 (zz3 (off := 0) (ft := 43) rfl fw rfl mR) ?_)
   refine zz5 hT4 (aJ rfl oJ) ?_
   refine zz5 hT4 (zz3 (off := 1) (ft := 47) rfl fw rfl fZ) ?_
   refine zz5 hT4 (aJ rfl gR) ?_
   refine zz5 hT4 (kJ rfl bh) ?_
   refine zz5 hT4 (eG rfl aZ bO (IntWalk.u64_in _ (by omega))) ?_
   refine zz5 hT4 (mU rfl rfl (by omega)) ?_
   refine zz5 hT4 (bU rfl rfl) (zz0 (aS rfl hT4 rfl) ?_)
   refine aD (ac ?_)
   exact aI (Sub.cons rfl (zz9 10 rfl))
  ·intro hF4
   refine zz8 hF4 (zz8 hF4 (zz8 hF4 (zz8 hF4 (zz8 hF4 (zz8 hF4 (zz8 hF4 (zz8 hF4 (zz8 hF4 (zz0 (aT rfl hF4 rfl) ?_)))))))))
   refine aD (ac ?_)
   exact aI (Sub.cons rfl (zz9 10 rfl))
  refine ad ?_
  refine ar rfl ?_ ?_ <;> intro h5 <;> try simp only [bs] at h5
  ·refine af (zz0 (bH rfl iF dn) ?_)
   refine az fC rfl rfl dn ?_
   refine zz0 (ab rfl) (ad (aB (bA (ay (ay (bA (ay ?_)))))))
   refine kf Tryz.results105 rfl rfl iF dn (fun w' hw => ?_)
   have hyes : inG a (rs.getD k default) = true := by unfold inG; rw [Bool.and_eq_true, decide_eq_true_eq, decide_eq_true_eq]; omega
   have hix : jM rs a = (k : Int) := by unfold jM; rw [← hk2, drop_cons (k := k) (by omega), dw, if_pos hyes]
   exact ⟨by unfold fg; rw [hix, if_neg (by omega), decide_eq_true (by omega)]; rfl, hw.b0⟩
  ·refine cg (aX (ac (an (zz0 (cp rfl rfl) ?_))))
   refine zz0 (aa rfl) (ad ?_)
   have hne : inG a (rs.getD k default) = false := by unfold inG; rw [Bool.and_eq_false_iff, decide_eq_false_iff_not, decide_eq_false_iff_not]; omega
   refine cH (k + 1) (Front.c Front.nil) (bC 16 rfl) (o := ⟨by omega, by rw [← hk2, drop_cons (k := k) (by omega), dw, if_neg (by rw [hne]; simp)]⟩)
 ·refine bJ (aG (aG (bv (ac (af (zz0 (bG (vs := []) rfl rfl (su)) ?_))))))
  refine az fC rfl rfl dn ?_
  refine zz0 (ab rfl) (ad (aB ?_))
  refine kf Tryz.results105 rfl rfl iF dn (fun w' hw => ?_)
  have hix : jM rs a = -1 := by unfold jM; rw [← hk2, List.drop_of_length_le (by omega)]; rfl
  exact ⟨by unfold fg; rw [hix, if_pos (by decide), decide_eq_false (by decide)]; rfl, hw.b0⟩
theorem DX (bM bm : Nat) (VR : Value) (r : RegV) (a : UInt32) (n : Nat) (wl : WL) (w : World) (hC : CellsIn (hp w) bM [VR, .map (some bm)]) (hW : MapIn (hp w) bm u8V wl) (hr : Sl (hp w) dQ r.data (.slice r.dp r.data.length r.dc)) (h1 : r.org ≤ a.toNat) (h2 : a.toNat ≤ r.org + r.data.length) (h3 : r.org + r.data.length ≤ 4294967295) (hn : n ≤ 100) :
  Calls Tryz.prog 51 #[.pointer (some ⟨bM, 0, none⟩), .agg (fC.enc r).toArray, .int .u32 a.toNat, .int .i64 (n : Nat)] w (fun e w' => ∃ V', e = .returned V' ∧ Ext w w' ∧ ju w w' 5 dQ (zD r wl a n) V') := by
 have hC' : CellsIn (Bg.of w).blk bM [VR, .map (some bm)] := hC
 have hW' : MapIn (Bg.of w).blk bm u8V wl := hW
 have hr' : Sl (Bg.of w).blk dQ r.data (.slice r.dp r.data.length r.dc) := hr
 have hal := a.toNat_lt
 refine enter Tryz.func51 rfl Tryz.ntmps51 rfl ?_
 refine af ?_
 refine dO rfl rfl (fun b1 => ?_)
 refine zz0 (ab rfl) (aH (zz0 (aa rfl) (zz0 (dS rfl aP bO) (zz0 (zz3 (off := 0) (ft := 43) rfl fw rfl mR) ?_))))
 refine zz0 (aJ rfl oJ) ?_
 refine zz0 (uD rfl rfl (by omega)) ?_
 refine zz0 (eG rfl bO aZ (IntWalk.i64_in _ (by omega))) ?_
 refine zz0 (ab rfl) (aH (zz0 (zz3 (off := 1) (ft := 47) rfl fw rfl fZ) ?_))
 refine zz0 (aJ rfl gR) ?_
 refine zz0 (aa rfl) (zz0 (aa rfl) (zz0 (aa rfl) (zz0 (cp rfl rfl) ?_)))
 refine zz0 (zz3 (off := 1) (ft := 47) rfl fw rfl fZ) ?_
 refine zz0 (aJ rfl gR) ?_
 refine zz0 (gW rfl bh) ?_
 refine zz0 (qF rfl rfl) ?_
 refine zz0 (Df (lv := some (_, _)) (hv := some (_, _)) rfl rfl rfl bh dF) ?_
 refine fG rfl qA (fun w hw => rZ ((r.data.take (min (((a.toNat : Int) - r.org) + n) (r.data.length : Int)).toNat).drop ((a.toNat : Int) - r.org).toNat) _ w (Sl.resl (l := ((a.toNat : Int) - r.org).toNat) (h := (min (((a.toNat : Int) - r.org) + n) (r.data.length : Int)).toNat) (hw.slF hr') (by omega) (by omega)) (by simp only [List.length_drop, List.length_take]; omega)) rfl (fun V2 => ?_)
 refine zz0 (ab rfl) (ad (al (al ?_)))
 obtain ⟨base, hbase⟩ : ∃ base, base = ((r.data.take (min (((a.toNat : Int) - r.org) + n) (r.data.length : Int)).toNat).drop ((a.toNat : Int) - r.org).toNat) := ⟨_, rfl⟩
 rw [← hbase]
 have hbl : base.length ≤ 100 := by rw [hbase, List.length_drop, List.length_take]; omega
 refine f7 (l' := (ovr wl a (base.take 0) ++ base.drop 0)) (by simp [ovr]) ?_
 have hcl : ∀ k, k ≤ base.length → (ovr wl a (base.take k) ++ base.drop k).length = base.length := fun k hk => by rw [List.length_append, qk, List.length_take, List.length_drop]; omega
 refine an (zz0 (aa rfl) (zz0 (ln (l := (ovr wl a (base.take 0) ++ base.drop 0)) rfl bh) ?_))
 refine zz0 (aa rfl) (ad (aF ?_))
 have hlen0 := hcl 0 (Nat.zero_le _)
 refine bL (ι := Nat) (fun k => k ≤ base.length) (fun _ => _) (fun k => [rowE V2 5 dQ (ovr wl a (base.take k) ++ base.drop k), cellE b1 (fC.enc r) 107]) (fun k => [(34, .int .i64 (k : Nat)), (33, .int .i64 (base.length : Nat))]) (fun k => base.length - k) 0 (Nat.zero_le _) (Front.c (Front.c Front.nil)) (by repeat' constructor) rfl (fun k hi m hm => ?_)
 replace hi : k ≤ base.length := hi
 replace hm : m = base.length - k := hm
 change Tr _ _ [rowE V2 5 dQ (ovr wl a (base.take k) ++ base.drop k), cellE b1 (fC.enc r) 107] ([(34, .int .i64 (k : Nat)), (33, .int .i64 (base.length : Nat))] ++ _) _
 refine af (zz0 (bU rfl rfl) (ad (al ?_)))
 refine ar rfl ?_ ?_ <;> intro h3 <;> try simp only [bs] at h3
 ·refine bF (al (aF (af (zz0 (aa rfl) (zz0 (ab rfl) (aH (zz0 (aa rfl) (zz0 (aY rfl) ?_))))))))
  refine zz0 (zz3 (off := 1) (ft := 99) rfl eB rfl Tryz.sizeOf99) ?_
  refine zz0 (kV rfl Tryz.isAgg99) ?_
  refine zz0 (aa rfl) (zz0 (aa rfl) (zz0 (ie rfl aZ aP) (zz0 (gV rfl rfl) ?_)))
  refine zz0 (AV rfl rfl hW' Tryz.underlying99 aP jS) ?_
  refine zz0 (aa rfl) (zz0 (aL rfl rfl) (zz0 (aL rfl rfl) (zz0 (ab rfl) (zz0 (ab rfl) (aH (zz0 (aa rfl) (ad ?_)))))))
  refine ar rfl ?_ ?_ <;> intro h4 <;> try simp only [bs] at h4
  ·have hlen := hcl k (by omega)
   refine an (zz0 (aa rfl) (zz0 (aa rfl) (zz0 (aa rfl) (zz0 (zz7 rfl rfl bh dF) ?_))))
   refine gg (l := (ovr wl a (base.take k) ++ base.drop k)) (i := k) (((dJ wl (a + u32 (k : Int))).getD 0)) rfl rfl dF ?_
   have hls5 : (List.set (ovr wl a (base.take k) ++ base.drop k) (k) (((dJ wl (a + u32 (k : Int))).getD 0))).length = ((ovr wl a (base.take k) ++ base.drop k)).length := List.length_set
   refine aD (aX (ac (an (zz0 (cp rfl rfl) ?_))))
   refine zz0 (aa rfl) (ad ?_)
   obtain ⟨x, hx⟩ := Option.isSome_iff_exists.1 (show (dJ wl (a + u32 (k : Int))).isSome = true by assumption)
   rw [hx, Option.getD_some, Ht (by omega) (by rw [← Ck]; exact hx)]
   refine cH (k + 1) (Front.c (Front.c Front.nil)) (bC 26 rfl) (o := (by show k + 1 ≤ _; omega))
  ·refine cg (aX (ac (an (zz0 (cp rfl rfl) ?_))))
   refine zz0 (aa rfl) (ad ?_)
   rw [IK (by omega) (by rw [← Ck]; exact Option.isNone_iff_eq_none.1 (by simp_all))]
   refine cH (k + 1) (Front.c (Front.c Front.nil)) (bC 22 rfl) (o := (by show k + 1 ≤ _; omega))
 ·refine bJ (aG (aG (bv (ac (af (zz0 (aa rfl) (zz0 (ab rfl) (ad (aB ?_)))))))))
  refine aV Tryz.results51 rfl (fun w' hw => ?_)
  have hfin : (ovr wl a (base.take k) ++ base.drop k) = zD r wl a n := by
   rw [List.take_of_length_le (by omega), List.drop_of_length_le (by omega), List.append_nil, hbase]
   unfold zD
   congr 1
   rw [List.drop_take, show ((a.toNat : Int) - r.org).toNat = a.toNat - r.org by omega, List.take_eq_take_iff, List.length_drop]
   omega
  rw [hfin] at hw
  exact ⟨_, rfl, hw.b0, hw.new (.head _)⟩
theorem zN (bM bm : Nat) (VR : Value) (rs : List RegV) (l : List SecV) (a : UInt32) (n : Int) (w : World) (hM : MemAt (hp w) bM bm VR rs) (hO : MemOK l rs) (hn : 1 ≤ n ∧ n ≤ 100) :
  Calls Tryz.prog 50 #[.pointer (some ⟨bM, 0, none⟩), .int .u32 a.toNat, .int .i64 n] w (fun e w' => e = .returned (.tuple #[.agg (fC.enc (D5 l rs a n)).toArray, .int .i64 (pM l a n)]) ∧ Ext w w') := by
 have hC' : CellsIn (Bg.of w).blk bM [VR, .map (some bm)] := hM.cells
 have hR' : Sl (Bg.of w).blk fC rs VR := hM.regs
 have hM' : MemAt (Bg.of w).blk bM bm VR rs := hM
 have hrl := hO.bounds.1
 have hal := a.toNat_lt
 refine enter Tryz.func50 rfl Tryz.ntmps50 rfl ?_
 refine af ?_
 refine dB eL rfl (fun b1 => ?_)
 refine zz0 (ab rfl) (aH (zz0 (aa rfl) (zz0 (aa rfl) (zz0 (aA rfl Tryz.call105 (fun w hw => D2 bM bm VR rs l a w (hM'.mono hw.bg) hO)) ?_))))
 refine zz0 (aa rfl) (zz0 (aL rfl rfl) (zz0 (aL rfl rfl) ?_))
 refine dB eL rfl (fun b2 => ?_)
 refine az fC rfl rfl dn ?_
 refine zz0 (ab rfl) (ad (al (af (zz0 (aa rfl) (zz0 (cQ rfl) (zz0 (aa rfl) ?_))))))
 apply dH
 ·exact (rfl : _ = (14, 18, 32))
 ·exact rfl
 ·intro hF3; have hF3' := hF3
  try simp only [bs] at hF3'
  have hf : ¬ jM rs a < 0 := by simp_all
  obtain ⟨_, _, _, hg1, hg2⟩ := hO.reg hf
  have hg3 := hO.top hf
  refine zz5 hF3 (aa rfl) (zz5 hF3 (eG rfl aZ bO (IntWalk.u64_in _ (by omega))) ?_)
  refine zz5 hF3 (zz3 (off := 0) (ft := 43) rfl fw rfl mR) ?_
  refine zz5 hF3 (aJ rfl oJ) ?_
  refine zz5 hF3 (zz3 (off := 1) (ft := 47) rfl fw rfl fZ) ?_
  refine zz5 hF3 (aJ rfl gR) ?_
  refine zz5 hF3 (kJ rfl bh) ?_
  refine zz5 hF3 (eG rfl aZ bO (IntWalk.u64_in _ (by omega))) ?_
  refine zz5 hF3 (mU rfl rfl (by omega)) ?_
  refine zz5 hF3 (aa rfl) (zz5 hF3 (dS rfl aP bO) (zz5 hF3 (uD rfl rfl (by omega)) ?_))
  refine zz5 hF3 (fj rfl rfl) (zz0 (aT rfl hF3 rfl) ?_)
  refine aD (ac ?_)
  exact aI (Sub.cons rfl (zz9 14 rfl))
 ·intro hT3
  refine zz8 hT3 (zz8 hT3 (zz8 hT3 (zz8 hT3 (zz8 hT3 (zz8 hT3 (zz8 hT3 (zz8 hT3 (zz8 hT3 (zz8 hT3 (zz8 hT3 (zz8 hT3 (zz8 hT3 (zz0 (aS rfl hT3 rfl) ?_)))))))))))))
  refine aD (ac ?_)
  exact aI (Sub.cons rfl (zz9 14 rfl))
 refine ad ?_
 refine ar rfl ?_ ?_ <;> intro h4 <;> try simp only [bs] at h4
 ·refine af (zz0 (bG (vs := []) rfl rfl (su)) ?_)
  refine az fC rfl rfl dn ?_
  refine zz0 (ab rfl) (ad (aB (ay ?_)))
  refine kf Tryz.results50 rfl rfl iF dn (fun w' hw => ?_)
  have hq : kl l a < n := (hO.mapd (by omega)).2 (by simp_all)
  exact ⟨by unfold D5 pM; rw [if_pos hq, if_pos hq]; rfl, hw.b0⟩
 ·refine dl (zz0 (bH rfl iF dn) ?_)
  refine az fC rfl rfl dn ?_
  refine zz0 (ab rfl) (ad (aB ?_))
  refine kf Tryz.results50 rfl rfl iF dn (fun w' hw => ?_)
  have hq : ¬ kl l a < n := by rw [hO.mapd (by omega)]; simp_all
  exact ⟨by unfold D5 pM; rw [if_neg hq, if_neg hq]; rfl, hw.b0⟩
theorem D1 (bM bm : Nat) (VR : Value) (rs : List RegV) (l : List SecV) (a : UInt32) (n : Int) (wl : WL) (w : World) (hM : MemAt (hp w) bM bm VR rs) (hO : MemOK l rs) (hW : MapIn (hp w) bm u8V wl) :
  Calls Tryz.prog 16 #[.pointer (some ⟨bM, 0, none⟩), .int .u32 a.toNat, .int .i64 n] w (fun e w' => e = .returned (.tuple #[.int .u32 (nL l (lD wl) a n).1.toNat, .int .i64 (nL l (lD wl) a n).2]) ∧ Ext w w') := by
 have hC' : CellsIn (Bg.of w).blk bM [VR, .map (some bm)] := hM.cells
 have hR' : Sl (Bg.of w).blk fC rs VR := hM.regs
 have hM' : MemAt (Bg.of w).blk bM bm VR rs := hM
 have hrl := hO.bounds.1
 have hW' : MapIn (Bg.of w).blk bm u8V wl := hW
 refine enter Tryz.func16 rfl Tryz.ntmps16 rfl ?_
 refine af (zz0 (ab rfl) (zz0 (ab rfl) (ad (al (af (zz0 (aa rfl) (zz0 (aA rfl Tryz.call48 (fun w hw => DZ bM bm VR w (hC'.mono hw.bg))) ?_)))))))
 refine zz0 (cQ rfl) (ad ?_)
 refine ar rfl ?_ ?_ <;> intro h1 <;> try simp only [bs] at h1
 ·first | contradiction | (exfalso; omega) | simp_all
 ·refine bF (al (af (zz0 (aa rfl) (zz0 (aA rfl Tryz.call49 (fun w hw => Bp n w)) ?_))))
  refine zz0 (cQ rfl) (ad ?_)
  refine ar rfl ?_ ?_ <;> intro h2 <;> try simp only [bs] at h2
  ·refine af (zz0 (ab rfl) (zz0 (ab rfl) (ad (aB (ay ?_)))))
   refine dq Tryz.results16 rfl rfl (fun w' hw => ?_)
   exact ⟨by rw [IV (by assumption)]; rfl, hw.b0⟩
  ·refine bF (al ?_)
   have hw0 : ¬ tZ n = false := by simp_all
   have hwr := EF (show tZ n = true by simpa using hw0)
   refine an (zz0 (aa rfl) (zz0 (aa rfl) (zz0 (aa rfl) (zz0 (aA rfl Tryz.call50 (fun w hw => zN bM bm VR rs l a n w (hM'.mono hw.bg) hO (by omega))) ?_))))
   refine zz0 (aa rfl) (zz0 (aL rfl rfl) (zz0 (aL rfl rfl) ?_))
   refine dB eL rfl (fun b3 => ?_)
   refine az fC rfl rfl dn ?_
   change Tr _ _ (cellE b3 (fC.enc (D5 l rs a n)) 107 :: _) _ _
   refine zz0 (ab rfl) (ad (al (af (zz0 (aa rfl) (zz0 (fV rfl rfl) (ad ?_))))))
   refine ar rfl ?_ ?_ <;> intro h4 <;> try simp only [bs] at h4
   ·refine af (zz0 (aa rfl) (zz0 (ab rfl) (zz0 (ab rfl) (ad (aB (ay ?_))))))
    refine dq Tryz.results16 rfl rfl (fun w' hw => ?_)
    have hq : kl l a < n := by
     rcases Int.lt_or_le (kl l a) n with q | q
     ·exact q
     ·exfalso
      have e : pM l a n = 0 := by unfold pM; rw [if_neg (by omega)]
      exact absurd e (by assumption)
    exact ⟨by rw [IU hw0 hq, show pM l a n = 11 by unfold pM; rw [if_pos hq]]; rfl, hw.b0⟩
   ·refine bF (al ?_)
    have hq : ¬ kl l a < n := by
     intro q
     have e : pM l a n = 11 := by unfold pM; rw [if_pos q]
     omega
    obtain ⟨hf, hmr, _, hg1, hg2, hg3⟩ := hO.mapd_ok (by omega) hq
    rw [hmr]
    have hbl := oG l (lD wl) n.toNat a
    refine an (zz0 (ab rfl) (ad (al (af (zz0 (aa rfl) (zz0 (bH rfl iF dn) ?_))))))
    refine zz0 (aa rfl) (zz0 (aa rfl) ?_)
    refine fG rfl Tryz.call51 (fun w hw => (by have q := DX bM bm VR (fg rs a) a n.toNat wl w (hC'.mono hw.bg) (hW'.mono hw.bg) (hw.slF (hM'.fnd a)) hg1 hg2 hg3 (by omega); rw [show ((n.toNat : Nat) : Int) = n by omega] at q; exact q)) rfl (fun V5 => ?_)
    refine f7 (l' := (iK l (lD wl) a n.toNat)) (hO.pres hf (by omega)) ?_
    refine zz0 (ln rfl bh) ?_
    refine zz0 (aa rfl) (ad (aF ?_))
    refine bL (ι := Nat) (fun k => k ≤ (iK l (lD wl) a n.toNat).length) (fun _ => _) (fun k => [rowE V5 5 dQ (iK l (lD wl) a n.toNat), cellE b3 (fC.enc (fg rs a)) 107]) (fun k => [(35, .int .i64 (k : Nat)), (10, .int .u32 (leP ((iK l (lD wl) a n.toNat).take k)).toNat)]) (fun k => (iK l (lD wl) a n.toNat).length - k) 0 (Nat.zero_le _) (.cons (by first | rfl | exact dK rfl (by omega) | exact dK rfl (by rw [mI (by omega) (by omega) rfl]) | exact dK rfl (by simp) | exact eo rfl (by simp)) (.cons (by first | rfl | exact dK rfl (by omega) | exact dK rfl (by rw [mI (by omega) (by omega) rfl]) | exact dK rfl (by simp) | exact eo rfl (by simp)) Front.nil)) (by repeat' constructor) rfl (fun k hi m hm => ?_)
    replace hi : k ≤ (iK l (lD wl) a n.toNat).length := hi
    replace hm : m = (iK l (lD wl) a n.toNat).length - k := hm
    change Tr _ _ [rowE V5 5 dQ (iK l (lD wl) a n.toNat), cellE b3 (fC.enc (fg rs a)) 107] ([(35, .int .i64 (k : Nat)), (10, .int .u32 (leP ((iK l (lD wl) a n.toNat).take k)).toNat)] ++ _) _
    refine af (zz0 (bU rfl rfl) (ad (al ?_)))
    refine ar rfl ?_ ?_ <;> intro h6 <;> try simp only [bs] at h6
    ·refine bF (al (aF (af (zz0 (aa rfl) (zz0 (zz7 rfl rfl bh dF) ?_)))))
     refine zz0 (eF rfl gB) ?_
     refine zz0 (ab rfl) (zz0 (ab rfl) (ad (an (zz0 (aa rfl) (zz0 (aa rfl) (zz0 (iG rfl bW aP) (zz0 (aa rfl) (zz0 (kx rfl rfl (by omega)) ?_))))))))
     refine zz0 (mw rfl rfl (by omega)) ?_
     refine zz0 (qE rfl rfl) ?_
     refine zz0 (ab rfl) (aD (aX (ac (an (zz0 (cp rfl rfl) ?_)))))
     refine zz0 (aa rfl) (ad ?_)
     refine cH (k + 1) (.cons (by first | rfl | exact dK rfl (by omega) | exact dK rfl (by rw [mI (by omega) (by omega) rfl]) | exact dK rfl (by simp) | exact eo rfl (by simp)) (.cons (by first | rfl | exact dK rfl (by omega) | exact dK rfl (by rw [mI (by omega) (by omega) rfl]) | exact dK rfl (by simp) | exact eo rfl (by simp)) Front.nil)) (bC 18 rfl) (o := (by show k + 1 ≤ _; omega))
    ·refine bJ (aG (aG (bv (ac (af (zz0 (aa rfl) (zz0 (ab rfl) (zz0 (ab rfl) (ad (aB ?_))))))))))
     refine dq Tryz.results16 rfl rfl (fun w' hw => ?_)
     exact ⟨by rw [IT hw0 hq, List.take_of_length_le (by omega)], hw.b0⟩
theorem zM (l : List SecV) (V : Value) (w : World) (hV : Sl (hp w) dx l V) (hB : SecB l) (hN : ∀ s ∈ l, s.name.size ≤ 140737488351232) (hD : DataIn (hp w) l) :
  Calls Tryz.prog 14 #[V] w (fun e w' => ∃ i : Option (Nat × Nat × Value × List RegV), e = .returned (.tuple #[match i with | none => .pointer none | some j => .pointer (some ⟨j.1, 0, none⟩), .int .i64 (dT l)]) ∧ Ext w w' ∧ NewEnts w w' (match i with | none => [] | some j => cellE j.1 [j.2.2.1, .map (some j.2.1)] 102 :: mapE j.2.1 u8V [] :: rowE j.2.2.1 107 fC j.2.2.2 :: ik 5 j.2.2.2) ∧ (match i with | none => dT l ≠ 0 | some j => MemOK l j.2.2.2)) := by
 have hV' : Sl (Bg.of w).blk dx l V := hV
 have hD' : DataIn (Bg.of w).blk l := hD
 have hlen := hB.1
 refine enter Tryz.func14 rfl Tryz.ntmps14 rfl ?_
 refine af (zz0 (ab rfl) (zz0 (ab rfl) (ad (al (af (zz0 (aa rfl) (zz0 (aA rfl qB (fun w hw => qx l V w (hw.slF hV') hB (fun s hs => by have := hN s hs; omega))) ?_)))))))
 refine zz0 (ab rfl) (aH (zz0 (aa rfl) (zz0 (fV rfl rfl) (ad ?_))))
 refine ar rfl ?_ ?_ <;> intro h1 <;> try simp only [bs] at h1
 ·refine af (zz0 (aa rfl) (zz0 (ab rfl) (zz0 (ab rfl) (ad (aB (ay ?_))))))
  refine dq lS rfl rfl (fun w' hw => ?_)
  exact ⟨none, rfl, hw.b0, hw.ents (Bg.le.refl _) (by repeat' constructor), by assumption⟩
 ·refine dl ?_
  refine gl u8V rfl (fun b2 => ?_)
  refine zz0 (bG (vs := [(1, _)]) (cs := #[.slice none 0 0, .map (some b2)]) rfl rfl (by kernel_rfl)) ?_
  refine dO rfl rfl (fun b3 => ?_)
  refine zz0 (ab rfl) (ad (al (af (zz0 (aa rfl) (zz0 (gW rfl cG) ?_)))))
  refine zz0 (aa rfl) (ad (aF (bZ 107 fC ?_)))
  refine bL (ι := Nat × Value × List RegV) (fun ⟨k, Vr, rs⟩ => k ≤ l.length ∧ rs.map RegV.pl = (l.take k).map vW) (fun _ => _) (fun ⟨k, Vr, rs⟩ => (cellE b3 [Vr, .map (some b2)] 102 :: rowE Vr 107 fC rs :: mapE b2 u8V [] :: ik 5 rs)) (fun ⟨k, Vr, rs⟩ => [(18, .int .i64 (k : Nat))]) (fun ⟨k, Vr, rs⟩ => l.length - k) (0, .slice none 0 0, []) ⟨Nat.zero_le _, rfl⟩ (Front.c Front.nil) (by repeat' constructor) rfl (fun i hi m hm => ?_)
  obtain ⟨k, Vr, rs⟩ := i
  replace hi : k ≤ l.length ∧ rs.map RegV.pl = (l.take k).map vW := hi
  replace hm : m = l.length - k := hm
  change Tr _ _ (cellE b3 [Vr, .map (some b2)] 102 :: rowE Vr 107 fC rs :: mapE b2 u8V [] :: ik 5 rs) ([(18, .int .i64 (k : Nat))] ++ _) _
  obtain ⟨hk1, hk2⟩ := hi
  have hrl : rs.length = k := by have := congrArg List.length hk2; rw [List.length_map, List.length_map, List.length_take] at this; omega
  refine af (zz0 (bU rfl rfl) (ad (al ?_)))
  refine ar rfl ?_ ?_ <;> intro h4 <;> try simp only [bs] at h4
  ·refine bF (al (aF (al ?_)))
   have hk3 := cM (l := l) (k := k) (by omega)
   have hDk := hD' (l.getD k default) hk3
   have hdl := hB.at (k := k) (by omega)
   refine an (zz0 (je rfl rfl cG de) ?_)
   refine zz0 (o7 rfl iO de) ?_
   refine dB kt rfl (fun b5 => ?_)
   refine az dx rfl rfl de ?_
   change Tr _ _ (cellE b5 (dx.enc (l.getD k default)) 49 :: _) _ _
   refine ad (dW ([cellE b5 (dx.enc (l.getD k default)) 49]) 22 rfl aQ ?_)
   refine zz4 0 rfl (aa rfl) ?_
   refine zz4 1 rfl (aa rfl) ?_
   refine zz4 2 rfl (aY rfl) ?_
   refine zz4 3 rfl (zz3 (off := 0) (ft := 100) rfl eB rfl eI) ?_
   refine zz4 5 rfl (zz3 (off := 1) (ft := 23) rfl cT rfl ae) ?_
   refine zz4 6 rfl (aJ rfl am) ?_
   refine zz4 7 rfl (dS rfl aP bO) ?_
   refine zz4 8 rfl (zz3 (off := 2) (ft := 47) rfl cT rfl fZ) ?_
   refine zz4 9 rfl (aJ rfl gR) ?_
   refine zz4 11 rfl (zz3 (off := 3) (ft := 4) rfl cT rfl bT) ?_
   refine zz4 12 rfl (aJ rfl cB) ?_
   refine zz4 13 rfl (zz3 (off := 4) (ft := 4) rfl cT rfl bT) ?_
   refine zz4 14 rfl (aJ rfl cB) ?_
   refine iW 15 rfl (by kernel_rfl) (dN (bD (bD (dN (bD dh))))) (bG (vs := [(0, _), (1, _)]) (cs := #[.bool (l.getD k default).wr, .bool (l.getD k default).ex]) rfl rfl (by kernel_rfl)) ?_
   refine cY [4, 10] (fun iq hq => ?_)
   rcases List.mem_cons.1 hq with rfl | hq
   ·skip
    refine bj rfl ?_
    refine zz0 (jI rfl js) ?_
    refine bN ?_
    refine cY [10] (fun iq hq => ?_)
    obtain rfl := List.mem_singleton.1 hq
    refine bj rfl ?_
    refine fG rfl qA (fun w hw => rZ (l.getD k default).data _ w (hw.slF hDk) (by omega)) rfl (fun V41 => ?_)
    refine gZ (V := V41) (fun pd cd hpv => ?_)
    subst hpv
    refine bN ?_
    refine iW 16 rfl (by kernel_rfl) (dN (bD (bD (dN (bD dh))))) (bG (vs := [(0, _), (1, _), (2, _)]) (cs := (fC.enc (⟨(l.getD k default).addr.toNat, (l.getD k default).data, pd, cd, (l.getD k default).wr, (l.getD k default).ex⟩ : RegV)).toArray) rfl rfl (by kernel_rfl)) ?_
    refine cY [17] (fun iq hq => ?_)
    obtain rfl := List.mem_singleton.1 hq
    refine bj rfl ?_
    refine iQ (E := fC) (⟨(l.getD k default).addr.toNat, (l.getD k default).data, pd, cd, (l.getD k default).wr, (l.getD k default).ex⟩ : RegV) rfl rfl dC dn eL (fun V6 => ?_)
    refine bN ?_
    refine cY [18] (fun iq hq => ?_)
    obtain rfl := List.mem_singleton.1 hq
    refine bj rfl ?_
    refine zz1 rfl rfl dC ke (fun V44 => ?_)
    refine gZ (V := V44) (fun pn cn hpv => ?_)
    subst hpv
    refine bN ?_
    refine zz4 19 rfl (aY rfl) ?_
    refine zz4 20 rfl (zz3 (off := 0) (ft := 100) rfl eB rfl eI) ?_
    refine cY [21] (fun iq hq => ?_)
    obtain rfl := List.mem_singleton.1 hq
    refine bj rfl ?_
    refine zz2 rfl rfl eI rfl ?_
    refine bN ?_
    refine ij ?_
    refine aX (ac (an (zz0 (cp rfl rfl) ?_)))
    refine zz0 (aa rfl) (ad ?_)
    apply gm (k + 1, .slice pn (rs ++ [(⟨(l.getD k default).addr.toNat, (l.getD k default).data, pd, cd, (l.getD k default).wr, (l.getD k default).ex⟩ : RegV)]).length cn, rs ++ [(⟨(l.getD k default).addr.toNat, (l.getD k default).data, pd, cd, (l.getD k default).wr, (l.getD k default).ex⟩ : RegV)])
    ·exact rfl
    ·exact (Front.c Front.nil)
    ·exact bC 28 rfl
    ·exact (by show Pick _ (cellE b3 [(.slice pn (rs ++ [(⟨(l.getD k default).addr.toNat, (l.getD k default).data, pd, cd, (l.getD k default).wr, (l.getD k default).ex⟩ : RegV)]).length cn), .map (some b2)] 102 :: rowE (.slice pn (rs ++ [(⟨(l.getD k default).addr.toNat, (l.getD k default).data, pd, cd, (l.getD k default).wr, (l.getD k default).ex⟩ : RegV)]).length cn) 107 fC (rs ++ [(⟨(l.getD k default).addr.toNat, (l.getD k default).data, pd, cd, (l.getD k default).wr, (l.getD k default).ex⟩ : RegV)]) :: mapE b2 u8V [] :: ik 5 (rs ++ [(⟨(l.getD k default).addr.toNat, (l.getD k default).data, pd, cd, (l.getD k default).wr, (l.getD k default).ex⟩ : RegV)])); rw [jw]; exact .cons (by repeat constructor) (.cons (by repeat constructor) (.cons (by repeat constructor) (.cons (by repeat constructor) (by repeat (first | exact Pick.refl _ | apply Pick.skip))))))
    ·exact ⟨by omega, by rw [List.map_append, hk2, dm (by omega), List.map_append]; rfl⟩
    ·exact (by (try dsimp only); omega)
   obtain rfl := List.mem_singleton.1 hq
   refine bj rfl ?_
   refine fG rfl qA (fun w hw => rZ (l.getD k default).data _ w (hw.slF hDk) (by omega)) rfl (fun V41 => ?_)
   refine gZ (V := V41) (fun pd cd hpv => ?_)
   subst hpv
   refine bN ?_
   refine iW 16 rfl (by kernel_rfl) (dN (bD (bD (dN (bD dh))))) (bG (vs := [(0, _), (1, _), (2, _)]) (cs := (fC.enc (⟨(l.getD k default).addr.toNat, (l.getD k default).data, pd, cd, (l.getD k default).wr, (l.getD k default).ex⟩ : RegV)).toArray) rfl rfl (by kernel_rfl)) ?_
   refine cY [4, 17] (fun iq hq => ?_)
   rcases List.mem_cons.1 hq with rfl | hq
   ·skip
    refine bj rfl ?_
    refine zz0 (jI rfl js) ?_
    refine bN ?_
    refine cY [17] (fun iq hq => ?_)
    obtain rfl := List.mem_singleton.1 hq
    refine bj rfl ?_
    refine iQ (E := fC) (⟨(l.getD k default).addr.toNat, (l.getD k default).data, pd, cd, (l.getD k default).wr, (l.getD k default).ex⟩ : RegV) rfl rfl dC dn eL (fun V7 => ?_)
    refine bN ?_
    refine cY [18] (fun iq hq => ?_)
    obtain rfl := List.mem_singleton.1 hq
    refine bj rfl ?_
    refine zz1 rfl rfl dC ke (fun V44 => ?_)
    refine gZ (V := V44) (fun pn cn hpv => ?_)
    subst hpv
    refine bN ?_
    refine zz4 19 rfl (aY rfl) ?_
    refine zz4 20 rfl (zz3 (off := 0) (ft := 100) rfl eB rfl eI) ?_
    refine cY [21] (fun iq hq => ?_)
    obtain rfl := List.mem_singleton.1 hq
    refine bj rfl ?_
    refine zz2 rfl rfl eI rfl ?_
    refine bN ?_
    refine ij ?_
    refine aX (ac (an (zz0 (cp rfl rfl) ?_)))
    refine zz0 (aa rfl) (ad ?_)
    apply gm (k + 1, .slice pn (rs ++ [(⟨(l.getD k default).addr.toNat, (l.getD k default).data, pd, cd, (l.getD k default).wr, (l.getD k default).ex⟩ : RegV)]).length cn, rs ++ [(⟨(l.getD k default).addr.toNat, (l.getD k default).data, pd, cd, (l.getD k default).wr, (l.getD k default).ex⟩ : RegV)])
    ·exact rfl
    ·exact (Front.c Front.nil)
    ·exact bC 28 rfl
    ·exact (by show Pick _ (cellE b3 [(.slice pn (rs ++ [(⟨(l.getD k default).addr.toNat, (l.getD k default).data, pd, cd, (l.getD k default).wr, (l.getD k default).ex⟩ : RegV)]).length cn), .map (some b2)] 102 :: rowE (.slice pn (rs ++ [(⟨(l.getD k default).addr.toNat, (l.getD k default).data, pd, cd, (l.getD k default).wr, (l.getD k default).ex⟩ : RegV)]).length cn) 107 fC (rs ++ [(⟨(l.getD k default).addr.toNat, (l.getD k default).data, pd, cd, (l.getD k default).wr, (l.getD k default).ex⟩ : RegV)]) :: mapE b2 u8V [] :: ik 5 (rs ++ [(⟨(l.getD k default).addr.toNat, (l.getD k default).data, pd, cd, (l.getD k default).wr, (l.getD k default).ex⟩ : RegV)])); rw [jw]; exact .cons (by repeat constructor) (.cons (by repeat constructor) (.cons (by repeat constructor) (.cons (by repeat constructor) (by repeat (first | exact Pick.refl _ | apply Pick.skip))))))
    ·exact ⟨by omega, by rw [List.map_append, hk2, dm (by omega), List.map_append]; rfl⟩
    ·exact (by (try dsimp only); omega)
   obtain rfl := List.mem_singleton.1 hq
   refine bj rfl ?_
   refine iQ (E := fC) (⟨(l.getD k default).addr.toNat, (l.getD k default).data, pd, cd, (l.getD k default).wr, (l.getD k default).ex⟩ : RegV) rfl rfl dC dn eL (fun V8 => ?_)
   refine bN ?_
   refine cY [4] (fun iq hq => ?_)
   obtain rfl := List.mem_singleton.1 hq
   refine bj rfl ?_
   refine zz0 (jI rfl js) ?_
   refine bN ?_
   refine cY [18] (fun iq hq => ?_)
   obtain rfl := List.mem_singleton.1 hq
   refine bj rfl ?_
   refine zz1 rfl rfl dC ke (fun V44 => ?_)
   refine gZ (V := V44) (fun pn cn hpv => ?_)
   subst hpv
   refine bN ?_
   refine zz4 19 rfl (aY rfl) ?_
   refine zz4 20 rfl (zz3 (off := 0) (ft := 100) rfl eB rfl eI) ?_
   refine cY [21] (fun iq hq => ?_)
   obtain rfl := List.mem_singleton.1 hq
   refine bj rfl ?_
   refine zz2 rfl rfl eI rfl ?_
   refine bN ?_
   refine ij ?_
   refine aX (ac (an (zz0 (cp rfl rfl) ?_)))
   refine zz0 (aa rfl) (ad ?_)
   apply gm (k + 1, .slice pn (rs ++ [(⟨(l.getD k default).addr.toNat, (l.getD k default).data, pd, cd, (l.getD k default).wr, (l.getD k default).ex⟩ : RegV)]).length cn, rs ++ [(⟨(l.getD k default).addr.toNat, (l.getD k default).data, pd, cd, (l.getD k default).wr, (l.getD k default).ex⟩ : RegV)])
   ·exact rfl
   ·exact (Front.c Front.nil)
   ·exact bC 28 rfl
   ·exact (by show Pick _ (cellE b3 [(.slice pn (rs ++ [(⟨(l.getD k default).addr.toNat, (l.getD k default).data, pd, cd, (l.getD k default).wr, (l.getD k default).ex⟩ : RegV)]).length cn), .map (some b2)] 102 :: rowE (.slice pn (rs ++ [(⟨(l.getD k default).addr.toNat, (l.getD k default).data, pd, cd, (l.getD k default).wr, (l.getD k default).ex⟩ : RegV)]).length cn) 107 fC (rs ++ [(⟨(l.getD k default).addr.toNat, (l.getD k default).data, pd, cd, (l.getD k default).wr, (l.getD k default).ex⟩ : RegV)]) :: mapE b2 u8V [] :: ik 5 (rs ++ [(⟨(l.getD k default).addr.toNat, (l.getD k default).data, pd, cd, (l.getD k default).wr, (l.getD k default).ex⟩ : RegV)])); rw [jw]; exact .cons (by repeat constructor) (.cons (by repeat constructor) (.cons (by repeat constructor) (.cons (by repeat constructor) (by repeat (first | exact Pick.refl _ | apply Pick.skip))))))
   ·exact ⟨by omega, by rw [List.map_append, hk2, dm (by omega), List.map_append]; rfl⟩
   ·exact (by (try dsimp only); omega)
  ·refine bJ (aG (aG (bv (ac (al (dW ([]) 13 rfl aQ ?_))))))
   refine zz4 0 rfl (aa rfl) ?_
   refine zz4 1 rfl (aa rfl) ?_
   refine zz4 2 rfl (aY rfl) ?_
   refine zz4 3 rfl (zz3 (off := 0) (ft := 100) rfl eB rfl eI) ?_
   refine iW 6 rfl (by kernel_rfl) (bD dh) (bG (vs := [(0, _)]) (cs := #[.bool true, .bool false]) rfl rfl (by kernel_rfl)) ?_
   refine cY [4, 5] (fun iq hq => ?_)
   rcases List.mem_cons.1 hq with rfl | hq
   ·skip
    refine bj rfl ?_
    refine zz0 (jI rfl js) ?_
    refine bN ?_
    refine cY [5] (fun iq hq => ?_)
    obtain rfl := List.mem_singleton.1 hq
    refine bj rfl ?_
    refine iP (E := dQ) 0 (n := 4096) rfl rfl bh l5 rfl rfl rfl (by decide) rfl (fun b42 => ?_)
    obtain ⟨z4, hz4⟩ : ∃ z : List UInt8, z = List.replicate 4096 0 := ⟨_, rfl⟩
    rw [← hz4]
    refine bN ?_
    refine iW 7 rfl (by kernel_rfl) (bD dh) (bG (vs := [(0, _), (1, _), (2, _)]) (cs := (fC.enc (⟨978944, z4, some ⟨b42, 0, none⟩, 4096, true, false⟩ : RegV)).toArray) rfl rfl (by kernel_rfl)) ?_
    refine cY [8] (fun iq hq => ?_)
    obtain rfl := List.mem_singleton.1 hq
    refine bj rfl ?_
    refine iQ (E := fC) (⟨978944, z4, some ⟨b42, 0, none⟩, 4096, true, false⟩ : RegV) rfl rfl dC dn eL (fun V9 => ?_)
    refine bN ?_
    refine cY [9] (fun iq hq => ?_)
    obtain rfl := List.mem_singleton.1 hq
    refine bj rfl ?_
    refine zz1 rfl rfl dC ke (fun V44 => ?_)
    refine gZ (V := V44) (fun pn cn hpv => ?_)
    subst hpv
    refine bN ?_
    refine zz4 10 rfl (aY rfl) ?_
    refine zz4 11 rfl (zz3 (off := 0) (ft := 100) rfl eB rfl eI) ?_
    refine cY [12] (fun iq hq => ?_)
    obtain rfl := List.mem_singleton.1 hq
    refine bj rfl ?_
    refine zz2 rfl rfl eI rfl ?_
    refine bN ?_
    refine ij ?_
    refine ac (af (zz0 (aa rfl) (zz0 (ab rfl) (zz0 (ab rfl) (ad (aB ?_))))))
    refine dq lS rfl rfl (fun w' hw => ?_)
    have hfin : MemOK l (rs ++ [(⟨978944, z4, some ⟨b42, 0, none⟩, 4096, true, false⟩ : RegV)]) := ⟨by assumption, by rw [List.map_append, hk2, List.take_of_length_le (by omega), hz4]; rfl⟩
    exact ⟨some (b3, b2, .slice pn (rs ++ [(⟨978944, z4, some ⟨b42, 0, none⟩, 4096, true, false⟩ : RegV)]).length cn, rs ++ [(⟨978944, z4, some ⟨b42, 0, none⟩, 4096, true, false⟩ : RegV)]), by rw [hfin.chk], hw.b0, hw.ents (Bg.le.refl _) (by show Pick _ (cellE b3 [.slice pn (rs ++ [(⟨978944, z4, some ⟨b42, 0, none⟩, 4096, true, false⟩ : RegV)]).length cn, .map (some b2)] 102 :: mapE b2 u8V [] :: rowE (.slice pn (rs ++ [(⟨978944, z4, some ⟨b42, 0, none⟩, 4096, true, false⟩ : RegV)]).length cn) 107 fC (rs ++ [(⟨978944, z4, some ⟨b42, 0, none⟩, 4096, true, false⟩ : RegV)]) :: ik 5 (rs ++ [(⟨978944, z4, some ⟨b42, 0, none⟩, 4096, true, false⟩ : RegV)])); rw [jw]; exact .cons (by repeat constructor) (.cons (by repeat constructor) (.cons (by repeat constructor) (.cons (by repeat constructor) (by repeat (first | exact Pick.refl _ | apply Pick.skip)))))), hfin⟩
   obtain rfl := List.mem_singleton.1 hq
   refine bj rfl ?_
   refine iP (E := dQ) 0 (n := 4096) rfl rfl bh l5 rfl rfl rfl (by decide) rfl (fun b42 => ?_)
   obtain ⟨z4, hz4⟩ : ∃ z : List UInt8, z = List.replicate 4096 0 := ⟨_, rfl⟩
   rw [← hz4]
   refine bN ?_
   refine iW 7 rfl (by kernel_rfl) (bD dh) (bG (vs := [(0, _), (1, _), (2, _)]) (cs := (fC.enc (⟨978944, z4, some ⟨b42, 0, none⟩, 4096, true, false⟩ : RegV)).toArray) rfl rfl (by kernel_rfl)) ?_
   refine cY [4, 8] (fun iq hq => ?_)
   rcases List.mem_cons.1 hq with rfl | hq
   ·skip
    refine bj rfl ?_
    refine zz0 (jI rfl js) ?_
    refine bN ?_
    refine cY [8] (fun iq hq => ?_)
    obtain rfl := List.mem_singleton.1 hq
    refine bj rfl ?_
    refine iQ (E := fC) (⟨978944, z4, some ⟨b42, 0, none⟩, 4096, true, false⟩ : RegV) rfl rfl dC dn eL (fun V10 => ?_)
    refine bN ?_
    refine cY [9] (fun iq hq => ?_)
    obtain rfl := List.mem_singleton.1 hq
    refine bj rfl ?_
    refine zz1 rfl rfl dC ke (fun V44 => ?_)
    refine gZ (V := V44) (fun pn cn hpv => ?_)
    subst hpv
    refine bN ?_
    refine zz4 10 rfl (aY rfl) ?_
    refine zz4 11 rfl (zz3 (off := 0) (ft := 100) rfl eB rfl eI) ?_
    refine cY [12] (fun iq hq => ?_)
    obtain rfl := List.mem_singleton.1 hq
    refine bj rfl ?_
    refine zz2 rfl rfl eI rfl ?_
    refine bN ?_
    refine ij ?_
    refine ac (af (zz0 (aa rfl) (zz0 (ab rfl) (zz0 (ab rfl) (ad (aB ?_))))))
    refine dq lS rfl rfl (fun w' hw => ?_)
    have hfin : MemOK l (rs ++ [(⟨978944, z4, some ⟨b42, 0, none⟩, 4096, true, false⟩ : RegV)]) := ⟨by assumption, by rw [List.map_append, hk2, List.take_of_length_le (by omega), hz4]; rfl⟩
    exact ⟨some (b3, b2, .slice pn (rs ++ [(⟨978944, z4, some ⟨b42, 0, none⟩, 4096, true, false⟩ : RegV)]).length cn, rs ++ [(⟨978944, z4, some ⟨b42, 0, none⟩, 4096, true, false⟩ : RegV)]), by rw [hfin.chk], hw.b0, hw.ents (Bg.le.refl _) (by show Pick _ (cellE b3 [.slice pn (rs ++ [(⟨978944, z4, some ⟨b42, 0, none⟩, 4096, true, false⟩ : RegV)]).length cn, .map (some b2)] 102 :: mapE b2 u8V [] :: rowE (.slice pn (rs ++ [(⟨978944, z4, some ⟨b42, 0, none⟩, 4096, true, false⟩ : RegV)]).length cn) 107 fC (rs ++ [(⟨978944, z4, some ⟨b42, 0, none⟩, 4096, true, false⟩ : RegV)]) :: ik 5 (rs ++ [(⟨978944, z4, some ⟨b42, 0, none⟩, 4096, true, false⟩ : RegV)])); rw [jw]; exact .cons (by repeat constructor) (.cons (by repeat constructor) (.cons (by repeat constructor) (.cons (by repeat constructor) (by repeat (first | exact Pick.refl _ | apply Pick.skip)))))), hfin⟩
   obtain rfl := List.mem_singleton.1 hq
   refine bj rfl ?_
   refine iQ (E := fC) (⟨978944, z4, some ⟨b42, 0, none⟩, 4096, true, false⟩ : RegV) rfl rfl dC dn eL (fun V11 => ?_)
   refine bN ?_
   refine cY [4] (fun iq hq => ?_)
   obtain rfl := List.mem_singleton.1 hq
   refine bj rfl ?_
   refine zz0 (jI rfl js) ?_
   refine bN ?_
   refine cY [9] (fun iq hq => ?_)
   obtain rfl := List.mem_singleton.1 hq
   refine bj rfl ?_
   refine zz1 rfl rfl dC ke (fun V44 => ?_)
   refine gZ (V := V44) (fun pn cn hpv => ?_)
   subst hpv
   refine bN ?_
   refine zz4 10 rfl (aY rfl) ?_
   refine zz4 11 rfl (zz3 (off := 0) (ft := 100) rfl eB rfl eI) ?_
   refine cY [12] (fun iq hq => ?_)
   obtain rfl := List.mem_singleton.1 hq
   refine bj rfl ?_
   refine zz2 rfl rfl eI rfl ?_
   refine bN ?_
   refine ij ?_
   refine ac (af (zz0 (aa rfl) (zz0 (ab rfl) (zz0 (ab rfl) (ad (aB ?_))))))
   refine dq lS rfl rfl (fun w' hw => ?_)
   have hfin : MemOK l (rs ++ [(⟨978944, z4, some ⟨b42, 0, none⟩, 4096, true, false⟩ : RegV)]) := ⟨by assumption, by rw [List.map_append, hk2, List.take_of_length_le (by omega), hz4]; rfl⟩
   exact ⟨some (b3, b2, .slice pn (rs ++ [(⟨978944, z4, some ⟨b42, 0, none⟩, 4096, true, false⟩ : RegV)]).length cn, rs ++ [(⟨978944, z4, some ⟨b42, 0, none⟩, 4096, true, false⟩ : RegV)]), by rw [hfin.chk], hw.b0, hw.ents (Bg.le.refl _) (by show Pick _ (cellE b3 [.slice pn (rs ++ [(⟨978944, z4, some ⟨b42, 0, none⟩, 4096, true, false⟩ : RegV)]).length cn, .map (some b2)] 102 :: mapE b2 u8V [] :: rowE (.slice pn (rs ++ [(⟨978944, z4, some ⟨b42, 0, none⟩, 4096, true, false⟩ : RegV)]).length cn) 107 fC (rs ++ [(⟨978944, z4, some ⟨b42, 0, none⟩, 4096, true, false⟩ : RegV)]) :: ik 5 (rs ++ [(⟨978944, z4, some ⟨b42, 0, none⟩, 4096, true, false⟩ : RegV)])); rw [jw]; exact .cons (by repeat constructor) (.cons (by repeat constructor) (.cons (by repeat constructor) (.cons (by repeat constructor) (by repeat (first | exact Pick.refl _ | apply Pick.skip)))))), hfin⟩
theorem Hy (l : List SecV) (V : Value) (w : World) (hV : Sl (hp w) dx l V) (hB : SecB l) (hN : ∀ s ∈ l, s.name.size ≤ 140737488351232) (hD : DataIn (hp w) l) (h : dT l = 0) : Calls Tryz.prog 14 #[V] w (fun e w' => ∃ j : Nat × Nat × Value × List RegV, e = .returned (.tuple #[.pointer (some ⟨j.1, 0, none⟩), .int .i64 0]) ∧ Ext w w' ∧ NewEnts w w' (cellE j.1 [j.2.2.1, .map (some j.2.1)] 102 :: mapE j.2.1 u8V [] :: rowE j.2.2.1 107 fC j.2.2.2 :: ik 5 j.2.2.2) ∧ MemOK l j.2.2.2) := by
 refine (zM l V w hV hB hN hD).mono fun e w' ⟨i, h1, h2, h3, h4⟩ => ?_
 rcases i with _ | j
 ·exact absurd h h4
 ·rw [h] at h1
  exact ⟨j, h1, h2, h3, h4⟩
theorem Hz (l : List SecV) (V : Value) (w : World) (hV : Sl (hp w) dx l V) (hB : SecB l) (hN : ∀ s ∈ l, s.name.size ≤ 140737488351232) (hD : DataIn (hp w) l) (h : dT l ≠ 0) : Calls Tryz.prog 14 #[V] w (fun e w' => e = .returned (.tuple #[.pointer none, .int .i64 (dT l)]) ∧ Ext w w') := by
 refine (zM l V w hV hB hN hD).mono fun e w' ⟨i, h1, h2, h3, h4⟩ => ?_
 rcases i with _ | j
 ·exact ⟨h1, h2⟩
 ·exact absurd h4.chk h
end Go.Proofs.YtiajjbhcpeadfaaGreat
namespace Go.HL
open Go
theorem uV {l : List SecV} {a : UInt32} (h : (iD l a 4).2 = 0) : 0 ≤ cK l a ∧ ∃ off : Nat, (off : Int) = (a.toNat : Int) - (jL l a).addr.toNat ∧ off + 4 ≤ (jL l a).data.length ∧ (iD l a 4).1 = ((jL l a).data.take (off + 4)).drop off := by
 have hp : (eQ l a 4).2.2 = 0 := by
  unfold iD at h
  rw [if_neg (by decide), if_neg (by decide)] at h
  split at h
  ·exact h
  ·rename_i q; simpa using q
 obtain ⟨p1, p2, p3, p4, p5⟩ := wJ hp
 rw [p3] at p1 p5
 have e : eQ l a 4 = (cK l a, (a.toNat : Int) - (l.getD (cK l a).toNat default).addr.toNat, 0) := by
  unfold eQ at hp ⊢
  rw [if_neg (by omega)] at hp ⊢
  split at hp
  ·cases hp
  ·rename_i q; rw [if_neg q]
 rw [e] at p4 p5
 dsimp only at p4 p5
 refine ⟨p1, ((a.toNat : Int) - (l.getD (cK l a).toNat default).addr.toNat).toNat, ?_, ?_, ?_⟩
 ·show _ = (a.toNat : Int) - (l.getD (cK l a).toNat default).addr.toNat
  omega
 ·show _ ≤ (l.getD (cK l a).toNat default).data.length
  omega
 ·unfold iD
  rw [if_neg (by decide), if_neg (by decide), e, if_neg (by simp)]
  show ((l.getD (cK l a).toNat default).data.take ((a.toNat : Int) - (l.getD (cK l a).toNat default).addr.toNat + 4).toNat).drop _ = _
  rw [show ((a.toNat : Int) - (l.getD (cK l a).toNat default).addr.toNat + 4).toNat = ((a.toNat : Int) - (l.getD (cK l a).toNat default).addr.toNat).toNat + 4 by omega]
  rfl
theorem Bh {l : List SecV} {a : UInt32} (hc : dT l = 0) (h : (iD l a 4).2 = 0) {w : WrF} (hw : ∀ x, w x = none) : iK l w a 4 = (iD l a 4).1 := by
 obtain ⟨hf, off, ho, hl, hr⟩ := uV h
 have hs := (mQ (a := a) hc (s := jL l a) (cM (by have := gQ (l := l) (a := a); omega))).1 (k7 hf)
 have hb := k9 hc
 have hb := (hb.2 (jL l a) (cM (by have := gQ (l := l) (a := a); omega))).2
 rw [hr]
 have hlr : (((jL l a).data.take (off + 4)).drop off).length = 4 := by rw [List.length_drop, List.length_take]; omega
 apply List.ext_getElem?
 intro k
 rcases Nat.lt_or_ge k 4 with q | q
 ·rw [q8 l w 4 a k q, List.getElem?_drop, List.getElem?_take, if_pos (by omega), List.getElem?_eq_getElem (by omega)]
  have ek : (a + UInt32.ofNat k).toNat = a.toNat + k := uA (by omega)
  have e1 := xn hc (a := a) (b := a + UInt32.ofNat k) (by omega) ⟨by omega, by omega⟩
  have e2 : ji (a + UInt32.ofNat k) = false := by
   rw [Bool.eq_false_iff]
   intro q
   have := rm hc q
   omega
  have e3 : jL l (a + UInt32.ofNat k) = jL l a := by unfold jL; rw [e1]
  unfold CZ CH
  rw [hw, Option.getD_none, if_neg (by rw [e2, e1]; simp; omega), e3]
  have e4 : (a + UInt32.ofNat k - (jL l a).addr).toNat = off + k := by
   rw [UInt32.toNat_sub_of_le _ _ (by rw [UInt32.le_iff_toNat_le]; omega)]; omega
  rw [e4, List.getD_eq_getElem?_getD, List.getElem?_eq_getElem (by omega)]
  rfl
 ·rw [List.getElem?_eq_none (by rw [oG]; exact q), List.getElem?_eq_none (by omega)]
theorem DG {l : List SecV} {a : UInt32} (hc : dT l = 0) (h : (iD l a 4).2 = 0) {w : WrF} (hw : ∀ x, w x = none) : nL l w a 4 = (leP (iD l a 4).1, 0) := by
 obtain ⟨hf, off, ho, hl, hr⟩ := uV h
 unfold nL
 have e : ji a = false := by
  rw [Bool.eq_false_iff]
  intro q
  have := rm hc q
  omega
 rw [if_neg (by simp [tZ]), if_neg (by unfold kl; rw [if_neg (by rw [e]; simp), if_neg (by omega)]; omega), show (4 : Int).toNat = 4 from rfl, Bh hc h hw]
theorem Cm {l : List SecV} {t : UInt32} {s : VSet} : ∀ {n : Nat} {out : List UInt32}, nA l t s n = some out → ∀ k, k < n → (jo l t (sy s (u32 (k : Int)))).2 = true ∧ out.getD k default = (jo l t (sy s (u32 (k : Int)))).1
 | 0, out, h, k, hk => by omega
 | n + 1, out, h, k, hk => by
  simp only [nA] at h
  cases ho : nA l t s n with
  | none => rw [ho] at h; cases h
  | some o =>
   rw [ho] at h
   simp only at h
   split at h
   ·rename_i q
    cases h
    have hl := pw ho
    rcases Nat.lt_or_ge k n with r | r
    ·obtain ⟨h1, h2⟩ := Cm ho k r
     refine ⟨h1, ?_⟩
     rw [← h2, List.getD_eq_getElem?_getD, List.getD_eq_getElem?_getD, List.getElem?_append_left (by omega)]
    ·obtain rfl : k = n := by omega
     refine ⟨q, ?_⟩
     rw [List.getD_eq_getElem?_getD, List.getElem?_append_right (by omega), hl, Nat.sub_self]; rfl
   ·cases h
theorem Dg {l : List SecV} {a : UInt32} (hc : dT l = 0) (h : (oZ l a).2 = true) {w : WrF} (hw : ∀ x, w x = none) : nL l w a 4 = ((oZ l a).1, 0) := by
 unfold oZ at h ⊢
 split at h
 ·cases h
 ·rename_i q
  rw [if_neg q]
  split at h
  ·cases h
  ·rename_i q2
   rw [if_neg q2]
   exact DG hc (by simpa using (fun e => q (.inl e))) hw
theorem IZ {x : VSet} {n : UInt32} (hv : ir x = true) (he : x.em = false) (ht : x.top = false) (h : pP x n = true) : n ≤ x.hi := by
 have ek : ba x = x := if_pos hv
 rw [← UInt32.not_lt]
 intro q
 have := IY (s := x) (n := n) (by rw [ek, he, ht]; simp) (by rw [ek]; exact .inr q)
 rw [h] at this; cases this
theorem FN {l : List SecV} {i : Ins} {x : VSet} {n : UInt32} (h22 : i.op = 22) (h : (cC l i x).2 = 0) (hn : pP x n = true) {w : WrF} (hw : ∀ x, w x = none) :
  dT l = 0 ∧ n.toNat < (cC l i x).1.length ∧ nL l w (i.imm + 4 * n) 4 = ((cC l i x).1.getD n.toNat default, 0) := by
 unfold cC at h ⊢
 split at h
 ·cases h
 rename_i h1
 rw [if_neg h1]
 split at h
 ·rename_i h2; exact absurd h h2
 rename_i h2
 rw [if_neg h2]
 have hc : dT l = 0 := by simpa using h2
 refine ⟨hc, ?_⟩
 split at h
 ·cases h
 rename_i h3
 rw [if_neg h3, if_neg (fun q => q h22)] at *
 split at h
 ·cases h
 rename_i h4
 rw [if_neg h4]
 have hh := IZ (x := x) (n := n) (by simpa using fun q => h3 (.inl (.inl q))) (by simpa using fun q => h3 (.inl (.inr q))) (by simpa using fun q => h3 (.inr q)) hn
 rw [UInt32.le_iff_toNat_le] at hh
 split at h
 ·cases h
 rename_i out ho
 simp only [ho]
 have hl := pw ho
 obtain ⟨k1, k2⟩ := Cm ho n.toNat (by omega)
 have en : u32 ((n.toNat : Nat) : Int) = n := by rw [← UInt32.toNat_inj]; have q := sx (x := ((n.toNat : Nat) : Int)) (by have := n.toNat_lt; omega); omega
 have ej : sy x n = n := by unfold sy; rw [if_pos hn]
 rw [en, ej] at k1 k2
 refine ⟨by omega, ?_⟩
 unfold jo at k1 k2
 simp only [Bool.and_eq_true] at k1
 rw [k2]
 exact Dg hc k1.1 hw
theorem tp (L : List Ent) : ∀ B : List Ent, Split (B ++ L) B L
 | [] => .nil _
 | b :: B => .cons (.here _) (tp L B)
section
variable {P : Program} {ops : Array Oper} {Q : Exit → Act → World → Prop} {N : Nat} {F : Bg} {L : List Ent} {M : Fr} {ty : TypeId} {pos : String} {after : Array Edge} {rest : List Oper} {d : Nat}
theorem En {ι : Type} (φ : ι → Value) (B : ι → List Ent) {ok : ι → Prop} {f : FuncId} {xs : List Operand} {vs : List Value} {ts : Array TypeId} (hx : lJ M xs = some vs)
  (he : ∀ (args : Array Value) (w : World), (callFunc f args).run P w = .ok (.enter f args) w)
  (hc : ∀ w, HpOK F L w → Calls P f vs.toArray w fun e w' => ∃ i, e = .returned (φ i) ∧ Ext w w' ∧ NewEnts w w' (B i) ∧ ok i) (hd : Nat.ble (d + 1) N = true)
  (K : ∀ i F', ok i → F.le F' → (∀ e ∈ B i, e.ok (e.blk.bind F'.blk)) → Tr N F' L ((d, φ i) :: M) (wpList P ops Q rest)) :
  Tr N F L M (wpList P ops Q (⟨some d, .call { callee := .value (.func f), args := xs.toArray, argTypes := ts }, ty, pos, after, none⟩ :: rest)) :=
 jt φ B (ok := ok) hx he hc hd (fun i hi => B7 (tp L (B i)) (fun F' hF' hk => K i F' hi hF' hk))
end
def ixI (a : UInt8) (tb : UInt32) : Ins := ⟨0, tb, 22, 0, 0, 0, ((a % 8).toNat : Int), 0, 0⟩
theorem yg (a : UInt8) : (a % 8).toNat < 8 := by rw [UInt8.toNat_mod]; exact Nat.mod_lt _ (by decide)
theorem FK (a : UInt8) (tb : UInt32) : InsOK (ixI a tb) := by
 have := yg a
 constructor <;> (unfold I64; simp only [ixI]; omega)
theorem zh {l : List SecV} {i : Ins} {x : VSet} (h : dT l ≠ 0) : (cC l i x).2 ≠ 0 := by
 unfold cC
 split
 ·decide
 ·first | (rw [if_pos h]; exact h) | exact h
end Go.HL
namespace Go.Proofs.YtiajjbhcpeadfaaGreat
open Go Go.HL Go.RowKit
theorem BA (l : List SecV) (pV : Option Addr) (cV : Nat) (a : UInt8) (tb : UInt32) (s : StV) (n : UInt32) (w : World) (hV : Sl (hp w) dx l (.slice pV l.length cV)) (hD : DataIn (hp w) l) (hz : ∀ s ∈ l, s.data.length ≤ 140737488351232) (hN : ∀ s ∈ l, s.name.size ≤ 140737488351232) (hc : dT l ≠ 0) :
  Calls Tryz.prog 3 #[(.slice pV l.length cV), .int .u8 a.toNat, .int .u32 tb.toNat, .agg (cL.enc s).toArray, .int .u32 n.toNat] w (fun e w' => e = .returned (.bool true) ∧ Below w.heap.size w w') := by
 have hV' : Sl (Bg.of0 w).blk dx l (.slice pV l.length cV) := hV
 have hD' : DataIn (Bg.of0 w).blk l := hD
 have hk8 := yg a
 refine lx Tryz.func3 rfl Tryz.ntmps3 rfl ?_
 refine af ?_
 refine dO rfl rfl (fun b1 => ?_)
 refine zz0 (ab rfl) (ad (al (af (zz0 (aa rfl) (zz0 (aA rfl Tryz.call10 (fun w hw => zo l (.slice pV l.length cV) w (hw.slF hV') hz)) ?_)))))
 refine zz0 (cQ rfl) (ad ?_)
 refine ar rfl ?_ ?_ <;> intro h2 <;> try simp only [bs] at h2
 ·have hq1 := h2
  refine af (zz0 (qf rfl rfl nT (fun w hw => mj w)) ?_)
  refine zz0 (ab rfl) (ad (aB (ay ?_)))
  refine aV lh rfl (fun w' hw => ?_)
  exact ⟨rfl, hw.below0 (Bg.le.refl _)⟩
 ·have hq1 : tt l = true := by simpa using h2
  obtain ⟨hB, hto⟩ := Cp hq1
  refine dl (zz0 (aa rfl) (zz0 (C7 (n := 8) rfl rfl (by first | decide | assumption)) ?_))
  refine zz0 (ig rfl bW aZ) (zz0 (ab rfl) (aH (zz0 (aa rfl) (zz0 (aa rfl) (zz0 (aa rfl) (zz0 (bG (vs := [(2, _), (6, _), (1, _)]) (cs := (aO.enc (ixI a tb)).toArray) rfl rfl (by kernel_rfl)) ?_))))))
  refine zz0 (bH rfl Tryz.isAgg28 Tryz.sizeOf28) ?_
  refine zz0 (aA rfl Tryz.call13 (fun w hw => zl s w)) ?_
  refine gx (E := ao) (l := (cC l (ixI a tb) (s.get ((a % 8).toNat : Int))).1) (T := 23) (fun V => .tuple #[V, .int .i64 (cC l (ixI a tb) (s.get ((a % 8).toNat : Int))).2]) rfl kF (fun w hw => j4 l pV cV (ixI a tb) s w (hw.slF hV') hB (hD'.mono hw.bg) hN (FK a tb)) rfl (fun VT => ?_)
  refine zz0 (aa rfl) (zz0 (aL rfl rfl) (zz0 (aL rfl rfl) (zz0 (ab rfl) (zz0 (ab rfl) (aH (zz0 (aa rfl) (zz0 (aA rfl Tryz.call14 (fun w hw => Hz l (.slice pV l.length cV) w (hw.slF hV') hB hN (hD'.mono hw.bg) hc)) ?_)))))))
  refine zz0 (aa rfl) (zz0 (aL rfl rfl) (zz0 (aL rfl rfl) (zz0 (ab rfl) (zz0 (ab rfl) (ad (al (af (zz0 (aa rfl) (zz0 (fV rfl rfl) (zz0 (aa rfl) ?_))))))))))
  apply dH
  ·exact (rfl : _ = (8, 42, 50))
  ·exact rfl
  ·intro hF3; have hF3' := hF3
   try simp only [bs] at hF3'
   refine zz5 hF3 (aa rfl) (zz5 hF3 (zz3 (off := 0) (ft := 26) rfl lB rfl cX) ?_)
   refine zz5 hF3 (dI rfl rfl cj aj (by omega)) ?_
   refine zz5 hF3 (fW (vs := bQ.enc (s.get ((a % 8).toNat : Int))) rfl (by repeat constructor) aK aj (kj ⟨by omega, by omega⟩ (by simp)) rfl) ?_
   refine zz5 hF3 (aa rfl) (zz5 hF3 (aA rfl l4 (fun w hw => kd (s.get ((a % 8).toNat : Int)) n w)) ?_)
   refine zz5 hF3 (cQ rfl) (zz0 (aT rfl hF3 rfl) ?_)
   refine aD (ac ?_)
   exact aI (Sub.cons rfl (zz9 8 rfl))
  ·intro hT3
   refine zz8 hT3 (zz8 hT3 (zz8 hT3 (zz8 hT3 (zz8 hT3 (zz8 hT3 (zz8 hT3 (zz0 (aS rfl hT3 rfl) ?_)))))))
   refine aD (ac ?_)
   exact aI (Sub.cons rfl (zz9 8 rfl))
  refine ad ?_
  refine ar rfl ?_ ?_ <;> intro h4 <;> try simp only [bs] at h4
  ·have hq2 := h4
   refine af (zz0 (qf rfl rfl nT (fun w hw => mj w)) ?_)
   refine zz0 (ab rfl) (ad (aB (ay ?_)))
   refine aV lh rfl (fun w' hw => ?_)
   exact ⟨rfl, hw.below0 (Bg.le.refl _)⟩
  ·exact absurd (by simp_all) (zh (l := l) (i := (ixI a tb)) (x := s.get ((a % 8).toNat : Int)) hc)
theorem Bz (l : List SecV) (pV : Option Addr) (cV : Nat) (a : UInt8) (tb : UInt32) (s : StV) (n : UInt32) (w : World) (hV : Sl (hp w) dx l (.slice pV l.length cV)) (hD : DataIn (hp w) l) (hz : ∀ s ∈ l, s.data.length ≤ 140737488351232) (hN : ∀ s ∈ l, s.name.size ≤ 140737488351232) (hc : dT l = 0) :
  Calls Tryz.prog 3 #[(.slice pV l.length cV), .int .u8 a.toNat, .int .u32 tb.toNat, .agg (cL.enc s).toArray, .int .u32 n.toNat] w (fun e w' => e = .returned (.bool true) ∧ Below w.heap.size w w') := by
 have hV' : Sl (Bg.of0 w).blk dx l (.slice pV l.length cV) := hV
 have hD' : DataIn (Bg.of0 w).blk l := hD
 have hk8 := yg a
 refine lx Tryz.func3 rfl Tryz.ntmps3 rfl ?_
 refine af ?_
 refine dO rfl rfl (fun b1 => ?_)
 refine zz0 (ab rfl) (ad (al (af (zz0 (aa rfl) (zz0 (aA rfl Tryz.call10 (fun w hw => zo l (.slice pV l.length cV) w (hw.slF hV') hz)) ?_)))))
 refine zz0 (cQ rfl) (ad ?_)
 refine ar rfl ?_ ?_ <;> intro h2 <;> try simp only [bs] at h2
 ·have hq1 := h2
  refine af (zz0 (qf rfl rfl nT (fun w hw => mj w)) ?_)
  refine zz0 (ab rfl) (ad (aB (ay ?_)))
  refine aV lh rfl (fun w' hw => ?_)
  exact ⟨rfl, hw.below0 (Bg.le.refl _)⟩
 ·have hq1 : tt l = true := by simpa using h2
  obtain ⟨hB, hto⟩ := Cp hq1
  refine dl (zz0 (aa rfl) (zz0 (C7 (n := 8) rfl rfl (by first | decide | assumption)) ?_))
  refine zz0 (ig rfl bW aZ) (zz0 (ab rfl) (aH (zz0 (aa rfl) (zz0 (aa rfl) (zz0 (aa rfl) (zz0 (bG (vs := [(2, _), (6, _), (1, _)]) (cs := (aO.enc (ixI a tb)).toArray) rfl rfl (by kernel_rfl)) ?_))))))
  refine zz0 (bH rfl Tryz.isAgg28 Tryz.sizeOf28) ?_
  refine zz0 (aA rfl Tryz.call13 (fun w hw => zl s w)) ?_
  refine gx (E := ao) (l := (cC l (ixI a tb) (s.get ((a % 8).toNat : Int))).1) (T := 23) (fun V => .tuple #[V, .int .i64 (cC l (ixI a tb) (s.get ((a % 8).toNat : Int))).2]) rfl kF (fun w hw => j4 l pV cV (ixI a tb) s w (hw.slF hV') hB (hD'.mono hw.bg) hN (FK a tb)) rfl (fun VT => ?_)
  refine zz0 (aa rfl) (zz0 (aL rfl rfl) (zz0 (aL rfl rfl) (zz0 (ab rfl) (zz0 (ab rfl) (aH (zz0 (aa rfl) ?_))))))
  refine En (fun j : Nat × Nat × Value × List RegV => .tuple #[.pointer (some ⟨j.1, 0, none⟩), .int .i64 0]) (fun j => (cellE j.1 [j.2.2.1, .map (some j.2.1)] 102 :: mapE j.2.1 u8V [] :: rowE j.2.2.1 107 fC j.2.2.2 :: ik 5 j.2.2.2)) (ok := fun j => MemOK l j.2.2.2) rfl Tryz.call14 (fun w hw => Hy l (.slice pV l.length cV) w (hw.slF hV') hB hN (hD'.mono hw.bg) hc) rfl (fun jm F9 hO hF9 hk => ?_)
  have hMa : MemAt F9.blk jm.1 jm.2.1 jm.2.2.1 jm.2.2.2 := Fx hk (.head _) (.tail _ (.tail _ (.head _))) (fun e he => .tail _ (.tail _ (.tail _ he)))
  have hMi : MapIn F9.blk jm.2.1 u8V [] := mapE.inL hk (.tail _ (.head _))
  have hdr : F9.dr = 0 := hF9.dr
  have hul := pp (l := l) (i := (ixI a tb)) (x := s.get ((a % 8).toNat : Int))
  have hu64 : IntKind.u64.wrap ((cC l (ixI a tb) (s.get ((a % 8).toNat : Int))).1.length : Nat) = ((cC l (ixI a tb) (s.get ((a % 8).toNat : Int))).1.length : Nat) := IntWalk.u64_in _ (by omega)
  have hnt := n.toNat_lt
  refine zz0 (aa rfl) (zz0 (aL rfl rfl) (zz0 (aL rfl rfl) (zz0 (ab rfl) (zz0 (ab rfl) (ad (al (af (zz0 (aa rfl) (zz0 (fV rfl rfl) (zz0 (aa rfl) ?_))))))))))
  apply dH
  ·exact (rfl : _ = (8, 42, 50))
  ·exact rfl
  ·intro hF3; have hF3' := hF3
   try simp only [bs] at hF3'
   refine zz5 hF3 (aa rfl) (zz5 hF3 (zz3 (off := 0) (ft := 26) rfl lB rfl cX) ?_)
   refine zz5 hF3 (dI rfl rfl cj aj (by omega)) ?_
   refine zz5 hF3 (fW (vs := bQ.enc (s.get ((a % 8).toNat : Int))) rfl (by repeat constructor) aK aj (kj ⟨by omega, by omega⟩ (by simp)) rfl) ?_
   refine zz5 hF3 (aa rfl) (zz5 hF3 (aA rfl l4 (fun w hw => kd (s.get ((a % 8).toNat : Int)) n w)) ?_)
   refine zz5 hF3 (cQ rfl) (zz0 (aT rfl hF3 rfl) ?_)
   refine aD (ac ?_)
   exact aI (Sub.cons rfl (zz9 8 rfl))
  ·intro hT3
   refine zz8 hT3 (zz8 hT3 (zz8 hT3 (zz8 hT3 (zz8 hT3 (zz8 hT3 (zz8 hT3 (zz0 (aS rfl hT3 rfl) ?_)))))))
   refine aD (ac ?_)
   exact aI (Sub.cons rfl (zz9 8 rfl))
  refine ad ?_
  refine ar rfl ?_ ?_ <;> intro h4 <;> try simp only [bs] at h4
  ·have hq2 := h4
   refine af (zz0 (qf hdr rfl nT (fun w hw => mj w)) ?_)
   refine zz0 (ab rfl) (ad (aB (ay ?_)))
   refine aV lh rfl (fun w' hw => ?_)
   exact ⟨rfl, hw.below0 hF9⟩
  ·have hq2 : (cC l (ixI a tb) (s.get ((a % 8).toNat : Int))).2 = 0 ∧ pP (s.get ((a % 8).toNat : Int)) n = true := by simpa using h4
   obtain ⟨_, hi1, hi2⟩ := FN (l := l) (i := (ixI a tb)) (w := lD []) rfl hq2.1 hq2.2 (fun x => rfl)
   have hi3 : nL l (lD []) (tb + 4 * n) 4 = ((cC l (ixI a tb) (s.get ((a % 8).toNat : Int))).1.getD n.toNat default, 0) := hi2
   refine bF (al (af (zz0 (aa rfl) (zz0 (fV rfl rfl) (zz0 (aa rfl) ?_)))))
   apply dH
   ·exact (rfl : _ = (3, 54, 57))
   ·exact rfl
   ·intro hF5; have hF5' := hF5
    try simp only [bs] at hF5'
    refine zz5 hF5 (aa rfl) (zz5 hF5 (G5 rfl rfl Tryz.underlying39 rfl) ?_)
    refine zz0 (aT rfl hF5 rfl) ?_
    refine aD (ac ?_)
    exact aI (Sub.cons rfl (zz9 3 rfl))
   ·intro hT5
    refine zz8 hT5 (zz8 hT5 (zz0 (aS rfl hT5 rfl) ?_))
    refine aD (ac ?_)
    exact aI (Sub.cons rfl (zz9 3 rfl))
   refine zz0 (aa rfl) ?_
   apply dH
   ·exact (rfl : _ = (7, 58, 65))
   ·exact rfl
   ·intro hF6; have hF6' := hF6
    try simp only [bs] at hF6'
    refine zz5 hF6 (aa rfl) (zz5 hF6 (dS rfl aP bO) (zz5 hF6 (aa rfl) (zz5 hF6 (ln rfl ah) ?_)))
    refine zz5 hF6 (eG rfl aZ bO (IntWalk.u64_in _ (by omega))) ?_
    refine zz5 hF6 (eJ rfl rfl) (zz0 (aT rfl hF6 rfl) ?_)
    refine aD (ac ?_)
    exact aI (Sub.cons rfl (zz9 7 rfl))
   ·intro hT6
    refine zz8 hT6 (zz8 hT6 (zz8 hT6 (zz8 hT6 (zz8 hT6 (zz8 hT6 (zz0 (aS rfl hT6 rfl) ?_))))))
    refine aD (ac ?_)
    exact aI (Sub.cons rfl (zz9 7 rfl))
   refine ad ?_
   refine ar rfl ?_ ?_ <;> intro h7 <;> try simp only [bs] at h7
   ·rcases h7 with (q | q) | q
    exact absurd trivial q
    cases q
    omega
   ·have hq3 := h7
    refine dl (zz0 (aa rfl) (zz0 (aa rfl) (zz0 (aa rfl) (zz0 (my (m := 4) rfl rfl) ?_))))
    refine zz0 (gV rfl rfl) ?_
    refine zz0 (aA rfl Tryz.call16 (fun w hw => D1 _ _ _ _ l (tb + 4 * n) 4 [] w (hMa.mono hw.bg) hO (hMi.mono hw.bg))) ?_
    refine zz0 (aa rfl) (zz0 (aL rfl rfl) (zz0 (aL rfl rfl) (zz0 (ab rfl) (zz0 (ab rfl) (aH (zz0 (aa rfl) (zz0 (bB rfl rfl) (zz0 (aa rfl) ?_))))))))
    apply cE
    ·exact (rfl : _ = (7, 77, 84))
    ·exact rfl
    ·intro hT8; have hT8' := hT8
     try simp only [bs] at hT8'
     refine zz5 hT8 (aa rfl) (zz5 hT8 (aa rfl) (zz5 hT8 (zz7 rfl rfl ah ae) ?_))
     refine zz5 hT8 (eF rfl am) ?_
     refine zz5 hT8 (aa rfl) (zz5 hT8 (eN rfl rfl) ?_)
     refine zz0 (aS rfl hT8 rfl) ?_
     refine aD (ac ?_)
     exact aI (Sub.cons rfl (zz9 7 rfl))
    ·intro hF8
     refine zz8 hF8 (zz8 hF8 (zz8 hF8 (zz8 hF8 (zz8 hF8 (zz8 hF8 (zz0 (aT rfl hF8 rfl) ?_))))))
     refine aD (ac ?_)
     exact aI (Sub.cons rfl (zz9 7 rfl))
    refine zz0 (aa rfl) ?_
    apply cE
    ·exact (rfl : _ = (2, 85, 87))
    ·exact rfl
    ·intro hT9; have hT9' := hT9
     try simp only [bs] at hT9'
     refine zz5 hT9 (qf hdr rfl nT (fun w hw => mj w)) ?_
     refine zz0 (aS rfl hT9 rfl) ?_
     refine aD (ac ?_)
     exact aI (Sub.cons rfl (zz9 2 rfl))
    ·intro hF9
     refine zz8 hF9 (zz0 (aT rfl hF9 rfl) ?_)
     refine aD (ac ?_)
     exact aI (Sub.cons rfl (zz9 2 rfl))
    refine zz0 (ab rfl) (ad (aB ?_))
    refine aV lh rfl (fun w' hw => ?_)
    exact ⟨by rw [hi3]; simp, hw.below0 hF9⟩
theorem Aa (l : List SecV) (V : Value) (a : UInt8) (tb : UInt32) (s : StV) (n : UInt32) (w : World) (hV : Sl (hp w) dx l V) (hD : DataIn (hp w) l) (hz : ∀ s ∈ l, s.data.length ≤ 140737488351232) (hN : ∀ s ∈ l, s.name.size ≤ 140737488351232) : Calls Tryz.prog 3 #[V, .int .u8 a.toNat, .int .u32 tb.toNat, .agg (cL.enc s).toArray, .int .u32 n.toNat] w (fun e w' => e = .returned (.bool true) ∧ Below w.heap.size w w') := by
 obtain ⟨pV, cV, hv, _⟩ := hV.shape
 subst hv
 by_cases hc : dT l = 0
 ·exact Bz l pV cV a tb s n w hV hD hz hN hc
 ·exact BA l pV cV a tb s n w hV hD hz hN hc
end Go.Proofs.YtiajjbhcpeadfaaGreat
namespace Go.HL
open Go Go.Deep Go.ChangeShapes Go.WideShapes
section
variable {H : Type} {enc : TypeId × Value → H} {P : Program} {w : World} {base : Nat} {spare : Nat → Bool} {held : Bool}
theorem zd {n : Int} (h : (Lit.int .u8 n).wf = true) : ∃ x : UInt8, n = (x.toNat : Int) := by
 have := bounds_u8 h
 refine ⟨UInt8.ofNat n.toNat, ?_⟩
 rw [UInt8.toNat_ofNat']; omega
theorem lU {n : Int} (h : (Lit.int .u32 n).wf = true) : ∃ x : UInt32, n = (x.toNat : Int) := by
 have := bounds_u32 h
 refine ⟨UInt32.ofNat n.toNat, ?_⟩
 rw [UInt32.toNat_ofNat']; omega
theorem HF {e : TypeId} (he : P.underlying e = some (.int .u8)) {n : Nat} {cs : List Value} {y : DataW H × List MemPlace} (h : DataW.trod enc P w base spare held n e cs = some y) : ∃ a, cs = dQ.enc a ∧ True := by
 obtain ⟨z, rfl, _, hw⟩ := DataW.trod_int he h
 obtain ⟨x, rfl⟩ := zd hw
 exact ⟨x, rfl, trivial⟩
end
end Go.HL
namespace Go.HL
open Go Go.Deep Go.ChangeShapes Go.WideShapes
section
variable {H : Type} {enc : TypeId × Value → H} {P : Program} {w : World} {base : Nat} {spare : Nat → Bool} {held : Bool}
def AX (P : Program) (t : TypeId) (d : DataW H) : Prop := ∀ n ∈ d.weights P t, n ≤ reachBytes
theorem weightsAll_mem {P : Program} {e : TypeId} : ∀ {l : List (DataW H)} {d : DataW H}, d ∈ l → ∀ n ∈ d.weights P e, n ∈ DataW.weightsAll P e l
 | x :: l, d, h, n, hn => by
  simp only [DataW.weightsAll, List.mem_append]
  rcases List.mem_cons.1 h with rfl | h
  ·exact .inl hn
  ·exact .inr (weightsAll_mem h n hn)
theorem tw {α : Type} [Inhabited α] {E : Enc α} {R : α → Prop} {t e : TypeId} {fuel : Nat} {V : Value} {x : DataW H × List MemPlace} (ht : P.underlying t = some (.slice e)) (hc : P.cellsOf e = E.k) (hk : 0 < E.k) (hL : AX P t x.1)
  (hf : ∀ n cs y, cs.length = E.k → DataW.trod enc P w base spare held n e cs = some y → AX P e y.1 → ∃ a : α, cs = E.enc a ∧ R a)
  (h : DataW.trod enc P w base spare held fuel t [V] = some x) : ∃ l : List α, Sl (hp w) E l V ∧ (∀ a ∈ l, R a) ∧ l.length * P.bytesOf e ≤ reachBytes := by
 rcases open_slice ht h with ⟨h0, _⟩ | ⟨a, len, cap, m, n, D, Pl, hv, hb, hl, hm, hmm, hxx, hx⟩
 ·simp only [List.cons.injEq, and_true] at h0
  subst h0
  exact ⟨[], Sl.nil _ _, by simp, by simp⟩
 ·simp only [List.cons.injEq, and_true] at hv
  subst hv
  subst hxx
  have hlm : len ≤ m := by rw [hmm]; split <;> omega
  have hw : DataW.weights P t (.slice ((List.range len).map D) ((List.range (m - len)).map fun j => D (len + j))) = (((List.range len).map D).length + ((List.range (m - len)).map fun j => D (len + j)).length) * P.bytesOf e :: (DataW.weightsAll P e ((List.range len).map D) ++ DataW.weightsAll P e ((List.range (m - len)).map fun j => D (len + j))) := by
   simp only [DataW.weights, ht]
  have each : ∀ i, i < len → ∃ q : α, w.cells? base (a.add (i * E.k)) E.k = some (E.enc q) ∧ R q := fun i hi => by
   obtain ⟨cs', h1, h2⟩ := hx i (by omega)
   rw [hc] at h1
   obtain ⟨q, rfl, hq⟩ := hf n cs' _ (World.cells?_some h1).2.1 h2 (fun z hz => hL z (by
    rw [hw]
    exact .tail _ (List.mem_append.2 (.inl (weightsAll_mem (List.mem_map.2 ⟨i, List.mem_range.2 hi, rfl⟩) z hz)))))
   exact ⟨q, h1, hq⟩
  obtain ⟨f, hfn⟩ := choose_lt each
  have hsp : 0 < len → a = ⟨a.block, a.off, none⟩ := fun hl0 => by
   have h1 := (World.cells?_some (hfn 0 hl0).1).2.2 0 hk
   have hlen : 0 < (E.enc (f 0)).length := by rw [E.len]; exact hk
   rw [List.getElem?_eq_getElem hlen] at h1
   have hsp := World.cell?_spot h1
   obtain ⟨b, o, sp⟩ := a
   have : sp = none := by simpa [Addr.add] using hsp
   subst this
   rfl
  refine ⟨(List.range len).map f, ⟨⟨some a, cap, by simp, by simpa using hl, hm, fun hne => ?_⟩, fun i q hq => ?_⟩, fun q hq => ?_, ?_⟩
  ·have hl0 : 0 < len := by
    rcases Nat.eq_zero_or_pos len with h | h
    ·subst h; simp at hne
    ·exact h
   rw [hsp hl0]; rfl
  ·have hi : i < len := by
    have := (List.getElem?_eq_some_iff.1 hq).1
    simpa using this
   have hq' : f i = q := by simpa [hi] using hq
   subst hq'
   have ha := hsp (by omega)
   obtain ⟨b, o, sp⟩ := a
   obtain rfl : sp = none := by simpa using ha
   have hc' := (World.cells?_some (hfn i hi).1).2.2
   have hlen : (E.enc (f i)).length = E.k := E.len _
   have eA : ∀ j, (((⟨b, o, none⟩ : Addr).add (i * E.k)).add j) = ⟨b, o + i * E.k + j, none⟩ := fun j => by
    rw [Go.Deep.add_add]; simp only [Addr.add]
    by_cases h0 : i * E.k + j = 0
    ·rw [if_pos h0]
     have : i * E.k = 0 := by omega
     have : j = 0 := by omega
     simp_all
    ·rw [if_neg h0, Nat.add_assoc]
   have h1 := hc' 0 hk
   rw [List.getElem?_eq_getElem (by omega), eA] at h1
   have hb1 : ∃ cs T fz, w.heap[b]? = some (.cells cs T fz) := by
    unfold World.cell? at h1
    split at h1
    ·rename_i cs T fz hh; exact ⟨cs, T, fz, hh⟩
    ·simp at h1
   obtain ⟨cs, T, fz, hh⟩ := hb1
   refine ⟨cs, T, fz, hh, fun j v hj => ?_⟩
   have hjk : j < E.k := by have := (List.getElem?_eq_some_iff.1 hj).1; omega
   have h2 := hc' j hjk
   rw [hj, eA] at h2
   unfold World.cell? at h2
   simp only [hh] at h2
   simp only [ofs]
   simpa using h2
  ·obtain ⟨i, hi, rfl⟩ := List.mem_map.1 hq
   exact (hfn i (List.mem_range.1 hi)).2
  ·have := hL _ (by rw [hw]; exact .head _)
   simp only [List.length_map, List.length_range] at this ⊢
   exact Nat.le_trans (Nat.mul_le_mul_right _ (by omega)) this
theorem FX {e ts tu tb tB eu : TypeId} {f0 f1 f2 f3 f4 : Field} (he : P.underlying e = some (.struct #[f0, f1, f2, f3, f4]))
  (ho : [f0.offset, f1.offset, f2.offset, f3.offset, f4.offset] = [0, 1, 2, 3, 4]) (ht : [f0.type, f1.type, f2.type, f3.type, f4.type] = [ts, tu, tb, tB, tB])
  (c0 : P.cellsOf ts = 1) (c1 : P.cellsOf tu = 1) (c2 : P.cellsOf tb = 1) (c3 : P.cellsOf tB = 1) (us : P.underlying ts = some .string) (uu : P.underlying tu = some (.int .u32))
  (ub : P.underlying tb = some (.slice eu)) (ue : P.underlying eu = some (.int .u8)) (ce : P.cellsOf eu = 1) (be : P.bytesOf eu = 1) (uB : P.underlying tB = some .bool)
  {n : Nat} {cs : List Value} {y : DataW H × List MemPlace} (hl : cs.length = 5) (h : DataW.trod enc P w base spare held n e cs = some y) (hL : AX P e y.1) :
  ∃ s : SecV, cs = dx.enc s ∧ Sl (hp w) dQ s.data (.slice s.dp s.data.length s.dc) ∧ s.data.length ≤ reachBytes ∧ s.name.size ≤ reachBytes := by
 simp only [List.cons.injEq, and_true] at ho ht
 obtain ⟨o0, o1, o2, o3, o4⟩ := ho
 obtain ⟨t0, t1, t2, t3, t4⟩ := ht
 obtain ⟨xs, k, hk, hxy, _, hxl, hf⟩ := DataW.trod_struct he h
 match xs, hxl, cs, hl with
 | [y0, y1, y2, y3, y4], _, [v0, v1, v2, v3, v4], _ =>
  have g0 := hf 0 f0 rfl
  have g1 := hf 1 f1 rfl
  have g2 := hf 2 f2 rfl
  have g3 := hf 3 f3 rfl
  have g4 := hf 4 f4 rfl
  simp [o0, o1, o2, o3, o4, t0, t1, t2, t3, t4, c0, c1, c2, c3] at g0 g1 g2 g3 g4
  subst hxy
  have hw : ∀ j t d, [ts, tu, tb, tB, tB][j]? = some t → [y0.1, y1.1, y2.1, y3.1, y4.1][j]? = some d → AX P t d := fun j t d q1 q2 z hz => hL z (by
   simp only [DataW.weights, he, List.map_cons, List.map_nil, t0, t1, t2, t3, t4]
   exact DataW.weights_mem_each (j := j) q1 q2 z hz)
  have w0' := hw 0 ts y0.1 rfl rfl
  have w2' := hw 2 tb y2.1 rfl rfl
  obtain ⟨z0, e0, q0, w0⟩ := DataW.trod_string us g0
  obtain ⟨z1, e1, _, w1⟩ := DataW.trod_int uu g1
  obtain ⟨l, s2, _, hbl⟩ := tw (E := dQ) (R := fun _ => True) ub ce (by decide) w2' (fun n cs y _ hh _ => HF ue hh) g2
  obtain ⟨z3, e3, _⟩ := DataW.trod_bool uB g3
  obtain ⟨z4, e4, _⟩ := DataW.trod_bool uB g4
  obtain ⟨x1, rfl⟩ := lU w1
  simp only [List.cons.injEq, and_true] at e0 e1 e3 e4
  subst e0; subst e1; subst e3; subst e4
  obtain ⟨a, c, hv, _⟩ := s2.shape
  subst hv
  refine ⟨⟨z0, x1, l, a, c, z3, z4⟩, rfl, s2, by rw [be, Nat.mul_one] at hbl; exact hbl, ?_⟩
  have := w0' z0.data.toList.length (by rw [q0]; simp [DataW.weights])
  rw [Array.length_toList] at this
  exact this
end
end Go.HL
namespace Go.HL
open Go Go.Deep Go.ChangeShapes Go.WideShapes
section
variable {H : Type} {enc : TypeId × Value → H} {P : Program} {w : World} {base : Nat} {spare : Nat → Bool} {held : Bool}
theorem Jc {cs : Array Value} {l : List Value} (h : (Value.agg cs).cells.toList = l) : cs = l.toArray := by
 subst h; simp [Value.cells]
end
end Go.HL
namespace Go.HL
open Go Go.ChangeShapes Go.WideShapes Go.ChangeAt Go.RowKit
variable {H : Type} {enc : TypeId × Value → H} {P : Program} {w : World} {base : Nat} {spare : Nat → Bool} {held : Bool}
theorem FW {e tb tu : TypeId} {f0 f1 f2 f3 f4 : Field} (he : P.underlying e = some (.struct #[f0, f1, f2, f3, f4]))
  (ho : [f0.offset, f1.offset, f2.offset, f3.offset, f4.offset] = [0, 1, 2, 3, 4]) (ht : [f0.type, f1.type, f2.type, f3.type, f4.type] = [tb, tb, tu, tu, tu])
  (cb : P.cellsOf tb = 1) (cu : P.cellsOf tu = 1) (ub : P.underlying tb = some .bool) (uu : P.underlying tu = some (.int .u32))
  {n : Nat} {cs : List Value} {y : DataW H × List MemPlace} (hl : cs.length = 5) (h : DataW.trod enc P w base spare held n e cs = some y) : ∃ s, cs = bQ.enc s := by
 simp only [List.cons.injEq, and_true] at ho ht
 obtain ⟨o0, o1, o2, o3, o4⟩ := ho
 obtain ⟨t0, t1, t2, t3, t4⟩ := ht
 obtain ⟨xs, k, hk, hxy, _, hxl, hf⟩ := DataW.trod_struct he h
 match xs, hxl, cs, hl with
 | [y0, y1, y2, y3, y4], _, [v0, v1, v2, v3, v4], _ =>
  have g0 := hf 0 f0 rfl
  have g1 := hf 1 f1 rfl
  have g2 := hf 2 f2 rfl
  have g3 := hf 3 f3 rfl
  have g4 := hf 4 f4 rfl
  simp [o0, o1, o2, o3, o4, t0, t1, t2, t3, t4, cb, cu] at g0 g1 g2 g3 g4
  obtain ⟨z0, e0, _⟩ := DataW.trod_bool ub g0
  obtain ⟨z1, e1, _⟩ := DataW.trod_bool ub g1
  obtain ⟨z2, e2, _, w2⟩ := DataW.trod_int uu g2
  obtain ⟨z3, e3, _, w3⟩ := DataW.trod_int uu g3
  obtain ⟨z4, e4, _, w4⟩ := DataW.trod_int uu g4
  obtain ⟨x2, rfl⟩ := lU w2
  obtain ⟨x3, rfl⟩ := lU w3
  obtain ⟨x4, rfl⟩ := lU w4
  simp only [List.cons.injEq, and_true] at e0 e1 e2 e3 e4
  subst e0; subst e1; subst e2; subst e3; subst e4
  exact ⟨⟨z0, z1, x2, x3, x4⟩, rfl⟩
theorem Fi {α : Type} : ∀ (n : Nat) (cs : List α), cs.length = n * 5 → cs = (List.range n).flatMap fun i => (cs.drop (i * 5)).take 5
 | 0, cs, h => by
  obtain rfl := List.length_eq_zero_iff.1 (by omega : cs.length = 0)
  rfl
 | n + 1, cs, h => by
  have ih := Fi n (cs.take (n * 5)) (by rw [List.length_take]; omega)
  rw [List.range_succ, List.flatMap_append, List.flatMap_cons, List.flatMap_nil, List.append_nil]
  have e : (List.range n).flatMap (fun i => (cs.drop (i * 5)).take 5) = cs.take (n * 5) := by
   refine Eq.trans ?_ ih.symm
   rw [List.flatMap_def, List.flatMap_def]
   congr 1
   refine List.map_congr_left fun i hi => ?_
   have hi := List.mem_range.1 hi
   rw [List.drop_take, List.take_take, Nat.min_eq_left (by omega)]
  rw [e, List.take_of_length_le (l := cs.drop (n * 5)) (by rw [List.length_drop]; omega), List.take_append_drop]
theorem HG {t ta e : TypeId} {f0 : Field} (ht : P.underlying t = some (.struct #[f0])) (ho : f0.offset = 0) (hty : f0.type = ta) (ua : P.underlying ta = some (.array 8 e)) (ca : P.cellsOf ta = 40) (ce : P.cellsOf e = 5)
  (hf : ∀ n cs y, cs.length = 5 → DataW.trod enc P w base spare held n e cs = some y → ∃ s, cs = bQ.enc s)
  {n : Nat} {cs : List Value} {y : DataW H × List MemPlace} (hl : cs.length = 40) (h : DataW.trod enc P w base spare held n t cs = some y) : ∃ s, cs = cL.enc s := by
 obtain ⟨xs, k, hk, hxy, _, hxl, hg⟩ := DataW.trod_struct ht h
 have g := hg 0 f0 rfl
 rw [ho, hty, ca, List.drop_zero, List.take_of_length_le (by omega)] at g
 have hx0 : ∃ y0, xs[0]? = some y0 := by
  have : xs.length = 1 := hxl
  exact ⟨xs[0], List.getElem?_eq_getElem (by omega)⟩
 obtain ⟨y0, hx0⟩ := hx0
 rw [hx0] at g
 obtain ⟨zs, m, hm, hzy, _, hzl, hz⟩ := DataW.trod_array ua g
 rw [ce] at hz
 have key : ∀ i, i < 8 → ∃ s, (cs.drop (i * 5)).take 5 = bQ.enc s := fun i hi => by
  have q := hz i hi
  rw [List.getElem?_eq_getElem (by omega)] at q
  exact hf _ _ _ (by rw [List.length_take, List.length_drop]; omega) q
 obtain ⟨s0, h0⟩ := key 0 (by omega)
 obtain ⟨s1, h1⟩ := key 1 (by omega)
 obtain ⟨s2, h2⟩ := key 2 (by omega)
 obtain ⟨s3, h3⟩ := key 3 (by omega)
 obtain ⟨s4, h4⟩ := key 4 (by omega)
 obtain ⟨s5, h5⟩ := key 5 (by omega)
 obtain ⟨s6, h6⟩ := key 6 (by omega)
 obtain ⟨s7, h7⟩ := key 7 (by omega)
 refine ⟨⟨s0, s1, s2, s3, s4, s5, s6, s7⟩, ?_⟩
 refine (Fi 8 cs (by omega)).trans ?_
 rw [show List.range 8 = [0, 1, 2, 3, 4, 5, 6, 7] from rfl]
 simp only [List.flatMap_cons, List.flatMap_nil, h0, h1, h2, h3, h4, h5, h6, h7]
 rfl
end Go.HL
