/- Own rules and walks, part 5. -/
import Derived.Test.YtiajjbhcpeadfaaGreatB4
set_option linter.unusedSimpArgs false
set_option linter.unusedVariables false
set_option linter.unusedSectionVars false
set_option maxRecDepth 100000
set_option maxHeartbeats 16000000
namespace Go.Proofs
open Go.Shelf
def Tryz.sortIns_ren : Go.Shelf.Ren := ⟨fun | 6 => 82 | 15 => 150 | 14 => 149 | 28 => 208 | 29 => 209 | 20 => 199 | 21 => 201 | 22 => 202 | 23 => 203 | 24 => 204 | 25 => 205 | 26 => 206 | 27 => 207 | 46 => 264 | 47 => 265 | 48 => 266 | 49 => 267 | 50 => 268 | 57 => 297 | n => n, fun | 22 => 50 | 24 => 36 | 25 => 156 | 3 => 3 | 39 => 191 | 0 => 0 | 53 => 23 | 55 => 43 | 4 => 4 | 46 => 261 | 45 => 260 | 50 => 229 | 5 => 5 | 9 => 9 | 66 => 292 | 70 => 296 | 76 => 316 | 77 => 317 | n => n, fun | n => n⟩
theorem Tryz.sortIns : Go.Proofs.SlLaysF0.n6 Tryz.prog Tryz.sortIns_ren := {
 mixed := by kernel_rfl
 f6 := ⟨Tryz.f82.name, by decide, Tryz.func82.trans (congrArg some (by kernel_rfl))⟩
 f14 := ⟨Tryz.f149.name, by decide, Tryz.func149.trans (congrArg some (by kernel_rfl))⟩
 f15 := Tryz.func150.trans (congrArg some (by kernel_rfl))
 f20 := ⟨Tryz.f199.name, by decide, Tryz.func199.trans (congrArg some (by kernel_rfl))⟩
 f21 := ⟨Tryz.f201.name, by decide, Tryz.func201.trans (congrArg some (by kernel_rfl))⟩
 f22 := ⟨Tryz.f202.name, by decide, Tryz.func202.trans (congrArg some (by kernel_rfl))⟩
 f23 := ⟨Tryz.f203.name, by decide, Tryz.func203.trans (congrArg some (by kernel_rfl))⟩
 f24 := ⟨Tryz.f204.name, by decide, Tryz.func204.trans (congrArg some (by kernel_rfl))⟩
 f25 := ⟨Tryz.f205.name, by decide, Tryz.func205.trans (congrArg some (by kernel_rfl))⟩
 f26 := ⟨Tryz.f206.name, by decide, Tryz.func206.trans (congrArg some (by kernel_rfl))⟩
 f27 := ⟨Tryz.f207.name, by decide, Tryz.func207.trans (congrArg some (by kernel_rfl))⟩
 f28 := Tryz.func208.trans (congrArg some (by kernel_rfl))
 f29 := Tryz.func209.trans (congrArg some (by kernel_rfl))
 f46 := ⟨Tryz.f264.name, by decide, Tryz.func264.trans (congrArg some (by kernel_rfl))⟩
 f47 := Tryz.func265.trans (congrArg some (by kernel_rfl))
 f48 := Tryz.func266.trans (congrArg some (by kernel_rfl))
 f49 := ⟨Tryz.f267.name, by decide, Tryz.func267.trans (congrArg some (by kernel_rfl))⟩
 f50 := ⟨Tryz.f268.name, by decide, Tryz.func268.trans (congrArg some (by kernel_rfl))⟩
 f57 := ⟨Tryz.f297.name, by decide, Tryz.func297.trans (congrArg some (by kernel_rfl))⟩
 t0 := Tryz.underlying0
 a0 := Tryz.isAgg0
 z0 := Tryz.sizeOf0
 v0 := Tryz.zeroValue0
 t3 := Tryz.underlying3
 a3 := Tryz.isAgg3
 z3 := Tryz.sizeOf3
 v3 := Tryz.zeroValue3
 t4 := Tryz.underlying4
 a4 := Tryz.isAgg4
 z4 := Tryz.sizeOf4
 v4 := Tryz.zeroValue4
 t5 := Tryz.underlying5
 a5 := Tryz.isAgg5
 z5 := Tryz.sizeOf5
 v5 := Tryz.zeroValue5
 t9 := Tryz.underlying9
 a9 := Tryz.isAgg9
 z9 := Tryz.sizeOf9
 v9 := Tryz.zeroValue9
 t22 := Tryz.underlying50
 a22 := Tryz.isAgg50
 z22 := Tryz.sizeOf50
 v22 := Tryz.zeroValue50
 t25 := Tryz.underlying156
 a25 := Tryz.isAgg156
 z25 := Tryz.sizeOf156
 v25 := Tryz.zeroValue156
 t39 := Tryz.underlying191
 a39 := Tryz.isAgg191
 z39 := Tryz.sizeOf191
 v39 := Tryz.zeroValue191
 t45 := Tryz.underlying260
 a45 := Tryz.isAgg260
 z45 := Tryz.sizeOf260
 v45 := Tryz.zeroValue260
 t46 := Tryz.underlying261
 a46 := Tryz.isAgg261
 z46 := Tryz.sizeOf261
 v46 := Tryz.zeroValue261
 t50 := Tryz.underlying229
 a50 := Tryz.isAgg229
 z50 := Tryz.sizeOf229
 v50 := Tryz.zeroValue229
 t53 := Tryz.underlying23
 a53 := Tryz.isAgg23
 z53 := Tryz.sizeOf23
 v53 := Tryz.zeroValue23
 t55 := Tryz.underlying43
 a55 := Tryz.isAgg43
 z55 := Tryz.sizeOf43
 v55 := Tryz.zeroValue43
 t66 := Tryz.underlying292
 a66 := Tryz.isAgg292
 z66 := Tryz.sizeOf292
 v66 := Tryz.zeroValue292
 t70 := Tryz.underlying296
 a70 := Tryz.isAgg296
 z70 := Tryz.sizeOf296
 v70 := Tryz.zeroValue296
 t76 := Tryz.underlying316
 a76 := Tryz.isAgg316
 z76 := Tryz.sizeOf316
 v76 := Tryz.zeroValue316
 t77 := Tryz.underlying317
 a77 := Tryz.isAgg317
 z77 := Tryz.sizeOf317
 v77 := Tryz.zeroValue317 }
end Go.Proofs
namespace Go.Proofs.YtiajjbhcpeadfaaGreat
open Go Go.HL Go.RowKit
theorem Dn (i : Ins) (w : World) (hI : InsOK i) :
  Cr Tryz.prog 148 #[.agg (aT.enc i).toArray] w (.int .u64 (vP i)) := by
 have hl := yI i
 have ha := i.addr.toNat_lt
 refine enter Tryz.func148 rfl Tryz.ntmps148 rfl ?_
 refine ah ?_
 refine dq rfl rfl (fun b1 => ?_)
 refine zz0 (ab rfl) (ad (an (g9 aU ?_)))
 refine aw (zz2 (off := 0) (ft := 23) rfl af rfl ae) ?_
 refine aw (aG rfl am) ?_
 refine aw (fa rfl aP cM) (aw (bC rfl aS ay) ?_)
 refine aw (aD rfl pm (fun w hw => oP i w hI)) ?_
 refine aw (fm rfl aZ cM (IntWalk.u64_in _ (by omega))) ?_
 refine aw (qQ rfl rfl (by omega)) ?_
 refine aw (ab rfl) (bI ?_)
 refine ac (aC ?_)
 refine aO Tryz.results148 rfl (fun w' hw => ?_)
 exact ⟨rfl, hw.b0⟩
theorem zb (a b : Ins) (w : World) (hI : InsOK a) (hJ : InsOK b) :
  Cr Tryz.prog 81 #[.agg (aT.enc a).toArray, .agg (aT.enc b).toArray] w (.bool (jN a b)) := by
 refine enter Tryz.func81 rfl Tryz.ntmps81 rfl ?_
 refine ah ?_
 refine dq rfl rfl (fun b1 => ?_)
 refine dq rfl rfl (fun b2 => ?_)
 refine zz0 (ab rfl) (ad (an (g9 aU ?_)))
 refine aw (zz2 (off := 0) (ft := 23) rfl af rfl ae) ?_
 refine aw (aG rfl am) ?_
 refine aw (zz2 (off := 0) (ft := 23) rfl af rfl ae) ?_
 refine aw (aG rfl am) ?_
 refine aw (ij rfl rfl) ?_
 refine aw (aa rfl) ?_
 apply fk
 ·exact (rfl : _ = (4, 10, 14))
 ·exact rfl
 ·intro hT3; have hT3' := hT3
  try simp only [bs] at hT3'
  refine bV hT3 (bC rfl aS ay) ?_
  refine bV hT3 (aD rfl pm (fun w hw => oP a w hI)) ?_
  refine bV hT3 (eo rfl rfl) (aw (aK rfl hT3 rfl) ?_)
  exact db (Sub.cons rfl (zz6 4 rfl))
 ·intro hF3
  refine bU hF3 (bU hF3 (bU hF3 (aw (aL rfl hF3 rfl) ?_)))
  exact db (Sub.cons rfl (zz6 4 rfl))
 refine aw (aa rfl) ?_
 apply fk
 ·exact (rfl : _ = (4, 15, 19))
 ·exact rfl
 ·intro hT4; have hT4' := hT4
  try simp only [bs] at hT4'
  refine bV hT4 (bC rfl aS ay) ?_
  refine bV hT4 (aD rfl pm (fun w hw => oP b w hJ)) ?_
  refine bV hT4 (eo rfl rfl) (aw (aK rfl hT4 rfl) ?_)
  exact db (Sub.cons rfl (zz6 4 rfl))
 ·intro hF4
  refine bU hF4 (bU hF4 (bU hF4 (aw (aL rfl hF4 rfl) ?_)))
  exact db (Sub.cons rfl (zz6 4 rfl))
 refine aw (aa rfl) ?_
 apply fk
 ·exact (rfl : _ = (13, 20, 33))
 ·exact rfl
 ·intro hT5; have hT5' := hT5
  try simp only [bs] at hT5'
  refine bV hT5 (zz2 (off := 0) (ft := 23) rfl af rfl ae) ?_
  refine bV hT5 (aG rfl am) ?_
  refine bV hT5 (zz2 (off := 0) (ft := 23) rfl af rfl ae) ?_
  refine bV hT5 (aG rfl am) ?_
  refine bV hT5 (qw rfl rfl) ?_
  refine bV hT5 (fa rfl aP cM) (bV hT5 (bC rfl aS ay) ?_)
  refine bV hT5 (aD rfl Tryz.call148 (fun w hw => Dn a w hI)) ?_
  refine bV hT5 (bC rfl aS ay) ?_
  refine bV hT5 (aD rfl Tryz.call148 (fun w hw => Dn b w hJ)) ?_
  refine bV hT5 (sE rfl rfl) ?_
  refine bV hT5 (bT rfl rfl) (aw (aK rfl hT5 rfl) ?_)
  exact db (Sub.cons rfl (zz6 13 rfl))
 ·intro hF5
  refine bU hF5 (bU hF5 (bU hF5 (bU hF5 (bU hF5 (bU hF5 (bU hF5 (bU hF5 (bU hF5 (bU hF5 (bU hF5 (bU hF5 (aw (aL rfl hF5 rfl) ?_))))))))))))
  exact db (Sub.cons rfl (zz6 13 rfl))
 refine aw (ab rfl) (bI ?_)
 refine ac (aC ?_)
 refine aO Tryz.results81 rfl (fun w' hw => ?_)
 exact ⟨rfl, hw.b0⟩
theorem pM (w : World) (g : FuncId) (cb : Array Value) :
  Cr Tryz.prog 199 #[.slice none 0 0, .int .i64 0, .int .i64 0, .func (.func g) #[] cb] w (.tuple #[]) := by
 refine enter Tryz.func199 rfl Tryz.ntmps199 rfl ?_
 refine ah (zz0 (aa rfl) (zz0 (cE rfl rfl) ?_))
 refine zz0 (ab rfl) (ad (aH ?_))
 refine bK (ι := Unit) (fun _u => True) (fun _ => _) (fun _u => []) (fun _u => [(8, .int .i64 1)]) (fun _u => 0) () trivial (Front.c Front.nil) (by repeat' constructor) rfl (fun _u hi m hm => ?_)
 replace hi : True := hi
 replace hm : m = 0 := hm
 change Tr _ _ [] ([(8, .int .i64 1)] ++ _) _
 refine an (ah (zz0 (aa rfl) (zz0 (aa rfl) (zz0 (bT rfl rfl) (ad ?_)))))
 refine ao rfl ?_ ?_ <;> intro h1 <;> try simp only [bs] at h1
 ·first | contradiction | (exfalso; omega) | simp_all
 refine bF (aI (aI (bv ?_)))
 refine fE Tryz.results199 (fun w' hw => ?_)
 exact ⟨rfl, hw.b0⟩
theorem uk (w : World) (g : FuncId) (cb : Array Value) :
  Cr Tryz.prog 149 #[.slice none 0 0, .int .i64 0, .int .i64 0, .int .i64 0, .func (.func g) #[] cb] w (.tuple #[]) := by
 refine enter Tryz.func149 rfl Tryz.ntmps149 rfl ?_
 refine ah (zz0 (ab rfl) (aM (zz0 (ab rfl) (ad (aH ?_)))))
 refine bK (ι := Unit) (fun _u => True) (fun _ => _) (fun _u => []) (fun _u => []) (fun _u => 0) () trivial Front.nil (by repeat' constructor) rfl (fun _u hi m hm => ?_)
 replace hi : True := hi
 replace hm : m = 0 := hm
 change Tr _ _ [] ([] ++ _) _
 refine aH (ah (zz0 (aa rfl) (zz0 (aa rfl) (zz0 (er rfl rfl) ?_))))
 refine zz0 (ab rfl) (ad (an (ah (zz0 (aa rfl) (zz0 (fJ rfl rfl) (ad ?_))))))
 refine ao rfl ?_ ?_ <;> intro h1 <;> try simp only [bs] at h1
 ·refine ah (zz0 (aa rfl) (zz0 (aa rfl) (zz0 (aa rfl) (zz0 (aa rfl) (zz0 (aD rfl Tryz.call199 (fun w hw => pM w g cb)) ?_)))))
  refine ad (aC (aA (bj (aA (bj ?_)))))
  refine l9 Tryz.results149 (fun w' hw => ?_)
  exact ⟨rfl, hw.b0⟩
 first | contradiction | (exfalso; omega) | simp_all
theorem nR (w : World) (g : FuncId) (cb : Array Value) :
  Cr Tryz.prog 82 #[.slice none 0 0, .func (.func g) #[] cb] w (.tuple #[]) := by
 refine enter Tryz.func82 rfl Tryz.ntmps82 rfl ?_
 refine ah (zz0 (aa rfl) (zz0 (iI rfl aR) ?_))
 refine zz0 (ab rfl) (ad (ar (zz0 (aa rfl) (zz0 (aa rfl) (zz0 (aa rfl) (zz0 (fm rfl aZ dV (IntWalk.u64_in _ (by omega))) ?_))))))
 refine zz0 (aD rfl Tryz.call150 (fun w hw => (Go.Proofs.Any.bits_Len (Go.Proofs.SlLaysF0.n15.bits (P := Tryz.prog) (ρ := Tryz.sortIns_ren) { Tryz.sortIns with }) 0 w (by decide) (by decide)).mono (fun e w' h => ⟨h.1, by rw [h.2]; exact Ext.refl _⟩))) ?_
 refine zz0 (aa rfl) (zz0 (aD rfl Tryz.call149 (fun w hw => uk w g cb)) ?_)
 refine ax ?_
 refine fE Tryz.results82 (fun w' hw => ?_)
 exact ⟨rfl, hw.b0⟩
theorem wK (a b : Ins) (w : World) :
  Cr Tryz.prog 143 #[.agg (aT.enc a).toArray, .agg (aT.enc b).toArray] w (.int .i64 (l4 a b)) := by
 refine enter Tryz.func143 rfl Tryz.ntmps143 rfl ?_
 refine ah ?_
 refine dq rfl rfl (fun b1 => ?_)
 refine dq rfl rfl (fun b2 => ?_)
 refine zz0 (ab rfl) (aM (zz0 (zz2 (off := 0) (ft := 23) rfl af rfl ae) ?_))
 refine zz0 (aG rfl am) ?_
 refine zz0 (zz2 (off := 0) (ft := 23) rfl af rfl ae) ?_
 refine zz0 (aG rfl am) ?_
 refine zz0 (aD rfl Tryz.call84 (fun w hw => Bc a.addr b.addr w)) ?_
 refine zz0 (ab rfl) (ad (aC ?_))
 refine aO Tryz.results143 rfl (fun w' hw => ?_)
 exact ⟨rfl, hw.b0⟩
theorem yv (a b : Ins) (w : World) :
  Cr Tryz.prog 83 #[.agg (aT.enc a).toArray, .agg (aT.enc b).toArray] w (.int .i64 (l4 a b)) := by
 refine enter Tryz.func83 rfl Tryz.ntmps83 rfl ?_
 refine ah ?_
 refine dq rfl rfl (fun b1 => ?_)
 refine dq rfl rfl (fun b2 => ?_)
 refine zz0 (ab rfl) (aM (zz0 (zz2 (off := 0) (ft := 23) rfl af rfl ae) ?_))
 refine zz0 (aG rfl am) ?_
 refine zz0 (zz2 (off := 0) (ft := 23) rfl af rfl ae) ?_
 refine zz0 (aG rfl am) ?_
 refine zz0 (aD rfl Tryz.call84 (fun w hw => Bc a.addr b.addr w)) ?_
 refine zz0 (ab rfl) (ad (aC ?_))
 refine aO Tryz.results83 rfl (fun w' hw => ?_)
 exact ⟨rfl, hw.b0⟩
theorem yZ (l : List Ins) (V : Value) (w : World) (hV : Sl (hp w) aT l V) (hI : ∀ x ∈ l, InsOK x) (h40 : l.length ≤ 700) :
  Calls Tryz.prog 73 #[V] w (fun e w' => ∃ V', e = .returned V' ∧ Ext w w' ∧ iu w w' 36 aT (fQ l) V') := by
 have hV' : Sl (Bg.of w).blk aT l V := hV
 refine enter Tryz.func73 rfl Tryz.ntmps73 rfl ?_
 refine ah (zz0 (ab rfl) (aM ?_))
 refine gW dl rfl (fun b1 => ?_)
 refine zz0 (ab rfl) (aM (zz0 (ab rfl) (ad (an (ah (zz0 (aa rfl) (zz0 (gK rfl aR) ?_)))))))
 refine zz0 (aa rfl) (ad (aH (cn 36 aT ?_)))
 refine bK (ι := Nat × Value) (fun ⟨k, V'⟩ => k ≤ l.length) (fun _ => _) (fun ⟨k, V'⟩ => [rowE V' 36 aT (tz (l.take k)), mapE b1 dl (zd (tz (l.take k)))]) (fun ⟨k, V'⟩ => [(10, .int .i64 (k : Nat)), (4, V')]) (fun ⟨k, V'⟩ => l.length - k) (0, _) (Nat.zero_le _) (Front.c (Front.c Front.nil)) (by repeat' constructor) rfl (fun i hi m hm => ?_)
 obtain ⟨k, V'⟩ := i
 replace hi : k ≤ l.length := hi
 replace hm : m = l.length - k := hm
 change Tr _ _ [rowE V' 36 aT (tz (l.take k)), mapE b1 dl (zd (tz (l.take k)))] ([(10, .int .i64 (k : Nat)), (4, V')] ++ _) _
 have hcl := Bb (l.take k)
 rw [List.length_take] at hcl
 have hIk : k < l.length → InsOK (l.getD k default) := fun q => hI _ (de q)
 refine ah (zz0 (bT rfl rfl) (ad (an ?_)))
 refine ao rfl ?_ ?_ <;> intro h2 <;> try simp only [bs] at h2
 ·refine bA (an (aH (ah (zz0 (hZ rfl rfl aR ay) ?_))))
  refine zz0 (na rfl aS ay) ?_
  refine dB bZ rfl (fun b3 => ?_)
  refine aF aT rfl rfl ay ?_
  refine aM (zz0 (aa rfl) (zz0 (zz2 (off := 0) (ft := 23) rfl af rfl ae) ?_))
  refine zz0 (aG rfl am) ?_
  refine zz0 (Bw rfl rfl (by repeat constructor) eC aP np) ?_
  rw [GU]
  refine zz0 (cp rfl) (zz0 (aa rfl) ?_)
  apply bQ
  ·exact (rfl : _ = (3, 19, 22))
  ·exact rfl
  ·intro hT4; have hT4' := hT4
   try simp only [bs] at hT4'
   refine zz3 hT4 (bC rfl aS ay) ?_
   refine zz3 hT4 (aD rfl kK (fun w hw => kD (l.getD k default) w (hIk (by omega)))) ?_
   refine zz0 (aK rfl hT4 rfl) ?_
   refine ax (ac ?_)
   exact az (Sub.cons rfl (zz6 3 rfl))
  ·intro hF4
   refine zz4 hF4 (zz4 hF4 (zz0 (aL rfl hF4 rfl) ?_))
   refine ax (ac ?_)
   exact az (Sub.cons rfl (zz6 3 rfl))
  refine ad ?_
  refine ao rfl ?_ ?_ <;> intro h5 <;> try simp only [bs] at h5
  ·refine ah (zz0 (aa rfl) (zz0 (bC rfl aS ay) ?_))
   refine jl (E := aT) _ rfl rfl aR ay bZ (fun V6 => ?_)
   refine zz1 rfl rfl aR kN (fun V7 => ?_)
   refine zz0 (ab rfl) (ad (ar (zz0 (aa rfl) (zz0 (zz2 (off := 0) (ft := 23) rfl af rfl ae) ?_))))
   refine zz0 (aG rfl am) ?_
   refine gx _ rfl rfl rfl (by repeat constructor) eC aP rfl ?_
   refine ax (aY (ac (ar (zz0 (cE rfl rfl) ?_))))
   refine zz0 (aa rfl) (ad ?_)
   have hst := A8 (l := l) (k := k) (by omega)
   rw [iv, if_pos (by simp only [Bool.and_eq_true, Bool.not_eq_true', decide_eq_true_eq]; assumption)] at hst
   rw [GT (by simp_all), ← hst]
   refine cF (k + 1, _) (Front.c (Front.c Front.nil)) (bD 23 rfl) (o := (by show k + 1 ≤ _; omega))
  refine cg (aY (ac (ar (zz0 (cE rfl rfl) ?_))))
  refine zz0 (aa rfl) (ad ?_)
  have hst := A8 (l := l) (k := k) (by omega)
  rw [iv, if_neg (by rw [Bool.and_eq_true, Bool.not_eq_true', decide_eq_true_eq]; rintro ⟨q1, q2⟩; rcases h5 with q | q; (· rw [q1] at q; cases q); (· exact q q2))] at hst
  rw [← hst]
  refine cF (k + 1, _) (Front.c (Front.c Front.nil)) (bD 15 rfl) (o := (by show k + 1 ≤ _; omega))
 refine bF (aI (aI (bv (ac (an ?_)))))
 obtain rfl : k = l.length := by omega
 rw [List.take_length] at *
 refine ar (zz0 (aa rfl) (d5 rfl Tryz.call82 (by repeat constructor) (fun w hw => rF Tryz.sortIns aT 36 aS ay l4 k9 143 [] _ _ w Tryz.call143 (hw.ent _ (.head _)) (by omega) (fun x y w' _ => wK x y w') (nR w 143 #[])) rfl ?_))
 refine aM (zz0 (aa rfl) (zz0 (ab rfl) (ad (aC ?_))))
 refine aO Tryz.results73 rfl (fun w' hw => ?_)
 exact ⟨_, rfl, hw.b0, hw.new (.head _)⟩
theorem zP (l : List Ins) (V : Value) (w : World) (hV : Sl (hp w) aT l V) (hI : ∀ x ∈ l, InsOK x) (h40 : l.length ≤ 700) :
  Calls Tryz.prog 74 #[V] w (fun e w' => ∃ b, e = .returned (.map (some b)) ∧ Ext w w' ∧ NewEnts w w' [mapE b dl (rA l)]) := by
 have hV' : Sl (Bg.of w).blk aT l V := hV
 refine enter Tryz.func74 rfl Tryz.ntmps74 rfl ?_
 refine ah (zz0 (ab rfl) (aM ?_))
 refine gW dl rfl (fun b1 => ?_)
 refine zz0 (ab rfl) (ad (an (ah (zz0 (aa rfl) (zz0 (gK rfl aR) ?_)))))
 refine zz0 (aa rfl) (ad (aH ?_))
 refine bK (ι := Nat) (fun k => k ≤ l.length) (fun _ => _) (fun k => [mapE b1 dl (rA (l.take k))]) (fun k => [(11, .int .i64 (k : Nat))]) (fun k => l.length - k) 0 (Nat.zero_le _) (Front.c Front.nil) (by repeat' constructor) rfl (fun k hi m hm => ?_)
 replace hi : k ≤ l.length := hi
 replace hm : m = l.length - k := hm
 change Tr _ _ [mapE b1 dl (rA (l.take k))] ([(11, .int .i64 (k : Nat))] ++ _) _
 refine ah (zz0 (bT rfl rfl) (ad (an ?_)))
 refine ao rfl ?_ ?_ <;> intro h2 <;> try simp only [bs] at h2
 ·refine bA (an (aH (ah (zz0 (hZ rfl rfl aR ay) ?_))))
  refine zz0 (na rfl aS ay) ?_
  refine dB bZ rfl (fun b3 => ?_)
  refine aF aT rfl rfl ay ?_
  refine aM (zz0 (bC rfl aS ay) ?_)
  refine zz0 (aD rfl Tryz.call144 (fun w hw => rb (l.getD k default) w)) ?_
  refine zz0 (aa rfl) (zz0 (aQ rfl rfl) (zz0 (aQ rfl rfl) (zz0 (ab rfl) (zz0 (ab rfl) (aM (zz0 (aa rfl) (ad ?_)))))))
  refine ao rfl ?_ ?_ <;> intro h4 <;> try simp only [bs] at h4
  ·refine ar (zz0 (aa rfl) (zz0 (aa rfl) (gx _ rfl rfl rfl (by repeat constructor) eC aP rfl ?_)))
   refine ax (aY (ac (ar (zz0 (cE rfl rfl) ?_))))
   refine zz0 (aa rfl) (ad ?_)
   have hst := zL (l := l) (k := k) (by omega)
   rw [uy, if_pos (by assumption)] at hst
   rw [← hst]
   refine cF (k + 1) (Front.c Front.nil) (bD 17 rfl) (o := (by show k + 1 ≤ _; omega))
  refine cg (aY (ac (ar (zz0 (cE rfl rfl) ?_))))
  refine zz0 (aa rfl) (ad ?_)
  have hst := zL (l := l) (k := k) (by omega)
  rw [uy, if_neg (by simp_all)] at hst
  rw [← hst]
  refine cF (k + 1) (Front.c Front.nil) (bD 15 rfl) (o := (by show k + 1 ≤ _; omega))
 refine bF (aI (aI (bv (ac (ah (zz0 (aa rfl) (zz0 (ab rfl) (ad (aC ?_)))))))))
 refine aO Tryz.results74 rfl (fun w' hw => ?_)
 obtain rfl : k = l.length := by omega
 rw [List.take_length] at hw
 exact ⟨_, rfl, hw.b0, hw.ents (w := w) (Bg.le.refl _) (by repeat' constructor)⟩
theorem rL (i : Ins) (ents : List UInt32) (tm : List (UInt32 × Bool)) (Vi Ve Vu Vb : Value) (bc bm bmap : Nat) (w : World) (hc : CellsIn (hp w) bc [Vi, Ve, Vu, Vb]) (hm : CellsIn (hp w) bm [.map (some bmap)]) (hM : MapIn (hp w) bmap dl tm) (hE : Sl (hp w) au ents Ve) :
  Cr Tryz.prog 75 #[.agg (aT.enc i).toArray, .pointer (some ⟨bc, 0, none⟩), .pointer (some ⟨bm, 0, none⟩)] w (.int .i64 (gk ents tm i)) := by
 have hc' : CellsIn (Bg.of w).blk bc [Vi, Ve, Vu, Vb] := hc
 have hm' : CellsIn (Bg.of w).blk bm [.map (some bmap)] := hm
 have hM' : MapIn (Bg.of w).blk bmap dl tm := hM
 have hE' : Sl (Bg.of w).blk au ents Ve := hE
 refine enter Tryz.func75 rfl Tryz.ntmps75 rfl ?_
 refine ah ?_
 refine dq rfl rfl (fun b1 => ?_)
 refine zz0 (ab rfl) (ad (an (aH (ah (zz0 (zz2 (off := 1) (ft := 31) rfl cL rfl cQ) ?_)))))
 refine zz0 (mj rfl dR) ?_
 refine zz0 (zz2 (off := 0) (ft := 23) rfl af rfl ae) ?_
 refine zz0 (aG rfl am) ?_
 refine zz0 (aD rfl Tryz.call76 (fun w hw => y9 ents Ve i.addr w (hw.slF hE'))) ?_
 refine zz0 (ab rfl) (ad ?_)
 refine ao rfl ?_ ?_ <;> intro h2 <;> try simp only [bs] at h2
 ·refine ah (zz0 (ab rfl) (ad (aC (bj (aA ?_)))))
  refine aO Tryz.results75 rfl (fun w' hw => ?_)
  exact ⟨by rw [gk, if_pos (by assumption)], hw.b0⟩
 refine ah (zz0 (mj rfl gi) ?_)
 refine zz0 (zz2 (off := 0) (ft := 23) rfl af rfl ae) ?_
 refine zz0 (aG rfl am) ?_
 refine zz0 (EN rfl rfl (by assumption) eC aP np) ?_
 refine zz0 (ab rfl) (ad ?_)
 refine ao rfl ?_ ?_ <;> intro h3 <;> try simp only [bs] at h3
 ·refine ah (zz0 (ab rfl) (ad (aC (bj (aA ?_)))))
  refine aO Tryz.results75 rfl (fun w' hw => ?_)
  exact ⟨by rw [gk, if_neg (by simp_all), if_pos (by assumption)], hw.b0⟩
 refine cg (aY (ac (ah (zz0 (ab rfl) (ad (aC ?_))))))
 refine aO Tryz.results75 rfl (fun w' hw => ?_)
 exact ⟨by rw [gk, if_neg (by simp_all), if_neg (by simp_all)], hw.b0⟩
theorem yw (i j : Ins) (ents : List UInt32) (tm : List (UInt32 × Bool)) (Vi Ve Vu Vb : Value) (bc bm bmap : Nat) (bg : Nat) (w : World) (hc : CellsIn (hp w) bc [Vi, Ve, Vu, Vb]) (hm : CellsIn (hp w) bm [.map (some bmap)]) (hM : MapIn (hp w) bmap dl tm) (hE : Sl (hp w) au ents Ve) (hg : CellsIn (hp w) bg [.func (.func 75) #[] #[.pointer (some ⟨bc, 0, none⟩), .pointer (some ⟨bm, 0, none⟩)]]) :
  Cr Tryz.prog 79 #[.agg (aT.enc i).toArray, .agg (aT.enc j).toArray, .pointer (some ⟨bg, 0, none⟩)] w (.int .i64 (Ip ents tm i j)) := by
 have hc' : CellsIn (Bg.of w).blk bc [Vi, Ve, Vu, Vb] := hc
 have hm' : CellsIn (Bg.of w).blk bm [.map (some bmap)] := hm
 have hM' : MapIn (Bg.of w).blk bmap dl tm := hM
 have hE' : Sl (Bg.of w).blk au ents Ve := hE
 have hg' : CellsIn (Bg.of w).blk bg [.func (.func 75) #[] #[.pointer (some ⟨bc, 0, none⟩), .pointer (some ⟨bm, 0, none⟩)]] := hg
 refine enter Tryz.func79 rfl Tryz.ntmps79 rfl ?_
 refine ah ?_
 refine dq rfl rfl (fun b1 => ?_)
 refine dq rfl rfl (fun b2 => ?_)
 refine zz0 (ab rfl) (ad (an (g9 aU ?_)))
 refine aw (mj rfl Tryz.isAgg153) ?_
 refine aw (bC rfl aS ay) ?_
 refine aw (iJ rfl rfl Tryz.call75 (fun w hw => rL i ents tm Vi Ve Vu Vb bc bm bmap w (hc'.mono hw.bg) (hm'.mono hw.bg) (hM'.mono hw.bg) (hw.slF hE'))) ?_
 refine aw (mj rfl Tryz.isAgg153) ?_
 refine aw (bC rfl aS ay) ?_
 refine aw (iJ rfl rfl Tryz.call75 (fun w hw => rL j ents tm Vi Ve Vu Vb bc bm bmap w (hc'.mono hw.bg) (hm'.mono hw.bg) (hM'.mono hw.bg) (hw.slF hE'))) ?_
 refine aw (aD rfl Tryz.call80 (fun w hw => GV (gk ents tm i) (gk ents tm j) w)) ?_
 refine aw (ab rfl) (bI ?_)
 refine ac (aC ?_)
 refine aO Tryz.results79 rfl (fun w' hw => ?_)
 exact ⟨rfl, hw.b0⟩
theorem wu (i : Ins) (a : UInt32) (b : Nat) (w : World) (hc : Cell (hp w) b 0 (.int .u32 a.toNat)) :
  Cr Tryz.prog 87 #[.agg (aT.enc i).toArray, .pointer (some ⟨b, 0, none⟩)] w (.bool (decide (i.addr = a))) := by
 have hc' : Cell (Bg.of w).blk b 0 (.int .u32 a.toNat) := hc
 refine enter Tryz.func87 rfl Tryz.ntmps87 rfl ?_
 refine ah ?_
 refine dq rfl rfl (fun b1 => ?_)
 refine zz0 (ab rfl) (aM (zz0 (zz2 (off := 0) (ft := 23) rfl af rfl ae) ?_))
 refine zz0 (aG rfl am) ?_
 refine zz0 (oh rfl (by assumption) am) ?_
 refine zz0 (dO rfl rfl) ?_
 refine zz0 (ab rfl) (ad (aC ?_))
 refine aO Tryz.results87 rfl (fun w' hw => ?_)
 exact ⟨rfl, hw.b0⟩
theorem oK (a : UInt32) (l : List Ins) (V : Value) (b : Nat) (w : World) (hc : CellsIn (hp w) b [V]) (hV : Sl (hp w) aT l V) :
  Cr Tryz.prog 85 #[.int .u32 a.toNat, .pointer (some ⟨b, 0, none⟩)] w (.bool (inK l a)) := by
 have hc' : CellsIn (Bg.of w).blk b [V] := hc
 have hV' : Sl (Bg.of w).blk aT l V := hV
 refine enter Tryz.func85 rfl Tryz.ntmps85 rfl ?_
 refine ah ?_
 refine dq rfl rfl (fun b1 => ?_)
 refine zz0 (ab rfl) (aM (zz0 (mj rfl dN) ?_))
 refine zz0 (fF rfl rfl) ?_
 refine zz0 (aD rfl Tryz.call86 (fun w hw => oc l V _ _ w (hw.slF hV') Tryz.call87 (fun i => decide (i.addr = a)) (fun x hx w'' h => wu x a _ w'' (cellE.cell (hw.ent _ (by repeat constructor)) h rfl)))) ?_
 refine zz0 (ab rfl) (ad (aC ?_))
 refine aO Tryz.results85 rfl (fun w' hw => ?_)
 exact ⟨rfl, hw.b0⟩
end Go.Proofs.YtiajjbhcpeadfaaGreat
namespace Go.Proofs.YtiajjbhcpeadfaaGreat
open Go Go.HL Go.RowKit
theorem Gc (ents : List UInt32) (tm : List (UInt32 × Bool)) : dL (Ip ents tm) = ltG (gk ents tm) := by
 funext x y
 unfold dL Ip ltG
 congr 1
 exact propext (Io _ _)
theorem Ad (ins : List Ins) (ents unk bad : List UInt32) (Vi Ve Vu Vb : Value) (w : World) (hV : Sl (hp w) aT ins Vi) (hE : Sl (hp w) au ents Ve) (hU : Sl (hp w) au unk Vu) (hB : Sl (hp w) au bad Vb) (hI : ∀ x ∈ ins, InsOK x) (hn1 : ins.length ≤ 700) (hn2 : ents.length ≤ 700) (hn3 : unk.length ≤ 700) (hn4 : bad.length ≤ 100000) :
  Calls Tryz.prog 29 #[.agg #[Vi, Ve, Vu, Vb]] w (fun e w' => ∃ i : Value × Value × Value × Value × Value, e = .returned (.tuple #[.agg #[i.1, i.2.1, i.2.2.1, i.2.2.2.1], i.2.2.2.2]) ∧ Ext w w' ∧ NewEnts w w' [rowE i.1 36 aT (gQ ins ents unk bad).kept, rowE i.2.1 23 au (gQ ins ents unk bad).ents, rowE i.2.2.1 23 au (gQ ins ents unk bad).unk, rowE i.2.2.2.1 23 au (gQ ins ents unk bad).bad, rowE i.2.2.2.2 23 au (gQ ins ents unk bad).rem]) := by
 have hV' : Sl (Bg.of w).blk aT ins Vi := hV
 have hE' : Sl (Bg.of w).blk au ents Ve := hE
 have hU' : Sl (Bg.of w).blk au unk Vu := hU
 have hB' : Sl (Bg.of w).blk au bad Vb := hB
 obtain ⟨lc, hlc⟩ : ∃ lc, lc = fQ ins := ⟨_, rfl⟩
 obtain ⟨tm, htm⟩ : ∃ tm, tm = rA lc := ⟨_, rfl⟩
 have hcl := vR ins
 rw [← hlc] at hcl
 have hcI : ∀ x ∈ lc, InsOK x := fun x hx => hI _ (vQ (hlc ▸ hx))
 obtain ⟨w0, hw0⟩ : ∃ w0, w0 = w := ⟨_, rfl⟩
 subst hw0
 refine enter Tryz.func29 rfl Tryz.ntmps29 rfl ?_
 refine ah ?_
 refine dq rfl rfl (fun b1 => ?_)
 refine dB eZ rfl (fun b2 => ?_)
 refine zz0 (ab rfl) (ad (sw (ah (zz0 (zz2 (off := 0) (ft := 50) rfl cL rfl dy) ?_))))
 refine zz0 (aG rfl dN) ?_
 refine ip rfl Tryz.call73 (fun w hw => (by rw [hlc]; exact yZ ins Vi w (hw.slF hV') hI hn1 : Calls Tryz.prog 73 #[Vi] w (fun e w' => ∃ V', e = .returned V' ∧ Ext w w' ∧ iu w w' 36 aT (lc) V'))) rfl (fun V3 => ?_)
 refine zz0 (ab rfl) (ad (an ?_))
 skip
 refine ar (zz0 (aa rfl) ?_)
 refine kg (fun b : Nat => .map (some b)) (fun b => [mapE b dl tm]) (ok := fun _ => True) rfl Tryz.call74 (fun w hw => (zP lc _ w (hw.row (by repeat constructor)) hcI (by omega)).mono fun e w' ⟨b, q1, q2, q3⟩ => ⟨b, q1, q2, by rw [htm]; exact q3, trivial⟩) rfl (fun bmap _ => ?_)
 refine dB Tryz.zeroValue141 rfl (fun b4 => ?_)
 refine jG rfl rfl ga (by repeat constructor) (by rfl) (by rfl) (by first | exact List.all_eq_true.1 rfl | exact Enc.one _ _) rfl ?_
 refine aM (zz0 (fF rfl rfl) ?_)
 refine dB Tryz.zeroValue153 rfl (fun b5 => ?_)
 refine jG rfl rfl Tryz.sizeOf153 (by repeat constructor) (by rfl) (by rfl) (by first | exact List.all_eq_true.1 rfl | exact Enc.one _ _) rfl ?_
 refine aM (zz0 (aa rfl) ?_)
 refine ip rfl Tryz.call77 (fun w hw => xO lc _ w (hw.row (by repeat constructor)) (by omega)) rfl (fun V6 => ?_)
 refine zz0 (ab rfl) (aM (zz0 (aa rfl) (zz0 (fF rfl rfl) ?_)))
 refine ii (fun c => c = ed (gk ents tm) lc) rfl Tryz.call78 (fun w hw => (pS lc _ 79 [.pointer (some ⟨b5, 0, none⟩)] (Ip ents tm) (fun w' => ∃ l', HpOK (Bg.of w0) (rowE V6 36 aT l' :: [cellE b5 [.func (.func 75) #[] #[.pointer (some ⟨b1, 0, none⟩), .pointer (some ⟨b4, 0, none⟩)]] 153, cellE b4 [.map (some bmap)] 141, mapE bmap dl tm, rowE V3 36 aT lc, cellE b2 [.slice none 0 0, .slice none 0 0, .slice none 0 0, .slice none 0 0] 52, cellE b1 [Vi, Ve, Vu, Vb] 52]) w') (fun w w' l' ⟨l0, h⟩ m r => ⟨l', HpOK.mut h (.here _) m r⟩) Tryz.call79 (fun x y w' ⟨l0, h⟩ => yw x y ents tm Vi Ve Vu Vb b1 b4 bmap b5 w' (cellE.cellsIn (h.ent _ (by repeat constructor)) (Ext.refl _)) (cellE.cellsIn (h.ent _ (by repeat constructor)) (Ext.refl _)) (mapE.in_ (h.ent _ (by repeat constructor))) (h.slF hE') (cellE.cellsIn (h.ent _ (by repeat constructor)) (Ext.refl _))) (by rw [Gc]; exact EZ _) w ⟨lc, hw⟩ (hw.ent _ (.head _)) (by omega)).mono fun e w' ⟨q1, c, ⟨q2, q3, q4⟩, q5, q6⟩ => ⟨q1, c, by rw [Gc] at q2 q4; exact I3 (mf ents tm) q2 (Srt.all (by rw [q2.len]; exact q4)), q5, q6⟩) rfl (fun c2 hc2 => ?_)
 refine ad (an ?_)
 subst hc2
 refine ar ?_
 refine dB Tryz.zeroValue50 rfl (fun b7 => ?_)
 refine ad (an (sy ?_))
 refine ac (an (ah (zz0 (aa rfl) (zz0 (lz rfl aR) ?_))))
 refine zz0 (aa rfl) (ad (aH (cn 36 aT ?_)))
 refine bK (ι := Nat × Value) (fun ⟨k, Vk⟩ => k ≤ (ed (gk ents tm) lc).length) (fun _ => _) (fun ⟨k, Vk⟩ => [cellE b7 [Vk] 50, rowE Vk 36 aT (lM ((ed (gk ents tm) lc).take k)), rowE V6 36 aT (ed (gk ents tm) lc), cellE b5 [.func (.func 75) #[] #[.pointer (some ⟨b1, 0, none⟩), .pointer (some ⟨b4, 0, none⟩)]] 153, cellE b4 [.map (some bmap)] 141, mapE bmap dl tm, rowE V3 36 aT lc, cellE b2 [.slice none 0 0, .slice none 0 0, .slice none 0 0, .slice none 0 0] 52, cellE b1 [Vi, Ve, Vu, Vb] 52]) (fun ⟨k, Vk⟩ => [(35, .int .i64 (k : Nat))]) (fun ⟨k, Vk⟩ => (ed (gk ents tm) lc).length - k) (0, _) (Nat.zero_le _) (Front.c Front.nil) (by repeat' constructor) rfl (fun i hi m hm => ?_)
 obtain ⟨k, Vk⟩ := i
 replace hi : k ≤ (ed (gk ents tm) lc).length := hi
 replace hm : m = (ed (gk ents tm) lc).length - k := hm
 change Tr _ _ [cellE b7 [Vk] 50, rowE Vk 36 aT (lM ((ed (gk ents tm) lc).take k)), rowE V6 36 aT (ed (gk ents tm) lc), cellE b5 [.func (.func 75) #[] #[.pointer (some ⟨b1, 0, none⟩), .pointer (some ⟨b4, 0, none⟩)]] 153, cellE b4 [.map (some bmap)] 141, mapE bmap dl tm, rowE V3 36 aT lc, cellE b2 [.slice none 0 0, .slice none 0 0, .slice none 0 0, .slice none 0 0] 52, cellE b1 [Vi, Ve, Vu, Vb] 52] ([(35, .int .i64 (k : Nat))] ++ _) _
 have hol := yD (mf ents tm) lc
 have hkl := td ((ed (gk ents tm) lc).take k)
 rw [List.length_take] at hkl
 have hoI : ∀ x ∈ ed (gk ents tm) lc, InsOK x := fun x hx => hcI x (Db hx)
 obtain ⟨kq, hkq⟩ : ∃ kq, kq = lM ((ed (gk ents tm) lc).take k) := ⟨_, rfl⟩
 have hqI : ∀ x ∈ kq, InsOK x := fun x hx => by
  rw [hkq] at hx
  exact hoI x (List.mem_of_mem_take (Ax hx))
 rw [← hkq] at hkl ⊢
 refine ah (zz0 (bT rfl rfl) (ad (an ?_)))
 refine ao rfl ?_ ?_ <;> intro h8 <;> try simp only [bs] at h8
 ·refine bA (an (aH (ah (zz0 (zz9 rfl rfl aR ay) ?_))))
  refine zz0 (nc rfl aS ay) ?_
  refine dB bZ rfl (fun b9 => ?_)
  refine aF aT rfl rfl ay ?_
  refine ad (an (ah (zz0 (aG rfl dN) ?_)))
  refine zz0 (lz rfl aR) ?_
  refine zz0 (aa rfl) (ad (aH ?_))
  refine bK (ι := Nat) (fun j => j ≤ kq.length ∧ (kq.take j).any (jN ((ed (gk ents tm) lc).getD k default)) = false) (fun _ => _) (fun j => [cellE b9 (aT.enc ((ed (gk ents tm) lc).getD k default)) 36, cellE b7 [Vk] 50, rowE Vk 36 aT kq, rowE V6 36 aT (ed (gk ents tm) lc), cellE b5 [.func (.func 75) #[] #[.pointer (some ⟨b1, 0, none⟩), .pointer (some ⟨b4, 0, none⟩)]] 153, cellE b4 [.map (some bmap)] 141, mapE bmap dl tm, rowE V3 36 aT lc, cellE b2 [.slice none 0 0, .slice none 0 0, .slice none 0 0, .slice none 0 0] 52, cellE b1 [Vi, Ve, Vu, Vb] 52]) (fun j => [(41, .int .i64 (j : Nat))]) (fun j => kq.length - j) 0 ⟨Nat.zero_le _, rfl⟩ (Front.c Front.nil) (by repeat' constructor) rfl (fun j hi m hm => ?_)
  replace hi : j ≤ kq.length ∧ (kq.take j).any (jN ((ed (gk ents tm) lc).getD k default)) = false := hi
  replace hm : m = kq.length - j := hm
  change Tr _ _ [cellE b9 (aT.enc ((ed (gk ents tm) lc).getD k default)) 36, cellE b7 [Vk] 50, rowE Vk 36 aT kq, rowE V6 36 aT (ed (gk ents tm) lc), cellE b5 [.func (.func 75) #[] #[.pointer (some ⟨b1, 0, none⟩), .pointer (some ⟨b4, 0, none⟩)]] 153, cellE b4 [.map (some bmap)] 141, mapE bmap dl tm, rowE V3 36 aT lc, cellE b2 [.slice none 0 0, .slice none 0 0, .slice none 0 0, .slice none 0 0] 52, cellE b1 [Vi, Ve, Vu, Vb] 52] ([(41, .int .i64 (j : Nat))] ++ _) _
  obtain ⟨hj1, hj2⟩ := hi
  refine ah (zz0 (bT rfl rfl) (ad (an ?_)))
  refine ao rfl ?_ ?_ <;> intro h10 <;> try simp only [bs] at h10
  ·refine bA (an (aH (ah (zz0 (zz9 rfl rfl aR ay) ?_))))
   refine zz0 (nc rfl aS ay) ?_
   refine dB bZ rfl (fun b11 => ?_)
   refine aF aT rfl rfl ay ?_
   refine aM (zz0 (bC rfl aS ay) ?_)
   refine zz0 (bC rfl aS ay) ?_
   refine zz0 (aD rfl Tryz.call81 (fun w hw => zb ((ed (gk ents tm) lc).getD k default) (kq.getD j default) w (hoI _ (de (by omega))) (hqI _ (de (by omega))))) ?_
   refine ad ?_
   refine ao rfl ?_ ?_ <;> intro h12 <;> try simp only [bs] at h12
   ·refine bF (jI rfl ?_)
    refine aI (aI (jI rfl ?_))
    refine aI (bv (ac ?_))
    skip
    refine ar (zz0 (cE rfl rfl) ?_)
    refine zz0 (aa rfl) (ad ?_)
    have hst := xw (l := ed (gk ents tm) lc) (k := k) (by omega)
    rw [← hkq, gU, if_pos (List.any_eq_true.2 ⟨_, de (k := j) (by omega), by assumption⟩)] at hst
    rw [← hst]
    refine cF (k + 1, _) (Front.c Front.nil) (bD 18 rfl) (o := (by show k + 1 ≤ _; omega))
   refine cg (aY (ac (ar (zz0 (cE rfl rfl) ?_))))
   refine zz0 (aa rfl) (ad ?_)
   refine cF (j + 1) (Front.c Front.nil) (bD 10 rfl) (o := ⟨by omega, by rw [any_take_succ (by omega), hj2, Bool.false_or]; assumption⟩)
  refine bF (aI (aI (bv (ac (ar (zz0 (aG rfl dN) ?_))))))
  refine zz0 (bC rfl aS ay) ?_
  refine jl (E := aT) _ rfl rfl aR ay bZ (fun V13 => ?_)
  refine zz1 rfl rfl aR kN (fun V14 => ?_)
  refine dz (.head _) (fun pz qz hpv => ?_)
  subst hpv
  refine jG rfl rfl dy (by repeat constructor) (by rfl) (by rfl) (by first | exact List.all_eq_true.1 rfl | exact Enc.one _ _) rfl ?_
  refine ax (aY (ac ?_))
  skip
  refine ar (zz0 (cE rfl rfl) ?_)
  refine zz0 (aa rfl) (ad ?_)
  obtain rfl : j = kq.length := by omega
  rw [List.take_length] at hj2
  have hst := xw (l := ed (gk ents tm) lc) (k := k) (by omega)
  rw [← hkq, gU, if_neg (by rw [hj2]; simp)] at hst
  rw [← hst]
  refine cF (k + 1, _) (Front.c Front.nil) (bD 16 rfl) (o := (by show k + 1 ≤ _; omega))
 refine bF (aI (aI (bv (ac (an ?_)))))
 obtain rfl : k = (ed (gk ents tm) lc).length := by omega
 rw [List.take_length] at *
 subst hkq
 have hkl := td (ed (gk ents tm) lc)
 have hol := yD (mf ents tm) lc
 refine ar (zz0 (aG rfl dN) ?_)
 refine d5 rfl Tryz.call82 (by repeat constructor) (fun w hw => rF Tryz.sortIns aT 36 aS ay l4 k9 83 [] (lM (ed (gk ents tm) lc)) _ w Tryz.call83 (hw.ent _ (by repeat constructor)) (by omega) (fun x y w' _ => yv x y w') (nR w 83 #[])) rfl ?_
 refine ad (an ?_)
 obtain ⟨kp, hkp⟩ : ∃ kp, kp = mR (Go.Proofs.ltOf l4) (lM (ed (gk ents tm) lc)) := ⟨_, rfl⟩
 rw [← hkp]
 refine ar (zz0 (fF rfl rfl) ?_)
 refine zz0 (ab rfl) (aM (zz0 (ab rfl) (ad (an (ah (zz0 (aa rfl) (zz0 (lz rfl aR) ?_)))))))
 refine zz0 (aa rfl) (ad (aH (cn 23 au ?_)))
 refine bK (ι := Nat × Value) (fun ⟨k, Vr⟩ => k ≤ lc.length) (fun _ => _) (fun ⟨k, Vr⟩ => [rowE Vr 23 au (nT (lc.take k) kp), cellE b7 [Vk] 50, rowE Vk 36 aT kp, rowE V6 36 aT (ed (gk ents tm) lc), cellE b5 [.func (.func 75) #[] #[.pointer (some ⟨b1, 0, none⟩), .pointer (some ⟨b4, 0, none⟩)]] 153, cellE b4 [.map (some bmap)] 141, mapE bmap dl tm, rowE V3 36 aT lc, cellE b2 [.slice none 0 0, .slice none 0 0, .slice none 0 0, .slice none 0 0] 52, cellE b1 [Vi, Ve, Vu, Vb] 52]) (fun ⟨k, Vr⟩ => [(59, .int .i64 (k : Nat)), (14, Vr)]) (fun ⟨k, Vr⟩ => lc.length - k) (0, _) (Nat.zero_le _) (Front.c (Front.c Front.nil)) (by repeat' constructor) rfl (fun i hi m hm => ?_)
 obtain ⟨k, Vr⟩ := i
 replace hi : k ≤ lc.length := hi
 replace hm : m = lc.length - k := hm
 change Tr _ _ [rowE Vr 23 au (nT (lc.take k) kp), cellE b7 [Vk] 50, rowE Vk 36 aT kp, rowE V6 36 aT (ed (gk ents tm) lc), cellE b5 [.func (.func 75) #[] #[.pointer (some ⟨b1, 0, none⟩), .pointer (some ⟨b4, 0, none⟩)]] 153, cellE b4 [.map (some bmap)] 141, mapE bmap dl tm, rowE V3 36 aT lc, cellE b2 [.slice none 0 0, .slice none 0 0, .slice none 0 0, .slice none 0 0] 52, cellE b1 [Vi, Ve, Vu, Vb] 52] ([(59, .int .i64 (k : Nat)), (14, Vr)] ++ _) _
 have hrl := HK (lc.take k) kp
 rw [List.length_take] at hrl
 refine ah (zz0 (bT rfl rfl) (ad (an ?_)))
 refine ao rfl ?_ ?_ <;> intro h15 <;> try simp only [bs] at h15
 ·refine bA (an (aH (ah (zz0 (zz9 rfl rfl aR ay) ?_))))
  refine zz0 (nc rfl aS ay) ?_
  refine dB bZ rfl (fun b16 => ?_)
  refine aF aT rfl rfl ay ?_
  refine aM (zz0 (aa rfl) (zz0 (zz2 (off := 0) (ft := 23) rfl af rfl ae) ?_))
  refine zz0 (aG rfl am) ?_
  refine zz0 (iJ rfl rfl Tryz.call85 (fun w hw => oK (lc.getD k default).addr kp Vk b7 w (cellE.cellsIn (hw.ent _ (by repeat constructor)) (Ext.refl _)) (hw.row (by repeat constructor)))) ?_
  refine zz0 (cp rfl) (ad ?_)
  refine ao rfl ?_ ?_ <;> intro h17 <;> try simp only [bs] at h17
  ·refine ar (zz0 (aa rfl) (zz0 (zz2 (off := 0) (ft := 23) rfl af rfl ae) ?_))
   refine zz0 (aG rfl am) ?_
   refine jl (E := au) _ rfl rfl al ae cX (fun V18 => ?_)
   refine zz1 rfl rfl al eN (fun V19 => ?_)
   refine zz0 (ab rfl) (ax (aY (ac (ar (zz0 (cE rfl rfl) ?_)))))
   refine zz0 (aa rfl) (ad ?_)
   rw [← HJ (by omega) (by simp_all)]
   refine cF (k + 1, _) (Front.c (Front.c Front.nil)) (bD 19 rfl) (o := (by show k + 1 ≤ _; omega))
  refine cg (aY (ac (ar (zz0 (cE rfl rfl) ?_))))
  refine zz0 (aa rfl) (ad ?_)
  rw [← I0 (by omega) (by simp_all)]
  refine cF (k + 1, _) (Front.c (Front.c Front.nil)) (bD 13 rfl) (o := (by show k + 1 ≤ _; omega))
 refine bF (aI (aI (bv (ac ?_))))
 obtain rfl : k = lc.length := by omega
 rw [List.take_length] at *
 refine jh (V := Vk) (fun pa1 pc1 hpv => ?_)
 subst hpv
 refine dj (ι := Nat × Option Addr × Nat) (fun ⟨b17, pb, cb⟩ => True) (fun _ => Bg.of w0) (fun ⟨b17, pb, cb⟩ => [cellE b17 [(.slice pa1 kp.length pc1), .slice none 0 0, .slice none 0 0, (.slice pb bad.length cb)] 52, rowE (.slice pb bad.length cb) 23 au bad, rowE Vr 23 au (nT lc kp), cellE b7 [(.slice pa1 kp.length pc1)] 50, rowE (.slice pa1 kp.length pc1) 36 aT kp, rowE V6 36 aT (ed (gk ents tm) lc), cellE b5 [.func (.func 75) #[] #[.pointer (some ⟨b1, 0, none⟩), .pointer (some ⟨b4, 0, none⟩)]] 153, cellE b4 [.map (some bmap)] 141, mapE bmap dl tm, rowE V3 36 aT lc, cellE b2 [.slice none 0 0, .slice none 0 0, .slice none 0 0, .slice none 0 0] 52, cellE b1 [Vi, Ve, Vu, Vb] 52]) (fun ⟨b17, pb, cb⟩ => [(17, .pointer (some ⟨b17, 0, none⟩))]) ?_ (fun i hi => ?_)
 ·skip
  skip
  refine dZ ([rowE Vr 23 au (nT lc kp), cellE b7 [(.slice pa1 kp.length pc1)] 50, rowE (.slice pa1 kp.length pc1) 36 aT kp, rowE V6 36 aT (ed (gk ents tm) lc), cellE b5 [.func (.func 75) #[] #[.pointer (some ⟨b1, 0, none⟩), .pointer (some ⟨b4, 0, none⟩)]] 153, cellE b4 [.map (some bmap)] 141, mapE bmap dl tm, rowE V3 36 aT lc, cellE b2 [.slice none 0 0, .slice none 0 0, .slice none 0 0, .slice none 0 0] 52, cellE b1 [Vi, Ve, Vu, Vb] 52]) 7 rfl aU ?_
  refine zz7 0 rfl (aG rfl dN) ?_
  refine zz7 1 rfl (zz2 (off := 3) (ft := 31) rfl cL rfl cQ) ?_
  refine zz7 2 rfl (aG rfl dR) ?_
  refine dA [3, 5] (fun iq hq => ?_)
  rcases List.mem_cons.1 hq with rfl | hq
  ·skip
   refine bJ rfl ?_
   refine ip rfl Tryz.call57 (fun w hw => tA bad Vb w (hw.slF hB') (by omega)) rfl (fun V20 => ?_)
   refine dz (.head _) (fun pb cb hpv => ?_)
   subst hpv
   refine cj ?_
   refine zz7 4 rfl (bL (vs := [(0, _), (3, _)]) rfl rfl rfl) ?_
   refine dA [5] (fun iq hq => ?_)
   obtain rfl := List.mem_singleton.1 hq
   refine bJ rfl ?_
   refine dB eZ rfl (fun b21 => ?_)
   refine cj ?_
   refine dA [6] (fun iq hq => ?_)
   obtain rfl := List.mem_singleton.1 hq
   refine bJ rfl ?_
   refine zz8 rfl rfl cP ?_
   refine cj ?_
   refine jg ?_
   refine ac ?_
   refine cD (_, _, _) (Front.c Front.nil) (bD 6 rfl) (o := trivial)
  obtain rfl := List.mem_singleton.1 hq
  refine bJ rfl ?_
  refine dB eZ rfl (fun b22 => ?_)
  refine cj ?_
  refine dA [3] (fun iq hq => ?_)
  obtain rfl := List.mem_singleton.1 hq
  refine bJ rfl ?_
  refine ip rfl Tryz.call57 (fun w hw => tA bad Vb w (hw.slF hB') (by omega)) rfl (fun V23 => ?_)
  refine dz (.head _) (fun pb cb hpv => ?_)
  subst hpv
  refine cj ?_
  refine zz7 4 rfl (bL (vs := [(0, _), (3, _)]) rfl rfl rfl) ?_
  refine dA [6] (fun iq hq => ?_)
  obtain rfl := List.mem_singleton.1 hq
  refine bJ rfl ?_
  refine zz8 rfl rfl cP ?_
  refine cj ?_
  refine jg ?_
  refine ac ?_
  refine cD (_, _, _) (Front.c Front.nil) (bD 6 rfl) (o := trivial)
 obtain ⟨b17, pb, cb⟩ := i
 replace hi : True := hi
 change Tr _ _ [cellE b17 [(.slice pa1 kp.length pc1), .slice none 0 0, .slice none 0 0, (.slice pb bad.length cb)] 52, rowE (.slice pb bad.length cb) 23 au bad, rowE Vr 23 au (nT lc kp), cellE b7 [(.slice pa1 kp.length pc1)] 50, rowE (.slice pa1 kp.length pc1) 36 aT kp, rowE V6 36 aT (ed (gk ents tm) lc), cellE b5 [.func (.func 75) #[] #[.pointer (some ⟨b1, 0, none⟩), .pointer (some ⟨b4, 0, none⟩)]] 153, cellE b4 [.map (some bmap)] 141, mapE bmap dl tm, rowE V3 36 aT lc, cellE b2 [.slice none 0 0, .slice none 0 0, .slice none 0 0, .slice none 0 0] 52, cellE b1 [Vi, Ve, Vu, Vb] 52] ([(17, .pointer (some ⟨b17, 0, none⟩))] ++ _) _
 refine an (an ?_)
 skip
 refine ar (zz0 (zz2 (off := 1) (ft := 31) rfl cL rfl cQ) ?_)
 refine zz0 (aG rfl dR) ?_
 refine zz0 (gK rfl al) ?_
 refine zz0 (aa rfl) (ad (aH (cn 23 au ?_)))
 refine bK (ι := Nat × Value) (fun ⟨k, Ve2⟩ => k ≤ ents.length) (fun _ => _) (fun ⟨k, Ve2⟩ => [cellE b17 [(.slice pa1 kp.length pc1), Ve2, .slice none 0 0, (.slice pb bad.length cb)] 52, rowE Ve2 23 au ((ents.take k).filter (inK kp)), rowE (.slice pb bad.length cb) 23 au bad, rowE Vr 23 au (nT lc kp), cellE b7 [(.slice pa1 kp.length pc1)] 50, rowE (.slice pa1 kp.length pc1) 36 aT kp, rowE V6 36 aT (ed (gk ents tm) lc), cellE b5 [.func (.func 75) #[] #[.pointer (some ⟨b1, 0, none⟩), .pointer (some ⟨b4, 0, none⟩)]] 153, cellE b4 [.map (some bmap)] 141, mapE bmap dl tm, rowE V3 36 aT lc, cellE b2 [.slice none 0 0, .slice none 0 0, .slice none 0 0, .slice none 0 0] 52, cellE b1 [Vi, Ve, Vu, Vb] 52]) (fun ⟨k, Ve2⟩ => [(82, .int .i64 (k : Nat))]) (fun ⟨k, Ve2⟩ => ents.length - k) (0, _) (Nat.zero_le _) (Front.c Front.nil) (by repeat' constructor) rfl (fun i hi m hm => ?_)
 obtain ⟨k, Ve2⟩ := i
 replace hi : k ≤ ents.length := hi
 replace hm : m = ents.length - k := hm
 change Tr _ _ [cellE b17 [(.slice pa1 kp.length pc1), Ve2, .slice none 0 0, (.slice pb bad.length cb)] 52, rowE Ve2 23 au ((ents.take k).filter (inK kp)), rowE (.slice pb bad.length cb) 23 au bad, rowE Vr 23 au (nT lc kp), cellE b7 [(.slice pa1 kp.length pc1)] 50, rowE (.slice pa1 kp.length pc1) 36 aT kp, rowE V6 36 aT (ed (gk ents tm) lc), cellE b5 [.func (.func 75) #[] #[.pointer (some ⟨b1, 0, none⟩), .pointer (some ⟨b4, 0, none⟩)]] 153, cellE b4 [.map (some bmap)] 141, mapE bmap dl tm, rowE V3 36 aT lc, cellE b2 [.slice none 0 0, .slice none 0 0, .slice none 0 0, .slice none 0 0] 52, cellE b1 [Vi, Ve, Vu, Vb] 52] ([(82, .int .i64 (k : Nat))] ++ _) _
 have hfl := List.length_filter_le (inK kp) (ents.take k)
 rw [List.length_take] at hfl
 refine ah (zz0 (bT rfl rfl) (ad (an ?_)))
 refine ao rfl ?_ ?_ <;> intro h24 <;> try simp only [bs] at h24
 ·refine bA (an (aH (ah (zz0 (hZ rfl rfl al ae) ?_))))
  refine zz0 (jP rfl am) ?_
  refine zz0 (ab rfl) (aM (zz0 (aa rfl) (zz0 (aa rfl) (zz0 (iJ rfl rfl Tryz.call85 (fun w hw => oK (ents.getD k default) kp _ b7 w (cellE.cellsIn (hw.ent _ (by repeat constructor)) (Ext.refl _)) (hw.row (by repeat constructor)))) ?_))))
  refine ad ?_
  refine ao rfl ?_ ?_ <;> intro h25 <;> try simp only [bs] at h25
  ·refine ar (zz0 (zz2 (off := 1) (ft := 31) rfl cL rfl cQ) ?_)
   refine zz0 (aG rfl dR) ?_
   refine zz0 (aa rfl) ?_
   refine jl (E := au) _ rfl rfl al ae cX (fun V26 => ?_)
   refine zz1 rfl rfl al eN (fun V27 => ?_)
   refine dz (.head _) (fun pz qz hpv => ?_)
   subst hpv
   refine zz0 (zz2 (off := 1) (ft := 31) rfl cL rfl cQ) ?_
   refine zz5 (cs' := [_, _, _, _]) rfl rfl cQ rfl ?_
   refine ax (aY (ac (ar (zz0 (cE rfl rfl) ?_))))
   refine zz0 (aa rfl) (ad ?_)
   rw [← lE (by omega) (by assumption)]
   refine cF (k + 1, _) (Front.c Front.nil) (bD 16 rfl) (o := (by show k + 1 ≤ _; omega))
  refine cg (aY (ac (ar (zz0 (cE rfl rfl) ?_))))
  refine zz0 (aa rfl) (ad ?_)
  rw [← lF (p := inK kp) (by omega) (by assumption)]
  refine cF (k + 1, _) (Front.c Front.nil) (bD 10 rfl) (o := (by show k + 1 ≤ _; omega))
 refine bF (aI (aI (bv (ac (an (an ?_))))))
 obtain rfl : k = ents.length := by omega
 rw [List.take_length] at *
 refine jh (V := Ve2) (fun pa3 pc3 hpv => ?_)
 subst hpv
 refine ar (zz0 (zz2 (off := 2) (ft := 31) rfl cL rfl cQ) ?_)
 refine zz0 (aG rfl dR) ?_
 refine zz0 (gK rfl al) ?_
 refine zz0 (aa rfl) (ad (aH (cn 23 au ?_)))
 refine bK (ι := Nat × Value) (fun ⟨k, Vu2⟩ => k ≤ unk.length) (fun _ => _) (fun ⟨k, Vu2⟩ => [cellE b17 [(.slice pa1 kp.length pc1), (.slice pa3 (ents.filter (inK kp)).length pc3), Vu2, (.slice pb bad.length cb)] 52, rowE Vu2 23 au ((unk.take k).filter (inK kp)), rowE (.slice pa3 (ents.filter (inK kp)).length pc3) 23 au (ents.filter (inK kp)), rowE (.slice pb bad.length cb) 23 au bad, rowE Vr 23 au (nT lc kp), cellE b7 [(.slice pa1 kp.length pc1)] 50, rowE (.slice pa1 kp.length pc1) 36 aT kp, rowE V6 36 aT (ed (gk ents tm) lc), cellE b5 [.func (.func 75) #[] #[.pointer (some ⟨b1, 0, none⟩), .pointer (some ⟨b4, 0, none⟩)]] 153, cellE b4 [.map (some bmap)] 141, mapE bmap dl tm, rowE V3 36 aT lc, cellE b2 [.slice none 0 0, .slice none 0 0, .slice none 0 0, .slice none 0 0] 52, cellE b1 [Vi, Ve, Vu, Vb] 52]) (fun ⟨k, Vu2⟩ => [(99, .int .i64 (k : Nat))]) (fun ⟨k, Vu2⟩ => unk.length - k) (0, _) (Nat.zero_le _) (Front.c Front.nil) (by repeat' constructor) rfl (fun i hi m hm => ?_)
 obtain ⟨k, Vu2⟩ := i
 replace hi : k ≤ unk.length := hi
 replace hm : m = unk.length - k := hm
 change Tr _ _ [cellE b17 [(.slice pa1 kp.length pc1), (.slice pa3 (ents.filter (inK kp)).length pc3), Vu2, (.slice pb bad.length cb)] 52, rowE Vu2 23 au ((unk.take k).filter (inK kp)), rowE (.slice pa3 (ents.filter (inK kp)).length pc3) 23 au (ents.filter (inK kp)), rowE (.slice pb bad.length cb) 23 au bad, rowE Vr 23 au (nT lc kp), cellE b7 [(.slice pa1 kp.length pc1)] 50, rowE (.slice pa1 kp.length pc1) 36 aT kp, rowE V6 36 aT (ed (gk ents tm) lc), cellE b5 [.func (.func 75) #[] #[.pointer (some ⟨b1, 0, none⟩), .pointer (some ⟨b4, 0, none⟩)]] 153, cellE b4 [.map (some bmap)] 141, mapE bmap dl tm, rowE V3 36 aT lc, cellE b2 [.slice none 0 0, .slice none 0 0, .slice none 0 0, .slice none 0 0] 52, cellE b1 [Vi, Ve, Vu, Vb] 52] ([(99, .int .i64 (k : Nat))] ++ _) _
 have hfl := List.length_filter_le (inK kp) (unk.take k)
 rw [List.length_take] at hfl
 refine ah (zz0 (bT rfl rfl) (ad (an ?_)))
 refine ao rfl ?_ ?_ <;> intro h28 <;> try simp only [bs] at h28
 ·refine bA (an (aH (ah (zz0 (hZ rfl rfl al ae) ?_))))
  refine zz0 (jP rfl am) ?_
  refine zz0 (ab rfl) (aM (zz0 (aa rfl) (zz0 (aa rfl) (zz0 (iJ rfl rfl Tryz.call85 (fun w hw => oK (unk.getD k default) kp _ b7 w (cellE.cellsIn (hw.ent _ (by repeat constructor)) (Ext.refl _)) (hw.row (by repeat constructor)))) ?_))))
  refine ad ?_
  refine ao rfl ?_ ?_ <;> intro h29 <;> try simp only [bs] at h29
  ·refine ar (zz0 (zz2 (off := 2) (ft := 31) rfl cL rfl cQ) ?_)
   refine zz0 (aG rfl dR) ?_
   refine zz0 (aa rfl) ?_
   refine jl (E := au) _ rfl rfl al ae cX (fun V30 => ?_)
   refine zz1 rfl rfl al eN (fun V31 => ?_)
   refine dz (.head _) (fun pz qz hpv => ?_)
   subst hpv
   refine zz0 (zz2 (off := 2) (ft := 31) rfl cL rfl cQ) ?_
   refine zz5 (cs' := [_, _, _, _]) rfl rfl cQ rfl ?_
   refine ax (aY (ac (ar (zz0 (cE rfl rfl) ?_))))
   refine zz0 (aa rfl) (ad ?_)
   rw [← lE (by omega) (by assumption)]
   refine cF (k + 1, _) (Front.c Front.nil) (bD 16 rfl) (o := (by show k + 1 ≤ _; omega))
  refine cg (aY (ac (ar (zz0 (cE rfl rfl) ?_))))
  refine zz0 (aa rfl) (ad ?_)
  rw [← lF (p := inK kp) (by omega) (by assumption)]
  refine cF (k + 1, _) (Front.c Front.nil) (bD 10 rfl) (o := (by show k + 1 ≤ _; omega))
 refine bF (aI (aI (bv (ac (an ?_)))))
 obtain rfl : k = unk.length := by omega
 rw [List.take_length] at *
 refine jh (V := Vu2) (fun pa4 pc4 hpv => ?_)
 subst hpv
 refine ar (zz0 (bC rfl gv cP) ?_)
 refine zz0 (aa rfl) (zz8 rfl rfl cP ?_)
 refine zz0 (ab rfl) (ad (aC (f9 ?_)))
 refine lA Tryz.results29 rfl rfl gv cP (fun w' hw => ?_)
 subst hkp htm hlc
 exact ⟨(_, _, _, _, _), rfl, hw.b0, hw.ents (w := w0) (Bg.le.refl _) (by repeat' constructor)⟩
end Go.Proofs.YtiajjbhcpeadfaaGreat
namespace Go.Proofs.YtiajjbhcpeadfaaGreat
open Go Go.HL Go.RowKit
theorem yO (i : Ins) (w : World) :
  Cr Tryz.prog 137 #[.agg (aT.enc i).toArray] w (.bool (ti i.op)) := by
 refine enter Tryz.func137 rfl Tryz.ntmps137 rfl ?_
 refine ah ?_
 refine dq rfl rfl (fun b1 => ?_)
 refine zz0 (ab rfl) (aM (zz0 (zz2 (off := 2) (ft := 3) rfl af rfl aB) ?_))
 refine zz0 (aG rfl aJ) ?_
 refine zz0 (bh rfl rfl) (zz0 (aa rfl) ?_)
 apply cw
 ·exact (rfl : _ = (4, 6, 10))
 ·exact rfl
 ·intro hF2; have hF2' := hF2
  try simp only [bs] at hF2'
  refine zz3 hF2 (zz2 (off := 2) (ft := 3) rfl af rfl aB) ?_
  refine zz3 hF2 (aG rfl aJ) ?_
  refine zz3 hF2 (bh rfl rfl) (zz0 (aL rfl hF2 rfl) ?_)
  refine ax (ac ?_)
  exact az (Sub.cons rfl (zz6 4 rfl))
 ·intro hT2
  refine zz4 hT2 (zz4 hT2 (zz4 hT2 (zz0 (aK rfl hT2 rfl) ?_)))
  refine ax (ac ?_)
  exact az (Sub.cons rfl (zz6 4 rfl))
 refine zz0 (aa rfl) ?_
 apply cw
 ·exact (rfl : _ = (4, 11, 15))
 ·exact rfl
 ·intro hF3; have hF3' := hF3
  try simp only [bs] at hF3'
  refine zz3 hF3 (zz2 (off := 2) (ft := 3) rfl af rfl aB) ?_
  refine zz3 hF3 (aG rfl aJ) ?_
  refine zz3 hF3 (bh rfl rfl) (zz0 (aL rfl hF3 rfl) ?_)
  refine ax (ac ?_)
  exact az (Sub.cons rfl (zz6 4 rfl))
 ·intro hT3
  refine zz4 hT3 (zz4 hT3 (zz4 hT3 (zz0 (aK rfl hT3 rfl) ?_)))
  refine ax (ac ?_)
  exact az (Sub.cons rfl (zz6 4 rfl))
 refine zz0 (ab rfl) (ad (aC ?_))
 refine aO Tryz.results137 rfl (fun w' hw => ?_)
 exact ⟨by unfold ti; congr 2; rw [Bool.eq_iff_iff]; simp [or_assoc], hw.b0⟩
theorem Fg (i : Ins) (w : World) (hI : InsOK i) :
  Calls Tryz.prog 136 #[.agg (aT.enc i).toArray] w (fun e w' => ∃ V', e = .returned V' ∧ Ext w w' ∧ iu w w' 23 au (dS i) V') := by
 refine enter Tryz.func136 rfl Tryz.ntmps136 rfl ?_
 refine ah ?_
 refine dq rfl rfl (fun b1 => ?_)
 refine zz0 (ab rfl) (ad (an (ah (zz0 (bC rfl aS ay) ?_))))
 refine zz0 (aD rfl kK (fun w hw => kD i w hI)) ?_
 refine zz0 (cp rfl) (ad ?_)
 refine ao rfl ?_ ?_ <;> intro h2 <;> try simp only [bs] at h2
 ·refine an (cn 23 au ?_)
  refine ar (zz0 (ab rfl) (ad (aC (aA ?_))))
  refine aO Tryz.results136 rfl (fun w' hw => ?_)
  exact ⟨_, rfl, hw.b0, by rw [show dS i = [] by unfold dS; rw [if_neg (by simp_all)]]; exact hw.new (.head _)⟩
 refine bA (an (cn 23 au ?_))
 refine ar (zz0 (ab rfl) (ad ?_))
 refine dj (ι := Value) (fun V1 => True) (fun _ => Bg.of w) (fun V1 => [rowE V1 23 au (if (dn i).2 = true then [(dn i).1] else []), cellE b1 (aT.enc i) 36]) (fun V1 => [(3, V1)]) ?_ (fun V1 hi => ?_)
 ·skip
  refine ah (zz0 (bC rfl aS ay) ?_)
  refine zz0 (aD rfl Tryz.call144 (fun w hw => rb i w)) ?_
  refine zz0 (aa rfl) (zz0 (aQ rfl rfl) (zz0 (aQ rfl rfl) (zz0 (ab rfl) (zz0 (ab rfl) (aM (zz0 (aa rfl) (ad ?_)))))))
  refine ao rfl ?_ ?_ <;> intro h3 <;> try simp only [bs] at h3
  ·refine ar (zz0 (aa rfl) (zz0 (aa rfl) ?_))
   refine jl (E := au) (dn i).1 rfl rfl al ae cX (fun V4 => ?_)
   refine zz1 rfl rfl al eN (fun V5 => ?_)
   refine zz0 (ab rfl) (ad (gV (l' := if (dn i).2 = true then [(dn i).1] else []) (by rw [if_pos (by assumption)]; rfl) ?_))
   refine cD _ (Front.c Front.nil) (bD 13 rfl) (o := trivial)
  refine bA (gV (l' := if (dn i).2 = true then [(dn i).1] else []) (by rw [if_neg (by simp_all)]) ?_)
  refine cD _ (Front.c Front.nil) (bD 8 rfl) (o := trivial)
 skip
 replace hi : True := hi
 change Tr _ _ [rowE V1 23 au (if (dn i).2 = true then [(dn i).1] else []), cellE b1 (aT.enc i) 36] ([(3, V1)] ++ _) _
 have htl : (if (dn i).2 = true then [(dn i).1] else []).length ≤ 1 := by split <;> simp
 refine dj (ι := Value) (fun V2 => True) (fun _ => Bg.of w) (fun V2 => [rowE V2 23 au ((if (dn i).2 = true then [(dn i).1] else []) ++ (if lN i = true then [] else [pG i])), cellE b1 (aT.enc i) 36]) (fun V2 => [(3, V2)]) ?_ (fun V2 hi => ?_)
 ·skip
  refine ah (zz0 (bC rfl aS ay) ?_)
  refine zz0 (aD rfl Tryz.call195 (fun w hw => AY i w)) ?_
  refine zz0 (cp rfl) (ad ?_)
  refine ao rfl ?_ ?_ <;> intro h6 <;> try simp only [bs] at h6
  ·refine ar (zz0 (aa rfl) (zz0 (bC rfl aS ay) ?_))
   refine zz0 (aD rfl Tryz.call60 (fun w hw => Ao i w hI)) ?_
   refine jl (E := au) (pG i) rfl rfl al ae cX (fun V7 => ?_)
   refine zz1 rfl rfl al eN (fun V8 => ?_)
   refine zz0 (ab rfl) (ad (gV (l' := (if (dn i).2 = true then [(dn i).1] else []) ++ (if lN i = true then [] else [pG i])) (by rw [if_neg (c := lN i = true) (by simp_all)]) ?_))
   refine cD _ (Front.c Front.nil) (bD 9 rfl) (o := trivial)
  refine bA (gV (l' := (if (dn i).2 = true then [(dn i).1] else []) ++ (if lN i = true then [] else [pG i])) (by rw [if_pos (c := lN i = true) (by simp_all), List.append_nil]) ?_)
  refine cD _ (Front.c Front.nil) (bD 3 rfl) (o := trivial)
 skip
 replace hi : True := hi
 change Tr _ _ [rowE V2 23 au ((if (dn i).2 = true then [(dn i).1] else []) ++ (if lN i = true then [] else [pG i])), cellE b1 (aT.enc i) 36] ([(3, V2)] ++ _) _
 refine ah (zz0 (aa rfl) (zz0 (ab rfl) (ad (aC ?_))))
 refine aO Tryz.results136 rfl (fun w' hw => ?_)
 exact ⟨_, rfl, hw.b0, by rw [show dS i = _ by unfold dS; rw [if_pos (by simp_all)]]; exact hw.new (.head _)⟩
theorem Il (l : List SecV) (V : Value) (a : UInt32) (w : World) (hV : Sl (hp w) cY l V) (hB : SecB l) (hD : DataIn (hp w) l) :
  Cr Tryz.prog 68 #[V, .int .u32 a.toNat] w (.tuple #[.agg (aT.enc (atP l a).1).toArray, .bool (atP l a).2]) := by
 have hV' : Sl (Bg.of w).blk cY l V := hV
 have hlen := hB.1
 have hf := jQ (l := l) (a := a)
 have ha := a.toNat_lt
 refine enter Tryz.func68 rfl Tryz.ntmps68 rfl ?_
 refine ah ?_
 refine dB bZ rfl (fun b1 => ?_)
 refine zz0 (ab rfl) (aM (zz0 (aa rfl) (zz0 (aa rfl) (zz0 (aD rfl po (fun w hw => sg l V a w (hw.slF hV') hB)) ?_))))
 refine zz0 (ab rfl) (ad (an (ah (zz0 (aa rfl) (zz0 (bT rfl rfl) (zz0 (aa rfl) ?_))))))
 apply cw
 ·exact (rfl : _ = (7, 15, 22))
 ·exact rfl
 ·intro hF2; have hF2' := hF2
  try simp only [bs] at hF2'
  refine zz3 hF2 (aa rfl) (zz3 hF2 (aa rfl) (zz3 hF2 (lO rfl rfl bG bX) ?_))
  refine zz3 hF2 (zz2 (off := 4) (ft := 4) rfl bO rfl bN) ?_
  refine zz3 hF2 (pL rfl cm) ?_
  refine zz3 hF2 (cp rfl) (zz0 (aL rfl hF2 rfl) ?_)
  refine ax (ac ?_)
  exact az (Sub.cons rfl (zz6 7 rfl))
 ·intro hT2
  refine zz4 hT2 (zz4 hT2 (zz4 hT2 (zz4 hT2 (zz4 hT2 (zz4 hT2 (zz0 (aK rfl hT2 rfl) ?_))))))
  refine ax (ac ?_)
  exact az (Sub.cons rfl (zz6 7 rfl))
 refine ad ?_
 refine ao rfl ?_ ?_ <;> intro h3 <;> try simp only [bs] at h3
 ·refine ah (zz0 (bL (vs := []) rfl rfl (ly)) ?_)
  refine aF aT rfl rfl ay ?_
  refine zz0 (ab rfl) (ad (aC (aA ?_)))
  refine lA Tryz.results68 rfl rfl aS ay (fun w' hw => ?_)
  exact ⟨by unfold atP; rw [if_pos (by unfold Ei; simp_all)]; rfl, hw.b0⟩
 refine bA (an ?_)
 have hna : Ei l a = false := by unfold Ei; rw [Bool.or_eq_false_iff]; exact ⟨decide_eq_false h3.1, by rw [h3.2]; rfl⟩
 have hin := oR.1 (qk (l := l) (a := a) (by omega))
 have hen : lY (l.getD (cR l a).toNat default) ≤ ((l.getD (cR l a).toNat default).addr.toNat : Int) + (l.getD (cR l a).toNat default).data.length := by unfold lY; omega
 have hsub : (a - (l.getD (cR l a).toNat default).addr).toNat = a.toNat - (l.getD (cR l a).toNat default).addr.toNat := UInt32.toNat_sub_of_le _ _ (UInt32.le_iff_toNat_le.2 hin.1)
 have hdl := hB.at (k := (cR l a).toNat) (by omega)
 have hDk : Sl (Bg.of w).blk dT (l.getD (cR l a).toNat default).data (.slice (l.getD (cR l a).toNat default).dp (l.getD (cR l a).toNat default).data.length (l.getD (cR l a).toNat default).dc) := hD _ (de (by omega))
 refine g9 aU ?_
 refine aw (aa rfl) (aw (aa rfl) (aw (lO rfl rfl bG bX) ?_))
 refine aw (zz2 (off := 2) (ft := 47) rfl bO rfl fC) ?_
 refine aw (pL rfl fZ) ?_
 refine aw (aa rfl) (aw (aa rfl) (aw (aa rfl) (aw (lO rfl rfl bG bX) ?_)))
 refine aw (zz2 (off := 1) (ft := 23) rfl bO rfl ae) ?_
 refine aw (pL rfl am) ?_
 refine aw (eU rfl rfl) ?_
 refine aw (EW (lv := some (_, _)) (hv := none) rfl rfl rfl ba du) ?_
 refine aw (ab rfl) (bI ?_)
 refine ac (an ?_)
 have hs1 := Sl.resl (l := (a - (l.getD (cR l a).toNat default).addr).toNat) (h := (l.getD (cR l a).toNat default).data.length) hDk (by omega) (Nat.le_refl _)
 rw [List.take_length] at hs1
 have hs1l : (List.drop (a - (l.getD (cR l a).toNat default).addr).toNat (l.getD (cR l a).toNat default).data).length = (l.getD (cR l a).toNat default).data.length - (a - (l.getD (cR l a).toNat default).addr).toNat := List.length_drop
 have hs3 := Sl.resl (l := 0) (h := (min (((l.getD (cR l a).toNat default).data.drop (a - (l.getD (cR l a).toNat default).addr).toNat).length : Int) 6).toNat) hs1 (Nat.zero_le _) (by omega)
 rw [List.drop_zero, show ((l.getD (cR l a).toNat default).data.drop (a - (l.getD (cR l a).toNat default).addr).toNat).take (min (((l.getD (cR l a).toNat default).data.drop (a - (l.getD (cR l a).toNat default).addr).toNat).length : Int) 6).toNat = DO l a by unfold DO; rw [List.take_eq_take_iff]; omega] at hs3
 refine ar (zz0 (aa rfl) (zz0 (aa rfl) (zz0 (gK rfl ba) ?_)))
 refine zz0 (sE rfl rfl) ?_
 refine zz0 (EW (lv := none) (hv := some (_, _)) rfl rfl rfl ba du) ?_
 refine zz0 (aa rfl) (zz0 (aD rfl Tryz.call135 (fun w hw => Ch (DO l a) _ a w (hw.slF hs3))) ?_)
 refine zz0 (aa rfl) (zz0 (aQ rfl rfl) (zz0 (aQ rfl rfl) ?_))
 refine dB bZ rfl (fun b4 => ?_)
 refine aF aT rfl rfl ay ?_
 refine zz0 (ab rfl) (aM (zz0 (bC rfl aS ay) ?_))
 refine zz0 (aa rfl) (zz0 (bh rfl rfl) (aF aT rfl rfl ay ?_))
 refine zz0 (ab rfl) (ad (aC ?_))
 refine lA Tryz.results68 rfl rfl aS ay (fun w' hw => ?_)
 exact ⟨by unfold atP; rw [if_neg (by simp [hna])]; rfl, hw.b0⟩
theorem Cg (bw bi bb be bu : Nat) (VT VP : Value) (ts : List TabV) (at_ : List UInt32) (a : UInt32) (w : World) (hcw : CellsIn (hp w) bw [.map (some bi), .map (some bb), .map (some be), .map (some bu), VT, VP]) (hT : Sl (hp w) gr ts VT) (hP : Sl (hp w) au at_ VP) (hl : ts.length = at_.length) :
  Cr Tryz.prog 138 #[.pointer (some ⟨bw, 0, none⟩), .int .u32 a.toNat] w (.tuple #[s8 ts at_ a, .bool (fH ts at_ a).isSome]) := by
 have hcw' : CellsIn (Bg.of w).blk bw [.map (some bi), .map (some bb), .map (some be), .map (some bu), VT, VP] := hcw
 have hT' : Sl (Bg.of w).blk gr ts VT := hT
 have hP' : Sl (Bg.of w).blk au at_ VP := hP
 have hib := j8 (fun x => decide (a = x)) at_ 0
 refine enter Tryz.func138 rfl Tryz.ntmps138 rfl ?_
 refine ah (zz0 (ab rfl) (zz0 (ab rfl) (aM (zz0 (aa rfl) (zz0 (bB rfl) ?_)))))
 refine zz0 (zz2 (off := 5) (ft := 31) rfl df rfl cQ) ?_
 refine zz0 (mj rfl dR) ?_
 refine zz0 (aa rfl) (zz0 (aD rfl Tryz.call145 (fun w hw => xB at_ VP a w (hw.slF hP'))) ?_)
 refine zz0 (ab rfl) (ad (an (ah (zz0 (aa rfl) (zz0 (bT rfl rfl) (ad ?_))))))
 refine ao rfl ?_ ?_ <;> intro h1 <;> try simp only [bs] at h1
 ·refine ah (zz0 (ab rfl) (zz0 (ab rfl) (ad (aC (aA ?_)))))
  refine cN Tryz.results138 rfl rfl (fun w' hw => ?_)
  exact ⟨by rw [xr (by omega), xt (by omega)]; rfl, hw.b0⟩
 refine cT (zz0 (aa rfl) (zz0 (bB rfl) ?_))
 refine zz0 (zz2 (off := 4) (ft := 53) rfl df rfl gy) ?_
 refine zz0 (mj rfl kd) ?_
 refine zz0 (aa rfl) (zz0 (lO rfl rfl dD cQ) ?_)
 refine zz0 (jP rfl dR) ?_
 refine zz0 (ab rfl) (zz0 (ab rfl) (ad (aC ?_)))
 refine cN Tryz.results138 rfl rfl (fun w' hw => ?_)
 exact ⟨by rw [vy (by omega), vz (by omega)]; rfl, hw.b0⟩
theorem Cd (bw bi bb be bu : Nat) (VT VP : Value) (ts : List TabV) (at_ : List UInt32) (i : Ins) (ents unk : List (UInt32 × Bool)) (w : World) (ho : OwnAt w [mapE be dl ents, mapE bu dl unk]) (hcw : CellsIn (Bg.lessB w [be, bu] 0).blk bw [.map (some bi), .map (some bb), .map (some be), .map (some bu), VT, VP]) (hT : Sl (Bg.lessB w [be, bu] 0).blk gr ts VT) (hTI : TabIn (Bg.lessB w [be, bu] 0).blk ts) (hTB : qq ts) (hP : Sl (Bg.lessB w [be, bu] 0).blk au at_ VP) (hl : ts.length = at_.length) (hI : InsOK i) :
  Calls Tryz.prog 69 #[.pointer (some ⟨bw, 0, none⟩), .agg (aT.enc i).toArray] w (fun e w' => ∃ V : Value, e = .returned V ∧ Upd 0 w w' (dm [mapE be dl ents, mapE bu dl unk]) [rowE V 23 au (kB ts at_ i), mapE be dl (gR ents (ko ts at_ i)), mapE bu dl (if qS ts at_ i = true then fw unk i.addr true else unk)] ∧ True) := by
 have hKS := Gf hTI hTB (at_ := at_) (a := i.addr) hl
 have hkl := sZ hTB at_ i.addr
 have hsl := kj i
 refine rk (L := [mapE be dl ents, mapE bu dl unk]) ho rfl (Nat.zero_le _) Tryz.func69 rfl Tryz.ntmps69 rfl ?_
 refine ah ?_
 refine dq rfl rfl (fun b1 => ?_)
 refine zz0 (ab rfl) (aM (zz0 (bC rfl aS ay) ?_))
 refine ip rfl Tryz.call136 (fun w hw => Fg i w hI) rfl (fun V2 => ?_)
 refine zz0 (ab rfl) (ad ?_)
 refine dj (ι := List (UInt32 × Bool)) (fun m1 => m1 = (if i.op = 23 then fw ents i.imm true else ents)) (fun _ => (Bg.lessB w [be, bu] 0)) (fun m1 => [rowE V2 23 au (dS i), mapE be dl m1, mapE bu dl unk, cellE b1 (aT.enc i) 36]) (fun m1 => []) ?_ (fun m1 hi => ?_)
 ·skip
  refine ah (zz0 (zz2 (off := 2) (ft := 3) rfl af rfl aB) ?_)
  refine zz0 (aG rfl aJ) ?_
  refine zz0 (bh rfl rfl) (ad ?_)
  refine ao rfl ?_ ?_ <;> intro h3 <;> try simp only [bs] at h3
  ·refine fR 0 6 aU ?_
   refine bH ?_
   refine aw (aa rfl) (aw (bB rfl) ?_)
   refine aw (zz2 (off := 2) (ft := 141) rfl df rfl ga) ?_
   refine aw (mj rfl gi) ?_
   refine aw (zz2 (off := 1) (ft := 23) rfl af rfl ae) ?_
   refine aw (aG rfl am) ?_
   refine bI ?_
   refine gx true rfl rfl rfl (by repeat constructor) eC aP rfl ?_
   refine ad ?_
   refine cD _ Front.nil (bD 9 rfl) (o := (by show _ = _; rw [if_pos (by assumption)]))
  refine bA ?_
  refine cD _ Front.nil (bD 3 rfl) (o := (by show _ = _; rw [if_neg (by assumption)]))
 skip
 replace hi : m1 = (if i.op = 23 then fw ents i.imm true else ents) := hi
 change Tr _ _ [rowE V2 23 au (dS i), mapE be dl m1, mapE bu dl unk, cellE b1 (aT.enc i) 36] ([] ++ _) _
 have hm1 := hi
 refine an (ah (zz0 (bC rfl aS ay) ?_))
 refine zz0 (aD rfl Tryz.call137 (fun w hw => yO i w)) ?_
 refine zz0 (cp rfl) (ad ?_)
 refine ao rfl ?_ ?_ <;> intro h4 <;> try simp only [bs] at h4
 ·refine ah (zz0 (aa rfl) (zz0 (ab rfl) (ad (aC (aA ?_)))))
  refine aO Tryz.results69 rfl (fun w' hw => ?_)
  have hb1 : kB ts at_ i = dS i := by unfold kB; rw [if_neg (by simp_all), List.append_nil]
  have hb2 : gR ents (ko ts at_ i) = m1 := Co hm1 (by simp_all)
  have hb3 : qS ts at_ i = false := by unfold qS; simp_all
  exact ⟨_, rfl, by rw [hb1, hb2, hb3, if_neg (by decide)]; exact hw.upd (Bg.le.refl _) (by repeat' constructor), trivial⟩
 refine cT (zz0 (aa rfl) (zz0 (zz2 (off := 0) (ft := 23) rfl af rfl ae) ?_))
 refine zz0 (aG rfl am) ?_
 refine zz0 (aD rfl Tryz.call138 (fun w hw => Cg bw bi bb be bu VT VP ts at_ i.addr w (hcw.mono hw.bg) (hw.slF hT) (hw.slF hP) hl)) ?_
 refine zz0 (aa rfl) (zz0 (aQ rfl rfl) (zz0 (aQ rfl rfl) (zz0 (ab rfl) (zz0 (ab rfl) (ad ?_)))))
 refine dj (ι := List (UInt32 × Bool)) (fun u1 => u1 = (if (fH ts at_ i.addr).isSome = true then unk else fw unk i.addr true)) (fun _ => (Bg.lessB w [be, bu] 0)) (fun u1 => [rowE V2 23 au (dS i), mapE be dl m1, mapE bu dl u1, cellE b1 (aT.enc i) 36]) (fun u1 => []) ?_ (fun u1 hi => ?_)
 ·skip
  refine ah (zz0 (aa rfl) (zz0 (cp rfl) (ad ?_)))
  refine ao rfl ?_ ?_ <;> intro h5 <;> try simp only [bs] at h5
  ·refine fR 0 6 aU ?_
   refine bH ?_
   refine aw (aa rfl) (aw (bB rfl) ?_)
   refine aw (zz2 (off := 3) (ft := 141) rfl df rfl ga) ?_
   refine aw (mj rfl gi) ?_
   refine aw (zz2 (off := 0) (ft := 23) rfl af rfl ae) ?_
   refine aw (aG rfl am) ?_
   refine bI ?_
   refine gx true rfl rfl rfl (by repeat constructor) eC aP rfl ?_
   refine ad ?_
   refine cD _ Front.nil (bD 8 rfl) (o := (by show _ = _; rw [if_neg (by simp_all)]))
  refine bA ?_
  refine cD _ Front.nil (bD 2 rfl) (o := (by show _ = _; rw [if_pos (by assumption)]))
 skip
 replace hi : u1 = (if (fH ts at_ i.addr).isSome = true then unk else fw unk i.addr true) := hi
 change Tr _ _ [rowE V2 23 au (dS i), mapE be dl m1, mapE bu dl u1, cellE b1 (aT.enc i) 36] ([] ++ _) _
 have hu1 := hi
 refine dj (ι := List (UInt32 × Bool)) (fun m2 => m2 = if i.op = 24 then gR m1 ((fH ts at_ i.addr).getD []) else m1) (fun _ => (Bg.lessB w [be, bu] 0)) (fun m2 => [rowE V2 23 au (dS i), mapE be dl m2, mapE bu dl u1, cellE b1 (aT.enc i) 36]) (fun m2 => []) ?_ (fun m2 hi => ?_)
 ·skip
  refine ah (zz0 (zz2 (off := 2) (ft := 3) rfl af rfl aB) ?_)
  refine zz0 (aG rfl aJ) ?_
  refine zz0 (bh rfl rfl) (ad ?_)
  refine ao rfl ?_ ?_ <;> intro h6 <;> try simp only [bs] at h6
  ·refine ah (zz0 (aa rfl) (zz0 (gK rfl al) ?_))
   refine zz0 (aa rfl) (ad (aH ?_))
   refine bK (ι := Nat) (fun k => k ≤ ((fH ts at_ i.addr).getD []).length) (fun _ => (Bg.lessB w [be, bu] 0)) (fun k => [rowE V2 23 au (dS i), mapE be dl (gR m1 (((fH ts at_ i.addr).getD []).take k)), mapE bu dl u1, cellE b1 (aT.enc i) 36]) (fun k => [(45, .int .i64 (k : Nat))]) (fun k => ((fH ts at_ i.addr).getD []).length - k) 0 (Nat.zero_le _) (Front.c Front.nil) (by repeat' constructor) rfl (fun k hi m hm => ?_)
   replace hi : k ≤ ((fH ts at_ i.addr).getD []).length := hi
   replace hm : m = ((fH ts at_ i.addr).getD []).length - k := hm
   change Tr _ _ [rowE V2 23 au (dS i), mapE be dl (gR m1 (((fH ts at_ i.addr).getD []).take k)), mapE bu dl u1, cellE b1 (aT.enc i) 36] ([(45, .int .i64 (k : Nat))] ++ _) _
   refine ah (zz0 (bT rfl rfl) (ad (an ?_)))
   refine ao rfl ?_ ?_ <;> intro h7 <;> try simp only [bs] at h7
   ·refine bA (an (aH (ah (zz0 (hZ rfl rfl al ae) ?_))))
    refine zz0 (jP rfl am) ?_
    refine zz0 (ab rfl) (ad (ar (zz0 (aa rfl) (zz0 (bB rfl) ?_))))
    refine zz0 (zz2 (off := 2) (ft := 141) rfl df rfl ga) ?_
    refine zz0 (mj rfl gi) ?_
    refine zz0 (aa rfl) (gx true rfl rfl rfl (by repeat constructor) eC aP rfl ?_)
    refine ax (aY (ac (ar (zz0 (cE rfl rfl) ?_))))
    refine zz0 (aa rfl) (ad ?_)
    rw [← vq, ← dw (by omega)]
    refine cF (k + 1) (Front.c Front.nil) (bD 12 rfl) (o := (by show k + 1 ≤ _; omega))
   refine bF (aI (aI (bv (ac ?_))))
   refine cD _ Front.nil (bD 8 rfl) (o := (by show _ = _; rw [if_pos (by assumption), List.take_of_length_le (by omega)]))
  refine bA ?_
  refine cD _ Front.nil (bD 3 rfl) (o := (by show _ = _; rw [if_neg (by assumption)]))
 skip
 replace hi : m2 = if i.op = 24 then gR m1 ((fH ts at_ i.addr).getD []) else m1 := hi
 change Tr _ _ [rowE V2 23 au (dS i), mapE be dl m2, mapE bu dl u1, cellE b1 (aT.enc i) 36] ([] ++ _) _
 have hm2 := hi
 refine ah (zz0 (aa rfl) (zz0 (aa rfl) ?_))
 refine DK rfl rfl (by repeat constructor) (fun w hw => hw.slF (by assumption)) al eN (fun V8 => ?_)
 refine zz0 (ab rfl) (ad (aC ?_))
 refine aO Tryz.results69 rfl (fun w' hw => ?_)
 have hb1 : kB ts at_ i = dS i ++ ((fH ts at_ i.addr).getD []) := by unfold kB; rw [if_pos (by simp_all)]
 have hb2 : gR ents (ko ts at_ i) = m2 := GZ hm1 hm2 (by simp_all)
 have hb3 : (if qS ts at_ i = true then fw unk i.addr true else unk) = u1 := HA hu1 (by simp_all)
 exact ⟨_, rfl, by rw [hb1, hb2, hb3]; exact hw.upd (Bg.le.refl _) (by repeat' constructor), trivial⟩
theorem walk_any (l : List SecV) (ts : List TabV) (at_ es : List UInt32) (V VE VT VP : Value) (w : World) (hV : Sl (hp w) cY l V) (hB : SecB l) (hD : DataIn (hp w) l) (hN : ∀ s ∈ l, s.name.size ≤ 140737488351232) (hE : Sl (hp w) au es VE) (hT : Sl (hp w) gr ts VT) (hTI : TabIn (hp w) ts) (hTB : qq ts) (hP : Sl (hp w) au at_ VP) (ht : totD l ≤ 600) (hel : es.length ≤ 100) :
  Calls Tryz.prog 28 #[V, VE, VT, VP] w (fun e w' => ∃ i : ((Value × Value × Value × Value) × CodeP × Int), e = .returned ((fun i : ((Value × Value × Value × Value) × CodeP × Int) => .tuple #[.agg #[i.1.1, i.1.2.1, i.1.2.2.1, i.1.2.2.2], .int .i64 i.2.2]) i) ∧ Below w.heap.size w w' ∧ NewEnts w w' ((fun i : ((Value × Value × Value × Value) × CodeP × Int) => [rowE i.1.1 36 aT i.2.1.ins, rowE i.1.2.1 23 au i.2.1.ents, rowE i.1.2.2.1 23 au i.2.1.unk, rowE i.1.2.2.2 23 au i.2.1.bad]) i) ∧ WalkIs l ts at_ es i.2.1 i.2.2) := by
 obtain ⟨ta, tc, hvt, _⟩ := hT.shape
 subst hvt
 obtain ⟨pa, pc, hvp, _⟩ := hP.shape
 subst hvp
 have hV0 : Sl (Bg.of0 w).blk cY l V := hV
 have hD0 : DataIn (Bg.of0 w).blk l := hD
 have hE0 : Sl (Bg.of0 w).blk au es VE := hE
 have hT0 : Sl (Bg.of0 w).blk gr ts (.slice ta ts.length tc) := hT
 have hTI0 : TabIn (Bg.of0 w).blk ts := hTI
 have hP0 : Sl (Bg.of0 w).blk au at_ (.slice pa at_.length pc) := hP
 refine mF Tryz.func28 rfl Tryz.ntmps28 rfl ?_
 refine ah ?_
 refine dB eZ rfl (fun b1 => ?_)
 refine zz0 (ab rfl) (ad (sw (an (ah (zz0 (aa rfl) (zz0 (gK rfl dD) ?_))))))
 refine zz0 (aa rfl) (zz0 (gK rfl al) ?_)
 refine zz0 (ff rfl rfl) (ad ?_)
 refine ao rfl ?_ ?_ <;> intro h2 <;> try simp only [bs] at h2
 ·refine an (cn 36 aT ?_)
  refine cn 23 au ?_
  refine cn 23 au ?_
  refine cn 23 au ?_
  refine ar (zz0 (bL (vs := []) rfl rfl (qA)) ?_)
  refine zz8 rfl rfl cP ?_
  refine zz0 (ab rfl) (ad (aC (aA (f9 ?_))))
  refine lA Tryz.results28 rfl rfl gv cP (fun w' hw => ?_)
  exact ⟨((.slice none 0 0, .slice none 0 0, .slice none 0 0, .slice none 0 0), ⟨[], [], [], []⟩, 2), rfl, hw.below0 (Bg.le.refl _), hw.ents0 rfl (by repeat' constructor), .arg (by show ts.length ≠ at_.length; omega) rfl rfl⟩
 refine bA (an (ah (zz0 (aa rfl) (zz0 (aD rfl Tryz.call39 (fun w hw => tC l V w (hw.slF hV0) hB (fun s hs => by have := hN s hs; omega))) ?_))))
 refine zz0 (ab rfl) (aM (zz0 (aa rfl) (zz0 (ff rfl rfl) (ad ?_))))
 refine ao rfl ?_ ?_ <;> intro h3 <;> try simp only [bs] at h3
 ·refine an (cn 36 aT ?_)
  refine cn 23 au ?_
  refine cn 23 au ?_
  refine cn 23 au ?_
  refine ar (zz0 (bL (vs := []) rfl rfl (qA)) ?_)
  refine zz0 (aa rfl) (zz8 rfl rfl cP ?_)
  refine zz0 (ab rfl) (ad (aC (aA (f9 ?_))))
  refine lA Tryz.results28 rfl rfl gv cP (fun w' hw => ?_)
  exact ⟨((.slice none 0 0, .slice none 0 0, .slice none 0 0, .slice none 0 0), ⟨[], [], [], []⟩, gh l), rfl, hw.below0 (Bg.le.refl _), hw.ents0 rfl (by repeat' constructor), .chk (by show ts.length = at_.length; omega) (by assumption) rfl rfl⟩
 refine bA (an ?_)
 have hl : ts.length = at_.length := by omega
 refine ar ?_
 refine gW tf rfl (fun b4 => ?_)
 refine gW dl rfl (fun b5 => ?_)
 refine gW dl rfl (fun b6 => ?_)
 refine gW dl rfl (fun b7 => ?_)
 refine zz0 (aa rfl) (zz0 (aa rfl) (zz0 (bL (vs := [(0, _), (1, _), (2, _), (3, _), (4, _), (5, _)]) (cs := #[.map (some b4), .map (some b5), .map (some b6), .map (some b7), (.slice ta ts.length tc), (.slice pa at_.length pc)]) rfl rfl (by kernel_rfl)) ?_))
 refine dq (cs := [.map (some b4), .map (some b5), .map (some b6), .map (some b7), (.slice ta ts.length tc), (.slice pa at_.length pc)]) rfl rfl (fun b8 => ?_)
 refine vX (b := b8) (by repeat constructor) (fun F1 hF1 hcw => ?_)
 have hV1 := hV0.mono hF1.blk
 have hD1 := hD0.mono hF1.blk
 have hE1 := hE0.mono hF1.blk
 have hT1 := hT0.mono hF1.blk
 have hTI1 := hTI0.mono hF1.blk
 have hP1 := hP0.mono hF1.blk
 refine zz0 (ab rfl) (ad (an (ah (zz0 (aa rfl) (zz0 (gK rfl al) ?_)))))
 refine zz0 (aa rfl) (ad (aH ?_))
 refine bK (ι := Nat) (fun k => k ≤ es.length) (fun _ => _) (fun k => [mapE b6 dl (gR [] (es.take k)), mapE b4 tf [], mapE b5 dl [], mapE b7 dl [], cellE b1 [.slice none 0 0, .slice none 0 0, .slice none 0 0, .slice none 0 0] 52]) (fun k => [(50, .int .i64 (k : Nat))]) (fun k => es.length - k) 0 (Nat.zero_le _) (Front.c Front.nil) (by repeat' constructor) rfl (fun k hi m hm => ?_)
 replace hi : k ≤ es.length := hi
 replace hm : m = es.length - k := hm
 change Tr _ _ [mapE b6 dl (gR [] (es.take k)), mapE b4 tf [], mapE b5 dl [], mapE b7 dl [], cellE b1 [.slice none 0 0, .slice none 0 0, .slice none 0 0, .slice none 0 0] 52] ([(50, .int .i64 (k : Nat))] ++ _) _
 refine ah (zz0 (bT rfl rfl) (ad (an ?_)))
 refine ao rfl ?_ ?_ <;> intro h8 <;> try simp only [bs] at h8
 ·refine bA (an (aH (ah (zz0 (hZ rfl rfl al ae) ?_))))
  refine zz0 (jP rfl am) ?_
  refine zz0 (ab rfl) (ad (ar (zz0 (aa rfl) (zz0 (bB rfl) ?_))))
  refine zz0 (zz2 (off := 2) (ft := 141) rfl df rfl ga) ?_
  refine zz0 (fb rfl hcw gi (by rfl)) ?_
  refine zz0 (aa rfl) (gx true rfl rfl rfl (by repeat constructor) eC aP rfl ?_)
  refine ax (aY (ac (ar (zz0 (cE rfl rfl) ?_))))
  refine zz0 (aa rfl) (ad ?_)
  rw [← vq, ← dw (by omega)]
  refine cF (k + 1) (Front.c Front.nil) (bD 12 rfl) (o := (by show k + 1 ≤ _; omega))
 refine bF (aI (aI (bv (ac (an ?_)))))
 obtain rfl : k = es.length := by omega
 rw [List.take_length]
 refine ar (zz0 (aa rfl) ?_)
 refine ip rfl Tryz.call57 (fun w hw => tA es VE w (hw.slF hE1) (by omega)) rfl (fun V9 => ?_)
 refine zz0 (ab rfl) (aM (zz0 (ab rfl) (ad (an (sy ?_)))))
 refine ac (an (aH ?_))
 refine bK (ι := DSt × Value) (fun ⟨s, Vr⟩ => DInv l ts at_ es s) (fun _ => _) (fun ⟨s, Vr⟩ => [rowE Vr 23 au s.rest, mapE b4 tf s.ins, mapE b5 dl s.bad, mapE b6 dl s.ents, mapE b7 dl s.unk, cellE b1 [.slice none 0 0, .slice none 0 0, .slice none 0 0, .slice none 0 0] 52]) (fun ⟨s, Vr⟩ => [(14, Vr), (15, .bool false)]) (fun ⟨s, Vr⟩ => (601 - s.ins.length) * 70 + s.rest.length) (⟨[], [], gR [] es, [], es⟩, _) DInv.begin (Front.c (Front.c Front.nil)) (by repeat' constructor) rfl (fun i hi m hm => ?_)
 obtain ⟨s, Vr⟩ := i
 replace hi : DInv l ts at_ es s := hi
 replace hm : m = (601 - s.ins.length) * 70 + s.rest.length := hm
 change Tr _ _ [rowE Vr 23 au s.rest, mapE b4 tf s.ins, mapE b5 dl s.bad, mapE b6 dl s.ents, mapE b7 dl s.unk, cellE b1 [.slice none 0 0, .slice none 0 0, .slice none 0 0, .slice none 0 0] 52] ([(14, Vr), (15, .bool false)] ++ _) _
 have hinv := hi
 have hic := hinv.count
 have hil := hinv.lRest
 refine an (ah (zz0 (aa rfl) (zz0 (lz rfl al) ?_)))
 refine zz0 (eo rfl rfl) (ad ?_)
 refine ao rfl ?_ ?_ <;> intro h10 <;> try simp only [bs] at h10
 ·refine bA (aH (ah (zz0 (aa rfl) (zz0 (aa rfl) (zz0 (lz rfl al) ?_)))))
  refine zz0 (er rfl rfl) ?_
  refine zz0 (jL rfl rfl al ae) ?_
  refine zz0 (eh rfl am) ?_
  obtain ⟨a, ha⟩ : ∃ a, a = s.rest.getD ((s.rest.length : Int) - 1).toNat default := ⟨_, rfl⟩
  obtain ⟨r, hre⟩ : ∃ r, r = s.rest.take ((s.rest.length : Int) - 1).toNat := ⟨_, rfl⟩
  have hr : s.rest = r ++ [a] := by rw [ha, hre]; exact B5 (by omega)
  have hrl : r.length + 1 = s.rest.length := by rw [hr, List.length_append]; rfl
  rw [← ha]
  refine zz0 (ab rfl) (aM (zz0 (aa rfl) (zz0 (aa rfl) (zz0 (lz rfl al) ?_))))
  refine zz0 (er rfl rfl) ?_
  refine EJ rfl (by repeat constructor) rfl al ae (by omega) rfl (fun Vr2 => ?_)
  rw [← hre]
  refine zz0 (ab rfl) (ad (an (ah (zz0 (aa rfl) (zz0 (bB rfl) ?_)))))
  refine zz0 (zz2 (off := 0) (ft := 140) rfl df rfl jE) ?_
  refine zz0 (fb rfl hcw jt (by rfl)) ?_
  refine zz0 (aa rfl) (zz0 (CQ rfl rfl (by repeat constructor) fY aP bZ (by rfl)) ?_)
  refine zz0 (aa rfl) (zz0 (aQ rfl rfl) (zz0 (aQ rfl rfl) ?_))
  refine dB bZ rfl (fun b11 => ?_)
  refine aF aT rfl rfl ay ?_
  refine zz0 (ab rfl) (aM (zz0 (aa rfl) (zz0 (aa rfl) ?_)))
  apply cw
  ·exact (rfl : _ = (7, 86, 93))
  ·exact rfl
  ·intro hF12; have hF12' := hF12
   try simp only [bs] at hF12'
   refine zz3 hF12 (aa rfl) (zz3 hF12 (bB rfl) ?_)
   refine zz3 hF12 (zz2 (off := 1) (ft := 141) rfl df rfl ga) ?_
   refine zz3 hF12 (fb rfl hcw gi (by rfl)) ?_
   refine zz3 hF12 (aa rfl) (zz3 hF12 (Bw rfl rfl (by repeat constructor) eC aP np) ?_)
   refine zz0 (aL rfl hF12 rfl) ?_
   refine ax (ac ?_)
   exact az (Sub.cons rfl (zz6 7 rfl))
  ·intro hT12
   refine zz4 hT12 (zz4 hT12 (zz4 hT12 (zz4 hT12 (zz4 hT12 (zz4 hT12 (zz0 (aK rfl hT12 rfl) ?_))))))
   refine ax (ac ?_)
   exact az (Sub.cons rfl (zz6 7 rfl))
  refine ad ?_
  refine ao rfl ?_ ?_ <;> intro h13 <;> try simp only [bs] at h13
  ·refine bF (aI (bv (ac ?_)))
   apply iG (⟨s.ins, s.bad, s.ents, s.unk, r⟩, _)
   ·exact rfl
   ·exact (Front.c (Front.c Front.nil))
   ·exact bD 32 rfl
   ·exact (by repeat' constructor)
   ·exact (hinv.skip hr (zV (by assumption)))
   exact (by show (601 - s.ins.length) * 70 + r.length < m; omega)
  refine cT (zz0 (aa rfl) (zz0 (aa rfl) (zz0 (aD rfl Tryz.call68 (fun w hw => Il l V a w (hw.slF hV1) hB (hD1.mono hw.bg))) ?_)))
  refine zz0 (aa rfl) (zz0 (aQ rfl rfl) (zz0 (aQ rfl rfl) ?_))
  refine dB bZ rfl (fun b14 => ?_)
  refine aF aT rfl rfl ay ?_
  refine zz0 (ab rfl) (ad (an (ah (zz0 (aa rfl) (zz0 (cp rfl) (ad ?_))))))
  refine ao rfl ?_ ?_ <;> intro h15 <;> try simp only [bs] at h15
  ·refine ah (zz0 (aa rfl) (zz0 (bB rfl) ?_))
   refine zz0 (zz2 (off := 1) (ft := 141) rfl df rfl ga) ?_
   refine zz0 (fb rfl hcw gi (by rfl)) ?_
   refine zz0 (aa rfl) (gx true rfl rfl rfl (by repeat constructor) eC aP rfl ?_)
   refine ad (bF (aI (bv (ac ?_))))
   apply iG (⟨s.ins, fw s.bad a true, s.ents, s.unk, r⟩, _)
   ·exact rfl
   ·exact (Front.c (Front.c Front.nil))
   ·exact bD 47 rfl
   ·exact (by repeat' constructor)
   ·exact (hinv.isBad hr (by assumption))
   exact (by show (601 - s.ins.length) * 70 + r.length < m; omega)
  refine bA (an ?_)
  have hok : (atP l a).2 = true := by assumption
  have hnk : a ∉ s.ins.map (·.1) := C2 (by assumption)
  have hinv2 := DInv.found hTB hinv hr hok hnk
  have hct : (fw s.ins a (atP l a).1).length ≤ totD l := hinv2.count
  have hml := rS (l := s.ins) (k := a) (by cases hq : dP s.ins a with | none => rfl | some x => exact absurd (yL hq) hnk) (atP l a).1
  have hml2 : (fw s.ins a (atP l a).1).length = s.ins.length + 1 := by rw [hml, List.length_append]; rfl
  have hld := vx hTB at_ (atP l a).1
  refine fR 0 6 aU ?_
  refine bH ?_
  refine aw (aa rfl) (aw (bB rfl) ?_)
  refine aw (zz2 (off := 0) (ft := 140) rfl df rfl jE) ?_
  refine aw (fb rfl hcw jt (by rfl)) ?_
  refine aw (aa rfl) (aw (bC rfl aS ay) ?_)
  refine bI ?_
  refine gx (atP l a).1 rfl rfl rfl (by repeat constructor) fY aP rfl ?_
  refine ad (an (ah (zz0 (aa rfl) (zz0 (bB rfl) ?_))))
  refine zz0 (zz2 (off := 0) (ft := 140) rfl df rfl jE) ?_
  refine zz0 (fb rfl hcw jt (by rfl)) ?_
  refine zz0 (ER rfl (by repeat constructor) fY) ?_
  refine zz0 (eo rfl rfl) (ad ?_)
  refine ao rfl ?_ ?_ <;> intro h16 <;> try simp only [bs] at h16
  ·first | contradiction | (exfalso; omega) | simp_all
  refine bA (ar (zz0 (aa rfl) (zz0 (aa rfl) (zz0 (bC rfl aS ay) ?_))))
  refine iZ (fun V : Value => V) [mapE b6 dl s.ents, mapE b7 dl s.unk] (fun V => [rowE V 23 au (kB ts at_ (atP l a).1), mapE b6 dl (gR s.ents (ko ts at_ (atP l a).1)), mapE b7 dl (if qS ts at_ (atP l a).1 = true then fw s.unk (atP l a).1.addr true else s.unk)]) (ok := fun _ => True) (dd := fun _ => 0) rfl Tryz.call69 (by repeat' constructor) (fun w hw => Nat.le_of_eq hF1.dr) (fun w hw => Cd b8 b4 b5 b6 b7 (.slice ta ts.length tc) (.slice pa at_.length pc) ts at_ (atP l a).1 s.ents s.unk w (hw.own (by repeat' constructor)) (hcw.mono (show Hp.le F1.blk (Bg.lessB w [b6, b7] 0).blk from hw.lessB (Lo := [mapE b6 dl s.ents, mapE b7 dl s.unk]) (by repeat' constructor))) (hT1.mono (show Hp.le F1.blk (Bg.lessB w [b6, b7] 0).blk from hw.lessB (Lo := [mapE b6 dl s.ents, mapE b7 dl s.unk]) (by repeat' constructor))) (hTI1.mono (show Hp.le F1.blk (Bg.lessB w [b6, b7] 0).blk from hw.lessB (Lo := [mapE b6 dl s.ents, mapE b7 dl s.unk]) (by repeat' constructor))) hTB (hP1.mono (show Hp.le F1.blk (Bg.lessB w [b6, b7] 0).blk from hw.lessB (Lo := [mapE b6 dl s.ents, mapE b7 dl s.unk]) (by repeat' constructor))) hl (IQ l a)) rfl (fun V25 _ => ?_)
  refine DK rfl rfl (by repeat constructor) (fun w hw => hw.row (by repeat constructor)) al eN (fun V17 => ?_)
  refine zz0 (ab rfl) (ax (aY (ac ?_)))
  apply iG (stepD l ts at_ a s r, _)
  ·exact rfl
  ·exact (Front.c (Front.c Front.nil))
  ·exact bD 60 rfl
  ·exact (by repeat' constructor)
  ·exact hinv2
  exact (by show (601 - (fw s.ins a (atP l a).1).length) * 70 + (r ++ kB ts at_ (atP l a).1).length < m; rw [List.length_append]; omega)
 refine bF (aI (aI (bv (ac (an (an ?_))))))
 have hr0 : s.rest = [] := List.length_eq_zero_iff.1 (by omega)
 have hcode := hinv.code hr0
 have hcnt := hinv.count
 have hl1 := hinv.lRest
 have hl2 := hinv.lEnts
 have hl3 := hinv.lUnk
 refine ar (zz0 (aa rfl) (ad ?_))
 refine ao rfl ?_ ?_ <;> intro h18 <;> try simp only [bs] at h18
 ·first | contradiction | (exfalso; omega) | simp_all
 refine bA ?_
 refine mM (b := b4) (by repeat constructor) (fun F2 hF2 hmI => ?_)
 refine mM (b := b5) (by repeat constructor) (fun F3 hF3 hmB => ?_)
 refine mM (b := b6) (by repeat constructor) (fun F4 hF4 hmE => ?_)
 refine mM (b := b7) (by repeat constructor) (fun F5 hF5 hmU5 => ?_)
 have hmI5 := hmI.mono (hF3.trans (hF4.trans hF5)).blk
 have hmB5 := hmB.mono (hF4.trans hF5).blk
 have hmE5 := hmE.mono hF5.blk
 have hF15 := hF2.trans (hF3.trans (hF4.trans hF5))
 have hdr5 : F5.dr = 0 := hF15.dr.trans hF1.dr
 have hcw5 := hcw.mono hF15.blk
 refine dj (ι := Value × Value × Nat) (fun ⟨Vu, Vb, bc⟩ => True) (fun _ => F5) (fun ⟨Vu, Vb, bc⟩ => [cellE bc [.slice none 0 0, .slice none 0 0, Vu, Vb] 52, rowE Vu 23 au (gp (s.unk.map (·.1))), rowE Vb 23 au (gp (s.bad.map (·.1))), cellE b1 [.slice none 0 0, .slice none 0 0, .slice none 0 0, .slice none 0 0] 52]) (fun ⟨Vu, Vb, bc⟩ => [(21, .pointer (some ⟨bc, 0, none⟩))]) ?_ (fun i hi => ?_)
 ·skip
  refine dZ ([cellE b1 [.slice none 0 0, .slice none 0 0, .slice none 0 0, .slice none 0 0] 52]) 13 rfl aU ?_
  refine zz7 0 rfl (aa rfl) ?_
  refine zz7 1 rfl (bB rfl) ?_
  refine zz7 2 rfl (zz2 (off := 3) (ft := 141) rfl df rfl ga) ?_
  refine kw 3 rfl (by kernel_rfl) (bP (j6 dG)) (fb rfl hcw5 gi (by rfl)) ?_
  refine zz7 5 rfl (aa rfl) ?_
  refine zz7 6 rfl (bB rfl) ?_
  refine zz7 7 rfl (zz2 (off := 1) (ft := 141) rfl df rfl ga) ?_
  refine kw 8 rfl (by kernel_rfl) (bP (j6 dG)) (fb rfl hcw5 gi (by rfl)) ?_
  refine dA [4, 11] (fun iq hq => ?_)
  rcases List.mem_cons.1 hq with rfl | hq
  ·skip
   refine bJ rfl ?_
   refine eT (fun V : Value => V) (fun V => [rowE V 23 au (gp (s.unk.map (·.1)))]) (ok := fun _ => True) (hdr5) rfl mh (fun w hw => kf s.unk b7 w (hmU5.mono hw.bg) (by omega)) rfl (fun V28 _ => ?_)
   refine jh (V := V28) (fun pu cu hpv => ?_)
   subst hpv
   refine cj ?_
   refine dA [9, 11] (fun iq hq => ?_)
   rcases List.mem_cons.1 hq with rfl | hq
   ·skip
    refine bJ rfl ?_
    refine eT (fun V : Value => V) (fun V => [rowE V 23 au (gp (s.bad.map (·.1)))]) (ok := fun _ => True) (hdr5) rfl mh (fun w hw => kf s.bad b5 w (hmB5.mono hw.bg) (by omega)) rfl (fun V29 _ => ?_)
    refine jh (V := V29) (fun pb cb hpv => ?_)
    subst hpv
    refine cj ?_
    refine kw 10 rfl (by kernel_rfl) (bP (j6 dG)) (bL (vs := [(2, _), (3, _)]) (cs := #[.slice none 0 0, .slice none 0 0, .slice pu (gp (s.unk.map (·.1))).length cu, .slice pb (gp (s.bad.map (·.1))).length cb]) rfl rfl (by kernel_rfl)) ?_
    refine dA [11] (fun iq hq => ?_)
    obtain rfl := List.mem_singleton.1 hq
    refine bJ rfl ?_
    refine dB eZ rfl (fun b19 => ?_)
    refine cj ?_
    refine dA [12] (fun iq hq => ?_)
    obtain rfl := List.mem_singleton.1 hq
    refine bJ rfl ?_
    refine zz8 rfl rfl cP ?_
    refine cj ?_
    refine jg ?_
    refine ac ?_
    refine cD (_, _, _) (Front.c Front.nil) (bD 12 rfl) (o := trivial)
   obtain rfl := List.mem_singleton.1 hq
   refine bJ rfl ?_
   refine dB eZ rfl (fun b20 => ?_)
   refine cj ?_
   refine dA [9] (fun iq hq => ?_)
   obtain rfl := List.mem_singleton.1 hq
   refine bJ rfl ?_
   refine eT (fun V : Value => V) (fun V => [rowE V 23 au (gp (s.bad.map (·.1)))]) (ok := fun _ => True) (hdr5) rfl mh (fun w hw => kf s.bad b5 w (hmB5.mono hw.bg) (by omega)) rfl (fun V29 _ => ?_)
   refine jh (V := V29) (fun pb cb hpv => ?_)
   subst hpv
   refine cj ?_
   refine kw 10 rfl (by kernel_rfl) (bP (j6 dG)) (bL (vs := [(2, _), (3, _)]) (cs := #[.slice none 0 0, .slice none 0 0, .slice pu (gp (s.unk.map (·.1))).length cu, .slice pb (gp (s.bad.map (·.1))).length cb]) rfl rfl (by kernel_rfl)) ?_
   refine dA [12] (fun iq hq => ?_)
   obtain rfl := List.mem_singleton.1 hq
   refine bJ rfl ?_
   refine zz8 rfl rfl cP ?_
   refine cj ?_
   refine jg ?_
   refine ac ?_
   refine cD (_, _, _) (Front.c Front.nil) (bD 12 rfl) (o := trivial)
  obtain rfl := List.mem_singleton.1 hq
  refine bJ rfl ?_
  refine dB eZ rfl (fun b21 => ?_)
  refine cj ?_
  refine dA [4] (fun iq hq => ?_)
  obtain rfl := List.mem_singleton.1 hq
  refine bJ rfl ?_
  refine eT (fun V : Value => V) (fun V => [rowE V 23 au (gp (s.unk.map (·.1)))]) (ok := fun _ => True) (hdr5) rfl mh (fun w hw => kf s.unk b7 w (hmU5.mono hw.bg) (by omega)) rfl (fun V28 _ => ?_)
  refine jh (V := V28) (fun pu cu hpv => ?_)
  subst hpv
  refine cj ?_
  refine dA [9] (fun iq hq => ?_)
  obtain rfl := List.mem_singleton.1 hq
  refine bJ rfl ?_
  refine eT (fun V : Value => V) (fun V => [rowE V 23 au (gp (s.bad.map (·.1)))]) (ok := fun _ => True) (hdr5) rfl mh (fun w hw => kf s.bad b5 w (hmB5.mono hw.bg) (by omega)) rfl (fun V29 _ => ?_)
  refine jh (V := V29) (fun pb cb hpv => ?_)
  subst hpv
  refine cj ?_
  refine kw 10 rfl (by kernel_rfl) (bP (j6 dG)) (bL (vs := [(2, _), (3, _)]) (cs := #[.slice none 0 0, .slice none 0 0, .slice pu (gp (s.unk.map (·.1))).length cu, .slice pb (gp (s.bad.map (·.1))).length cb]) rfl rfl (by kernel_rfl)) ?_
  refine dA [12] (fun iq hq => ?_)
  obtain rfl := List.mem_singleton.1 hq
  refine bJ rfl ?_
  refine zz8 rfl rfl cP ?_
  refine cj ?_
  refine jg ?_
  refine ac ?_
  refine cD (_, _, _) (Front.c Front.nil) (bD 12 rfl) (o := trivial)
 obtain ⟨Vu, Vb, bc⟩ := i
 replace hi : True := hi
 change Tr _ _ [cellE bc [.slice none 0 0, .slice none 0 0, Vu, Vb] 52, rowE Vu 23 au (gp (s.unk.map (·.1))), rowE Vb 23 au (gp (s.bad.map (·.1))), cellE b1 [.slice none 0 0, .slice none 0 0, .slice none 0 0, .slice none 0 0] 52] ([(21, .pointer (some ⟨bc, 0, none⟩))] ++ _) _
 refine an (ah (zz0 (aa rfl) (zz0 (bB rfl) ?_)))
 refine zz0 (zz2 (off := 0) (ft := 140) rfl df rfl jE) ?_
 refine zz0 (fb rfl hcw5 jt (by rfl)) ?_
 refine yb (fun i : Nat => .func (.func 142) #[] #[.pointer (some ⟨i, 0, none⟩)]) (R := fun h i => CellsIn h i [.map (some b4)]) (fun h h' i hh r => r.mono hh) rfl Tryz.call72 (fun w hw => Gg b4 w) rfl (fun i9 F9 hF9 hR9 => ?_)
 have hmI9 := hmI5.mono hF9.blk
 have hmB9 := hmB5.mono hF9.blk
 have hcw9 := hcw5.mono hF9.blk
 refine eT (fun V : Value => V) (fun V => [rowE V 23 au (gp (s.ins.map (·.1)))]) (ok := fun _ => True) (hF9.dr.trans hdr5) rfl Tryz.call71 (fun w hw => uY _ _ (s.ins.map (·.1)) s.ins.length (by omega) Tryz.call142 (by rw [List.length_map]; omega) w (vA b4 i9 w (hmI9.mono hw.bg) (hR9.mono hw.bg))) rfl (fun V30 _ => ?_)
 obtain ⟨ks, hks⟩ : ∃ ks, ks = gp (s.ins.map (·.1)) := ⟨_, rfl⟩
 rw [← hks]
 refine zz0 (lz rfl al) ?_
 refine zz0 (aa rfl) (ad (aH (cn 36 aT ?_)))
 refine bK (ι := Nat × Value) (fun ⟨k, Vi⟩ => k ≤ ks.length) (fun _ => _) (fun ⟨k, Vi⟩ => [rowE V30 23 au ks, cellE bc [Vi, .slice none 0 0, Vu, Vb] 52, rowE Vi 36 aT ((ks.take k).map fun a => (atP l a).1), rowE Vu 23 au (gp (s.unk.map (·.1))), rowE Vb 23 au (gp (s.bad.map (·.1))), cellE b1 [.slice none 0 0, .slice none 0 0, .slice none 0 0, .slice none 0 0] 52]) (fun ⟨k, Vi⟩ => [(144, .int .i64 (k : Nat))]) (fun ⟨k, Vi⟩ => ks.length - k) (0, _) (Nat.zero_le _) (Front.c Front.nil) (by repeat' constructor) rfl (fun i hi m hm => ?_)
 obtain ⟨k, Vi⟩ := i
 replace hi : k ≤ ks.length := hi
 replace hm : m = ks.length - k := hm
 change Tr _ _ [rowE V30 23 au ks, cellE bc [Vi, .slice none 0 0, Vu, Vb] 52, rowE Vi 36 aT ((ks.take k).map fun a => (atP l a).1), rowE Vu 23 au (gp (s.unk.map (·.1))), rowE Vb 23 au (gp (s.bad.map (·.1))), cellE b1 [.slice none 0 0, .slice none 0 0, .slice none 0 0, .slice none 0 0] 52] ([(144, .int .i64 (k : Nat))] ++ _) _
 have hksl : ks.length ≤ 600 := by rw [hks, rD, List.length_map]; omega
 have hkml : ((ks.take k).map fun a => (atP l a).1).length ≤ 600 := by rw [List.length_map, List.length_take]; omega
 refine ah (zz0 (bT rfl rfl) (ad (an ?_)))
 refine ao rfl ?_ ?_ <;> intro h22 <;> try simp only [bs] at h22
 ·refine bA (an (aH (ah (zz0 (zz9 rfl rfl al ae) ?_))))
  refine zz0 (eh rfl am) ?_
  refine zz0 (ab rfl) (ad ?_)
  have hga : (dP s.ins (ks.getD k default)).getD cG = (atP l (ks.getD k default)).1 := Jb hinv (by rw [← nV, ← hks]; exact de (by omega))
  refine dZ ([cellE b1 [.slice none 0 0, .slice none 0 0, .slice none 0 0, .slice none 0 0] 52]) 12 rfl aU ?_
  refine zz7 0 rfl (zz2 (off := 0) (ft := 50) rfl cL rfl dy) ?_
  refine zz7 2 rfl (aa rfl) ?_
  refine zz7 3 rfl (bB rfl) ?_
  refine zz7 4 rfl (zz2 (off := 0) (ft := 140) rfl df rfl jE) ?_
  refine kw 5 rfl (by kernel_rfl) (eE (bP (bP (eE (bP (j6 dG)))))) (fb rfl hcw9 jt (by rfl)) ?_
  refine zz7 6 rfl (aa rfl) ?_
  refine dA [1, 7] (fun iq hq => ?_)
  rcases List.mem_cons.1 hq with rfl | hq
  ·skip
   refine bJ rfl ?_
   refine zz0 (aG rfl dN) ?_
   refine cj ?_
   refine dA [7] (fun iq hq => ?_)
   obtain rfl := List.mem_singleton.1 hq
   refine bJ rfl ?_
   refine zz0 (ye rfl rfl (by assumption) fY aP bZ (by rfl)) ?_
   rw [hga]
   refine cj ?_
   refine dA [8] (fun iq hq => ?_)
   obtain rfl := List.mem_singleton.1 hq
   refine bJ rfl ?_
   refine jl (E := aT) (atP l (ks.getD k default)).1 rfl rfl aR ay bZ (fun V23 => ?_)
   refine cj ?_
   refine dA [9] (fun iq hq => ?_)
   obtain rfl := List.mem_singleton.1 hq
   refine bJ rfl ?_
   refine zz1 rfl rfl aR kN (fun V24 => ?_)
   refine dz (.head _) (fun pi ci hpv => ?_)
   subst hpv
   refine cj ?_
   refine zz7 10 rfl (zz2 (off := 0) (ft := 50) rfl cL rfl dy) ?_
   refine dA [11] (fun iq hq => ?_)
   obtain rfl := List.mem_singleton.1 hq
   refine bJ rfl ?_
   refine zz5 (cs' := [_, _, _, _]) rfl rfl dy rfl ?_
   refine cj ?_
   refine jg ?_
   refine aY (ac (ar (zz0 (cE rfl rfl) ?_)))
   refine zz0 (aa rfl) (ad ?_)
   rw [nk (fun a => (atP l a).1) (by omega)]
   refine cF (k + 1, _) (Front.c Front.nil) (bD 18 rfl) (o := (by show k + 1 ≤ _; omega))
  obtain rfl := List.mem_singleton.1 hq
  refine bJ rfl ?_
  refine zz0 (ye rfl rfl (by assumption) fY aP bZ (by rfl)) ?_
  rw [hga]
  refine cj ?_
  refine dA [1, 8] (fun iq hq => ?_)
  rcases List.mem_cons.1 hq with rfl | hq
  ·skip
   refine bJ rfl ?_
   refine zz0 (aG rfl dN) ?_
   refine cj ?_
   refine dA [8] (fun iq hq => ?_)
   obtain rfl := List.mem_singleton.1 hq
   refine bJ rfl ?_
   refine jl (E := aT) (atP l (ks.getD k default)).1 rfl rfl aR ay bZ (fun V25 => ?_)
   refine cj ?_
   refine dA [9] (fun iq hq => ?_)
   obtain rfl := List.mem_singleton.1 hq
   refine bJ rfl ?_
   refine zz1 rfl rfl aR kN (fun V26 => ?_)
   refine dz (.head _) (fun pi ci hpv => ?_)
   subst hpv
   refine cj ?_
   refine zz7 10 rfl (zz2 (off := 0) (ft := 50) rfl cL rfl dy) ?_
   refine dA [11] (fun iq hq => ?_)
   obtain rfl := List.mem_singleton.1 hq
   refine bJ rfl ?_
   refine zz5 (cs' := [_, _, _, _]) rfl rfl dy rfl ?_
   refine cj ?_
   refine jg ?_
   refine aY (ac (ar (zz0 (cE rfl rfl) ?_)))
   refine zz0 (aa rfl) (ad ?_)
   rw [nk (fun a => (atP l a).1) (by omega)]
   refine cF (k + 1, _) (Front.c Front.nil) (bD 18 rfl) (o := (by show k + 1 ≤ _; omega))
  obtain rfl := List.mem_singleton.1 hq
  refine bJ rfl ?_
  refine jl (E := aT) (atP l (ks.getD k default)).1 rfl rfl aR ay bZ (fun V27 => ?_)
  refine cj ?_
  refine dA [1] (fun iq hq => ?_)
  obtain rfl := List.mem_singleton.1 hq
  refine bJ rfl ?_
  refine zz0 (aG rfl dN) ?_
  refine cj ?_
  refine dA [9] (fun iq hq => ?_)
  obtain rfl := List.mem_singleton.1 hq
  refine bJ rfl ?_
  refine zz1 rfl rfl aR kN (fun V28 => ?_)
  refine dz (.head _) (fun pi ci hpv => ?_)
  subst hpv
  refine cj ?_
  refine zz7 10 rfl (zz2 (off := 0) (ft := 50) rfl cL rfl dy) ?_
  refine dA [11] (fun iq hq => ?_)
  obtain rfl := List.mem_singleton.1 hq
  refine bJ rfl ?_
  refine zz5 (cs' := [_, _, _, _]) rfl rfl dy rfl ?_
  refine cj ?_
  refine jg ?_
  refine aY (ac (ar (zz0 (cE rfl rfl) ?_)))
  refine zz0 (aa rfl) (ad ?_)
  rw [nk (fun a => (atP l a).1) (by omega)]
  refine cF (k + 1, _) (Front.c Front.nil) (bD 18 rfl) (o := (by show k + 1 ≤ _; omega))
 refine bF (aI (aI (bv (ac (an (an ?_))))))
 obtain rfl : k = ks.length := by omega
 rw [List.take_length]
 refine ar (zz0 (aa rfl) (zz0 (bB rfl) ?_))
 refine zz0 (zz2 (off := 2) (ft := 141) rfl df rfl ga) ?_
 refine zz0 (fb rfl hcw9 gi (by rfl)) ?_
 refine eT (fun V : Value => V) (fun V => [rowE V 23 au (gp (s.ents.map (·.1)))]) (ok := fun _ => True) (hF9.dr.trans hdr5) rfl mh (fun w hw => kf s.ents b6 w ((hmE5.mono hF9.blk).mono hw.bg) (by omega)) rfl (fun V31 _ => ?_)
 obtain ⟨se, hse⟩ : ∃ se, se = gp (s.ents.map (·.1)) := ⟨_, rfl⟩
 rw [← hse]
 refine zz0 (lz rfl al) ?_
 refine zz0 (aa rfl) (ad (aH (cn 23 au ?_)))
 refine bK (ι := Nat × Value) (fun ⟨j, Ve⟩ => j ≤ se.length) (fun _ => _) (fun ⟨j, Ve⟩ => [rowE V31 23 au se, cellE bc [Vi, Ve, Vu, Vb] 52, rowE Ve 23 au ((se.take j).filter fun a => (dP s.ins a).isSome), rowE Vi 36 aT ((ks).map fun a => (atP l a).1), rowE Vu 23 au (gp (s.unk.map (·.1))), rowE Vb 23 au (gp (s.bad.map (·.1))), cellE b1 [.slice none 0 0, .slice none 0 0, .slice none 0 0, .slice none 0 0] 52]) (fun ⟨j, Ve⟩ => [(166, .int .i64 (j : Nat))]) (fun ⟨j, Ve⟩ => se.length - j) (0, _) (Nat.zero_le _) (Front.c Front.nil) (by repeat' constructor) rfl (fun i hi m hm => ?_)
 obtain ⟨j, Ve⟩ := i
 replace hi : j ≤ se.length := hi
 replace hm : m = se.length - j := hm
 change Tr _ _ [rowE V31 23 au se, cellE bc [Vi, Ve, Vu, Vb] 52, rowE Ve 23 au ((se.take j).filter fun a => (dP s.ins a).isSome), rowE Vi 36 aT ((ks).map fun a => (atP l a).1), rowE Vu 23 au (gp (s.unk.map (·.1))), rowE Vb 23 au (gp (s.bad.map (·.1))), cellE b1 [.slice none 0 0, .slice none 0 0, .slice none 0 0, .slice none 0 0] 52] ([(166, .int .i64 (j : Nat))] ++ _) _
 have hsel : se.length ≤ 50000 := by rw [hse, rD, List.length_map]; omega
 have hfl : ((se.take j).filter fun a => (dP s.ins a).isSome).length ≤ 50000 := Nat.le_trans (List.length_filter_le _ _) (by rw [List.length_take]; omega)
 refine ah (zz0 (bT rfl rfl) (ad (an ?_)))
 refine ao rfl ?_ ?_ <;> intro h29 <;> try simp only [bs] at h29
 ·refine bA (an (aH (ah (zz0 (zz9 rfl rfl al ae) ?_))))
  refine zz0 (eh rfl am) ?_
  refine zz0 (ab rfl) (aM (zz0 (aa rfl) (zz0 (bB rfl) ?_)))
  refine zz0 (zz2 (off := 0) (ft := 140) rfl df rfl jE) ?_
  refine zz0 (fb rfl hcw9 jt (by rfl)) ?_
  refine zz0 (aa rfl) (zz0 (Bz rfl rfl (by assumption) fY aP bZ (by rfl)) ?_)
  refine zz0 (aa rfl) (zz0 (aQ rfl rfl) (zz0 (aQ rfl rfl) ?_))
  refine dB bZ rfl (fun b30 => ?_)
  refine aF aT rfl rfl ay ?_
  refine zz0 (ab rfl) (aM (zz0 (aa rfl) (ad ?_)))
  refine ao rfl ?_ ?_ <;> intro h31 <;> try simp only [bs] at h31
  ·refine ar (zz0 (zz2 (off := 1) (ft := 31) rfl cL rfl cQ) ?_)
   refine zz0 (aG rfl dR) ?_
   refine zz0 (aa rfl) ?_
   refine jl (E := au) (se.getD j default) rfl rfl al ae cX (fun V32 => ?_)
   refine zz1 rfl rfl al eN (fun V33 => ?_)
   refine dz (.head _) (fun pe ce hpv => ?_)
   subst hpv
   refine zz0 (zz2 (off := 1) (ft := 31) rfl cL rfl cQ) ?_
   refine zz5 (cs' := [_, _, _, _]) rfl rfl cQ rfl ?_
   refine ax (aY (ac (ar (zz0 (cE rfl rfl) ?_))))
   refine zz0 (aa rfl) (ad ?_)
   rw [uo (p := fun a => (dP s.ins a).isSome) (by omega) (by assumption)]
   refine cF (j + 1, _) (Front.c Front.nil) (bD 25 rfl) (o := (by show j + 1 ≤ _; omega))
  refine cg (aY (ac (ar (zz0 (cE rfl rfl) ?_))))
  refine zz0 (aa rfl) (ad ?_)
  rw [vL (p := fun a => (dP s.ins a).isSome) (by omega) (by simp_all)]
  refine cF (j + 1, _) (Front.c Front.nil) (bD 19 rfl) (o := (by show j + 1 ≤ _; omega))
 refine bF (aI (aI (bv (ac (an ?_)))))
 obtain rfl : j = se.length := by omega
 rw [List.take_length]
 refine jh (V := Vi) (fun pVi cVi hpv => ?_)
 subst hpv
 refine jh (V := Ve) (fun pVe cVe hpv => ?_)
 subst hpv
 refine jh (V := Vu) (fun pVu cVu hpv => ?_)
 subst hpv
 refine jh (V := Vb) (fun pVb cVb hpv => ?_)
 subst hpv
 refine ar (zz0 (bC rfl gv cP) ?_)
 refine zz8 rfl rfl cP ?_
 refine zz0 (ab rfl) (ad (aC (f9 ?_)))
 refine lA Tryz.results28 rfl rfl gv cP (fun w' hw => ?_)
 rw [← hks, ← hse] at hcode
 exact ⟨((_, _, _, _), ⟨_, _, _, _⟩, 0), rfl, hw.below0 (hF1.trans (hF15.trans hF9)), hw.ents0 (hF1.trans (hF15.trans hF9)).lo (by repeat' constructor), .ok hl (by simp_all) rfl hcode⟩
end Go.Proofs.YtiajjbhcpeadfaaGreat
namespace Go.HL
open Go Go.Sort
open Go.Proofs (ltOf)
def ltA (x y : Ins) : Bool := decide (x.addr < y.addr)
theorem Df (x : Ins) : ltA x x = false := by simp [ltA]
theorem Gd (x y z : Ins) (h1 : ltA x y = true) (h2 : ltA y z = true) : ltA x z = true := by
 simp only [ltA, decide_eq_true_eq, UInt32.lt_iff_toNat_lt] at *; omega
theorem yP {l : List Ins} {a : UInt32} : inK l a = true ↔ ∃ x ∈ l, x.addr = a := by
 unfold inK; rw [List.any_eq_true]; simp
def si (l : List Ins) : Prop := l.Pairwise fun a b => a.addr ≠ b.addr
theorem Ba : ∀ (xs out : List Ins), si out → si (xs.foldl iv out)
 | [], out, h => h
 | x :: t, out, h => by
  rw [List.foldl_cons]
  apply Ba
  unfold iv
  split
  ·rename_i c
   simp only [Bool.and_eq_true, Bool.not_eq_true', decide_eq_true_eq] at c
   refine List.pairwise_append.2 ⟨h, by simp, fun a ha b hb => ?_⟩
   simp at hb; subst hb
   intro q
   have := yP.2 ⟨a, ha, q⟩
   rw [c.1] at this; cases this
  ·exact h
theorem xJ {l m : List Ins} (h : l.Perm m) (hd : si l) : si m := (h.pairwise_iff fun {a b} q => Ne.symm q).1 hd
theorem uZ {l : List Ins} (hd : si l) : (mR (ltOf l4) l).Pairwise (fun a b => ltA a b = true) ∧ ∀ x, x ∈ mR (ltOf l4) l ↔ x ∈ l := by
 have hp := oI k9 l
 have hs := yt k9 l
 have hd' := xJ hp.symm hd
 refine ⟨?_, fun x => hp.mem_iff⟩
 refine (hs.and hd').imp fun {a b} ⟨h1, h2⟩ => ?_
 rw [qD] at h1
 simp only [ltA, decide_eq_true_eq, decide_eq_false_iff_not, UInt32.lt_iff_toNat_lt] at *
 have : a.addr.toNat ≠ b.addr.toNat := fun q => h2 (UInt32.toNat_inj.1 q)
 omega
theorem A2 (l : List Ins) : (fQ l).Pairwise (fun a b => ltA a b = true) ∧ ∀ x, x ∈ fQ l ↔ x ∈ tz l := uZ (Ba l [] .nil)
theorem tN {l : List Ins} (h : l.Pairwise fun a b => ltA a b = true) : si l := h.imp fun {a b} q e => by
 simp only [ltA, decide_eq_true_eq, UInt32.lt_iff_toNat_lt] at q; rw [e] at q; omega
theorem Cj (l : List Ins) : si (fQ l) := tN (A2 l).1
theorem A9 : ∀ (xs out : List Ins), si (out ++ xs) → (∀ y ∈ xs, iC y = 0) → xs.foldl iv out = out ++ xs
 | [], out, _, _ => by simp
 | x :: t, out, hd, hv => by
  have hn : inK out x.addr = false := by
   cases c : inK out x.addr
   ·rfl
   ·obtain ⟨y, hy, e⟩ := yP.1 c
    exact absurd e ((List.pairwise_append.1 hd).2.2 y hy x (.head _))
  have e : iv out x = out ++ [x] := by unfold iv; rw [hn, hv x (.head _)]; simp
  rw [List.foldl_cons, e, A9 t (out ++ [x]) (by rw [List.append_assoc]; exact hd) (fun y hy => hv y (.tail _ hy)), List.append_assoc]; rfl
theorem Ci {l : List Ins} (hd : si l) (hv : ∀ y ∈ l, iC y = 0) : fQ l = mR (ltOf l4) l := by
 unfold fQ tz; rw [A9 l [] hd hv]; rfl
theorem FS {g : Ins → Int} (hg : ∀ i, g i = 0 ∨ g i = 1 ∨ g i = 2) {l : List Ins} (h : si l) : si (ed g l) := xJ (rP hg l).1.1 h
theorem s9 : ∀ (xs out : List Ins), si (out ++ xs) → si (xs.foldl gU out)
 | [], out, h => by simpa using h
 | x :: t, out, h => by
  rw [List.foldl_cons]
  unfold gU
  split
  ·refine s9 t out (h.sublist ?_)
   exact (List.Sublist.refl out).append (List.sublist_cons_self x t)
  ·exact s9 t (out ++ [x]) (by rw [List.append_assoc]; exact h)
end Go.HL
namespace Go.HL
open Go Go.Sort
open Go.Proofs (ltOf)
theorem Az : ∀ (xs out : List Ins), (∀ a ∈ out ++ xs, ∀ b ∈ out ++ xs, jN a b = false) → xs.foldl gU out = out ++ xs
 | [], out, _ => by simp
 | x :: t, out, h => by
  have c : ¬ out.any (jN x) = true := fun q => by
   obtain ⟨y, hy, q⟩ := List.any_eq_true.1 q
   rw [h x (by simp) y (by simp [hy])] at q; cases q
  rw [List.foldl_cons, gU, if_neg c, Az t (out ++ [x]) (by simpa using h)]; simp
theorem rM {ins : List Ins} {ents unk bad : List UInt32} {x : Ins} : x ∈ (gQ ins ents unk bad).kept ↔ x ∈ lM (ed (gk ents (rA (fQ ins))) (fQ ins)) :=
 (oI k9 _).mem_iff
theorem FC (ins : List Ins) (ents : List UInt32) : si (lM (ed (gk ents (rA (fQ ins))) (fQ ins))) :=
 s9 _ [] (by simpa using FS (mf ents (rA (fQ ins))) (Cj ins))
theorem u6 (ins : List Ins) (ents unk bad : List UInt32) : (gQ ins ents unk bad).kept.Pairwise fun a b => ltA a b = true := (uZ (FC ins ents)).1
theorem IZ {ins : List Ins} {ents unk bad : List UInt32} {x : Ins} (h : x ∈ (gQ ins ents unk bad).kept) : x ∈ fQ ins := Db (Ax (rM.1 h))
theorem yC {g : Ins → Int} (hg : ∀ i, g i = 0 ∨ g i = 1 ∨ g i = 2) {l : List Ins} {x : Ins} : x ∈ ed g l ↔ x ∈ l := (rP hg l).1.1.mem_iff.symm
theorem HI {ins : List Ins} {ents unk bad : List UInt32} (h : ∀ a ∈ fQ ins, ∀ b ∈ fQ ins, jN a b = false) : (gQ ins ents unk bad).kept = fQ ins ∧ (gQ ins ents unk bad).rem = [] := by
 have hg := mf ents (rA (fQ ins))
 have e1 : lM (ed (gk ents (rA (fQ ins))) (fQ ins)) = ed (gk ents (rA (fQ ins))) (fQ ins) := by
  unfold lM
  rw [Az _ [] (fun a ha b hb => h a ((yC hg).1 (by simpa using ha)) b ((yC hg).1 (by simpa using hb)))]; rfl
 have e2 : (gQ ins ents unk bad).kept = fQ ins := yu Df Gd _ _ (u6 ins ents unk bad) (A2 ins).1 fun x => by rw [rM, e1, yC hg]
 refine ⟨e2, ?_⟩
 show nT (fQ ins) (gQ ins ents unk bad).kept = []
 rw [e2]
 unfold nT
 rw [List.map_eq_nil_iff, List.filter_eq_nil_iff]
 intro x hx
 rw [yP.2 ⟨x, hx, rfl⟩]; simp
end Go.HL
namespace Go.HL
open Go Go.Sort
end Go.HL
namespace Go.HL
open Go Go.Sort
end Go.HL
namespace Go.HL
open Go Go.Sort
open Go.Proofs (ltOf)
def pC (p : Nat → Prop) : List Nat → Prop
 | [] => True
 | x :: t => p x ∧ pC p t
theorem pC.nil {p : Nat → Prop} : pC p [] := trivial
theorem pC.cons {p : Nat → Prop} {x : Nat} {t : List Nat} (h : p x) (k : pC p t) : pC p (x :: t) := ⟨h, k⟩
theorem pC.all {p : Nat → Prop} : ∀ {l : List Nat}, pC p l → ∀ i ∈ l, p i
 | _ :: _, h, i, hi => by
  rcases List.mem_cons.1 hi with rfl | hi
  ·exact h.1
  ·exact pC.all h.2 i hi
section
variable {P : Program} {N : Nat} {F : Bg} {L : List Ent} {M : Fr} {ops : Array Oper} {Q : Exit → Act → World → Prop} {fuel : Nat} {listed : Array Bool}
def nW (n m : Nat) : Array Bool := (Array.range n).map fun i => m.testBit i
structure Tr.AnyG (P : Program) (N : Nat) (F : Bg) (L : List Ent) (M : Fr) (ops : Array Oper) (Q : Exit → Act → World → Prop) (S : World → Prop) (fuel n m : Nat) : Prop where
 get : Tr N F L M (wpAnyH P .any ops Q S fuel (nW n m))
structure Tr.OpG (P : Program) (N : Nat) (F : Bg) (L : List Ent) (M : Fr) (ops : Array Oper) (Q : Exit → Act → World → Prop) (S : World → Prop) (fuel n m i : Nat) : Prop where
 get : Tr N F L M (fun a w => wpOp P ops Q i (fun a' w' => S w' ∧ wpAnyH P .any ops Q S fuel ((nW n m).setIfInBounds i true) a' w') a w)
theorem Jy {S : World → Prop} (n : Nat) (k : Tr.AnyG P N F L M ops Q S fuel n 0) (e : listed = nW n 0 := by decide +kernel) : Tr N F L M (wpAnyH P .any ops Q S fuel listed) := by
 subst e; exact k.get
theorem gX {S : World → Prop} {n : Nat} (m : Nat) (k : Tr.AnyG P N F L M ops Q S fuel n m) : Tr.AnyG P N F L M ops Q S fuel n m := k
theorem m6 {S : World → Prop} {n m : Nat} (i : Nat) (k : Tr.OpG P N F L M ops Q S fuel n m i) : Tr.OpG P N F L M ops Q S fuel n m i := k
theorem qp {S : World → Prop} {n m : Nat} {o : Oper} {i : Nat} (hi : ops[i]? = some o) (h : Tr N F L M (wpList P ops (Exit.then (fun a' w' => S w' ∧ wpAnyH P .any ops Q S fuel (nW n (m + 2 ^ i)) a' w') Q) [o]))
  (e : (nW n m).setIfInBounds i true = nW n (m + 2 ^ i) := by decide +kernel) : Tr.OpG P N F L M ops Q S fuel n m i := ⟨by rw [e]; exact bJ hi h⟩
theorem Ix {S : World → Prop} {n m : Nat} (rs : List Nat) (hr : Region.ready .any ops (nW n m) = rs) (h : pC (fun i => Tr.OpG P N F L M ops Q S fuel n m i) rs)
  (hne : rs ≠ [] := by simp) : Tr.AnyG P N F L M ops Q S (fuel + 1) n m := ⟨zr rs hr hne fun i hi => (pC.all h i hi).get⟩
theorem mO {S : World → Prop} {n m : Nat} (rs : List Nat) (h : pC (fun i => Tr.OpG P N F L M ops Q S fuel n m i) rs) (hr : Region.ready .any ops (nW n m) = rs := by kernel_rfl) (hne : rs ≠ [] := by simp) : Tr.AnyG P N F L M ops Q S (fuel + 1) n m := Ix rs hr h hne
theorem Hh {S : World → Prop} {n m : Nat} (hr : Region.ready .any ops (nW n m) = []) (h : Tr N F L M (Q .normal)) : Tr.AnyG P N F L M ops Q S fuel n m := ⟨Bt hr h⟩
variable {L0 : List Ent} {op : Op} {ty : TypeId} {pos : String} {after : Array Edge} {d : Nat}
theorem uf {n m : Nat} (k : Tr.AnyG P N F L M ops Q (HpOK F L0) fuel n m) (hL : Pick L L0 := by repeat' (first | exact Pick.nil _ | exact Del.here _ | apply Pick.cons | apply Del.there)) :
  Tr N F L M (wpList P ops (Exit.then (fun a w => HpOK F L0 w ∧ wpAnyH P .any ops Q (HpOK F L0) fuel (nW n m) a w) Q) []) := Bs hL k.get
theorem ud {v : Value} {n m : Nat} (i : Nat) (hi : ops[i]? = some ⟨some d, op, ty, pos, after, none⟩) (hB : takeB ops (nW n m) i = true) (hQ : ∀ c a d v w, Q (.panic c) (a.put d v) w → Q (.panic c) a w)
  (h : QS P N F L0 M ⟨some d, op, ty, pos, after, none⟩ v) (k : Tr.AnyG P N F L ((d, v) :: M) ops Q (HpOK F L0) fuel n (m + 2 ^ i))
  (e : (nW n m).setIfInBounds i true = nW n (m + 2 ^ i) := by decide +kernel)
  (hp : mT op = true := by rfl) (hd : Nat.ble (d + 1) N = true := by rfl) (hL : Pick L L0 := by repeat' (first | exact Pick.nil _ | exact Del.here _ | apply Pick.cons | apply Del.there)) :
  Tr.AnyG P N F L M ops Q (HpOK F L0) (fuel + 1) n m := ⟨Br i hi hB hQ hp h hL hd (by rw [e]; exact k.get)⟩
end
def lJ (r : RV UInt32) : TabV := ⟨r.data, r.dp, r.dc⟩
theorem Fb {h : Hp} {rs : List (RV UInt32)} {V : Value} (s : Sl h dI rs V) : Sl h gr (rs.map lJ) V := by
 obtain ⟨⟨a, c, h1, h2, h3, h4⟩, hc⟩ := s
 refine ⟨⟨a, c, by rw [List.length_map]; exact h1, by rw [List.length_map]; exact h2, h3, fun e => h4 (fun q => e (by rw [q]; rfl))⟩, fun i x hx => ?_⟩
 rw [List.getElem?_map] at hx
 cases hr : rs[i]? with
 | none => rw [hr] at hx; cases hx
 | some r =>
  rw [hr] at hx
  simp only [Option.map_some, Option.some.injEq] at hx
  subst hx
  exact hc i r hr
theorem Fc {h : Hp} {rs : List (RV UInt32)} (s : RvIn au h rs) : TabIn h (rs.map lJ) := fun t ht => by
 obtain ⟨r, hr, rfl⟩ := List.mem_map.1 ht
 exact s r hr
def mo (ins : List Ins) (ls : List (List UInt32)) : List UInt32 := ls.flatMap fun t => t.filter (inK ins)
def kG (ins : List Ins) (ents : List UInt32) (ts : List (List UInt32)) : List UInt32 := fU (gp (mo ins (ents :: ts)))
def lh (ins : List Ins) (ls : List TabV) (k j : Nat) : List UInt32 := mo ins ((ls.map (·.data)).take k) ++ (((ls.map (·.data)).getD k []).take j).filter (inK ins)
theorem BQ (ins : List Ins) (ls : List TabV) {k : Nat} (hk : k < ls.length) {j : Nat} (hj : ((ls.map (·.data)).getD k []).length ≤ j) : lh ins ls k j = lh ins ls (k + 1) 0 := by
 unfold lh mo
 rw [List.take_of_length_le hj, show (k + 1 : Nat) = k + 1 from rfl, dw (l := ls.map (·.data)) (k := k) (by rw [List.length_map]; exact hk), List.flatMap_append]
 simp
 rfl
theorem D9 {ins : List Ins} {ls : List TabV} {k j : Nat} (hj : j < (ls.getD k default).data.length) (h : inK ins ((ls.getD k default).data.getD j default) = true) : lh ins ls k (j + 1) = lh ins ls k j ++ [(ls.getD k default).data.getD j default] := by
 have e : (ls.map (·.data)).getD k [] = (ls.getD k default).data := by
  simp only [List.getD_eq_getElem?_getD, List.getElem?_map]
  cases ls[k]? <;> rfl
 unfold lh
 rw [e, dw hj, List.filter_append, List.filter_cons, if_pos h, List.filter_nil, List.append_assoc]
theorem Fz {ins : List Ins} {ls : List TabV} {k j : Nat} (hj : j < (ls.getD k default).data.length) (h : inK ins ((ls.getD k default).data.getD j default) = false) : lh ins ls k (j + 1) = lh ins ls k j := by
 have e : (ls.map (·.data)).getD k [] = (ls.getD k default).data := by
  simp only [List.getD_eq_getElem?_getD, List.getElem?_map]
  cases ls[k]? <;> rfl
 unfold lh
 rw [e, dw hj, List.filter_append, List.filter_cons, if_neg (by rw [h]; simp), List.filter_nil, List.append_nil]
theorem oJ (ins : List Ins) : ∀ {ls : List (List UInt32)} {n : Nat}, (∀ t ∈ ls, t.length ≤ n) → (mo ins ls).length ≤ ls.length * n
 | [], n, _ => by simp [mo]
 | t :: ls, n, h => by
  have ih := oJ ins (ls := ls) (n := n) fun x hx => h x (.tail _ hx)
  have h1 := h t (.head _)
  have h2 := List.length_filter_le (inK ins) t
  unfold mo at *
  rw [List.flatMap_cons, List.length_append, List.length_cons, Nat.add_mul]
  omega
theorem Ea {ins : List Ins} {ls : List TabV} {k j n : Nat} (h : ∀ t ∈ ls, t.data.length ≤ n) (hk : k < ls.length) : (lh ins ls k j).length ≤ (k + 1) * n := by
 unfold lh
 rw [List.length_append]
 have h1 := oJ ins (ls := (ls.map (·.data)).take k) (n := n) (fun t ht => by
  obtain ⟨r, hr, rfl⟩ := List.mem_map.1 (List.mem_of_mem_take ht)
  exact h r hr)
 rw [List.length_take, List.length_map] at h1
 have h2 : (((ls.map (·.data)).getD k []).take j).length ≤ n := by
  rw [List.length_take]
  have e : (ls.map (·.data)).getD k [] = (ls.getD k default).data := by
   simp only [List.getD_eq_getElem?_getD, List.getElem?_map]
   cases ls[k]? <;> rfl
  rw [e]
  have := h _ (de (l := ls) hk)
  omega
 have h3 := List.length_filter_le (inK ins) (((ls.map (·.data)).getD k []).take j)
 have h4 : min k ls.length * n ≤ k * n := Nat.mul_le_mul_right _ (Nat.min_le_left _ _)
 rw [Nat.add_mul]; omega
theorem Eb (ins : List Ins) (ls : List TabV) : lh ins ls ls.length 0 = mo ins (ls.map (·.data)) := by
 unfold lh
 rw [List.take_zero, List.filter_nil, List.append_nil, List.take_of_length_le (by rw [List.length_map]; exact Nat.le_refl _)]
def mP (ins : List Ins) : List UInt32 → Int
 | [] => 0
 | r :: t => if (eO ins r 4096).2 ≠ 0 then (eO ins r 4096).2 else mP ins t
theorem tp {ins : List Ins} : ∀ {rts : List UInt32} {k : Nat}, mP ins (rts.take k) = 0 → k < rts.length → mP ins (rts.take (k + 1)) = (eO ins (rts.getD k default) 4096).2
 | [], k, _, h => by simp at h
 | r :: t, 0, _, _ => by
  simp only [List.take_succ_cons, List.take_zero, mP, List.getD_cons_zero]
  split
  ·rfl
  ·rename_i q; simp only [ne_eq, Decidable.not_not] at q; rw [q]
 | r :: t, k + 1, h, hk => by
  simp only [List.take_succ_cons, mP] at h ⊢
  split at h
  ·rename_i q; exact absurd h q
  ·rename_i q
   rw [if_neg q, List.getD_cons_succ]
   exact tp h (by simpa using hk)
theorem AW {ins : List Ins} : ∀ {rts : List UInt32} {k : Nat}, mP ins (rts.take k) ≠ 0 → mP ins rts = mP ins (rts.take k)
 | [], k, h => by simp [mP] at h
 | r :: t, 0, h => by simp [mP] at h
 | r :: t, k + 1, h => by
  simp only [List.take_succ_cons, mP] at h ⊢
  split
  ·rfl
  ·rename_i q
   rw [if_neg q] at h
   exact AW h
def kQ (ins : List Ins) (rts : List UInt32) : List (List StV) := rts.map fun r => (eO ins r 4096).1
def Ir (ins : List Ins) (a : UInt32) (b : StV × Bool) (s : List StV) : StV × Bool :=
 if (jz ins s a).2 = true then (if b.2 = true then (jk b.1 (jz ins s a).1 8, true) else ((jz ins s a).1, true)) else b
def tH (ins : List Ins) (a : UInt32) (ss : List (List StV)) : StV × Bool := ss.foldl (Ir ins a) (gP, false)
structure FndV where
 ts : List (List UInt32)
 at_ : List UInt32
def ln (l : List SecV) (ins : List Ins) (ss : List (List StV)) (f : FndV) (i : Ins) : FndV :=
 if qT i = true ∧ (tH ins i.addr ss).2 = true ∧ (co l i ((tH ins i.addr ss).1.get i.a)).2 = 0
 then ⟨f.ts ++ [(co l i ((tH ins i.addr ss).1.get i.a)).1], f.at_ ++ [i.addr]⟩ else f
def nY (l : List SecV) (ins : List Ins) (ss : List (List StV)) (xs : List Ins) : FndV := xs.foldl (ln l ins ss) ⟨[], []⟩
def sR (l : List SecV) (c : CodeP) (ts : List (List UInt32)) : CodeP × FndV × Int :=
 if mP (gQ c.ins c.ents c.unk c.bad).kept (kG (gQ c.ins c.ents c.unk c.bad).kept (gQ c.ins c.ents c.unk c.bad).ents ts) ≠ 0
 then (⟨[], [], [], []⟩, ⟨[], []⟩, mP (gQ c.ins c.ents c.unk c.bad).kept (kG (gQ c.ins c.ents c.unk c.bad).kept (gQ c.ins c.ents c.unk c.bad).ents ts))
 else (⟨(gQ c.ins c.ents c.unk c.bad).kept, (gQ c.ins c.ents c.unk c.bad).ents, (gQ c.ins c.ents c.unk c.bad).unk, (gQ c.ins c.ents c.unk c.bad).bad⟩,
  nY l (gQ c.ins c.ents c.unk c.bad).kept (kQ (gQ c.ins c.ents c.unk c.bad).kept (kG (gQ c.ins c.ents c.unk c.bad).kept (gQ c.ins c.ents c.unk c.bad).ents ts)) (gQ c.ins c.ents c.unk c.bad).kept, 0)
def RoundIs (l : List SecV) (es : List UInt32) (ts : List TabV) (at_ : List UInt32) (o : CodeP × FndV × Int) : Prop :=
 ∃ c e, WalkIs l ts at_ es c e ∧ if e ≠ 0 then o = (⟨[], [], [], []⟩, ⟨[], []⟩, e) else o = sR l c (ts.map (·.data))
theorem xN {l : List SecV} {ts : List TabV} {at_ es : List UInt32} {c : CodeP} {e : Int} (hT : qq ts) (h : WalkIs l ts at_ es c e) : (c.ins.length ≤ totD l ∧ c.ents.length ≤ totD l) ∧ c.unk.length ≤ totD l ∧ c.bad.length ≤ es.length + totD l * 66 := by
 cases h with
 | arg h1 h2 h3 => subst h3; simp
 | chk h0 h1 h2 h3 => subst h3; simp
 | ok h0 h1 h2 h =>
  have key : ∀ xs : List UInt32, xs.Pairwise (· < ·) → (∀ a ∈ xs, (atP l a).2 = true) → xs.length ≤ totD l := fun xs h1 h2 => by
   rw [← uW]; exact nU (rV h1) (fun a ha => zg (h2 a ha))
  refine ⟨⟨?_, key _ h.ents.1 (fun a ha => ((h.ents.2 a).1 ha).1.2)⟩, key _ h.unk.1 (fun a ha => ((h.unk.2 a).1 ha).1.2), ?_⟩
  ·obtain ⟨ks, k1, k2, k3⟩ := h.ins
   rw [k3, List.length_map]; exact key ks k1 (fun a ha => ((k2 a).1 ha).2)
  ·have hsub : ∀ a ∈ c.bad, a ∈ es ++ (wY l).flatMap (fun b => kB ts at_ (atP l b).1) := fun a ha => by
    cases ((h.bad.2 a).1 ha).1 with
    | ent a q => exact List.mem_append_left _ q
    | step b a q1 q2 q3 => exact List.mem_append_right _ (List.mem_flatMap.2 ⟨b, zg q2, q3⟩)
   have h1 := nU (rV h.bad.1) hsub
   rw [List.length_append] at h1
   have h2 : ∀ xs : List UInt32, (xs.flatMap (fun b => kB ts at_ (atP l b).1)).length ≤ xs.length * 66 := by
    intro xs
    induction xs with
    | nil => simp
    | cons x xs ih =>
     rw [List.flatMap_cons, List.length_append, List.length_cons]
     have := vx hT at_ (atP l x).1
     omega
   have h3 := h2 (wY l)
   rw [uW] at h3
   omega
theorem uQ {l : List SecV} {ts : List TabV} {at_ es : List UInt32} {c : CodeP} {e : Int} (h : WalkIs l ts at_ es c e) : ∀ x ∈ c.ins, InsOK x := by
 cases h with
 | arg h1 h2 h3 => subst h3; intro x hx; cases hx
 | chk h0 h1 h2 h3 => subst h3; intro x hx; cases hx
 | ok h0 h1 h2 h =>
  obtain ⟨ks, k1, k2, k3⟩ := h.ins
  intro x hx
  rw [k3] at hx
  obtain ⟨a, _, rfl⟩ := List.mem_map.1 hx
  exact IQ l a
theorem xu (ins : List Ins) (ents unk bad : List UInt32) : ((gQ ins ents unk bad).kept.length ≤ ins.length ∧ (gQ ins ents unk bad).ents.length ≤ ents.length) ∧ (gQ ins ents unk bad).unk.length ≤ unk.length ∧ (gQ ins ents unk bad).bad.length = bad.length := by
 refine ⟨⟨?_, List.length_filter_le _ _⟩, List.length_filter_le _ _, rfl⟩
 show (mR _ _).length ≤ _
 rw [lQ k9]
 exact Nat.le_trans (td _) (Nat.le_trans (Nat.le_of_eq (yD (mf ents _) _)) (vR ins))
theorem Gh {ins : List Ins} {ents unk bad : List UInt32} {x : Ins} (h : x ∈ (gQ ins ents unk bad).kept) : x ∈ ins := vQ (IZ h)
theorem zc {α : Type} [DecidableEq α] : ∀ l : List α, (fU l).length ≤ l.length
 | [] => Nat.le_refl _
 | x :: t => by
  have : ∀ (t : List α) (x : α), (od x t).length ≤ t.length := by
   intro t
   induction t with
   | nil => intro x; simp [od]
   | cons y t ih =>
    intro x
    unfold od
    split
    ·have := ih x; simp only [List.length_cons]; omega
    ·have := ih y; simp only [List.length_cons]; omega
  have := this t x
  simp only [fU, List.length_cons]; omega
theorem qI {l : List SecV} {ins : List Ins} {ss : List (List StV)} {f : FndV} {i : Ins} (h : qT i = false) : ln l ins ss f i = f := if_neg (fun q => by rw [h] at q; cases q.1)
theorem qH {l : List SecV} {ins : List Ins} {ss : List (List StV)} {f : FndV} {i : Ins} {b : StV} (h : (b, false) = tH ins i.addr ss) : ln l ins ss f i = f := if_neg (fun q => by rw [← h] at q; cases q.2.1)
theorem qJ {l : List SecV} {ins : List Ins} {ss : List (List StV)} {f : FndV} {i : Ins} {b : StV} {k : Bool} (h : (b, k) = tH ins i.addr ss) (h2 : (co l i (b.get i.a)).2 ≠ 0) : ln l ins ss f i = f := if_neg (fun q => by rw [← h] at q; exact h2 q.2.2)
theorem qG {l : List SecV} {ins : List Ins} {ss : List (List StV)} {f : FndV} {i : Ins} {b : StV} (h1 : qT i = true) (h : (b, true) = tH ins i.addr ss) (h2 : (co l i (b.get i.a)).2 = 0) : ln l ins ss f i = ⟨f.ts ++ [(co l i (b.get i.a)).1], f.at_ ++ [i.addr]⟩ := by
 unfold ln; rw [← h]; exact if_pos ⟨h1, rfl, h2⟩
theorem xU {ins : List Ins} {a : UInt32} {ss : List (List StV)} {q : Nat} (hq : q < ss.length) : tH ins a (ss.take (q + 1)) = Ir ins a (tH ins a (ss.take q)) (ss.getD q default) := qF _ _ _ hq
theorem Ce {l : List SecV} {ins : List Ins} {ss : List (List StV)} {xs : List Ins} {k : Nat} (hk : k < xs.length) : nY l ins ss (xs.take (k + 1)) = ln l ins ss (nY l ins ss (xs.take k)) (xs.getD k default) := qF _ _ _ hk
def En (cmp : Ins → Ins → Int) (x y : Ins) : Bool := decide (cmp x y < 0)
theorem E0 : WO (En l4) where
 irr := fun x => by simp [En, l4, vU]
 tr := fun x y z h1 h2 => by
  simp only [En, decide_eq_true_eq, l4, uH, UInt32.lt_iff_toNat_lt] at *; omega
 ntr := fun x y z h1 h2 => by
  simp only [En, decide_eq_false_iff_not, l4, uH, UInt32.lt_iff_toNat_lt] at *; omega
theorem xE (l : List SecV) (ins : List Ins) (ss : List (List StV)) : ∀ (xs : List Ins), (nY l ins ss xs).ts.length ≤ xs.length ∧ (nY l ins ss xs).at_.length ≤ xs.length := by
 have key : ∀ (xs : List Ins) (f : FndV), (xs.foldl (ln l ins ss) f).ts.length ≤ f.ts.length + xs.length ∧ (xs.foldl (ln l ins ss) f).at_.length ≤ f.at_.length + xs.length := by
  intro xs
  induction xs with
  | nil => intro f; simp
  | cons x xs ih =>
   intro f
   have h := ih (ln l ins ss f x)
   have h2 : (ln l ins ss f x).ts.length ≤ f.ts.length + 1 ∧ (ln l ins ss f x).at_.length ≤ f.at_.length + 1 := by
    unfold ln
    split
    ·simp
    ·omega
   simp only [List.foldl_cons, List.length_cons]; omega
 intro xs
 have := key xs ⟨[], []⟩
 simpa [nY] using this
theorem tM {l : List SecV} {i : Ins} {x : VSet} : (co l i x).1.length ≤ 64 := by
 unfold co
 split
 ·simp
 split
 ·simp
 split
 ·simp
 split
 ·split
  ·simp
  ·rename_i h
   exact tq (by simpa using (fun q => h (.inl q)))
 split
 ·simp
 ·rename_i h
  split
  ·simp
  ·rename_i out ho
   have := rB ho
   rw [UInt32.not_le, UInt32.lt_iff_toNat_lt] at h
   have e : (64 : UInt32).toNat = 64 := rfl
   show out.length ≤ 64
   omega
theorem EA (l : List SecV) (ins : List Ins) (ss : List (List StV)) (xs : List Ins) : ∀ t ∈ (nY l ins ss xs).ts, t.length ≤ 64 := by
 have key : ∀ (xs : List Ins) (f : FndV), (∀ t ∈ f.ts, t.length ≤ 64) → ∀ t ∈ (xs.foldl (ln l ins ss) f).ts, t.length ≤ 64 := by
  intro xs
  induction xs with
  | nil => intro f h; exact h
  | cons x xs ih =>
   intro f h
   refine ih _ ?_
   unfold ln
   split
   ·intro t ht
    rcases List.mem_append.1 ht with ht | ht
    ·exact h t ht
    ·rw [List.mem_singleton.1 ht]; exact tM
   ·exact h
 exact key xs ⟨[], []⟩ (fun t ht => by cases ht)
theorem BO {l : List SecV} {c : CodeP} {ts : List (List UInt32)} {R : ResV} (hR : R = gQ c.ins c.ents c.unk c.bad) (h : mP R.kept (kG R.kept R.ents ts) ≠ 0) : sR l c ts = (⟨[], [], [], []⟩, ⟨[], []⟩, mP R.kept (kG R.kept R.ents ts)) := by
 subst hR; exact if_pos h
theorem D5 {l : List SecV} {c : CodeP} {ts : List (List UInt32)} {R : ResV} (hR : R = gQ c.ins c.ents c.unk c.bad) (h : mP R.kept (kG R.kept R.ents ts) = 0) : sR l c ts = (⟨R.kept, R.ents, R.unk, R.bad⟩, nY l R.kept (kQ R.kept (kG R.kept R.ents ts)) R.kept, 0) := by
 subst hR; exact if_neg (fun q => q h)
theorem zS {ins : List Ins} {rts : List UInt32} {k : Nat} (hk : k < rts.length) : kQ ins (rts.take (k + 1)) = kQ ins (rts.take k) ++ [(eO ins (rts.getD k default) 4096).1] := by
 unfold kQ; rw [dw hk, List.map_append]; rfl
theorem D7 {ins : List Ins} {ents : List UInt32} {ts : List (List UInt32)} (h1 : ents.length ≤ 700) (h2 : ∀ t ∈ ts, t.length ≤ 700) (h3 : ts.length ≤ 700) : (kG ins ents ts).length ≤ 490700 := by
 have h := oJ ins (ls := ents :: ts) (n := 700) (fun t ht => by
  rcases List.mem_cons.1 ht with rfl | ht
  ·exact h1
  ·exact h2 t ht)
 rw [List.length_cons] at h
 have h4 := zc (gp (mo ins (ents :: ts)))
 rw [rD] at h4
 have h5 : (ts.length + 1) * 700 ≤ 701 * 700 := Nat.mul_le_mul_right _ (by omega)
 unfold kG; omega
theorem CH {α : Type} {N : Nat} {F : Bg} {A : List Ent} {M : Fr} {X : Act → World → Prop} {f : α → Ent} {rs : List α} (r : α) (K : Tr N F (A ++ ((rs ++ [r]).map f ++ [])) M X) : Tr N F (f r :: (A ++ (rs.map f ++ []))) M X := by
 refine qN (L' := A ++ ((rs ++ [r]).map f ++ [])) ?_ K
 rw [List.append_nil, List.append_nil, List.map_append, ← List.append_assoc]
 exact List.perm_append_comm
end Go.HL
namespace Go.Proofs.YtiajjbhcpeadfaaGreat
open Go Go.HL Go.RowKit
theorem xH (l n2 : List UInt32) (V W : Value) (w : World) (hV : Sl (hp w) au l V) (hW : Sl (hp w) au n2 W) :
  Cr Tryz.prog 111 #[V, W] w (.bool (decide (l = n2))) := by
 have hV' : Sl (Bg.of w).blk au l V := hV
 have hW' : Sl (Bg.of w).blk au n2 W := hW
 have hlen := hV.len_le
 refine enter Tryz.func111 rfl Tryz.ntmps111 rfl ?_
 refine ah (zz0 (ab rfl) (ad (an (ah (zz0 (aa rfl) (zz0 (gK rfl al) ?_))))))
 refine zz0 (aa rfl) (zz0 (gK rfl al) ?_)
 refine zz0 (ff rfl rfl) (ad ?_)
 refine ao rfl ?_ ?_ <;> intro h1 <;> try simp only [bs] at h1
 ·have hq := h1
  refine ah (zz0 (ab rfl) (ad (aC (aA ?_))))
  refine aO nI rfl (fun w' hw => ?_)
  exact ⟨by rw [decide_eq_false (fun e => hq (by rw [e]))], hw.b0⟩
 have hq := h1
 refine bA (an (ah (zz0 (aa rfl) (zz0 (gK rfl al) ?_))))
 refine zz0 (aa rfl) (ad (aH ?_))
 refine bK (ι := Nat) (fun k => k ≤ l.length ∧ l.take k = n2.take k) (fun _ => _) (fun k => []) (fun k => [(13, .int .i64 (k : Nat))]) (fun k => l.length - k) 0 ⟨Nat.zero_le _, rfl⟩ (Front.c Front.nil) (by repeat' constructor) rfl (fun k hi m hm => ?_)
 replace hi : k ≤ l.length ∧ l.take k = n2.take k := hi
 replace hm : m = l.length - k := hm
 change Tr _ _ [] ([(13, .int .i64 (k : Nat))] ++ _) _
 obtain ⟨hk1, hk2⟩ := hi
 refine ah (zz0 (bT rfl rfl) (ad (an ?_)))
 refine ao rfl ?_ ?_ <;> intro h2 <;> try simp only [bs] at h2
 ·refine bA (an (aH (ah (zz0 (aa rfl) (zz0 (ab rfl) (ad (an (g9 aU ?_))))))))
  refine aw (aa rfl) (aw (aa rfl) (aw (hZ rfl rfl al ae) ?_))
  refine aw (jP rfl am) ?_
  refine aw (aa rfl) (aw (aa rfl) (aw (hZ rfl rfl al ae) ?_))
  refine aw (jP rfl am) ?_
  refine aw (ij rfl rfl) ?_
  refine bI ?_
  refine ac ?_
  refine ao rfl ?_ ?_ <;> intro h3 <;> try simp only [bs] at h3
  ·have hq2 := h3
   refine ah (zz0 (ab rfl) (ad (aC (bj (aA (aA (bj (aA ?_))))))))
   refine aO nI rfl (fun w' hw => ?_)
   exact ⟨by rw [decide_eq_false (fun e => hq2 (by rw [e]))], hw.b0⟩
  have hq2 := h3
  refine cg (aY (ac (ar (zz0 (cE rfl rfl) ?_))))
  refine zz0 (aa rfl) (ad ?_)
  refine cF (k + 1) (Front.c Front.nil) (bD 15 rfl) (o := ⟨by omega, by rw [dw (by omega), dw (by omega), hk2, show l.getD k default = n2.getD k default by first | exact hq2 | simp_all]⟩)
 refine bF (aI (aI (bv (ac (ah (zz0 (ab rfl) (ad (aC ?_))))))))
 refine aO nI rfl (fun w' hw => ?_)
 exact ⟨by rw [decide_eq_true (show l = n2 by rw [← List.take_length (l := l), ← List.take_length (l := n2), show n2.length = l.length by omega, show l.length = k by omega]; exact hk2)], hw.b0⟩
theorem Ft (l n2 : List UInt32) (V W : Value) (w : World) (hV : Sl (hp w) au l V) (hW : Sl (hp w) au n2 W) :
  Cr Tryz.prog 113 #[V, W] w (.bool (decide (l = n2))) := by
 have hV' : Sl (Bg.of w).blk au l V := hV
 have hW' : Sl (Bg.of w).blk au n2 W := hW
 refine enter Tryz.func113 rfl Tryz.ntmps113 rfl ?_
 refine ah (zz0 (ab rfl) (aM (zz0 (aa rfl) (zz0 (aa rfl) (zz0 (aD rfl Tryz.call111 (fun w hw => xH l n2 V W w (hw.slF hV') (hw.slF hW'))) ?_)))))
 refine zz0 (ab rfl) (ad (aC ?_))
 refine aO Tryz.results113 rfl (fun w' hw => ?_)
 exact ⟨rfl, hw.b0⟩
theorem wH (l n2 : List TabV) (V W : Value) (w : World) (hV : Sl (hp w) gr l V) (hW : Sl (hp w) gr n2 W) (hI : TabIn (hp w) l) (hJ : TabIn (hp w) n2) :
  Cr Tryz.prog 112 #[V, W, .func (.func 113) #[] #[]] w (.bool (decide (l.map (·.data) = n2.map (·.data)))) := by
 have hV' : Sl (Bg.of w).blk gr l V := hV
 have hW' : Sl (Bg.of w).blk gr n2 W := hW
 have hI' : TabIn (Bg.of w).blk l := hI
 have hJ' : TabIn (Bg.of w).blk n2 := hJ
 have hlen := hV.len_le
 refine enter Tryz.func112 rfl Tryz.ntmps112 rfl ?_
 refine ah (zz0 (ab rfl) (ad (an (ah (zz0 (aa rfl) (zz0 (gK rfl dD) ?_))))))
 refine zz0 (aa rfl) (zz0 (gK rfl dD) ?_)
 refine zz0 (ff rfl rfl) (ad ?_)
 refine ao rfl ?_ ?_ <;> intro h1 <;> try simp only [bs] at h1
 ·have hq := h1
  refine ah (zz0 (ab rfl) (ad (aC (aA ?_))))
  refine aO nH rfl (fun w' hw => ?_)
  exact ⟨by rw [decide_eq_false (fun e => hq (by have := congrArg List.length e; rw [List.length_map, List.length_map] at this; rw [this]))], hw.b0⟩
 have hq := h1
 refine bA (an (ah (zz0 (aa rfl) (zz0 (gK rfl dD) ?_))))
 refine zz0 (aa rfl) (ad (aH ?_))
 refine bK (ι := Nat) (fun k => k ≤ l.length ∧ (l.map (·.data)).take k = (n2.map (·.data)).take k) (fun _ => _) (fun k => []) (fun k => [(17, .int .i64 (k : Nat))]) (fun k => l.length - k) 0 ⟨Nat.zero_le _, rfl⟩ (Front.c Front.nil) (by repeat' constructor) rfl (fun k hi m hm => ?_)
 replace hi : k ≤ l.length ∧ (l.map (·.data)).take k = (n2.map (·.data)).take k := hi
 replace hm : m = l.length - k := hm
 change Tr _ _ [] ([(17, .int .i64 (k : Nat))] ++ _) _
 obtain ⟨hk1, hk2⟩ := hi
 have hgl : ∀ q : List TabV, (q.map (·.data)).getD k default = (q.getD k default).data := fun q => by
  simp only [List.getD_eq_getElem?_getD, List.getElem?_map]
  cases q[k]? <;> rfl
 refine ah (zz0 (bT rfl rfl) (ad (an ?_)))
 refine ao rfl ?_ ?_ <;> intro h2 <;> try simp only [bs] at h2
 ·refine bA (an (aH (ah (zz0 (aa rfl) (zz0 (hZ rfl rfl dD cQ) ?_)))))
  refine zz0 (jP rfl dR) ?_
  refine zz0 (ab rfl) (zz0 (ab rfl) (aM (zz0 (aa rfl) (zz0 (aa rfl) (zz0 (hZ rfl rfl dD cQ) ?_)))))
  refine zz0 (jP rfl dR) ?_
  refine zz0 (ab rfl) (aM (zz0 (aa rfl) (zz0 (aa rfl) (zz0 (aa rfl) (zz0 (iJ rfl rfl Tryz.call113 (fun w hw => Ft (l.getD k default).data (n2.getD k default).data _ _ w (hw.slF (hI' _ (de (by omega)))) (hw.slF (hJ' _ (de (by omega)))))) ?_)))))
  refine zz0 (cp rfl) (ad ?_)
  refine ao rfl ?_ ?_ <;> intro h3 <;> try simp only [bs] at h3
  ·have hq2 := h3
   refine ah (zz0 (ab rfl) (ad (aC (bj (aA (aA (bj (aA ?_))))))))
   refine aO nH rfl (fun w' hw => ?_)
   exact ⟨by rw [decide_eq_false (fun e => hq2 (by rw [← hgl, ← hgl, e]))], hw.b0⟩
  have hq2 := h3
  refine cg (aY (ac (ar (zz0 (cE rfl rfl) ?_))))
  refine zz0 (aa rfl) (ad ?_)
  refine cF (k + 1) (Front.c Front.nil) (bD 19 rfl) (o := ⟨by omega, by rw [dw (by rw [List.length_map]; omega), dw (by rw [List.length_map]; omega), hk2, hgl, hgl, show (l.getD k default).data = (n2.getD k default).data by first | exact hq2 | simp_all]⟩)
 refine bF (aI (aI (bv (ac (ah (zz0 (ab rfl) (ad (aC ?_))))))))
 refine aO nH rfl (fun w' hw => ?_)
 exact ⟨by rw [decide_eq_true (show l.map (·.data) = n2.map (·.data) by rw [← List.take_length (l := l.map (·.data)), ← List.take_length (l := n2.map (·.data)), List.length_map, List.length_map, show n2.length = l.length by omega, show l.length = k by omega]; exact hk2)], hw.b0⟩
theorem HG (x0 x1 x2 x3 : Option Addr) (xn0 xc0 xn1 xc1 xn2 xc2 xn3 xc3 : Nat) (y0 y1 y2 y3 : Option Addr) (yn0 yc0 yn1 yc1 yn2 yc2 yn3 yc3 : Nat) (ts us : List TabV) (at_ bt_ : List UInt32) (pt pa qt qa : Option Addr) (ct ca dt da : Nat) (w : World) (h1 : Sl (hp w) gr ts (.slice pt ts.length ct)) (h2 : TabIn (hp w) ts) (h3 : Sl (hp w) au at_ (.slice pa at_.length ca)) (k1 : Sl (hp w) gr us (.slice qt us.length dt)) (k2 : TabIn (hp w) us) (k3 : Sl (hp w) au bt_ (.slice qa bt_.length da)) :
  Cr Tryz.prog 53 #[.agg #[.slice x0 xn0 xc0, .slice x1 xn1 xc1, .slice x2 xn2 xc2, .slice x3 xn3 xc3, .slice pt ts.length ct, .slice pa at_.length ca], .agg #[.slice y0 yn0 yc0, .slice y1 yn1 yc1, .slice y2 yn2 yc2, .slice y3 yn3 yc3, .slice qt us.length dt, .slice qa bt_.length da]] w (.bool (decide (at_ = bt_) && decide (ts.map (·.data) = us.map (·.data)))) := by
 have h1' : Sl (Bg.of w).blk gr ts (.slice pt ts.length ct) := h1
 have h2' : TabIn (Bg.of w).blk ts := h2
 have h3' : Sl (Bg.of w).blk au at_ (.slice pa at_.length ca) := h3
 have k1' : Sl (Bg.of w).blk gr us (.slice qt us.length dt) := k1
 have k2' : TabIn (Bg.of w).blk us := k2
 have k3' : Sl (Bg.of w).blk au bt_ (.slice qa bt_.length da) := k3
 refine enter Tryz.func53 rfl Tryz.ntmps53 rfl ?_
 refine ah ?_
 refine dq rfl rfl (fun b1 => ?_)
 refine dq rfl rfl (fun b2 => ?_)
 refine zz0 (ab rfl) (aM (zz0 (zz2 (off := 5) (ft := 31) rfl cS rfl cQ) ?_))
 refine zz0 (aG rfl dR) ?_
 refine zz0 (zz2 (off := 5) (ft := 31) rfl cS rfl cQ) ?_
 refine zz0 (aG rfl dR) ?_
 refine zz0 (aD rfl Tryz.call111 (fun w hw => xH at_ bt_ _ _ w (hw.slF h3') (hw.slF k3'))) ?_
 refine zz0 (aa rfl) ?_
 apply bQ
 ·exact (rfl : _ = (6, 10, 16))
 ·exact rfl
 ·intro hT3; have hT3' := hT3
  try simp only [bs] at hT3'
  refine zz3 hT3 (zz2 (off := 4) (ft := 53) rfl cS rfl gy) ?_
  refine zz3 hT3 (aG rfl kd) ?_
  refine zz3 hT3 (zz2 (off := 4) (ft := 53) rfl cS rfl gy) ?_
  refine zz3 hT3 (aG rfl kd) ?_
  refine zz3 hT3 (aD rfl Tryz.call112 (fun w hw => wH ts us _ _ w (hw.slF h1') (hw.slF k1') (h2'.mono hw.bg) (k2'.mono hw.bg))) ?_
  refine zz0 (aK rfl hT3 rfl) ?_
  refine ax (ac ?_)
  exact az (Sub.cons rfl (zz6 6 rfl))
 ·intro hF3
  refine zz4 hF3 (zz4 hF3 (zz4 hF3 (zz4 hF3 (zz4 hF3 (zz0 (aL rfl hF3 rfl) ?_)))))
  refine ax (ac ?_)
  exact az (Sub.cons rfl (zz6 6 rfl))
 refine zz0 (ab rfl) (ad (aC ?_))
 refine aO Tryz.results53 rfl (fun w' hw => ?_)
 exact ⟨rfl, hw.b0⟩
theorem D8 (i : Ins) (a : UInt32) (b : Nat) (w : World) (hc : Cell (hp w) b 0 (.int .u32 a.toNat)) :
  Cr Tryz.prog 158 #[.agg (aT.enc i).toArray, .pointer (some ⟨b, 0, none⟩)] w (.bool (decide (i.addr = a))) := by
 have hc' : Cell (Bg.of w).blk b 0 (.int .u32 a.toNat) := hc
 refine enter Tryz.func158 rfl Tryz.ntmps158 rfl ?_
 refine ah ?_
 refine dq rfl rfl (fun b1 => ?_)
 refine zz0 (ab rfl) (aM (zz0 (zz2 (off := 0) (ft := 23) rfl af rfl ae) ?_))
 refine zz0 (aG rfl am) ?_
 refine zz0 (oh rfl (by assumption) am) ?_
 refine zz0 (dO rfl rfl) ?_
 refine zz0 (ab rfl) (ad (aC ?_))
 refine aO Tryz.results158 rfl (fun w' hw => ?_)
 exact ⟨rfl, hw.b0⟩
theorem D6 (x y : Ins) (w : World) :
  Cr Tryz.prog 108 #[.agg (aT.enc x).toArray, .agg (aT.enc y).toArray] w (.int .i64 (l4 x y)) := by
 refine enter Tryz.func108 rfl Tryz.ntmps108 rfl ?_
 refine ah ?_
 refine dq rfl rfl (fun b1 => ?_)
 refine dq rfl rfl (fun b2 => ?_)
 refine zz0 (ab rfl) (ad (an (aH (ah (zz0 (zz2 (off := 0) (ft := 23) rfl af rfl ae) ?_)))))
 refine zz0 (aG rfl am) ?_
 refine zz0 (zz2 (off := 0) (ft := 23) rfl af rfl ae) ?_
 refine zz0 (aG rfl am) ?_
 refine zz0 (iH rfl rfl) ?_
 refine zz0 (ab rfl) (ad ?_)
 refine ao rfl ?_ ?_ <;> intro h3 <;> try simp only [bs] at h3
 ·refine ah (zz0 (ab rfl) (ad (aC (bj (aA ?_)))))
  refine aO nJ rfl (fun w' hw => ?_)
  exact ⟨by unfold l4 vU; rw [if_pos (by assumption)], hw.b0⟩
 refine ah (zz0 (zz2 (off := 0) (ft := 23) rfl af rfl ae) ?_)
 refine zz0 (aG rfl am) ?_
 refine zz0 (zz2 (off := 0) (ft := 23) rfl af rfl ae) ?_
 refine zz0 (aG rfl am) ?_
 refine zz0 (jY rfl rfl) ?_
 refine zz0 (ab rfl) (ad ?_)
 refine ao rfl ?_ ?_ <;> intro h4 <;> try simp only [bs] at h4
 ·refine ah (zz0 (ab rfl) (ad (aC (bj (aA ?_)))))
  refine aO nJ rfl (fun w' hw => ?_)
  exact ⟨by unfold l4 vU; rw [if_neg (by assumption), if_pos (by assumption)], hw.b0⟩
 refine cg (aY (ac (ah (zz0 (ab rfl) (ad (aC ?_))))))
 refine aO nJ rfl (fun w' hw => ?_)
 exact ⟨by unfold l4 vU; rw [if_neg (by assumption), if_neg (by assumption)], hw.b0⟩
theorem A6 (l : List UInt32) (V : Value) (w : World) (hr : (rowE V 23 au l).holds w) (hl : l.length ≤ 1000000) :
  Calls Tryz.prog 159 #[V] w (fun e w' => ∃ V', e = .returned V' ∧ V'.ownBlock = V.ownBlock ∧ Mut w w' V ∧ (rowE V' 23 au (fU l)).holds w') := by
 refine fS (l := l) (E := au) (T := 23) hr Tryz.func159 rfl Tryz.ntmps159 rfl ?_
 refine ah (zz0 (ab rfl) (ad (an (ah (zz0 (aa rfl) (zz0 (lz rfl al) ?_))))))
 refine zz0 (bT rfl rfl) (ad ?_)
 refine ao rfl ?_ ?_ <;> intro h1 <;> try simp only [bs] at h1
 ·refine ah (zz0 (aa rfl) (zz0 (ab rfl) (ad (aC (aA ?_)))))
  refine aO nE rfl (fun w' hw => ?_)
  have e : fU l = l := by rw [← List.take_length (l := l)]; exact l3 (Nat.le_refl _) (fun j a b => by omega)
  exact ⟨_, rfl, rfl, (HpOK.mutOwn hw (.head _) rfl).1, by rw [e]; exact (HpOK.mutOwn hw (.head _) rfl).2⟩
 refine bA (an (ah (zz0 (ab rfl) (ad (aH ?_)))))
 refine bK (ι := Nat) (fun k => 1 ≤ k ∧ k ≤ l.length ∧ ∀ j, 0 < j → j < k → l.getD j default ≠ l.getD (j - 1) default) (fun _ => _) (fun k => [rowE V 23 au l]) (fun k => [(3, .int .i64 (k : Nat))]) (fun k => l.length - k) 1 ⟨Nat.le_refl _, by omega, fun j a b => by omega⟩ (Front.c Front.nil) (by repeat' constructor) rfl (fun k hi m hm => ?_)
 replace hi : 1 ≤ k ∧ k ≤ l.length ∧ ∀ j, 0 < j → j < k → l.getD j default ≠ l.getD (j - 1) default := hi
 replace hm : m = l.length - k := hm
 change Tr _ _ [rowE V 23 au l] ([(3, .int .i64 (k : Nat))] ++ _) _
 obtain ⟨hk1, hk2, hk3⟩ := hi
 have hj : ((k : Int) - 1).toNat = k - 1 := by omega
 refine an (ah (zz0 (aa rfl) (zz0 (aa rfl) (zz0 (lz rfl al) ?_))))
 refine zz0 (bT rfl rfl) (ad ?_)
 refine ao rfl ?_ ?_ <;> intro h2 <;> try simp only [bs] at h2
 ·refine bA (an (aH (an (g9 aU ?_))))
  refine aw (aa rfl) (aw (aa rfl) (aw (zz9 rfl rfl al ae) ?_))
  refine aw (eh rfl am) ?_
  refine aw (aa rfl) (aw (aa rfl) (aw (er rfl rfl) ?_))
  refine aw (jL rfl rfl al ae) ?_
  refine aw (eh rfl am) ?_
  refine aw (dO rfl rfl) ?_
  refine bI ?_
  refine ac ?_
  refine ao rfl ?_ ?_ <;> intro h3 <;> try simp only [bs] at h3
  ·refine ah (zz0 (aa rfl) (zz0 (aa rfl) (zz0 (sB rfl (by repeat constructor) rfl al ae rfl (by omega)) ?_)))
   refine zz0 (ab rfl) (ad (an (ah (zz0 (ab rfl) (ad (aH ?_))))))
   refine bK (ι := Nat × Nat × List UInt32) (fun ⟨wi, k2, cur⟩ => (1 ≤ k2 ∧ k + k2 ≤ l.length ∧ wi < k + k2) ∧ cur.length = l.length ∧ cur.take wi = fU (l.take (k + k2)) ∧ ∀ j, k + k2 - 1 ≤ j → cur.getD j default = l.getD j default) (fun _ => _) (fun ⟨wi, k2, cur⟩ => [rowE V 23 au cur]) (fun ⟨wi, k2, cur⟩ => [(3, .int .i64 (wi : Nat)), (5, .int .i64 (k2 : Nat))]) (fun ⟨wi, k2, cur⟩ => l.length - (k + k2)) (k, 1, l) ⟨⟨Nat.le_refl _, by omega, by omega⟩, rfl, by rw [lZ (by omega) (by omega), if_pos (by rw [← hj]; assumption), l3 (by omega) hk3], fun j _ => rfl⟩ (Front.c (Front.c Front.nil)) (by repeat' constructor) rfl (fun i hi m hm => ?_)
   obtain ⟨wi, k2, cur⟩ := i
   replace hi : (1 ≤ k2 ∧ k + k2 ≤ l.length ∧ wi < k + k2) ∧ cur.length = l.length ∧ cur.take wi = fU (l.take (k + k2)) ∧ ∀ j, k + k2 - 1 ≤ j → cur.getD j default = l.getD j default := hi
   replace hm : m = l.length - (k + k2) := hm
   change Tr _ _ [rowE V 23 au cur] ([(3, .int .i64 (wi : Nat)), (5, .int .i64 (k2 : Nat))] ++ _) _
   obtain ⟨⟨hq1, hq2, hq3⟩, hq4, hq5, hq6⟩ := hi
   have hA := hq6 (k + k2) (by omega)
   have hB := hq6 (k + k2 - 1) (by omega)
   have hi1 : k + (k2 : Int).toNat = k + k2 := rfl
   have hi2 : k + ((k2 : Int) - 1).toNat = k + k2 - 1 := by omega
   refine an (ah (zz0 (aa rfl) (zz0 (aa rfl) (zz0 (CS rfl (by repeat constructor) al) ?_))))
   refine zz0 (bT rfl rfl) (ad ?_)
   refine ao rfl ?_ ?_ <;> intro h4 <;> try simp only [bs] at h4
   ·refine bA (an (aH (an (g9 aU ?_))))
    refine aw (aa rfl) (aw (aa rfl) (aw (rx rfl rfl (by repeat constructor) al ae rfl (by omega) (by omega)) ?_))
    refine aw (eh rfl am) ?_
    refine aw (aa rfl) (aw (aa rfl) (aw (er rfl rfl) ?_))
    refine aw (rx rfl rfl (by repeat constructor) al ae rfl (by omega) (by omega)) ?_
    refine aw (eh rfl am) ?_
    refine aw (ij rfl rfl) ?_
    refine bI ?_
    refine ac ?_
    refine ao rfl ?_ ?_ <;> intro h5 <;> try simp only [bs] at h5
    ·refine ah (zz0 (aa rfl) (zz0 (aa rfl) (zz0 (aa rfl) (zz0 (aa rfl) (zz0 (rx rfl rfl (by repeat constructor) al ae rfl (by omega) (by omega)) ?_)))))
     refine zz0 (eh rfl am) ?_
     refine zz0 (zz9 rfl rfl al ae) ?_
     refine gw (l := cur) (i := wi) (cur.getD (k + (k2 : Int).toNat) default) rfl rfl ae ?_
     have hls6 : (List.set cur (wi) (cur.getD (k + (k2 : Int).toNat) default)).length = (cur).length := List.length_set
     refine ad (ar (zz0 (aa rfl) (zz0 (cE rfl rfl) ?_)))
     refine zz0 (ab rfl) (ax (aY (ac (ar (zz0 (aa rfl) (zz0 (cE rfl rfl) ?_))))))
     refine zz0 (ab rfl) (ad ?_)
     rw [hi1, hi2, hA, hB] at h5
     have hcs := lZ (l := l) (k := k + k2) (by omega) (by omega)
     rw [if_neg h5, ← hq5] at hcs
     have hcm : (cur.set wi (cur.getD (k + (k2 : Int).toNat) default)).take (wi + 1) = fU (l.take (k + (k2 + 1))) := by
      rw [show k + (k2 + 1) = k + k2 + 1 by omega, hcs, dw (by rw [List.length_set]; omega), hi1, hA]
      congr 1
      ·rw [List.take_set_of_le (Nat.le_refl _)]
      ·simp [List.getD_eq_getElem?_getD, show wi < cur.length by omega]
     refine cF (wi + 1, k2 + 1, cur.set wi (cur.getD (k + (k2 : Int).toNat) default)) (Front.c (Front.c Front.nil)) (bD 29 rfl) (o := ⟨⟨by omega, by omega, by omega⟩, by rw [List.length_set]; exact hq4, hcm, fun j a => by rw [List.getD_eq_getElem?_getD, List.getElem?_set_ne (by omega), ← List.getD_eq_getElem?_getD]; exact hq6 j (by omega)⟩)
    refine cg (aY (ac (ar (zz0 (aa rfl) (zz0 (cE rfl rfl) ?_)))))
    refine zz0 (ab rfl) (ad ?_)
    rw [hi1, hi2, hA, hB] at h5
    have hcs := lZ (l := l) (k := k + k2) (by omega) (by omega)
    rw [if_pos h5, ← hq5] at hcs
    refine cF (wi, k2 + 1, cur) (Front.c (Front.c Front.nil)) (bD 19 rfl) (o := ⟨⟨by omega, by omega, by omega⟩, hq4, by rw [show k + (k2 + 1) = k + k2 + 1 by omega, hcs], fun j a => hq6 j (by omega)⟩)
   refine bF (aI (aI (bv (ac (ah (zz0 (aa rfl) (zz0 (aa rfl) (zz0 (sB rfl (by repeat constructor) rfl al ae rfl (by omega)) ?_))))))))
   refine zu 0 rfl (by repeat constructor) (by omega) al cX rfl rfl rfl ?_
   refine aM (zz0 (aa rfl) (zz0 (aa rfl) (zz0 (CN rfl (by repeat constructor) rfl al ae rfl (by rw [List.length_append, List.length_take]; omega)) ?_)))
   refine zz0 (ab rfl) (ad (aC (bj (aA (aA (bj (aA ?_)))))))
   refine aO nE rfl (fun w' hw => ?_)
   have hkn : k + k2 = l.length := by omega
   rw [hkn, List.take_length] at hq5
   have hm := HpOK.mutOwn hw (.head _) rfl
   have hh := rowE.resl0 (hw.ent _ (.head _)) (k := wi) (by rw [List.length_append, List.length_take]; omega)
   have e : (cur.take wi ++ List.replicate (cur.length - wi) (0 : UInt32)).take wi = fU l := by rw [← hq5, List.take_append_of_le_length (by rw [List.length_take]; omega), List.take_take, Nat.min_self]
   exact ⟨_, rfl, hh.2, hm.1, by rw [← e]; exact hh.1⟩
  refine cg (aY (ac (ar (zz0 (aa rfl) (zz0 (cE rfl rfl) ?_)))))
  refine zz0 (ab rfl) (ad ?_)
  have hk4 : ∀ j, 0 < j → j < k + 1 → l.getD j default ≠ l.getD (j - 1) default := fun j a b => by
   by_cases c : j = k
   ·subst c; rw [← hj]; assumption
   ·exact hk3 j a (by omega)
  refine cF (k + 1) (Front.c Front.nil) (bD 18 rfl) (o := ⟨by omega, by omega, hk4⟩)
 refine bF (aI (aI (bv (ac (ah (zz0 (aa rfl) (zz0 (ab rfl) (ad (aC ?_)))))))))
 refine aO nE rfl (fun w' hw => ?_)
 have e : fU l = l := by rw [← List.take_length (l := l)]; exact l3 (Nat.le_refl _) (fun j a b => hk3 j a (by omega))
 exact ⟨_, rfl, rfl, (HpOK.mutOwn hw (.head _) rfl).1, by rw [e]; exact (HpOK.mutOwn hw (.head _) rfl).2⟩
theorem Fy (ins : List Ins) (ents : List UInt32) (ts : List TabV) (pI p1 pu pb : Option Addr) (cI c1 nu cu nb cb : Nat) (VT : Value) (w : World) (hI : Sl (hp w) aT ins (.slice pI ins.length cI)) (hE : Sl (hp w) au ents (.slice p1 ents.length c1)) (hT : Sl (hp w) gr ts VT) (hTI : TabIn (hp w) ts) (hTB : qq ts) (hel : ents.length ≤ 700) :
  Calls Tryz.prog 106 #[.agg #[.slice pI ins.length cI, .slice p1 ents.length c1, .slice pu nu cu, .slice pb nb cb], VT] w (fun e w' => ∃ V' : Value, e = .returned V' ∧ Ext w w' ∧ iu w w' 23 au (kG ins ents (ts.map (·.data))) V') := by
 have hI' : Sl (Bg.of w).blk aT ins (.slice pI ins.length cI) := hI
 have hT' : Sl (Bg.of w).blk gr ts VT := hT
 have hls : ∀ t ∈ ((⟨ents, p1, c1⟩ : TabV) :: ts), Sl (Bg.of w).blk au t.data (.slice t.dp t.data.length t.dc) := fun t ht => by
  rcases List.mem_cons.1 ht with rfl | ht
  ·exact hE
  ·exact hTI t ht
 have hlb : ∀ t ∈ ((⟨ents, p1, c1⟩ : TabV) :: ts), t.data.length ≤ 700 := fun t ht => by
  rcases List.mem_cons.1 ht with rfl | ht
  ·exact hel
  ·have := hTB.2 t ht; omega
 have htl := hTB.1
 have hll : ((⟨ents, p1, c1⟩ : TabV) :: ts).length ≤ 701 := by have := hTB.1; rw [List.length_cons]; omega
 refine enter Tryz.func106 rfl Tryz.ntmps106 rfl ?_
 refine ah ?_
 refine dq rfl rfl (fun b1 => ?_)
 refine zz0 (ab rfl) (aM (zz0 (ab rfl) (ad (an (ah (zz0 (zz2 (off := 1) (ft := 31) rfl cL rfl cQ) ?_))))))
 refine zz0 (aG rfl dR) ?_
 refine jl (E := gr) (⟨ents, p1, c1⟩ : TabV) rfl rfl dD cQ Tryz.zeroValue31 (fun V2 => ?_)
 refine zz0 (aa rfl) ?_
 refine DK rfl rfl (by repeat constructor) (fun w hw => hw.slF (by assumption)) dD wk (fun V3 => ?_)
 refine gV (l' := ((⟨ents, p1, c1⟩ : TabV) :: ts)) rfl ?_
 refine zz0 (lz rfl dD) ?_
 refine zz0 (aa rfl) (ad (aH (cn 23 au ?_)))
 refine bK (ι := Nat × Value) (fun ⟨k, Vo⟩ => k ≤ ((⟨ents, p1, c1⟩ : TabV) :: ts).length) (fun _ => _) (fun ⟨k, Vo⟩ => [rowE Vo 23 au (lh ins ((⟨ents, p1, c1⟩ : TabV) :: ts) k 0), rowE V3 31 gr ((⟨ents, p1, c1⟩ : TabV) :: ts), cellE b1 [.slice pI ins.length cI, .slice p1 ents.length c1, .slice pu nu cu, .slice pb nb cb] 52]) (fun ⟨k, Vo⟩ => [(16, .int .i64 (k : Nat)), (5, Vo)]) (fun ⟨k, Vo⟩ => ((⟨ents, p1, c1⟩ : TabV) :: ts).length - k) (0, _) (Nat.zero_le _) (Front.c (Front.c Front.nil)) (by repeat' constructor) rfl (fun i hi m hm => ?_)
 obtain ⟨k, Vo⟩ := i
 replace hi : k ≤ ((⟨ents, p1, c1⟩ : TabV) :: ts).length := hi
 replace hm : m = ((⟨ents, p1, c1⟩ : TabV) :: ts).length - k := hm
 change Tr _ _ [rowE Vo 23 au (lh ins ((⟨ents, p1, c1⟩ : TabV) :: ts) k 0), rowE V3 31 gr ((⟨ents, p1, c1⟩ : TabV) :: ts), cellE b1 [.slice pI ins.length cI, .slice p1 ents.length c1, .slice pu nu cu, .slice pb nb cb] 52] ([(16, .int .i64 (k : Nat)), (5, Vo)] ++ _) _
 refine ah (zz0 (bT rfl rfl) (ad (an ?_)))
 refine ao rfl ?_ ?_ <;> intro h4 <;> try simp only [bs] at h4
 ·refine bA (an (aH (ah (zz0 (zz9 rfl rfl dD cQ) ?_))))
  refine zz0 (eh rfl dR) ?_
  refine zz0 (ab rfl) (ad (an ?_))
  have hkj : Sl (Bg.of w).blk au (((⟨ents, p1, c1⟩ : TabV) :: ts).getD k default).data (.slice (((⟨ents, p1, c1⟩ : TabV) :: ts).getD k default).dp (((⟨ents, p1, c1⟩ : TabV) :: ts).getD k default).data.length (((⟨ents, p1, c1⟩ : TabV) :: ts).getD k default).dc) := hls _ (de (by omega))
  have hkjb := hlb _ (de (l := ((⟨ents, p1, c1⟩ : TabV) :: ts)) (k := k) (by omega))
  have hdm : (((⟨ents, p1, c1⟩ : TabV) :: ts).map (·.data)).getD k [] = (((⟨ents, p1, c1⟩ : TabV) :: ts).getD k default).data := by
   simp only [List.getD_eq_getElem?_getD, List.getElem?_map]
   cases ((⟨ents, p1, c1⟩ : TabV) :: ts)[k]? <;> rfl
  refine ar (zz0 (aa rfl) (zz0 (gK rfl al) ?_))
  refine zz0 (aa rfl) (ad (aH ?_))
  refine bK (ι := Nat × Value) (fun ⟨j, Vo⟩ => j ≤ (((⟨ents, p1, c1⟩ : TabV) :: ts).getD k default).data.length) (fun _ => _) (fun ⟨j, Vo⟩ => [rowE Vo 23 au (lh ins ((⟨ents, p1, c1⟩ : TabV) :: ts) k j), rowE V3 31 gr ((⟨ents, p1, c1⟩ : TabV) :: ts), cellE b1 [.slice pI ins.length cI, .slice p1 ents.length c1, .slice pu nu cu, .slice pb nb cb] 52]) (fun ⟨j, Vo⟩ => [(22, .int .i64 (j : Nat)), (5, Vo)]) (fun ⟨j, Vo⟩ => (((⟨ents, p1, c1⟩ : TabV) :: ts).getD k default).data.length - j) (0, _) (Nat.zero_le _) (Front.c (Front.c Front.nil)) (by repeat' constructor) rfl (fun i hi m hm => ?_)
  obtain ⟨j, Vo⟩ := i
  replace hi : j ≤ (((⟨ents, p1, c1⟩ : TabV) :: ts).getD k default).data.length := hi
  replace hm : m = (((⟨ents, p1, c1⟩ : TabV) :: ts).getD k default).data.length - j := hm
  change Tr _ _ [rowE Vo 23 au (lh ins ((⟨ents, p1, c1⟩ : TabV) :: ts) k j), rowE V3 31 gr ((⟨ents, p1, c1⟩ : TabV) :: ts), cellE b1 [.slice pI ins.length cI, .slice p1 ents.length c1, .slice pu nu cu, .slice pb nb cb] 52] ([(22, .int .i64 (j : Nat)), (5, Vo)] ++ _) _
  have hkl := Ea (ins := ins) (k := k) (j := j) hlb (by omega)
  have hkm : (k + 1) * 700 ≤ 701 * 700 := Nat.mul_le_mul_right _ (by omega)
  refine ah (zz0 (bT rfl rfl) (ad (an ?_)))
  refine ao rfl ?_ ?_ <;> intro h5 <;> try simp only [bs] at h5
  ·refine bA (an (aH (ah (zz0 (hZ rfl rfl al ae) ?_))))
   refine zz0 (jP rfl am) ?_
   refine dB cX rfl (fun b6 => ?_)
   refine aF au rfl rfl ae ?_
   refine aM (zz0 (zz2 (off := 0) (ft := 50) rfl cL rfl dy) ?_)
   refine zz0 (aG rfl dN) ?_
   refine zz0 (fF rfl rfl) ?_
   refine zz0 (aD rfl Tryz.call86 (fun w hw => oc ins _ _ _ w (hw.slF hI') Tryz.call158 (fun i => decide (i.addr = (((⟨ents, p1, c1⟩ : TabV) :: ts).getD k default).data.getD j default)) (fun x hx w'' h => D8 x _ _ w'' (cellE.cell (hw.ent _ (by repeat constructor)) h rfl)))) ?_
   refine ad ?_
   refine ao rfl ?_ ?_ <;> intro h7 <;> try simp only [bs] at h7
   ·refine ar (zz0 (aa rfl) (zz0 (aG rfl am) ?_))
    refine jl (E := au) ((((⟨ents, p1, c1⟩ : TabV) :: ts).getD k default).data.getD j default) rfl rfl al ae cX (fun V8 => ?_)
    refine zz1 rfl rfl al eN (fun V9 => ?_)
    refine zz0 (ab rfl) (ax (aY (ac (ar (zz0 (cE rfl rfl) ?_)))))
    refine zz0 (aa rfl) (ad ?_)
    rw [← D9 (by omega) (by assumption)]
    refine cF (j + 1, _) (Front.c (Front.c Front.nil)) (bD 17 rfl) (o := (by show j + 1 ≤ _; omega))
   refine cg (aY (ac (ar (zz0 (cE rfl rfl) ?_))))
   refine zz0 (aa rfl) (ad ?_)
   rw [← Fz (by omega) (by first | assumption | simp_all)]
   refine cF (j + 1, _) (Front.c (Front.c Front.nil)) (bD 12 rfl) (o := (by show j + 1 ≤ _; omega))
  refine bF (aI (aI (bv (aY (ac (ar (zz0 (cE rfl rfl) ?_)))))))
  refine zz0 (aa rfl) (ad ?_)
  rw [BQ ins ((⟨ents, p1, c1⟩ : TabV) :: ts) (by omega) (j := j) (by rw [hdm]; omega)]
  refine cF (k + 1, _) (Front.c (Front.c Front.nil)) (bD 14 rfl) (o := (by show k + 1 ≤ _; omega))
 refine bF (aI (aI (bv (ac (an ?_)))))
 obtain rfl : k = ((⟨ents, p1, c1⟩ : TabV) :: ts).length := by omega
 rw [Eb]
 have hrl := oJ ins (ls := ((⟨ents, p1, c1⟩ : TabV) :: ts).map (·.data)) (n := 700) (fun t ht => by
  obtain ⟨r, hr, rfl⟩ := List.mem_map.1 ht
  exact hlb r hr)
 rw [List.length_map] at hrl
 have hrm : ((⟨ents, p1, c1⟩ : TabV) :: ts).length * 700 ≤ 701 * 700 := Nat.mul_le_mul_right _ hll
 refine ar (zz0 (aa rfl) (d5 rfl Tryz.call141 (by repeat constructor) (fun w hw => wZ (mo ins (((⟨ents, p1, c1⟩ : TabV) :: ts).map (·.data))).toArray _ w (hw.ent _ (.head _)) (by rw [List.size_toArray]; omega)) rfl ?_))
 rw [zU]
 refine aM (zz0 (aa rfl) ?_)
 refine wQ rfl Tryz.call159 (by repeat constructor) (fun w hw => A6 (gp (mo ins (((⟨ents, p1, c1⟩ : TabV) :: ts).map (·.data)))) _ w (hw.ent _ (.head _)) (by rw [rD]; omega)) rfl (fun V10 hV10 => ?_)
 refine zz0 (ab rfl) (ad (aC ?_))
 refine aO Tryz.results106 rfl (fun w' hw => ?_)
 exact ⟨_, rfl, hw.b0, hw.new (.head _)⟩
end Go.Proofs.YtiajjbhcpeadfaaGreat
namespace Go.Proofs.YtiajjbhcpeadfaaGreat
open Go Go.HL Go.RowKit
theorem Fw (x0 x1 x2 x3 : Option Addr) (xn0 xc0 xn1 xc1 xn2 xc2 xn3 xc3 : Nat) (l : List SecV) (pV : Option Addr) (cV : Nat) (es : List UInt32) (VE : Value) (ts : List TabV) (at_ : List UInt32) (pt pa : Option Addr) (ct ca : Nat) (w : World) (hV : Sl (hp w) cY l (.slice pV l.length cV)) (hB : SecB l) (hD : DataIn (hp w) l) (hN : ∀ s ∈ l, s.name.size ≤ 140737488351232) (hE : Sl (hp w) au es VE) (hT : Sl (hp w) gr ts (.slice pt ts.length ct)) (hTI : TabIn (hp w) ts) (hTB : qq ts) (hP : Sl (hp w) au at_ (.slice pa at_.length ca)) (ht : totD l ≤ 600) (hel : es.length ≤ 100) :
  Calls Tryz.prog 52 #[.agg #[.slice x0 xn0 xc0, .slice x1 xn1 xc1, .slice x2 xn2 xc2, .slice x3 xn3 xc3, .slice pt ts.length ct, .slice pa at_.length ca], (.slice pV l.length cV), VE] w (fun e w' => ∃ i : (Value × Value × Value × Value × Value × Value) × (CodeP × FndV × Int) × List (RV UInt32), e = .returned ((fun i : (Value × Value × Value × Value × Value × Value) × (CodeP × FndV × Int) × List (RV UInt32) => .tuple #[.agg #[i.1.1, i.1.2.1, i.1.2.2.1, i.1.2.2.2.1, i.1.2.2.2.2.1, i.1.2.2.2.2.2], .int .i64 i.2.1.2.2]) i) ∧ Below w.heap.size w w' ∧ NewEnts w w' ((fun i : (Value × Value × Value × Value × Value × Value) × (CodeP × FndV × Int) × List (RV UInt32) => rowE i.1.1 36 aT i.2.1.1.ins :: rowE i.1.2.1 23 au i.2.1.1.ents :: rowE i.1.2.2.1 23 au i.2.1.1.unk :: rowE i.1.2.2.2.1 23 au i.2.1.1.bad :: rowE i.1.2.2.2.2.1 31 dI i.2.2 :: rowE i.1.2.2.2.2.2 23 au i.2.1.2.1.at_ :: i.2.2.map (rvE 23 au)) i) ∧ (fun i : (Value × Value × Value × Value × Value × Value) × (CodeP × FndV × Int) × List (RV UInt32) => RoundIs l es ts at_ i.2.1 ∧ i.2.2.map (·.data) = i.2.1.2.1.ts) i) := by
 have hV0 : Sl (Bg.of0 w).blk cY l (.slice pV l.length cV) := hV
 have hD0 : DataIn (Bg.of0 w).blk l := hD
 have hE0 : Sl (Bg.of0 w).blk au es VE := hE
 have hT0 : Sl (Bg.of0 w).blk gr ts (.slice pt ts.length ct) := hT
 have hTI0 : TabIn (Bg.of0 w).blk ts := hTI
 have hP0 : Sl (Bg.of0 w).blk au at_ (.slice pa at_.length ca) := hP
 refine mF Tryz.func52 rfl Tryz.ntmps52 rfl ?_
 refine ah ?_
 refine dq rfl rfl (fun b1 => ?_)
 refine dB j1 rfl (fun b2 => ?_)
 refine zz0 (ab rfl) (aM (zz0 (aa rfl) (zz0 (aa rfl) (zz0 (zz2 (off := 4) (ft := 53) rfl cS rfl gy) ?_))))
 refine zz0 (aG rfl kd) ?_
 refine zz0 (zz2 (off := 5) (ft := 31) rfl cS rfl cQ) ?_
 refine zz0 (aG rfl dR) ?_
 refine eT (fun i : ((Value × Value × Value × Value) × CodeP × Int) => .tuple #[.agg #[i.1.1, i.1.2.1, i.1.2.2.1, i.1.2.2.2], .int .i64 i.2.2]) (fun i : ((Value × Value × Value × Value) × CodeP × Int) => [rowE i.1.1 36 aT i.2.1.ins, rowE i.1.2.1 23 au i.2.1.ents, rowE i.1.2.2.1 23 au i.2.1.unk, rowE i.1.2.2.2 23 au i.2.1.bad]) (ok := fun i => WalkIs l ts at_ es i.2.1 i.2.2) rfl rfl Tryz.call28 (fun w hw => walk_any l ts at_ es _ VE _ _ w (hw.slF hV0) hB (hD0.mono hw.bg) hN (hw.slF hE0) (hw.slF hT0) (hTI0.mono hw.bg) hTB (hw.slF hP0) ht hel) rfl (fun i hwk => ?_)
 obtain ⟨⟨Vi, Ve, Vu, Vb⟩, c, ew⟩ := i
 replace hwk : WalkIs l ts at_ es c ew := hwk
 have hcl := xN hTB hwk
 change Tr _ _ [rowE Vi 36 aT c.ins, rowE Ve 23 au c.ents, rowE Vu 23 au c.unk, rowE Vb 23 au c.bad, cellE b2 [.slice none 0 0, .slice none 0 0, .slice none 0 0, .slice none 0 0, .slice none 0 0, .slice none 0 0] 114, cellE b1 [.slice x0 xn0 xc0, .slice x1 xn1 xc1, .slice x2 xn2 xc2, .slice x3 xn3 xc3, .slice pt ts.length ct, .slice pa at_.length ca] 114] _ _
 refine jh (V := Vi) (fun pVi cVi hpv => ?_)
 subst hpv
 refine jh (V := Ve) (fun pVe cVe hpv => ?_)
 subst hpv
 refine jh (V := Vu) (fun pVu cVu hpv => ?_)
 subst hpv
 refine jh (V := Vb) (fun pVb cVb hpv => ?_)
 subst hpv
 refine zz0 (aa rfl) (zz0 (aQ rfl rfl) (zz0 (aQ rfl rfl) ?_))
 refine dB eZ rfl (fun b3 => ?_)
 refine zz8 rfl rfl cP ?_
 refine zz0 (ab rfl) (ad (an (ah (zz0 (aa rfl) (zz0 (ff rfl rfl) (ad ?_))))))
 refine ao rfl ?_ ?_ <;> intro h4 <;> try simp only [bs] at h4
 ·have hqw := h4
  refine an (cn 36 aT ?_)
  refine cn 23 au ?_
  refine cn 23 au ?_
  refine cn 23 au ?_
  refine cn 23 au ?_
  refine cn 31 (dI (α := UInt32)) ?_
  refine ar (zz0 (bL (vs := []) rfl rfl (sK)) ?_)
  refine zz0 (aa rfl) (zz8 rfl rfl eR ?_)
  refine zz0 (ab rfl) (ad (aC (aA ?_)))
  refine lA Tryz.results52 rfl rfl iK eR (fun w' hw => ?_)
  exact ⟨((.slice none 0 0, .slice none 0 0, .slice none 0 0, .slice none 0 0, .slice none 0 0, .slice none 0 0), (⟨[], [], [], []⟩, ⟨[], []⟩, ew), []), rfl, hw.below0 (Bg.le.refl _), hw.ents0 rfl (by repeat' (first | exact Pick.refl _ | exact Del.here _ | apply Pick.cons | apply Del.there | apply Pick.skip | exact Pick.nil _)), ⟨c, ew, hwk, by rw [if_pos hqw]⟩, rfl⟩
 have hqw : ew = 0 := by simpa using h4
 refine bA (an ?_)
 obtain ⟨R, hR⟩ : ∃ R, R = gQ c.ins c.ents c.unk c.bad := ⟨_, rfl⟩
 have hkl := xu c.ins c.ents c.unk c.bad
 rw [← hR] at hkl
 have hkI : ∀ x ∈ R.kept, InsOK x := fun x hx => uQ hwk x (Gh (by rw [← hR]; exact hx))
 have hks : R.kept.Pairwise (fun x y => En l4 y x = false) := (by rw [hR]; exact u6 c.ins c.ents c.unk c.bad : R.kept.Pairwise fun a b => ltA a b = true).imp fun {a b} q => E0.asym (by unfold En l4; unfold ltA at q; rw [decide_eq_true_eq] at q ⊢; exact (uH _ _).2 q)
 refine ar (zz0 (bC rfl gv cP) ?_)
 refine kg (fun i : (Value × Value × Value × Value × Value) => .tuple #[.agg #[i.1, i.2.1, i.2.2.1, i.2.2.2.1], i.2.2.2.2]) (fun i : (Value × Value × Value × Value × Value) => [rowE i.1 36 aT R.kept, rowE i.2.1 23 au R.ents, rowE i.2.2.1 23 au R.unk, rowE i.2.2.2.1 23 au R.bad, rowE i.2.2.2.2 23 au R.rem]) (ok := fun _ => True) rfl Tryz.call29 (fun w hw => (Ad c.ins c.ents c.unk c.bad _ _ _ _ w (hw.row (by repeat constructor)) (hw.row (by repeat constructor)) (hw.row (by repeat constructor)) (hw.row (by repeat constructor)) (uQ hwk) (by omega) (by omega) (by omega) (by omega)).mono fun e w' ⟨i, q1, q2, q3⟩ => ⟨i, q1, q2, by rw [hR]; exact q3, trivial⟩) rfl (fun i5 _ => ?_)
 obtain ⟨Ki, Ke, Ku, Kb, Kr⟩ := i5
 change Tr _ _ (rowE Ki 36 aT R.kept :: rowE Ke 23 au R.ents :: rowE Ku 23 au R.unk :: rowE Kb 23 au R.bad :: rowE Kr 23 au R.rem :: _) _ _
 refine jh (V := Ki) (fun pKi cKi hpv => ?_)
 subst hpv
 refine jh (V := Ke) (fun pKe cKe hpv => ?_)
 subst hpv
 refine jh (V := Ku) (fun pKu cKu hpv => ?_)
 subst hpv
 refine jh (V := Kb) (fun pKb cKb hpv => ?_)
 subst hpv
 refine zz0 (aa rfl) (zz0 (aQ rfl rfl) (zz0 (aQ rfl rfl) ?_))
 refine dB eZ rfl (fun b5 => ?_)
 refine zz8 rfl rfl cP ?_
 refine zz0 (ab rfl) (aM (zz0 (bC rfl gv cP) ?_))
 refine zz0 (bL (vs := [(0, _)]) (cs := #[.slice pKi R.kept.length cKi, .slice pKe R.ents.length cKe, .slice pKu R.unk.length cKu, .slice pKb R.bad.length cKb, .slice none 0 0, .slice none 0 0]) rfl rfl (by kernel_rfl)) ?_
 refine dB j1 rfl (fun b6 => ?_)
 refine zz8 rfl rfl eR ?_
 refine aM (zz0 (ab rfl) (ad (an (ah (zz0 (zz2 (off := 0) (ft := 52) rfl cS rfl cP) ?_)))))
 refine zz0 (gn (vs := [.slice pKi R.kept.length cKi, .slice pKe R.ents.length cKe, .slice pKu R.unk.length cKu, .slice pKb R.bad.length cKb]) rfl (by repeat constructor) gv cP (by rfl) (by rfl)) ?_
 refine zz0 (zz2 (off := 4) (ft := 53) rfl cS rfl gy) ?_
 refine zz0 (aG rfl kd) ?_
 refine ip rfl Tryz.call106 (fun w hw => Fy R.kept R.ents ts _ _ _ _ _ _ _ _ _ _ _ w (hw.row (by repeat constructor)) (hw.row (by repeat constructor)) (hw.slF hT0) (hTI0.mono hw.bg) hTB (by omega)) rfl (fun V7 => ?_)
 obtain ⟨rts, hrts⟩ : ∃ rts, rts = kG R.kept R.ents (ts.map (·.data)) := ⟨_, rfl⟩
 rw [← hrts]
 have hrl : rts.length ≤ 490700 := by
  rw [hrts]
  refine D7 (by omega) (fun t ht => ?_) (by rw [List.length_map]; exact hTB.1)
  obtain ⟨r, hr, rfl⟩ := List.mem_map.1 ht
  have := hTB.2 r hr; omega
 refine zz0 (lz rfl al) ?_
 refine zz0 (aa rfl) (ad (aH (cn 177 (dI (α := StV)) ?_)))
 refine bK (ι := Nat × Bg × List (RV StV) × Value) (fun ⟨k, G, ss, Vs⟩ => ((k ≤ rts.length ∧ (Bg.of0 w).le G) ∧ RvIn cO G.blk ss) ∧ ss.map (·.data) = kQ R.kept (rts.take k) ∧ mP R.kept (rts.take k) = 0) (fun ⟨k, G, ss, Vs⟩ => G) (fun ⟨k, G, ss, Vs⟩ => [rowE Vs 177 dI ss, rowE V7 23 au rts, cellE b6 [.slice pKi R.kept.length cKi, .slice pKe R.ents.length cKe, .slice pKu R.unk.length cKu, .slice pKb R.bad.length cKb, .slice none 0 0, .slice none 0 0] 114, rowE (.slice pKi R.kept.length cKi) 36 aT R.kept, rowE (.slice pKe R.ents.length cKe) 23 au R.ents, rowE (.slice pKu R.unk.length cKu) 23 au R.unk, rowE (.slice pKb R.bad.length cKb) 23 au R.bad, cellE b2 [.slice none 0 0, .slice none 0 0, .slice none 0 0, .slice none 0 0, .slice none 0 0, .slice none 0 0] 114]) (fun ⟨k, G, ss, Vs⟩ => [(56, .int .i64 (k : Nat)), (13, Vs)]) (fun ⟨k, G, ss, Vs⟩ => rts.length - k) (0, _, [], _) ⟨⟨⟨Nat.zero_le _, Bg.le.refl _⟩, fun t ht => by cases ht⟩, rfl, rfl⟩ (Front.c (Front.c Front.nil)) (by repeat' constructor) rfl (fun i hi m hm => ?_)
 obtain ⟨k, G, ss, Vs⟩ := i
 replace hi : ((k ≤ rts.length ∧ (Bg.of0 w).le G) ∧ RvIn cO G.blk ss) ∧ ss.map (·.data) = kQ R.kept (rts.take k) ∧ mP R.kept (rts.take k) = 0 := hi
 replace hm : m = rts.length - k := hm
 change Tr _ (G) [rowE Vs 177 dI ss, rowE V7 23 au rts, cellE b6 [.slice pKi R.kept.length cKi, .slice pKe R.ents.length cKe, .slice pKu R.unk.length cKu, .slice pKb R.bad.length cKb, .slice none 0 0, .slice none 0 0] 114, rowE (.slice pKi R.kept.length cKi) 36 aT R.kept, rowE (.slice pKe R.ents.length cKe) 23 au R.ents, rowE (.slice pKu R.unk.length cKu) 23 au R.unk, rowE (.slice pKb R.bad.length cKb) 23 au R.bad, cellE b2 [.slice none 0 0, .slice none 0 0, .slice none 0 0, .slice none 0 0, .slice none 0 0, .slice none 0 0] 114] ([(56, .int .i64 (k : Nat)), (13, Vs)] ++ _) _
 obtain ⟨⟨⟨hk, hG⟩, hss⟩, hks1, hks0⟩ := hi
 have hsl : ss.length = min k rts.length := by have := congrArg List.length hks1; rw [List.length_map] at this; rw [this]; unfold kQ; rw [List.length_map, List.length_take]
 refine ah (zz0 (bT rfl rfl) (ad (an ?_)))
 refine ao rfl ?_ ?_ <;> intro h8 <;> try simp only [bs] at h8
 ·refine bA (an (aH (ah (zz0 (zz9 rfl rfl al ae) ?_))))
  refine zz0 (eh rfl am) ?_
  refine zz0 (ab rfl) (aM (zz0 (zz2 (off := 0) (ft := 52) rfl cS rfl cP) ?_))
  refine zz0 (zz2 (off := 0) (ft := 50) rfl cL rfl dy) ?_
  refine zz0 (aG rfl dN) ?_
  refine zz0 (aa rfl) ?_
  refine eT (fun V : Value => .tuple #[V, .int .i64 (eO R.kept (rts.getD k default) 4096).2]) (fun V => [rowE V 37 cO (eO R.kept (rts.getD k default) 4096).1]) (ok := fun _ => True) hG.dr rfl Tryz.call107 (fun w hw => (Bh R.kept (rts.getD k default) 4096 _ w (hw.row (by repeat constructor)) hkI (by omega)).mono fun e w' ⟨V, q1, q2, q3⟩ => ⟨V, q1, q2, q3, trivial⟩) rfl (fun VA _ => ?_)
  refine zz0 (aa rfl) (zz0 (aQ rfl rfl) (zz0 (aQ rfl rfl) (zz0 (ab rfl) (zz0 (ab rfl) (ad (an (ah (zz0 (aa rfl) (zz0 (ff rfl rfl) (ad ?_))))))))))
  refine ao rfl ?_ ?_ <;> intro h9 <;> try simp only [bs] at h9
  ·have hqe := h9
   refine an (cn 36 aT ?_)
   refine cn 23 au ?_
   refine cn 23 au ?_
   refine cn 23 au ?_
   refine cn 23 au ?_
   refine cn 31 (dI (α := UInt32)) ?_
   refine ar (zz0 (bL (vs := []) rfl rfl (sK)) ?_)
   refine zz0 (aa rfl) (zz8 rfl rfl eR ?_)
   refine zz0 (ab rfl) (ad (aC (aA (bj (aA (aA (bj (aA ?_))))))))
   refine lA Tryz.results52 rfl rfl iK eR (fun w' hw => ?_)
   have h1 := tp hks0 (by omega : k < rts.length)
   have hee : mP R.kept rts = (eO R.kept (rts.getD k default) 4096).2 := by rw [AW (k := k + 1) (by rw [h1]; exact hqe), h1]
   exact ⟨((.slice none 0 0, .slice none 0 0, .slice none 0 0, .slice none 0 0, .slice none 0 0, .slice none 0 0), (⟨[], [], [], []⟩, ⟨[], []⟩, (eO R.kept (rts.getD k default) 4096).2), []), rfl, hw.below0 hG, hw.ents0 hG.lo (by repeat' (first | exact Pick.refl _ | exact Del.here _ | apply Pick.cons | apply Del.there | apply Pick.skip | exact Pick.nil _)), ⟨c, ew, hwk, by rw [if_neg (fun q => q hqw), BO hR (by rw [← hrts, hee]; exact hqe), ← hrts, hee]⟩, rfl⟩
  have hqe : (eO R.kept (rts.getD k default) 4096).2 = 0 := by simpa using h9
  refine bA ?_
  have hek : mP R.kept (rts.take (k + 1)) = 0 := by
   rw [tp hks0 (by omega)]; exact hqe
  refine jh (V := VA) (fun pA cA hpv => ?_)
  subst hpv
  refine kM (V := .slice pA (eO R.kept (rts.getD k default) 4096).1.length cA) (T := 37) (E := cO) (by repeat constructor) (fun G2 hG2 hA2 => ?_)
  refine ar (zz0 (aa rfl) (zz0 (aa rfl) ?_))
  refine jl (E := (dI (α := StV))) (⟨(eO R.kept (rts.getD k default) 4096).1, pA, cA⟩ : RV StV) rfl rfl jA eQ Tryz.zeroValue177 (fun V10 => ?_)
  refine zz1 rfl rfl jA BG (fun V11 => ?_)
  refine zz0 (ab rfl) (ax (aY (ac (ar (zz0 (cE rfl rfl) ?_)))))
  refine zz0 (aa rfl) (ad ?_)
  apply iG (k + 1, G2, ss ++ [⟨(eO R.kept (rts.getD k default) 4096).1, pA, cA⟩], _)
  ·exact rfl
  ·exact (Front.c (Front.c Front.nil))
  ·exact bD 25 rfl
  ·exact (by repeat' constructor)
  ·exact ⟨⟨⟨by omega, hG.trans hG2⟩, fun t ht => by
   rcases List.mem_append.1 ht with ht | ht
   ·exact (hss t ht).mono hG2.blk
   rw [List.mem_singleton.1 ht]; exact hA2⟩, by rw [List.map_append, hks1, zS (by omega)]; rfl, hek⟩
  exact (by (try dsimp only); omega)
 refine bF (aI (aI (bv (ac (an ?_)))))
 obtain rfl : k = rts.length := by omega
 rw [List.take_length] at hks1 hks0
 have hVG := hV0.mono hG.blk
 have hDG := hD0.mono hG.blk
 refine ar (zz0 (zz2 (off := 0) (ft := 52) rfl cS rfl cP) ?_)
 refine zz0 (zz2 (off := 0) (ft := 50) rfl cL rfl dy) ?_
 refine zz0 (aG rfl dN) ?_
 refine ip rfl Tryz.call77 (fun w hw => xO R.kept _ w (hw.row (by repeat constructor)) (by omega)) rfl (fun VC => ?_)
 refine zz0 (ab rfl) (aM (zz0 (aa rfl) ?_))
 refine ii (fun c2 => c2 = R.kept) rfl Tryz.call78 (fun w hw => (pS R.kept _ 108 [] l4 (fun _ => True) (fun _ _ _ _ _ _ => trivial) Tryz.call108 (fun x y w' _ => D6 x y w') E0 w trivial (hw.ent _ (.head _)) (by omega)).mono fun e w' ⟨q1, c2, ⟨q2, q3, q4⟩, q5, q6⟩ => ⟨q1, c2, (sO E0 _ _ q2 hks (Srt.all (by rw [q2.len]; exact q4))).symm, q5, q6⟩) rfl (fun c2 hc2 => ?_)
 subst hc2
 refine ad (an (ah (zz0 (aa rfl) (zz0 (lz rfl aR) ?_))))
 refine zz0 (aa rfl) (ad (aH (cn 31 (dI (α := UInt32)) ?_)))
 refine cn 23 au ?_
 refine bK (ι := Nat × List (RV UInt32) × List UInt32 × Value × Value) (fun ⟨k, rs, at2, Vt, Vp⟩ => k ≤ R.kept.length ∧ (⟨rs.map (·.data), at2⟩ : FndV) = (nY l R.kept (ss.map (·.data)) (R.kept.take k))) (fun _ => G) (fun ⟨k, rs, at2, Vt, Vp⟩ => (rowE VC 36 aT R.kept :: cellE b6 [.slice pKi R.kept.length cKi, .slice pKe R.ents.length cKe, .slice pKu R.unk.length cKu, .slice pKb R.bad.length cKb, Vt, Vp] 114 :: rowE Vt 31 dI rs :: rowE Vp 23 au at2 :: rowE Vs 177 dI ss :: rowE (.slice pKi R.kept.length cKi) 36 aT R.kept :: rowE (.slice pKe R.ents.length cKe) 23 au R.ents :: rowE (.slice pKu R.unk.length cKu) 23 au R.unk :: rowE (.slice pKb R.bad.length cKb) 23 au R.bad :: cellE b2 [.slice none 0 0, .slice none 0 0, .slice none 0 0, .slice none 0 0, .slice none 0 0, .slice none 0 0] 114 :: (rs.map (rvE 23 au) ++ []))) (fun ⟨k, rs, at2, Vt, Vp⟩ => [(85, .int .i64 (k : Nat))]) (fun ⟨k, rs, at2, Vt, Vp⟩ => R.kept.length - k) (0, [], [], _, _) ⟨Nat.zero_le _, rfl⟩ (Front.c Front.nil) (by repeat' (first | exact Pick.refl _ | exact Del.here _ | apply Pick.cons | apply Del.there | apply Pick.skip | exact Pick.nil _)) rfl (fun i hi m hm => ?_)
 obtain ⟨k, rs, at2, Vt, Vp⟩ := i
 replace hi : k ≤ R.kept.length ∧ (⟨rs.map (·.data), at2⟩ : FndV) = (nY l R.kept (ss.map (·.data)) (R.kept.take k)) := hi
 replace hm : m = R.kept.length - k := hm
 change Tr _ _ (rowE VC 36 aT R.kept :: cellE b6 [.slice pKi R.kept.length cKi, .slice pKe R.ents.length cKe, .slice pKu R.unk.length cKu, .slice pKb R.bad.length cKb, Vt, Vp] 114 :: rowE Vt 31 dI rs :: rowE Vp 23 au at2 :: rowE Vs 177 dI ss :: rowE (.slice pKi R.kept.length cKi) 36 aT R.kept :: rowE (.slice pKe R.ents.length cKe) 23 au R.ents :: rowE (.slice pKu R.unk.length cKu) 23 au R.unk :: rowE (.slice pKb R.bad.length cKb) 23 au R.bad :: cellE b2 [.slice none 0 0, .slice none 0 0, .slice none 0 0, .slice none 0 0, .slice none 0 0, .slice none 0 0] 114 :: (rs.map (rvE 23 au) ++ [])) ([(85, .int .i64 (k : Nat))] ++ _) _
 obtain ⟨hk, hfa⟩ := hi
 refine ah (zz0 (bT rfl rfl) (ad (an ?_)))
 refine ao rfl ?_ ?_ <;> intro h12 <;> try simp only [bs] at h12
 ·refine bA ?_
  refine dj (ι := List (RV UInt32) × List UInt32 × Value × Value) (fun ⟨rs3, at3, Vt3, Vp3⟩ => (⟨rs3.map (·.data), at3⟩ : FndV) = ln l R.kept (ss.map (·.data)) ⟨rs.map (·.data), at2⟩ (R.kept.getD k default)) (fun _ => G) (fun ⟨rs3, at3, Vt3, Vp3⟩ => (rowE VC 36 aT R.kept :: cellE b6 [.slice pKi R.kept.length cKi, .slice pKe R.ents.length cKe, .slice pKu R.unk.length cKu, .slice pKb R.bad.length cKb, Vt3, Vp3] 114 :: rowE Vt3 31 dI rs3 :: rowE Vp3 23 au at3 :: rowE Vs 177 dI ss :: rowE (.slice pKi R.kept.length cKi) 36 aT R.kept :: rowE (.slice pKe R.ents.length cKe) 23 au R.ents :: rowE (.slice pKu R.unk.length cKu) 23 au R.unk :: rowE (.slice pKb R.bad.length cKb) 23 au R.bad :: cellE b2 [.slice none 0 0, .slice none 0 0, .slice none 0 0, .slice none 0 0, .slice none 0 0, .slice none 0 0] 114 :: (rs3.map (rvE 23 au) ++ []))) (fun ⟨rs3, at3, Vt3, Vp3⟩ => []) ?_ (fun i hi => ?_)
  ·skip
   refine aH (ah (zz0 (zz9 rfl rfl aR ay) ?_))
   refine zz0 (nc rfl aS ay) ?_
   refine dB bZ rfl (fun b13 => ?_)
   refine aF aT rfl rfl ay ?_
   refine ad (an (ah (zz0 (bC rfl aS ay) ?_)))
   refine zz0 (aD rfl Tryz.call38 (fun w hw => tX (R.kept.getD k default) w (hkI _ (de (by omega))))) ?_
   refine zz0 (cp rfl) (ad ?_)
   refine ao rfl ?_ ?_ <;> intro h14 <;> try simp only [bs] at h14
   ·have hqi : qT (R.kept.getD k default) = false := h14
    refine bF (aI (bv (ac ?_)))
    refine ru (_, _, _, _) Front.nil (bD 6 rfl) (o := (by show _ = _; first | exact (qI hqi).symm | exact (qH hbk).symm | exact (qJ hbt hqt).symm | (rw [qG hqi hbt hqt]; simp)))
   have hqi : qT (R.kept.getD k default) = true := by simpa using h14
   refine cT (zz0 (bL (vs := []) rfl rfl (uj)) ?_)
   refine dB cU rfl (fun b15 => ?_)
   refine aF cO rfl rfl aV ?_
   refine zz0 (ab rfl) (ad (an (ah (zz0 (aa rfl) (zz0 (lz rfl jA) ?_)))))
   refine zz0 (aa rfl) (ad (aH ?_))
   refine bK (ι := Nat × StV × Bool) (fun ⟨q, b, kn⟩ => q ≤ ss.length ∧ (b, kn) = (tH R.kept (R.kept.getD k default).addr ((ss.map (·.data)).take q))) (fun _ => G) (fun ⟨q, b, kn⟩ => (cellE b15 (cO.enc b) 37 :: cellE b13 (aT.enc (R.kept.getD k default)) 36 :: rowE VC 36 aT R.kept :: cellE b6 [.slice pKi R.kept.length cKi, .slice pKe R.ents.length cKe, .slice pKu R.unk.length cKu, .slice pKb R.bad.length cKb, Vt, Vp] 114 :: rowE Vt 31 dI rs :: rowE Vp 23 au at2 :: rowE Vs 177 dI ss :: rowE (.slice pKi R.kept.length cKi) 36 aT R.kept :: rowE (.slice pKe R.ents.length cKe) 23 au R.ents :: rowE (.slice pKu R.unk.length cKu) 23 au R.unk :: rowE (.slice pKb R.bad.length cKb) 23 au R.bad :: cellE b2 [.slice none 0 0, .slice none 0 0, .slice none 0 0, .slice none 0 0, .slice none 0 0, .slice none 0 0] 114 :: (rs.map (rvE 23 au) ++ []))) (fun ⟨q, b, kn⟩ => [(95, .int .i64 (q : Nat)), (22, .bool kn)]) (fun ⟨q, b, kn⟩ => ss.length - q) (0, gP, false) ⟨Nat.zero_le _, rfl⟩ (Front.c (Front.c Front.nil)) (by repeat' (first | exact Pick.refl _ | exact Del.here _ | apply Pick.cons | apply Del.there | apply Pick.skip | exact Pick.nil _)) rfl (fun i hi m hm => ?_)
   obtain ⟨q, b, kn⟩ := i
   replace hi : q ≤ ss.length ∧ (b, kn) = (tH R.kept (R.kept.getD k default).addr ((ss.map (·.data)).take q)) := hi
   replace hm : m = ss.length - q := hm
   change Tr _ _ (cellE b15 (cO.enc b) 37 :: cellE b13 (aT.enc (R.kept.getD k default)) 36 :: rowE VC 36 aT R.kept :: cellE b6 [.slice pKi R.kept.length cKi, .slice pKe R.ents.length cKe, .slice pKu R.unk.length cKu, .slice pKb R.bad.length cKb, Vt, Vp] 114 :: rowE Vt 31 dI rs :: rowE Vp 23 au at2 :: rowE Vs 177 dI ss :: rowE (.slice pKi R.kept.length cKi) 36 aT R.kept :: rowE (.slice pKe R.ents.length cKe) 23 au R.ents :: rowE (.slice pKu R.unk.length cKu) 23 au R.unk :: rowE (.slice pKb R.bad.length cKb) 23 au R.bad :: cellE b2 [.slice none 0 0, .slice none 0 0, .slice none 0 0, .slice none 0 0, .slice none 0 0, .slice none 0 0] 114 :: (rs.map (rvE 23 au) ++ [])) ([(95, .int .i64 (q : Nat)), (22, .bool kn)] ++ _) _
   obtain ⟨hq, hbf⟩ := hi
   have hgd : ((ss.map (·.data))).getD q default = (ss.getD q default).data := by
    simp only [List.getD_eq_getElem?_getD, List.getElem?_map]
    cases ss[q]? <;> rfl
   refine ah (zz0 (bT rfl rfl) (ad (an ?_)))
   refine ao rfl ?_ ?_ <;> intro h16 <;> try simp only [bs] at h16
   ·refine bA (an (aH (ah (zz0 (zz9 rfl rfl jA eQ) ?_))))
    refine zz0 (eh rfl ig) ?_
    refine zz0 (ab rfl) (aM (zz0 (zz2 (off := 0) (ft := 52) rfl cS rfl cP) ?_))
    refine zz0 (zz2 (off := 0) (ft := 50) rfl cL rfl dy) ?_
    refine zz0 (aG rfl dN) ?_
    refine zz0 (aa rfl) (zz0 (zz2 (off := 0) (ft := 23) rfl af rfl ae) ?_)
    refine zz0 (aG rfl am) ?_
    refine zz0 (aD rfl Tryz.call109 (fun w hw => Cq R.kept (ss.getD q default).data (R.kept.getD k default).addr _ _ w (hw.row (by repeat constructor)) (hw.slF (hss _ (de (by omega)))))) ?_
    refine zz0 (aa rfl) (zz0 (aQ rfl rfl) (zz0 (aQ rfl rfl) ?_))
    refine dB cU rfl (fun b17 => ?_)
    refine aF cO rfl rfl aV ?_
    refine zz0 (ab rfl) (ad (an (ah (zz0 (aa rfl) (zz0 (cp rfl) (ad ?_))))))
    refine ao rfl ?_ ?_ <;> intro h18 <;> try simp only [bs] at h18
    ·have hqb : (jz R.kept (ss.getD q default).data (R.kept.getD k default).addr).2 = false := h18
     refine bF (aI (bv (ac (ar (zz0 (cE rfl rfl) ?_)))))
     refine zz0 (aa rfl) (ad ?_)
     refine pB (q + 1, b, kn) (Front.c (Front.c Front.nil)) (bD 22 rfl) (o := ⟨by omega, by rw [xU (by rw [List.length_map]; omega), ← hbf, hgd]; unfold Ir; rw [if_neg (by rw [hqb]; simp)]⟩)
    have hqb : (jz R.kept (ss.getD q default).data (R.kept.getD k default).addr).2 = true := by simpa using h18
    refine bA ?_
    refine dj (ι := StV) (fun x1 => x1 = if kn = true then jk b (jz R.kept (ss.getD q default).data (R.kept.getD k default).addr).1 8 else (jz R.kept (ss.getD q default).data (R.kept.getD k default).addr).1) (fun _ => G) (fun x1 => (cellE b17 (cO.enc x1) 37 :: cellE b15 (cO.enc b) 37 :: cellE b13 (aT.enc (R.kept.getD k default)) 36 :: rowE VC 36 aT R.kept :: cellE b6 [.slice pKi R.kept.length cKi, .slice pKe R.ents.length cKe, .slice pKu R.unk.length cKu, .slice pKb R.bad.length cKb, Vt, Vp] 114 :: rowE Vt 31 dI rs :: rowE Vp 23 au at2 :: rowE Vs 177 dI ss :: rowE (.slice pKi R.kept.length cKi) 36 aT R.kept :: rowE (.slice pKe R.ents.length cKe) 23 au R.ents :: rowE (.slice pKu R.unk.length cKu) 23 au R.unk :: rowE (.slice pKb R.bad.length cKb) 23 au R.bad :: cellE b2 [.slice none 0 0, .slice none 0 0, .slice none 0 0, .slice none 0 0, .slice none 0 0, .slice none 0 0] 114 :: (rs.map (rvE 23 au) ++ []))) (fun x1 => []) ?_ (fun x1 hi => ?_)
    ·skip
     refine ah (zz0 (aa rfl) (ad ?_))
     refine ao rfl ?_ ?_ <;> intro h19 <;> try simp only [bs] at h19
     ·have hkn : kn = true := h19
      refine ar (zz0 (bC rfl bY aV) ?_)
      refine zz0 (bC rfl bY aV) ?_
      refine zz0 (aD rfl pn (fun w hw => oQ _ _ w)) ?_
      refine aF cO rfl rfl aV ?_
      refine ad ?_
      refine ru _ Front.nil (bD 4 rfl) (o := (by show _ = _; rw [if_pos hkn]))
     have hkn : kn = false := by simpa using h19
     refine bA ?_
     refine ru _ Front.nil (bD 1 rfl) (o := (by show _ = _; rw [if_neg (by rw [hkn]; simp)]))
    skip
    replace hi : x1 = if kn = true then jk b (jz R.kept (ss.getD q default).data (R.kept.getD k default).addr).1 8 else (jz R.kept (ss.getD q default).data (R.kept.getD k default).addr).1 := hi
    change Tr _ _ (cellE b17 (cO.enc x1) 37 :: cellE b15 (cO.enc b) 37 :: cellE b13 (aT.enc (R.kept.getD k default)) 36 :: rowE VC 36 aT R.kept :: cellE b6 [.slice pKi R.kept.length cKi, .slice pKe R.ents.length cKe, .slice pKu R.unk.length cKu, .slice pKb R.bad.length cKb, Vt, Vp] 114 :: rowE Vt 31 dI rs :: rowE Vp 23 au at2 :: rowE Vs 177 dI ss :: rowE (.slice pKi R.kept.length cKi) 36 aT R.kept :: rowE (.slice pKe R.ents.length cKe) 23 au R.ents :: rowE (.slice pKu R.unk.length cKu) 23 au R.unk :: rowE (.slice pKb R.bad.length cKb) 23 au R.bad :: cellE b2 [.slice none 0 0, .slice none 0 0, .slice none 0 0, .slice none 0 0, .slice none 0 0, .slice none 0 0] 114 :: (rs.map (rvE 23 au) ++ [])) ([] ++ _) _
    have hx1 := hi
    refine ar (zz0 (bC rfl bY aV) ?_)
    refine aF cO rfl rfl aV ?_
    refine zz0 (ab rfl) (ax (aY (ac (ar (zz0 (cE rfl rfl) ?_)))))
    refine zz0 (aa rfl) (ad ?_)
    refine pB (q + 1, x1, true) (Front.c (Front.c Front.nil)) (bD 24 rfl) (o := ⟨by omega, by rw [xU (by rw [List.length_map]; omega), ← hbf, hgd]; unfold Ir; rw [if_pos hqb, hx1]; cases kn <;> rfl⟩)
   refine bF (aI (aI (bv (ac (an (an ?_))))))
   obtain rfl : q = ss.length := by omega
   have hbf2 : (b, kn) = tH R.kept (R.kept.getD k default).addr (ss.map (·.data)) := by rw [hbf, List.take_of_length_le (by rw [List.length_map]; exact Nat.le_refl _)]
   refine ar (zz0 (aa rfl) (zz0 (cp rfl) (ad ?_)))
   refine ao rfl ?_ ?_ <;> intro h20 <;> try simp only [bs] at h20
   ·have hkn : kn = false := h20
    have hbk : (b, false) = tH R.kept (R.kept.getD k default).addr (ss.map (·.data)) := by rw [← hkn]; exact hbf2
    refine bF (aI (bv (ac ?_)))
    refine ru (_, _, _, _) Front.nil (bD 17 rfl) (o := (by show _ = _; first | exact (qI hqi).symm | exact (qH hbk).symm | exact (qJ hbt hqt).symm | (rw [qG hqi hbt hqt]; simp)))
   have hkn : kn = true := by simpa using h20
   have hbt : (b, true) = tH R.kept (R.kept.getD k default).addr (ss.map (·.data)) := by rw [← hkn]; exact hbf2
   refine cT (zz0 (aa rfl) (zz0 (bC rfl aS ay) ?_))
   refine zz0 (bC rfl bY aV) ?_
   refine fh (fun V => .tuple #[V, .int .i64 (co l (R.kept.getD k default) (b.get (R.kept.getD k default).a)).2]) rfl mi (fun w hw => kE l pV cV (R.kept.getD k default) b w (hw.slF hVG) hB (hDG.mono hw.bg) hN (hkI _ (de (by omega)))) rfl (fun VJ => ?_)
   refine zz0 (aa rfl) (zz0 (aQ rfl rfl) (zz0 (aQ rfl rfl) (zz0 (ab rfl) (zz0 (ab rfl) (aM (zz0 (aa rfl) (zz0 (bh rfl rfl) (ad ?_))))))))
   refine ao rfl ?_ ?_ <;> intro h21 <;> try simp only [bs] at h21
   ·have hqt : (co l (R.kept.getD k default) (b.get (R.kept.getD k default).a)).2 = 0 := h21
    refine jh (V := VJ) (fun pJ cJ hpv => ?_)
    subst hpv
    have htl : (co l (R.kept.getD k default) (b.get (R.kept.getD k default).a)).1.length ≤ 64 := tM
    have hfl := xE l R.kept (ss.map (·.data)) (R.kept.take k)
    rw [List.length_take] at hfl
    have hrsl : rs.length = (nY l R.kept (ss.map (·.data)) (R.kept.take k)).ts.length := by rw [← hfa]; simp
    have hatl : at2.length = (nY l R.kept (ss.map (·.data)) (R.kept.take k)).at_.length := by rw [← hfa]
    refine CH (A := [cellE b15 (cO.enc b) 37, cellE b13 (aT.enc (R.kept.getD k default)) 36, rowE VC 36 aT R.kept, cellE b6 [.slice pKi R.kept.length cKi, .slice pKe R.ents.length cKe, .slice pKu R.unk.length cKu, .slice pKb R.bad.length cKb, Vt, Vp] 114, rowE Vt 31 dI rs, rowE Vp 23 au at2, rowE Vs 177 dI ss, rowE (.slice pKi R.kept.length cKi) 36 aT R.kept, rowE (.slice pKe R.ents.length cKe) 23 au R.ents, rowE (.slice pKu R.unk.length cKu) 23 au R.unk, rowE (.slice pKb R.bad.length cKb) 23 au R.bad, cellE b2 [.slice none 0 0, .slice none 0 0, .slice none 0 0, .slice none 0 0, .slice none 0 0, .slice none 0 0] 114]) (f := (rvE 23 au)) (rs := rs) (⟨(co l (R.kept.getD k default) (b.get (R.kept.getD k default).a)).1, pJ, cJ⟩ : RV UInt32) ?_
    change Tr _ _ (cellE b15 (cO.enc b) 37 :: cellE b13 (aT.enc (R.kept.getD k default)) 36 :: rowE VC 36 aT R.kept :: cellE b6 [.slice pKi R.kept.length cKi, .slice pKe R.ents.length cKe, .slice pKu R.unk.length cKu, .slice pKb R.bad.length cKb, Vt, Vp] 114 :: rowE Vt 31 dI rs :: rowE Vp 23 au at2 :: rowE Vs 177 dI ss :: rowE (.slice pKi R.kept.length cKi) 36 aT R.kept :: rowE (.slice pKe R.ents.length cKe) 23 au R.ents :: rowE (.slice pKu R.unk.length cKu) 23 au R.unk :: rowE (.slice pKb R.bad.length cKb) 23 au R.bad :: cellE b2 [.slice none 0 0, .slice none 0 0, .slice none 0 0, .slice none 0 0, .slice none 0 0, .slice none 0 0] 114 :: ((rs ++ [(⟨(co l (R.kept.getD k default) (b.get (R.kept.getD k default).a)).1, pJ, cJ⟩ : RV UInt32)]).map (rvE 23 au) ++ [])) _ _
    refine dZ ([cellE b13 (aT.enc (R.kept.getD k default)) 36]) 15 rfl aU ?_
    refine Jy 15 ?_
    repeat' (first
     | refine pC.cons ?_ ?_
     | exact pC.nil
     | (refine m6 1 ?_; refine qp rfl ?_; refine zz0 (aG rfl kd) ?_; refine uf ?_)
     | (refine m6 3 ?_; refine qp rfl ?_; refine jl (E := (dI (α := UInt32))) (⟨(co l (R.kept.getD k default) (b.get (R.kept.getD k default).a)).1, pJ, cJ⟩ : RV UInt32) rfl rfl dD cQ Tryz.zeroValue31 (fun V22 => ?_); refine uf ?_)
     | (refine m6 4 ?_; refine qp rfl ?_; refine zz1 rfl rfl dD wk (fun V23 => ?_); refine dz (.head _) (fun pz cz hpz => ?_); subst hpz; refine uf ?_)
     | (refine m6 6 ?_; refine qp rfl ?_; refine zz0 (aG rfl dR) ?_; refine uf ?_)
     | (refine m6 9 ?_; refine qp rfl ?_; refine jl (E := au) (R.kept.getD k default).addr rfl rfl al ae cX (fun V24 => ?_); refine uf ?_)
     | (refine m6 10 ?_; refine qp rfl ?_; refine zz1 rfl rfl al eN (fun V25 => ?_); refine dz (.head _) (fun py cy hpy => ?_); subst hpy; refine uf ?_)
     | (refine m6 12 ?_; refine qp rfl ?_; refine zz5 (cs' := [_, _, _, _, _, _]) rfl rfl gy rfl ?_; refine uf ?_)
     | (refine m6 14 ?_; refine qp rfl ?_; refine zz5 (cs' := [_, _, _, _, _, _]) rfl rfl cQ rfl ?_; refine uf ?_)
     | (refine gX 0 ?_; refine ud 0 rfl (by kernel_rfl) (eE (bP (bP (eE (bP dG))))) (zz2 (off := 4) (ft := 53) rfl cS rfl gy) ?_)
     | (refine gX 1 ?_; refine ud 2 rfl (by kernel_rfl) (eE (bP (bP (eE (bP dG))))) (aa rfl) ?_)
     | (refine gX 5 ?_; refine ud 5 rfl (by kernel_rfl) (eE (bP (bP (eE (bP dG))))) (zz2 (off := 5) (ft := 31) rfl cS rfl cQ) ?_)
     | (refine gX 37 ?_; refine ud 7 rfl (by kernel_rfl) (eE (bP (bP (eE (bP dG))))) (zz2 (off := 0) (ft := 23) rfl af rfl ae) ?_)
     | (refine gX 165 ?_; refine ud 8 rfl (by kernel_rfl) (eE (bP (bP (eE (bP dG))))) (aG rfl am) ?_)
     | (refine gX 511 ?_; refine ud 11 rfl (by kernel_rfl) (eE (bP (bP (eE (bP dG))))) (zz2 (off := 4) (ft := 53) rfl cS rfl gy) ?_)
     | (refine gX 8191 ?_; refine ud 13 rfl (by kernel_rfl) (eE (bP (bP (eE (bP dG))))) (zz2 (off := 5) (ft := 31) rfl cS rfl cQ) ?_)
     | (refine gX 1023 ?_; refine ud 11 rfl (by kernel_rfl) (eE (bP (bP (eE (bP dG))))) (zz2 (off := 4) (ft := 53) rfl cS rfl gy) ?_)
     | (refine gX 421 ?_; refine mO [1, 3, 6, 9] ?_)
     | (refine gX 423 ?_; refine mO [3, 6, 9] ?_)
     | (refine gX 431 ?_; refine mO [4, 6, 9] ?_)
     | (refine gX 447 ?_; refine mO [6, 9] ?_)
     | (refine gX 2559 ?_; refine mO [9] ?_)
     | (refine gX 3071 ?_; refine mO [10] ?_)
     | (refine gX 4095 ?_; refine mO [12] ?_)
     | (refine gX 16383 ?_; refine mO [14] ?_)
     | (refine gX 959 ?_; refine mO [6] ?_)
     | (refine gX 495 ?_; refine mO [4, 9] ?_)
     | (refine gX 1007 ?_; refine mO [4] ?_)
     | (refine gX 943 ?_; refine mO [4, 6] ?_)
     | (refine gX 487 ?_; refine mO [3, 9] ?_)
     | (refine gX 999 ?_; refine mO [3] ?_)
     | (refine gX 935 ?_; refine mO [3, 6] ?_)
     | (refine gX 429 ?_; refine mO [1, 6, 9] ?_)
     | (refine gX 493 ?_; refine mO [1, 9] ?_)
     | (refine gX 1005 ?_; refine mO [1] ?_)
     | (refine gX 941 ?_; refine mO [1, 6] ?_)
     | (refine gX 485 ?_; refine mO [1, 3, 9] ?_)
     | (refine gX 997 ?_; refine mO [1, 3] ?_)
     | (refine gX 933 ?_; refine mO [1, 3, 6] ?_)
     | (
      refine gX 32767 ?_
      refine Hh (by kernel_rfl) ?_
      refine aY (ac ?_)
      apply eD (_, _, _, _)
      ·exact rfl
      ·exact Front.nil
      ·exact bD 41 rfl
      ·exact (by repeat' (first | exact Pick.refl _ | exact Del.here _ | apply Pick.cons | apply Del.there | apply Pick.skip | exact Pick.nil _))
      ·exact (by show _ = _; first | exact (qI hqi).symm | exact (qH hbk).symm | exact (qJ hbt hqt).symm | (rw [qG hqi hbt hqt]; simp))
      )
     )
   have hqt : (co l (R.kept.getD k default) (b.get (R.kept.getD k default).a)).2 ≠ 0 := h21
   refine cg (aY (ac ?_))
   refine ru (_, _, _, _) Front.nil (bD 28 rfl) (o := (by show _ = _; first | exact (qI hqi).symm | exact (qH hbk).symm | exact (qJ hbt hqt).symm | (rw [qG hqi hbt hqt]; simp)))
  obtain ⟨rs3, at3, Vt3, Vp3⟩ := i
  replace hi : (⟨rs3.map (·.data), at3⟩ : FndV) = ln l R.kept (ss.map (·.data)) ⟨rs.map (·.data), at2⟩ (R.kept.getD k default) := hi
  change Tr _ _ (rowE VC 36 aT R.kept :: cellE b6 [.slice pKi R.kept.length cKi, .slice pKe R.ents.length cKe, .slice pKu R.unk.length cKu, .slice pKb R.bad.length cKb, Vt3, Vp3] 114 :: rowE Vt3 31 dI rs3 :: rowE Vp3 23 au at3 :: rowE Vs 177 dI ss :: rowE (.slice pKi R.kept.length cKi) 36 aT R.kept :: rowE (.slice pKe R.ents.length cKe) 23 au R.ents :: rowE (.slice pKu R.unk.length cKu) 23 au R.unk :: rowE (.slice pKb R.bad.length cKb) 23 au R.bad :: cellE b2 [.slice none 0 0, .slice none 0 0, .slice none 0 0, .slice none 0 0, .slice none 0 0, .slice none 0 0] 114 :: (rs3.map (rvE 23 au) ++ [])) ([] ++ _) _
  have hi3 := hi
  refine ar (zz0 (cE rfl rfl) ?_)
  refine zz0 (aa rfl) (ad ?_)
  refine pB (k + 1, rs3, at3, Vt3, Vp3) (Front.c Front.nil) (bD 4 rfl) (o := ⟨by omega, by rw [Ce (by omega), ← hfa]; exact hi3⟩)
 refine bF (aI (aI (bv (ac (an ?_)))))
 refine jh (V := Vt) (fun pVt cVt hpv => ?_)
 subst hpv
 refine jh (V := Vp) (fun pVp cVp hpv => ?_)
 subst hpv
 refine ar (zz0 (bC rfl iK eR) ?_)
 refine zz8 rfl rfl eR ?_
 refine zz0 (ab rfl) (ad (aC ?_))
 refine lA Tryz.results52 rfl rfl iK eR (fun w' hw => ?_)
 obtain rfl : k = R.kept.length := by omega
 rw [List.take_length] at hfa
 rw [List.append_nil] at hw
 exact ⟨((.slice pKi R.kept.length cKi, .slice pKe R.ents.length cKe, .slice pKu R.unk.length cKu, .slice pKb R.bad.length cKb, _, _), (⟨R.kept, R.ents, R.unk, R.bad⟩, ⟨rs.map (·.data), at2⟩, 0), rs), rfl, hw.below0 hG, hw.ents0 hG.lo (by repeat' (first | exact Pick.refl _ | exact Del.here _ | apply Pick.cons | apply Del.there | apply Pick.skip | exact Pick.nil _)), ⟨c, ew, hwk, by rw [if_neg (fun q => q hqw), D5 hR (by rw [← hrts]; exact hks0), ← hrts, ← hks1, hfa]⟩, rfl⟩
end Go.Proofs.YtiajjbhcpeadfaaGreat
namespace Go.HL
open Go
section
variable {P : Program} {Q : Exit → Act → World → Prop} {N : Nat} {F : Bg} {L : List Ent} {M : Fr}
theorem Bo {fn : Func} {R : Ending → World → Prop} {t T : TypeId} {u s r q : Tmp} {v v2 v3 : Value} {b k : Nat} {cs : List Value} (hr : fn.results = #[.cell u t, .tmp s, .tmp r, .tmp q]) (hv : look M u = some (.pointer (some ⟨b, 0, none⟩))) (hs : look M s = some v) (hs2 : look M r = some v2) (hs3 : look M q = some v3) (hm : cellE b cs T ∈ L)
  (hagg : ∀ w, (isAgg t).run P w = .ok true w) (hz : ∀ w, (sizeOf t).run P w = .ok k w) (hl : cs.length = k) (h : ∀ w, HpOK F L w → R (.returned (.tuple #[.agg cs.toArray, v, v2, v3])) w) (hD : look M mk0 = some undef := by rfl) :
  Tr N F L M (bodyPost P fn R .ret) := fun a w ha hw => ⟨ha.defers0 hD, _, by
   have h1 := ha.val u _ hv
   have h2 := ha.val s _ hs
   have h3 := ha.val r _ hs2
   have h4 := ha.val q _ hs3
   rw [Array.getD_eq_getD_getElem?] at h1 h2 h3 h4
   simp [results, hr, h1, h2, h3, h4, asAddr, pW (hw.ent _ hm) hagg hz hl], h w hw⟩
theorem HpOK.rvs {α : Type} {T : TypeId} {E : Enc α} {rs : List (RV α)} {w : World} (h : HpOK F L w) (hm : ∀ r ∈ rs, rvE T E r ∈ L) : RvIn E (HL.hp w) rs := fun r hr => rowE.sl (h.ent _ (hm r hr))
end
theorem Pick.left : ∀ (A B : List Ent), Pick (A ++ B) A
 | [], B => .nil _
 | a :: A, B => .cons (.here _) (Pick.left A B)
theorem Cy {A B C : List Ent} {N : Nat} {F : Bg} {M : Fr} {X : Act → World → Prop} (K : Tr N F (A ++ (C ++ (B ++ []))) M X) : Tr N F (A ++ (B ++ C)) M X := by
 refine qN (L' := A ++ (C ++ (B ++ []))) ?_ K
 rw [List.append_nil]
 exact List.perm_append_comm.append_left _
theorem uV (rs : List (RV UInt32)) : (rs.map lJ).map (·.data) = rs.map (·.data) := by rw [List.map_map]; rfl
theorem HC {rs : List (RV UInt32)} {L : List (List UInt32)} (h : rs.map (·.data) = L) (h1 : L.length ≤ 700) (h2 : ∀ t ∈ L, t.length ≤ 64) : qq (rs.map lJ) := by
 subst h
 rw [List.length_map] at h1
 refine ⟨by rw [List.length_map]; exact h1, fun t ht => ?_⟩
 obtain ⟨r, hr, rfl⟩ := List.mem_map.1 ht
 exact h2 r.data (List.mem_map.2 ⟨r, hr, rfl⟩)
inductive Rnds (l : List SecV) (es : List UInt32) : Nat → FndV → Prop
 | zero : Rnds l es 0 ⟨[], []⟩
 | step (n : Nat) (f : FndV) (ts : List TabV) (o : CodeP × FndV × Int) (h : Rnds l es n f) (ht : ts.map (·.data) = f.ts) (hr : RoundIs l es ts f.at_ o) (h0 : o.2.2 = 0) (hn : ¬ (o.2.1.at_ = f.at_ ∧ o.2.1.ts = f.ts)) : Rnds l es (n + 1) o.2.1
def vg : CodeP := ⟨[], [], [], []⟩
inductive ResIs (l : List SecV) (es : List UInt32) (o : CodeP × FndV × Int) : Prop
 | err (n : Nat) (f : FndV) (ts : List TabV) (o' : CodeP × FndV × Int) (h : Rnds l es n f) (hn : n < 16) (ht : ts.map (·.data) = f.ts) (hr : RoundIs l es ts f.at_ o') (h0 : o'.2.2 ≠ 0) (ho : o = (vg, ⟨[], []⟩, o'.2.2)) : ResIs l es o
 | ok (n : Nat) (f : FndV) (ts : List TabV) (o' : CodeP × FndV × Int) (h : Rnds l es n f) (hn : n < 16) (ht : ts.map (·.data) = f.ts) (hr : RoundIs l es ts f.at_ o') (h0 : o'.2.2 = 0) (hs : o'.2.1.at_ = f.at_ ∧ o'.2.1.ts = f.ts) (ho : o = o') : ResIs l es o
 | out (f : FndV) (h : Rnds l es 16 f) (ho : o = (vg, ⟨[], []⟩, 15)) : ResIs l es o
theorem RoundIs.tabs {l : List SecV} {es : List UInt32} {ts : List TabV} {at_ : List UInt32} {o : CodeP × FndV × Int} (hT : qq ts) (h : RoundIs l es ts at_ o) : (o.2.1.ts.length ≤ totD l ∧ o.2.1.at_.length ≤ totD l) ∧ ∀ t ∈ o.2.1.ts, t.length ≤ 64 := by
 obtain ⟨c, e, hw, hi⟩ := h
 split at hi
 ·subst hi; exact ⟨⟨Nat.zero_le _, Nat.zero_le _⟩, fun t ht => by cases ht⟩
 ·subst hi
  unfold sR
  split
  ·exact ⟨⟨Nat.zero_le _, Nat.zero_le _⟩, fun t ht => by cases ht⟩
  ·have h1 := (xN hT hw).1.1
   have h2 := (xu c.ins c.ents c.unk c.bad).1.1
   have h3 := xE l (gQ c.ins c.ents c.unk c.bad).kept (kQ (gQ c.ins c.ents c.unk c.bad).kept (kG (gQ c.ins c.ents c.unk c.bad).kept (gQ c.ins c.ents c.unk c.bad).ents (ts.map (·.data)))) (gQ c.ins c.ents c.unk c.bad).kept
   exact ⟨⟨Nat.le_trans h3.1 (Nat.le_trans h2 h1), Nat.le_trans h3.2 (Nat.le_trans h2 h1)⟩, EA _ _ _ _⟩
end Go.HL
namespace Go.Proofs.YtiajjbhcpeadfaaGreat
open Go Go.HL Go.RowKit
theorem BR (l : List SecV) (pV : Option Addr) (cV : Nat) (es : List UInt32) (VE : Value) (w : World) (hV : Sl (hp w) cY l (.slice pV l.length cV)) (hB : SecB l) (hD : DataIn (hp w) l) (hN : ∀ s ∈ l, s.name.size ≤ 140737488351232) (hE : Sl (hp w) au es VE) (ht : totD l ≤ 600) (hel : es.length ≤ 100) :
  Calls Tryz.prog 17 #[(.slice pV l.length cV), VE] w (fun e w' => ∃ i : (Value × Value × Value × Value × Value × Value) × (CodeP × FndV × Int) × List (RV UInt32), e = .returned ((fun i : (Value × Value × Value × Value × Value × Value) × (CodeP × FndV × Int) × List (RV UInt32) => .tuple #[.agg #[i.1.1, i.1.2.1, i.1.2.2.1, i.1.2.2.2.1], i.1.2.2.2.2.1, i.1.2.2.2.2.2, .int .i64 i.2.1.2.2]) i) ∧ Below w.heap.size w w' ∧ NewEnts w w' ((fun i : (Value × Value × Value × Value × Value × Value) × (CodeP × FndV × Int) × List (RV UInt32) => rowE i.1.1 36 aT i.2.1.1.ins :: rowE i.1.2.1 23 au i.2.1.1.ents :: rowE i.1.2.2.1 23 au i.2.1.1.unk :: rowE i.1.2.2.2.1 23 au i.2.1.1.bad :: rowE i.1.2.2.2.2.1 31 dI i.2.2 :: rowE i.1.2.2.2.2.2 23 au i.2.1.2.1.at_ :: i.2.2.map (rvE 23 au)) i) ∧ (fun i : (Value × Value × Value × Value × Value × Value) × (CodeP × FndV × Int) × List (RV UInt32) => ResIs l es i.2.1 ∧ i.2.2.map (·.data) = i.2.1.2.1.ts) i) := by
 have hV0 : Sl (Bg.of0 w).blk cY l (.slice pV l.length cV) := hV
 have hD0 : DataIn (Bg.of0 w).blk l := hD
 have hE0 : Sl (Bg.of0 w).blk au es VE := hE
 refine mF Tryz.func17 rfl Tryz.ntmps17 rfl ?_
 refine ah ?_
 refine dB eZ rfl (fun b1 => ?_)
 refine zz0 (ab rfl) (zz0 (ab rfl) (zz0 (ab rfl) (ad (sw (ah ?_)))))
 refine dB j1 rfl (fun b2 => ?_)
 refine aM (zz0 (ab rfl) (ad (an (sy ?_))))
 refine ac ?_
 refine dj (ι := Bg × Int) (fun ⟨G9, e9⟩ => (Bg.of0 w).le G9 ∧ ResIs l es (vg, ⟨[], []⟩, e9)) (fun ⟨G9, e9⟩ => G9) (fun ⟨G9, e9⟩ => [cellE b1 [.slice none 0 0, .slice none 0 0, .slice none 0 0, .slice none 0 0] 52]) (fun ⟨G9, e9⟩ => [(9, .int .i64 e9)]) ?_ (fun i hi => ?_)
 ·skip
  refine ah (zz0 (aa rfl) (ad (aH ?_)))
  refine bK (ι := Nat × Bg × ((Option Addr × Nat × Nat) × (Option Addr × Nat × Nat) × (Option Addr × Nat × Nat) × (Option Addr × Nat × Nat)) × (List TabV × Option Addr × Nat) × (List UInt32 × Option Addr × Nat)) (fun ⟨k, G, ⟨⟨x0, xn0, xc0⟩, ⟨x1, xn1, xc1⟩, ⟨x2, xn2, xc2⟩, ⟨x3, xn3, xc3⟩⟩, ⟨ts, pt, ct⟩, ⟨at_, pa, ca⟩⟩ => ((k ≤ 16 ∧ (Bg.of0 w).le G) ∧ qq ts) ∧ (Sl G.blk gr ts (.slice pt ts.length ct) ∧ TabIn G.blk ts ∧ Sl G.blk au at_ (.slice pa at_.length ca)) ∧ Rnds l es k ⟨ts.map (·.data), at_⟩) (fun ⟨k, G, ⟨⟨x0, xn0, xc0⟩, ⟨x1, xn1, xc1⟩, ⟨x2, xn2, xc2⟩, ⟨x3, xn3, xc3⟩⟩, ⟨ts, pt, ct⟩, ⟨at_, pa, ca⟩⟩ => G) (fun ⟨k, G, ⟨⟨x0, xn0, xc0⟩, ⟨x1, xn1, xc1⟩, ⟨x2, xn2, xc2⟩, ⟨x3, xn3, xc3⟩⟩, ⟨ts, pt, ct⟩, ⟨at_, pa, ca⟩⟩ => [cellE b2 [.slice x0 xn0 xc0, .slice x1 xn1 xc1, .slice x2 xn2 xc2, .slice x3 xn3 xc3, .slice pt ts.length ct, .slice pa at_.length ca] 114, cellE b1 [.slice none 0 0, .slice none 0 0, .slice none 0 0, .slice none 0 0] 52]) (fun ⟨k, G, ⟨⟨x0, xn0, xc0⟩, ⟨x1, xn1, xc1⟩, ⟨x2, xn2, xc2⟩, ⟨x3, xn3, xc3⟩⟩, ⟨ts, pt, ct⟩, ⟨at_, pa, ca⟩⟩ => [(12, .int .i64 (k : Nat))]) (fun ⟨k, G, ⟨⟨x0, xn0, xc0⟩, ⟨x1, xn1, xc1⟩, ⟨x2, xn2, xc2⟩, ⟨x3, xn3, xc3⟩⟩, ⟨ts, pt, ct⟩, ⟨at_, pa, ca⟩⟩ => 16 - k) (0, _, ((none, 0, 0), (none, 0, 0), (none, 0, 0), (none, 0, 0)), ([], none, 0), ([], none, 0)) ⟨⟨⟨Nat.zero_le _, Bg.le.refl _⟩, ⟨Nat.zero_le _, (fun t ht => by cases ht)⟩⟩, ⟨Sl.nil _ _, (fun t ht => by cases ht), Sl.nil _ _⟩, .zero⟩ (Front.c Front.nil) (by repeat' constructor) rfl (fun i hi m hm => ?_)
  obtain ⟨k, G, ⟨⟨x0, xn0, xc0⟩, ⟨x1, xn1, xc1⟩, ⟨x2, xn2, xc2⟩, ⟨x3, xn3, xc3⟩⟩, ⟨ts, pt, ct⟩, ⟨at_, pa, ca⟩⟩ := i
  replace hi : ((k ≤ 16 ∧ (Bg.of0 w).le G) ∧ qq ts) ∧ (Sl G.blk gr ts (.slice pt ts.length ct) ∧ TabIn G.blk ts ∧ Sl G.blk au at_ (.slice pa at_.length ca)) ∧ Rnds l es k ⟨ts.map (·.data), at_⟩ := hi
  replace hm : m = 16 - k := hm
  change Tr _ (G) [cellE b2 [.slice x0 xn0 xc0, .slice x1 xn1 xc1, .slice x2 xn2 xc2, .slice x3 xn3 xc3, .slice pt ts.length ct, .slice pa at_.length ca] 114, cellE b1 [.slice none 0 0, .slice none 0 0, .slice none 0 0, .slice none 0 0] 52] ([(12, .int .i64 (k : Nat))] ++ _) _
  obtain ⟨⟨⟨hk, hG⟩, hTB⟩, ⟨hT, hTI, hP⟩, hRn⟩ := hi
  refine ah (zz0 (bT rfl rfl) (ad (an ?_)))
  refine ao rfl ?_ ?_ <;> intro h3 <;> try simp only [bs] at h3
  ·refine bA (an (aH (ah (zz0 (bC rfl iK eR) ?_))))
   refine zz0 (aa rfl) (zz0 (aa rfl) ?_)
   refine eT (fun i : (Value × Value × Value × Value × Value × Value) × (CodeP × FndV × Int) × List (RV UInt32) => .tuple #[.agg #[i.1.1, i.1.2.1, i.1.2.2.1, i.1.2.2.2.1, i.1.2.2.2.2.1, i.1.2.2.2.2.2], .int .i64 i.2.1.2.2]) (fun i : (Value × Value × Value × Value × Value × Value) × (CodeP × FndV × Int) × List (RV UInt32) => rowE i.1.1 36 aT i.2.1.1.ins :: rowE i.1.2.1 23 au i.2.1.1.ents :: rowE i.1.2.2.1 23 au i.2.1.1.unk :: rowE i.1.2.2.2.1 23 au i.2.1.1.bad :: rowE i.1.2.2.2.2.1 31 dI i.2.2 :: rowE i.1.2.2.2.2.2 23 au i.2.1.2.1.at_ :: i.2.2.map (rvE 23 au)) (ok := fun i : (Value × Value × Value × Value × Value × Value) × (CodeP × FndV × Int) × List (RV UInt32) => RoundIs l es ts at_ i.2.1 ∧ i.2.2.map (·.data) = i.2.1.2.1.ts) hG.dr rfl Tryz.call52 (fun w hw => Fw _ _ _ _ _ _ _ _ _ _ _ _ l pV cV es VE ts at_ _ _ _ _ w ((hw.slF (hV0.mono hG.blk))) hB ((hD0.mono hG.blk).mono hw.bg) hN (hw.slF (hE0.mono hG.blk)) (hw.slF hT) (hTI.mono hw.bg) hTB (hw.slF hP) ht hel) rfl (fun i hri => ?_)
   obtain ⟨⟨Wi, We, Wu, Wb, Wt, Wp⟩, o, rs⟩ := i
   obtain ⟨hro, hrs⟩ : RoundIs l es ts at_ o ∧ rs.map (·.data) = o.2.1.ts := hri
   change Tr _ _ (rowE Wi 36 aT o.1.ins :: rowE We 23 au o.1.ents :: rowE Wu 23 au o.1.unk :: rowE Wb 23 au o.1.bad :: rowE Wt 31 dI rs :: rowE Wp 23 au o.2.1.at_ :: (rs.map (rvE 23 au) ++ _)) _ _
   refine jh (V := Wi) (fun pWi cWi hpv => ?_)
   subst hpv
   refine jh (V := We) (fun pWe cWe hpv => ?_)
   subst hpv
   refine jh (V := Wu) (fun pWu cWu hpv => ?_)
   subst hpv
   refine jh (V := Wb) (fun pWb cWb hpv => ?_)
   subst hpv
   refine jh (V := Wt) (fun pWt cWt hpv => ?_)
   subst hpv
   refine jh (V := Wp) (fun pWp cWp hpv => ?_)
   subst hpv
   have hml : rs.length = (rs.map lJ).length := (List.length_map _).symm
   rw [hml]
   refine Cy (A := [rowE (.slice pWi o.1.ins.length cWi) 36 aT o.1.ins, rowE (.slice pWe o.1.ents.length cWe) 23 au o.1.ents, rowE (.slice pWu o.1.unk.length cWu) 23 au o.1.unk, rowE (.slice pWb o.1.bad.length cWb) 23 au o.1.bad, rowE (.slice pWt (rs.map lJ).length cWt) 31 dI rs, rowE (.slice pWp o.2.1.at_.length cWp) 23 au o.2.1.at_]) (B := rs.map (rvE 23 au)) (C := [cellE b2 [.slice x0 xn0 xc0, .slice x1 xn1 xc1, .slice x2 xn2 xc2, .slice x3 xn3 xc3, .slice pt ts.length ct, .slice pa at_.length ca] 114, cellE b1 [.slice none 0 0, .slice none 0 0, .slice none 0 0, .slice none 0 0] 52]) ?_
   change Tr _ _ (rowE (.slice pWi o.1.ins.length cWi) 36 aT o.1.ins :: rowE (.slice pWe o.1.ents.length cWe) 23 au o.1.ents :: rowE (.slice pWu o.1.unk.length cWu) 23 au o.1.unk :: rowE (.slice pWb o.1.bad.length cWb) 23 au o.1.bad :: rowE (.slice pWt (rs.map lJ).length cWt) 31 dI rs :: rowE (.slice pWp o.2.1.at_.length cWp) 23 au o.2.1.at_ :: cellE b2 [.slice x0 xn0 xc0, .slice x1 xn1 xc1, .slice x2 xn2 xc2, .slice x3 xn3 xc3, .slice pt ts.length ct, .slice pa at_.length ca] 114 :: cellE b1 [.slice none 0 0, .slice none 0 0, .slice none 0 0, .slice none 0 0] 52 :: (rs.map (rvE 23 au) ++ [])) _ _
   refine zz0 (aa rfl) (zz0 (aQ rfl rfl) (zz0 (aQ rfl rfl) ?_))
   refine dB j1 rfl (fun b4 => ?_)
   refine zz8 rfl rfl eR ?_
   refine zz0 (ab rfl) (ad (an (ah (zz0 (aa rfl) (zz0 (ff rfl rfl) (ad ?_))))))
   refine ao rfl ?_ ?_ <;> intro h5 <;> try simp only [bs] at h5
   ·have hqq : o.2.2 ≠ 0 := h5
    refine ah (zz0 (aa rfl) (zz0 (ab rfl) (ad (bF (aI (jI rfl ?_))))))
    refine aI (aI (bv (ac ?_)))
    refine ru (_, o.2.2) (Front.c Front.nil) (bD 16 rfl) (o := ⟨hG, .err k _ ts o hRn (by omega) rfl hro hqq rfl⟩)
   have hqq : o.2.2 = 0 := by simpa using h5
   refine bA (an (ah (zz0 (bC rfl iK eR) ?_)))
   refine zz0 (bC rfl iK eR) ?_
   refine zz0 (aD rfl Tryz.call53 (fun w hw => HG _ _ _ _ _ _ _ _ _ _ _ _ _ _ _ _ _ _ _ _ _ _ _ _ (rs.map lJ) ts o.2.1.at_ at_ _ _ _ _ _ _ _ _ w (Fb (hw.row (by repeat constructor))) (Fc (hw.rvs (T := 23) (fun r hr => by repeat (first | exact List.mem_append_left _ (List.mem_map.2 ⟨r, hr, rfl⟩) | apply List.Mem.tail)))) (hw.row (by repeat constructor)) (hw.slF hT) (hTI.mono hw.bg) (hw.slF hP))) ?_
   refine ad ?_
   refine ao rfl ?_ ?_ <;> intro h6 <;> try simp only [bs] at h6
   ·have hsm := h6
    refine an (dZ ([cellE b4 [.slice pWi o.1.ins.length cWi, .slice pWe o.1.ents.length cWe, .slice pWu o.1.unk.length cWu, .slice pWb o.1.bad.length cWb, .slice pWt (rs.map lJ).length cWt, .slice pWp o.2.1.at_.length cWp] 114]) 10 rfl aU ?_)
    refine zz7 0 rfl (zz2 (off := 0) (ft := 52) rfl cS rfl cP) ?_
    refine kw 1 rfl (by kernel_rfl) (bP (bP (eE (bP (bP (eE (bP (j6 dG)))))))) (gn (vs := [.slice pWi o.1.ins.length cWi, .slice pWe o.1.ents.length cWe, .slice pWu o.1.unk.length cWu, .slice pWb o.1.bad.length cWb]) rfl (by repeat constructor) gv cP (by rfl) (by rfl)) ?_
    refine zz7 2 rfl (zz2 (off := 4) (ft := 53) rfl cS rfl gy) ?_
    refine zz7 3 rfl (aG rfl kd) ?_
    refine zz7 4 rfl (zz2 (off := 5) (ft := 31) rfl cS rfl cQ) ?_
    refine zz7 5 rfl (aG rfl dR) ?_
    refine dA [6] (fun iq hq => ?_)
    obtain rfl := List.mem_singleton.1 hq
    refine bJ rfl ?_
    refine zz8 rfl rfl cP ?_
    refine cj ?_
    refine zz7 7 rfl (ab rfl) ?_
    refine zz7 8 rfl (ab rfl) ?_
    refine zz7 9 rfl (ab rfl) ?_
    refine jg ?_
    refine ac (aC (aA (bj (aA (aA (bj (aA (f9 ?_))))))))
    refine Bo Tryz.results17 rfl rfl rfl rfl (by repeat constructor) gv cP (by rfl) (fun w' hw => ?_)
    exact ⟨(((.slice pWi o.1.ins.length cWi), (.slice pWe o.1.ents.length cWe), (.slice pWu o.1.unk.length cWu), (.slice pWb o.1.bad.length cWb), (.slice pWt (rs.map lJ).length cWt), (.slice pWp o.2.1.at_.length cWp)), o, rs), (by show _ = Ending.returned (Value.tuple #[_, _, _, Value.int .i64 o.2.2]); rw [hqq]; rfl), hw.below0 hG, hw.ents0 hG.lo (by repeat' (first | exact Pick.refl _ | exact Pick.left _ _ | exact Del.here _ | apply Pick.cons | apply Del.there | apply Pick.skip | exact Pick.nil _)), .ok k _ ts o hRn (by omega) rfl hro hqq ⟨hsm.1, by rw [← hrs, ← uV]; exact hsm.2⟩ rfl, hrs⟩
   have hsm := h6
   refine bA ?_
   have hne : ¬ (o.2.1.at_ = at_ ∧ o.2.1.ts = ts.map (·.data)) := fun q => by
    rcases hsm with h | h
    ·exact h q.1
    ·exact h (by rw [uV, hrs]; exact q.2)
   have htb := hro.tabs hTB
   have hTB9 := HC hrs (by omega) htb.2
   refine pp (A := [cellE b4 [.slice pWi o.1.ins.length cWi, .slice pWe o.1.ents.length cWe, .slice pWu o.1.unk.length cWu, .slice pWb o.1.bad.length cWb, .slice pWt (rs.map lJ).length cWt, .slice pWp o.2.1.at_.length cWp] 114, rowE (.slice pWi o.1.ins.length cWi) 36 aT o.1.ins, rowE (.slice pWe o.1.ents.length cWe) 23 au o.1.ents, rowE (.slice pWu o.1.unk.length cWu) 23 au o.1.unk, rowE (.slice pWb o.1.bad.length cWb) 23 au o.1.bad, rowE (.slice pWt (rs.map lJ).length cWt) 31 dI rs, rowE (.slice pWp o.2.1.at_.length cWp) 23 au o.2.1.at_, cellE b2 [.slice x0 xn0 xc0, .slice x1 xn1 xc1, .slice x2 xn2 xc2, .slice x3 xn3 xc3, .slice pt ts.length ct, .slice pa at_.length ca] 114, cellE b1 [.slice none 0 0, .slice none 0 0, .slice none 0 0, .slice none 0 0] 52]) rs (fun F6 hF6 hI6 => ?_)
   change Tr _ _ [cellE b4 [.slice pWi o.1.ins.length cWi, .slice pWe o.1.ents.length cWe, .slice pWu o.1.unk.length cWu, .slice pWb o.1.bad.length cWb, .slice pWt (rs.map lJ).length cWt, .slice pWp o.2.1.at_.length cWp] 114, rowE (.slice pWi o.1.ins.length cWi) 36 aT o.1.ins, rowE (.slice pWe o.1.ents.length cWe) 23 au o.1.ents, rowE (.slice pWu o.1.unk.length cWu) 23 au o.1.unk, rowE (.slice pWb o.1.bad.length cWb) 23 au o.1.bad, rowE (.slice pWt (rs.map lJ).length cWt) 31 dI rs, rowE (.slice pWp o.2.1.at_.length cWp) 23 au o.2.1.at_, cellE b2 [.slice x0 xn0 xc0, .slice x1 xn1 xc1, .slice x2 xn2 xc2, .slice x3 xn3 xc3, .slice pt ts.length ct, .slice pa at_.length ca] 114, cellE b1 [.slice none 0 0, .slice none 0 0, .slice none 0 0, .slice none 0 0] 52] _ _
   refine kM (V := .slice pWt (rs.map lJ).length cWt) (T := 31) (E := dI) (l := rs) (by repeat constructor) (fun F7 hF7 hT7 => ?_)
   refine kM (V := .slice pWp o.2.1.at_.length cWp) (T := 23) (E := au) (l := o.2.1.at_) (by repeat constructor) (fun F9 hF9 hP9 => ?_)
   have hF59 := hF6.trans (hF7.trans hF9)
   refine ar (zz0 (bC rfl iK eR) ?_)
   refine zz8 rfl rfl eR ?_
   refine ax (aY (ac (ar (zz0 (cE rfl rfl) ?_))))
   refine zz0 (aa rfl) (ad ?_)
   refine cF (k + 1, F9, ((_, _, _), (_, _, _), (_, _, _), (_, _, _)), (rs.map lJ, pWt, cWt), (o.2.1.at_, pWp, cWp)) (Front.c Front.nil) (bD 19 rfl) (o := ⟨⟨⟨by omega, hG.trans hF59⟩, hTB9⟩, ⟨Fb (hT7.mono hF9.blk), Fc (hI6.mono (hF7.trans hF9).blk), hP9⟩, by rw [uV, hrs]; exact Rnds.step k _ ts o hRn rfl hro hqq hne⟩)
  refine bF (aI (aI (bv (ac ?_))))
  refine ru (_, 15) (Front.c Front.nil) (bD 3 rfl) (o := ⟨hG, .out ⟨ts.map (·.data), at_⟩ (by have e : k = 16 := (by omega); subst e; exact hRn) rfl⟩)
 obtain ⟨G9, e9⟩ := i
 replace hi : (Bg.of0 w).le G9 ∧ ResIs l es (vg, ⟨[], []⟩, e9) := hi
 change Tr _ _ [cellE b1 [.slice none 0 0, .slice none 0 0, .slice none 0 0, .slice none 0 0] 52] ([(9, .int .i64 e9)] ++ _) _
 obtain ⟨hG9, hrr⟩ := hi
 refine an (cn 36 aT ?_)
 refine cn 23 au ?_
 refine cn 23 au ?_
 refine cn 23 au ?_
 refine cn 23 au ?_
 refine cn 31 (dI (α := UInt32)) ?_
 refine ar (zz0 (bL (vs := []) rfl rfl (qA)) ?_)
 refine zz0 (aa rfl) (zz8 rfl rfl cP ?_)
 refine zz0 (ab rfl) (zz0 (ab rfl) (zz0 (ab rfl) (ad (aC (f9 ?_)))))
 refine Bo Tryz.results17 rfl rfl rfl rfl (by repeat constructor) gv cP (by rfl) (fun w' hw => ?_)
 exact ⟨((.slice none 0 0, .slice none 0 0, .slice none 0 0, .slice none 0 0, .slice none 0 0, .slice none 0 0), (vg, ⟨[], []⟩, e9), []), rfl, hw.below0 hG9, hw.ents0 hG9.lo (by repeat' (first | exact Pick.refl _ | exact Pick.left _ _ | exact Del.here _ | apply Pick.cons | apply Del.there | apply Pick.skip | exact Pick.nil _)), hrr, rfl⟩
end Go.Proofs.YtiajjbhcpeadfaaGreat
namespace Go.HL
open Go Go.Sort
open Go.Proofs (ltOf)
def B8 (x : UInt32) : List UInt32 → List UInt32
 | [] => [x]
 | y :: t => if x ≤ y then x :: y :: t else y :: B8 x t
def yN : List UInt32 → List UInt32
 | [] => []
 | x :: t => B8 x (yN t)
theorem tg (x : UInt32) : ∀ l, (B8 x l).Perm (x :: l)
 | [] => .refl _
 | y :: t => by
  unfold B8
  split
  ·exact .refl _
  ·exact ((tg x t).cons y).trans (.swap x y t)
theorem tV (x : UInt32) : ∀ l : List UInt32, l.Pairwise (fun a b => a ≤ b) → (B8 x l).Pairwise (fun a b => a ≤ b)
 | [], _ => by simp [B8]
 | y :: t, h => by
  unfold B8
  rw [List.pairwise_cons] at h
  split
  ·rename_i q
   rw [List.pairwise_cons]
   refine ⟨fun z hz => ?_, List.pairwise_cons.2 h⟩
   rcases List.mem_cons.1 hz with rfl | hz
   ·exact q
   ·have := h.1 z hz
    rw [UInt32.le_iff_toNat_le] at *; omega
  ·rename_i q
   rw [List.pairwise_cons]
   refine ⟨fun z hz => ?_, tV x t h.2⟩
   rcases List.mem_cons.1 ((tg x t).mem_iff.1 hz) with rfl | hz
   ·rw [UInt32.le_iff_toNat_le] at *; omega
   ·exact h.1 z hz
theorem nX : ∀ l, gp l = yN l := by
 have h1 : ∀ l, (yN l).Perm l := by
  intro l
  induction l with
  | nil => exact .refl _
  | cons x t ih => exact (tg x _).trans (ih.cons x)
 have h2 : ∀ l, (yN l).Pairwise (fun a b => a ≤ b) := by
  intro l
  induction l with
  | nil => exact .nil
  | cons x t ih => exact tV x _ ih
 exact fun l => sP ((mc l).trans (h1 l).symm) (mQ l) (h2 l)
def yp (es : List UInt32) : DSt := ⟨[], [], gR [] es, [], es⟩
def IJ (l : List SecV) (ts : List TabV) (at_ : List UInt32) (s : DSt) (a : UInt32) (r : List UInt32) : DSt :=
 if ((dP s.ins a).isSome || (dP s.bad a).getD false) = true then ⟨s.ins, s.bad, s.ents, s.unk, r⟩
 else if (atP l a).2 = true then stepD l ts at_ a s r else ⟨s.ins, fw s.bad a true, s.ents, s.unk, r⟩
def uR (l : List SecV) (ts : List TabV) (at_ : List UInt32) : Nat → DSt → DSt
 | 0, s => s
 | n + 1, s => match s.rest with
  | [] => s
  | x :: t => uR l ts at_ n (IJ l ts at_ s ((x :: t).getLast (by simp)) (x :: t).dropLast)
theorem wS {l : List SecV} {ts : List TabV} {at_ es : List UInt32} (hT : qq ts) : ∀ (n : Nat) (s : DSt), DInv l ts at_ es s → DInv l ts at_ es (uR l ts at_ n s)
 | 0, s, h => h
 | n + 1, s, h => by
  unfold uR
  split
  ·exact h
  ·rename_i x t hr
   refine wS hT n _ ?_
   have hr' : s.rest = (x :: t).dropLast ++ [(x :: t).getLast (by simp)] := by rw [hr, List.dropLast_concat_getLast]
   unfold IJ
   split
   ·rename_i q
    rw [Bool.or_eq_true] at q
    exact h.skip hr' (zV q)
   ·rename_i q
    rw [Bool.not_eq_true, Bool.or_eq_false_iff] at q
    split
    ·rename_i q2
     exact h.found hT hr' q2 (C2 q)
    ·rename_i q2
     exact h.isBad hr' (by simpa using q2)
def GR (s : DSt) : CodeP := ⟨(yN (s.ins.map (·.1))).map fun a => (dP s.ins a).getD cG, (yN (s.ents.map (·.1))).filter fun a => (dP s.ins a).isSome, yN (s.unk.map (·.1)), yN (s.bad.map (·.1))⟩
theorem DR {l : List SecV} {ts : List TabV} {at_ es : List UInt32} {c : CodeP} {e : Int} (hT : qq ts) (h : WalkIs l ts at_ es c e) (hl : ts.length = at_.length) (hc : gh l = 0) {n : Nat} (hr : (uR l ts at_ n (yp es)).rest = []) :
  c = GR (uR l ts at_ n (yp es)) ∧ e = 0 := by
 have hi := wS hT n _ (DInv.begin (l := l) (ts := ts) (at_ := at_) (es := es))
 have hk := hi.code hr
 cases h with
 | arg h => exact absurd hl h
 | chk h h1 => exact absurd hc h1
 | ok h h1 he hcc =>
  refine ⟨(hcc.eq hk (fun a => Iff.rfl) (fun a => Iff.rfl)).trans ?_, he⟩
  unfold GR
  rw [nX, nX, nX, nX]
  congr 1
  refine List.map_congr_left fun a ha => ?_
  have hm : a ∈ (uR l ts at_ n (yp es)).ins.map (·.1) := by
   rw [← nX, nV] at ha; exact ha
  obtain ⟨x, hx⟩ := oM hm
  rw [hx, (hi.ins a x hx).2.2]; rfl
def apartB : List Ins → Bool
 | [] => true
 | a :: t => (match t with
  | [] => true
  | b :: _ => decide (a.addr < b.addr) && decide (vP a ≤ (b.addr.toNat : Int))) && apartB t
theorem Bf : ∀ l : List Ins, apartB l = true → l.Pairwise fun a b => ltA a b = true ∧ vP a ≤ (b.addr.toNat : Int)
 | [], _ => .nil
 | [a], _ => by simp
 | a :: b :: t, h => by
  unfold apartB at h
  simp only [Bool.and_eq_true, decide_eq_true_eq] at h
  have ih := Bf (b :: t) h.2
  rw [List.pairwise_cons]
  refine ⟨fun z hz => ?_, ih⟩
  rcases List.mem_cons.1 hz with rfl | hz
  ·exact ⟨by simp [ltA, h.1.1], h.1.2⟩
  ·have h1 := (List.pairwise_cons.1 ih).1 z hz
   have h2 : b.addr < z.addr := by have := h1.1; simpa [ltA] using this
   have h3 := h.1.1
   have h4 := h.1.2
   rw [UInt32.lt_iff_toNat_lt] at h2 h3
   exact ⟨by simp only [ltA, decide_eq_true_eq, UInt32.lt_iff_toNat_lt]; omega, by omega⟩
def Gz (ins : List Ins) : Bool := ins.all (fun i => decide (iC i = 0)) && apartB ins
theorem Gy {ins : List Ins} (h : Gz ins = true) (ents unk bad : List UInt32) : gQ ins ents unk bad = ⟨ins, ents.filter (inK ins), unk.filter (inK ins), bad, []⟩ := by
 unfold Gz at h
 rw [Bool.and_eq_true, List.all_eq_true] at h
 have hp := Bf ins h.2
 have hs : ins.Pairwise fun a b => ltA a b = true := hp.imp fun q => q.1
 have hd := tN hs
 have hc : fQ ins = ins := by
  rw [Ci hd (fun y hy => by simpa using h.1 y hy)]
  obtain ⟨k1, k2⟩ := uZ hd
  exact yu Df Gd _ _ k1 hs k2
 have hn : ∀ a ∈ ins, ∀ b ∈ ins, jN a b = false := by
  have key : ∀ a b : Ins, ltA a b = true → vP a ≤ (b.addr.toNat : Int) → jN a b = false := by
   intro a b h1 h2
   simp only [ltA, decide_eq_true_eq, UInt32.lt_iff_toNat_lt] at h1
   unfold jN
   rw [Bool.and_eq_false_iff]; right
   rw [decide_eq_false_iff_not]
   have : (mxU a.addr b.addr).toNat = b.addr.toNat := by
    unfold mxU
    split
    ·rfl
    ·rename_i q; rw [UInt32.lt_iff_toNat_lt] at q; omega
   rw [this]; omega
  intro a ha b hb
  obtain ⟨i, hi, rfl⟩ := List.mem_iff_getElem.1 ha
  obtain ⟨j, hj, rfl⟩ := List.mem_iff_getElem.1 hb
  rw [List.pairwise_iff_getElem] at hp
  rcases Nat.lt_trichotomy i j with q | q | q
  ·exact key _ _ (hp i j hi hj q).1 (hp i j hi hj q).2
  ·subst q; unfold jN; simp
  ·rw [GQ]; exact key _ _ (hp j i hj hi q).1 (hp j i hj hi q).2
 have hr := HI (ins := ins) (ents := ents) (unk := unk) (bad := bad) (by rw [hc]; exact hn)
 rw [hc] at hr
 have e1 : (gQ ins ents unk bad).ents = ents.filter (inK (gQ ins ents unk bad).kept) := rfl
 have e2 : (gQ ins ents unk bad).unk = unk.filter (inK (gQ ins ents unk bad).kept) := rfl
 have e3 : (gQ ins ents unk bad).bad = bad := rfl
 rw [hr.1] at e1 e2
 generalize hR : gQ ins ents unk bad = R at *
 cases R
 simp only at hr e1 e2 e3
 rw [hr.1, hr.2, e1, e2, e3]
def GK : List (List StV × Int) → Int
 | [] => 0
 | x :: t => if x.2 ≠ 0 then x.2 else GK t
theorem Dm (ins : List Ins) : ∀ rts, mP ins rts = GK (rts.map fun r => eO ins r 4096)
 | [] => rfl
 | r :: t => by simp only [mP, List.map_cons, GK, Dm ins t]
def IP (l : List SecV) (c : CodeP) (A : List (List StV × Int)) : CodeP × FndV × Int :=
 if GK A ≠ 0 then (⟨[], [], [], []⟩, ⟨[], []⟩, GK A) else (c, nY l c.ins (A.map (·.1)) c.ins, 0)
def IO (l : List SecV) (c : CodeP) (ts : List (List UInt32)) : CodeP × FndV × Int :=
 IP l c ((fU (yN (mo c.ins (c.ents :: ts)))).map fun r => eO c.ins r 4096)
def GI (l : List SecV) (c : CodeP) (ts : List (List UInt32)) : Option (CodeP × FndV × Int) :=
 if Gz c.ins = true then some (IO l ⟨c.ins, c.ents.filter (inK c.ins), c.unk.filter (inK c.ins), c.bad⟩ ts) else none
def evalW (l : List SecV) (s : DSt) (ts : List (List UInt32)) : Option (CodeP × FndV × Int) := match s.rest with
 | [] => GI l (GR s) ts
 | _ :: _ => none
def tabs (ts : List (List UInt32)) : List TabV := ts.map fun d => ⟨d, none, 0⟩
def tn (l : List SecV) (es : List UInt32) (f : FndV) (n : Nat) : Option (CodeP × FndV × Int) :=
 if f.ts.length = f.at_.length ∧ gh l = 0 then evalW l (uR l (tabs f.ts) f.at_ n (yp es)) f.ts else none
theorem GH {l : List SecV} {c : CodeP} {ts : List (List UInt32)} {o : CodeP × FndV × Int} (h : GI l c ts = some o) : o = sR l c ts := by
 unfold GI at h
 split at h
 ·rename_i hf
  cases h
  unfold sR IO IP kG
  rw [Gy hf]
  simp only [nX, Dm, kQ, List.map_map]
  rfl
 ·cases h
theorem Av {ts ts' : List TabV} (h : ts.map (·.data) = ts'.map (·.data)) (at_ : List UInt32) : fH ts at_ = fH ts' at_ := by
 funext a
 have key : ∀ j, (ts.getD j default).data = (ts'.getD j default).data := fun j => by
  have e : ∀ q : List TabV, (q.getD j default).data = (q.map (·.data)).getD j [] := fun q => by
   simp only [List.getD_eq_getElem?_getD, List.getElem?_map]
   cases q[j]? <;> rfl
  rw [e, e, h]
 unfold fH
 split
 ·rfl
 ·rw [key]
theorem tQ {l : List SecV} {ts ts' : List TabV} {at_ es : List UInt32} (h : fH ts at_ = fH ts' at_) {a : UInt32} (r : Reach l ts at_ es a) : Reach l ts' at_ es a := by
 induction r with
 | ent a q => exact .ent a q
 | step b a q1 q2 q3 ih => exact .step b a ih q2 (by unfold kB at *; rw [← h]; exact q3)
theorem BI {l : List SecV} {ts ts' : List TabV} {at_ es : List UInt32} {c : CodeP} {e : Int} (h : ts.map (·.data) = ts'.map (·.data)) (hw : WalkIs l ts at_ es c e) : WalkIs l ts' at_ es c e := by
 have hk := Av h at_
 have hl : ts.length = ts'.length := by have := congrArg List.length h; simpa using this
 have hR : ∀ a, Reach l ts at_ es a ↔ Reach l ts' at_ es a := fun a => ⟨tQ hk, tQ hk.symm⟩
 cases hw with
 | arg h1 h2 h3 => exact .arg (hl ▸ h1) h2 h3
 | chk h1 h2 h3 h4 => exact .chk (hl ▸ h1) h2 h3 h4
 | ok h1 h2 h3 h4 =>
  refine .ok (hl ▸ h1) h2 h3 ⟨?_, ?_, ?_, ?_⟩
  ·obtain ⟨ks, k1, k2, k3⟩ := h4.ins
   exact ⟨ks, k1, fun a => by rw [k2, hR], k3⟩
  ·exact ⟨h4.bad.1, fun a => by rw [h4.bad.2, hR]⟩
  ·refine ⟨h4.ents.1, fun a => ?_⟩
   rw [h4.ents.2, hR]
   have : ∀ i, ko ts at_ i = ko ts' at_ i := fun i => by unfold ko; rw [hk]
   simp only [hR, this]
  ·refine ⟨h4.unk.1, fun a => ?_⟩
   rw [h4.unk.2, hR]
   have : ∀ i, qS ts at_ i = qS ts' at_ i := fun i => by unfold qS; rw [hk]
   simp only [this]
theorem re {l : List SecV} {es : List UInt32} {f : FndV} {ts : List TabV} {o o2 : CodeP × FndV × Int} {n : Nat} (hb : f.ts.length ≤ 700) (hb2 : ∀ t ∈ f.ts, t.length ≤ 64) (ht : ts.map (·.data) = f.ts) (h : RoundIs l es ts f.at_ o) (he : tn l es f n = some o2) : o = o2 := by
 have hd : ts.map (·.data) = (tabs f.ts).map (·.data) := by rw [ht]; unfold tabs; rw [List.map_map]; exact (List.map_id' _).symm
 have hT : qq (tabs f.ts) := ⟨by unfold tabs; rw [List.length_map]; exact hb, fun t q => by
  obtain ⟨d, hd, rfl⟩ := List.mem_map.1 q
  exact hb2 d hd⟩
 obtain ⟨c, e, hw, hi⟩ := h
 have hw := BI hd hw
 unfold tn at he
 split at he
 ·rename_i hc
  unfold evalW at he
  split at he
  ·rename_i hr
   obtain ⟨k1, k2⟩ := DR hT hw (by unfold tabs; rw [List.length_map]; exact hc.1) hc.2 hr
   rw [if_neg (by rw [k2]; simp)] at hi
   rw [hi, GH he, k1, ht]
  ·cases he
 ·cases he
def m0 (l : List SecV) (es : List UInt32) (n : Nat) : Nat → FndV → Option (CodeP × FndV × Int)
 | 0, f => some (vg, ⟨[], []⟩, 15)
 | k + 1, f => match tn l es f n with
  | none => none
  | some o => if o.2.2 ≠ 0 then some (vg, ⟨[], []⟩, o.2.2) else if o.2.1.at_ = f.at_ ∧ o.2.1.ts = f.ts then some o else m0 l es n k o.2.1
theorem rf {l : List SecV} {es : List UInt32} (ht : totD l ≤ 600) {n : Nat} {f : FndV} (h : Rnds l es n f) : f.ts.length ≤ 700 ∧ ∀ t ∈ f.ts, t.length ≤ 64 := by
 induction h with
 | zero => exact ⟨Nat.zero_le _, fun t q => by cases q⟩
 | step n f ts o h hd hr h0 hn ih =>
  have hT : qq ts := ⟨by have := congrArg List.length hd; rw [List.length_map] at this; rw [this]; exact ih.1, fun t q => by
   have := ih.2 t.data (by rw [← hd]; exact List.mem_map.2 ⟨t, q, rfl⟩); exact this⟩
  have := hr.tabs hT
  exact ⟨by omega, this.2⟩
theorem sS {l : List SecV} {es : List UInt32} (ht : totD l ≤ 600) {n N : Nat} {f : FndV} {o : CodeP × FndV × Int} (h : Rnds l es n f) : n ≤ 16 → m0 l es N 16 ⟨[], []⟩ = some o → m0 l es N (16 - n) f = some o := by
 induction h with
 | zero => exact fun _ h => h
 | step n f ts o' h hd hr h0 hn ih =>
  intro hle he
  have ih := ih (by omega) he
  rw [show 16 - n = 16 - (n + 1) + 1 by omega] at ih
  unfold m0 at ih
  have hs := rf ht h
  split at ih
  ·cases ih
  ·rename_i o2 hq
   have e := re hs.1 hs.2 hd hr hq
   subst e
   rw [if_neg (by rw [h0]; simp), if_neg hn] at ih
   exact ih
theorem FB {l : List SecV} {es : List UInt32} (ht : totD l ≤ 600) {N : Nat} {o o' : CodeP × FndV × Int} (h : ResIs l es o) (he : m0 l es N 16 ⟨[], []⟩ = some o') : o = o' := by
 cases h with
 | err n f ts o2 h hn hd hr h0 ho =>
  have k := sS ht h (by omega) he
  have hs := rf ht h
  rw [show 16 - n = 16 - (n + 1) + 1 by omega] at k
  unfold m0 at k
  split at k
  ·cases k
  ·rename_i o3 hq
   have e := re hs.1 hs.2 hd hr hq
   subst e
   rw [if_pos h0] at k
   cases k; exact ho
 | ok n f ts o2 h hn hd hr h0 hs2 ho =>
  have k := sS ht h (by omega) he
  have hs := rf ht h
  rw [show 16 - n = 16 - (n + 1) + 1 by omega] at k
  unfold m0 at k
  split at k
  ·cases k
  ·rename_i o3 hq
   have e := re hs.1 hs.2 hd hr hq
   subst e
   rw [if_neg (by rw [h0]; simp), if_pos hs2] at k
   cases k; exact ho
 | out f h ho =>
  have k := sS ht h (Nat.le_refl _) he
  rw [show 16 - 16 = 0 from rfl] at k
  cases k; exact ho
end Go.HL
namespace Go.HL
open Go
def vV (n : Nat) : List UInt8 := [160, 1, 58, 1, u8 (n : Int), 104, u8 ((n : Int) + 6), 131, 1, 0, 48, 0, 0]
def bEl (n k i : Nat) : List UInt8 := [u8 (13 + ((i : Int) + (k : Int)) % (n : Int)), 16, 0, 0]
def lH (n k j : Nat) : List UInt8 := (List.range j).flatMap (bEl n k)
def jT (n : Nat) : List UInt8 := (vV n ++ List.replicate n 1) ++ [1]
def nmC : ByteArray := ⟨#[99, 111, 100, 101]⟩
def nmT : ByteArray := ⟨#[116, 97, 98, 108, 101]⟩
def kb (n k : Nat) (wr : Bool) (p q : Option Addr) (c d : Nat) : List SecV := [⟨nmC, 4096, jT n, p, c, false, true⟩, ⟨nmT, 12288, lH n k n, q, d, wr, false⟩]
theorem xW (n k j : Nat) : lH n k (j + 1) = lH n k j ++ bEl n k j := by unfold lH; rw [List.range_succ, List.flatMap_append]; simp
theorem sq (n k : Nat) : ∀ j, (lH n k j).length = 4 * j
 | 0 => rfl
 | j + 1 => by rw [xW, List.length_append, sq n k j]; simp [bEl]; omega
theorem xX (n : Nat) : (jT n).length = 14 + n := by unfold jT vV; simp; omega
theorem oW {h : Hp} {n k : Nat} {wr : Bool} {p q : Option Addr} {c d : Nat} (h1 : Sl h dT (jT n) (.slice p (jT n).length c)) (h2 : Sl h dT (lH n k n) (.slice q (lH n k n).length d)) : DataIn h (kb n k wr p q c d) := by
 intro s hs
 rcases List.mem_cons.1 hs with rfl | hs
 ·exact h1
 ·rw [List.mem_singleton.1 hs]; exact h2
theorem rr {n k : Nat} {wr : Bool} {p q : Option Addr} {c d : Nat} (hn : n ≤ 200) : SecB (kb n k wr p q c d) := by
 refine ⟨by simp [kb], fun s hs => ?_⟩
 rcases List.mem_cons.1 hs with rfl | hs
 ·have := xX n; simp only; omega
 ·rw [List.mem_singleton.1 hs]; have := sq n k n; simp only; omega
theorem oV {n k : Nat} {wr : Bool} {p q : Option Addr} {c d : Nat} : ∀ s ∈ kb n k wr p q c d, s.name.size ≤ 140737488351232 := by
 intro s hs
 rcases List.mem_cons.1 hs with rfl | hs
 ·show nmC.size ≤ _; decide
 ·rw [List.mem_singleton.1 hs]; show nmT.size ≤ _; decide
theorem Be {n k : Nat} {wr : Bool} {p q : Option Addr} {c d : Nat} (hn : n ≤ 100) : totD (kb n k wr p q c d) ≤ 600 := by
 have h1 := xX n; have h2 := sq n k n
 simp only [totD, kb, List.map_cons, List.map_nil, List.sum_cons, List.sum_nil]
 omega
def JZ : List Ins := [⟨4096, 0, 26, 0, 0, 0, 1, 0, 2⟩, ⟨4098, 3, 15, 1, 0, 0, 1, 0, 3⟩, ⟨4101, 4112, 20, 1, 0, 8, 0, 0, 2⟩, ⟨4103, 12288, 22, 0, 0, 0, 1, 0, 6⟩]
def hlt (a : UInt32) : Ins := ⟨a, 0, 1, 0, 0, 0, 0, 0, 1⟩
def IN : CodeP := ⟨JZ ++ [hlt 4109, hlt 4110, hlt 4111, hlt 4112], [4096], [], []⟩
theorem GG (p q : Option Addr) (c d : Nat) : m0 (kb 3 0 false p q c d) [4096] 3000 16 ⟨[], []⟩ = some (IN, ⟨[[4109, 4110, 4111]], [4103]⟩, 0) := by kernel_rfl
theorem Jh {p q : Option Addr} {c d : Nat} {o : CodeP × FndV × Int} (h : ResIs (kb 3 0 false p q c d) [4096] o) : o = (IN, ⟨[[4109, 4110, 4111]], [4103]⟩, 0) := FB (Be (by omega)) h (GG p q c d)
def exX : VSet := eI 1 3 2
def GF : Ins := ⟨0, 12288, 22, 0, 0, 0, 1, 0, 0⟩
def GE : Ins := ⟨0, 0, 21, 0, 0, 0, 2, 0, 0⟩
theorem Ib (p q : Option Addr) (c d : Nat) : co (kb 4 0 false p q c d) GF exX = ([4110, 4110, 4110, 4112], 0) := by kernel_rfl
theorem Ia (p q : Option Addr) (c d : Nat) : co (kb 4 0 true p q c d) GF exX = ([], 19) := by kernel_rfl
theorem H9 (p q : Option Addr) (c d : Nat) : co (kb 4 0 false p q c d) GE (im 4112) = ([4112], 0) := by kernel_rfl
theorem H8 (p q : Option Addr) (c d : Nat) : co (kb 4 0 false p q c d) GE oG = ([], 19) := by kernel_rfl
theorem Ie (p q : Option Addr) (c d : Nat) : te (kb 4 0 false p q c d) 12288 4 = true := by kernel_rfl
theorem Ic (p q : Option Addr) (c d : Nat) : te (kb 4 0 false p q c d) 12288 5 = false := by kernel_rfl
theorem I5 {α : Type} {rs : List (RV α)} {x : List α} (h : rs.map (·.data) = [x]) : ∃ p c, rs = [⟨x, p, c⟩] := by
 cases rs with
 | nil => cases h
 | cons r t =>
  cases t with
  | nil =>
   obtain ⟨d, p, c⟩ := r
   simp only [List.map_cons, List.map_nil, List.cons.injEq, and_true] at h
   subst h
   exact ⟨p, c, rfl⟩
  | cons _ _ => simp at h
def H7 : StV := gP.set 1 exX
def JX : StV := H7.set 2 (im 4112)
def J7 : StV := JX.set 2 oG
theorem Dl : InsOK GF := by constructor <;> (unfold I64; decide)
theorem Dk : InsOK GE := by constructor <;> (unfold I64; decide)
end Go.HL
namespace Go.Proofs.YtiajjbhcpeadfaaGreat
open Go Go.HL Go.RowKit
theorem rq (n k : Nat) (wr : Bool) (w : World) (hn : 1 ≤ n ∧ n ≤ 100) (hk : k ≤ 1000) :
  Calls Tryz.prog 33 #[.int .i64 (n : Nat), .int .i64 (k : Nat), .bool wr] w (fun e w' => ∃ i : Value × Option Addr × Option Addr × Nat × Nat, e = .returned i.1 ∧ Ext w w' ∧ NewEnts w w' ((fun i : Value × Option Addr × Option Addr × Nat × Nat => [rowE i.1 49 cY (kb n k wr i.2.1 i.2.2.1 i.2.2.2.1 i.2.2.2.2), rowE (.slice i.2.1 (jT n).length i.2.2.2.1) 5 dT (jT n), rowE (.slice i.2.2.1 (lH n k n).length i.2.2.2.2) 5 dT (lH n k n)]) i) ∧ True) := by
 refine enter Tryz.func33 rfl Tryz.ntmps33 rfl ?_
 refine ah (zz0 (ab rfl) (aM (zz0 (aa rfl) (zz0 (jf rfl aZ cd) (zz0 (aa rfl) (zz0 (cE rfl rfl) ?_))))))
 refine zz0 (jf rfl aZ cd) ?_
 refine sx (E := dT) (vV n) (vs := [(0, _), (1, _), (2, _), (3, _), (4, _), (5, _), (6, _), (7, _), (8, _), (9, _), (10, _), (11, _), (12, _)]) rfl rfl ba du jU (by rfl) (by rfl) rfl (by first | kernel_rfl | rfl) rfl (fun V1 => ?_)
 refine zz0 (ab rfl) (ad (an (cn 5 dT ?_)))
 refine ar (zz0 (ab rfl) (ad (an (ah (zz0 (ab rfl) (ad (aH ?_)))))))
 change Tr _ _ [rowE (.slice none 0 0) 5 dT (lH n k 0), rowE V1 5 dT (vV n ++ List.replicate 0 (1 : UInt8))] _ _
 refine bK (ι := Nat × Value × Value) (fun ⟨i, Vc, Vt⟩ => i ≤ n) (fun _ => _) (fun ⟨i, Vc, Vt⟩ => [rowE Vt 5 dT (lH n k i), rowE Vc 5 dT (vV n ++ List.replicate i 1)]) (fun ⟨i, Vc, Vt⟩ => [(9, .int .i64 (i : Nat)), (7, Vc), (8, Vt)]) (fun ⟨i, Vc, Vt⟩ => n - i) (0, _, _) (Nat.zero_le _) (Front.c (Front.c (Front.c Front.nil))) (by repeat' constructor) rfl (fun i hi m hm => ?_)
 obtain ⟨i, Vc, Vt⟩ := i
 replace hi : i ≤ n := hi
 replace hm : m = n - i := hm
 change Tr _ _ [rowE Vt 5 dT (lH n k i), rowE Vc 5 dT (vV n ++ List.replicate i 1)] ([(9, .int .i64 (i : Nat)), (7, Vc), (8, Vt)] ++ _) _
 have hbl := sq n k i
 have hpl : (vV n ++ List.replicate i (1 : UInt8)).length = 13 + i := by simp [vV]; omega
 have hel : (bEl n k i).length = 4 := rfl
 have hmd := Int.emod_nonneg ((i : Int) + (k : Int)) (b := (n : Int)) (by omega)
 have hml := Int.emod_lt_of_pos ((i : Int) + (k : Int)) (b := (n : Int)) (by omega)
 have hp3 : (vV n).length = 13 := rfl
 have hrp : (List.replicate i (1 : UInt8)).length = i := List.length_replicate
 refine an (ah (zz0 (aa rfl) (zz0 (aa rfl) (zz0 (bT rfl rfl) (ad ?_)))))
 refine ao rfl ?_ ?_ <;> intro h2 <;> try simp only [bs] at h2
 ·refine bA (an (aH (ah (zz0 (aa rfl) ?_))))
  refine jl (E := dT) (1 : UInt8) rfl rfl ba du jU (fun V3 => ?_)
  refine zz1 rfl rfl ba ou (fun V4 => ?_)
  refine zz0 (ab rfl) (ad (ar (zz0 (aa rfl) (zz0 (aa rfl) (zz0 (aa rfl) (zz0 (cE rfl rfl) ?_))))))
  refine zz0 (aa rfl) (zz0 (IA rfl rfl (by omega)) ?_)
  refine zz0 (cE rfl rfl) ?_
  refine zz0 (jf rfl aZ cd) ?_
  refine sx (E := dT) (bEl n k i) (vs := [(0, _), (1, _), (2, _), (3, _)]) rfl rfl ba du jU (by rfl) (by rfl) rfl (by first | kernel_rfl | rfl) rfl (fun V5 => ?_)
  refine zz1 rfl rfl ba ou (fun V6 => ?_)
  refine zz0 (ab rfl) (ax (aY (ac (ar (zz0 (aa rfl) (zz0 (cE rfl rfl) ?_))))))
  refine zz0 (ab rfl) (ad ?_)
  have e1 : (vV n ++ List.replicate i (1 : UInt8)) ++ [1] = vV n ++ List.replicate (i + 1) 1 := by rw [List.append_assoc, ← List.replicate_succ']
  rw [e1, ← xW]
  refine cF (i + 1, _, _) (Front.c (Front.c (Front.c Front.nil))) (bD 24 rfl) (o := (by show i + 1 ≤ _; omega))
 refine bF (aI (aI (bv (ac (an ?_)))))
 obtain rfl : i = n := by omega
 refine jh (V := Vt) (fun pt ct hpv => ?_)
 subst hpv
 refine ar (zz0 (aa rfl) ?_)
 refine jl (E := dT) (1 : UInt8) rfl rfl ba du jU (fun V7 => ?_)
 refine zz1 rfl rfl ba ou (fun V8 => ?_)
 refine gV (l' := jT i) rfl ?_
 refine dz (.head _) (fun pc cc hpv => ?_)
 subst hpv
 refine zz0 (bL (vs := [(0, _), (1, _), (2, _), (4, _)]) (cs := #[.string nmC, .int .u32 4096, .slice pc (jT i).length cc, .bool false, .bool true]) rfl rfl (by kernel_rfl)) ?_
 refine zz0 (aa rfl) (zz0 (aa rfl) (zz0 (bL (vs := [(0, _), (1, _), (2, _), (3, _)]) (cs := #[.string nmT, .int .u32 12288, .slice pt (lH i k i).length ct, .bool wr, .bool false]) rfl rfl (by kernel_rfl)) ?_))
 refine sx (E := cY) (kb i k wr pc pt cc ct) (vs := [(0, _), (1, _)]) rfl rfl bG bX kr (by rfl) (by rfl) rfl (by first | kernel_rfl | rfl) rfl (fun V9 => ?_)
 refine zz0 (ab rfl) (ad (aC ?_))
 refine aO Tryz.results33 rfl (fun w' hw => ?_)
 exact ⟨(_, pc, pt, cc, ct), rfl, hw.b0, hw.ents (Bg.le.refl _) (by repeat' (first | exact Pick.refl _ | exact Del.here _ | apply Pick.cons | apply Del.there | apply Pick.skip | exact Pick.nil _)), trivial⟩
theorem vO (w : World) :
  Calls Tryz.prog 11 #[] w (fun e w' => e = .returned (.bool true) ∧ Below w.heap.size w w') := by
 refine mF Tryz.func11 rfl Tryz.ntmps11 rfl ?_
 refine ah (zz0 (ab rfl) (aM ?_))
 refine kg (fun i : Value × Option Addr × Option Addr × Nat × Nat => i.1) (fun i : Value × Option Addr × Option Addr × Nat × Nat => [rowE i.1 49 cY (kb 3 0 false i.2.1 i.2.2.1 i.2.2.2.1 i.2.2.2.2), rowE (.slice i.2.1 (jT 3).length i.2.2.2.1) 5 dT (jT 3), rowE (.slice i.2.2.1 (lH 3 0 3).length i.2.2.2.2) 5 dT (lH 3 0 3)]) (ok := fun _ => True) rfl Tryz.call33 (fun w hw => rq 3 0 false w (by omega) (by omega)) rfl (fun ib1 _ => ?_)
 obtain ⟨VB1, p1, q1, c1, d1⟩ := ib1
 change Tr _ _ (rowE (VB1) 49 cY (kb 3 0 false p1 q1 c1 d1) :: rowE (.slice p1 (jT 3).length c1) 5 dT (jT 3) :: rowE (.slice q1 (lH 3 0 3).length d1) 5 dT (lH 3 0 3) :: _) _ _
 refine dz (V := VB1) (.head _) (fun pb1 cb1 hpv => ?_)
 subst hpv
 refine jl (E := au) (4096 : UInt32) rfl rfl al ae cX (fun V1 => ?_)
 refine eT (fun i : (Value × Value × Value × Value × Value × Value) × (CodeP × FndV × Int) × List (RV UInt32) => .tuple #[.agg #[i.1.1, i.1.2.1, i.1.2.2.1, i.1.2.2.2.1], i.1.2.2.2.2.1, i.1.2.2.2.2.2, .int .i64 i.2.1.2.2]) (fun i : (Value × Value × Value × Value × Value × Value) × (CodeP × FndV × Int) × List (RV UInt32) => rowE i.1.1 36 aT i.2.1.1.ins :: rowE i.1.2.1 23 au i.2.1.1.ents :: rowE i.1.2.2.1 23 au i.2.1.1.unk :: rowE i.1.2.2.2.1 23 au i.2.1.1.bad :: rowE i.1.2.2.2.2.1 31 dI i.2.2 :: rowE i.1.2.2.2.2.2 23 au i.2.1.2.1.at_ :: i.2.2.map (rvE 23 au)) (ok := fun i : (Value × Value × Value × Value × Value × Value) × (CodeP × FndV × Int) × List (RV UInt32) => ResIs (kb 3 0 false p1 q1 c1 d1) [4096] i.2.1 ∧ i.2.2.map (·.data) = i.2.1.2.1.ts) rfl rfl Tryz.call17 (fun w hw => BR (kb 3 0 false p1 q1 c1 d1) _ _ [4096] _ w (hw.row (by repeat constructor)) (rr (by omega)) (oW (hw.row (by repeat constructor)) (hw.row (by repeat constructor))) oV (hw.row (by repeat constructor)) (Be (by omega)) (by simp)) rfl (fun iR hR => ?_)
 obtain ⟨⟨Wi, We, Wu, Wb, Wt, Wp⟩, o, rs⟩ := iR
 obtain ⟨ho, hrs⟩ : ResIs (kb 3 0 false p1 q1 c1 d1) [4096] o ∧ rs.map (·.data) = o.2.1.ts := hR
 obtain rfl := Jh ho
 obtain ⟨pr, cr, rfl⟩ := I5 hrs
 change Tr _ _ (rowE Wi 36 aT IN.ins :: rowE We 23 au IN.ents :: rowE Wu 23 au IN.unk :: rowE Wb 23 au IN.bad :: rowE Wt 31 dI [⟨[4109, 4110, 4111], pr, cr⟩] :: rowE Wp 23 au ([4103] : List UInt32) :: rvE 23 au ⟨[4109, 4110, 4111], pr, cr⟩ ::  _) _ _
 refine jh (V := Wi) (fun pWi cWi hpv => ?_)
 subst hpv
 refine jh (V := We) (fun pWe cWe hpv => ?_)
 subst hpv
 refine jh (V := Wu) (fun pWu cWu hpv => ?_)
 subst hpv
 refine jh (V := Wb) (fun pWb cWb hpv => ?_)
 subst hpv
 refine jh (V := Wt) (fun pWt cWt hpv => ?_)
 subst hpv
 refine jh (V := Wp) (fun pWp cWp hpv => ?_)
 subst hpv
 refine zz0 (aa rfl) (zz0 (aQ rfl rfl) (zz0 (aQ rfl rfl) (zz0 (aQ rfl rfl) (zz0 (aQ rfl rfl) ?_))))
 refine dB eZ rfl (fun b2 => ?_)
 refine zz8 rfl rfl cP ?_
 refine zz0 (ab rfl) (zz0 (ab rfl) (zz0 (ab rfl) (aM ?_)))
 refine dB cU rfl (fun b3 => ?_)
 change Tr _ _ (cellE b3 (cO.enc gP) 37 :: _) _ _
 refine aM (zz0 (aD rfl eH (fun w hw => dQ 1 3 2 w)) ?_)
 refine zz0 (zz2 (off := 0) (ft := 26) rfl cC rfl dh) ?_
 refine zz0 (dK rfl rfl cx aj (by omega)) ?_
 refine gm rfl rfl aj (by repeat constructor) (lC (s := gP) (k := (1 : Int)) ⟨by omega, by omega⟩ (by simp) (exX)) (by rfl) (lD (k := (1 : Int)) ⟨by omega, by omega⟩ (by simp)) (by first | exact Enc.one bR _ | exact List.all_eq_true.1 rfl) rfl ?_
 refine aM ?_
 refine kg (fun i : Value × Option Addr × Option Addr × Nat × Nat => i.1) (fun i : Value × Option Addr × Option Addr × Nat × Nat => [rowE i.1 49 cY (kb 4 0 false i.2.1 i.2.2.1 i.2.2.2.1 i.2.2.2.2), rowE (.slice i.2.1 (jT 4).length i.2.2.2.1) 5 dT (jT 4), rowE (.slice i.2.2.1 (lH 4 0 4).length i.2.2.2.2) 5 dT (lH 4 0 4)]) (ok := fun _ => True) rfl Tryz.call33 (fun w hw => rq 4 0 false w (by omega) (by omega)) rfl (fun ib2 _ => ?_)
 obtain ⟨VB2, p2, q2, c2, d2⟩ := ib2
 change Tr _ _ (rowE (VB2) 49 cY (kb 4 0 false p2 q2 c2 d2) :: rowE (.slice p2 (jT 4).length c2) 5 dT (jT 4) :: rowE (.slice q2 (lH 4 0 4).length d2) 5 dT (lH 4 0 4) :: _) _ _
 refine dz (V := VB2) (.head _) (fun pb2 cb2 hpv => ?_)
 subst hpv
 refine zz0 (ab rfl) (aM (zz0 (aa rfl) (zz0 (bL (vs := [(2, _), (6, _), (1, _)]) rfl rfl (m8 _ _ _)) ?_)))
 refine zz0 (bC rfl bY aV) ?_
 refine fh (E := au) (l := ([4110, 4110, 4110, 4112] : List UInt32)) (T := 23) (fun V => .tuple #[V, .int .i64 0]) rfl mi (fun w hw => by have q := kE (kb 4 0 false p2 q2 c2 d2) _ _ GF H7 w (hw.row (by repeat constructor)) (rr (by omega)) (oW (hw.row (by repeat constructor)) (hw.row (by repeat constructor))) oV Dl; rw [show H7.get GF.a = exX from rfl, Ib] at q; exact q) rfl (fun T1 => ?_)
 refine zz0 (aa rfl) (zz0 (aQ rfl rfl) (zz0 (aQ rfl rfl) (zz0 (ab rfl) (zz0 (ab rfl) (ad (an (dZ ([cellE b3 (cO.enc H7) 37]) 9 rfl aU ?_)))))))
 refine zz7 1 rfl (bL (vs := [(2, _), (6, _), (1, _)]) rfl rfl (m8 _ _ _)) ?_
 refine zz7 2 rfl (bC rfl bY aV) ?_
 refine dA [0] (fun iq hq => ?_)
 obtain rfl := List.mem_singleton.1 hq
 refine bJ rfl ?_
 refine kg (fun i : Value × Option Addr × Option Addr × Nat × Nat => i.1) (fun i : Value × Option Addr × Option Addr × Nat × Nat => [rowE i.1 49 cY (kb 4 0 true i.2.1 i.2.2.1 i.2.2.2.1 i.2.2.2.2), rowE (.slice i.2.1 (jT 4).length i.2.2.2.1) 5 dT (jT 4), rowE (.slice i.2.2.1 (lH 4 0 4).length i.2.2.2.2) 5 dT (lH 4 0 4)]) (ok := fun _ => True) rfl Tryz.call33 (fun w hw => rq 4 0 true w (by omega) (by omega)) rfl (fun ib3 _ => ?_)
 obtain ⟨VB3, p3, q3, c3, d3⟩ := ib3
 change Tr _ _ (rowE (VB3) 49 cY (kb 4 0 true p3 q3 c3 d3) :: rowE (.slice p3 (jT 4).length c3) 5 dT (jT 4) :: rowE (.slice q3 (lH 4 0 4).length d3) 5 dT (lH 4 0 4) :: _) _ _
 refine dz (V := VB3) (.head _) (fun pb3 cb3 hpv => ?_)
 subst hpv
 refine cj ?_
 refine dA [3] (fun iq hq => ?_)
 obtain rfl := List.mem_singleton.1 hq
 refine bJ rfl ?_
 refine fh (E := au) (l := ([] : List UInt32)) (T := 23) (fun V => .tuple #[V, .int .i64 19]) rfl mi (fun w hw => by have q := kE (kb 4 0 true p3 q3 c3 d3) _ _ GF H7 w (hw.row (by repeat constructor)) (rr (by omega)) (oW (hw.row (by repeat constructor)) (hw.row (by repeat constructor))) oV Dl; rw [show H7.get GF.a = exX from rfl, Ia] at q; exact q) rfl (fun T2 => ?_)
 refine cj ?_
 refine zz7 4 rfl (aa rfl) ?_
 refine zz7 5 rfl (aQ rfl rfl) ?_
 refine zz7 6 rfl (aQ rfl rfl) ?_
 refine zz7 7 rfl (ab rfl) ?_
 refine zz7 8 rfl (ab rfl) ?_
 refine jg ?_
 refine ac (ah (zz0 (aD rfl je (fun w hw => jR 4112 w)) ?_))
 refine zz0 (zz2 (off := 0) (ft := 26) rfl cC rfl dh) ?_
 refine zz0 (dK rfl rfl cx aj (by omega)) ?_
 refine gm rfl rfl aj (by repeat constructor) (lC (s := H7) (k := (2 : Int)) ⟨by omega, by omega⟩ (by simp) (im 4112)) (by rfl) (lD (k := (2 : Int)) ⟨by omega, by omega⟩ (by simp)) (by first | exact Enc.one bR _ | exact List.all_eq_true.1 rfl) rfl ?_
 refine aM (zz0 (aa rfl) (zz0 (bL (vs := [(2, _), (6, _)]) rfl rfl (j4 _ _)) ?_))
 refine zz0 (bC rfl bY aV) ?_
 refine fh (E := au) (l := ([4112] : List UInt32)) (T := 23) (fun V => .tuple #[V, .int .i64 0]) rfl mi (fun w hw => by have q := kE (kb 4 0 false p2 q2 c2 d2) _ _ GE JX w (hw.row (by repeat constructor)) (rr (by omega)) (oW (hw.row (by repeat constructor)) (hw.row (by repeat constructor))) oV Dk; rw [show JX.get GE.a = im 4112 from rfl, H9] at q; exact q) rfl (fun T3 => ?_)
 refine zz0 (aa rfl) (zz0 (aQ rfl rfl) (zz0 (aQ rfl rfl) (zz0 (ab rfl) (zz0 (ab rfl) (aM (zz0 (aD rfl gl (fun w hw => ki w)) ?_))))))
 refine zz0 (zz2 (off := 0) (ft := 26) rfl cC rfl dh) ?_
 refine zz0 (dK rfl rfl cx aj (by omega)) ?_
 refine gm rfl rfl aj (by repeat constructor) (lC (s := JX) (k := (2 : Int)) ⟨by omega, by omega⟩ (by simp) (oG)) (by rfl) (lD (k := (2 : Int)) ⟨by omega, by omega⟩ (by simp)) (by first | exact Enc.one bR _ | exact List.all_eq_true.1 rfl) rfl ?_
 refine aM (zz0 (aa rfl) (zz0 (bL (vs := [(2, _), (6, _)]) rfl rfl (j4 _ _)) ?_))
 refine zz0 (bC rfl bY aV) ?_
 refine fh (E := au) (l := ([] : List UInt32)) (T := 23) (fun V => .tuple #[V, .int .i64 19]) rfl mi (fun w hw => by have q := kE (kb 4 0 false p2 q2 c2 d2) _ _ GE J7 w (hw.row (by repeat constructor)) (rr (by omega)) (oW (hw.row (by repeat constructor)) (hw.row (by repeat constructor))) oV Dk; rw [show J7.get GE.a = oG from rfl, H8] at q; exact q) rfl (fun T4 => ?_)
 refine zz0 (aa rfl) (zz0 (aQ rfl rfl) (zz0 (aQ rfl rfl) (zz0 (ab rfl) (zz0 (ab rfl) (aM (zz0 (aa rfl) (zz0 (bh rfl rfl) (zz0 (aa rfl) (zz3 rfl (aa rfl) ?_)))))))))
 refine vW rfl rfl rfl ?_
 refine jl (E := au) (4103 : UInt32) rfl rfl al ae cX (fun V4 => ?_)
 refine zz3 rfl (aD rfl og (fun w hw => nN [4103] [4103] _ _ w (hw.row (by repeat constructor)) (hw.row (by repeat constructor)))) ?_
 refine zz0 (jJ rfl rfl rfl) ?_
 refine zz0 (aa rfl) (zz3 rfl (aa rfl) ?_)
 refine zz3 rfl (lz rfl dD) ?_
 refine zz3 rfl (bh rfl rfl) ?_
 refine zz0 (jJ rfl rfl rfl) ?_
 refine zz0 (aa rfl) (zz3 rfl (aa rfl) ?_)
 refine zz3 rfl (wh (E := dI (α := UInt32)) (l := [⟨[4109, 4110, 4111], pr, cr⟩]) (i := 0) rfl rfl (by repeat constructor) dD cQ (by rfl) (by simp)) ?_
 refine zz3 rfl (DG (E := dI (α := UInt32)) (l := [⟨[4109, 4110, 4111], pr, cr⟩]) (i := 0) rfl (by repeat constructor) dR (by simp) (by rfl)) ?_
 refine vW rfl rfl rfl ?_
 refine sx (E := au) ([4109, 4110, 4111] : List UInt32) (vs := [(0, _), (1, _), (2, _)]) rfl rfl al ae cX (by rfl) (by rfl) rfl (by first | kernel_rfl | rfl) rfl (fun V5 => ?_)
 refine zz3 rfl (aD rfl og (fun w hw => nN [4109, 4110, 4111] [4109, 4110, 4111] _ _ w (hw.row (by repeat constructor)) (hw.row (by repeat constructor)))) ?_
 refine zz0 (jJ rfl rfl rfl) ?_
 refine zz0 (aa rfl) (zz3 rfl (zz2 (off := 0) (ft := 50) rfl cL rfl dy) ?_)
 refine zz3 rfl (aG rfl dN) ?_
 refine zz3 rfl (lz rfl aR) ?_
 refine zz3 rfl (bh rfl rfl) ?_
 refine zz0 (jJ rfl rfl rfl) ?_
 refine zz0 (aa rfl) (zz3 rfl (zz2 (off := 2) (ft := 31) rfl cL rfl cQ) ?_)
 refine zz3 rfl (aG rfl dR) ?_
 refine zz3 rfl (lz rfl al) ?_
 refine zz3 rfl (bh rfl rfl) ?_
 refine zz0 (jJ rfl rfl rfl) ?_
 refine zz0 (aa rfl) (zz3 rfl (aa rfl) ?_)
 refine zz3 rfl (bh rfl rfl) ?_
 refine zz0 (jJ rfl rfl rfl) ?_
 refine zz0 (aa rfl) (zz3 rfl (aa rfl) ?_)
 refine vW rfl rfl rfl ?_
 refine sx (E := au) ([4110, 4110, 4110, 4112] : List UInt32) (vs := [(0, _), (1, _), (2, _), (3, _)]) rfl rfl al ae cX (by rfl) (by rfl) rfl (by first | kernel_rfl | rfl) rfl (fun V6 => ?_)
 refine zz3 rfl (aD rfl og (fun w hw => nN [4110, 4110, 4110, 4112] [4110, 4110, 4110, 4112] _ _ w (hw.row (by repeat constructor)) (hw.row (by repeat constructor)))) ?_
 refine zz0 (jJ rfl rfl rfl) ?_
 refine zz0 (aa rfl) (zz3 rfl (aa rfl) ?_)
 refine zz3 rfl (bh rfl rfl) ?_
 refine zz0 (jJ rfl rfl rfl) ?_
 refine zz0 (aa rfl) (zz3 rfl (aa rfl) ?_)
 refine zz3 rfl (bh rfl rfl) ?_
 refine zz0 (jJ rfl rfl rfl) ?_
 refine zz0 (aa rfl) (zz3 rfl (aa rfl) ?_)
 refine vW rfl rfl rfl ?_
 refine jl (E := au) (4112 : UInt32) rfl rfl al ae cX (fun V7 => ?_)
 refine zz3 rfl (aD rfl og (fun w hw => nN [4112] [4112] _ _ w (hw.row (by repeat constructor)) (hw.row (by repeat constructor)))) ?_
 refine zz0 (jJ rfl rfl rfl) ?_
 refine zz0 (aa rfl) (zz3 rfl (aa rfl) ?_)
 refine zz3 rfl (bh rfl rfl) ?_
 refine zz0 (jJ rfl rfl rfl) ?_
 refine zz0 (aa rfl) (zz3 rfl (aa rfl) ?_)
 refine zz3 rfl (aD rfl Tryz.call23 (fun w hw => vC (kb 4 0 false p2 q2 c2 d2) _ _ 12288 4 w (hw.row (by repeat constructor)) (rr (by omega)) (oW (hw.row (by repeat constructor)) (hw.row (by repeat constructor))) oV)) ?_
 rw [Ie]
 refine zz0 (jJ rfl rfl rfl) ?_
 refine zz0 (aa rfl) (zz3 rfl (aa rfl) ?_)
 refine zz3 rfl (aD rfl Tryz.call23 (fun w hw => vC (kb 4 0 false p2 q2 c2 d2) _ _ 12288 5 w (hw.row (by repeat constructor)) (rr (by omega)) (oW (hw.row (by repeat constructor)) (hw.row (by repeat constructor))) oV)) ?_
 rw [Ic]
 refine zz3 rfl (cp rfl) ?_
 refine zz0 (jJ rfl rfl rfl) ?_
 refine zz0 (ab rfl) (ad (aC ?_))
 refine aO Tryz.results11 rfl (fun w' hw => ?_)
 exact ⟨rfl, hw.below0 (Bg.le.refl _)⟩
end Go.Proofs.YtiajjbhcpeadfaaGreat
namespace Go.Proofs.YtiajjbhcpeadfaaGreat
open Go Go.HL Go.RowKit
theorem mq (s : SecV) (w : World) (hs : s.data.length ≤ 200000) :
  Cr Tryz.prog 119 #[.agg (cY.enc s).toArray] w (.int .i64 (lY s)) := by
 have hadr := s.addr.toNat_lt
 refine enter Tryz.func119 rfl Tryz.ntmps119 rfl ?_
 refine ah ?_
 refine dq rfl rfl (fun b1 => ?_)
 refine zz0 (ab rfl) (aM (zz0 (zz2 (off := 1) (ft := 23) rfl bO rfl ae) ?_))
 refine zz0 (aG rfl am) ?_
 refine zz0 (fO rfl aP aZ) (zz0 (zz2 (off := 2) (ft := 47) rfl bO rfl fC) ?_)
 refine zz0 (aG rfl fZ) ?_
 refine zz0 (iI rfl ba) ?_
 refine zz0 (cE rfl rfl) ?_
 refine zz0 (ab rfl) (ad (an (ah (zz0 (aa rfl) (zz0 (eo rfl rfl) (ad ?_))))))
 refine ao rfl ?_ ?_ <;> intro h2 <;> try simp only [bs] at h2
 ·refine ah (zz0 (ab rfl) (ad (aC (aA ?_))))
  refine aO Tryz.results119 rfl (fun w' hw => ?_)
  exact ⟨by unfold lY; rw [Int.min_eq_right (by omega)], hw.b0⟩
 refine cT (zz0 (aa rfl) (zz0 (ab rfl) (ad (aC ?_))))
 refine aO Tryz.results119 rfl (fun w' hw => ?_)
 exact ⟨by unfold lY; rw [Int.min_eq_left (by omega)], hw.b0⟩
theorem Ag (s : ByteArray) (w : World) (hs : s.size ≤ 9223372036854775807) :
  Cr Tryz.prog 171 #[.string s] w (.bool (vl s)) := by
 have hbl := sn s
 refine enter Tryz.func171 rfl Tryz.ntmps171 rfl ?_
 refine ah (zz0 (ab rfl) (ad (an (ah (zz0 (ab rfl) (ad (aH ?_)))))))
 refine bK (ι := Nat) (fun k => k ≤ s.size ∧ ((bts s).take k).any qU = false) (fun _ => _) (fun k => []) (fun k => [(3, .int .i64 (k : Nat))]) (fun k => s.size - k) 0 ⟨Nat.zero_le _, rfl⟩ (Front.c Front.nil) (by repeat' constructor) rfl (fun k hi m hm => ?_)
 replace hi : k ≤ s.size ∧ ((bts s).take k).any qU = false := hi
 replace hm : m = s.size - k := hm
 change Tr _ _ [] ([(3, .int .i64 (k : Nat))] ++ _) _
 obtain ⟨hk1, hk2⟩ := hi
 refine an (ah (zz0 (aa rfl) (zz0 (aa rfl) (zz0 (oo rfl fj) ?_))))
 refine zz0 (bT rfl rfl) (ad ?_)
 refine ao rfl ?_ ?_ <;> intro h1 <;> try simp only [bs] at h1
 ·refine bA (an (aH (ah (zz0 (aa rfl) (zz0 (aa rfl) (zz0 (qO rfl rfl fj (by omega)) ?_))))))
  refine zz0 (ab rfl) (aM (zz0 (aa rfl) (zz0 (uL (n := 97) rfl rfl) ?_)))
  refine zz0 (aa rfl) ?_
  apply bQ
  ·exact (rfl : _ = (3, 17, 20))
  ·exact rfl
  ·intro hT2; have hT2' := hT2
   try simp only [bs] at hT2'
   refine zz3 hT2 (aa rfl) (zz3 hT2 (zy (n := 122) rfl rfl) ?_)
   refine zz0 (aK rfl hT2 rfl) ?_
   refine ax (ac ?_)
   exact az (Sub.cons rfl (zz6 3 rfl))
  ·intro hF2
   refine zz4 hF2 (zz4 hF2 (zz0 (aL rfl hF2 rfl) ?_))
   refine ax (ac ?_)
   exact az (Sub.cons rfl (zz6 3 rfl))
  refine zz0 (aa rfl) ?_
  apply cw
  ·exact (rfl : _ = (7, 21, 28))
  ·exact rfl
  ·intro hF3; have hF3' := hF3
   try simp only [bs] at hF3'
   refine zz3 hF3 (aa rfl) (zz3 hF3 (uL (n := 65) rfl rfl) ?_)
   refine zz3 hF3 (aa rfl) ?_
   apply bQ
   ·exact (rfl : _ = (3, 24, 27))
   ·exact rfl
   ·intro hT4; have hT4' := hT4
    try simp only [bs] at hT4'
    refine zz3 hT4 (aa rfl) (zz3 hT4 (zy (n := 90) rfl rfl) ?_)
    refine zz3 hF3 (aK rfl hT4 rfl) ?_
    refine ax (ac ?_)
    exact az (Sub.cons rfl (zz6 3 rfl))
   ·intro hF4
    refine zz4 hF4 (zz4 hF4 (zz3 hF3 (aL rfl hF4 rfl) ?_))
    refine ax (ac ?_)
    exact az (Sub.cons rfl (zz6 3 rfl))
   refine zz0 (aL rfl hF3 rfl) ?_
   refine ax (ac ?_)
   exact az (Sub.cons rfl (zz6 5 rfl))
  ·intro hT3
   refine zz4 hT3 (zz4 hT3 (zz4 hT3 (eX ?_)))
   refine eX ?_
   refine zz4 hT3 (zz0 (aK rfl hT3 rfl) ?_)
   refine ax (ac ?_)
   exact az (Sub.cons rfl (zz6 7 rfl))
  refine zz0 (ab rfl) (aM (zz0 (aa rfl) (zz0 (cp rfl) (zz0 (aa rfl) ?_))))
  apply bQ
  ·exact (rfl : _ = (7, 31, 38))
  ·exact rfl
  ·intro hT5; have hT5' := hT5
   try simp only [bs] at hT5'
   refine zz3 hT5 (aa rfl) (zz3 hT5 (qP (n := 48) rfl rfl) ?_)
   refine zz3 hT5 (aa rfl) ?_
   apply cw
   ·exact (rfl : _ = (3, 34, 37))
   ·exact rfl
   ·intro hF6; have hF6' := hF6
    try simp only [bs] at hF6'
    refine zz3 hF6 (aa rfl) (zz3 hF6 (uK (n := 57) rfl rfl) ?_)
    refine zz3 hT5 (aL rfl hF6 rfl) ?_
    refine ax (ac ?_)
    exact az (Sub.cons rfl (zz6 3 rfl))
   ·intro hT6
    refine zz4 hT6 (zz4 hT6 (zz3 hT5 (aK rfl hT6 rfl) ?_))
    refine ax (ac ?_)
    exact az (Sub.cons rfl (zz6 3 rfl))
   refine zz0 (aK rfl hT5 rfl) ?_
   refine ax (ac ?_)
   exact az (Sub.cons rfl (zz6 5 rfl))
  ·intro hF5
   refine zz4 hF5 (zz4 hF5 (zz4 hF5 (eX ?_)))
   refine eX ?_
   refine zz4 hF5 (zz0 (aL rfl hF5 rfl) ?_)
   refine ax (ac ?_)
   exact az (Sub.cons rfl (zz6 7 rfl))
  refine zz0 (aa rfl) ?_
  apply bQ
  ·exact (rfl : _ = (3, 39, 42))
  ·exact rfl
  ·intro hT7; have hT7' := hT7
   try simp only [bs] at hT7'
   refine zz3 hT7 (aa rfl) (zz3 hT7 (sD (n := 95) rfl rfl) ?_)
   refine zz0 (aK rfl hT7 rfl) ?_
   refine ax (ac ?_)
   exact az (Sub.cons rfl (zz6 3 rfl))
  ·intro hF7
   refine zz4 hF7 (zz4 hF7 (zz0 (aL rfl hF7 rfl) ?_))
   refine ax (ac ?_)
   exact az (Sub.cons rfl (zz6 3 rfl))
  refine zz0 (aa rfl) ?_
  apply bQ
  ·exact (rfl : _ = (3, 43, 46))
  ·exact rfl
  ·intro hT8; have hT8' := hT8
   try simp only [bs] at hT8'
   refine zz3 hT8 (aa rfl) (zz3 hT8 (sD (n := 46) rfl rfl) ?_)
   refine zz0 (aK rfl hT8 rfl) ?_
   refine ax (ac ?_)
   exact az (Sub.cons rfl (zz6 3 rfl))
  ·intro hF8
   refine zz4 hF8 (zz4 hF8 (zz0 (aL rfl hF8 rfl) ?_))
   refine ax (ac ?_)
   exact az (Sub.cons rfl (zz6 3 rfl))
  refine ad ?_
  refine ao rfl ?_ ?_ <;> intro h9 <;> try simp only [bs] at h9
  ·refine ah (zz0 (ab rfl) (ad (aC (bj (aA (aA (bj (aA ?_))))))))
   refine aO Tryz.results171 rfl (fun w' hw => ?_)
   have hbad : qU ((bts s).getD k default) = true := by rw [FD]; simp only [bs]; assumption
   exact ⟨by rw [xj (by omega) hbad], hw.b0⟩
  refine cg (aY (ac (ar (zz0 (aa rfl) (zz0 (cE rfl rfl) ?_)))))
  refine zz0 (ab rfl) (ad ?_)
  have hbad : qU ((bts s).getD k default) = false := by rw [FD]; simp only [bs]; assumption
  refine cF (k + 1) (Front.c Front.nil) (bD 27 rfl) (o := ⟨by omega, by rw [any_take_succ (by omega), hk2, hbad]; rfl⟩)
 refine bF (aI (aI (bv (ac (ah (zz0 (aa rfl) (zz0 (oo rfl fj) ?_)))))))
 refine zz0 (eo rfl rfl) (zz0 (aa rfl) ?_)
 apply bQ
 ·exact (rfl : _ = (4, 50, 54))
 ·exact rfl
 ·intro hT10; have hT10' := hT10
  try simp only [bs] at hT10'
  refine zz3 hT10 (aa rfl) (zz3 hT10 (oo rfl fj) ?_)
  refine zz3 hT10 (fJ rfl rfl) (zz0 (aK rfl hT10 rfl) ?_)
  refine ax (ac ?_)
  exact az (Sub.cons rfl (zz6 4 rfl))
 ·intro hF10
  refine zz4 hF10 (zz4 hF10 (zz4 hF10 (zz0 (aL rfl hF10 rfl) ?_)))
  refine ax (ac ?_)
  exact az (Sub.cons rfl (zz6 4 rfl))
 refine zz0 (ab rfl) (ad (aC ?_))
 refine aO Tryz.results171 rfl (fun w' hw => ?_)
 exact ⟨by rw [xh (by omega) hk2]; congr 2, hw.b0⟩
theorem pY (l : List SecV) (V : Value) (a : UInt32) (w : World) (hV : Sl (hp w) cY l V) (hB : SecB l) :
  Cr Tryz.prog 126 #[V, .int .u32 a.toNat] w (.int .i64 (cR l a)) := by
 have hV' : Sl (Bg.of w).blk cY l V := hV
 have hlen := hB.1
 refine enter Tryz.func126 rfl Tryz.ntmps126 rfl ?_
 refine ah (zz0 (ab rfl) (ad (an (ah (zz0 (ab rfl) (ad (aH ?_)))))))
 refine bK (ι := Nat) (fun k => k ≤ l.length ∧ ei (inS a) k (l.drop k) = ei (inS a) 0 l) (fun _ => _) (fun k => []) (fun k => [(5, .int .i64 (k : Nat))]) (fun k => l.length - k) 0 ⟨Nat.zero_le _, rfl⟩ (Front.c Front.nil) (by repeat' constructor) rfl (fun k hi m hm => ?_)
 replace hi : k ≤ l.length ∧ ei (inS a) k (l.drop k) = ei (inS a) 0 l := hi
 replace hm : m = l.length - k := hm
 change Tr _ _ [] ([(5, .int .i64 (k : Nat))] ++ _) _
 obtain ⟨hk1, hk2⟩ := hi
 refine an (ah (zz0 (aa rfl) (zz0 (aa rfl) (zz0 (gK rfl bG) ?_))))
 refine zz0 (bT rfl rfl) (ad ?_)
 refine ao rfl ?_ ?_ <;> intro h1 <;> try simp only [bs] at h1
 ·refine bA (an (aH (ah (zz0 (aa rfl) (zz0 (aa rfl) (zz0 (hZ rfl rfl bG bX) ?_))))))
  refine zz0 (zz2 (off := 1) (ft := 23) rfl bO rfl ae) ?_
  refine zz0 (pL rfl am) ?_
  refine zz0 (aa rfl) (zz0 (om rfl rfl) ?_)
  refine zz0 (aa rfl) ?_
  apply bQ
  ·exact (rfl : _ = (9, 19, 28))
  ·exact rfl
  ·intro hT2; have hT2' := hT2
   try simp only [bs] at hT2'
   refine zz3 hT2 (aa rfl) (zz3 hT2 (fO rfl aP aZ) (zz3 hT2 (aa rfl) (zz3 hT2 (aa rfl) (zz3 hT2 (hZ rfl rfl bG bX) ?_))))
   refine zz3 hT2 (na rfl fL bX) ?_
   refine zz3 hT2 (aD rfl mL (fun w hw => mq (l.getD k default) w (hB.at (by omega)))) ?_
   refine zz3 hT2 (bT rfl rfl) (zz0 (aK rfl hT2 rfl) ?_)
   refine ax (ac ?_)
   exact az (Sub.cons rfl (zz6 9 rfl))
  ·intro hF2
   refine zz4 hF2 (zz4 hF2 (zz4 hF2 (zz4 hF2 (zz4 hF2 (zz4 hF2 (zz4 hF2 (zz4 hF2 (zz0 (aL rfl hF2 rfl) ?_))))))))
   refine ax (ac ?_)
   exact az (Sub.cons rfl (zz6 9 rfl))
  refine ad ?_
  refine ao rfl ?_ ?_ <;> intro h3 <;> try simp only [bs] at h3
  ·refine ah (zz0 (aa rfl) (zz0 (ab rfl) (ad (aC (bj (aA (aA (bj (aA ?_)))))))))
   refine aO Tryz.results126 rfl (fun w' hw => ?_)
   exact ⟨by unfold cR; rw [← hk2, drop_cons (k := k) (by omega), ei, if_pos (by rw [oR]; simp only [UInt32.le_iff_toNat_le] at *; omega)], hw.b0⟩
  refine cg (aY (ac (ar (zz0 (aa rfl) (zz0 (cE rfl rfl) ?_)))))
  refine zz0 (ab rfl) (ad ?_)
  refine cF (k + 1) (Front.c Front.nil) (bD 17 rfl) (o := ⟨by omega, by rw [← hk2, drop_cons (k := k) (by omega), ei, if_neg (by rw [oR]; simp only [UInt32.le_iff_toNat_le] at *; omega)]⟩)
 refine bF (aI (aI (bv (ac (ah (zz0 (ab rfl) (ad (aC ?_))))))))
 refine aO Tryz.results126 rfl (fun w' hw => ?_)
 exact ⟨by unfold cR; rw [← hk2, List.drop_of_length_le (by omega)]; rfl, hw.b0⟩
theorem wv (l : List SecV) (V : Value) (a : UInt32) (n : Int) (w : World) (hV : Sl (hp w) cY l V) (hB : SecB l) :
  Cr Tryz.prog 172 #[V, .int .u32 a.toNat, .int .i64 n] w (.tuple #[.int .i64 (kR l a n).1, .bool (kR l a n).2]) := by
 have hV' : Sl (Bg.of w).blk cY l V := hV
 have hlen := hB.1
 have hf := jQ (l := l) (a := a)
 have hadr := a.toNat_lt
 refine enter Tryz.func172 rfl Tryz.ntmps172 rfl ?_
 refine ah (zz0 (ab rfl) (zz0 (ab rfl) (aM (zz0 (aa rfl) (zz0 (aa rfl) (zz0 (aD rfl Tryz.call126 (fun w hw => pY l V a w (hw.slF hV) hB)) ?_))))))
 refine zz0 (ab rfl) (ad (an (ah (zz0 (aa rfl) (zz0 (bT rfl rfl) (ad ?_))))))
 refine ao rfl ?_ ?_ <;> intro h1 <;> try simp only [bs] at h1
 ·refine ah (zz0 (ab rfl) (zz0 (ab rfl) (ad (aC (aA ?_)))))
  refine cN Tryz.results172 rfl rfl (fun w' hw => ?_)
  exact ⟨by rw [kR, if_pos (by assumption)], hw.b0⟩
 refine bA (an ?_)
 have hen := AZ (l.getD (cR l a).toNat default)
 refine ar (zz0 (aa rfl) (zz0 (aa rfl) (zz0 (aa rfl) (zz0 (aa rfl) (zz0 (lO rfl rfl bG bX) ?_)))))
 refine zz0 (na rfl fL bX) ?_
 refine zz0 (aD rfl mL (fun w hw => mq (l.getD (cR l a).toNat default) w (hB.at (by omega)))) ?_
 refine zz0 (aa rfl) (zz0 (fO rfl aP aZ) (zz0 (er rfl rfl) ?_))
 refine zz0 (fJ rfl rfl) (zz0 (ab rfl) (zz0 (ab rfl) (ad (aC ?_))))
 refine cN Tryz.results172 rfl rfl (fun w' hw => ?_)
 exact ⟨by rw [kR, if_neg (by assumption)], hw.b0⟩
theorem Af (l : List SecV) (V : Value) (a : UInt32) (n : Int) (w : World) (hV : Sl (hp w) cY l V) (hB : SecB l) (hD : DataIn (hp w) l) (hn : n ≤ 9223372036854775807) :
  Calls Tryz.prog 127 #[V, .int .u32 a.toNat, .int .i64 n] w (fun e w' => ∃ V', e = .returned (.tuple #[V', .int .i64 (fK l a n).2]) ∧ Ext w w' ∧ iu w w' 5 dT (fK l a n).1 V') := by
 have hV' : Sl (Bg.of w).blk cY l V := hV
 have hlen := hB.1
 have hadr := a.toNat_lt
 have hf := jQ (l := l) (a := a)
 obtain ⟨ik, iy, hin⟩ : ∃ ik iy, kR l a n = (ik, iy) := ⟨_, _, rfl⟩
 have hno := Eu (l := l) (a := a) (n := n)
 have hye := B7 (l := l) (a := a) (n := n)
 have hplo := xf (l := l) (a := a) (n := n)
 rw [hin] at hno hye
 dsimp only at hno hye
 have di : ∀ w', Sl (hp w') cY l V → Calls Tryz.prog 172 #[V, .int .u32 a.toNat, .int .i64 n] w' (fun e w'' => e = .returned (.tuple #[.int .i64 ik, .bool iy]) ∧ Ext w' w'') := fun w' h => by have q := wv l V a n w' h hB; rw [hin] at q; exact q
 refine enter Tryz.func127 rfl Tryz.ntmps127 rfl ?_
 refine ah (zz0 (ab rfl) (zz0 (ab rfl) (ad (an (ah (zz0 (aa rfl) (zz0 (bT rfl rfl) (ad ?_))))))))
 refine ao rfl ?_ ?_ <;> intro h1 <;> try simp only [bs] at h1
 ·refine ah (zz0 (ab rfl) (zz0 (ab rfl) (ad (aC (aA ?_)))))
  refine cN kX rfl rfl (fun w' hw => ?_)
  exact ⟨_, by rw [fK, if_pos (by assumption)], hw.b0, dH (by rw [fK, if_pos (by assumption)])⟩
 refine bA (an (ah (zz0 (aa rfl) (zz0 (bh rfl rfl) (ad ?_)))))
 refine ao rfl ?_ ?_ <;> intro h2 <;> try simp only [bs] at h2
 ·refine ah (zz0 (ab rfl) (zz0 (ab rfl) (ad (aC (aA ?_)))))
  refine cN kX rfl rfl (fun w' hw => ?_)
  exact ⟨_, by rw [fK, if_neg (by assumption), if_pos (by assumption)], hw.b0, dH (by rw [fK, if_neg (by assumption), if_pos (by assumption)])⟩
 refine cT (zz0 (aa rfl) (zz0 (aa rfl) (zz0 (aa rfl) (zz0 (aD rfl Tryz.call172 (fun w hw => di w (hw.slF hV))) ?_))))
 refine zz0 (aa rfl) (zz0 (aQ rfl rfl) (zz0 (aQ rfl rfl) (zz0 (ab rfl) (zz0 (ab rfl) (ad (an (ah (zz0 (aa rfl) (zz0 (cp rfl) (ad ?_))))))))))
 refine ao rfl ?_ ?_ <;> intro h3 <;> try simp only [bs] at h3
 ·refine ah (zz0 (ab rfl) (zz0 (ab rfl) (ad (aC (aA ?_)))))
  refine cN kX rfl rfl (fun w' hw => ?_)
  have hno' := hno (by assumption)
  exact ⟨_, by rw [fK, if_neg (by assumption), if_neg (by assumption), hno', if_pos (by decide)], hw.b0, dH (by rw [fK, if_neg (by assumption), if_neg (by assumption), hno', if_pos (by decide)])⟩
 refine bA (an ?_)
 obtain ⟨y1, y2, y3⟩ := hye (by simp_all)
 subst y2
 rw [y3] at hplo
 obtain ⟨p1, p2, p3, p4, p5⟩ := hplo rfl
 dsimp only at p1 p2 p3 p4 p5
 have hdl := hB.at (k := (cR l a).toNat) (by omega)
 have hDk : Sl (Bg.of w).blk dT (l.getD (cR l a).toNat default).data (.slice (l.getD (cR l a).toNat default).dp (l.getD (cR l a).toNat default).data.length (l.getD (cR l a).toNat default).dc) := hD _ (de (by omega))
 have hadr2 := (l.getD (cR l a).toNat default).addr.toNat_lt
 obtain ⟨off, hoff⟩ : ∃ off : Nat, (off : Int) = (a.toNat : Int) - (l.getD (cR l a).toNat default).addr.toNat := ⟨((a.toNat : Int) - (l.getD (cR l a).toNat default).addr.toNat).toNat, by omega⟩
 refine ar (zz0 (ab rfl) (ad (an (ah (zz0 (ab rfl) (ad (aH (cn 5 dT ?_))))))))
 refine bK (ι := Nat × Value) (fun ⟨k, V'⟩ => (k : Int) ≤ n) (fun _ => _) (fun ⟨k, V'⟩ => [rowE V' 5 dT (((l.getD (cR l a).toNat default).data.drop off).take k)]) (fun ⟨k, V'⟩ => [(11, .int .i64 (k : Nat)), (10, V')]) (fun ⟨k, V'⟩ => n.toNat - k) (0, _) (by show ((0 : Nat) : Int) ≤ n; omega) (Front.c (Front.c Front.nil)) (by repeat' constructor) rfl (fun i hi m hm => ?_)
 obtain ⟨k, V'⟩ := i
 replace hi : (k : Int) ≤ n := hi
 replace hm : m = n.toNat - k := hm
 change Tr _ _ [rowE V' 5 dT (((l.getD (cR l a).toNat default).data.drop off).take k)] ([(11, .int .i64 (k : Nat)), (10, V')] ++ _) _
 refine an (ah (zz0 (aa rfl) (zz0 (aa rfl) (zz0 (bT rfl rfl) (ad ?_)))))
 refine ao rfl ?_ ?_ <;> intro h4 <;> try simp only [bs] at h4
 ·refine bA (an (aH (fR 1 19 aU ?_)))
  refine eB rfl ?_
  refine bH ?_
  refine aw (aa rfl) (aw (aa rfl) (aw (lO rfl rfl bG bX) ?_))
  refine aw (zz2 (off := 2) (ft := 47) rfl bO rfl fC) ?_
  refine aw (pL rfl fZ) ?_
  refine aw (aa rfl) (aw (fO rfl aP aZ) (aw (aa rfl) (aw (aa rfl) (aw (lO rfl rfl bG bX) ?_))))
  refine aw (zz2 (off := 1) (ft := 23) rfl bO rfl ae) ?_
  refine aw (pL rfl am) ?_
  refine aw (fO rfl aP aZ) (aw (er rfl rfl) ?_)
  refine aw (aa rfl) (aw (cE rfl rfl) ?_)
  refine aw (lO rfl rfl ba du) ?_
  refine aw (jP rfl fD) ?_
  refine bI ?_
  refine jl (E := dT) _ rfl rfl ba du jU (fun V5 => ?_)
  refine zz1 rfl rfl ba ou (fun V6 => ?_)
  refine zz0 (ab rfl) (ax (aY (ac (ar (zz0 (aa rfl) (zz0 (cE rfl rfl) ?_))))))
  refine zz0 (ab rfl) (ad ?_)
  have hst := dw (l := (l.getD (cR l a).toNat default).data.drop off) (k := k) (by rw [List.length_drop]; omega)
  have hgd : ((l.getD (cR l a).toNat default).data.drop off).getD k default = (l.getD (cR l a).toNat default).data.getD ((a.toNat : Int) - (l.getD (cR l a).toNat default).addr.toNat + k).toNat default := by rw [show ((a.toNat : Int) - (l.getD (cR l a).toNat default).addr.toNat + k).toNat = off + k by omega]; simp [List.getD_eq_getElem?_getD]
  rw [hgd] at hst
  rw [← hst]
  refine cF (k + 1, _) (Front.c (Front.c Front.nil)) (bD 30 rfl) (o := (by show ((k + 1 : Nat) : Int) ≤ n; omega))
 refine bF (aI (aI (bv (ac (ah (zz0 (aa rfl) (zz0 (ab rfl) (zz0 (ab rfl) (ad (aC ?_))))))))))
 refine cN kX rfl rfl (fun w' hw => ?_)
 have hrd : fK l a n = (((l.getD (cR l a).toNat default).data.drop off).take k, 0) := by rw [fK, if_neg (by assumption), if_neg (by assumption), y3, if_neg (by simp)]; dsimp only; rw [List.drop_take, show ((a.toNat : Int) - (l.getD (cR l a).toNat default).addr.toNat).toNat = off by omega, show ((a.toNat : Int) - (l.getD (cR l a).toNat default).addr.toNat + n).toNat - off = k by omega]
 exact ⟨_, by rw [hrd], hw.b0, by rw [hrd]; exact hw.new (.head _)⟩
theorem BU (l : List SecV) (V : Value) (i : Nat) (w : World) (hV : Sl (hp w) cY l V) (hB : SecB l) (hi : i < l.length) (hN : (l.getD i default).name.size ≤ 9223372036854775807) :
  Cr Tryz.prog 118 #[V, .int .i64 (i : Nat)] w (.int .i64 (j7 l i)) := by
 have hV' : Sl (Bg.of w).blk cY l V := hV
 have hlen := hB.1
 obtain ⟨s, hs⟩ : ∃ s, s = l.getD i default := ⟨_, rfl⟩
 have hsd : s.data.length ≤ 200000 := by rw [hs]; exact hB.at hi
 have hadr := s.addr.toNat_lt
 have hst := DX s
 refine enter Tryz.func118 rfl Tryz.ntmps118 rfl ?_
 refine ah (zz0 (ab rfl) (aM (zz0 (aa rfl) (zz0 (aa rfl) (zz0 (hZ rfl rfl bG bX) ?_)))))
 refine zz0 (na rfl fL bX) ?_
 refine dB kr rfl (fun b1 => ?_)
 refine aF cY rfl rfl bX ?_
 refine ad (an (an ?_))
 rw [← hs]
 refine ar (zz0 (zz2 (off := 2) (ft := 47) rfl bO rfl fC) ?_)
 refine zz0 (aG rfl fZ) ?_
 refine zz0 (iI rfl ba) ?_
 refine zz0 (eo rfl rfl) (ad ?_)
 refine ao rfl ?_ ?_ <;> intro h2 <;> try simp only [bs] at h2
 ·refine ah (zz0 (ab rfl) (ad (aC (aA ?_))))
  refine aO jc rfl (fun w' hw => ?_)
  exact ⟨by unfold j7; dsimp only; rw [← hs, if_pos (by assumption)], hw.b0⟩
 refine bA (an (ah (zz0 (zz2 (off := 0) (ft := 9) rfl bO rfl kJ) ?_)))
 refine zz0 (aG rfl mg) ?_
 refine zz0 (aD rfl Tryz.call171 (fun w hw => Ag s.name w (by rw [hs]; exact hN))) ?_
 refine zz0 (cp rfl) (ad ?_)
 refine ao rfl ?_ ?_ <;> intro h3 <;> try simp only [bs] at h3
 ·refine ah (zz0 (ab rfl) (ad (aC (aA ?_))))
  refine aO jc rfl (fun w' hw => ?_)
  exact ⟨by unfold j7; dsimp only; rw [← hs, if_neg (by assumption), if_pos (by assumption)], hw.b0⟩
 refine bA (an (ah (zz0 (ab rfl) (ad (aH ?_)))))
 refine bK (ι := Nat) (fun k => k ≤ i ∧ (l.take k).any (fun x => decide (x.name = s.name)) = false) (fun _ => _) (fun k => [cellE b1 (cY.enc s) 49]) (fun k => [(6, .int .i64 (k : Nat))]) (fun k => i - k) 0 ⟨Nat.zero_le _, rfl⟩ (Front.c Front.nil) (by repeat' constructor) rfl (fun k hi m hm => ?_)
 replace hi : k ≤ i ∧ (l.take k).any (fun x => decide (x.name = s.name)) = false := hi
 replace hm : m = i - k := hm
 change Tr _ _ [cellE b1 (cY.enc s) 49] ([(6, .int .i64 (k : Nat))] ++ _) _
 obtain ⟨hk1, hk2⟩ := hi
 refine an (ah (zz0 (aa rfl) (zz0 (aa rfl) (zz0 (bT rfl rfl) (ad ?_)))))
 refine ao rfl ?_ ?_ <;> intro h4 <;> try simp only [bs] at h4
 ·refine bA (an (aH (an (g9 aU ?_))))
  refine aw (aa rfl) (aw (aa rfl) (aw (hZ rfl rfl bG bX) ?_))
  refine aw (zz2 (off := 0) (ft := 9) rfl bO rfl kJ) ?_
  refine aw (pL rfl mg) ?_
  refine aw (zz2 (off := 0) (ft := 9) rfl bO rfl kJ) ?_
  refine aw (aG rfl mg) ?_
  refine aw (vZ rfl rfl) ?_
  refine bI ?_
  refine ac ?_
  refine ao rfl ?_ ?_ <;> intro h5 <;> try simp only [bs] at h5
  ·refine ah (zz0 (ab rfl) (ad (aC (bj (aA (aA (bj (aA ?_))))))))
   refine aO jc rfl (fun w' hw => ?_)
   have hany : (l.take i).any (fun x => decide (x.name = s.name)) = true := List.any_eq_true.2 ⟨l.getD k default, by rw [List.mem_take_iff_getElem]; exact ⟨k, by omega, by simp [List.getD_eq_getElem?_getD, show k < l.length by omega]⟩, decide_eq_true (by assumption)⟩
   exact ⟨by unfold j7; dsimp only; rw [← hs, if_neg (by assumption), if_neg (by simp_all), if_pos hany], hw.b0⟩
  refine cg (aY (ac (ar (zz0 (aa rfl) (zz0 (cE rfl rfl) ?_)))))
  refine zz0 (ab rfl) (ad ?_)
  refine cF (k + 1) (Front.c Front.nil) (bD 15 rfl) (o := ⟨by omega, by rw [any_take_succ (by omega), hk2, Bool.false_or]; exact decide_eq_false (by assumption)⟩)
 refine bF (aI (aI (bv (ac (an (ah (zz0 (zz2 (off := 1) (ft := 23) rfl bO rfl ae) ?_)))))))
 refine zz0 (aG rfl am) ?_
 refine zz0 (fO rfl aP aZ) (zz0 (zz2 (off := 2) (ft := 47) rfl bO rfl fC) ?_)
 refine zz0 (aG rfl fZ) ?_
 refine zz0 (iI rfl ba) ?_
 refine zz0 (cE rfl rfl) ?_
 refine zz0 (eo rfl rfl) (ad ?_)
 refine ao rfl ?_ ?_ <;> intro h6 <;> try simp only [bs] at h6
 ·refine ah (zz0 (ab rfl) (ad (aC (aA ?_))))
  refine aO jc rfl (fun w' hw => ?_)
  have hany : ¬ (l.take i).any (fun x => decide (x.name = s.name)) = true := by obtain rfl : k = i := (by omega); rw [hk2]; decide
  exact ⟨by unfold j7; dsimp only; rw [← hs, if_neg (by assumption), if_neg (by simp_all), if_neg hany, if_pos (.inl (by assumption))], hw.b0⟩
 refine bA (an (ah (zz0 (zz2 (off := 2) (ft := 47) rfl bO rfl fC) ?_)))
 refine zz0 (aG rfl fZ) ?_
 refine zz0 (iI rfl ba) ?_
 refine zz0 (eo rfl rfl) (zz0 (aa rfl) ?_)
 apply bQ
 ·exact (rfl : _ = (5, 44, 49))
 ·exact rfl
 ·intro hT7; have hT7' := hT7
  try simp only [bs] at hT7'
  refine zz3 hT7 (zz2 (off := 1) (ft := 23) rfl bO rfl ae) ?_
  refine zz3 hT7 (aG rfl am) ?_
  refine zz3 hT7 (fO rfl aP aZ) (zz3 hT7 (bT rfl rfl) (zz0 (aK rfl hT7 rfl) ?_))
  refine ax (ac ?_)
  exact az (Sub.cons rfl (zz6 5 rfl))
 ·intro hF7
  refine zz4 hF7 (zz4 hF7 (zz4 hF7 (zz4 hF7 (zz0 (aL rfl hF7 rfl) ?_))))
  refine ax (ac ?_)
  exact az (Sub.cons rfl (zz6 5 rfl))
 refine zz0 (aa rfl) ?_
 apply bQ
 ·exact (rfl : _ = (4, 50, 54))
 ·exact rfl
 ·intro hT8; have hT8' := hT8
  try simp only [bs] at hT8'
  refine zz3 hT8 (bC rfl fL bX) ?_
  refine zz3 hT8 (aD rfl mL (fun w hw => mq s w hsd)) ?_
  refine zz3 hT8 (eo rfl rfl) (zz0 (aK rfl hT8 rfl) ?_)
  refine ax (ac ?_)
  exact az (Sub.cons rfl (zz6 4 rfl))
 ·intro hF8
  refine zz4 hF8 (zz4 hF8 (zz4 hF8 (zz0 (aL rfl hF8 rfl) ?_)))
  refine ax (ac ?_)
  exact az (Sub.cons rfl (zz6 4 rfl))
 refine ad ?_
 refine ao rfl ?_ ?_ <;> intro h9 <;> try simp only [bs] at h9
 ·refine ah (zz0 (ab rfl) (ad (aC (aA ?_))))
  refine aO jc rfl (fun w' hw => ?_)
  have hany : ¬ (l.take i).any (fun x => decide (x.name = s.name)) = true := by obtain rfl : k = i := (by omega); rw [hk2]; decide
  exact ⟨by unfold j7; dsimp only; rw [← hs, if_neg (by assumption), if_neg (by simp_all), if_neg hany, if_pos (.inr (hst.2 (by omega)))], hw.b0⟩
 refine cT (zz0 (ab rfl) (ad (aC ?_)))
 refine aO jc rfl (fun w' hw => ?_)
 have hany : ¬ (l.take i).any (fun x => decide (x.name = s.name)) = true := by obtain rfl : k = i := (by omega); rw [hk2]; decide
 exact ⟨by unfold j7; dsimp only; rw [← hs, if_neg (by assumption), if_neg (by simp_all), if_neg hany, if_neg (fun q => q.elim (by assumption) (fun q => by have := hst.1 q; omega))], hw.b0⟩
theorem ww (l : List SecV) (V : Value) (w : World) (hV : Sl (hp w) cY l V) (hB : SecB l) (hN : ∀ s ∈ l, s.name.size ≤ 9223372036854775807) :
  Cr Tryz.prog 61 #[V] w (.int .i64 (gh l)) := by
 have hV' : Sl (Bg.of w).blk cY l V := hV
 have hlen := hB.1
 refine enter Tryz.func61 rfl Tryz.ntmps61 rfl ?_
 refine ah (zz0 (ab rfl) (ad (an (ah (zz0 (aa rfl) (zz0 (gK rfl bG) ?_))))))
 refine zz0 (eo rfl rfl) (ad ?_)
 refine ao rfl ?_ ?_ <;> intro h1 <;> try simp only [bs] at h1
 ·refine ah (zz0 (ab rfl) (ad (aC (aA ?_))))
  refine aO l7 rfl (fun w' hw => ?_)
  exact ⟨by rw [Du (by assumption)], hw.b0⟩
 refine bA (an (ah (zz0 (ab rfl) (ad (aH ?_)))))
 refine bK (ι := Nat) (fun k => k ≤ l.length ∧ eY (j7 l) k (l.length - k) = eY (j7 l) 0 l.length) (fun _ => _) (fun k => []) (fun k => [(3, .int .i64 (k : Nat))]) (fun k => l.length - k) 0 ⟨Nat.zero_le _, rfl⟩ (Front.c Front.nil) (by repeat' constructor) rfl (fun k hi m hm => ?_)
 replace hi : k ≤ l.length ∧ eY (j7 l) k (l.length - k) = eY (j7 l) 0 l.length := hi
 replace hm : m = l.length - k := hm
 change Tr _ _ [] ([(3, .int .i64 (k : Nat))] ++ _) _
 obtain ⟨hk1, hk2⟩ := hi
 refine an (ah (zz0 (aa rfl) (zz0 (aa rfl) (zz0 (gK rfl bG) ?_))))
 refine zz0 (bT rfl rfl) (ad ?_)
 refine ao rfl ?_ ?_ <;> intro h2 <;> try simp only [bs] at h2
 ·refine bA (an (aH (ah (zz0 (aa rfl) (zz0 (aa rfl) (zz0 (aD rfl Tryz.call118 (fun w hw => BU l V k w (hw.slF hV) hB (by omega) (hN _ (de (by omega))))) ?_))))))
  refine zz0 (ab rfl) (aM (zz0 (aa rfl) (zz0 (ff rfl rfl) (ad ?_))))
  refine ao rfl ?_ ?_ <;> intro h3 <;> try simp only [bs] at h3
  ·refine ah (zz0 (aa rfl) (zz0 (ab rfl) (ad (aC (bj (aA (aA (bj (aA ?_)))))))))
   refine aO l7 rfl (fun w' hw => ?_)
   exact ⟨by rw [sk (v := j7 l k) (by assumption) (by omega) hk2 rfl (by assumption)], hw.b0⟩
  refine cg (aY (ac (ar (zz0 (aa rfl) (zz0 (cE rfl rfl) ?_)))))
  refine zz0 (ab rfl) (ad ?_)
  refine cF (k + 1) (Front.c Front.nil) (bD 14 rfl) (o := ⟨by omega, by rw [mZ (by omega) (by omega), hk2]⟩)
 refine bF (aI (aI (bv (ac (an (ah (zz0 (ab rfl) (ad (aH ?_)))))))))
 have hz1 : eY (j7 l) 0 l.length = 0 := by rw [← hk2]; exact mY (by omega)
 clear hk2 hk1 hm
 refine bK (ι := Nat) (fun k => k ≤ l.length ∧ eY (fun i => if lL l i = true then 10 else 0) k (l.length - k) = eY (fun i => if lL l i = true then 10 else 0) 0 l.length) (fun _ => _) (fun k => []) (fun k => [(5, .int .i64 (k : Nat))]) (fun k => l.length - k) 0 ⟨Nat.zero_le _, rfl⟩ (Front.c Front.nil) (by repeat' constructor) rfl (fun k hi m hm => ?_)
 replace hi : k ≤ l.length ∧ eY (fun i => if lL l i = true then 10 else 0) k (l.length - k) = eY (fun i => if lL l i = true then 10 else 0) 0 l.length := hi
 replace hm : m = l.length - k := hm
 change Tr _ _ [] ([(5, .int .i64 (k : Nat))] ++ _) _
 obtain ⟨hk1, hk2⟩ := hi
 refine an (ah (zz0 (aa rfl) (zz0 (aa rfl) (zz0 (gK rfl bG) ?_))))
 refine zz0 (bT rfl rfl) (ad ?_)
 refine ao rfl ?_ ?_ <;> intro h4 <;> try simp only [bs] at h4
 ·refine bA (an (aH (ah (zz0 (ab rfl) (ad (aH ?_))))))
  refine bK (ι := Nat) (fun j => j ≤ k ∧ (l.take j).any (fun x => pH (fV x) (fV (l.getD k default))) = false) (fun _ => _) (fun j => []) (fun j => [(6, .int .i64 (j : Nat))]) (fun j => k - j) 0 ⟨Nat.zero_le _, rfl⟩ (Front.c Front.nil) (by repeat' constructor) rfl (fun j hi m hm => ?_)
  replace hi : j ≤ k ∧ (l.take j).any (fun x => pH (fV x) (fV (l.getD k default))) = false := hi
  replace hm : m = k - j := hm
  change Tr _ _ [] ([(6, .int .i64 (j : Nat))] ++ _) _
  obtain ⟨hj1, hj2⟩ := hi
  have hmi := Ga (l.getD j default) (l.getD k default)
  refine an (ah (zz0 (aa rfl) (zz0 (aa rfl) (zz0 (bT rfl rfl) (ad ?_)))))
  refine ao rfl ?_ ?_ <;> intro h5 <;> try simp only [bs] at h5
  ·refine bA (an (aH (an (g9 aU ?_))))
   refine aw (aa rfl) (aw (aa rfl) (aw (hZ rfl rfl bG bX) ?_))
   refine aw (zz2 (off := 2) (ft := 47) rfl bO rfl fC) ?_
   refine aw (pL rfl fZ) ?_
   refine aw (iI rfl ba) ?_
   refine aw (eo rfl rfl) (aw (aa rfl) ?_)
   apply fk
   ·exact (rfl : _ = (8, 40, 48))
   ·exact rfl
   ·intro hT6; have hT6' := hT6
    try simp only [bs] at hT6'
    refine bV hT6 (aa rfl) (bV hT6 (aa rfl) (bV hT6 (hZ rfl rfl bG bX) ?_))
    refine bV hT6 (zz2 (off := 2) (ft := 47) rfl bO rfl fC) ?_
    refine bV hT6 (pL rfl fZ) ?_
    refine bV hT6 (iI rfl ba) ?_
    refine bV hT6 (eo rfl rfl) (aw (aK rfl hT6 rfl) ?_)
    exact db (Sub.cons rfl (zz6 8 rfl))
   ·intro hF6
    refine bU hF6 (bU hF6 (bU hF6 (bU hF6 (bU hF6 (bU hF6 (bU hF6 (aw (aL rfl hF6 rfl) ?_)))))))
    exact db (Sub.cons rfl (zz6 8 rfl))
   refine aw (aa rfl) ?_
   apply fk
   ·exact (rfl : _ = (13, 49, 62))
   ·exact rfl
   ·intro hT7; have hT7' := hT7
    try simp only [bs] at hT7'
    refine bV hT7 (aa rfl) (bV hT7 (aa rfl) (bV hT7 (hZ rfl rfl bG bX) ?_))
    refine bV hT7 (zz2 (off := 1) (ft := 23) rfl bO rfl ae) ?_
    refine bV hT7 (pL rfl am) ?_
    refine bV hT7 (fO rfl aP aZ) (bV hT7 (aa rfl) (bV hT7 (aa rfl) (bV hT7 (hZ rfl rfl bG bX) ?_)))
    refine bV hT7 (na rfl fL bX) ?_
    refine bV hT7 (aD rfl mL (fun w hw => mq (l.getD j default) w (hB.at (by omega)))) ?_
    refine bV hT7 (bT rfl rfl) (aw (aK rfl hT7 rfl) ?_)
    exact db (Sub.cons rfl (zz6 13 rfl))
   ·intro hF7
    refine bU hF7 (bU hF7 (bU hF7 (bU hF7 (bU hF7 (bU hF7 (bU hF7 (bU hF7 (bU hF7 (bU hF7 (bU hF7 (bU hF7 (aw (aL rfl hF7 rfl) ?_))))))))))))
    exact db (Sub.cons rfl (zz6 13 rfl))
   refine aw (aa rfl) ?_
   apply fk
   ·exact (rfl : _ = (13, 63, 76))
   ·exact rfl
   ·intro hT8; have hT8' := hT8
    try simp only [bs] at hT8'
    refine bV hT8 (aa rfl) (bV hT8 (aa rfl) (bV hT8 (hZ rfl rfl bG bX) ?_))
    refine bV hT8 (zz2 (off := 1) (ft := 23) rfl bO rfl ae) ?_
    refine bV hT8 (pL rfl am) ?_
    refine bV hT8 (fO rfl aP aZ) (bV hT8 (aa rfl) (bV hT8 (aa rfl) (bV hT8 (hZ rfl rfl bG bX) ?_)))
    refine bV hT8 (na rfl fL bX) ?_
    refine bV hT8 (aD rfl mL (fun w hw => mq (l.getD k default) w (hB.at (by omega)))) ?_
    refine bV hT8 (bT rfl rfl) (aw (aK rfl hT8 rfl) ?_)
    exact db (Sub.cons rfl (zz6 13 rfl))
   ·intro hF8
    refine bU hF8 (bU hF8 (bU hF8 (bU hF8 (bU hF8 (bU hF8 (bU hF8 (bU hF8 (bU hF8 (bU hF8 (bU hF8 (bU hF8 (aw (aL rfl hF8 rfl) ?_))))))))))))
    exact db (Sub.cons rfl (zz6 13 rfl))
   refine bI ?_
   refine ac ?_
   refine ao rfl ?_ ?_ <;> intro h9 <;> try simp only [bs] at h9
   ·refine ah (zz0 (ab rfl) (ad (aC (bj (aA (aA (bj (bj (aA (aA (bj ?_)))))))))))
    refine aA ?_
    refine aO l7 rfl (fun w' hw => ?_)
    have hov : lL l k = true := List.any_eq_true.2 ⟨l.getD j default, by rw [List.mem_take_iff_getElem]; exact ⟨j, by omega, by simp [List.getD_eq_getElem?_getD, show j < l.length by omega]⟩, hmi.2 (by omega)⟩
    exact ⟨by rw [Dt (k := k) (by assumption) hz1 (by omega) hk2 hov], hw.b0⟩
   refine cg (aY (ac (ar (zz0 (aa rfl) (zz0 (cE rfl rfl) ?_)))))
   refine zz0 (ab rfl) (ad ?_)
   have hmf : pH (fV (l.getD j default)) (fV (l.getD k default)) = false := by rw [← Bool.not_eq_true, hmi]; omega
   refine cF (j + 1) (Front.c Front.nil) (bD 20 rfl) (o := ⟨by omega, by rw [any_take_succ (by omega), hj2, hmf]; rfl⟩)
  refine bF (aI (aI (bv (aY (ac (ar (zz0 (aa rfl) (zz0 (cE rfl rfl) ?_))))))))
  refine zz0 (ab rfl) (ad ?_)
  have hz : lL l k = false := by obtain rfl : j = k := (by omega); exact hj2
  refine cF (k + 1) (Front.c Front.nil) (bD 13 rfl) (o := ⟨by omega, by rw [mZ (by omega) (by rw [if_neg (by rw [hz]; decide)]), hk2]⟩)
 refine bF (aI (aI (bv (ac (ah (zz0 (ab rfl) (ad (aC ?_))))))))
 refine aO l7 rfl (fun w' hw => ?_)
 exact ⟨by rw [Ds (by assumption) hz1 (by rw [← hk2]; exact mY (by omega))], hw.b0⟩
end Go.Proofs.YtiajjbhcpeadfaaGreat
namespace Go.HL
open Go
def mn (l : List SecV) : Nat → Int
 | 0 => 0
 | k + 1 => mn l k + min ((l.getD k default).data.length : Int) 600
theorem wV (l : List SecV) (k : Nat) : ∀ n, mn l k ≤ mn l (k + n)
 | 0 => Int.le_refl _
 | n + 1 => by
  have := wV l k n
  show mn l k ≤ mn l (k + n) + min ((l.getD (k + n) default).data.length : Int) 600
  omega
theorem ym {l : List SecV} {k n : Nat} (h : k ≤ n) : mn l k ≤ mn l n := by
 have := wV l k (n - k)
 rw [show k + (n - k) = n by omega] at this; exact this
def u2 (l : List SecV) : Bool := decide ((l.length : Int) < 20) && decide (mn l l.length < 600)
structure Sm16 (l : List SecV) : Prop where
 secB : SecB l
 tot : totD l ≤ 600
theorem zK {l : List SecV} : ∀ {k : Nat}, k ≤ l.length → mn l k < 600 → (totD (l.take k) : Int) = mn l k
 | 0, _, _ => by simp [totD, mn]
 | k + 1, hk, h => by
  have h1 : mn l (k + 1) = mn l k + min ((l.getD k default).data.length : Int) 600 := rfl
  have h2 := ym (l := l) (Nat.zero_le k)
  have h3 : mn l 0 = 0 := rfl
  have ih := zK (l := l) (k := k) (by omega) (by omega)
  have e : totD (l.take (k + 1)) = totD (l.take k) + (l.getD k default).data.length := by
   rw [dw (by omega)]; unfold totD; rw [List.map_append, List.sum_append]; simp
  rw [e]; omega
theorem CW : ∀ {l : List SecV} {s : SecV}, s ∈ l → s.data.length ≤ totD l
 | x :: l, s, h => by
  have e : totD (x :: l) = x.data.length + totD l := by simp [totD]
  rcases List.mem_cons.1 h with rfl | h
  ·omega
  ·have := CW h; omega
theorem HE {l : List SecV} (h : u2 l = true) : Sm16 l := by
 unfold u2 at h
 simp only [Bool.and_eq_true, decide_eq_true_eq] at h
 have ht := zK (l := l) (Nat.le_refl _) h.2
 rw [List.take_length] at ht
 exact ⟨⟨by omega, fun s hs => by have := CW hs; omega⟩, by omega⟩
theorem xe {l : List SecV} {a : UInt32} (h : (fK l a 4).2 = 0) : 0 ≤ cR l a := by
 rcases Int.lt_or_le (cR l a) 0 with q | q
 ·unfold fK at h
  rw [if_neg (by decide), if_neg (by decide), u9 q] at h
  simp at h
 ·exact q
theorem HZ {l : List UInt8} (h : l.length = 4) :
  (((l.getD 0 default).toUInt32 + lK (l.getD 1 default).toUInt32 8) + lK (l.getD 2 default).toUInt32 16) + lK (l.getD 3 default).toUInt32 24 = leP l := by
 obtain ⟨a, b, c, d, rfl⟩ : ∃ a b c d, l = [a, b, c, d] := by
  match l, h with
  | [a, b, c, d], _ => exact ⟨a, b, c, d, rfl⟩
 rw [← UInt32.toNat_inj]
 have ha := a.toNat_lt
 have hb := b.toNat_lt
 have hc := c.toNat_lt
 have hd := d.toNat_lt
 simp [leP, UInt32.toNat_add, UInt32.toNat_mul, lg]
 omega
theorem EY {l : List SecV} {a : UInt32} (h : ((fK l a 4).2 ≠ 0 ∨ ((fK l a 4).1.length : Int) ≠ 4) ∨ (l.getD (cR l a).toNat default).wr = true) : k7 l a = (0, false) := by
  unfold k7
  split
  · rfl
  · rename_i q
    rw [if_pos (by rcases h with h | h
                   · exact absurd (by rcases h with h | h
                                      · exact .inl h
                                      · exact .inr (by omega)) q
                   · exact .inr h)]
theorem DL {l : List SecV} {a : UInt32} (h0 : (fK l a 4).2 = 0) (h1 : ((fK l a 4).1.length : Int) = 4) (h2 : (l.getD (cR l a).toNat default).wr = false) : k7 l a = (leP (fK l a 4).1, true) := by
 have := xe h0
 unfold k7
 rw [if_neg (by omega), if_neg (by rw [h2]; simp; omega)]
def uT (l : List SecV) (t : UInt32) (s : VSet) : List UInt32 × Int := if 64 ≤ s.hi then ([], 19) else match nf l t s (s.hi.toNat + 1) with
 | none => ([], 19)
 | some out => (out, 0)
end Go.HL
namespace Go.Proofs.YtiajjbhcpeadfaaGreat
open Go Go.HL Go.RowKit
theorem Fl (l : List SecV) (V : Value) (w : World) (hV : Sl (hp w) cY l V) (hz : ∀ s ∈ l, s.data.length ≤ 140737488351232) :
  Cr Tryz.prog 10 #[V] w (.bool (u2 l)) := by
 have hV' : Sl (Bg.of w).blk cY l V := hV
 have hlen := hV.len_le
 refine enter Tryz.func10 rfl Tryz.ntmps10 rfl ?_
 refine ah (zz0 (ab rfl) (ad (an (ah (zz0 (aa rfl) (zz0 (gK rfl bG) ?_))))))
 refine zz0 (d6 rfl rfl) (ad ?_)
 refine ao rfl ?_ ?_ <;> intro h1 <;> try simp only [bs] at h1
 ·refine ah (zz0 (ab rfl) (ad (aC (aA ?_))))
  refine aO Tryz.results10 rfl (fun w' hw => ?_)
  exact ⟨by unfold u2; rw [decide_eq_false (by omega), Bool.false_and], hw.b0⟩
 refine cT (zz0 (ab rfl) (ad (an (ah (zz0 (ab rfl) (ad (aH ?_)))))))
 refine bK (ι := Nat) (fun k => k ≤ l.length ∧ mn l k < 600) (fun _ => _) (fun k => []) (fun k => [(4, .int .i64 (k : Nat)), (3, .int .i64 (mn l k))]) (fun k => l.length - k) 0 ⟨Nat.zero_le _, by show (0 : Int) < 600; decide⟩ (Front.c (Front.c Front.nil)) (by repeat' constructor) rfl (fun k hi m hm => ?_)
 replace hi : k ≤ l.length ∧ mn l k < 600 := hi
 replace hm : m = l.length - k := hm
 change Tr _ _ [] ([(4, .int .i64 (k : Nat)), (3, .int .i64 (mn l k))] ++ _) _
 obtain ⟨hk1, hk2⟩ := hi
 have hk0 : 0 ≤ mn l k := ym (l := l) (Nat.zero_le k)
 have hbk : k < l.length → (l.getD k default).data.length ≤ 140737488351232 := fun q => hz _ (de q)
 refine an (ah (zz0 (aa rfl) (zz0 (aa rfl) (zz0 (gK rfl bG) ?_))))
 refine zz0 (bT rfl rfl) (ad ?_)
 refine ao rfl ?_ ?_ <;> intro h2 <;> try simp only [bs] at h2
 ·refine bA (an (aH (ah (zz0 (aa rfl) (zz0 (aa rfl) (zz0 (aa rfl) (zz0 (hZ rfl rfl bG bX) ?_)))))))
  refine zz0 (zz2 (off := 2) (ft := 47) rfl bO rfl fC) ?_
  refine zz0 (pL rfl fZ) ?_
  refine zz0 (iI rfl ba) ?_
  refine zz0 (sE rfl rfl) ?_
  refine zz0 (cE rfl rfl) ?_
  refine zz0 (ab rfl) (aM (zz0 (aa rfl) (zz0 (d6 rfl rfl) (ad ?_))))
  refine ao rfl ?_ ?_ <;> intro h3 <;> try simp only [bs] at h3
  ·refine ah (zz0 (ab rfl) (ad (aC (bj (aA (aA (bj (aA ?_))))))))
   refine aO Tryz.results10 rfl (fun w' hw => ?_)
   have hle := ym (l := l) (show k + 1 ≤ l.length by omega)
   have he : mn l (k + 1) = mn l k + min ((l.getD k default).data.length : Int) 600 := rfl
   exact ⟨by unfold u2; rw [decide_eq_false (p := mn l l.length < 600) (by omega), Bool.and_false], hw.b0⟩
  refine cg (aY (ac (ar (zz0 (aa rfl) (zz0 (cE rfl rfl) ?_)))))
  refine zz0 (ab rfl) (ad ?_)
  refine cF (k + 1) (Front.c (Front.c Front.nil)) (bD 21 rfl) (o := ⟨by omega, by show mn l k + min ((l.getD k default).data.length : Int) 600 < 600; omega⟩)
 refine bF (aI (aI (bv (ac (ah (zz0 (ab rfl) (ad (aC ?_))))))))
 refine aO Tryz.results10 rfl (fun w' hw => ?_)
 obtain rfl : k = l.length := by omega
 exact ⟨by unfold u2; rw [decide_eq_true hk2, decide_eq_true (by omega)]; rfl, hw.b0⟩
theorem EX (l : List SecV) (V : Value) (a : UInt32) (w : World) (hV : Sl (hp w) cY l V) (hB : SecB l) (hD : DataIn (hp w) l) :
  Cr Tryz.prog 66 #[V, .int .u32 a.toNat] w (.tuple #[.int .u32 (k7 l a).1.toNat, .bool (k7 l a).2]) := by
 have hV' : Sl (Bg.of w).blk cY l V := hV
 have hff := jQ (l := l) (a := a)
 have hD' : DataIn (Bg.of w).blk l := hD
 refine enter Tryz.func66 rfl Tryz.ntmps66 rfl ?_
 refine ah (zz0 (ab rfl) (zz0 (ab rfl) (aM (zz0 (aa rfl) (zz0 (aa rfl) ?_)))))
 refine fh (fun V => .tuple #[V, .int .i64 (fK l a 4).2]) rfl Tryz.call127 (fun w hw => Af l V a 4 w (hw.slF hV') hB (hD'.mono hw.bg) (by omega)) rfl (fun V1 => ?_)
 refine zz0 (aa rfl) (zz0 (aQ rfl rfl) (zz0 (aQ rfl rfl) (zz0 (ab rfl) (zz0 (ab rfl) (ad (an (ah (zz0 (aa rfl) (zz0 (ff rfl rfl) (zz0 (aa rfl) ?_))))))))))
 apply cw
 ·exact (rfl : _ = (4, 16, 20))
 ·exact rfl
 ·intro hF2; have hF2' := hF2
  try simp only [bs] at hF2'
  refine zz3 hF2 (aa rfl) (zz3 hF2 (lz rfl ba) ?_)
  refine zz3 hF2 (ff rfl rfl) (zz0 (aL rfl hF2 rfl) ?_)
  refine ax (ac ?_)
  exact az (Sub.cons rfl (zz6 4 rfl))
 ·intro hT2
  refine zz4 hT2 (zz4 hT2 (zz4 hT2 (zz0 (aK rfl hT2 rfl) ?_)))
  refine ax (ac ?_)
  exact az (Sub.cons rfl (zz6 4 rfl))
 refine zz0 (aa rfl) ?_
 apply cw
 ·exact (rfl : _ = (8, 21, 29))
 ·exact rfl
 ·intro hF3; have hF3' := hF3
  try simp only [bs] at hF3'
  refine zz3 hF3 (aa rfl) (zz3 hF3 (aa rfl) (zz3 hF3 (aa rfl) (zz3 hF3 (aD rfl Tryz.call126 (fun w hw => pY l V a w (hw.slF hV') hB)) ?_)))
  have hfi := xe (l := l) (a := a) (by omega)
  refine zz3 hF3 (lO rfl rfl bG bX) ?_
  refine zz3 hF3 (zz2 (off := 3) (ft := 4) rfl bO rfl bN) ?_
  refine zz3 hF3 (pL rfl cm) ?_
  refine zz0 (aL rfl hF3 rfl) ?_
  refine ax (ac ?_)
  exact az (Sub.cons rfl (zz6 8 rfl))
 ·intro hT3
  refine zz4 hT3 (zz4 hT3 (zz4 hT3 (zz4 hT3 (zz4 hT3 (zz4 hT3 (zz4 hT3 (zz0 (aK rfl hT3 rfl) ?_)))))))
  refine ax (ac ?_)
  exact az (Sub.cons rfl (zz6 8 rfl))
 refine ad ?_
 refine ao rfl ?_ ?_ <;> intro h4 <;> try simp only [bs] at h4
 ·have hq2 := h4
  refine ah (zz0 (ab rfl) (zz0 (ab rfl) (ad (aC (aA ?_)))))
  refine cN Tryz.results66 rfl rfl (fun w' hw => ?_)
  exact ⟨by rw [EY hq2]; rfl, hw.b0⟩
 have hq2 := h4
 refine bA (an (g9 aU ?_))
 refine aw (aa rfl) (aw (zz9 (E := dT) (l := (fK l a 4).1) (i := 0) rfl rfl ba du) ?_)
 refine aw (eh rfl fD) ?_
 refine aw (gj rfl cd aP) (aw (aa rfl) (aw (zz9 (E := dT) (l := (fK l a 4).1) (i := 1) rfl rfl ba du) ?_))
 refine aw (eh rfl fD) ?_
 refine aw (gj rfl cd aP) (aw (kx rfl rfl (by omega)) ?_)
 refine aw (fN rfl rfl) ?_
 refine aw (aa rfl) (aw (zz9 (E := dT) (l := (fK l a 4).1) (i := 2) rfl rfl ba du) ?_)
 refine aw (eh rfl fD) ?_
 refine aw (gj rfl cd aP) (aw (kx rfl rfl (by omega)) ?_)
 refine aw (fN rfl rfl) ?_
 refine aw (aa rfl) (aw (zz9 (E := dT) (l := (fK l a 4).1) (i := 3) rfl rfl ba du) ?_)
 refine aw (eh rfl fD) ?_
 refine aw (gj rfl cd aP) (aw (kx rfl rfl (by omega)) ?_)
 refine aw (fN rfl rfl) ?_
 refine aw (ab rfl) (aw (ab rfl) (bI ?_))
 refine ac (aC ?_)
 refine cN Tryz.results66 rfl rfl (fun w' hw => ?_)
 refine ⟨?_, hw.b0⟩
 rw [DL (by omega) (by omega) (by simp_all)]
 exact congrArg (fun x : UInt32 => Ending.returned (.tuple #[.int .u32 x.toNat, .bool true])) (HZ (by omega))
theorem rY (l : List SecV) (V : Value) (a : UInt32) (w : World) (hV : Sl (hp w) cY l V) (hB : SecB l) :
  Cr Tryz.prog 65 #[V, .int .u32 a.toNat] w (.bool (yn l a)) := by
 have hV' : Sl (Bg.of w).blk cY l V := hV
 have hff := jQ (l := l) (a := a)
 refine enter Tryz.func65 rfl Tryz.ntmps65 rfl ?_
 refine ah (zz0 (ab rfl) (aM (zz0 (aa rfl) (zz0 (aa rfl) (zz0 (aD rfl Tryz.call126 (fun w hw => pY l V a w (hw.slF hV') hB)) ?_)))))
 refine zz0 (ab rfl) (aM (zz0 (aa rfl) (zz0 (d6 rfl rfl) (zz0 (aa rfl) ?_))))
 apply bQ
 ·exact (rfl : _ = (6, 11, 17))
 ·exact rfl
 ·intro hT1; have hT1' := hT1
  try simp only [bs] at hT1'
  refine zz3 hT1 (aa rfl) (zz3 hT1 (aa rfl) (zz3 hT1 (lO rfl rfl bG bX) ?_))
  refine zz3 hT1 (zz2 (off := 4) (ft := 4) rfl bO rfl bN) ?_
  refine zz3 hT1 (pL rfl cm) ?_
  refine zz0 (aK rfl hT1 rfl) ?_
  refine ax (ac ?_)
  exact az (Sub.cons rfl (zz6 6 rfl))
 ·intro hF1
  refine zz4 hF1 (zz4 hF1 (zz4 hF1 (zz4 hF1 (zz4 hF1 (zz0 (aL rfl hF1 rfl) ?_)))))
  refine ax (ac ?_)
  exact az (Sub.cons rfl (zz6 6 rfl))
 refine zz0 (ab rfl) (ad (aC ?_))
 refine aO Tryz.results65 rfl (fun w' hw => ?_)
 exact ⟨rfl, hw.b0⟩
end Go.Proofs.YtiajjbhcpeadfaaGreat
