/- Own rules and walks, part 4. -/
import Derived.Test.YtpeaodkfbjenpaaGreatB3
set_option linter.unusedSimpArgs false
set_option linter.unusedVariables false
set_option linter.unusedSectionVars false
set_option maxRecDepth 100000
set_option maxHeartbeats 16000000
namespace Go.Proofs.YtpeaodkfbjenpaaGreat
open Go Go.HL Go.RowKit
def nP (op : Int) : Nat :=
 if op = 3 ∨ op = 4 then 84 else if op = 16 ∨ op = 17 ∨ op = 18 then 85 else if op = 20 ∨ op = 21 ∨ op = 22 then 86 else if op = 23 ∨ op = 24 ∨ op = 2 then 87 else if op = 26 ∨ op = 27 then 88 else 89
def lU (op : Int) : Value := .func (.func (nP op)) #[] #[]
theorem j5 (s : St) (bc bM : Nat) (vi vo eff : Value) (w : World) (hc : CellsIn (hp w) bc (bN s bM vi vo eff)) :
  Calls Tryz.prog 35 #[.pointer (some ⟨bc, 0, none⟩)] w (fun e w' => e = .returned (.bool true) ∧ Ext w w') := by
 have hc' : CellsIn (Bg.of w).blk bc (bN s bM vi vo eff) := hc
 refine enter Tryz.func35 rfl Tryz.ntmps35 rfl ?_
 refine af (ab (zz0 (ac rfl) (ae (aa (af (ab (zz0 (ad rfl) (zz0 (qf rfl rfl fZ rfl) ?_))))))))
 refine zz0 (ad rfl) ?_
 apply bJ
 ·exact (rfl : _ = (6, 5, 11))
 ·exact rfl
 ·intro hT1; have hT1' := hT1
  try simp only [bs] at hT1'
  refine zz5 hT1 (ad rfl) (zz5 hT1 (aE rfl) ?_)
  refine zz5 hT1 (zz3 (off := 13) (ft := 68) rfl aB rfl fk) ?_
  refine zz5 hT1 (fM rfl (by assumption) fR (by rfl)) ?_
  refine zz5 hT1 (qf rfl rfl g7 rfl) ?_
  refine zz0 (aL rfl hT1 rfl) ?_
  refine ae (aa ?_)
  exact av (Sub.cons rfl (zz8 6 rfl))
 ·intro hF1
  refine zz6 hF1 (zz6 hF1 (zz6 hF1 (zz6 hF1 (zz6 hF1 (zz0 (aK rfl hF1 rfl) ?_)))))
  refine ae (aa ?_)
  exact av (Sub.cons rfl (zz8 6 rfl))
 refine zz0 (ac rfl) (ae (aa (ao ?_)))
 refine aI Tryz.results35 rfl (fun w' hw => ?_)
 exact ⟨rfl, hw.below (Bg.le.refl _)⟩
theorem ul (s : St) (bc bM : Nat) (vi vo eff : Value) (i : Ins) (w : World) (hc : CellsIn (hp w) bc (bN s bM vi vo eff)) (hB : 0 ≤ i.b ∧ i.b < 8) :
  Calls Tryz.prog 118 #[.pointer (some ⟨bc, 0, none⟩), .agg (em.enc i).toArray] w (fun e w' => e = .returned (.int .u32 (fL s.m i).toNat) ∧ Ext w w') := by
 have hc' : CellsIn (Bg.of w).blk bc (bN s bM vi vo eff) := hc
 refine enter Tryz.func118 rfl Tryz.ntmps118 rfl ?_
 refine af (ab ?_)
 refine cH rfl rfl rfl (fun b1 => ?_)
 refine zz0 (ac rfl) (ae (aa (af (af (ab (zz0 (zz3 (off := 3) (ft := 3) rfl ag rfl aj) ?_))))))
 refine zz0 (aM rfl aC) ?_
 refine zz0 (aN rfl rfl) (ae (aa ?_))
 refine ak rfl ?_ ?_ <;> intro h2 <;> try simp only [bs] at h2
 ·refine af (bH ([cellE b1 (em.enc i) 114]) 9 rfl aU ?_)
  refine zz2 0 rfl (ad rfl) ?_
  refine zz2 1 rfl (zz3 (off := 7) (ft := 3) rfl ag rfl aj) ?_
  refine zz2 2 rfl (aM rfl aC) ?_
  refine zz2 3 rfl (aE rfl) ?_
  refine zz2 4 rfl (zz3 (off := 0) (ft := 40) rfl aB rfl aS) ?_
  refine zz2 5 rfl (zz3 (off := 0) (ft := 36) rfl aA rfl bF) ?_
  refine zz2 6 rfl (ff rfl rfl aZ ah) ?_
  refine eU 7 rfl (by kernel_rfl) (aX (aX bL)) (fM rfl hc' ay (il hB (by simp))) ?_
  refine zz2 8 rfl (ac rfl) ?_
  refine dZ ?_
  refine aa (ao (an ?_))
  refine aI Tryz.results118 rfl (fun w' hw => ?_)
  exact ⟨by unfold fL; rw [if_pos (by assumption)], hw.below (Bg.le.refl _)⟩
 ·refine ax (aa (af (ab (zz0 (zz3 (off := 1) (ft := 23) rfl ag rfl ah) ?_))))
  refine zz0 (aM rfl ay) ?_
  refine zz0 (ac rfl) (ae (aa (ao ?_)))
  refine aI Tryz.results118 rfl (fun w' hw => ?_)
  exact ⟨by unfold fL; rw [if_neg (by assumption)], hw.below (Bg.le.refl _)⟩
theorem iL (s : St) (bc bM : Nat) (vi vo eff : Value) (i : Ins) (w : World) (ho : OwnAt w [cellE bc (bN s bM vi vo eff) 82]) (hI : InsOK i) :
  Calls Tryz.prog 115 #[.pointer (some ⟨bc, 0, none⟩), .agg (em.enc i).toArray] w (fun e w' => ∃ _ : Unit, e = .returned (.tuple #[]) ∧ Upd 0 w w' (bZ [cellE bc (bN s bM vi vo eff) 82]) [cellE bc (bN (s.to (cv i)) bM vi vo eff) 82] ∧ True) := by
 refine ij (L := [cellE bc (bN s bM vi vo eff) 82]) ho rfl (Nat.zero_le _) Tryz.func115 rfl Tryz.ntmps115 rfl ?_
 refine af (ab ?_)
 refine cH rfl rfl rfl (fun b1 => ?_)
 refine ae (aa (ab (zz0 (ad rfl) (zz0 (bK rfl bo aH) ?_))))
 refine zz0 (aF rfl l6 (fun w hw => nf i w hI)) ?_
 refine zz0 (aE rfl) ?_
 refine zz0 (zz3 (off := 0) (ft := 40) rfl aB rfl aS) ?_
 refine zz0 (zz3 (off := 8) (ft := 23) rfl aA rfl ah) ?_
 refine zz4 rfl rfl ah (kH _) ?_
 refine ae ?_
 refine gg Tryz.results115 (fun w' hw => ?_)
 exact ⟨(), rfl, hw.upd (Bg.le.refl _) (by repeat' constructor), trivial⟩
theorem wz (s : St) (bc bM : Nat) (vi vo eff : Value) (i : Ins) (w : World) (ho : OwnAt w [cellE bc (bN s bM vi vo eff) 82]) (hI : InsOK i) (hA : 0 ≤ i.a ∧ i.a < 8) (hB : 0 ≤ i.b ∧ i.b < 8) :
  Calls Tryz.prog 89 #[.pointer (some ⟨bc, 0, none⟩), .agg (em.enc i).toArray] w (fun e w' => ∃ _ : Unit, e = .returned (.int .i64 0) ∧ Upd 0 w w' (bZ [cellE bc (bN s bM vi vo eff) 82]) [cellE bc (bN (fW s i (cv i)) bM vi vo eff) 82] ∧ True) := by
 refine ij (L := [cellE bc (bN s bM vi vo eff) 82]) ho rfl (Nat.zero_le _) Tryz.func89 rfl Tryz.ntmps89 rfl ?_
 refine af (ab ?_)
 refine cH rfl rfl rfl (fun b1 => ?_)
 refine zz0 (ac rfl) (ae (aa (af (bH ([cellE bc (bN s bM vi vo eff) 82, cellE b1 (em.enc i) 114]) 13 rfl aU ?_))))
 refine zz2 0 rfl (ad rfl) ?_
 refine zz2 1 rfl (zz3 (off := 6) (ft := 3) rfl ag rfl aj) ?_
 refine zz2 2 rfl (aM rfl aC) ?_
 refine zz2 3 rfl (aE rfl) ?_
 refine zz2 4 rfl (zz3 (off := 0) (ft := 40) rfl aB rfl aS) ?_
 refine zz2 5 rfl (zz3 (off := 0) (ft := 36) rfl aA rfl bF) ?_
 refine zz2 6 rfl (ff rfl rfl aZ ah) ?_
 refine eU 7 rfl (by kernel_rfl) (aX bL) (dU rfl (by repeat constructor) ay (il hA (by simp))) ?_
 refine zz2 8 rfl (ad rfl) ?_
 refine zz2 9 rfl (bK rfl bo aH) ?_
 refine bX [10] (fun iq hq => ?_)
 obtain rfl := List.mem_singleton.1 hq
 refine aV rfl ?_
 refine zz0 (aF rfl Tryz.call118 (fun w hw => ul s bc bM vi vo eff i w (cellE.cellsIn (hw.ent _ (by repeat constructor)) (Ext.refl _)) hB)) ?_
 refine bB ?_
 refine zz2 11 rfl (ac rfl) ?_
 refine zz2 12 rfl (ac rfl) ?_
 refine dZ ?_
 refine aa (af (bH ([cellE bc (bN s bM vi vo eff) 82, cellE b1 (em.enc i) 114]) 9 rfl aU ?_))
 refine zz2 0 rfl (ad rfl) ?_
 refine zz2 1 rfl (ad rfl) ?_
 refine zz2 2 rfl (aE rfl) ?_
 refine zz2 3 rfl (zz3 (off := 0) (ft := 40) rfl aB rfl aS) ?_
 refine zz2 4 rfl (zz3 (off := 9) (ft := 38) rfl aA rfl bG) ?_
 refine eU 5 rfl (by kernel_rfl) (aX bL) (fe (vs := gR.enc s.m.f) rfl (by repeat constructor) dM bG rfl rfl) ?_
 refine bX [6] (fun iq hq => ?_)
 obtain rfl := List.mem_singleton.1 hq
 refine aV rfl ?_
 refine cZ dC rfl (fun b2 => ?_)
 refine bB ?_
 refine zz2 7 rfl (ac rfl) ?_
 refine bX [8] (fun iq hq => ?_)
 obtain rfl := List.mem_singleton.1 hq
 refine aV rfl ?_
 refine bA gR rfl rfl bG ?_
 refine bB ?_
 refine dZ ?_
 refine aa ?_
 refine eE (ι := UInt32 × Flg × Bool) (fun ⟨r, f, dn⟩ => r = (gd s.m i).1 ∧ f = (gd s.m i).2 ∧ dn = (decide (i.op = 1) || s.done)) (fun _ => (Bg.lessB w (bZ [cellE bc (bN s bM vi vo eff) 82]) 0)) (fun ⟨r, f, dn⟩ => [cellE b2 (gR.enc f) 38, cellE b1 (em.enc i) 114, cellE bc (bN { s with done := dn } bM vi vo eff) 82]) (fun ⟨r, f, dn⟩ => [(7, .int .u32 r.toNat)]) ?_ (fun i hi => ?_)
 ·skip
  refine af (ab (zz0 (zz3 (off := 2) (ft := 3) rfl ag rfl aj) ?_))
  refine zz0 (aM rfl aC) ?_
  refine ae (aa (aQ (af (ab (zz0 (aN rfl rfl) (zz0 (ac rfl) (ae (aa ?_))))))))
  refine ak rfl ?_ ?_ <;> intro h3 <;> try simp only [bs] at h3
  ·refine ab (zz0 (ad rfl) (zz0 (aE rfl) ?_))
   refine zz0 (zz3 (off := 17) (ft := 4) rfl aB rfl bv) ?_
   refine zz4 rfl rfl bv ((rfl : splice (bN s bM vi vo eff) 17 [.bool true] = bN { s with done := true } bM vi vo eff)) ?_
   refine ae (ba (aa ?_))
   apply a9 (s.m.reg i.a, s.m.f, true)
   ·exact rfl
   ·exact (.cons (by first | rfl | exact am rfl (by omega) | exact am rfl (by rw [hh]; rfl) | exact am rfl (by simp) | exact aR rfl (by simp)) Front.nil)
   ·exact bR 7 rfl
   ·exact (by repeat' constructor)
   ·exact ⟨by unfold gd; repeat (first | rw [if_pos (by omega)] | rw [if_neg (by omega)]), by unfold gd; repeat (first | rw [if_pos (by omega)] | rw [if_neg (by omega)]), by first | (rw [decide_eq_true (by omega)]; rfl) | (rw [decide_eq_false (by omega)]; rfl)⟩
  ·refine af (ab (zz0 (aN rfl rfl) (zz0 (ac rfl) (ae (aa ?_)))))
   refine ak rfl ?_ ?_ <;> intro h4 <;> try simp only [bs] at h4
   ·refine ab (zz0 (ad rfl) (zz0 (ac rfl) (ae (ba (aa ?_)))))
    apply a9 (fL s.m i, s.m.f, s.done)
    ·exact rfl
    ·exact (.cons (by first | rfl | exact am rfl (by omega) | exact am rfl (by rw [hh]; rfl) | exact am rfl (by simp) | exact aR rfl (by simp)) Front.nil)
    ·exact bR 8 rfl
    ·exact (by repeat' constructor)
    ·exact ⟨by unfold gd; repeat (first | rw [if_pos (by omega)] | rw [if_neg (by omega)]), by unfold gd; repeat (first | rw [if_pos (by omega)] | rw [if_neg (by omega)]), by first | (rw [decide_eq_true (by omega)]; rfl) | (rw [decide_eq_false (by omega)]; rfl)⟩
   ·refine af (ab (zz0 (aN rfl rfl) (zz0 (ac rfl) (ae (aa ?_)))))
    refine ak rfl ?_ ?_ <;> intro h5 <;> try simp only [bs] at h5
    ·refine ab (zz0 (ad rfl) (zz0 (ad rfl) (zz0 (aF rfl Tryz.call119 (fun w hw => zf (s.m.reg i.a) (fL s.m i) w)) ?_)))
     refine zz0 (ad rfl) (zz0 (az rfl rfl) (zz0 (az rfl rfl) (zz0 (ac rfl) (bA gR rfl rfl bG ?_))))
     refine ae (ba (aa ?_))
     apply a9 (s.m.reg i.a + fL s.m i, tW (s.m.reg i.a) (fL s.m i), s.done)
     ·exact rfl
     ·exact (.cons (by first | rfl | exact am rfl (by omega) | exact am rfl (by rw [hh]; rfl) | exact am rfl (by simp) | exact aR rfl (by simp)) Front.nil)
     ·exact bR 15 rfl
     ·exact (by repeat' constructor)
     ·exact ⟨by unfold gd; repeat (first | rw [if_pos (by omega)] | rw [if_neg (by omega)]), by unfold gd; repeat (first | rw [if_pos (by omega)] | rw [if_neg (by omega)]), by first | (rw [decide_eq_true (by omega)]; rfl) | (rw [decide_eq_false (by omega)]; rfl)⟩
    ·refine af (ab (zz0 (aN rfl rfl) (zz0 (ac rfl) (ae (aa ?_)))))
     refine ak rfl ?_ ?_ <;> intro h6 <;> try simp only [bs] at h6
     ·refine ab (zz0 (ad rfl) (zz0 (ad rfl) (zz0 (aF rfl Tryz.call120 (fun w hw => sD (s.m.reg i.a) (fL s.m i) w)) ?_)))
      refine zz0 (ad rfl) (zz0 (az rfl rfl) (zz0 (az rfl rfl) (zz0 (ac rfl) (bA gR rfl rfl bG ?_))))
      refine ae (ba (aa ?_))
      apply a9 (s.m.reg i.a - fL s.m i, o7 (s.m.reg i.a) (fL s.m i), s.done)
      ·exact rfl
      ·exact (.cons (by first | rfl | exact am rfl (by omega) | exact am rfl (by rw [hh]; rfl) | exact am rfl (by simp) | exact aR rfl (by simp)) Front.nil)
      ·exact bR 17 rfl
      ·exact (by repeat' constructor)
      ·exact ⟨by unfold gd; repeat (first | rw [if_pos (by omega)] | rw [if_neg (by omega)]), by unfold gd; repeat (first | rw [if_pos (by omega)] | rw [if_neg (by omega)]), by first | (rw [decide_eq_true (by omega)]; rfl) | (rw [decide_eq_false (by omega)]; rfl)⟩
     ·refine af (ab (zz0 (aN rfl rfl) (zz0 (ac rfl) (ae (aa ?_)))))
      refine ak rfl ?_ ?_ <;> intro h7 <;> try simp only [bs] at h7
      ·refine ab (zz0 (ad rfl) (zz0 (ad rfl) (zz0 (aF rfl Tryz.call120 (fun w hw => sD (s.m.reg i.a) (fL s.m i) w)) ?_)))
       refine zz0 (ad rfl) (zz0 (az rfl rfl) (zz0 (az rfl rfl) (bA gR rfl rfl bG ?_)))
       refine ae (ba (aa ?_))
       apply a9 (s.m.reg i.a, o7 (s.m.reg i.a) (fL s.m i), s.done)
       ·exact rfl
       ·exact (.cons (by first | rfl | exact am rfl (by omega) | exact am rfl (by rw [hh]; rfl) | exact am rfl (by simp) | exact aR rfl (by simp)) Front.nil)
       ·exact bR 18 rfl
       ·exact (by repeat' constructor)
       ·exact ⟨by unfold gd; repeat (first | rw [if_pos (by omega)] | rw [if_neg (by omega)]), by unfold gd; repeat (first | rw [if_pos (by omega)] | rw [if_neg (by omega)]), by first | (rw [decide_eq_true (by omega)]; rfl) | (rw [decide_eq_false (by omega)]; rfl)⟩
      ·refine af (ab (zz0 (aN rfl rfl) (zz0 (ac rfl) (ae (aa ?_)))))
       refine ak rfl ?_ ?_ <;> intro h8 <;> try simp only [bs] at h8
       ·refine bH ([cellE bc (bN s bM vi vo eff) 82, cellE b1 (em.enc i) 114]) 12 rfl aU ?_
        refine zz2 0 rfl (ad rfl) ?_
        refine zz2 1 rfl (zz3 (off := 7) (ft := 3) rfl ag rfl aj) ?_
        refine zz2 2 rfl (aM rfl aC) ?_
        refine zz2 3 rfl (aE rfl) ?_
        refine zz2 4 rfl (zz3 (off := 0) (ft := 40) rfl aB rfl aS) ?_
        refine zz2 5 rfl (zz3 (off := 0) (ft := 36) rfl aA rfl bF) ?_
        refine zz2 6 rfl (ff rfl rfl aZ ah) ?_
        refine eU 7 rfl (by kernel_rfl) (dE (aX bL)) (dU rfl (by repeat constructor) ay (il hB (by simp))) ?_
        refine zz2 8 rfl (zz3 (off := 1) (ft := 23) rfl ag rfl ah) ?_
        refine zz2 9 rfl (aM rfl ay) ?_
        refine zz2 10 rfl (cJ rfl rfl) ?_
        refine zz2 11 rfl (ac rfl) ?_
        refine dZ ?_
        refine ba (aa ?_)
        apply a9 (s.m.reg i.b + i.imm, s.m.f, s.done)
        ·exact rfl
        ·exact (.cons (by first | rfl | exact am rfl (by omega) | exact am rfl (by rw [hh]; rfl) | exact am rfl (by simp) | exact aR rfl (by simp)) Front.nil)
        ·exact bR 26 rfl
        ·exact (by repeat' constructor)
        ·exact ⟨by unfold gd; repeat (first | rw [if_pos (by omega)] | rw [if_neg (by omega)]), by unfold gd; repeat (first | rw [if_pos (by omega)] | rw [if_neg (by omega)]), by first | (rw [decide_eq_true (by omega)]; rfl) | (rw [decide_eq_false (by omega)]; rfl)⟩
       ·refine af (ab (zz0 (aN rfl rfl) (zz0 (ac rfl) (ae (aa ?_)))))
        refine ak rfl ?_ ?_ <;> intro h9 <;> try simp only [bs] at h9
        ·refine af (ab (zz0 (ac rfl) (ae (aa (af (ab (zz0 (zz3 (off := 5) (ft := 3) rfl ag rfl aj) ?_)))))))
         refine zz0 (aM rfl aC) ?_
         refine zz0 (bK rfl dM bG) ?_
         refine zz0 (aF rfl Tryz.call117 (fun w hw => pO i.cc s.m.f w)) ?_
         refine ae (aa ?_)
         refine ak rfl ?_ ?_ <;> intro h10 <;> try simp only [bs] at h10
         ·refine ab (zz0 (ac rfl) (ae (ba (aa ?_))))
          have hh : d6 i.cc s.m.f = true := by assumption
          apply a9 (jM (d6 i.cc s.m.f), s.m.f, s.done)
          ·exact rfl
          ·exact (.cons (by first | rfl | exact am rfl (by omega) | exact am rfl (by rw [hh]; rfl) | exact am rfl (by simp) | exact aR rfl (by simp)) Front.nil)
          ·exact bR 22 rfl
          ·exact (by repeat' constructor)
          ·exact ⟨by unfold gd; repeat (first | rw [if_pos (by omega)] | rw [if_neg (by omega)]), by unfold gd; repeat (first | rw [if_pos (by omega)] | rw [if_neg (by omega)]), by first | (rw [decide_eq_true (by omega)]; rfl) | (rw [decide_eq_false (by omega)]; rfl)⟩
         ·refine ax (ba (aa ?_))
          have hh : d6 i.cc s.m.f = false := by simp_all
          apply a9 (jM (d6 i.cc s.m.f), s.m.f, s.done)
          ·exact rfl
          ·exact (.cons (by first | rfl | exact am rfl (by omega) | exact am rfl (by rw [hh]; rfl) | exact am rfl (by simp) | exact aR rfl (by simp)) Front.nil)
          ·exact bR 21 rfl
          ·exact (by repeat' constructor)
          ·exact ⟨by unfold gd; repeat (first | rw [if_pos (by omega)] | rw [if_neg (by omega)]), by unfold gd; repeat (first | rw [if_pos (by omega)] | rw [if_neg (by omega)]), by first | (rw [decide_eq_true (by omega)]; rfl) | (rw [decide_eq_false (by omega)]; rfl)⟩
        ·refine af (af (ab (zz0 (aN rfl rfl) (zz0 (ac rfl) (ae (aa ?_))))))
         apply cE
         ·exact rfl
         ·intro hO11
          try simp only [bs] at hO11
          refine af (ab (zz0 (aN rfl rfl) (zz0 (ac rfl) (ae (aa ?_)))))
          apply cE
          ·exact rfl
          ·intro hO12
           try simp only [bs] at hO12
           refine af (ab (zz0 (aN rfl rfl) (zz0 (ac rfl) (ae (aa ?_)))))
           apply cE
           ·exact rfl
           ·intro hO13
            try simp only [bs] at hO13
            refine af (ab (zz0 (aN rfl rfl) (zz0 (ac rfl) (ae (aa ?_)))))
            apply cE
            ·exact rfl
            ·intro hO14
             try simp only [bs] at hO14
             refine af (ab (zz0 (aN rfl rfl) (zz0 (ac rfl) (ae (aa ?_)))))
             apply cE
             ·exact rfl
             ·intro hO15
              try simp only [bs] at hO15
              refine af (ab (zz0 (aN rfl rfl) (zz0 (ac rfl) (ae (aa ?_)))))
              apply cE
              ·exact rfl
              ·intro hO16
               try simp only [bs] at hO16
               refine ab (zz0 (aN rfl rfl) (zz0 (ac rfl) (ae (aa ?_))))
               exact cT rfl (bR 2 rfl)
              refine aa ?_
              exact cT rfl (bR 3 rfl)
             refine aa ?_
             exact cT rfl (bR 3 rfl)
            refine aa ?_
            exact cT rfl (bR 3 rfl)
           refine aa ?_
           exact cT rfl (bR 3 rfl)
          refine aa ?_
          exact cT rfl (bR 3 rfl)
         refine aa ?_
         refine ak rfl ?_ ?_ <;> intro h17 <;> try simp only [bs] at h17
         ·refine af (ab (zz0 (bE (vs := [(0, _), (1, _), (2, _), (3, _), (4, _), (5, _), (6, _)]) rfl rfl (kr _ _ _ _ _ _ _)) ?_))
          refine cZ Tryz.zeroValue166 rfl (fun b18 => ?_)
          refine zz9 rfl rfl Tryz.sizeOf166 ?_
          refine ae (aa (af (ab (zz0 (zz3 (off := 2) (ft := 3) rfl ag rfl aj) ?_))))
          refine zz0 (aM rfl aC) ?_
          refine zz0 (ew rfl rfl) ?_
          refine zz0 (ff rfl rfl Tryz.underlying166 aj) ?_
          refine zz0 (dU (v := .int .i64 (gd.opX i.op)) rfl (by repeat constructor) aC (zY (by omega) (by simp))) ?_
          refine zz0 (ad rfl) (zz0 (ad rfl) (zz0 (aF rfl Tryz.call121 (fun w hw => u2 (gd.opX i.op) (s.m.reg i.a) (fL s.m i) w)) ?_))
          refine zz0 (ad rfl) (zz0 (az rfl rfl) (zz0 (az rfl rfl) (zz0 (ac rfl) (ae (aa (ab (zz0 (ad rfl) (zz0 (aF rfl Tryz.call122 (fun w hw => uO (kl (gd.opX i.op) (s.m.reg i.a) (fL s.m i)).1 w)) ?_))))))))
          refine bA gR rfl rfl bG ?_
          refine ae (ba (aa ?_))
          rw [vV (by omega)]
          apply a9 ((jB (gd.opX i.op) (s.m.reg i.a) (fL s.m i)), uP (jB (gd.opX i.op) (s.m.reg i.a) (fL s.m i)), s.done)
          ·exact rfl
          ·exact (.cons (by first | rfl | exact am rfl (by omega) | exact am rfl (by rw [hh]; rfl) | exact am rfl (by simp) | exact aR rfl (by simp)) Front.nil)
          ·exact bR 35 rfl
          ·exact (by repeat' constructor)
          ·exact ⟨by unfold gd; repeat (first | rw [if_pos (by omega)] | rw [if_neg (by omega)]), by unfold gd; repeat (first | rw [if_pos (by omega)] | rw [if_neg (by omega)]), by first | (rw [decide_eq_true (by omega)]; rfl) | (rw [decide_eq_false (by omega)]; rfl)⟩
         ·refine ax (ba (aa ?_))
          apply a9 (s.m.reg i.a, s.m.f, s.done)
          ·exact rfl
          ·exact (.cons (by first | rfl | exact am rfl (by omega) | exact am rfl (by rw [hh]; rfl) | exact am rfl (by simp) | exact aR rfl (by simp)) Front.nil)
          ·exact bR 19 rfl
          ·exact (by repeat' constructor)
          ·exact ⟨by unfold gd; repeat (first | rw [if_pos (by omega)] | rw [if_neg (by omega)]), by unfold gd; repeat (first | rw [if_pos (by omega)] | rw [if_neg (by omega)]), by first | (rw [decide_eq_true (by omega)]; rfl) | (rw [decide_eq_false (by omega)]; rfl)⟩
 ·obtain ⟨r, f, dn⟩ := i
  replace hi : r = (gd s.m i).1 ∧ f = (gd s.m i).2 ∧ dn = (decide (i.op = 1) || s.done) := hi
  change Tr _ _ [cellE b2 (gR.enc f) 38, cellE b1 (em.enc i) 114, cellE bc (bN { s with done := dn } bM vi vo eff) 82] ([(7, .int .u32 r.toNat)] ++ _) _
  obtain ⟨hr, hf, hdn⟩ := hi
  refine eE (ι := Unit) (fun u => True) (fun _ => (Bg.lessB w (bZ [cellE bc (bN s bM vi vo eff) 82]) 0)) (fun u => [cellE b2 (gR.enc f) 38, cellE b1 (em.enc i) 114, cellE bc (bN (({ s with done := dn }.setR i.a r).setF f) bM vi vo eff) 82]) (fun u => []) ?_ (fun u hi => ?_)
  ·skip
   refine bH ([cellE b2 (gR.enc f) 38, cellE b1 (em.enc i) 114]) 15 rfl aU ?_
   refine zz2 0 rfl (ad rfl) ?_
   refine zz2 1 rfl (zz3 (off := 6) (ft := 3) rfl ag rfl aj) ?_
   refine zz2 2 rfl (aM rfl aC) ?_
   refine zz2 3 rfl (ad rfl) ?_
   refine zz2 4 rfl (ad rfl) ?_
   refine zz2 5 rfl (bK rfl dM bG) ?_
   refine zz2 6 rfl (aE rfl) ?_
   refine zz2 7 rfl (zz3 (off := 0) (ft := 40) rfl aB rfl aS) ?_
   refine zz2 8 rfl (zz3 (off := 0) (ft := 36) rfl aA rfl bF) ?_
   refine zz2 9 rfl (ff rfl rfl aZ ah) ?_
   refine bX [10] (fun iq hq => ?_)
   obtain rfl := List.mem_singleton.1 hq
   refine aV rfl ?_
   refine ka rfl rfl ah (by repeat constructor) (ik hA (by simp) _) (by rfl) (by rw [im]; first | (simp; done) | (simp; omega)) ?_
   refine bB ?_
   refine zz2 11 rfl (aE rfl) ?_
   refine zz2 12 rfl (zz3 (off := 0) (ft := 40) rfl aB rfl aS) ?_
   refine zz2 13 rfl (zz3 (off := 9) (ft := 38) rfl aA rfl bG) ?_
   refine bX [14] (fun iq hq => ?_)
   obtain rfl := List.mem_singleton.1 hq
   refine aV rfl ?_
   refine zz4 rfl rfl bG (yY f) ?_
   refine bB ?_
   refine dZ ?_
   refine aa ?_
   try rw [St.setF_setR]
   apply a9 ()
   ·exact rfl
   ·exact Front.nil
   ·exact bR 13 rfl
   ·exact (by repeat' constructor)
   ·exact trivial
  ·skip
   replace hi : True := hi
   change Tr _ _ [cellE b2 (gR.enc f) 38, cellE b1 (em.enc i) 114, cellE bc (bN (({ s with done := dn }.setR i.a r).setF f) bM vi vo eff) 82] ([] ++ _) _
   refine af (ab (zz0 (ad rfl) (zz0 (bK rfl bo aH) ?_)))
   refine db (fun _ : Unit => .tuple #[]) [cellE bc (bN (({ s with done := dn }.setR i.a r).setF f) bM vi vo eff) 82] (fun _ => [cellE bc (bN ((({ s with done := dn }.setR i.a r).setF f).to (cv i)) bM vi vo eff) 82]) (ok := fun _ => True) (dd := fun _ => 0) rfl gp (by repeat' constructor) (fun w hw => Nat.le_refl _) (fun w hw => iL (({ s with done := dn }.setR i.a r).setF f) bc bM vi vo eff i w (hw.own (by repeat' constructor)) hI) rfl (fun _ _ => ?_)
   refine ae (aa (af (ab (zz0 (ac rfl) (ae (aa (ao ?_)))))))
   refine aI Tryz.results89 rfl (fun w' hw => ?_)
   have hfin : ((({ s with done := dn } : St).setR i.a r).setF f).to (cv i) = fW s i (cv i) := by subst hr hf hdn; rfl
   rw [hfin] at hw
   exact ⟨(), rfl, hw.upd (Bg.le.refl _) (by repeat' constructor), trivial⟩
theorem we (s : St) (bc bM bm : Nat) (VR vi vo eff : Value) (rs : List RegV) (l : List SecV) (wl : WL) (i : Ins) (w : World) (ho : OwnAt w [cellE bc (bN s bM vi vo eff) 82, mapE bm u8V wl]) (hM : MemAt (Bg.lessB w (bZ [cellE bc (bN s bM vi vo eff) 82, mapE bm u8V wl]) 0).blk bM bm VR rs) (hO : MemOK l rs) (hwl : cO wl = s.w) (hI : InsOK i) (hA : 0 ≤ i.a ∧ i.a < 8) (hB : 0 ≤ i.b ∧ i.b < 8) :
  Calls Tryz.prog 84 #[.pointer (some ⟨bc, 0, none⟩), .agg (em.enc i).toArray] w (fun e w' => ∃ wl' : WL, e = .returned (.int .i64 (dX l s i (cv i)).2) ∧ Upd 0 w w' (bZ [cellE bc (bN s bM vi vo eff) 82, mapE bm u8V wl]) [cellE bc (bN (dX l s i (cv i)).1 bM vi vo eff) 82, mapE bm u8V wl'] ∧ (cO wl' = (dX l s i (cv i)).1.w ∧ wl'.length ≤ wl.length + 4)) := by
 refine ij (L := [cellE bc (bN s bM vi vo eff) 82, mapE bm u8V wl]) ho rfl (Nat.zero_le _) Tryz.func84 rfl Tryz.ntmps84 rfl ?_
 refine af (ab ?_)
 refine cH rfl rfl rfl (fun b1 => ?_)
 refine zz0 (ac rfl) (ae (aa (af (ab (zz0 (ad rfl) (zz0 (aE rfl) ?_))))))
 refine zz0 (zz3 (off := 0) (ft := 40) rfl aB rfl aS) ?_
 refine zz0 (zz3 (off := 0) (ft := 36) rfl aA rfl bF) ?_
 refine zz0 (ff rfl rfl aZ ah) ?_
 refine zz0 (fD rfl ay) ?_
 refine zz0 (ac rfl) (ae (aa (af (af (ab (zz0 (zz3 (off := 2) (ft := 3) rfl ag rfl aj) ?_))))))
 refine zz0 (aM rfl aC) ?_
 refine zz0 (aN rfl rfl) (ae (aa ?_))
 refine ak rfl ?_ ?_ <;> intro h2 <;> try simp only [bs] at h2
 ·refine af (af (bH ([cellE bc (bN s bM vi vo eff) 82, cellE b1 (em.enc i) 114]) 16 rfl aU ?_))
  refine zz2 0 rfl (ad rfl) ?_
  refine zz2 1 rfl (aE rfl) ?_
  refine zz2 2 rfl (zz3 (off := 13) (ft := 68) rfl aB rfl fk) ?_
  refine zz2 3 rfl (fD rfl fR) ?_
  refine zz2 4 rfl (ad rfl) ?_
  refine zz2 5 rfl (eW (n := 4) rfl rfl) ?_
  refine zz2 6 rfl (ad rfl) ?_
  refine zz2 7 rfl (zz3 (off := 6) (ft := 3) rfl ag rfl aj) ?_
  refine zz2 8 rfl (aM rfl aC) ?_
  refine zz2 9 rfl (aE rfl) ?_
  refine zz2 10 rfl (zz3 (off := 0) (ft := 40) rfl aB rfl aS) ?_
  refine zz2 11 rfl (zz3 (off := 0) (ft := 36) rfl aA rfl bF) ?_
  refine zz2 12 rfl (ff rfl rfl aZ ah) ?_
  refine eU 13 rfl (by kernel_rfl) (aX (aX (aX bL))) (dU rfl (by repeat constructor) ay (il hA (by simp))) ?_
  refine bX [14] (fun iq hq => ?_)
  obtain rfl := List.mem_singleton.1 hq
  refine aV rfl ?_
  refine db (fun _ : WL => .int .i64 (bS l s.w (s.m.r7 - 4) 4 (s.m.reg i.a)).2) [mapE bm u8V wl] (fun wl' => [mapE bm u8V wl']) (ok := fun wl' => cO wl' = (bS l s.w (s.m.r7 - 4) 4 (s.m.reg i.a)).1 ∧ wl'.length ≤ wl.length + 4) (dd := fun _ => 0) rfl lw (by repeat' constructor) (fun w hw => Nat.le_refl _) (fun w hw => by have q := kd bM bm VR rs l (s.m.r7 - 4) 4 (s.m.reg i.a) wl w (hw.own (by repeat' constructor)) (hM.mono (hw.lessB (Lo := [mapE bm u8V wl]) (by repeat' constructor))) hO; rw [hwl] at q; exact q) rfl (fun wl2 hw2 => ?_)
  refine bB ?_
  refine zz2 15 rfl (ac rfl) ?_
  refine dZ ?_
  refine aa (af (ab (zz0 (ad rfl) (zz0 (dN rfl rfl) (ae (aa ?_))))))
  refine ak rfl ?_ ?_ <;> intro h3 <;> try simp only [bs] at h3
  ·refine af (ab (zz0 (ad rfl) (zz0 (ac rfl) (ae (aa (ao (an (an ?_))))))))
   refine aI jW rfl (fun w' hw => ?_)
   have hq : dX l s i (cv i) = (s, (bS l s.w (s.m.r7 - 4) 4 (s.m.reg i.a)).2) := by unfold dX; repeat (first | rw [if_pos (by first | assumption | omega)] | rw [if_neg (by first | assumption | omega)])
   exact ⟨wl2, by rw [hq]; try rfl, by rw [hq]; exact hw.upd (Bg.le.refl _) (by repeat' constructor), by rw [hq]; exact ⟨hw2.1.trans (mA (by assumption)), hw2.2⟩⟩
  ·refine ax (aa (ab (zz0 (ad rfl) (zz0 (ad rfl) (zz0 (eW (n := 4) rfl rfl) ?_)))))
   refine zz0 (aE rfl) ?_
   refine zz0 (zz3 (off := 0) (ft := 40) rfl aB rfl aS) ?_
   refine zz0 (zz3 (off := 0) (ft := 36) rfl aA rfl bF) ?_
   refine zz0 (ff rfl rfl aZ ah) ?_
   refine ka rfl rfl ah (by repeat constructor) (ik (k := 7) (by omega) (by simp) _) (by rfl) (by rw [im]; first | (simp; done) | (simp; omega)) ?_
   refine ae (aa (af (ab (zz0 (ad rfl) (zz0 (bK rfl bo aH) ?_)))))
   refine db (fun _ : Unit => .tuple #[]) [cellE bc (bN (s.setR 7 (s.m.r7 - 4)) bM vi vo eff) 82] (fun _ => [cellE bc (bN ((s.setR 7 (s.m.r7 - 4)).to (cv i)) bM vi vo eff) 82]) (ok := fun _ => True) (dd := fun _ => 0) rfl gp (by repeat' constructor) (fun w hw => Nat.le_refl _) (fun w hw => iL (s.setR 7 (s.m.r7 - 4)) bc bM vi vo eff i w (hw.own (by repeat' constructor)) hI) rfl (fun _ _ => ?_)
   refine ae (aa (af (ab (zz0 (ac rfl) (ae (aa (ao ?_)))))))
   refine aI jW rfl (fun w' hw => ?_)
   have hq : dX l s i (cv i) = ({ s with w := (bS l s.w (s.m.r7 - 4) 4 (s.m.reg i.a)).1, m := (s.m.set 7 (s.m.r7 - 4)).to (cv i) }, 0) := by unfold dX; repeat (first | rw [if_pos (by first | assumption | omega)] | rw [if_neg (by first | assumption | omega)])
   exact ⟨wl2, by rw [hq]; try rfl, by rw [hq]; exact hw.upd (Bg.le.refl _) (by repeat' constructor), by rw [hq]; exact ⟨hw2.1, hw2.2⟩⟩
 ·refine af (ab (zz0 (ad rfl) (zz0 (aE rfl) ?_)))
  refine zz0 (zz3 (off := 13) (ft := 68) rfl aB rfl fk) ?_
  refine zz0 (fD rfl fR) ?_
  refine zz0 (ad rfl) (zz0 (aF rfl lx (fun w hw => (by have q := ll bM bm VR rs l s.m.r7 4 wl w (hM.mono hw.bg) hO (mapE.in_ (hw.ent _ (by repeat constructor))); rw [hwl] at q; exact q))) ?_)
  refine zz0 (ad rfl) (zz0 (az rfl rfl) (zz0 (az rfl rfl) (zz0 (ac rfl) (zz0 (ac rfl) (ae (aa (af (af (ab (zz0 (ad rfl) (zz0 (dN rfl rfl) (ae (aa ?_)))))))))))))
  refine ak rfl ?_ ?_ <;> intro h4 <;> try simp only [bs] at h4
  ·refine af (ab (zz0 (ad rfl) (zz0 (ac rfl) (ae (aa (ao (an (an ?_))))))))
   refine aI jW rfl (fun w' hw => ?_)
   have hq : dX l s i (cv i) = (s, (cP l s.w s.m.r7 4).2) := by unfold dX; repeat (first | rw [if_pos (by first | assumption | omega)] | rw [if_neg (by first | assumption | omega)])
   exact ⟨wl, by rw [hq]; try rfl, by rw [hq]; exact hw.upd (Bg.le.refl _) (by repeat' constructor), by rw [hq]; exact ⟨hwl, by omega⟩⟩
  ·refine ax (aa (af (ab (zz0 (ad rfl) (zz0 (ad rfl) (zz0 (cJ (n := 4) rfl rfl) ?_))))))
   refine zz0 (aE rfl) ?_
   refine zz0 (zz3 (off := 0) (ft := 40) rfl aB rfl aS) ?_
   refine zz0 (zz3 (off := 0) (ft := 36) rfl aA rfl bF) ?_
   refine zz0 (ff rfl rfl aZ ah) ?_
   refine ka rfl rfl ah (by repeat constructor) (ik (k := 7) (by omega) (by simp) _) (by rfl) (by rw [im]; first | (simp; done) | (simp; omega)) ?_
   refine ae (aa (bH ([cellE b1 (em.enc i) 114]) 9 rfl aU ?_))
   refine zz2 0 rfl (ad rfl) ?_
   refine zz2 1 rfl (zz3 (off := 6) (ft := 3) rfl ag rfl aj) ?_
   refine zz2 2 rfl (aM rfl aC) ?_
   refine zz2 3 rfl (ad rfl) ?_
   refine zz2 4 rfl (aE rfl) ?_
   refine zz2 5 rfl (zz3 (off := 0) (ft := 40) rfl aB rfl aS) ?_
   refine zz2 6 rfl (zz3 (off := 0) (ft := 36) rfl aA rfl bF) ?_
   refine zz2 7 rfl (ff rfl rfl aZ ah) ?_
   refine bX [8] (fun iq hq => ?_)
   obtain rfl := List.mem_singleton.1 hq
   refine aV rfl ?_
   refine ka rfl rfl ah (by repeat constructor) (ik hA (by simp) _) (by rfl) (by rw [im]; first | (simp; done) | (simp; omega)) ?_
   refine bB ?_
   refine dZ ?_
   refine aa (af (ab (zz0 (ad rfl) (zz0 (bK rfl bo aH) ?_))))
   refine db (fun _ : Unit => .tuple #[]) [cellE bc (bN ((s.setR 7 (s.m.r7 + 4)).setR i.a (cP l s.w s.m.r7 4).1) bM vi vo eff) 82] (fun _ => [cellE bc (bN (((s.setR 7 (s.m.r7 + 4)).setR i.a (cP l s.w s.m.r7 4).1).to (cv i)) bM vi vo eff) 82]) (ok := fun _ => True) (dd := fun _ => 0) rfl gp (by repeat' constructor) (fun w hw => Nat.le_refl _) (fun w hw => iL ((s.setR 7 (s.m.r7 + 4)).setR i.a (cP l s.w s.m.r7 4).1) bc bM vi vo eff i w (hw.own (by repeat' constructor)) hI) rfl (fun _ _ => ?_)
   refine ae (aa (af (ab (zz0 (ac rfl) (ae (aa (ao ?_)))))))
   refine aI jW rfl (fun w' hw => ?_)
   have hq : dX l s i (cv i) = ({ s with m := ((s.m.set 7 (s.m.r7 + 4)).set i.a (cP l s.w s.m.r7 4).1).to (cv i) }, 0) := by unfold dX; repeat (first | rw [if_pos (by first | assumption | omega)] | rw [if_neg (by first | assumption | omega)])
   exact ⟨wl, by rw [hq]; try rfl, by rw [hq]; exact hw.upd (Bg.le.refl _) (by repeat' constructor), by rw [hq]; exact ⟨hwl, by omega⟩⟩
theorem u6 (s : St) (bc bM bm : Nat) (VR vi vo eff : Value) (rs : List RegV) (l : List SecV) (wl : WL) (i : Ins) (w : World) (ho : OwnAt w [cellE bc (bN s bM vi vo eff) 82, mapE bm u8V wl]) (hM : MemAt (Bg.lessB w (bZ [cellE bc (bN s bM vi vo eff) 82, mapE bm u8V wl]) 0).blk bM bm VR rs) (hO : MemOK l rs) (hwl : cO wl = s.w) (hI : InsOK i) (hA : 0 ≤ i.a ∧ i.a < 8) (hB : 0 ≤ i.b ∧ i.b < 8) :
  Calls Tryz.prog 85 #[.pointer (some ⟨bc, 0, none⟩), .agg (em.enc i).toArray] w (fun e w' => ∃ wl' : WL, e = .returned (.int .i64 (dj l s i (cv i)).2) ∧ Upd 0 w w' (bZ [cellE bc (bN s bM vi vo eff) 82, mapE bm u8V wl]) [cellE bc (bN (dj l s i (cv i)).1 bM vi vo eff) 82, mapE bm u8V wl'] ∧ (cO wl' = (dj l s i (cv i)).1.w ∧ wl'.length ≤ wl.length + 4)) := by
 refine ij (L := [cellE bc (bN s bM vi vo eff) 82, mapE bm u8V wl]) ho rfl (Nat.zero_le _) Tryz.func85 rfl Tryz.ntmps85 rfl ?_
 refine af (ab ?_)
 refine cH rfl rfl rfl (fun b1 => ?_)
 refine zz0 (ac rfl) (ae (aa (af (bH ([cellE bc (bN s bM vi vo eff) 82, cellE b1 (em.enc i) 114]) 12 rfl aU ?_))))
 refine zz2 0 rfl (ad rfl) ?_
 refine zz2 1 rfl (zz3 (off := 7) (ft := 3) rfl ag rfl aj) ?_
 refine zz2 2 rfl (aM rfl aC) ?_
 refine zz2 3 rfl (aE rfl) ?_
 refine zz2 4 rfl (zz3 (off := 0) (ft := 40) rfl aB rfl aS) ?_
 refine zz2 5 rfl (zz3 (off := 0) (ft := 36) rfl aA rfl bF) ?_
 refine zz2 6 rfl (ff rfl rfl aZ ah) ?_
 refine eU 7 rfl (by kernel_rfl) (aX bL) (dU rfl (by repeat constructor) ay (il hB (by simp))) ?_
 refine zz2 8 rfl (zz3 (off := 1) (ft := 23) rfl ag rfl ah) ?_
 refine zz2 9 rfl (aM rfl ay) ?_
 refine zz2 10 rfl (cJ rfl rfl) ?_
 refine zz2 11 rfl (ac rfl) ?_
 refine dZ ?_
 refine aa (af (af (ab (zz0 (zz3 (off := 2) (ft := 3) rfl ag rfl aj) ?_))))
 refine zz0 (aM rfl aC) ?_
 refine zz0 (aN rfl rfl) (ae (aa ?_))
 refine ak rfl ?_ ?_ <;> intro h2 <;> try simp only [bs] at h2
 ·refine af (af (bH ([cellE bc (bN s bM vi vo eff) 82, cellE b1 (em.enc i) 114]) 17 rfl aU ?_))
  refine zz2 0 rfl (ad rfl) ?_
  refine zz2 1 rfl (aE rfl) ?_
  refine zz2 2 rfl (zz3 (off := 13) (ft := 68) rfl aB rfl fk) ?_
  refine zz2 3 rfl (fD rfl fR) ?_
  refine zz2 4 rfl (ad rfl) ?_
  refine zz2 5 rfl (zz3 (off := 4) (ft := 3) rfl ag rfl aj) ?_
  refine zz2 6 rfl (aM rfl aC) ?_
  refine zz2 7 rfl (ad rfl) ?_
  refine zz2 8 rfl (zz3 (off := 6) (ft := 3) rfl ag rfl aj) ?_
  refine zz2 9 rfl (aM rfl aC) ?_
  refine zz2 10 rfl (aE rfl) ?_
  refine zz2 11 rfl (zz3 (off := 0) (ft := 40) rfl aB rfl aS) ?_
  refine zz2 12 rfl (zz3 (off := 0) (ft := 36) rfl aA rfl bF) ?_
  refine zz2 13 rfl (ff rfl rfl aZ ah) ?_
  refine eU 14 rfl (by kernel_rfl) (aX (aX (aX bL))) (dU rfl (by repeat constructor) ay (il hA (by simp))) ?_
  refine bX [15] (fun iq hq => ?_)
  obtain rfl := List.mem_singleton.1 hq
  refine aV rfl ?_
  refine db (fun _ : WL => .int .i64 (bS l s.w (s.m.reg i.b + i.imm) i.width (s.m.reg i.a)).2) [mapE bm u8V wl] (fun wl' => [mapE bm u8V wl']) (ok := fun wl' => cO wl' = (bS l s.w (s.m.reg i.b + i.imm) i.width (s.m.reg i.a)).1 ∧ wl'.length ≤ wl.length + 4) (dd := fun _ => 0) rfl lw (by repeat' constructor) (fun w hw => Nat.le_refl _) (fun w hw => by have q := kd bM bm VR rs l (s.m.reg i.b + i.imm) i.width (s.m.reg i.a) wl w (hw.own (by repeat' constructor)) (hM.mono (hw.lessB (Lo := [mapE bm u8V wl]) (by repeat' constructor))) hO; rw [hwl] at q; exact q) rfl (fun wl2 hw2 => ?_)
  refine bB ?_
  refine zz2 16 rfl (ac rfl) ?_
  refine dZ ?_
  refine aa (af (ab (zz0 (ad rfl) (zz0 (dN rfl rfl) (ae (aa ?_))))))
  refine ak rfl ?_ ?_ <;> intro h3 <;> try simp only [bs] at h3
  ·refine af (ab (zz0 (ad rfl) (zz0 (ac rfl) (ae (aa (ao (an (an ?_))))))))
   refine aI jb rfl (fun w' hw => ?_)
   have hq : dj l s i (cv i) = (s, (bS l s.w (s.m.reg i.b + i.imm) i.width (s.m.reg i.a)).2) := by unfold dj; repeat (first | rw [if_pos (by first | assumption | omega)] | rw [if_neg (by first | assumption | omega)])
   exact ⟨wl2, by rw [hq]; try rfl, by rw [hq]; exact hw.upd (Bg.le.refl _) (by repeat' constructor), by rw [hq]; exact ⟨hw2.1.trans (mA (by assumption)), hw2.2⟩⟩
  ·refine ax (aa (af (ab (zz0 (ad rfl) (zz0 (bK rfl bo aH) ?_)))))
   refine db (fun _ : Unit => .tuple #[]) [cellE bc (bN (s) bM vi vo eff) 82] (fun _ => [cellE bc (bN ((s).to (cv i)) bM vi vo eff) 82]) (ok := fun _ => True) (dd := fun _ => 0) rfl gp (by repeat' constructor) (fun w hw => Nat.le_refl _) (fun w hw => iL (s) bc bM vi vo eff i w (hw.own (by repeat' constructor)) hI) rfl (fun _ _ => ?_)
   refine ae (aa (af (ab (zz0 (ac rfl) (ae (aa (ao (an ?_))))))))
   refine aI jb rfl (fun w' hw => ?_)
   have hq : dj l s i (cv i) = ({ s with w := (bS l s.w (s.m.reg i.b + i.imm) i.width (s.m.reg i.a)).1, m := s.m.to (cv i) }, 0) := by unfold dj; repeat (first | rw [if_pos (by first | assumption | omega)] | rw [if_neg (by first | assumption | omega)])
   exact ⟨wl2, by rw [hq]; try rfl, by rw [hq]; exact hw.upd (Bg.le.refl _) (by repeat' constructor), by rw [hq]; exact ⟨hw2.1, hw2.2⟩⟩
 ·refine ax (aa (af (bH ([cellE bc (bN s bM vi vo eff) 82, cellE b1 (em.enc i) 114]) 13 rfl aU ?_)))
  refine zz2 0 rfl (ad rfl) ?_
  refine zz2 1 rfl (aE rfl) ?_
  refine zz2 2 rfl (zz3 (off := 13) (ft := 68) rfl aB rfl fk) ?_
  refine zz2 3 rfl (fD rfl fR) ?_
  refine zz2 4 rfl (ad rfl) ?_
  refine zz2 5 rfl (zz3 (off := 4) (ft := 3) rfl ag rfl aj) ?_
  refine zz2 6 rfl (aM rfl aC) ?_
  refine bX [7] (fun iq hq => ?_)
  obtain rfl := List.mem_singleton.1 hq
  refine aV rfl ?_
  refine zz0 (aF rfl lx (fun w hw => (by have q := ll bM bm VR rs l (s.m.reg i.b + i.imm) i.width wl w (hM.mono hw.bg) hO (mapE.in_ (hw.ent _ (by repeat constructor))); rw [hwl] at q; exact q))) ?_
  refine bB ?_
  refine zz2 8 rfl (ad rfl) ?_
  refine zz2 9 rfl (az rfl rfl) ?_
  refine zz2 10 rfl (az rfl rfl) ?_
  refine zz2 11 rfl (ac rfl) ?_
  refine zz2 12 rfl (ac rfl) ?_
  refine dZ ?_
  refine aa (af (af (ab (zz0 (ad rfl) (zz0 (dN rfl rfl) (ae (aa ?_)))))))
  refine ak rfl ?_ ?_ <;> intro h4 <;> try simp only [bs] at h4
  ·refine af (ab (zz0 (ad rfl) (zz0 (ac rfl) (ae (aa (ao (an ?_)))))))
   refine aI jb rfl (fun w' hw => ?_)
   have hq : dj l s i (cv i) = (s, (cP l s.w (s.m.reg i.b + i.imm) i.width).2) := by unfold dj; repeat (first | rw [if_pos (by first | assumption | omega)] | rw [if_neg (by first | assumption | omega)])
   exact ⟨wl, by rw [hq]; try rfl, by rw [hq]; exact hw.upd (Bg.le.refl _) (by repeat' constructor), by rw [hq]; exact ⟨hwl, by omega⟩⟩
  ·refine ax (aa (af (af (ab (zz0 (zz3 (off := 2) (ft := 3) rfl ag rfl aj) ?_)))))
   refine zz0 (aM rfl aC) ?_
   refine zz0 (aN rfl rfl) (ae (aa ?_))
   refine ak rfl ?_ ?_ <;> intro h5 <;> try simp only [bs] at h5
   ·refine ab (zz0 (ad rfl) (zz0 (zz3 (off := 4) (ft := 3) rfl ag rfl aj) ?_))
    refine zz0 (aM rfl aC) ?_
    refine zz0 (aF rfl Tryz.call81 (fun w hw => mY (cP l s.w (s.m.reg i.b + i.imm) i.width).1 i.width w)) ?_
    refine zz0 (ac rfl) (ae (aa (af (bH ([cellE b1 (em.enc i) 114]) 9 rfl aU ?_))))
    refine zz2 0 rfl (ad rfl) ?_
    refine zz2 1 rfl (zz3 (off := 6) (ft := 3) rfl ag rfl aj) ?_
    refine zz2 2 rfl (aM rfl aC) ?_
    refine zz2 3 rfl (ad rfl) ?_
    refine zz2 4 rfl (aE rfl) ?_
    refine zz2 5 rfl (zz3 (off := 0) (ft := 40) rfl aB rfl aS) ?_
    refine zz2 6 rfl (zz3 (off := 0) (ft := 36) rfl aA rfl bF) ?_
    refine zz2 7 rfl (ff rfl rfl aZ ah) ?_
    refine bX [8] (fun iq hq => ?_)
    obtain rfl := List.mem_singleton.1 hq
    refine aV rfl ?_
    refine ka rfl rfl ah (by repeat constructor) (ik hA (by simp) _) (by rfl) (by rw [im]; first | (simp; done) | (simp; omega)) ?_
    refine bB ?_
    refine dZ ?_
    refine aa (af (ab (zz0 (ad rfl) (zz0 (bK rfl bo aH) ?_))))
    refine db (fun _ : Unit => .tuple #[]) [cellE bc (bN (s.setR i.a (jJ (cP l s.w (s.m.reg i.b + i.imm) i.width).1 i.width)) bM vi vo eff) 82] (fun _ => [cellE bc (bN ((s.setR i.a (jJ (cP l s.w (s.m.reg i.b + i.imm) i.width).1 i.width)).to (cv i)) bM vi vo eff) 82]) (ok := fun _ => True) (dd := fun _ => 0) rfl gp (by repeat' constructor) (fun w hw => Nat.le_refl _) (fun w hw => iL (s.setR i.a (jJ (cP l s.w (s.m.reg i.b + i.imm) i.width).1 i.width)) bc bM vi vo eff i w (hw.own (by repeat' constructor)) hI) rfl (fun _ _ => ?_)
    refine ae (aa (af (ab (zz0 (ac rfl) (ae (aa (ao ?_)))))))
    refine aI jb rfl (fun w' hw => ?_)
    have hq : dj l s i (cv i) = ({ s with m := (s.m.set i.a (jJ (cP l s.w (s.m.reg i.b + i.imm) i.width).1 i.width)).to (cv i) }, 0) := by unfold dj; repeat (first | rw [if_pos (by first | assumption | omega)] | rw [if_neg (by first | assumption | omega)])
    exact ⟨wl, by rw [hq]; try rfl, by rw [hq]; exact hw.upd (Bg.le.refl _) (by repeat' constructor), by rw [hq]; exact ⟨hwl, by omega⟩⟩
   ·refine ax (aa (af (bH ([cellE b1 (em.enc i) 114]) 9 rfl aU ?_)))
    refine zz2 0 rfl (ad rfl) ?_
    refine zz2 1 rfl (zz3 (off := 6) (ft := 3) rfl ag rfl aj) ?_
    refine zz2 2 rfl (aM rfl aC) ?_
    refine zz2 3 rfl (ad rfl) ?_
    refine zz2 4 rfl (aE rfl) ?_
    refine zz2 5 rfl (zz3 (off := 0) (ft := 40) rfl aB rfl aS) ?_
    refine zz2 6 rfl (zz3 (off := 0) (ft := 36) rfl aA rfl bF) ?_
    refine zz2 7 rfl (ff rfl rfl aZ ah) ?_
    refine bX [8] (fun iq hq => ?_)
    obtain rfl := List.mem_singleton.1 hq
    refine aV rfl ?_
    refine ka rfl rfl ah (by repeat constructor) (ik hA (by simp) _) (by rfl) (by rw [im]; first | (simp; done) | (simp; omega)) ?_
    refine bB ?_
    refine dZ ?_
    refine aa (af (ab (zz0 (ad rfl) (zz0 (bK rfl bo aH) ?_))))
    refine db (fun _ : Unit => .tuple #[]) [cellE bc (bN (s.setR i.a (cP l s.w (s.m.reg i.b + i.imm) i.width).1) bM vi vo eff) 82] (fun _ => [cellE bc (bN ((s.setR i.a (cP l s.w (s.m.reg i.b + i.imm) i.width).1).to (cv i)) bM vi vo eff) 82]) (ok := fun _ => True) (dd := fun _ => 0) rfl gp (by repeat' constructor) (fun w hw => Nat.le_refl _) (fun w hw => iL (s.setR i.a (cP l s.w (s.m.reg i.b + i.imm) i.width).1) bc bM vi vo eff i w (hw.own (by repeat' constructor)) hI) rfl (fun _ _ => ?_)
    refine ae (aa (af (ab (zz0 (ac rfl) (ae (aa (ao ?_)))))))
    refine aI jb rfl (fun w' hw => ?_)
    have hq : dj l s i (cv i) = ({ s with m := (s.m.set i.a (cP l s.w (s.m.reg i.b + i.imm) i.width).1).to (cv i) }, 0) := by unfold dj; repeat (first | rw [if_pos (by first | assumption | omega)] | rw [if_neg (by first | assumption | omega)])
    exact ⟨wl, by rw [hq]; try rfl, by rw [hq]; exact hw.upd (Bg.le.refl _) (by repeat' constructor), by rw [hq]; exact ⟨hwl, by omega⟩⟩
theorem yB (s : St) (bc bM bm : Nat) (VR vi vo eff : Value) (rs : List RegV) (l : List SecV) (wl : WL) (i : Ins) (w : World) (ho : OwnAt w [cellE bc (bN s bM vi vo eff) 82, mapE bm u8V wl]) (hM : MemAt (Bg.lessB w (bZ [cellE bc (bN s bM vi vo eff) 82, mapE bm u8V wl]) 0).blk bM bm VR rs) (hO : MemOK l rs) (hwl : cO wl = s.w) (hI : InsOK i) (hA : 0 ≤ i.a ∧ i.a < 8) (hB : 0 ≤ i.b ∧ i.b < 8) :
  Calls Tryz.prog 86 #[.pointer (some ⟨bc, 0, none⟩), .agg (em.enc i).toArray] w (fun e w' => ∃ wl' : WL, e = .returned (.int .i64 (eF l s i (cv i)).2) ∧ Upd 0 w w' (bZ [cellE bc (bN s bM vi vo eff) 82, mapE bm u8V wl]) [cellE bc (bN (eF l s i (cv i)).1 bM vi vo eff) 82, mapE bm u8V wl'] ∧ (cO wl' = (eF l s i (cv i)).1.w ∧ wl'.length ≤ wl.length + 4)) := by
 refine ij (L := [cellE bc (bN s bM vi vo eff) 82, mapE bm u8V wl]) ho rfl (Nat.zero_le _) Tryz.func86 rfl Tryz.ntmps86 rfl ?_
 refine af (ab ?_)
 refine cH rfl rfl rfl (fun b1 => ?_)
 refine zz0 (ac rfl) (ae (aa (af (ab (zz0 (bK rfl bo aH) ?_)))))
 refine zz0 (aF rfl l6 (fun w hw => nf i w hI)) ?_
 refine zz0 (ac rfl) (ae (aa (af (aQ (af (ab (zz0 (zz3 (off := 2) (ft := 3) rfl ag rfl aj) ?_)))))))
 refine zz0 (aM rfl aC) ?_
 refine zz0 (aN rfl rfl) (zz0 (ac rfl) (ae (aa ?_)))
 refine ak rfl ?_ ?_ <;> intro h2 <;> try simp only [bs] at h2
 ·refine bH ([cellE bc (bN s bM vi vo eff) 82, cellE b1 (em.enc i) 114]) 9 rfl aU ?_
  refine zz2 0 rfl (ad rfl) ?_
  refine zz2 1 rfl (zz3 (off := 6) (ft := 3) rfl ag rfl aj) ?_
  refine zz2 2 rfl (aM rfl aC) ?_
  refine zz2 3 rfl (aE rfl) ?_
  refine zz2 4 rfl (zz3 (off := 0) (ft := 40) rfl aB rfl aS) ?_
  refine zz2 5 rfl (zz3 (off := 0) (ft := 36) rfl aA rfl bF) ?_
  refine zz2 6 rfl (ff rfl rfl aZ ah) ?_
  refine eU 7 rfl (by kernel_rfl) (dE (aX bL)) (dU rfl (by repeat constructor) ay (il hA (by simp))) ?_
  refine zz2 8 rfl (ac rfl) ?_
  refine dZ ?_
  refine ba (aa (af (ab (zz0 (ad rfl) (zz0 (ad rfl) (zz0 (aE rfl) ?_))))))
  refine zz0 (zz3 (off := 0) (ft := 40) rfl aB rfl aS) ?_
  refine zz0 (zz3 (off := 8) (ft := 23) rfl aA rfl ah) ?_
  refine zz4 rfl rfl ah (kH _) ?_
  refine ae (aa (af (ab (zz0 (ac rfl) (ae (aa (ao ?_)))))))
  refine aI ja rfl (fun w' hw => ?_)
  have hq : eF l s i (cv i) = ({ s with m := s.m.to (s.m.reg i.a) }, 0) := by unfold eF; repeat (first | rw [if_pos (by first | assumption | omega)] | rw [if_neg (by first | assumption | omega)])
  exact ⟨wl, by rw [hq]; try rfl, by rw [hq]; exact hw.upd (Bg.le.refl _) (by repeat' constructor), by rw [hq]; exact ⟨hwl, by omega⟩⟩
 ·refine af (ab (zz0 (zz3 (off := 2) (ft := 3) rfl ag rfl aj) ?_))
  refine zz0 (aM rfl aC) ?_
  refine zz0 (aN rfl rfl) (zz0 (ac rfl) (ae (aa ?_)))
  refine ak rfl ?_ ?_ <;> intro h3 <;> try simp only [bs] at h3
  ·refine af (bH ([cellE bc (bN s bM vi vo eff) 82, cellE b1 (em.enc i) 114]) 22 rfl aU ?_)
   refine zz2 0 rfl (ad rfl) ?_
   refine zz2 1 rfl (aE rfl) ?_
   refine zz2 2 rfl (zz3 (off := 13) (ft := 68) rfl aB rfl fk) ?_
   refine zz2 3 rfl (fD rfl fR) ?_
   refine zz2 4 rfl (zz3 (off := 1) (ft := 23) rfl ag rfl ah) ?_
   refine zz2 5 rfl (aM rfl ay) ?_
   refine zz2 6 rfl (ad rfl) ?_
   refine zz2 7 rfl (zz3 (off := 6) (ft := 3) rfl ag rfl aj) ?_
   refine zz2 8 rfl (aM rfl aC) ?_
   refine zz2 9 rfl (aE rfl) ?_
   refine zz2 10 rfl (zz3 (off := 0) (ft := 40) rfl aB rfl aS) ?_
   refine zz2 11 rfl (zz3 (off := 0) (ft := 36) rfl aA rfl bF) ?_
   refine zz2 12 rfl (ff rfl rfl aZ ah) ?_
   refine eU 13 rfl (by kernel_rfl) (aX (dE (aX bL))) (dU rfl (by repeat constructor) ay (il hA (by simp))) ?_
   refine zz2 14 rfl (je (m := 4) rfl rfl) ?_
   refine zz2 15 rfl (cJ rfl rfl) ?_
   refine bX [16] (fun iq hq => ?_)
   obtain rfl := List.mem_singleton.1 hq
   refine aV rfl ?_
   refine zz0 (aF rfl lx (fun w hw => (by have q := ll bM bm VR rs l (i.imm + 4 * s.m.reg i.a) 4 wl w (hM.mono hw.bg) hO (mapE.in_ (hw.ent _ (by repeat constructor))); rw [hwl] at q; exact q))) ?_
   refine bB ?_
   refine zz2 17 rfl (ad rfl) ?_
   refine zz2 18 rfl (az rfl rfl) ?_
   refine zz2 19 rfl (az rfl rfl) ?_
   refine zz2 20 rfl (ac rfl) ?_
   refine zz2 21 rfl (ac rfl) ?_
   refine dZ ?_
   refine aa (af (af (ab (zz0 (ad rfl) (zz0 (dN rfl rfl) (ae (aa ?_)))))))
   refine ak rfl ?_ ?_ <;> intro h4 <;> try simp only [bs] at h4
   ·refine af (ab (zz0 (ad rfl) (zz0 (ac rfl) (ae (aa (ao (an (bf (an ?_)))))))))
    refine aI ja rfl (fun w' hw => ?_)
    have hq : eF l s i (cv i) = (s, (cP l s.w (i.imm + 4 * s.m.reg i.a) 4).2) := by unfold eF; repeat (first | rw [if_pos (by first | assumption | omega)] | rw [if_neg (by first | assumption | omega)])
    exact ⟨wl, by rw [hq]; try rfl, by rw [hq]; exact hw.upd (Bg.le.refl _) (by repeat' constructor), by rw [hq]; exact ⟨hwl, by omega⟩⟩
   ·refine ax (aa (ab (zz0 (ad rfl) (zz0 (ac rfl) (ae (ba (aa (af (ab (zz0 (ad rfl) (zz0 (ad rfl) (zz0 (aE rfl) ?_))))))))))))
    refine zz0 (zz3 (off := 0) (ft := 40) rfl aB rfl aS) ?_
    refine zz0 (zz3 (off := 8) (ft := 23) rfl aA rfl ah) ?_
    refine zz4 rfl rfl ah (kH _) ?_
    refine ae (aa (af (ab (zz0 (ac rfl) (ae (aa (ao ?_)))))))
    refine aI ja rfl (fun w' hw => ?_)
    have hq : eF l s i (cv i) = ({ s with m := s.m.to (cP l s.w (i.imm + 4 * s.m.reg i.a) 4).1 }, 0) := by unfold eF; repeat (first | rw [if_pos (by first | assumption | omega)] | rw [if_neg (by first | assumption | omega)])
    exact ⟨wl, by rw [hq]; try rfl, by rw [hq]; exact hw.upd (Bg.le.refl _) (by repeat' constructor), by rw [hq]; exact ⟨hwl, by omega⟩⟩
  ·refine af (bH ([cellE bc (bN s bM vi vo eff) 82, cellE b1 (em.enc i) 114]) 9 rfl aU ?_)
   refine zz2 0 rfl (zz3 (off := 5) (ft := 3) rfl ag rfl aj) ?_
   refine zz2 1 rfl (aM rfl aC) ?_
   refine zz2 2 rfl (ad rfl) ?_
   refine zz2 3 rfl (aE rfl) ?_
   refine zz2 4 rfl (zz3 (off := 0) (ft := 40) rfl aB rfl aS) ?_
   refine zz2 5 rfl (zz3 (off := 9) (ft := 38) rfl aA rfl bG) ?_
   refine eU 6 rfl (by kernel_rfl) (aX (dE (aX bL))) (fe (vs := gR.enc s.m.f) rfl (by repeat constructor) dM bG rfl rfl) ?_
   refine bX [7] (fun iq hq => ?_)
   obtain rfl := List.mem_singleton.1 hq
   refine aV rfl ?_
   refine zz0 (aF rfl Tryz.call117 (fun w hw => pO i.cc s.m.f w)) ?_
   refine bB ?_
   refine zz2 8 rfl (ac rfl) ?_
   refine dZ ?_
   refine aa ?_
   refine ak rfl ?_ ?_ <;> intro h5 <;> try simp only [bs] at h5
   ·refine ab (zz0 (zz3 (off := 1) (ft := 23) rfl ag rfl ah) ?_)
    refine zz0 (aM rfl ay) ?_
    refine zz0 (ac rfl) (ae (ba (aa (af (ab (zz0 (ad rfl) (zz0 (ad rfl) (zz0 (aE rfl) ?_))))))))
    refine zz0 (zz3 (off := 0) (ft := 40) rfl aB rfl aS) ?_
    refine zz0 (zz3 (off := 8) (ft := 23) rfl aA rfl ah) ?_
    refine zz4 rfl rfl ah (kH _) ?_
    refine ae (aa (af (ab (zz0 (ac rfl) (ae (aa (ao ?_)))))))
    refine aI ja rfl (fun w' hw => ?_)
    have hq : eF l s i (cv i) = ({ s with m := s.m.to i.imm }, 0) := by unfold eF; repeat (first | rw [if_pos (by first | assumption | omega)] | rw [if_neg (by first | assumption | omega)])
    exact ⟨wl, by rw [hq]; try rfl, by rw [hq]; exact hw.upd (Bg.le.refl _) (by repeat' constructor), by rw [hq]; exact ⟨hwl, by omega⟩⟩
   ·refine ax (ba (aa (af (ab (zz0 (ad rfl) (zz0 (ad rfl) (zz0 (aE rfl) ?_)))))))
    refine zz0 (zz3 (off := 0) (ft := 40) rfl aB rfl aS) ?_
    refine zz0 (zz3 (off := 8) (ft := 23) rfl aA rfl ah) ?_
    refine zz4 rfl rfl ah (kH _) ?_
    refine ae (aa (af (ab (zz0 (ac rfl) (ae (aa (ao ?_)))))))
    refine aI ja rfl (fun w' hw => ?_)
    have hh : ¬ d6 i.cc s.m.f = true := by simp_all
    have hq : eF l s i (cv i) = ({ s with m := s.m.to (cv i) }, 0) := by unfold eF; repeat (first | rw [if_pos (by first | assumption | omega)] | rw [if_neg (by first | assumption | omega)])
    exact ⟨wl, by rw [hq]; try rfl, by rw [hq]; exact hw.upd (Bg.le.refl _) (by repeat' constructor), by rw [hq]; exact ⟨hwl, by omega⟩⟩
theorem zb (s : St) (bc bM bm : Nat) (VR vi vo eff : Value) (rs : List RegV) (l : List SecV) (wl : WL) (i : Ins) (w : World) (ho : OwnAt w [cellE bc (bN s bM vi vo eff) 82, mapE bm u8V wl]) (hM : MemAt (Bg.lessB w (bZ [cellE bc (bN s bM vi vo eff) 82, mapE bm u8V wl]) 0).blk bM bm VR rs) (hO : MemOK l rs) (hwl : cO wl = s.w) (hI : InsOK i) (hA : 0 ≤ i.a ∧ i.a < 8) (hB : 0 ≤ i.b ∧ i.b < 8) :
  Calls Tryz.prog 87 #[.pointer (some ⟨bc, 0, none⟩), .agg (em.enc i).toArray] w (fun e w' => ∃ wl' : WL, e = .returned (.int .i64 (eY l s i (cv i)).2) ∧ Upd 0 w w' (bZ [cellE bc (bN s bM vi vo eff) 82, mapE bm u8V wl]) [cellE bc (bN (eY l s i (cv i)).1 bM vi vo eff) 82, mapE bm u8V wl'] ∧ (cO wl' = (eY l s i (cv i)).1.w ∧ wl'.length ≤ wl.length + 4)) := by
 refine ij (L := [cellE bc (bN s bM vi vo eff) 82, mapE bm u8V wl]) ho rfl (Nat.zero_le _) Tryz.func87 rfl Tryz.ntmps87 rfl ?_
 refine af (ab ?_)
 refine cH rfl rfl rfl (fun b1 => ?_)
 refine zz0 (ac rfl) (ae (aa (af (ab (zz0 (ad rfl) (zz0 (aE rfl) ?_))))))
 refine zz0 (zz3 (off := 0) (ft := 40) rfl aB rfl aS) ?_
 refine zz0 (zz3 (off := 0) (ft := 36) rfl aA rfl bF) ?_
 refine zz0 (ff rfl rfl aZ ah) ?_
 refine zz0 (fD rfl ay) ?_
 refine zz0 (ac rfl) (ae (aa (af (af (ab (zz0 (zz3 (off := 2) (ft := 3) rfl ag rfl aj) ?_))))))
 refine zz0 (aM rfl aC) ?_
 refine zz0 (aN rfl rfl) (ae (aa ?_))
 refine ak rfl ?_ ?_ <;> intro h2 <;> try simp only [bs] at h2
 ·refine af (ab (zz0 (ad rfl) (zz0 (aE rfl) ?_)))
  refine zz0 (zz3 (off := 13) (ft := 68) rfl aB rfl fk) ?_
  refine zz0 (fD rfl fR) ?_
  refine zz0 (ad rfl) (zz0 (aF rfl lx (fun w hw => (by have q := ll bM bm VR rs l s.m.r7 4 wl w (hM.mono hw.bg) hO (mapE.in_ (hw.ent _ (by repeat constructor))); rw [hwl] at q; exact q))) ?_)
  refine zz0 (ad rfl) (zz0 (az rfl rfl) (zz0 (az rfl rfl) (zz0 (ac rfl) (zz0 (ac rfl) (ae (aa (af (af (ab (zz0 (ad rfl) (zz0 (dN rfl rfl) (ae (aa ?_)))))))))))))
  refine ak rfl ?_ ?_ <;> intro h3 <;> try simp only [bs] at h3
  ·refine af (ab (zz0 (ad rfl) (zz0 (ac rfl) (ae (aa (ao (an (an ?_))))))))
   refine aI iF rfl (fun w' hw => ?_)
   have hq : eY l s i (cv i) = (s, (cP l s.w s.m.r7 4).2) := by unfold eY; repeat (first | rw [if_pos (by first | assumption | omega)] | rw [if_neg (by first | assumption | omega)])
   exact ⟨wl, by rw [hq]; try rfl, by rw [hq]; exact hw.upd (Bg.le.refl _) (by repeat' constructor), by rw [hq]; exact ⟨hwl, by omega⟩⟩
  ·refine ax (aa (af (ab (zz0 (ad rfl) (zz0 (ad rfl) (zz0 (cJ (n := 4) rfl rfl) ?_))))))
   refine zz0 (aE rfl) ?_
   refine zz0 (zz3 (off := 0) (ft := 40) rfl aB rfl aS) ?_
   refine zz0 (zz3 (off := 0) (ft := 36) rfl aA rfl bF) ?_
   refine zz0 (ff rfl rfl aZ ah) ?_
   refine ka rfl rfl ah (by repeat constructor) (ik (k := 7) (by omega) (by simp) _) (by rfl) (by rw [im]; first | (simp; done) | (simp; omega)) ?_
   refine ae (aa (af (ab (zz0 (ad rfl) (zz0 (ad rfl) (zz0 (aE rfl) ?_))))))
   refine zz0 (zz3 (off := 0) (ft := 40) rfl aB rfl aS) ?_
   refine zz0 (zz3 (off := 8) (ft := 23) rfl aA rfl ah) ?_
   refine zz4 rfl rfl ah (kH _) ?_
   refine ae (aa (af (ab (zz0 (ad rfl) (zz0 (ad rfl) (zz0 (gh (n := 4294967295) rfl rfl) ?_))))))
   refine zz0 (aE rfl) ?_
   refine zz0 (zz3 (off := 17) (ft := 4) rfl aB rfl bv) ?_
   refine zz4 rfl rfl bv (wR _) ?_
   refine ae (aa (af (ab (zz0 (ac rfl) (ae (aa (ao (an ?_))))))))
   refine aI iF rfl (fun w' hw => ?_)
   have hq : eY l s i (cv i) = ({ s with m := (s.m.set 7 (s.m.r7 + 4)).to (cP l s.w s.m.r7 4).1, done := decide ((cP l s.w s.m.r7 4).1 = 4294967295) }, 0) := by unfold eY; repeat (first | rw [if_pos (by first | assumption | omega)] | rw [if_neg (by first | assumption | omega)])
   exact ⟨wl, by rw [hq]; try rfl, by rw [hq]; exact hw.upd (Bg.le.refl _) (by repeat' constructor), by rw [hq]; exact ⟨hwl, by omega⟩⟩
 ·refine ax (aa (af (ab (zz0 (zz3 (off := 1) (ft := 23) rfl ag rfl ah) ?_))))
  refine zz0 (aM rfl ay) ?_
  refine zz0 (ac rfl) (ae (aa (af (af (ab (zz0 (zz3 (off := 2) (ft := 3) rfl ag rfl aj) ?_))))))
  refine zz0 (aM rfl aC) ?_
  refine zz0 (aN rfl rfl) (ae (aa ?_))
  refine ak rfl ?_ ?_ <;> intro h4 <;> try simp only [bs] at h4
  ·refine bH ([cellE bc (bN s bM vi vo eff) 82, cellE b1 (em.enc i) 114]) 9 rfl aU ?_
   refine zz2 0 rfl (ad rfl) ?_
   refine zz2 1 rfl (zz3 (off := 6) (ft := 3) rfl ag rfl aj) ?_
   refine zz2 2 rfl (aM rfl aC) ?_
   refine zz2 3 rfl (aE rfl) ?_
   refine zz2 4 rfl (zz3 (off := 0) (ft := 40) rfl aB rfl aS) ?_
   refine zz2 5 rfl (zz3 (off := 0) (ft := 36) rfl aA rfl bF) ?_
   refine zz2 6 rfl (ff rfl rfl aZ ah) ?_
   refine eU 7 rfl (by kernel_rfl) (aX bL) (dU rfl (by repeat constructor) ay (il hA (by simp))) ?_
   refine zz2 8 rfl (ac rfl) ?_
   refine dZ ?_
   refine aa (af (af (bH ([cellE bc (bN s bM vi vo eff) 82, cellE b1 (em.enc i) 114]) 10 rfl aU ?_)))
   refine zz2 0 rfl (ad rfl) ?_
   refine zz2 1 rfl (aE rfl) ?_
   refine zz2 2 rfl (zz3 (off := 13) (ft := 68) rfl aB rfl fk) ?_
   refine zz2 3 rfl (fD rfl fR) ?_
   refine zz2 4 rfl (ad rfl) ?_
   refine zz2 5 rfl (eW (n := 4) rfl rfl) ?_
   refine zz2 6 rfl (bK rfl bo aH) ?_
   refine bX [7] (fun iq hq => ?_)
   obtain rfl := List.mem_singleton.1 hq
   refine aV rfl ?_
   refine zz0 (aF rfl l6 (fun w hw => nf i w hI)) ?_
   refine bB ?_
   refine bX [8] (fun iq hq => ?_)
   obtain rfl := List.mem_singleton.1 hq
   refine aV rfl ?_
   refine db (fun _ : WL => .int .i64 (bS l s.w (s.m.r7 - 4) 4 (cv i)).2) [mapE bm u8V wl] (fun wl' => [mapE bm u8V wl']) (ok := fun wl' => cO wl' = (bS l s.w (s.m.r7 - 4) 4 (cv i)).1 ∧ wl'.length ≤ wl.length + 4) (dd := fun _ => 0) rfl lw (by repeat' constructor) (fun w hw => Nat.le_refl _) (fun w hw => by have q := kd bM bm VR rs l (s.m.r7 - 4) 4 (cv i) wl w (hw.own (by repeat' constructor)) (hM.mono (hw.lessB (Lo := [mapE bm u8V wl]) (by repeat' constructor))) hO; rw [hwl] at q; exact q) rfl (fun wl2 hw2 => ?_)
   refine bB ?_
   refine zz2 9 rfl (ac rfl) ?_
   refine dZ ?_
   refine aa (af (ab (zz0 (ad rfl) (zz0 (dN rfl rfl) (ae (aa ?_))))))
   refine ak rfl ?_ ?_ <;> intro h5 <;> try simp only [bs] at h5
   ·refine af (ab (zz0 (ad rfl) (zz0 (ac rfl) (ae (aa (ao (an ?_)))))))
    refine aI iF rfl (fun w' hw => ?_)
    have hq : eY l s i (cv i) = (s, (bS l s.w (s.m.r7 - 4) 4 (cv i)).2) := by unfold eY; repeat (first | rw [if_pos (by first | assumption | omega)] | rw [if_neg (by first | assumption | omega)])
    exact ⟨wl2, by rw [hq]; try rfl, by rw [hq]; exact hw.upd (Bg.le.refl _) (by repeat' constructor), by rw [hq]; exact ⟨hw2.1.trans (mA (by assumption)), hw2.2⟩⟩
   ·refine ax (aa (af (ab (zz0 (ad rfl) (zz0 (ad rfl) (zz0 (eW (n := 4) rfl rfl) ?_))))))
    refine zz0 (aE rfl) ?_
    refine zz0 (zz3 (off := 0) (ft := 40) rfl aB rfl aS) ?_
    refine zz0 (zz3 (off := 0) (ft := 36) rfl aA rfl bF) ?_
    refine zz0 (ff rfl rfl aZ ah) ?_
    refine ka rfl rfl ah (by repeat constructor) (ik (k := 7) (by omega) (by simp) _) (by rfl) (by rw [im]; first | (simp; done) | (simp; omega)) ?_
    refine ae (aa (af (ab (zz0 (ad rfl) (zz0 (ad rfl) (zz0 (aE rfl) ?_))))))
    refine zz0 (zz3 (off := 0) (ft := 40) rfl aB rfl aS) ?_
    refine zz0 (zz3 (off := 8) (ft := 23) rfl aA rfl ah) ?_
    refine zz4 rfl rfl ah (kH _) ?_
    refine ae (aa (af (ab (zz0 (ac rfl) (ae (aa (ao ?_)))))))
    refine aI iF rfl (fun w' hw => ?_)
    have hq : eY l s i (cv i) = ({ s with w := (bS l s.w (s.m.r7 - 4) 4 (cv i)).1, m := (s.m.set 7 (s.m.r7 - 4)).to (s.m.reg i.a) }, 0) := by unfold eY; repeat (first | rw [if_pos (by first | assumption | omega)] | rw [if_neg (by first | assumption | omega)])
    exact ⟨wl2, by rw [hq]; try rfl, by rw [hq]; exact hw.upd (Bg.le.refl _) (by repeat' constructor), by rw [hq]; exact ⟨hw2.1, hw2.2⟩⟩
  ·refine ax (aa (af (af (bH ([cellE bc (bN s bM vi vo eff) 82, cellE b1 (em.enc i) 114]) 10 rfl aU ?_))))
   refine zz2 0 rfl (ad rfl) ?_
   refine zz2 1 rfl (aE rfl) ?_
   refine zz2 2 rfl (zz3 (off := 13) (ft := 68) rfl aB rfl fk) ?_
   refine zz2 3 rfl (fD rfl fR) ?_
   refine zz2 4 rfl (ad rfl) ?_
   refine zz2 5 rfl (eW (n := 4) rfl rfl) ?_
   refine zz2 6 rfl (bK rfl bo aH) ?_
   refine bX [7] (fun iq hq => ?_)
   obtain rfl := List.mem_singleton.1 hq
   refine aV rfl ?_
   refine zz0 (aF rfl l6 (fun w hw => nf i w hI)) ?_
   refine bB ?_
   refine bX [8] (fun iq hq => ?_)
   obtain rfl := List.mem_singleton.1 hq
   refine aV rfl ?_
   refine db (fun _ : WL => .int .i64 (bS l s.w (s.m.r7 - 4) 4 (cv i)).2) [mapE bm u8V wl] (fun wl' => [mapE bm u8V wl']) (ok := fun wl' => cO wl' = (bS l s.w (s.m.r7 - 4) 4 (cv i)).1 ∧ wl'.length ≤ wl.length + 4) (dd := fun _ => 0) rfl lw (by repeat' constructor) (fun w hw => Nat.le_refl _) (fun w hw => by have q := kd bM bm VR rs l (s.m.r7 - 4) 4 (cv i) wl w (hw.own (by repeat' constructor)) (hM.mono (hw.lessB (Lo := [mapE bm u8V wl]) (by repeat' constructor))) hO; rw [hwl] at q; exact q) rfl (fun wl2 hw2 => ?_)
   refine bB ?_
   refine zz2 9 rfl (ac rfl) ?_
   refine dZ ?_
   refine aa (af (ab (zz0 (ad rfl) (zz0 (dN rfl rfl) (ae (aa ?_))))))
   refine ak rfl ?_ ?_ <;> intro h6 <;> try simp only [bs] at h6
   ·refine af (ab (zz0 (ad rfl) (zz0 (ac rfl) (ae (aa (ao (an ?_)))))))
    refine aI iF rfl (fun w' hw => ?_)
    have hq : eY l s i (cv i) = (s, (bS l s.w (s.m.r7 - 4) 4 (cv i)).2) := by unfold eY; repeat (first | rw [if_pos (by first | assumption | omega)] | rw [if_neg (by first | assumption | omega)])
    exact ⟨wl2, by rw [hq]; try rfl, by rw [hq]; exact hw.upd (Bg.le.refl _) (by repeat' constructor), by rw [hq]; exact ⟨hw2.1.trans (mA (by assumption)), hw2.2⟩⟩
   ·refine ax (aa (af (ab (zz0 (ad rfl) (zz0 (ad rfl) (zz0 (eW (n := 4) rfl rfl) ?_))))))
    refine zz0 (aE rfl) ?_
    refine zz0 (zz3 (off := 0) (ft := 40) rfl aB rfl aS) ?_
    refine zz0 (zz3 (off := 0) (ft := 36) rfl aA rfl bF) ?_
    refine zz0 (ff rfl rfl aZ ah) ?_
    refine ka rfl rfl ah (by repeat constructor) (ik (k := 7) (by omega) (by simp) _) (by rfl) (by rw [im]; first | (simp; done) | (simp; omega)) ?_
    refine ae (aa (af (ab (zz0 (ad rfl) (zz0 (ad rfl) (zz0 (aE rfl) ?_))))))
    refine zz0 (zz3 (off := 0) (ft := 40) rfl aB rfl aS) ?_
    refine zz0 (zz3 (off := 8) (ft := 23) rfl aA rfl ah) ?_
    refine zz4 rfl rfl ah (kH _) ?_
    refine ae (aa (af (ab (zz0 (ac rfl) (ae (aa (ao ?_)))))))
    refine aI iF rfl (fun w' hw => ?_)
    have hq : eY l s i (cv i) = ({ s with w := (bS l s.w (s.m.r7 - 4) 4 (cv i)).1, m := (s.m.set 7 (s.m.r7 - 4)).to i.imm }, 0) := by unfold eY; repeat (first | rw [if_pos (by first | assumption | omega)] | rw [if_neg (by first | assumption | omega)])
    exact ⟨wl2, by rw [hq]; try rfl, by rw [hq]; exact hw.upd (Bg.le.refl _) (by repeat' constructor), by rw [hq]; exact ⟨hw2.1, hw2.2⟩⟩
theorem v9 (s : St) (bc bM : Nat) (vi vo eff : Value) (inp : List UInt32) (i : Ins) (w : World) (ho : OwnAt w [cellE bc (bN s bM vi vo eff) 82, rowE vo 23 aw s.out]) (hin : Sl (Bg.lessB w (bZ [cellE bc (bN s bM vi vo eff) 82, rowE vo 23 aw s.out]) 0).blk aw inp vi) (hvo : ∃ a n c, vo = .slice a n c) (hI : InsOK i) (hA : 0 ≤ i.a ∧ i.a < 8) (hB : 0 ≤ i.b ∧ i.b < 8) :
  Calls Tryz.prog 88 #[.pointer (some ⟨bc, 0, none⟩), .agg (em.enc i).toArray] w (fun e w' => ∃ vo' : Value, e = .returned (.int .i64 (de inp s i (cv i)).2) ∧ Upd 0 w w' (bZ [cellE bc (bN s bM vi vo eff) 82, rowE vo 23 aw s.out]) [cellE bc (bN (de inp s i (cv i)).1 bM vi vo' eff) 82, rowE vo' 23 aw (de inp s i (cv i)).1.out] ∧ True) := by
 have hil := hin.len_le
 refine ij (L := [cellE bc (bN s bM vi vo eff) 82, rowE vo 23 aw s.out]) ho rfl (Nat.zero_le _) Tryz.func88 rfl Tryz.ntmps88 rfl ?_
 refine af (ab ?_)
 refine cH rfl rfl rfl (fun b1 => ?_)
 refine zz0 (ac rfl) (ae (aa (af (af (ab (zz0 (zz3 (off := 2) (ft := 3) rfl ag rfl aj) ?_))))))
 refine zz0 (aM rfl aC) ?_
 refine zz0 (aN rfl rfl) (ae (aa ?_))
 refine ak rfl ?_ ?_ <;> intro h2 <;> try simp only [bs] at h2
 ·refine af (af (bH ([cellE bc (bN s bM vi vo eff) 82, cellE b1 (em.enc i) 114]) 10 rfl aU ?_))
  refine zz2 0 rfl (ad rfl) ?_
  refine zz2 1 rfl (aE rfl) ?_
  refine zz2 2 rfl (zz3 (off := 15) (ft := 3) rfl aB rfl aj) ?_
  refine zz2 3 rfl (fD rfl aC) ?_
  refine zz2 4 rfl (ad rfl) ?_
  refine zz2 5 rfl (aE rfl) ?_
  refine zz2 6 rfl (zz3 (off := 14) (ft := 24) rfl aB rfl cC) ?_
  refine zz2 7 rfl (fD rfl dD) ?_
  refine bX [8] (fun iq hq => ?_)
  obtain rfl := List.mem_singleton.1 hq
  refine aV rfl ?_
  refine zz0 (gA rfl al) ?_
  refine bB ?_
  refine zz2 9 rfl (dh rfl rfl) ?_
  refine dZ ?_
  refine aa ?_
  refine ak rfl ?_ ?_ <;> intro h3 <;> try simp only [bs] at h3
  ·refine af (ab (zz0 (ac rfl) (ae (aa (ao (an (an ?_)))))))
   refine aI iE rfl (fun w' hw => ?_)
   have hq : de inp s i (cv i) = (s, 14) := by unfold de; repeat (first | rw [if_pos (by first | assumption | omega)] | rw [if_neg (by first | assumption | omega)])
   exact ⟨vo, by rw [hq]; try rfl, by rw [hq]; exact hw.upd (Bg.le.refl _) (by repeat' constructor), trivial⟩
  ·refine ax (aa ?_)
   refine eE (ι := Unit) (fun u => True) (fun _ => (Bg.lessB w (bZ [cellE bc (bN s bM vi vo eff) 82, rowE vo 23 aw s.out]) 0)) (fun u => [cellE b1 (em.enc i) 114, cellE bc (bN (s.setR i.a (inp.getD s.read default)) bM vi vo eff) 82, rowE vo 23 aw s.out]) (fun u => []) ?_ (fun u hi => ?_)
   ·skip
    refine bH ([cellE b1 (em.enc i) 114]) 18 rfl aU ?_
    refine zz2 0 rfl (ad rfl) ?_
    refine zz2 1 rfl (zz3 (off := 6) (ft := 3) rfl ag rfl aj) ?_
    refine zz2 2 rfl (aM rfl aC) ?_
    refine zz2 3 rfl (ad rfl) ?_
    refine zz2 4 rfl (aE rfl) ?_
    refine zz2 5 rfl (zz3 (off := 14) (ft := 24) rfl aB rfl cC) ?_
    refine zz2 7 rfl (ad rfl) ?_
    refine zz2 8 rfl (aE rfl) ?_
    refine zz2 9 rfl (zz3 (off := 15) (ft := 3) rfl aB rfl aj) ?_
    refine zz2 13 rfl (aE rfl) ?_
    refine zz2 14 rfl (zz3 (off := 0) (ft := 40) rfl aB rfl aS) ?_
    refine zz2 15 rfl (zz3 (off := 0) (ft := 36) rfl aA rfl bF) ?_
    refine bX [6, 10] (fun iq hq => ?_)
    rcases List.mem_cons.1 hq with rfl | hq
    ·skip
     refine aV rfl ?_
     refine zz0 (fD rfl dD) ?_
     refine bB ?_
     refine bX [10] (fun iq hq => ?_)
     obtain rfl := List.mem_singleton.1 hq
     refine aV rfl ?_
     refine zz0 (fD rfl aC) ?_
     refine bB ?_
     refine zz2 11 rfl (iZ rfl rfl al ah) ?_
     refine zz2 12 rfl (gJ rfl ay) ?_
     refine zz2 16 rfl (ff rfl rfl aZ ah) ?_
     refine bX [17] (fun iq hq => ?_)
     obtain rfl := List.mem_singleton.1 hq
     refine aV rfl ?_
     refine ka rfl rfl ah (by repeat constructor) (ik hA (by simp) _) (by rfl) (by rw [im]; first | (simp; done) | (simp; omega)) ?_
     refine bB ?_
     refine dZ ?_
     refine aa ?_
     apply a9 ()
     ·exact rfl
     ·exact Front.nil
     ·exact bR 17 rfl
     ·exact (by repeat' constructor)
     ·exact trivial
    obtain rfl := List.mem_singleton.1 hq
    refine aV rfl ?_
    refine zz0 (fD rfl aC) ?_
    refine bB ?_
    refine bX [6] (fun iq hq => ?_)
    obtain rfl := List.mem_singleton.1 hq
    refine aV rfl ?_
    refine zz0 (fD rfl dD) ?_
    refine bB ?_
    refine zz2 11 rfl (iZ rfl rfl al ah) ?_
    refine zz2 12 rfl (gJ rfl ay) ?_
    refine zz2 16 rfl (ff rfl rfl aZ ah) ?_
    refine bX [17] (fun iq hq => ?_)
    obtain rfl := List.mem_singleton.1 hq
    refine aV rfl ?_
    refine ka rfl rfl ah (by repeat constructor) (ik hA (by simp) _) (by rfl) (by rw [im]; first | (simp; done) | (simp; omega)) ?_
    refine bB ?_
    refine dZ ?_
    refine aa ?_
    apply a9 ()
    ·exact rfl
    ·exact Front.nil
    ·exact bR 17 rfl
    ·exact (by repeat' constructor)
    ·exact trivial
   ·skip
    replace hi : True := hi
    change Tr _ _ [cellE b1 (em.enc i) 114, cellE bc (bN (s.setR i.a (inp.getD s.read default)) bM vi vo eff) 82, rowE vo 23 aw s.out] ([] ++ _) _
    have hrd : (s.setR i.a (inp.getD s.read default)).read = s.read := rfl
    have hrl : s.read < inp.length := by omega
    refine ab (zz0 (ad rfl) (zz0 (aE rfl) ?_))
    refine zz0 (zz3 (off := 15) (ft := 3) rfl aB rfl aj) ?_
    refine zz0 (fD rfl aC) ?_
    refine zz0 (dy rfl rfl) ?_
    refine zz0 (aE rfl) ?_
    refine zz0 (zz3 (off := 15) (ft := 3) rfl aB rfl aj) ?_
    refine zz4 rfl rfl aj (wQ (s := s.setR i.a (inp.getD s.read default))) ?_
    refine ae (aa (af (ab (zz0 (ad rfl) (zz0 (bK rfl bo aH) ?_)))))
    refine db (fun _ : Unit => .tuple #[]) [cellE bc (bN ({ s.setR i.a (inp.getD s.read default) with read := s.read + 1 }) bM vi vo eff) 82] (fun _ => [cellE bc (bN (({ s.setR i.a (inp.getD s.read default) with read := s.read + 1 }).to (cv i)) bM vi vo eff) 82]) (ok := fun _ => True) (dd := fun _ => 0) rfl gp (by repeat' constructor) (fun w hw => Nat.le_refl _) (fun w hw => iL ({ s.setR i.a (inp.getD s.read default) with read := s.read + 1 }) bc bM vi vo eff i w (hw.own (by repeat' constructor)) hI) rfl (fun _ _ => ?_)
    refine ae (aa (af (ab (zz0 (ac rfl) (ae (aa (ao ?_)))))))
    refine aI iE rfl (fun w' hw => ?_)
    have hq : de inp s i (cv i) = ({ s with m := (s.m.set i.a (inp.getD s.read default)).to (cv i), read := s.read + 1 }, 0) := by unfold de; repeat (first | rw [if_pos (by first | assumption | omega)] | rw [if_neg (by first | assumption | omega)])
    exact ⟨vo, by rw [hq]; try rfl, by rw [hq]; exact hw.upd (Bg.le.refl _) (by repeat' constructor), trivial⟩
 ·refine af (af (ab (zz0 (ad rfl) (zz0 (aE rfl) ?_))))
  refine zz0 (zz3 (off := 16) (ft := 24) rfl aB rfl cC) ?_
  refine zz0 (fD rfl dD) ?_
  refine zz0 (fN rfl (by repeat constructor) al) ?_
  refine zz0 (dh rfl rfl) (ae (aa ?_))
  refine ak rfl ?_ ?_ <;> intro h4 <;> try simp only [bs] at h4
  ·refine af (ab (zz0 (ac rfl) (ae (aa (ao (an (an ?_)))))))
   refine aI iE rfl (fun w' hw => ?_)
   have hq : de inp s i (cv i) = (s, 6) := by unfold de; repeat (first | rw [if_pos (by first | assumption | omega)] | rw [if_neg (by first | assumption | omega)])
   exact ⟨vo, by rw [hq]; try rfl, by rw [hq]; exact hw.upd (Bg.le.refl _) (by repeat' constructor), trivial⟩
  ·refine ax (aa (bH ([cellE b1 (em.enc i) 114]) 18 rfl aU ?_))
   refine zz2 0 rfl (ad rfl) ?_
   refine zz2 1 rfl (ad rfl) ?_
   refine zz2 2 rfl (aE rfl) ?_
   refine zz2 3 rfl (zz3 (off := 16) (ft := 24) rfl aB rfl cC) ?_
   refine zz2 5 rfl (ad rfl) ?_
   refine zz2 6 rfl (zz3 (off := 6) (ft := 3) rfl ag rfl aj) ?_
   refine zz2 7 rfl (aM rfl aC) ?_
   refine zz2 8 rfl (aE rfl) ?_
   refine zz2 9 rfl (zz3 (off := 0) (ft := 40) rfl aB rfl aS) ?_
   refine zz2 10 rfl (zz3 (off := 0) (ft := 36) rfl aA rfl bF) ?_
   refine zz2 11 rfl (ff rfl rfl aZ ah) ?_
   refine bX [4, 12] (fun iq hq => ?_)
   rcases List.mem_cons.1 hq with rfl | hq
   ·skip
    refine aV rfl ?_
    refine zz0 (fD rfl dD) ?_
    refine bB ?_
    refine bX [12] (fun iq hq => ?_)
    obtain rfl := List.mem_singleton.1 hq
    refine aV rfl ?_
    refine zz0 (dU rfl (by repeat constructor) ay (il hA (by simp))) ?_
    refine bB ?_
    refine bX [13] (fun iq hq => ?_)
    obtain rfl := List.mem_singleton.1 hq
    refine aV rfl ?_
    refine fu (E := aw) (s.m.reg i.a) rfl rfl al ah fj (by rfl) (by rfl) rfl (fun V5 => ?_)
    refine bB ?_
    refine bX [14] (fun iq hq => ?_)
    obtain rfl := List.mem_singleton.1 hq
    refine aV rfl ?_
    refine zz7 rfl rfl al gr (fun V44 => ?_)
    refine jx (V := V44) (fun pn cn hpv => ?_)
    subst hpv
    refine bB ?_
    refine zz2 15 rfl (aE rfl) ?_
    refine zz2 16 rfl (zz3 (off := 16) (ft := 24) rfl aB rfl cC) ?_
    refine bX [17] (fun iq hq => ?_)
    obtain rfl := List.mem_singleton.1 hq
    refine aV rfl ?_
    refine zz4 rfl rfl cC (pT _) ?_
    refine bB ?_
    refine dZ ?_
    refine aa (af (ab (zz0 (ad rfl) (zz0 (bK rfl bo aH) ?_))))
    refine db (fun _ : Unit => .tuple #[]) [cellE bc (bN (s) bM vi (.slice pn (s.out ++ [s.m.reg i.a]).length cn) eff) 82] (fun _ => [cellE bc (bN ((s).to (cv i)) bM vi (.slice pn (s.out ++ [s.m.reg i.a]).length cn) eff) 82]) (ok := fun _ => True) (dd := fun _ => 0) rfl gp (by repeat' constructor) (fun w hw => Nat.le_refl _) (fun w hw => iL (s) bc bM vi (.slice pn (s.out ++ [s.m.reg i.a]).length cn) eff i w (hw.own (by repeat' constructor)) hI) rfl (fun _ _ => ?_)
    refine ae (aa (af (ab (zz0 (ac rfl) (ae (aa (ao ?_)))))))
    refine aI iE rfl (fun w' hw => ?_)
    have hq : de inp s i (cv i) = ({ s with m := s.m.to (cv i), out := s.out ++ [s.m.reg i.a] }, 0) := by unfold de; repeat (first | rw [if_pos (by first | assumption | omega)] | rw [if_neg (by first | assumption | omega)])
    exact ⟨(.slice pn (s.out ++ [s.m.reg i.a]).length cn), by rw [hq]; try rfl, by rw [hq]; exact hw.upd (Bg.le.refl _) (by repeat' constructor), trivial⟩
   obtain rfl := List.mem_singleton.1 hq
   refine aV rfl ?_
   refine zz0 (dU rfl (by repeat constructor) ay (il hA (by simp))) ?_
   refine bB ?_
   refine bX [4, 13] (fun iq hq => ?_)
   rcases List.mem_cons.1 hq with rfl | hq
   ·skip
    refine aV rfl ?_
    refine zz0 (fD rfl dD) ?_
    refine bB ?_
    refine bX [13] (fun iq hq => ?_)
    obtain rfl := List.mem_singleton.1 hq
    refine aV rfl ?_
    refine fu (E := aw) (s.m.reg i.a) rfl rfl al ah fj (by rfl) (by rfl) rfl (fun V6 => ?_)
    refine bB ?_
    refine bX [14] (fun iq hq => ?_)
    obtain rfl := List.mem_singleton.1 hq
    refine aV rfl ?_
    refine zz7 rfl rfl al gr (fun V44 => ?_)
    refine jx (V := V44) (fun pn cn hpv => ?_)
    subst hpv
    refine bB ?_
    refine zz2 15 rfl (aE rfl) ?_
    refine zz2 16 rfl (zz3 (off := 16) (ft := 24) rfl aB rfl cC) ?_
    refine bX [17] (fun iq hq => ?_)
    obtain rfl := List.mem_singleton.1 hq
    refine aV rfl ?_
    refine zz4 rfl rfl cC (pT _) ?_
    refine bB ?_
    refine dZ ?_
    refine aa (af (ab (zz0 (ad rfl) (zz0 (bK rfl bo aH) ?_))))
    refine db (fun _ : Unit => .tuple #[]) [cellE bc (bN (s) bM vi (.slice pn (s.out ++ [s.m.reg i.a]).length cn) eff) 82] (fun _ => [cellE bc (bN ((s).to (cv i)) bM vi (.slice pn (s.out ++ [s.m.reg i.a]).length cn) eff) 82]) (ok := fun _ => True) (dd := fun _ => 0) rfl gp (by repeat' constructor) (fun w hw => Nat.le_refl _) (fun w hw => iL (s) bc bM vi (.slice pn (s.out ++ [s.m.reg i.a]).length cn) eff i w (hw.own (by repeat' constructor)) hI) rfl (fun _ _ => ?_)
    refine ae (aa (af (ab (zz0 (ac rfl) (ae (aa (ao ?_)))))))
    refine aI iE rfl (fun w' hw => ?_)
    have hq : de inp s i (cv i) = ({ s with m := s.m.to (cv i), out := s.out ++ [s.m.reg i.a] }, 0) := by unfold de; repeat (first | rw [if_pos (by first | assumption | omega)] | rw [if_neg (by first | assumption | omega)])
    exact ⟨(.slice pn (s.out ++ [s.m.reg i.a]).length cn), by rw [hq]; try rfl, by rw [hq]; exact hw.upd (Bg.le.refl _) (by repeat' constructor), trivial⟩
   obtain rfl := List.mem_singleton.1 hq
   refine aV rfl ?_
   refine fu (E := aw) (s.m.reg i.a) rfl rfl al ah fj (by rfl) (by rfl) rfl (fun V7 => ?_)
   refine bB ?_
   refine bX [4] (fun iq hq => ?_)
   obtain rfl := List.mem_singleton.1 hq
   refine aV rfl ?_
   refine zz0 (fD rfl dD) ?_
   refine bB ?_
   refine bX [14] (fun iq hq => ?_)
   obtain rfl := List.mem_singleton.1 hq
   refine aV rfl ?_
   refine zz7 rfl rfl al gr (fun V44 => ?_)
   refine jx (V := V44) (fun pn cn hpv => ?_)
   subst hpv
   refine bB ?_
   refine zz2 15 rfl (aE rfl) ?_
   refine zz2 16 rfl (zz3 (off := 16) (ft := 24) rfl aB rfl cC) ?_
   refine bX [17] (fun iq hq => ?_)
   obtain rfl := List.mem_singleton.1 hq
   refine aV rfl ?_
   refine zz4 rfl rfl cC (pT _) ?_
   refine bB ?_
   refine dZ ?_
   refine aa (af (ab (zz0 (ad rfl) (zz0 (bK rfl bo aH) ?_))))
   refine db (fun _ : Unit => .tuple #[]) [cellE bc (bN (s) bM vi (.slice pn (s.out ++ [s.m.reg i.a]).length cn) eff) 82] (fun _ => [cellE bc (bN ((s).to (cv i)) bM vi (.slice pn (s.out ++ [s.m.reg i.a]).length cn) eff) 82]) (ok := fun _ => True) (dd := fun _ => 0) rfl gp (by repeat' constructor) (fun w hw => Nat.le_refl _) (fun w hw => iL (s) bc bM vi (.slice pn (s.out ++ [s.m.reg i.a]).length cn) eff i w (hw.own (by repeat' constructor)) hI) rfl (fun _ _ => ?_)
   refine ae (aa (af (ab (zz0 (ac rfl) (ae (aa (ao ?_)))))))
   refine aI iE rfl (fun w' hw => ?_)
   have hq : de inp s i (cv i) = ({ s with m := s.m.to (cv i), out := s.out ++ [s.m.reg i.a] }, 0) := by unfold de; repeat (first | rw [if_pos (by first | assumption | omega)] | rw [if_neg (by first | assumption | omega)])
   exact ⟨(.slice pn (s.out ++ [s.m.reg i.a]).length cn), by rw [hq]; try rfl, by rw [hq]; exact hw.upd (Bg.le.refl _) (by repeat' constructor), trivial⟩
theorem uZ (s : St) (bc bM : Nat) (vi vo eff : Value) (i : Ins) (w : World) (ho : OwnAt w [cellE bc (bN s bM vi vo eff) 82]) :
  Calls Tryz.prog 61 #[.pointer (some ⟨bc, 0, none⟩), .agg (em.enc i).toArray] w (fun e w' => ∃ _ : Unit, e = .returned (.tuple #[]) ∧ Upd 0 w w' (bZ [cellE bc (bN s bM vi vo eff) 82]) [cellE bc (bN s bM vi vo (lU i.op)) 82] ∧ True) := by
 refine ij (L := [cellE bc (bN s bM vi vo eff) 82]) ho rfl (Nat.zero_le _) Tryz.func61 rfl Tryz.ntmps61 rfl ?_
 refine af (ab ?_)
 refine cH rfl rfl rfl (fun b1 => ?_)
 refine ae (aa (af (ab (zz0 (zz3 (off := 2) (ft := 3) rfl ag rfl aj) ?_))))
 refine zz0 (aM rfl aC) ?_
 refine ae (aa (aQ (af (af (ab (zz0 (aN rfl rfl) (zz0 (ac rfl) (ae (aa ?_)))))))))
 apply cE
 ·exact rfl
 ·intro hO2
  try simp only [bs] at hO2
  refine ab (zz0 (aN rfl rfl) (zz0 (ac rfl) (ae (aa ?_))))
  exact cT rfl (bR 2 rfl)
 refine aa ?_
 refine ak rfl ?_ ?_ <;> intro h3 <;> try simp only [bs] at h3
 ·refine ab (zz0 (ad rfl) (zz0 (aE rfl) ?_))
  refine zz0 (zz3 (off := 19) (ft := 80) rfl aB rfl eK) ?_
  refine zz4 rfl rfl eK (lq _) ?_
  refine ae (ba ?_)
  refine gg iG (fun w' hw => ?_)
  have he : lU i.op = .func (.func 84) #[] #[] := by unfold lU nP; repeat (first | rw [if_pos (by omega)] | rw [if_neg (by omega)])
  rw [← he] at hw
  exact ⟨(), rfl, hw.upd (Bg.le.refl _) (by repeat' constructor), trivial⟩
 ·refine af (af (ab (zz0 (aN rfl rfl) (zz0 (ac rfl) (ae (aa ?_))))))
  apply cE
  ·exact rfl
  ·intro hO4
   try simp only [bs] at hO4
   refine af (ab (zz0 (aN rfl rfl) (zz0 (ac rfl) (ae (aa ?_)))))
   apply cE
   ·exact rfl
   ·intro hO5
    try simp only [bs] at hO5
    refine ab (zz0 (aN rfl rfl) (zz0 (ac rfl) (ae (aa ?_))))
    exact cT rfl (bR 2 rfl)
   refine aa ?_
   exact cT rfl (bR 3 rfl)
  refine aa ?_
  refine ak rfl ?_ ?_ <;> intro h6 <;> try simp only [bs] at h6
  ·refine ab (zz0 (ad rfl) (zz0 (aE rfl) ?_))
   refine zz0 (zz3 (off := 19) (ft := 80) rfl aB rfl eK) ?_
   refine zz4 rfl rfl eK (lq _) ?_
   refine ae (ba ?_)
   refine gg iG (fun w' hw => ?_)
   have he : lU i.op = .func (.func 85) #[] #[] := by unfold lU nP; repeat (first | rw [if_pos (by omega)] | rw [if_neg (by omega)])
   rw [← he] at hw
   exact ⟨(), rfl, hw.upd (Bg.le.refl _) (by repeat' constructor), trivial⟩
  ·refine af (af (ab (zz0 (aN rfl rfl) (zz0 (ac rfl) (ae (aa ?_))))))
   apply cE
   ·exact rfl
   ·intro hO7
    try simp only [bs] at hO7
    refine af (ab (zz0 (aN rfl rfl) (zz0 (ac rfl) (ae (aa ?_)))))
    apply cE
    ·exact rfl
    ·intro hO8
     try simp only [bs] at hO8
     refine ab (zz0 (aN rfl rfl) (zz0 (ac rfl) (ae (aa ?_))))
     exact cT rfl (bR 2 rfl)
    refine aa ?_
    exact cT rfl (bR 3 rfl)
   refine aa ?_
   refine ak rfl ?_ ?_ <;> intro h9 <;> try simp only [bs] at h9
   ·refine ab (zz0 (ad rfl) (zz0 (aE rfl) ?_))
    refine zz0 (zz3 (off := 19) (ft := 80) rfl aB rfl eK) ?_
    refine zz4 rfl rfl eK (lq _) ?_
    refine ae (ba ?_)
    refine gg iG (fun w' hw => ?_)
    have he : lU i.op = .func (.func 86) #[] #[] := by unfold lU nP; repeat (first | rw [if_pos (by omega)] | rw [if_neg (by omega)])
    rw [← he] at hw
    exact ⟨(), rfl, hw.upd (Bg.le.refl _) (by repeat' constructor), trivial⟩
   ·refine af (af (ab (zz0 (aN rfl rfl) (zz0 (ac rfl) (ae (aa ?_))))))
    apply cE
    ·exact rfl
    ·intro hO10
     try simp only [bs] at hO10
     refine af (ab (zz0 (aN rfl rfl) (zz0 (ac rfl) (ae (aa ?_)))))
     apply cE
     ·exact rfl
     ·intro hO11
      try simp only [bs] at hO11
      refine ab (zz0 (aN rfl rfl) (zz0 (ac rfl) (ae (aa ?_))))
      exact cT rfl (bR 2 rfl)
     refine aa ?_
     exact cT rfl (bR 3 rfl)
    refine aa ?_
    refine ak rfl ?_ ?_ <;> intro h12 <;> try simp only [bs] at h12
    ·refine ab (zz0 (ad rfl) (zz0 (aE rfl) ?_))
     refine zz0 (zz3 (off := 19) (ft := 80) rfl aB rfl eK) ?_
     refine zz4 rfl rfl eK (lq _) ?_
     refine ae (ba ?_)
     refine gg iG (fun w' hw => ?_)
     have he : lU i.op = .func (.func 87) #[] #[] := by unfold lU nP; repeat (first | rw [if_pos (by omega)] | rw [if_neg (by omega)])
     rw [← he] at hw
     exact ⟨(), rfl, hw.upd (Bg.le.refl _) (by repeat' constructor), trivial⟩
    ·refine af (af (ab (zz0 (aN rfl rfl) (zz0 (ac rfl) (ae (aa ?_))))))
     apply cE
     ·exact rfl
     ·intro hO13
      try simp only [bs] at hO13
      refine ab (zz0 (aN rfl rfl) (zz0 (ac rfl) (ae (aa ?_))))
      exact cT rfl (bR 2 rfl)
     refine aa ?_
     refine ak rfl ?_ ?_ <;> intro h14 <;> try simp only [bs] at h14
     ·refine ab (zz0 (ad rfl) (zz0 (aE rfl) ?_))
      refine zz0 (zz3 (off := 19) (ft := 80) rfl aB rfl eK) ?_
      refine zz4 rfl rfl eK (lq _) ?_
      refine ae (ba ?_)
      refine gg iG (fun w' hw => ?_)
      have he : lU i.op = .func (.func 88) #[] #[] := by unfold lU nP; repeat (first | rw [if_pos (by omega)] | rw [if_neg (by omega)])
      rw [← he] at hw
      exact ⟨(), rfl, hw.upd (Bg.le.refl _) (by repeat' constructor), trivial⟩
     ·refine ab (zz0 (ad rfl) (zz0 (aE rfl) ?_))
      refine zz0 (zz3 (off := 19) (ft := 80) rfl aB rfl eK) ?_
      refine zz4 rfl rfl eK (lq _) ?_
      refine ae (ba ?_)
      refine gg iG (fun w' hw => ?_)
      have he : lU i.op = .func (.func 89) #[] #[] := by unfold lU nP; repeat (first | rw [if_pos (by omega)] | rw [if_neg (by omega)])
      rw [← he] at hw
      exact ⟨(), rfl, hw.upd (Bg.le.refl _) (by repeat' constructor), trivial⟩
end Go.Proofs.YtpeaodkfbjenpaaGreat
namespace Go.Proofs.YtpeaodkfbjenpaaGreat
open Go Go.HL Go.RowKit
theorem Aw (s : St) (bc bM bm : Nat) (VR vi vo eff : Value) (rs : List RegV) (l : List SecV) (wl : WL) (inp : List UInt32) (i : Ins) (w : World) (ho : OwnAt w [cellE bc (bN s bM vi vo eff) 82, mapE bm u8V wl, rowE vo 23 aw s.out]) (hC : CpuAt (Bg.lessB w (bZ [cellE bc (bN s bM vi vo eff) 82, mapE bm u8V wl, rowE vo 23 aw s.out]) 0).blk bM bm VR vi rs inp) (hO : MemOK l rs) (hwl : cO wl = s.w) (hvo : ∃ a n c, vo = .slice a n c) (hI : InsOK i) (hA : 0 ≤ i.a ∧ i.a < 8) (hB : 0 ≤ i.b ∧ i.b < 8) :
  Calls Tryz.prog (nP i.op) #[.pointer (some ⟨bc, 0, none⟩), .agg (em.enc i).toArray] w (fun e w' => ∃ j : WL × Value, e = .returned (.int .i64 (cS l inp s i (cv i)).2) ∧ Upd 0 w w' (bZ [cellE bc (bN s bM vi vo eff) 82, mapE bm u8V wl, rowE vo 23 aw s.out]) [cellE bc (bN (cS l inp s i (cv i)).1 bM vi j.2 eff) 82, mapE bm u8V j.1, rowE j.2 23 aw (cS l inp s i (cv i)).1.out] ∧ (cO j.1 = (cS l inp s i (cv i)).1.w ∧ j.1.length ≤ wl.length + 4 ∧ ∃ a n c, j.2 = .slice a n c)) := by
 have hM2 : MemAt (Bg.lessB w (bZ [cellE bc (bN s bM vi vo eff) 82, mapE bm u8V wl]) 0).blk bM bm VR rs := hC.mem.mono (tz (tU (fun e he => by simp only [List.mem_cons, List.not_mem_nil, or_false] at he ⊢; rcases he with rfl | rfl <;> simp)))
 have hi3 : Sl (Bg.lessB w (bZ [cellE bc (bN s bM vi vo eff) 82, rowE vo 23 aw s.out]) 0).blk aw inp vi := hC.inp.mono (tz (tU (fun e he => by simp only [List.mem_cons, List.not_mem_nil, or_false] at he ⊢; rcases he with rfl | rfl <;> simp)))
 have ho2 : OwnAt w ([cellE bc (bN s bM vi vo eff) 82, mapE bm u8V wl] ++ [rowE vo 23 aw s.out]) := ho
 have ho1 : OwnAt w ([cellE bc (bN s bM vi vo eff) 82] ++ [mapE bm u8V wl, rowE vo 23 aw s.out]) := ho
 have hp : ([cellE bc (bN s bM vi vo eff) 82, rowE vo 23 aw s.out] ++ [mapE bm u8V wl]).Perm [cellE bc (bN s bM vi vo eff) 82, mapE bm u8V wl, rowE vo 23 aw s.out] := .cons _ (.swap _ _ _)
 have ho3 : OwnAt w ([cellE bc (bN s bM vi vo eff) 82, rowE vo 23 aw s.out] ++ [mapE bm u8V wl]) := ho.perm hp
 unfold nP cS
 by_cases h1 : i.op = 3 ∨ i.op = 4
 ·rw [if_pos h1, if_pos h1]
  refine (we s bc bM bm VR vi vo eff rs l wl i w ho2.left hM2 hO hwl hI hA hB).mono fun e w' ⟨wl', q1, q2, q3, q4⟩ => ⟨(wl', vo), q1, ?_, q3, q4, hvo⟩
  rw [qO]; exact q2.frame ho2
 rw [if_neg h1, if_neg h1]
 by_cases h2 : i.op = 16 ∨ i.op = 17 ∨ i.op = 18
 ·rw [if_pos h2, if_pos h2]
  refine (u6 s bc bM bm VR vi vo eff rs l wl i w ho2.left hM2 hO hwl hI hA hB).mono fun e w' ⟨wl', q1, q2, q3, q4⟩ => ⟨(wl', vo), q1, ?_, q3, q4, hvo⟩
  rw [pZ]; exact q2.frame ho2
 rw [if_neg h2, if_neg h2]
 by_cases h3 : i.op = 20 ∨ i.op = 21 ∨ i.op = 22
 ·rw [if_pos h3, if_pos h3]
  refine (yB s bc bM bm VR vi vo eff rs l wl i w ho2.left hM2 hO hwl hI hA hB).mono fun e w' ⟨wl', q1, q2, q3, q4⟩ => ⟨(wl', vo), q1, ?_, q3, q4, hvo⟩
  rw [tC]; exact q2.frame ho2
 rw [if_neg h3, if_neg h3]
 by_cases h4 : i.op = 23 ∨ i.op = 24 ∨ i.op = 2
 ·rw [if_pos h4, if_pos h4]
  refine (zb s bc bM bm VR vi vo eff rs l wl i w ho2.left hM2 hO hwl hI hA hB).mono fun e w' ⟨wl', q1, q2, q3, q4⟩ => ⟨(wl', vo), q1, ?_, q3, q4, hvo⟩
  rw [tQ]; exact q2.frame ho2
 rw [if_neg h4, if_neg h4]
 by_cases h5 : i.op = 26 ∨ i.op = 27
 ·rw [if_pos h5, if_pos h5]
  refine (v9 s bc bM vi vo eff inp i w ho3.left hi3 hvo hI hA hB).mono fun e w' ⟨vo', q1, q2, _⟩ => ⟨(wl, vo'), q1, ?_, by rw [vu]; exact hwl, Nat.le_add_right _ _, ?_⟩
  ·exact (q2.frame ho3).perm hp.symm (.cons _ (.swap _ _ _))
  ·have hr := q2.ent (rowE vo' 23 aw (de inp s i (cv i)).1.out) (by simp)
   have hr' : RowOK vo' 23 aw (de inp s i (cv i)).1.out (vo'.ownBlock.bind (w'.heap[·]?)) := hr
   rcases hr' with ⟨e1, _⟩ | ⟨g, cap, cur, e1, _⟩
   ·exact ⟨_, _, _, e1⟩
   ·exact ⟨_, _, _, e1⟩
 rw [if_neg h5, if_neg h5]
 refine (wz s bc bM vi vo eff i w ho1.left hI hA hB).mono fun e w' ⟨_, q1, q2, _⟩ => ⟨(wl, vo), q1, q2.frame ho1, hwl, Nat.le_add_right _ _, hvo⟩
theorem uV (op : Int) (args : Array Value) (w : World) : (callFunc (nP op) args).run Tryz.prog w = .ok (.enter (nP op) args) w := by
 unfold nP
 split
 ·exact Tryz.call84 args w
 split
 ·exact Tryz.call85 args w
 split
 ·exact Tryz.call86 args w
 split
 ·exact Tryz.call87 args w
 split
 ·exact Tryz.call88 args w
 ·exact Tryz.call89 args w
theorem yM (s : St) (bc bM bm : Nat) (VR vi vo eff : Value) (rs : List RegV) (l : List SecV) (wl : WL) (inp : List UInt32) (w : World) (ho : OwnAt w [cellE bc (bN s bM vi vo eff) 82, mapE bm u8V wl, rowE vo 23 aw s.out]) (hC : CpuAt (Bg.lessB w (bZ [cellE bc (bN s bM vi vo eff) 82, mapE bm u8V wl, rowE vo 23 aw s.out]) 0).blk bM bm VR vi rs inp) (hO : MemOK l rs) (hwl : cO wl = s.w) (hvo : ∃ a n c, vo = .slice a n c) :
  Calls Tryz.prog 38 #[.pointer (some ⟨bc, 0, none⟩)] w (fun e w' => ∃ j : WL × Value × Value, e = .returned (.int .i64 (eN l inp s).2) ∧ Upd 0 w w' (bZ [cellE bc (bN s bM vi vo eff) 82, mapE bm u8V wl, rowE vo 23 aw s.out]) [cellE bc (bN (eN l inp s).1 bM vi j.2.1 j.2.2) 82, mapE bm u8V j.1, rowE j.2.1 23 aw (eN l inp s).1.out] ∧ (cO j.1 = (eN l inp s).1.w ∧ j.1.length ≤ wl.length + 4 ∧ ∃ a n c, j.2.1 = .slice a n c)) := by
 refine ij (L := [cellE bc (bN s bM vi vo eff) 82, mapE bm u8V wl, rowE vo 23 aw s.out]) ho rfl (Nat.zero_le _) Tryz.func38 rfl Tryz.ntmps38 rfl ?_
 refine af (ab (zz0 (ac rfl) (ae (aa (af (bH ([cellE bc (bN s bM vi vo eff) 82]) 15 rfl aU ?_))))))
 refine zz2 0 rfl (ad rfl) ?_
 refine zz2 1 rfl (aE rfl) ?_
 refine zz2 2 rfl (zz3 (off := 13) (ft := 68) rfl aB rfl fk) ?_
 refine zz2 3 rfl (fD rfl fR) ?_
 refine zz2 4 rfl (ad rfl) ?_
 refine zz2 5 rfl (aE rfl) ?_
 refine zz2 6 rfl (zz3 (off := 0) (ft := 40) rfl aB rfl aS) ?_
 refine zz2 7 rfl (zz3 (off := 8) (ft := 23) rfl aA rfl ah) ?_
 refine zz2 8 rfl (fD rfl ay) ?_
 refine bX [9] (fun iq hq => ?_)
 obtain rfl := List.mem_singleton.1 hq
 refine aV rfl ?_
 refine ow (fun V => .tuple #[V, .int .i64 (dK l s.w s.m.pc).2]) rfl Tryz.call59 (fun w hw => by have q := uH bM bm VR rs l s.m.pc wl w (hC.mem.mono hw.bg) hO (mapE.in_ (hw.ent _ (by repeat constructor))); rw [hwl] at q; exact q) rfl (fun V51 => ?_)
 refine bB ?_
 refine zz2 10 rfl (ad rfl) ?_
 refine zz2 11 rfl (az rfl rfl) ?_
 refine zz2 12 rfl (az rfl rfl) ?_
 refine zz2 13 rfl (ac rfl) ?_
 refine zz2 14 rfl (ac rfl) ?_
 refine dZ ?_
 refine aa (af (af (ab (zz0 (ad rfl) (zz0 (dN rfl rfl) (ae (aa ?_)))))))
 refine ak rfl ?_ ?_ <;> intro h1 <;> try simp only [bs] at h1
 ·refine af (ab (zz0 (ad rfl) (zz0 (ac rfl) (ae (aa (ao (an ?_)))))))
  refine aI Tryz.results38 rfl (fun w' hw => ?_)
  have hq : eN l inp s = (s, (dK l s.w s.m.pc).2) := by unfold eN; rw [if_pos (by assumption)]
  exact ⟨(wl, vo, eff), by rw [hq]; try rfl, by rw [hq]; exact hw.upd (Bg.le.refl _) (by repeat' constructor), by rw [hq]; exact ⟨hwl, Nat.le_add_right _ _, hvo⟩⟩
 ·refine ax (aa (af (ab (zz0 (ad rfl) (zz0 (ad rfl) (zz0 (aE rfl) ?_))))))
  refine zz0 (zz3 (off := 0) (ft := 40) rfl aB rfl aS) ?_
  refine zz0 (zz3 (off := 8) (ft := 23) rfl aA rfl ah) ?_
  refine zz0 (fD rfl ay) ?_
  refine zz0 (aF rfl Tryz.call60 (fun w hw => uW (dK l s.w s.m.pc).1 _ s.m.pc w (hw.row (by repeat constructor)))) ?_
  refine zz0 (ad rfl) (zz0 (az rfl rfl) (zz0 (az rfl rfl) ?_))
  refine cZ dq rfl (fun b2 => ?_)
  refine bA em rfl rfl aH ?_
  obtain ⟨ii, hii⟩ : ∃ ii, ii = (gB (dK l s.w s.m.pc).1 s.m.pc).1 := ⟨_, rfl⟩
  change Tr _ _ (cellE b2 (em.enc (gB (dK l s.w s.m.pc).1 s.m.pc).1) 114 :: _) _ _
  rw [← hii]
  refine zz0 (ac rfl) (ae (aa (af (af (ab (zz0 (ad rfl) (zz0 (dN rfl rfl) (ae (aa ?_)))))))))
  refine ak rfl ?_ ?_ <;> intro h3 <;> try simp only [bs] at h3
  ·refine af (ab (zz0 (ad rfl) (zz0 (ac rfl) (ae (aa (ao (an ?_)))))))
   refine aI Tryz.results38 rfl (fun w' hw => ?_)
   have hq : eN l inp s = (s, (gB (dK l s.w s.m.pc).1 s.m.pc).2) := by unfold eN; rw [if_neg (by simp_all), if_pos (by assumption)]
   exact ⟨(wl, vo, eff), by rw [hq]; try rfl, by rw [hq]; exact hw.upd (Bg.le.refl _) (by repeat' constructor), by rw [hq]; exact ⟨hwl, Nat.le_add_right _ _, hvo⟩⟩
  ·refine ax (aa (af ?_))
   have hd0 : (gB (dK l s.w s.m.pc).1 s.m.pc).2 = 0 := by simp_all
   have hIi : InsOK ii := by rw [hii]; exact yS
   obtain ⟨hAi, hBi⟩ := tN hd0
   rw [← hii] at hAi hBi
   refine ab (zz0 (ad rfl) (zz0 (bK rfl bo aH) ?_))
   refine db (fun _ : Unit => .tuple #[]) [cellE bc (bN s bM vi vo eff) 82] (fun _ => [cellE bc (bN s bM vi vo (lU ii.op)) 82]) (ok := fun _ => True) (dd := fun _ => 0) rfl Tryz.call61 (by repeat' constructor) (fun w hw => Nat.le_refl _) (fun w hw => uZ s bc bM vi vo eff ii w (hw.own (by repeat' constructor))) rfl (fun _ _ => ?_)
   refine ae (aa (af (bH ([cellE b2 (em.enc ii) 114]) 8 rfl aU ?_)))
   refine zz2 0 rfl (ad rfl) ?_
   refine zz2 1 rfl (aE rfl) ?_
   refine zz2 2 rfl (zz3 (off := 19) (ft := 80) rfl aB rfl eK) ?_
   refine zz2 4 rfl (ad rfl) ?_
   refine zz2 5 rfl (bK rfl bo aH) ?_
   refine bX [3] (fun iq hq => ?_)
   obtain rfl := List.mem_singleton.1 hq
   refine aV rfl ?_
   refine zz0 (fD rfl Tryz.isAgg80) ?_
   refine bB ?_
   refine bX [6] (fun iq hq => ?_)
   obtain rfl := List.mem_singleton.1 hq
   refine aV rfl ?_
   refine w9 (fun _ : WL × Value => .int .i64 (cS l inp s ii (cv ii)).2) [cellE bc (bN s bM vi vo (lU ii.op)) 82, mapE bm u8V wl, rowE vo 23 aw s.out] (fun j => [cellE bc (bN (cS l inp s ii (cv ii)).1 bM vi j.2 (lU ii.op)) 82, mapE bm u8V j.1, rowE j.2 23 aw (cS l inp s ii (cv ii)).1.out]) (ok := fun j => cO j.1 = (cS l inp s ii (cv ii)).1.w ∧ j.1.length ≤ wl.length + 4 ∧ ∃ a n c, j.2 = .slice a n c) (f := nP ii.op) (dd := fun _ => 0) rfl rfl (uV ii.op) (by repeat' constructor) (fun w hw => Nat.le_refl _) (fun w hw => Aw s bc bM bm VR vi vo (lU ii.op) rs l wl inp ii w (hw.own (by repeat' constructor)) (hC.mono (hw.lessB (Lo := [cellE bc (bN s bM vi vo (lU ii.op)) 82, mapE bm u8V wl, rowE vo 23 aw s.out]) (by repeat' constructor))) hO hwl hvo hIi hAi hBi) rfl (fun j hj => ?_)
   refine bB ?_
   refine zz2 7 rfl (ac rfl) ?_
   refine dZ ?_
   refine aa (ao ?_)
   refine aI Tryz.results38 rfl (fun w' hw => ?_)
   have hq : eN l inp s = cS l inp s ii (cv ii) := by rw [hii]; unfold eN; rw [if_neg (by simp_all), if_neg (by simp_all)]
   exact ⟨(j.1, j.2, lU ii.op), by rw [hq], by rw [hq]; exact hw.upd (Bg.le.refl _) (by repeat' constructor), by rw [hq]; exact hj⟩
theorem xu (s : St) (bc bM bm : Nat) (VR vi vo eff : Value) (rs : List RegV) (l : List SecV) (wl : WL) (inp : List UInt32) (w : World) (ho : OwnAt w [cellE bc (bN s bM vi vo eff) 82, mapE bm u8V wl, rowE vo 23 aw s.out]) (hC : CpuAt (Bg.lessB w (bZ [cellE bc (bN s bM vi vo eff) 82, mapE bm u8V wl, rowE vo 23 aw s.out]) 0).blk bM bm VR vi rs inp) (hO : MemOK l rs) (hwl : cO wl = s.w) (hvo : ∃ a n c, vo = .slice a n c) :
  Calls Tryz.prog 19 #[.pointer (some ⟨bc, 0, none⟩)] w (fun e w' => ∃ j : WL × Value × Value, e = .returned (.int .i64 (stepS l inp s).2) ∧ Upd 0 w w' (bZ [cellE bc (bN s bM vi vo eff) 82, mapE bm u8V wl, rowE vo 23 aw s.out]) [cellE bc (bN (stepS l inp s).1 bM vi j.2.1 j.2.2) 82, mapE bm u8V j.1, rowE j.2.1 23 aw (stepS l inp s).1.out] ∧ (cO j.1 = (stepS l inp s).1.w ∧ j.1.length ≤ wl.length + 4 ∧ ∃ a n c, j.2.1 = .slice a n c)) := by
 refine ij (L := [cellE bc (bN s bM vi vo eff) 82, mapE bm u8V wl, rowE vo 23 aw s.out]) ho rfl (Nat.zero_le _) Tryz.func19 rfl Tryz.ntmps19 rfl ?_
 refine af (ab (zz0 (ac rfl) (ae (aa (af (aQ (af (ab (zz0 (ad rfl) (zz0 (aF rfl j8 (fun w hw => j5 s bc bM vi vo eff w (cellE.cellsIn (hw.ent _ (by repeat constructor)) (Ext.refl _)))) ?_))))))))))
 refine zz0 (cp rfl) (zz0 (ac rfl) (ae (aa ?_)))
 refine ak rfl ?_ ?_ <;> intro h1 <;> try simp only [bs] at h1
 ·first | contradiction | (exfalso; omega) | simp_all
 ·refine af (ab (zz0 (ad rfl) (zz0 (aE rfl) ?_)))
  refine zz0 (zz3 (off := 17) (ft := 4) rfl aB rfl bv) ?_
  refine zz0 (fD rfl bP) ?_
  refine zz0 (ac rfl) (ae (aa ?_))
  refine ak rfl ?_ ?_ <;> intro h2 <;> try simp only [bs] at h2
  ·refine af (ab (zz0 (ac rfl) (ae (aa (ao (bf (an ?_)))))))
   refine aI Tryz.results19 rfl (fun w' hw => ?_)
   have hq : stepS l inp s = (s, 21) := by unfold stepS; rw [if_pos (by assumption)]
   exact ⟨(wl, vo, eff), by rw [hq], by rw [hq]; exact hw.upd (Bg.le.refl _) (by repeat' constructor), by rw [hq]; exact ⟨hwl, Nat.le_add_right _ _, hvo⟩⟩
  ·refine af (ab (zz0 (ad rfl) (zz0 (aE rfl) ?_)))
   refine zz0 (zz3 (off := 18) (ft := 31) rfl aB rfl da) ?_
   refine zz0 (fD rfl eH) ?_
   refine zz0 (aN rfl rfl) (zz0 (ac rfl) (ae (aa ?_)))
   refine ak rfl ?_ ?_ <;> intro h3 <;> try simp only [bs] at h3
   ·refine ab (zz0 (ad rfl) (zz0 (ad rfl) ?_))
    refine db (fun _ : WL × Value × Value => .int .i64 (eN l inp s).2) [cellE bc (bN s bM vi vo eff) 82, mapE bm u8V wl, rowE vo 23 aw s.out] (fun j => [cellE bc (bN (eN l inp s).1 bM vi j.2.1 j.2.2) 82, mapE bm u8V j.1, rowE j.2.1 23 aw (eN l inp s).1.out]) (ok := fun j => cO j.1 = (eN l inp s).1.w ∧ j.1.length ≤ wl.length + 4 ∧ ∃ a n c, j.2.1 = .slice a n c) (dd := fun _ => 0) rfl Tryz.call38 (by repeat' constructor) (fun w hw => Nat.le_refl _) (fun w hw => yM s bc bM bm VR vi vo eff rs l wl inp w (hw.own (by repeat' constructor)) (hC.mono (hw.lessB (Lo := [cellE bc (bN s bM vi vo eff) 82, mapE bm u8V wl, rowE vo 23 aw s.out]) (by repeat' constructor))) hO hwl hvo) rfl (fun j hj => ?_)
    refine zz0 (aE rfl) ?_
    refine zz0 (zz3 (off := 18) (ft := 31) rfl aB rfl da) ?_
    refine zz4 rfl rfl da (yZ _) ?_
    refine ae (ba (aa (af (ab (zz0 (ad rfl) (zz0 (aE rfl) ?_))))))
    refine zz0 (zz3 (off := 18) (ft := 31) rfl aB rfl da) ?_
    refine zz0 (fD rfl eH) ?_
    refine zz0 (ac rfl) (ae (aa (ao ?_)))
    refine aI Tryz.results19 rfl (fun w' hw => ?_)
    have hq : stepS l inp s = ({ (eN l inp s).1 with err := (eN l inp s).2 }, (eN l inp s).2) := by unfold stepS; rw [if_neg (by simp_all), if_neg (by simp_all)]
    exact ⟨j, by rw [hq]; try rfl, by rw [hq]; exact hw.upd (Bg.le.refl _) (by repeat' constructor), by rw [hq]; exact hj⟩
   ·refine ax (ba (aa (af (ab (zz0 (ad rfl) (zz0 (aE rfl) ?_))))))
    refine zz0 (zz3 (off := 18) (ft := 31) rfl aB rfl da) ?_
    refine zz0 (fD rfl eH) ?_
    refine zz0 (ac rfl) (ae (aa (ao ?_)))
    refine aI Tryz.results19 rfl (fun w' hw => ?_)
    have hq : stepS l inp s = (s, s.err) := by unfold stepS; rw [if_neg (by simp_all), if_pos (by assumption)]
    exact ⟨(wl, vo, eff), by rw [hq]; try rfl, by rw [hq]; exact hw.upd (Bg.le.refl _) (by repeat' constructor), by rw [hq]; exact ⟨hwl, Nat.le_add_right _ _, hvo⟩⟩
theorem wa (s : St) (bc bM bm : Nat) (VR vi vo eff : Value) (rs : List RegV) (l : List SecV) (wl : WL) (inp : List UInt32) (n : Int) (w : World) (ho : OwnAt w [cellE bc (bN s bM vi vo eff) 82, mapE bm u8V wl, rowE vo 23 aw s.out]) (hC : CpuAt (Bg.lessB w (bZ [cellE bc (bN s bM vi vo eff) 82, mapE bm u8V wl, rowE vo 23 aw s.out]) 0).blk bM bm VR vi rs inp) (hO : MemOK l rs) (hwl : cO wl = s.w) (hvo : ∃ a n c, vo = .slice a n c) (hol : s.out.length ≤ 4096) :
  Calls Tryz.prog 15 #[.pointer (some ⟨bc, 0, none⟩), .int .i64 n] w (fun e w' => ∃ j : WL × Value × Value × Value × Value, e = .returned (.tuple #[j.2.2.2.1, .agg #[.int .i64 (jl (dl l inp (min n 65536).toNat s)), j.2.2.2.2, .int .i64 ((cX l inp (min n 65536).toNat s).length : Nat)]]) ∧ Upd 0 w w' (bZ [cellE bc (bN s bM vi vo eff) 82, mapE bm u8V wl, rowE vo 23 aw s.out]) [cellE bc (bN (dl l inp (min n 65536).toNat s) bM vi j.2.1 j.2.2.1) 82, mapE bm u8V j.1, rowE j.2.1 23 aw (dl l inp (min n 65536).toNat s).out, rowE j.2.2.2.1 23 aw (cX l inp (min n 65536).toNat s), rowE j.2.2.2.2 23 aw (dl l inp (min n 65536).toNat s).out] ∧ (cO j.1 = (dl l inp (min n 65536).toNat s).w ∧ j.1.length ≤ wl.length + 4 * (cX l inp (min n 65536).toNat s).length ∧ ∃ a n c, j.2.1 = .slice a n c)) := by
 refine ij (L := [cellE bc (bN s bM vi vo eff) 82, mapE bm u8V wl, rowE vo 23 aw s.out]) ho rfl (Nat.zero_le _) Tryz.func15 rfl Tryz.ntmps15 rfl ?_
 refine af (ab (zz0 (ac rfl) ?_))
 refine cZ cY rfl (fun b1 => ?_)
 refine ae (aa (af (af (ab (zz0 (ad rfl) (zz0 (aF rfl j8 (fun w hw => j5 s bc bM vi vo eff w (cellE.cellsIn (hw.ent _ (by repeat constructor)) (Ext.refl _)))) ?_))))))
 refine zz0 (cp rfl) (ae (aa ?_))
 refine ak rfl ?_ ?_ <;> intro h2 <;> try simp only [bs] at h2
 ·first | contradiction | (exfalso; omega) | simp_all
 ·refine ax (aa (af (ab (zz0 (ac rfl) (ae (aa (af (aQ (f8 23 aw ?_)))))))))
  refine cu (ι := Nat × St × List UInt32 × WL × Value × Value × Value) (fun ⟨k, t, tr, wl1, vo1, eff1, vt⟩ => Ran l inp s k t tr ∧ k ≤ (min n 65536).toNat ∧ cO wl1 = t.w ∧ wl1.length ≤ wl.length + 4 * k ∧ ∃ a n c, vo1 = .slice a n c) (fun _ => (Bg.lessB w (bZ [cellE bc (bN s bM vi vo eff) 82, mapE bm u8V wl, rowE vo 23 aw s.out]) 0)) (fun ⟨k, t, tr, wl1, vo1, eff1, vt⟩ => [rowE vt 23 aw tr, cellE bc (bN t bM vi vo1 eff1) 82, mapE bm u8V wl1, rowE vo1 23 aw t.out, cellE b1 [.int .i64 0, .slice none 0 0, .int .i64 0] 46]) (fun ⟨k, t, tr, wl1, vo1, eff1, vt⟩ => [(6, vt)]) (fun ⟨k, t, tr, wl1, vo1, eff1, vt⟩ => (min n 65536).toNat - k) (0, s, [], wl, vo, eff, _) ⟨.nil, Nat.zero_le _, hwl, Nat.le_refl _, hvo⟩ (.cons (by first | rfl | exact am rfl (by omega) | exact am rfl (by simp) | exact aR rfl (by simp)) Front.nil) (by repeat' constructor) rfl (fun i hi m hm => ?_)
  obtain ⟨k, t, tr, wl1, vo1, eff1, vt⟩ := i
  replace hi : Ran l inp s k t tr ∧ k ≤ (min n 65536).toNat ∧ cO wl1 = t.w ∧ wl1.length ≤ wl.length + 4 * k ∧ ∃ a n c, vo1 = .slice a n c := hi
  replace hm : m = (min n 65536).toNat - k := hm
  change Tr _ _ [rowE vt 23 aw tr, cellE bc (bN t bM vi vo1 eff1) 82, mapE bm u8V wl1, rowE vo1 23 aw t.out, cellE b1 [.int .i64 0, .slice none 0 0, .int .i64 0] 46] ([(6, vt)] ++ _) _
  obtain ⟨hR, hk, hwl1, hwn1, hvo1⟩ := hi
  have hrl := hR.len
  refine af (af (ab (zz0 (ad rfl) (zz0 (fN rfl (by repeat constructor) al) ?_))))
  refine zz0 (ad rfl) (zz0 (kN rfl rfl) ?_)
  refine zz0 (cI rfl rfl) (zz0 (ad rfl) ?_)
  apply bJ
  ·exact (rfl : _ = (6, 17, 23))
  ·exact rfl
  ·intro hT3; have hT3' := hT3
   try simp only [bs] at hT3'
   refine zz5 hT3 (ad rfl) (zz5 hT3 (aE rfl) ?_)
   refine zz5 hT3 (zz3 (off := 17) (ft := 4) rfl aB rfl bv) ?_
   refine zz5 hT3 (fD rfl bP) ?_
   refine zz5 hT3 (cp rfl) (zz0 (aL rfl hT3 rfl) ?_)
   refine ae (aa ?_)
   exact av (Sub.cons rfl (zz8 6 rfl))
  ·intro hF3
   refine zz6 hF3 (zz6 hF3 (zz6 hF3 (zz6 hF3 (zz6 hF3 (zz0 (aK rfl hF3 rfl) ?_)))))
   refine ae (aa ?_)
   exact av (Sub.cons rfl (zz8 6 rfl))
  refine zz0 (ad rfl) ?_
  apply bJ
  ·exact (rfl : _ = (6, 24, 30))
  ·exact rfl
  ·intro hT4; have hT4' := hT4
   try simp only [bs] at hT4'
   refine zz5 hT4 (ad rfl) (zz5 hT4 (aE rfl) ?_)
   refine zz5 hT4 (zz3 (off := 18) (ft := 31) rfl aB rfl da) ?_
   refine zz5 hT4 (fD rfl eH) ?_
   refine zz5 hT4 (aN rfl rfl) (zz0 (aL rfl hT4 rfl) ?_)
   refine ae (aa ?_)
   exact av (Sub.cons rfl (zz8 6 rfl))
  ·intro hF4
   refine zz6 hF4 (zz6 hF4 (zz6 hF4 (zz6 hF4 (zz6 hF4 (zz0 (aK rfl hF4 rfl) ?_)))))
   refine ae (aa ?_)
   exact av (Sub.cons rfl (zz8 6 rfl))
  refine ae (aa ?_)
  refine ak rfl ?_ ?_ <;> intro h5 <;> try simp only [bs] at h5
  ·refine ax (aa (aQ (af (ab (zz0 (ad rfl) (zz0 (ad rfl) (zz0 (aE rfl) ?_)))))))
   refine zz0 (zz3 (off := 0) (ft := 40) rfl aB rfl aS) ?_
   refine zz0 (zz3 (off := 8) (ft := 23) rfl aA rfl ah) ?_
   refine zz0 (fD rfl ay) ?_
   refine fu (E := aw) t.m.pc rfl rfl al ah fj (by rfl) (by rfl) rfl (fun V6 => ?_)
   refine zz7 rfl rfl al gr (fun V44 => ?_)
   refine zz0 (ac rfl) (ae (aa (ab (zz0 (ad rfl) ?_))))
   refine db (fun _ : WL × Value × Value => .int .i64 (stepS l inp t).2) [cellE bc (bN t bM vi vo1 eff1) 82, mapE bm u8V wl1, rowE vo1 23 aw t.out] (fun j => [cellE bc (bN (stepS l inp t).1 bM vi j.2.1 j.2.2) 82, mapE bm u8V j.1, rowE j.2.1 23 aw (stepS l inp t).1.out]) (ok := fun j => cO j.1 = (stepS l inp t).1.w ∧ j.1.length ≤ wl1.length + 4 ∧ ∃ a n c, j.2.1 = .slice a n c) (dd := fun _ => 0) rfl Tryz.call19 (by repeat' constructor) (fun w hw => Nat.le_refl _) (fun w hw => xu t bc bM bm VR vi vo1 eff1 rs l wl1 inp w (hw.own (by repeat' constructor)) (hC.mono (hw.lessB (Lo := [cellE bc (bN t bM vi vo1 eff1) 82, mapE bm u8V wl1, rowE vo1 23 aw t.out]) (by repeat' constructor))) hO hwl1 hvo1) rfl (fun j hj => ?_)
   refine ae (ba (aa ?_))
   apply bT (k + 1, (stepS l inp t).1, tr ++ [t.m.pc], j.1, j.2.1, j.2.2, V44)
   ·exact rfl
   ·exact (.cons (by first | rfl | exact am rfl (by omega) | exact am rfl (by simp) | exact aR rfl (by simp)) Front.nil)
   ·exact bR 21 rfl
   ·exact (by repeat' constructor)
   ·exact ⟨.snoc hR (by simp_all) (by simp_all), by omega, hj.1, by have := hj.2.1; show j.1.length ≤ _; omega, hj.2.2⟩
   ·exact (by show (min n 65536).toNat - (k + 1) < m; omega)
  ·refine cj (aY (aY (bV (aa ?_))))
   have hol1 := hR.out_len hol
   have hfu := hR.full (n := (min n 65536).toNat) hk (by by_cases hq : k = (min n 65536).toNat; exact .inl hq; right; rintro ⟨q1, q2⟩; simp_all; omega)
   refine eE (ι := Option Addr × Nat × Nat) (fun ⟨pq, cq, bq⟩ => True) (fun _ => (Bg.lessB w (bZ [cellE bc (bN s bM vi vo eff) 82, mapE bm u8V wl, rowE vo 23 aw s.out]) 0)) (fun ⟨pq, cq, bq⟩ => [cellE bq [.int .i64 t.err, .slice pq t.out.length cq, .int .i64 (tr.length : Nat)] 46, rowE (.slice pq t.out.length cq) 23 aw t.out, cellE bc (bN t bM vi vo1 eff1) 82, mapE bm u8V wl1, rowE vo1 23 aw t.out, rowE vt 23 aw tr, cellE b1 [.int .i64 0, .slice none 0 0, .int .i64 0] 46]) (fun ⟨pq, cq, bq⟩ => [(7, .pointer (some ⟨bq, 0, none⟩))]) ?_ (fun i hi => ?_)
   ·skip
    refine bH ([cellE bc (bN t bM vi vo1 eff1) 82, mapE bm u8V wl1, rowE vo1 23 aw t.out, rowE vt 23 aw tr]) 14 rfl aU ?_
    refine zz2 0 rfl (ad rfl) ?_
    refine zz2 1 rfl (aE rfl) ?_
    refine zz2 2 rfl (zz3 (off := 18) (ft := 31) rfl aB rfl da) ?_
    refine zz2 3 rfl (fD rfl eH) ?_
    refine zz2 4 rfl (ad rfl) ?_
    refine zz2 5 rfl (aE rfl) ?_
    refine zz2 6 rfl (zz3 (off := 16) (ft := 24) rfl aB rfl cC) ?_
    refine zz2 7 rfl (fD rfl dD) ?_
    refine zz2 9 rfl (ad rfl) ?_
    refine bX [8, 10, 12] (fun iq hq => ?_)
    rcases List.mem_cons.1 hq with rfl | hq
    ·skip
     refine aV rfl ?_
     refine eo rfl jq (fun w hw => jm t.out _ w (hw.row (by repeat constructor)) (by omega)) rfl (fun V45 => ?_)
     refine jx (V := V45) (fun pq cq hpv => ?_)
     subst hpv
     refine bB ?_
     refine bX [10, 12] (fun iq hq => ?_)
     rcases List.mem_cons.1 hq with rfl | hq
     ·skip
      refine aV rfl ?_
      refine zz0 (fN rfl (by repeat constructor) al) ?_
      refine bB ?_
      refine eU 11 rfl (by kernel_rfl) (aX bL) (bE (vs := [(0, _), (1, _), (2, _)]) (cs := #[.int .i64 t.err, .slice pq t.out.length cq, .int .i64 (tr.length : Nat)]) rfl rfl (by kernel_rfl)) ?_
      refine bX [12] (fun iq hq => ?_)
      obtain rfl := List.mem_singleton.1 hq
      refine aV rfl ?_
      refine cZ cY rfl (fun b7 => ?_)
      refine bB ?_
      refine bX [13] (fun iq hq => ?_)
      obtain rfl := List.mem_singleton.1 hq
      refine aV rfl ?_
      refine zz9 rfl rfl cF ?_
      refine bB ?_
      refine dZ ?_
      refine aa ?_
      apply a9 (_, _, _)
      ·exact rfl
      ·exact (.cons (by first | rfl | exact am rfl (by omega) | exact am rfl (by simp) | exact aR rfl (by simp)) Front.nil)
      ·exact bR 13 rfl
      ·exact (by repeat' constructor)
      ·exact trivial
     obtain rfl := List.mem_singleton.1 hq
     refine aV rfl ?_
     refine cZ cY rfl (fun b8 => ?_)
     refine bB ?_
     refine bX [10] (fun iq hq => ?_)
     obtain rfl := List.mem_singleton.1 hq
     refine aV rfl ?_
     refine zz0 (fN rfl (by repeat constructor) al) ?_
     refine bB ?_
     refine eU 11 rfl (by kernel_rfl) (aX bL) (bE (vs := [(0, _), (1, _), (2, _)]) (cs := #[.int .i64 t.err, .slice pq t.out.length cq, .int .i64 (tr.length : Nat)]) rfl rfl (by kernel_rfl)) ?_
     refine bX [13] (fun iq hq => ?_)
     obtain rfl := List.mem_singleton.1 hq
     refine aV rfl ?_
     refine zz9 rfl rfl cF ?_
     refine bB ?_
     refine dZ ?_
     refine aa ?_
     apply a9 (_, _, _)
     ·exact rfl
     ·exact (.cons (by first | rfl | exact am rfl (by omega) | exact am rfl (by simp) | exact aR rfl (by simp)) Front.nil)
     ·exact bR 13 rfl
     ·exact (by repeat' constructor)
     ·exact trivial
    rcases List.mem_cons.1 hq with rfl | hq
    ·skip
     refine aV rfl ?_
     refine zz0 (fN rfl (by repeat constructor) al) ?_
     refine bB ?_
     refine bX [8, 12] (fun iq hq => ?_)
     rcases List.mem_cons.1 hq with rfl | hq
     ·skip
      refine aV rfl ?_
      refine eo rfl jq (fun w hw => jm t.out _ w (hw.row (by repeat constructor)) (by omega)) rfl (fun V45 => ?_)
      refine jx (V := V45) (fun pq cq hpv => ?_)
      subst hpv
      refine bB ?_
      refine eU 11 rfl (by kernel_rfl) (aX bL) (bE (vs := [(0, _), (1, _), (2, _)]) (cs := #[.int .i64 t.err, .slice pq t.out.length cq, .int .i64 (tr.length : Nat)]) rfl rfl (by kernel_rfl)) ?_
      refine bX [12] (fun iq hq => ?_)
      obtain rfl := List.mem_singleton.1 hq
      refine aV rfl ?_
      refine cZ cY rfl (fun b9 => ?_)
      refine bB ?_
      refine bX [13] (fun iq hq => ?_)
      obtain rfl := List.mem_singleton.1 hq
      refine aV rfl ?_
      refine zz9 rfl rfl cF ?_
      refine bB ?_
      refine dZ ?_
      refine aa ?_
      apply a9 (_, _, _)
      ·exact rfl
      ·exact (.cons (by first | rfl | exact am rfl (by omega) | exact am rfl (by simp) | exact aR rfl (by simp)) Front.nil)
      ·exact bR 13 rfl
      ·exact (by repeat' constructor)
      ·exact trivial
     obtain rfl := List.mem_singleton.1 hq
     refine aV rfl ?_
     refine cZ cY rfl (fun b10 => ?_)
     refine bB ?_
     refine bX [8] (fun iq hq => ?_)
     obtain rfl := List.mem_singleton.1 hq
     refine aV rfl ?_
     refine eo rfl jq (fun w hw => jm t.out _ w (hw.row (by repeat constructor)) (by omega)) rfl (fun V45 => ?_)
     refine jx (V := V45) (fun pq cq hpv => ?_)
     subst hpv
     refine bB ?_
     refine eU 11 rfl (by kernel_rfl) (aX bL) (bE (vs := [(0, _), (1, _), (2, _)]) (cs := #[.int .i64 t.err, .slice pq t.out.length cq, .int .i64 (tr.length : Nat)]) rfl rfl (by kernel_rfl)) ?_
     refine bX [13] (fun iq hq => ?_)
     obtain rfl := List.mem_singleton.1 hq
     refine aV rfl ?_
     refine zz9 rfl rfl cF ?_
     refine bB ?_
     refine dZ ?_
     refine aa ?_
     apply a9 (_, _, _)
     ·exact rfl
     ·exact (.cons (by first | rfl | exact am rfl (by omega) | exact am rfl (by simp) | exact aR rfl (by simp)) Front.nil)
     ·exact bR 13 rfl
     ·exact (by repeat' constructor)
     ·exact trivial
    obtain rfl := List.mem_singleton.1 hq
    refine aV rfl ?_
    refine cZ cY rfl (fun b11 => ?_)
    refine bB ?_
    refine bX [8, 10] (fun iq hq => ?_)
    rcases List.mem_cons.1 hq with rfl | hq
    ·skip
     refine aV rfl ?_
     refine eo rfl jq (fun w hw => jm t.out _ w (hw.row (by repeat constructor)) (by omega)) rfl (fun V45 => ?_)
     refine jx (V := V45) (fun pq cq hpv => ?_)
     subst hpv
     refine bB ?_
     refine bX [10] (fun iq hq => ?_)
     obtain rfl := List.mem_singleton.1 hq
     refine aV rfl ?_
     refine zz0 (fN rfl (by repeat constructor) al) ?_
     refine bB ?_
     refine eU 11 rfl (by kernel_rfl) (aX bL) (bE (vs := [(0, _), (1, _), (2, _)]) (cs := #[.int .i64 t.err, .slice pq t.out.length cq, .int .i64 (tr.length : Nat)]) rfl rfl (by kernel_rfl)) ?_
     refine bX [13] (fun iq hq => ?_)
     obtain rfl := List.mem_singleton.1 hq
     refine aV rfl ?_
     refine zz9 rfl rfl cF ?_
     refine bB ?_
     refine dZ ?_
     refine aa ?_
     apply a9 (_, _, _)
     ·exact rfl
     ·exact (.cons (by first | rfl | exact am rfl (by omega) | exact am rfl (by simp) | exact aR rfl (by simp)) Front.nil)
     ·exact bR 13 rfl
     ·exact (by repeat' constructor)
     ·exact trivial
    obtain rfl := List.mem_singleton.1 hq
    refine aV rfl ?_
    refine zz0 (fN rfl (by repeat constructor) al) ?_
    refine bB ?_
    refine bX [8] (fun iq hq => ?_)
    obtain rfl := List.mem_singleton.1 hq
    refine aV rfl ?_
    refine eo rfl jq (fun w hw => jm t.out _ w (hw.row (by repeat constructor)) (by omega)) rfl (fun V45 => ?_)
    refine jx (V := V45) (fun pq cq hpv => ?_)
    subst hpv
    refine bB ?_
    refine eU 11 rfl (by kernel_rfl) (aX bL) (bE (vs := [(0, _), (1, _), (2, _)]) (cs := #[.int .i64 t.err, .slice pq t.out.length cq, .int .i64 (tr.length : Nat)]) rfl rfl (by kernel_rfl)) ?_
    refine bX [13] (fun iq hq => ?_)
    obtain rfl := List.mem_singleton.1 hq
    refine aV rfl ?_
    refine zz9 rfl rfl cF ?_
    refine bB ?_
    refine dZ ?_
    refine aa ?_
    apply a9 (_, _, _)
    ·exact rfl
    ·exact (.cons (by first | rfl | exact am rfl (by omega) | exact am rfl (by simp) | exact aR rfl (by simp)) Front.nil)
    ·exact bR 13 rfl
    ·exact (by repeat' constructor)
    ·exact trivial
   ·obtain ⟨pq, cq, bq⟩ := i
    replace hi : True := hi
    change Tr _ _ [cellE bq [.int .i64 t.err, .slice pq t.out.length cq, .int .i64 (tr.length : Nat)] 46, rowE (.slice pq t.out.length cq) 23 aw t.out, cellE bc (bN t bM vi vo1 eff1) 82, mapE bm u8V wl1, rowE vo1 23 aw t.out, rowE vt 23 aw tr, cellE b1 [.int .i64 0, .slice none 0 0, .int .i64 0] 46] ([(7, .pointer (some ⟨bq, 0, none⟩))] ++ _) _
    refine eE (ι := Int) (fun er => er = jl t) (fun _ => (Bg.lessB w (bZ [cellE bc (bN s bM vi vo eff) 82, mapE bm u8V wl, rowE vo 23 aw s.out]) 0)) (fun er => [cellE bq [.int .i64 er, .slice pq t.out.length cq, .int .i64 (tr.length : Nat)] 46, rowE (.slice pq t.out.length cq) 23 aw t.out, cellE bc (bN t bM vi vo1 eff1) 82, mapE bm u8V wl1, rowE vo1 23 aw t.out, rowE vt 23 aw tr, cellE b1 [.int .i64 0, .slice none 0 0, .int .i64 0] 46]) (fun er => []) ?_ (fun er hi => ?_)
    ·skip
     refine af (ab (zz0 (ad rfl) (zz0 (aE rfl) ?_)))
     refine zz0 (zz3 (off := 18) (ft := 31) rfl aB rfl da) ?_
     refine zz0 (fD rfl eH) ?_
     refine zz0 (aN rfl rfl) (zz0 (ad rfl) ?_)
     apply bJ
     ·exact (rfl : _ = (6, 58, 64))
     ·exact rfl
     ·intro hT12; have hT12' := hT12
      try simp only [bs] at hT12'
      refine zz5 hT12 (ad rfl) (zz5 hT12 (aE rfl) ?_)
      refine zz5 hT12 (zz3 (off := 17) (ft := 4) rfl aB rfl bv) ?_
      refine zz5 hT12 (fD rfl bP) ?_
      refine zz5 hT12 (cp rfl) (zz0 (aL rfl hT12 rfl) ?_)
      refine ae (aa ?_)
      exact av (Sub.cons rfl (zz8 6 rfl))
     ·intro hF12
      refine zz6 hF12 (zz6 hF12 (zz6 hF12 (zz6 hF12 (zz6 hF12 (zz0 (aK rfl hF12 rfl) ?_)))))
      refine ae (aa ?_)
      exact av (Sub.cons rfl (zz8 6 rfl))
     refine ae (aa ?_)
     refine ak rfl ?_ ?_ <;> intro h13 <;> try simp only [bs] at h13
     ·refine ab (zz0 (zz3 (off := 0) (ft := 31) rfl cV rfl da) ?_)
      refine zz1 (cs' := [_, _, _]) rfl rfl da rfl ?_
      refine ae (aa ?_)
      apply a9 15
      ·exact rfl
      ·exact Front.nil
      ·exact bR 8 rfl
      ·exact (by repeat' constructor)
      ·exact (by show _ = _; unfold jl; clear hfu; rw [if_pos (by simp_all)])
     ·refine ax (aa ?_)
      apply a9 t.err
      ·exact rfl
      ·exact Front.nil
      ·exact bR 7 rfl
      ·exact (by repeat' constructor)
      ·exact (by show _ = _; unfold jl; clear hfu; rw [if_neg (fun q => by obtain ⟨q1, q2⟩ := q; simp_all)])
    ·skip
     replace hi : er = jl t := hi
     change Tr _ _ [cellE bq [.int .i64 er, .slice pq t.out.length cq, .int .i64 (tr.length : Nat)] 46, rowE (.slice pq t.out.length cq) 23 aw t.out, cellE bc (bN t bM vi vo1 eff1) 82, mapE bm u8V wl1, rowE vo1 23 aw t.out, rowE vt 23 aw tr, cellE b1 [.int .i64 0, .slice none 0 0, .int .i64 0] 46] ([] ++ _) _
     refine af (bH ([cellE bq [.int .i64 er, .slice pq t.out.length cq, .int .i64 (tr.length : Nat)] 46]) 4 rfl aU ?_)
     refine zz2 0 rfl (ad rfl) ?_
     refine zz2 1 rfl (bK rfl ip cF) ?_
     refine zz2 2 rfl (ac rfl) ?_
     refine bX [3] (fun iq hq => ?_)
     obtain rfl := List.mem_singleton.1 hq
     refine aV rfl ?_
     refine zz9 rfl rfl cF ?_
     refine bB ?_
     refine dZ ?_
     refine aa (ao ?_)
     refine mp Tryz.results15 rfl rfl (by repeat constructor) ip cF (by rfl) (fun w' hw => ?_)
     obtain ⟨e1, e2⟩ := hfu
     have hrl2 := hR.len
     subst hi
     exact ⟨(wl1, vo1, eff1, vt, .slice pq t.out.length cq), by rw [← e1, ← e2]; try rfl, by rw [← e1, ← e2]; exact hw.upd (Bg.le.refl _) (by repeat' constructor), by rw [← e1, ← e2]; exact ⟨hwl1, by show wl1.length ≤ _; omega, hvo1⟩⟩
theorem oN (s : St) (bc bM bm : Nat) (VR vi vo eff : Value) (rs : List RegV) (l : List SecV) (wl : WL) (inp : List UInt32) (n : Int) (w : World) (ho : OwnAt w [cellE bc (bN s bM vi vo eff) 82, mapE bm u8V wl, rowE vo 23 aw s.out]) (hC : CpuAt (Bg.lessB w (bZ [cellE bc (bN s bM vi vo eff) 82, mapE bm u8V wl, rowE vo 23 aw s.out]) 0).blk bM bm VR vi rs inp) (hO : MemOK l rs) (hwl : cO wl = s.w) (hvo : ∃ a n c, vo = .slice a n c) (hol : s.out.length ≤ 4096) :
  Calls Tryz.prog 11 #[.pointer (some ⟨bc, 0, none⟩), .int .i64 n] w (fun e w' => ∃ j : WL × Value × Value × Value × Value, e = .returned (.agg #[.int .i64 (jl (dl l inp (min n 65536).toNat s)), j.2.2.2.2, .int .i64 ((cX l inp (min n 65536).toNat s).length : Nat)]) ∧ Upd 0 w w' (bZ [cellE bc (bN s bM vi vo eff) 82, mapE bm u8V wl, rowE vo 23 aw s.out]) [cellE bc (bN (dl l inp (min n 65536).toNat s) bM vi j.2.1 j.2.2.1) 82, mapE bm u8V j.1, rowE j.2.1 23 aw (dl l inp (min n 65536).toNat s).out, rowE j.2.2.2.2 23 aw (dl l inp (min n 65536).toNat s).out] ∧ (cO j.1 = (dl l inp (min n 65536).toNat s).w ∧ j.1.length ≤ wl.length + 4 * (cX l inp (min n 65536).toNat s).length ∧ ∃ a n c, j.2.1 = .slice a n c)) := by
 refine ij (L := [cellE bc (bN s bM vi vo eff) 82, mapE bm u8V wl, rowE vo 23 aw s.out]) ho rfl (Nat.zero_le _) Tryz.func11 rfl Tryz.ntmps11 rfl ?_
 refine af (ab ?_)
 refine cZ cY rfl (fun b1 => ?_)
 refine ae (aa (af (ab (zz0 (ad rfl) (zz0 (ad rfl) ?_)))))
 refine db (fun j : WL × Value × Value × Value × Value => .tuple #[j.2.2.2.1, .agg #[.int .i64 (jl (dl l inp (min n 65536).toNat s)), j.2.2.2.2, .int .i64 ((cX l inp (min n 65536).toNat s).length : Nat)]]) [cellE bc (bN s bM vi vo eff) 82, mapE bm u8V wl, rowE vo 23 aw s.out] (fun j => [cellE bc (bN (dl l inp (min n 65536).toNat s) bM vi j.2.1 j.2.2.1) 82, mapE bm u8V j.1, rowE j.2.1 23 aw (dl l inp (min n 65536).toNat s).out, rowE j.2.2.2.1 23 aw (cX l inp (min n 65536).toNat s), rowE j.2.2.2.2 23 aw (dl l inp (min n 65536).toNat s).out]) (ok := fun j => cO j.1 = (dl l inp (min n 65536).toNat s).w ∧ j.1.length ≤ wl.length + 4 * (cX l inp (min n 65536).toNat s).length ∧ ∃ a n c, j.2.1 = .slice a n c) (dd := fun _ => 0) rfl Tryz.call15 (by repeat' constructor) (fun w hw => Nat.le_refl _) (fun w hw => wa s bc bM bm VR vi vo eff rs l wl inp n w (hw.own (by repeat' constructor)) (hC.mono (hw.lessB (Lo := [cellE bc (bN s bM vi vo eff) 82, mapE bm u8V wl, rowE vo 23 aw s.out]) (by repeat' constructor))) hO hwl hvo hol) rfl (fun j hj => ?_)
 obtain ⟨wl1, vo1, eff1, vt, vq⟩ := j
 change Tr _ _ (cellE bc (bN (dl l inp (min n 65536).toNat s) bM vi vo1 eff1) 82 :: mapE bm u8V wl1 :: rowE vo1 23 aw (dl l inp (min n 65536).toNat s).out :: rowE vt 23 aw (cX l inp (min n 65536).toNat s) :: rowE vq 23 aw (dl l inp (min n 65536).toNat s).out :: _) _ _
 refine jx (V := vq) (fun pq cq hpv => ?_)
 subst hpv
 refine zz0 (ad rfl) (zz0 (az rfl rfl) (zz0 (az rfl rfl) ?_))
 refine cZ cY rfl (fun b2 => ?_)
 refine zz0 (ac rfl) (zz9 rfl rfl cF ?_)
 refine ae (aa (af (ab (zz0 (bK rfl ip cF) ?_))))
 refine zz9 rfl rfl cF ?_
 refine ae (aa (ao ?_))
 refine fE Tryz.results11 rfl (by repeat constructor) ip cF (by rfl) (fun w' hw => ?_)
 exact ⟨(wl1, vo1, eff1, vt, .slice pq (dl l inp (min n 65536).toNat s).out.length cq), rfl, hw.upd (Bg.le.refl _) (by repeat' constructor), hj⟩
theorem qM (s : St) (bc bM : Nat) (vi vo eff : Value) (w : World) (hc : CellsIn (hp w) bc (bN s bM vi vo eff)) :
  Calls Tryz.prog 18 #[.pointer (some ⟨bc, 0, none⟩)] w (fun e w' => e = .returned (.agg (nn.enc s.m).toArray) ∧ Ext w w') := by
 have hc' : CellsIn (Bg.of w).blk bc (bN s bM vi vo eff) := hc
 have hcp : CellsIn (Bg.of w).blk bc (nn.enc s.m) := hc'.prefix_
 refine enter Tryz.func18 rfl Tryz.ntmps18 rfl ?_
 refine af (ab ?_)
 refine cZ gx rfl (fun b1 => ?_)
 refine ae (aa (af (af (ab (zz0 (ad rfl) (zz0 (aF rfl j8 (fun w hw => j5 s bc bM vi vo eff w (hc'.mono hw.bg))) ?_))))))
 refine zz0 (cp rfl) (ae (aa ?_))
 refine ak rfl ?_ ?_ <;> intro h2 <;> try simp only [bs] at h2
 ·first | contradiction | (exfalso; omega) | simp_all
 ·refine ax (aa (af (ab (zz0 (ad rfl) (zz0 (aE rfl) ?_)))))
  refine zz0 (zz3 (off := 0) (ft := 40) rfl aB rfl aS) ?_
  refine zz0 (rx rfl hcp iU aS rfl) ?_
  refine bA nn rfl rfl aS ?_
  refine ae (aa (ao ?_))
  refine fE Tryz.results18 rfl (by repeat constructor) iU aS (by rfl) (fun w' hw => ?_)
  exact ⟨rfl, hw.below (Bg.le.refl _)⟩
theorem uI (s : St) (bc bM : Nat) (vi vo eff : Value) (bm : Nat) (VR : Value) (rs : List RegV) (wl : WL) (w : World) (hc : CellsIn (hp w) bc (bN s bM vi vo eff)) (hM : MemAt (hp w) bM bm VR rs) (hW : MapIn (hp w) bm u8V wl) (hr : rs.length ≤ 100) :
  Calls Tryz.prog 29 #[.pointer (some ⟨bc, 0, none⟩)] w (fun e w' => ∃ i : Nat × Nat × Value, e = .returned (.pointer (some ⟨i.1, 0, none⟩)) ∧ Ext w w' ∧ NewEnts w w' [cellE i.1 [i.2.2, .map (some i.2.1)] 91, mapE i.2.1 u8V wl, rowE i.2.2 97 cN rs] ∧ True) := by
 have hc' : CellsIn (Bg.of w).blk bc (bN s bM vi vo eff) := hc
 have hM' : MemAt (Bg.of w).blk bM bm VR rs := hM
 have hW' : MapIn (Bg.of w).blk bm u8V wl := hW
 refine enter Tryz.func29 rfl Tryz.ntmps29 rfl ?_
 refine af (ab (zz0 (ac rfl) (ae (aa (af (af (ab (zz0 (ad rfl) (zz0 (aF rfl j8 (fun w hw => j5 s bc bM vi vo eff w (hc'.mono hw.bg))) ?_)))))))))
 refine zz0 (cp rfl) (ae (aa ?_))
 refine ak rfl ?_ ?_ <;> intro h1 <;> try simp only [bs] at h1
 ·first | contradiction | (exfalso; omega) | simp_all
 ·refine ax (aa (af (ab (zz0 (ad rfl) (zz0 (aE rfl) ?_)))))
  refine zz0 (zz3 (off := 13) (ft := 68) rfl aB rfl fk) ?_
  refine zz0 (fM rfl (by assumption) fR (by rfl)) ?_
  refine gG (fun i : Nat × Nat × Value => .pointer (some ⟨i.1, 0, none⟩)) (fun i => [cellE i.1 [i.2.2, .map (some i.2.1)] 91, mapE i.2.1 u8V wl, rowE i.2.2 97 cN rs]) (ok := fun _ => True) rfl Tryz.call45 (fun w hw => tw bM bm VR rs wl w (hM'.mono hw.bg) (hW'.mono hw.bg) hr) rfl (fun i _ => ?_)
  refine zz0 (ac rfl) (ae (aa (ao ?_)))
  refine aI Tryz.results29 rfl (fun w' hw => ?_)
  exact ⟨i, rfl, hw.below (Bg.le.refl _), hw.ents (Bg.le.refl _) (by repeat' constructor), trivial⟩
theorem uF (s : St) (bc bM : Nat) (vi vo eff : Value) (w : World) (hc : CellsIn (hp w) bc (bN s bM vi vo eff)) (ho : Sl (hp w) aw s.out vo) (hol : s.out.length ≤ 4096) :
  Calls Tryz.prog 30 #[.pointer (some ⟨bc, 0, none⟩)] w (fun e w' => ∃ V', e = .returned V' ∧ Ext w w' ∧ NewRow w w' 23 aw (s.out) V') := by
 have hc' : CellsIn (Bg.of w).blk bc (bN s bM vi vo eff) := hc
 have ho' : Sl (Bg.of w).blk aw s.out vo := ho
 refine enter Tryz.func30 rfl Tryz.ntmps30 rfl ?_
 refine af (ab (zz0 (ac rfl) (ae (aa (af (af (ab (zz0 (ad rfl) (zz0 (aF rfl j8 (fun w hw => j5 s bc bM vi vo eff w (hc'.mono hw.bg))) ?_)))))))))
 refine zz0 (cp rfl) (ae (aa ?_))
 refine ak rfl ?_ ?_ <;> intro h1 <;> try simp only [bs] at h1
 ·first | contradiction | (exfalso; omega) | simp_all
 ·refine ax (aa (af (ab (zz0 (ad rfl) (zz0 (aE rfl) ?_)))))
  refine zz0 (zz3 (off := 16) (ft := 24) rfl aB rfl cC) ?_
  refine zz0 (fM rfl (by assumption) dD (by rfl)) ?_
  refine eo rfl jq (fun w hw => jm s.out vo w (hw.slF ho') (by omega)) rfl (fun V2 => ?_)
  refine zz0 (ac rfl) (ae (aa (ao ?_)))
  refine aI Tryz.results30 rfl (fun w' hw => ?_)
  exact ⟨_, rfl, hw.below (Bg.le.refl _), hw.new (.head _)⟩
theorem pP (s : St) (bc bM : Nat) (vi vo eff : Value) (w : World) (hc : CellsIn (hp w) bc (bN s bM vi vo eff)) :
  Calls Tryz.prog 21 #[.pointer (some ⟨bc, 0, none⟩)] w (fun e w' => e = .returned (.bool s.done) ∧ Ext w w') := by
 have hc' : CellsIn (Bg.of w).blk bc (bN s bM vi vo eff) := hc
 refine enter Tryz.func21 rfl Tryz.ntmps21 rfl ?_
 refine af (ab (zz0 (ac rfl) (ae (aa (af (ab (zz0 (ad rfl) (zz0 (aF rfl j8 (fun w hw => j5 s bc bM vi vo eff w (hc'.mono hw.bg))) ?_))))))))
 refine zz0 (ad rfl) ?_
 apply bJ
 ·exact (rfl : _ = (5, 5, 10))
 ·exact rfl
 ·intro hT1; have hT1' := hT1
  try simp only [bs] at hT1'
  refine zz5 hT1 (ad rfl) (zz5 hT1 (aE rfl) ?_)
  refine zz5 hT1 (zz3 (off := 17) (ft := 4) rfl aB rfl bv) ?_
  refine zz5 hT1 (fM rfl (by assumption) bP (by rfl)) ?_
  refine zz0 (aL rfl hT1 rfl) ?_
  refine ae (aa ?_)
  exact av (Sub.cons rfl (zz8 5 rfl))
 ·intro hF1
  refine zz6 hF1 (zz6 hF1 (zz6 hF1 (zz6 hF1 (zz0 (aK rfl hF1 rfl) ?_))))
  refine ae (aa ?_)
  exact av (Sub.cons rfl (zz8 5 rfl))
 refine zz0 (ac rfl) (ae (aa (ao ?_)))
 refine aI Tryz.results21 rfl (fun w' hw => ?_)
 exact ⟨by simp, hw.below (Bg.le.refl _)⟩
theorem qN (p : UInt32) (w : World) :
  Calls Tryz.prog 22 #[.int .u32 p.toNat] w (fun e w' => e = .returned (.agg (nn.enc (rF p)).toArray) ∧ Ext w w') := by
 refine enter Tryz.func22 rfl Tryz.ntmps22 rfl ?_
 refine af (ab ?_)
 refine cZ gx rfl (fun b1 => ?_)
 refine ae (aa (af (ab ?_)))
 refine cZ gx rfl (fun b2 => ?_)
 refine ae (aa (af (ab (zz0 (zz3 (off := 0) (ft := 36) rfl aA rfl bF) ?_))))
 refine zz0 (ff rfl rfl aZ ah) ?_
 refine zz1 (cs' := [_, _, _, _, _, _, _, _, _, _, _, _, _]) rfl rfl ah rfl ?_
 refine ae (aa (af (ab (zz0 (ad rfl) (zz0 (zz3 (off := 8) (ft := 23) rfl aA rfl ah) ?_)))))
 refine zz1 (cs' := [_, _, _, _, _, _, _, _, _, _, _, _, _]) rfl rfl ah rfl ?_
 refine ae (aa (af (ab (zz0 (bK rfl iU aS) ?_))))
 refine bA nn rfl rfl aS ?_
 refine ae (aa (ao ?_))
 refine fE Tryz.results22 rfl (by repeat constructor) iU aS (by rfl) (fun w' hw => ?_)
 exact ⟨rfl, hw.below (Bg.le.refl _)⟩
end Go.Proofs.YtpeaodkfbjenpaaGreat
namespace Go.HL
open Go Go.RowKit
def kP (l : List SecV) : Nat → Int
  | 0 => 0
  | k + 1 => kP l k + min ((l.getD k default).data.length : Int) 1000
theorem lb (l : List SecV) (k : Nat) : ∀ n, kP l k ≤ kP l (k + n)
  | 0 => Int.le_refl _
  | n + 1 => by
    have := lb l k n
    show kP l k ≤ kP l (k + n) + min ((l.getD (k + n) default).data.length : Int) 1000
    omega
theorem zI {l : List SecV} {k n : Nat} (h : k < n) : min ((l.getD k default).data.length : Int) 1000 ≤ kP l n := by
  have h1 := lb l (k + 1) (n - (k + 1))
  rw [show k + 1 + (n - (k + 1)) = n by omega] at h1
  have h2 : 0 ≤ kP l k := by have := lb l 0 k; rw [Nat.zero_add] at this; exact this
  have h3 : kP l (k + 1) = kP l k + min ((l.getD k default).data.length : Int) 1000 := rfl
  omega
def kQ (l : List SecV) (inp : List UInt32) : Bool := decide ((l.length : Int) < 20) && decide ((inp.length : Int) ≤ 40) && decide (kP l l.length < 1000)
structure Small (l : List SecV) (inp : List UInt32) : Prop where
  secB : SecB l
  inp : inp.length ≤ 40
theorem sH {l : List SecV} {inp : List UInt32} (h : kQ l inp = true) : Small l inp := by
  unfold kQ at h
  simp only [Bool.and_eq_true, decide_eq_true_eq] at h
  obtain ⟨⟨h1, h2⟩, h3⟩ := h
  refine ⟨⟨by omega, fun s hs => ?_⟩, by omega⟩
  obtain ⟨k, hk, e⟩ := List.getElem_of_mem hs
  have e' : l.getD k default = s := by rw [List.getD_eq_getElem?_getD, List.getElem?_eq_getElem hk, e]; rfl
  have := zI (l := l) hk
  rw [e'] at this
  omega
def exC (b : List UInt8) (dp : Option Addr) (dc : Nat) : SecV := ⟨⟨#[99]⟩, 4096, b, dp, dc, false, true⟩
def fV : List UInt8 := [48, 0, 5, 161, 0, 1]
theorem Aq (dp : Option Addr) (dc : Nat) : dV [exC fV dp dc] = 0 := by kernel_rfl
theorem Ap (dp : Option Addr) (dc : Nat) : dV [exC [2] dp dc] = 0 := by kernel_rfl
theorem Ao (dp : Option Addr) (dc : Nat) : (let t := dl [exC fV dp dc] [] 2 (di 4096); decide (t.err = 0) && !t.done && decide (t.out = [5]) && decide ((cX [exC fV dp dc] [] 2 (di 4096)).length = 2)) = true := by kernel_rfl
theorem An (dp : Option Addr) (dc : Nat) : (let t := dl [exC fV dp dc] [] 1 (dl [exC fV dp dc] [] 2 (di 4096)); decide (t.err = 0) && t.done && decide ((cX [exC fV dp dc] [] 1 (dl [exC fV dp dc] [] 2 (di 4096))).length = 1)) = true := by kernel_rfl
theorem Am (dp : Option Addr) (dc : Nat) : (let t := dl [exC [2] dp dc] [] 9 (di 4096); decide (t.err = 0) && t.done && decide (t.out = []) && decide (t.m.pc = 4294967295) && decide (t.m.r7 = 983040) && decide ((cX [exC [2] dp dc] [] 9 (di 4096)).length = 1)) = true := by kernel_rfl
theorem min2 : (min (2 : Int) 65536).toNat = 2 := by decide
theorem BX : (min (1 : Int) 65536).toNat = 1 := by decide
theorem BW : (min (9 : Int) 65536).toNat = 9 := by decide
theorem rb {t : St} (h : t.done = true) : jl t = t.err := by
  unfold jl
  rw [if_neg (fun q => by rw [h] at q; cases q.2)]
theorem Ar {t : St} (h : t.err = 0) (h2 : t.done = false) : jl t = 15 := by
  unfold jl
  rw [if_pos ⟨h, h2⟩]
theorem BN {dp : Option Addr} {dc n : Nat} {t : St} (h : t = dl [exC fV dp dc] [] (min (2 : Int) 65536).toNat (di 4096)) (hn : n = (cX [exC fV dp dc] [] (min (2 : Int) 65536).toNat (di 4096)).length) : jl t = 15 ∧ t.out = [5] ∧ n = 2 := by
  have q := Ao dp dc
  rw [min2] at h hn
  simp only [Bool.and_eq_true, decide_eq_true_eq, Bool.not_eq_true'] at q
  rw [← h, ← hn] at q
  exact ⟨Ar q.1.1.1 q.1.1.2, q.1.2, q.2⟩
theorem BM {dp : Option Addr} {dc n : Nat} {t t1 : St} (h1 : t1 = dl [exC fV dp dc] [] (min (2 : Int) 65536).toNat (di 4096)) (h : t = dl [exC fV dp dc] [] (min (1 : Int) 65536).toNat t1) (hn : n = (cX [exC fV dp dc] [] (min (1 : Int) 65536).toNat t1).length) : jl t = 0 ∧ t.done = true ∧ n = 1 := by
  have q := An dp dc
  rw [min2] at h1
  rw [BX] at h hn
  simp only [Bool.and_eq_true, decide_eq_true_eq] at q
  rw [← h1, ← h, ← hn] at q
  exact ⟨(rb q.1.2).trans q.1.1, q.1.2, q.2⟩
theorem BY {dp : Option Addr} {dc n : Nat} {t : St} (h : t = dl [exC [2] dp dc] [] (min (9 : Int) 65536).toNat (di 4096)) (hn : n = (cX [exC [2] dp dc] [] (min (9 : Int) 65536).toNat (di 4096)).length) : jl t = 0 ∧ n = 1 ∧ t.m.pc = 4294967295 ∧ t.m.r7 = 983040 := by
  have q := Am dp dc
  rw [BW] at h hn
  simp only [Bool.and_eq_true, decide_eq_true_eq] at q
  rw [← h, ← hn] at q
  exact ⟨(rb q.1.1.1.1.2).trans q.1.1.1.1.1, q.2, q.1.1.2, q.1.2⟩
theorem vS {e : Ent} (B L : List Ent) : ∀ A : List Ent, Del e (A ++ (e :: B) ++ L) (A ++ B ++ L)
  | [] => .here _
  | a :: A => .there _ (vS B L A)
theorem qQ (L : List Ent) (A : List Ent) : ∀ B : List Ent, Split (A ++ B ++ L) B (A ++ L)
  | [] => by rw [List.append_nil]; exact .nil _
  | b :: B => .cons (vS B L A) (qQ L A B)
section
variable {P : Program} {ops : Array Oper} {Q : Exit → Act → World → Prop} {N : Nat} {F : Bg} {L : List Ent} {M : Fr} {ty : TypeId} {pos : String} {after : Array Edge} {rest : List Oper} {d : Nat}
theorem kL {ι : Type} (φ : ι → Value) (A B : ι → List Ent) {ok : ι → Prop} {f : FuncId} {xs : List Operand} {vs : List Value} {ts : Array TypeId} (h0 : F.dr = 0) (hx : ku M xs = some vs)
    (he : ∀ (args : Array Value) (w : World), (callFunc f args).run P w = .ok (.enter f args) w)
    (hc : ∀ w, HpOK F L w → Calls P f vs.toArray w fun e w' => ∃ i, e = .returned (φ i) ∧ Below w.heap.size w w' ∧ NewEnts w w' (A i ++ B i) ∧ ok i) (hd : Nat.ble (d + 1) N = true)
    (K : ∀ i F', ok i → F.le F' → (∀ e ∈ B i, e.ok (e.blk.bind F'.blk)) → Tr N F' (A i ++ L) ((d, φ i) :: M) (wpList P ops Q rest)) :
    Tr N F L M (wpList P ops Q (⟨some d, .call { callee := .value (.func f), args := xs.toArray, argTypes := ts }, ty, pos, after, none⟩ :: rest)) := by
  refine ns φ (fun i => A i ++ B i) (ok := ok) h0 hx he hc hd (fun i hi => ?_)
  exact ve (qQ L (A i) (B i)) (fun F' hF' hk => K i F' hi hF' hk)
end
theorem wK {F : Bg} {L : List Ent} {w : World} {bM bm : Nat} {VR : Value} {T T2 U : TypeId} {rs : List RegV} (h : HpOK F L w) (h1 : cellE bM [VR, .map (some bm)] T ∈ L) (h2 : rowE VR T2 cN rs ∈ L) (h3 : ∀ e ∈ eP U rs, e ∈ L) : MemAt (hp w) bM bm VR rs :=
  ⟨cellE.cellsIn (h.ent _ h1) (Ext.refl _), h.row h2, fun r hr => rowE.sl (h.ent _ (h3 _ (oc hr)))⟩
theorem pU {h : Hp} {bM bm : Nat} {VR vi : Value} {T T2 U U8 : TypeId} {rs : List RegV} {inp : List UInt32} (k : ∀ e ∈ (cellE bM [VR, .map (some bm)] T :: rowE VR T2 cN rs :: rowE vi U aw inp :: eP U8 rs), e.ok (e.blk.bind h)) : CpuAt h bM bm VR vi rs inp :=
  ⟨yr k (.head _) (.tail _ (.head _)) (fun e he => .tail _ (.tail _ (.tail _ he))), RowOK.sl (k _ (.tail _ (.tail _ (.head _))))⟩
end Go.HL
namespace Go.Proofs.YtpeaodkfbjenpaaGreat
open Go Go.HL Go.RowKit
theorem Ab (l : List SecV) (V : Value) (w : World) (hV : Sl (hp w) cm l V) (hB : SecB l) (hN : ∀ s ∈ l, s.name.size ≤ 140737488351232) (hD : DataIn (hp w) l) (h : dV l = 0) : Calls Tryz.prog 25 #[V] w (fun e w' => ∃ j : Nat × Nat × Value × List RegV, e = .returned (.tuple #[.pointer (some ⟨j.1, 0, none⟩), .int .i64 0]) ∧ Ext w w' ∧ NewEnts w w' (cellE j.1 [j.2.2.1, .map (some j.2.1)] 91 :: mapE j.2.1 u8V [] :: rowE j.2.2.1 97 cN j.2.2.2 :: eP 5 j.2.2.2) ∧ MemOK l j.2.2.2) := by
 refine (tl l V w hV hB hN hD).mono fun e w' ⟨i, h1, h2, h3, h4⟩ => ?_
 rcases i with _ | j
 ·exact absurd h h4
 ·rw [h] at h1
  exact ⟨j, h1, h2, h3, h4⟩
theorem Ac (l : List SecV) (V : Value) (w : World) (hV : Sl (hp w) cm l V) (hB : SecB l) (hN : ∀ s ∈ l, s.name.size ≤ 140737488351232) (hD : DataIn (hp w) l) (h : dV l ≠ 0) : Calls Tryz.prog 25 #[V] w (fun e w' => e = .returned (.tuple #[.pointer none, .int .i64 (dV l)]) ∧ Ext w w') := by
 refine (tl l V w hV hB hN hD).mono fun e w' ⟨i, h1, h2, h3, h4⟩ => ?_
 rcases i with _ | j
 ·exact ⟨h1, h2⟩
 ·exact absurd h4.chk h
theorem yn (bM0 bm0 : Nat) (VR0 vi0 : Value) (rs : List RegV) (l : List SecV) (wl : WL) (p : UInt32) (inp : List UInt32) (w : World) (hM : MemAt (hp w) bM0 bm0 VR0 rs) (hW : MapIn (hp w) bm0 u8V wl) (hO : MemOK l rs) (hwl : cO wl = fun _ => none) (hin : Sl (hp w) aw inp vi0) (hil : inp.length ≤ 4096) :
  Calls Tryz.prog 26 #[.pointer (some ⟨bM0, 0, none⟩), .int .u32 p.toNat, vi0] w (fun e w' => ∃ j : Nat × Nat × Nat × Value × Value × WL, e = .returned (.tuple #[.pointer (some ⟨j.1, 0, none⟩), .int .i64 0]) ∧ Below w.heap.size w w' ∧ NewEnts w w' [cellE j.1 (bN (di p) j.2.1 j.2.2.2.2.1 (.slice none 0 0) .nilFunc) 82, mapE j.2.2.1 u8V j.2.2.2.2.2, rowE (.slice none 0 0) 23 aw [], cellE j.2.1 [j.2.2.2.1, .map (some j.2.2.1)] 91, rowE j.2.2.2.1 97 cN rs, rowE j.2.2.2.2.1 23 aw inp] ∧ (cO j.2.2.2.2.2 = (di p).w ∧ j.2.2.2.2.2.length ≤ wl.length + 4)) := by
 have hM' : MemAt (Bg.of0 w).blk bM0 bm0 VR0 rs := hM
 have hW' : MapIn (Bg.of0 w).blk bm0 u8V wl := hW
 have hin' : Sl (Bg.of0 w).blk aw inp vi0 := hin
 have hrl := hO.bounds.1
 refine nO Tryz.func26 rfl Tryz.ntmps26 rfl ?_
 refine af (ab (zz0 (ac rfl) (zz0 (ac rfl) (ae (aa (af (ab (zz0 (ad rfl) ?_))))))))
 refine gG (fun i : Nat × Nat × Value => .pointer (some ⟨i.1, 0, none⟩)) (fun i => [cellE i.1 [i.2.2, .map (some i.2.1)] 91, mapE i.2.1 u8V wl, rowE i.2.2 97 cN rs]) (ok := fun _ => True) rfl Tryz.call45 (fun w hw => tw bM0 bm0 VR0 rs wl w (hM'.mono hw.bg) (hW'.mono hw.bg) (by omega)) rfl (fun i _ => ?_)
 refine zz0 (ac rfl) (ae (aa (af (af (ab (zz0 (ad rfl) (zz0 (jG rfl rfl g7 rfl) ?_)))))))
 refine ae (aa ?_)
 refine ak rfl ?_ ?_ <;> intro h1 <;> try simp only [bs] at h1
 ·first | contradiction | (exfalso; omega) | simp_all
 ·refine ax (aa (af (af (ab (zz0 (ad rfl) (zz0 (gA rfl al) ?_))))))
  refine zz0 (fC rfl rfl) (ae (aa ?_))
  refine ak rfl ?_ ?_ <;> intro h2 <;> try simp only [bs] at h2
  ·first | contradiction | (exfalso; omega) | simp_all
  ·refine ax (aa (af (af (ab (zz0 (ad rfl) ?_)))))
   refine db (fun _ : WL => .int .i64 0) [mapE i.2.1 u8V wl] (fun wl' => [mapE i.2.1 u8V wl']) (ok := fun wl' => cO wl' = (di p).w ∧ wl'.length ≤ wl.length + 4) (dd := fun _ => 0) rfl lw (by repeat' constructor) (fun w hw => Nat.le_of_eq rfl) (fun w hw => by have q := kd i.1 i.2.1 i.2.2 rs l 983036 4 4294967295 wl w (hw.own (by repeat' constructor)) (uJ hw (by repeat' constructor) (by repeat constructor) (by repeat constructor) hM'.data) hO; rw [qL, hwl] at q; exact q) rfl (fun wl2 hw2 => ?_)
   refine zz0 (ac rfl) (ae (aa (af (ab (zz0 (ad rfl) (zz0 (dN rfl rfl) (ae (aa ?_))))))))
   refine ak rfl ?_ ?_ <;> intro h3 <;> try simp only [bs] at h3
   ·first | contradiction | (exfalso; omega) | simp_all
   ·refine ax (aa (af (f8 23 aw ?_)))
    refine ab (zz0 (ad rfl) (zz0 (aF rfl Tryz.call22 (fun w hw => qN p w)) ?_))
    refine zz0 (ad rfl) (zz0 (ad rfl) ?_)
    refine eo rfl jq (fun w hw => jm inp vi0 w (hw.slF hin') (by omega)) rfl (fun V46 => ?_)
    refine jx (V := V46) (fun pi ci hpv => ?_)
    subst hpv
    refine zz0 (bE (vs := [(0, _), (1, _), (2, _)]) (cs := (bN (di p) i.1 (.slice pi inp.length ci) (.slice none 0 0) .nilFunc).toArray) rfl rfl (by kernel_rfl)) ?_
    refine cH (cs := (bN (di p) i.1 (.slice pi inp.length ci) (.slice none 0 0) .nilFunc)) rfl rfl rfl (fun b47 => ?_)
    refine zz0 (ac rfl) (zz0 (ac rfl) (ae (aa (ao ?_))))
    refine cy Tryz.results26 rfl rfl (fun w' hw => ?_)
    exact ⟨(b47, i.1, i.2.1, i.2.2, .slice pi inp.length ci, wl2), rfl, hw.below0 (Bg.le.refl _), hw.ents0 rfl (by repeat' constructor), hw2⟩
theorem sb (l : List SecV) (V : Value) (p : UInt32) (inp : List UInt32) (vi0 : Value) (w : World) (hV : Sl (hp w) cm l V) (hB : SecB l) (hN : ∀ s ∈ l, s.name.size ≤ 140737488351232) (hD : DataIn (hp w) l) (hin : Sl (hp w) aw inp vi0) (hil : inp.length ≤ 4096) (h : dV l = 0) :
  Calls Tryz.prog 9 #[V, .int .u32 p.toNat, vi0] w (fun e w' => ∃ j : Nat × Nat × Nat × Value × Value × WL × List RegV, e = .returned (.pointer (some ⟨j.1, 0, none⟩)) ∧ Below w.heap.size w w' ∧ NewEnts w w' ([cellE j.1 (bN (di p) j.2.1 j.2.2.2.2.1 (.slice none 0 0) .nilFunc) 82, mapE j.2.2.1 u8V j.2.2.2.2.2.1, rowE (.slice none 0 0) 23 aw []] ++ (cellE j.2.1 [j.2.2.2.1, .map (some j.2.2.1)] 91 :: rowE j.2.2.2.1 97 cN j.2.2.2.2.2.2 :: rowE j.2.2.2.2.1 23 aw inp :: eP 5 j.2.2.2.2.2.2)) ∧ (cO j.2.2.2.2.2.1 = (di p).w ∧ j.2.2.2.2.2.1.length ≤ 4) ∧ MemOK l j.2.2.2.2.2.2) := by
 have hV' : Sl (Bg.of0 w).blk cm l V := hV
 have hD' : DataIn (Bg.of0 w).blk l := hD
 have hin' : Sl (Bg.of0 w).blk aw inp vi0 := hin
 refine nO Tryz.func9 rfl Tryz.ntmps9 rfl ?_
 refine af (ab (zz0 (ac rfl) (ae (aa (af (ab (zz0 (ad rfl) ?_)))))))
 refine gG (fun j : Nat × Nat × Value × List RegV => .tuple #[.pointer (some ⟨j.1, 0, none⟩), .int .i64 0]) (fun j => (cellE j.1 [j.2.2.1, .map (some j.2.1)] 91 :: mapE j.2.1 u8V [] :: rowE j.2.2.1 97 cN j.2.2.2 :: eP 5 j.2.2.2)) (ok := fun j => MemOK l j.2.2.2) rfl Tryz.call25 (fun w hw => Ab l V w (hw.slF hV') hB hN (hD'.mono hw.bg) h) rfl (fun i hO => ?_)
 obtain ⟨bM0, bm0, VR0, rs⟩ := i
 rw [List.append_nil]
 refine zz0 (ad rfl) (zz0 (az rfl rfl) (zz0 (az rfl rfl) (zz0 (ac rfl) (zz0 (ac rfl) (ae (aa (af (af (ab (zz0 (ad rfl) (zz0 (dN rfl rfl) (zz0 (ad rfl) ?_))))))))))))
 apply dk
 ·exact (rfl : _ = (3, 17, 20))
 ·exact rfl
 ·intro hF1; have hF1' := hF1
  try simp only [bs] at hF1'
  refine zz5 hF1 (ad rfl) (zz5 hF1 (jG rfl rfl g7 rfl) ?_)
  refine zz0 (aK rfl hF1 rfl) ?_
  refine ae (aa ?_)
  exact av (hL := Pick.refl _) (Sub.cons rfl (zz8 3 rfl))
 ·intro hT1
  refine zz6 hT1 (zz6 hT1 (zz0 (aL rfl hT1 rfl) ?_))
  refine ae (aa ?_)
  exact av (hL := Pick.refl _) (Sub.cons rfl (zz8 3 rfl))
 refine ae (aa ?_)
 refine ak rfl ?_ ?_ <;> intro h2 <;> try simp only [bs] at h2
 ·first | contradiction | (exfalso; omega) | simp_all
 ·refine ax (aa (af (ab (zz0 (ad rfl) (zz0 (ad rfl) (zz0 (ad rfl) ?_))))))
  refine ns (fun j : Nat × Nat × Nat × Value × Value × WL => .tuple #[.pointer (some ⟨j.1, 0, none⟩), .int .i64 0]) (fun j => [cellE j.1 (bN (di p) j.2.1 j.2.2.2.2.1 (.slice none 0 0) .nilFunc) 82, mapE j.2.2.1 u8V j.2.2.2.2.2, rowE (.slice none 0 0) 23 aw [], cellE j.2.1 [j.2.2.2.1, .map (some j.2.2.1)] 91, rowE j.2.2.2.1 97 cN rs, rowE j.2.2.2.2.1 23 aw inp]) (ok := fun j => cO j.2.2.2.2.2 = (di p).w ∧ j.2.2.2.2.2.length ≤ ([] : WL).length + 4) rfl rfl Tryz.call26 (fun w hw => yn bM0 bm0 VR0 vi0 rs l [] p inp w (wK (T := 91) (T2 := 97) (U := 5) hw (by repeat constructor) (by repeat constructor) (fun e he => .tail _ (.tail _ (.tail _ he)))) (mapE.in_ (hw.ent _ (by repeat constructor))) hO rfl (hw.slF hin') hil) rfl (fun j hj => ?_)
  refine zz0 (ad rfl) (zz0 (az rfl rfl) (zz0 (az rfl rfl) (zz0 (ac rfl) (zz0 (ac rfl) (ae (aa (af (af (ab (zz0 (ad rfl) (zz0 (dN rfl rfl) (ae (aa ?_)))))))))))))
  refine ak rfl ?_ ?_ <;> intro h3 <;> try simp only [bs] at h3
  ·first | contradiction | (exfalso; omega) | simp_all
  ·refine ax (aa (af (ab (zz0 (ad rfl) (zz0 (ac rfl) (ae (aa (ao ?_))))))))
   refine aI Tryz.results9 rfl (fun w' hw => ?_)
   exact ⟨(j.1, j.2.1, j.2.2.1, j.2.2.2.1, j.2.2.2.2.1, j.2.2.2.2.2, rs), rfl, hw.below0 (Bg.le.refl _), hw.ents0 rfl (by show Pick _ (cellE j.1 (bN (di p) j.2.1 j.2.2.2.2.1 (.slice none 0 0) .nilFunc) 82 :: mapE j.2.2.1 u8V j.2.2.2.2.2 :: rowE (.slice none 0 0) 23 aw [] :: (cellE j.2.1 [j.2.2.2.1, .map (some j.2.2.1)] 91 :: rowE j.2.2.2.1 97 cN rs :: rowE j.2.2.2.2.1 23 aw inp :: eP 5 rs)); exact .cons (by repeat constructor) (.cons (by repeat constructor) (.cons (by repeat constructor) (.cons (by repeat constructor) (.cons (by repeat constructor) (.cons (by repeat constructor) (by repeat (first | exact Pick.refl _ | apply Pick.skip)))))))), hj, hO⟩
theorem AC (l : List SecV) (V : Value) (p : UInt32) (inp : List UInt32) (vi0 : Value) (w : World) (hV : Sl (hp w) cm l V) (hB : SecB l) (hN : ∀ s ∈ l, s.name.size ≤ 140737488351232) (hD : DataIn (hp w) l) (hin : Sl (hp w) aw inp vi0) (hil : inp.length ≤ 4096) (h : dV l ≠ 0) :
  Calls Tryz.prog 9 #[V, .int .u32 p.toNat, vi0] w (fun e w' => e = .returned (.pointer none) ∧ Ext w w') := by
 have hV' : Sl (Bg.of w).blk cm l V := hV
 have hD' : DataIn (Bg.of w).blk l := hD
 have hin' : Sl (Bg.of w).blk aw inp vi0 := hin
 refine enter Tryz.func9 rfl Tryz.ntmps9 rfl ?_
 refine af (ab (zz0 (ac rfl) (ae (aa (af (ab (zz0 (ad rfl) (zz0 (aF rfl Tryz.call25 (fun w hw => Ac l V w (hw.slF hV') hB hN (hD'.mono hw.bg) h)) ?_))))))))
 refine zz0 (ad rfl) (zz0 (az rfl rfl) (zz0 (az rfl rfl) (zz0 (ac rfl) (zz0 (ac rfl) (ae (aa (af (af (ab (zz0 (ad rfl) (zz0 (dN rfl rfl) (zz0 (ad rfl) ?_))))))))))))
 apply dk (y := true)
 ·exact (rfl : _ = (3, 17, 20))
 ·exact rfl
 ·intro hF1; have hF1' := hF1
  try simp only [bs] at hF1'
  exact absurd (of_decide_eq_false hF1) (fun q => q h)
 ·intro hT1
  refine zz6 hT1 (zz6 hT1 (zz0 (aL rfl hT1 rfl) ?_))
  refine ae (aa ?_)
  exact av (Sub.cons rfl (zz8 3 rfl))
 refine ae (aa ?_)
 refine ak rfl ?_ ?_ <;> intro h2 <;> try simp only [bs] at h2
 ·refine af (ab (zz0 (ac rfl) (ae (aa (ao (an ?_))))))
  refine aI Tryz.results9 rfl (fun w' hw => ?_)
  exact ⟨rfl, hw.below (Bg.le.refl _)⟩
 ·exact absurd h2.2 (by decide)
theorem nF (l : List SecV) (inp : List UInt32) (V vi : Value) (w : World) (hV : Sl (hp w) cm l V) (hin : Sl (hp w) aw inp vi) :
  Calls Tryz.prog 6 #[V, vi] w (fun e w' => e = .returned (.bool (kQ l inp)) ∧ Ext w w') := by
 have hV' : Sl (Bg.of w).blk cm l V := hV
 have hin' : Sl (Bg.of w).blk aw inp vi := hin
 have hlen := hV.len_le
 refine enter Tryz.func6 rfl Tryz.ntmps6 rfl ?_
 refine af (ab (zz0 (ac rfl) (ae (aa (af (af (ab (zz0 (ad rfl) (zz0 (gA rfl bh) ?_)))))))))
 refine zz0 (dh rfl rfl) (zz0 (ad rfl) ?_)
 apply dk
 ·exact (rfl : _ = (4, 10, 14))
 ·exact rfl
 ·intro hF1; have hF1' := hF1
  try simp only [bs] at hF1'
  refine zz5 hF1 (ad rfl) (zz5 hF1 (gA rfl al) ?_)
  refine zz5 hF1 (fC rfl rfl) (zz0 (aK rfl hF1 rfl) ?_)
  refine ae (aa ?_)
  exact av (Sub.cons rfl (zz8 4 rfl))
 ·intro hT1
  refine zz6 hT1 (zz6 hT1 (zz6 hT1 (zz0 (aL rfl hT1 rfl) ?_)))
  refine ae (aa ?_)
  exact av (Sub.cons rfl (zz8 4 rfl))
 refine ae (aa ?_)
 refine ak rfl ?_ ?_ <;> intro h2 <;> try simp only [bs] at h2
 ·refine af (ab (zz0 (ac rfl) (ae (aa (ao (an ?_))))))
  refine aI Tryz.results6 rfl (fun w' hw => ?_)
  exact ⟨by unfold kQ; simp; omega, hw.below (Bg.le.refl _)⟩
 ·refine ax (aa (af (ab (zz0 (ac rfl) (ae (aa (af (af (ab (zz0 (ac rfl) (ae (aa (aQ ?_)))))))))))))
  refine cu (ι := Nat) (fun k => k ≤ l.length ∧ kP l k < 1000) (fun _ => _) (fun k => []) (fun k => [(6, .int .i64 (k : Nat)), (5, .int .i64 (kP l k))]) (fun k => l.length - k) 0 ⟨Nat.zero_le _, by show (0 : Int) < 1000; decide⟩ (.cons (by first | rfl | exact am rfl (by omega) | exact am rfl (by simp) | exact aR rfl (by simp)) (.cons (by first | rfl | exact am rfl (by omega) | exact am rfl (by simp) | exact aR rfl (by simp)) Front.nil)) (by repeat' constructor) rfl (fun k hi m hm => ?_)
  replace hi : k ≤ l.length ∧ kP l k < 1000 := hi
  replace hm : m = l.length - k := hm
  change Tr _ _ [] ([(6, .int .i64 (k : Nat)), (5, .int .i64 (kP l k))] ++ _) _
  obtain ⟨hk1, hk2⟩ := hi
  have hk0 : 0 ≤ kP l k := by have := lb l 0 k; rw [Nat.zero_add] at this; exact this
  refine af (af (ab (zz0 (ad rfl) (zz0 (ad rfl) (zz0 (gA rfl bh) ?_)))))
  refine zz0 (cI rfl rfl) (ae (aa ?_))
  refine ak rfl ?_ ?_ <;> intro h3 <;> try simp only [bs] at h3
  ·refine ax (aa (af (aQ (af (ab (zz0 (ad rfl) (zz0 (ad rfl) (zz0 (ad rfl) (zz0 (iZ rfl rfl bh bI) ?_)))))))))
   refine zz0 (zz3 (off := 2) (ft := 62) rfl bC rfl c9) ?_
   refine zz0 (k9 rfl dL) ?_
   refine zz0 (fO rfl aD) ?_
   refine zz0 (kN rfl rfl) ?_
   refine zz0 (dy rfl rfl) ?_
   refine zz0 (ac rfl) (ae (aa (af (ab (zz0 (ad rfl) (zz0 (dh rfl rfl) (ae (aa ?_))))))))
   refine ak rfl ?_ ?_ <;> intro h4 <;> try simp only [bs] at h4
   ·refine af (ab (zz0 (ac rfl) (ae (aa (ao (bf (an (an (bf (an ?_))))))))))
    refine aI Tryz.results6 rfl (fun w' hw => ?_)
    have hle : kP l (k + 1) ≤ kP l l.length := by have := lb l (k + 1) (l.length - (k + 1)); rw [show k + 1 + (l.length - (k + 1)) = l.length by omega] at this; exact this
    have he : kP l (k + 1) = kP l k + min ((l.getD k default).data.length : Int) 1000 := rfl
    exact ⟨by unfold kQ; rw [decide_eq_false (p := kP l l.length < 1000) (by omega), Bool.and_false], hw.below (Bg.le.refl _)⟩
   ·refine ax (ba (aa (ab (zz0 (ad rfl) (zz0 (dy rfl rfl) ?_)))))
    refine zz0 (ac rfl) (ae (aa ?_))
    apply bT (k + 1)
    ·exact rfl
    ·exact (.cons (by first | rfl | exact am rfl (by omega) | exact am rfl (by simp) | exact aR rfl (by simp)) (.cons (by first | rfl | exact am rfl (by omega) | exact am rfl (by simp) | exact aR rfl (by simp)) Front.nil))
    ·exact bR 21 rfl
    ·exact (by repeat' constructor)
    ·exact ⟨by omega, by show kP l k + min ((l.getD k default).data.length : Int) 1000 < 1000; omega⟩
    ·exact (by (try dsimp only); omega)
  ·refine cj (aY (aY (bV (aa (af (ab (zz0 (ac rfl) (ae (aa (ao ?_))))))))))
   refine aI Tryz.results6 rfl (fun w' hw => ?_)
   obtain rfl : k = l.length := by omega
   exact ⟨by unfold kQ; rw [decide_eq_true hk2, decide_eq_true (by omega), decide_eq_true (by omega)]; rfl, hw.below (Bg.le.refl _)⟩
end Go.Proofs.YtpeaodkfbjenpaaGreat
namespace Go.Proofs.YtpeaodkfbjenpaaGreat
open Go Go.HL Go.RowKit
theorem kV (w : World) :
  Calls Tryz.prog 7 #[] w (fun e w' => e = .returned (.bool true) ∧ Below w.heap.size w w') := by
 refine nO Tryz.func7 rfl Tryz.ntmps7 rfl ?_
 refine af (ab (zz0 (ac rfl) (ae (aa (af (ab ?_))))))
 refine AH (E := dJ) fV (vs := [(0, _), (1, _), (2, _), (3, _), (4, _), (5, _)]) rfl rfl aD bO jw (by rfl) (by rfl) rfl (by first | kernel_rfl | rfl) rfl (fun V1 => ?_)
 refine kK (.head _) (fun pa1 ca1 hpv => ?_)
 subst hpv
 refine mK (.here _) (fun F1 hF1 hD1 => ?_)
 refine zz0 (bE (vs := [(0, _), (1, _), (2, _), (4, _)]) (cs := (cm.enc (exC fV pa1 ca1)).toArray) rfl rfl (by kernel_rfl)) ?_
 refine fu (E := cm) (exC fV pa1 ca1) rfl rfl bh bI fh (by rfl) (by rfl) rfl (fun V2 => ?_)
 refine mK (.here _) (fun F2 hF2 hS1 => ?_)
 replace hD1 := hD1.mono hF2.blk
 refine kL (fun j : Nat × Nat × Nat × Value × Value × WL × List RegV => .pointer (some ⟨j.1, 0, none⟩)) (fun j => [cellE j.1 (bN (di 4096) j.2.1 j.2.2.2.2.1 (.slice none 0 0) .nilFunc) 82, mapE j.2.2.1 u8V j.2.2.2.2.2.1, rowE (.slice none 0 0) 23 aw []]) (fun j => (cellE j.2.1 [j.2.2.2.1, .map (some j.2.2.1)] 91 :: rowE j.2.2.2.1 97 cN j.2.2.2.2.2.2 :: rowE j.2.2.2.2.1 23 aw [] :: eP 5 j.2.2.2.2.2.2)) (ok := fun j => (cO j.2.2.2.2.2.1 = (di 4096).w ∧ j.2.2.2.2.2.1.length ≤ 4) ∧ MemOK [exC fV pa1 ca1] j.2.2.2.2.2.2) ((hF1.trans hF2).dr) rfl Tryz.call9 (fun w hw => sb [exC fV pa1 ca1] _ 4096 [] _ w (hw.slF hS1) ⟨by simp, by simp [exC, fV]⟩ (by simp [exC]; decide) (fun s hs => by simp only [List.mem_singleton] at hs; subst hs; exact hw.slF hD1) (Sl.nil _ _) (by decide) (Aq _ _)) rfl (fun j F3 hj hF3 hk => ?_)
 obtain ⟨bc1, bM1, bm1, VR1, vi1, wl1, rs1⟩ := j
 have hC1 : CpuAt F3.blk bM1 bm1 VR1 vi1 rs1 [] := pU hk
 obtain ⟨⟨hw1, hn1⟩, hO1⟩ := hj
 replace hO1 : MemOK [exC fV pa1 ca1] rs1 := hO1
 change Tr _ _ ([cellE bc1 (bN (di 4096) bM1 vi1 (.slice none 0 0) .nilFunc) 82, mapE bm1 u8V wl1, rowE (.slice none 0 0) 23 aw (di 4096).out] ++ _) _ _
 refine zz0 (ac rfl) (ae (aa (af (ab ?_))))
 refine fu (E := dJ) (2 : UInt8) rfl rfl aD bO jw (by rfl) (by rfl) rfl (fun V3 => ?_)
 refine kK (.head _) (fun pa2 ca2 hpv => ?_)
 subst hpv
 refine mK (.here _) (fun F4 hF4 hD2 => ?_)
 refine zz0 (bE (vs := [(0, _), (1, _), (2, _), (4, _)]) (cs := (cm.enc (exC [2] pa2 ca2)).toArray) rfl rfl (by kernel_rfl)) ?_
 refine fu (E := cm) (exC [2] pa2 ca2) rfl rfl bh bI fh (by rfl) (by rfl) rfl (fun V4 => ?_)
 refine mK (.here _) (fun F5 hF5 hS2 => ?_)
 replace hD2 := hD2.mono hF5.blk
 refine kL (fun j : Nat × Nat × Nat × Value × Value × WL × List RegV => .pointer (some ⟨j.1, 0, none⟩)) (fun j => [cellE j.1 (bN (di 4096) j.2.1 j.2.2.2.2.1 (.slice none 0 0) .nilFunc) 82, mapE j.2.2.1 u8V j.2.2.2.2.2.1, rowE (.slice none 0 0) 23 aw []]) (fun j => (cellE j.2.1 [j.2.2.2.1, .map (some j.2.2.1)] 91 :: rowE j.2.2.2.1 97 cN j.2.2.2.2.2.2 :: rowE j.2.2.2.2.1 23 aw [] :: eP 5 j.2.2.2.2.2.2)) (ok := fun j => (cO j.2.2.2.2.2.1 = (di 4096).w ∧ j.2.2.2.2.2.1.length ≤ 4) ∧ MemOK [exC [2] pa2 ca2] j.2.2.2.2.2.2) ((hF1.trans (hF2.trans (hF3.trans (hF4.trans hF5)))).dr) rfl Tryz.call9 (fun w hw => sb [exC [2] pa2 ca2] _ 4096 [] _ w (hw.slF hS2) ⟨by simp, by simp [exC, fV]⟩ (by simp [exC]; decide) (fun s hs => by simp only [List.mem_singleton] at hs; subst hs; exact hw.slF hD2) (Sl.nil _ _) (by decide) (Ap _ _)) rfl (fun j F6 hj hF6 hk => ?_)
 obtain ⟨bc2, bM2, bm2, VR2, vi2, wl2, rs2⟩ := j
 have hC2 : CpuAt F6.blk bM2 bm2 VR2 vi2 rs2 [] := pU hk
 obtain ⟨⟨hw2, hn2⟩, hO2⟩ := hj
 replace hO2 : MemOK [exC [2] pa2 ca2] rs2 := hO2
 change Tr _ _ ([cellE bc2 (bN (di 4096) bM2 vi2 (.slice none 0 0) .nilFunc) 82, mapE bm2 u8V wl2, rowE (.slice none 0 0) 23 aw (di 4096).out] ++ _) _ _
 have hF16 := hF1.trans (hF2.trans (hF3.trans (hF4.trans (hF5.trans hF6))))
 have hdr6 : F6.dr = 0 := hF16.dr
 replace hC1 := hC1.mono (hF4.trans (hF5.trans hF6)).blk
 refine zz0 (ac rfl) (ae (aa (af (af (ab (zz0 (ad rfl) (zz0 (jG rfl rfl fZ rfl) ?_)))))))
 refine zz0 (ad rfl) ?_
 apply dk
 ·exact (rfl : _ = (3, 17, 20))
 ·exact rfl
 ·intro hF5; have hF5' := hF5
  try simp only [bs] at hF5'
  refine zz5 hF5 (ad rfl) (zz5 hF5 (jG rfl rfl fZ rfl) ?_)
  refine zz0 (aK rfl hF5 rfl) ?_
  refine ae (aa ?_)
  exact av (Sub.cons rfl (zz8 3 rfl))
 ·intro hT5
  refine zz6 hT5 (zz6 hT5 (zz0 (aL rfl hT5 rfl) ?_))
  refine ae (aa ?_)
  exact av (Sub.cons rfl (zz8 3 rfl))
 refine ae (aa ?_)
 refine ak rfl ?_ ?_ <;> intro h6 <;> try simp only [bs] at h6
 ·first | contradiction | (exfalso; omega) | simp_all
 ·refine ax (aa (af (ab (zz0 (ad rfl) ?_))))
  refine db (fun j : WL × Value × Value × Value × Value => .agg #[.int .i64 (jl (dl [exC fV pa1 ca1] [] (min (2 : Int) 65536).toNat (di 4096))), j.2.2.2.2, .int .i64 ((cX [exC fV pa1 ca1] [] (min (2 : Int) 65536).toNat (di 4096)).length : Nat)]) [cellE bc1 (bN (di 4096) bM1 vi1 (.slice none 0 0) .nilFunc) 82, mapE bm1 u8V wl1, rowE (.slice none 0 0) 23 aw (di 4096).out] (fun j => [cellE bc1 (bN (dl [exC fV pa1 ca1] [] (min (2 : Int) 65536).toNat (di 4096)) bM1 vi1 j.2.1 j.2.2.1) 82, mapE bm1 u8V j.1, rowE j.2.1 23 aw (dl [exC fV pa1 ca1] [] (min (2 : Int) 65536).toNat (di 4096)).out, rowE j.2.2.2.2 23 aw (dl [exC fV pa1 ca1] [] (min (2 : Int) 65536).toNat (di 4096)).out]) (ok := fun j => cO j.1 = (dl [exC fV pa1 ca1] [] (min (2 : Int) 65536).toNat (di 4096)).w ∧ j.1.length ≤ wl1.length + 4 * (cX [exC fV pa1 ca1] [] (min (2 : Int) 65536).toNat (di 4096)).length ∧ ∃ a n c, j.2.1 = .slice a n c) (dd := fun _ => 0) rfl mI (by repeat' constructor) (fun w hw => Nat.le_of_eq (hdr6)) (fun w hw => oN (di 4096) bc1 bM1 bm1 VR1 vi1 (.slice none 0 0) .nilFunc rs1 [exC fV pa1 ca1] wl1 [] (2 : Int) w (hw.own (by repeat' constructor)) (hC1.mono (hw.lessB (Lo := [cellE bc1 (bN (di 4096) bM1 vi1 (.slice none 0 0) .nilFunc) 82, mapE bm1 u8V wl1, rowE (.slice none 0 0) 23 aw (di 4096).out]) (by repeat' constructor))) hO1 hw1 ⟨_, _, _, rfl⟩ (by show (0 : Nat) ≤ 4096; omega)) rfl (fun j hj => ?_)
  obtain ⟨wl3, vo3, ef3, vt3, vq3⟩ := j
  obtain ⟨hw3, hn3, hv3⟩ := hj
  change Tr _ _ (cellE bc1 (bN (dl [exC fV pa1 ca1] [] (min (2 : Int) 65536).toNat (di 4096)) bM1 vi1 vo3 ef3) 82 :: mapE bm1 u8V wl3 :: rowE vo3 23 aw (dl [exC fV pa1 ca1] [] (min (2 : Int) 65536).toNat (di 4096)).out :: rowE vq3 23 aw (dl [exC fV pa1 ca1] [] (min (2 : Int) 65536).toNat (di 4096)).out :: _) _ _
  obtain ⟨n3, hm3⟩ : ∃ n, n = (cX [exC fV pa1 ca1] [] (min (2 : Int) 65536).toNat (di 4096)).length := ⟨_, rfl⟩
  rw [← hm3] at hn3 ⊢
  obtain ⟨t3, ht3⟩ : ∃ t, t = (dl [exC fV pa1 ca1] [] (min (2 : Int) 65536).toNat (di 4096)) := ⟨_, rfl⟩
  rw [← ht3] at hw3 ⊢
  refine jx (V := vq3) (fun pq3 cq3 hpv => ?_)
  subst hpv
  obtain ⟨hx1, hx2, hx3⟩ := BN ht3 hm3
  rw [hx1, hx3]
  have hxl : t3.out.length = 1 := by rw [hx2]; rfl
  refine zz0 (ad rfl) ?_
  refine db (fun j : WL × Value × Value × Value × Value => .agg #[.int .i64 (jl (dl [exC fV pa1 ca1] [] (min (1 : Int) 65536).toNat t3)), j.2.2.2.2, .int .i64 ((cX [exC fV pa1 ca1] [] (min (1 : Int) 65536).toNat t3).length : Nat)]) [cellE bc1 (bN t3 bM1 vi1 vo3 ef3) 82, mapE bm1 u8V wl3, rowE vo3 23 aw t3.out] (fun j => [cellE bc1 (bN (dl [exC fV pa1 ca1] [] (min (1 : Int) 65536).toNat t3) bM1 vi1 j.2.1 j.2.2.1) 82, mapE bm1 u8V j.1, rowE j.2.1 23 aw (dl [exC fV pa1 ca1] [] (min (1 : Int) 65536).toNat t3).out, rowE j.2.2.2.2 23 aw (dl [exC fV pa1 ca1] [] (min (1 : Int) 65536).toNat t3).out]) (ok := fun j => cO j.1 = (dl [exC fV pa1 ca1] [] (min (1 : Int) 65536).toNat t3).w ∧ j.1.length ≤ wl3.length + 4 * (cX [exC fV pa1 ca1] [] (min (1 : Int) 65536).toNat t3).length ∧ ∃ a n c, j.2.1 = .slice a n c) (dd := fun _ => 0) rfl mI (by repeat' constructor) (fun w hw => Nat.le_of_eq (hdr6)) (fun w hw => oN t3 bc1 bM1 bm1 VR1 vi1 vo3 ef3 rs1 [exC fV pa1 ca1] wl3 [] (1 : Int) w (hw.own (by repeat' constructor)) (hC1.mono (hw.lessB (Lo := [cellE bc1 (bN t3 bM1 vi1 vo3 ef3) 82, mapE bm1 u8V wl3, rowE vo3 23 aw t3.out]) (by repeat' constructor))) hO1 hw3 hv3 (by rw [hx2]; decide)) rfl (fun j hj => ?_)
  obtain ⟨wl4, vo4, ef4, vt4, vq4⟩ := j
  obtain ⟨hw4, hn4, hv4⟩ := hj
  change Tr _ _ (cellE bc1 (bN (dl [exC fV pa1 ca1] [] (min (1 : Int) 65536).toNat t3) bM1 vi1 vo4 ef4) 82 :: mapE bm1 u8V wl4 :: rowE vo4 23 aw (dl [exC fV pa1 ca1] [] (min (1 : Int) 65536).toNat t3).out :: rowE vq4 23 aw (dl [exC fV pa1 ca1] [] (min (1 : Int) 65536).toNat t3).out :: _) _ _
  obtain ⟨n4, hm4⟩ : ∃ n, n = (cX [exC fV pa1 ca1] [] (min (1 : Int) 65536).toNat t3).length := ⟨_, rfl⟩
  rw [← hm4] at hn4 ⊢
  obtain ⟨t4, ht4⟩ : ∃ t, t = (dl [exC fV pa1 ca1] [] (min (1 : Int) 65536).toNat t3) := ⟨_, rfl⟩
  rw [← ht4] at hw4 ⊢
  refine jx (V := vq4) (fun pq4 cq4 hpv => ?_)
  subst hpv
  obtain ⟨hy1, hy2, hy3⟩ := BM ht3 ht4 hm4
  rw [hy1, hy3]
  refine cZ cY rfl (fun b7 => ?_)
  refine cZ cY rfl (fun b8 => ?_)
  refine zz9 rfl rfl cF ?_
  refine zz9 rfl rfl cF ?_
  refine ae (aa (af (ab (zz0 (ad rfl) ?_))))
  refine db (fun j : WL × Value × Value × Value × Value => .agg #[.int .i64 (jl (dl [exC [2] pa2 ca2] [] (min (9 : Int) 65536).toNat (di 4096))), j.2.2.2.2, .int .i64 ((cX [exC [2] pa2 ca2] [] (min (9 : Int) 65536).toNat (di 4096)).length : Nat)]) [cellE bc2 (bN (di 4096) bM2 vi2 (.slice none 0 0) .nilFunc) 82, mapE bm2 u8V wl2, rowE (.slice none 0 0) 23 aw (di 4096).out] (fun j => [cellE bc2 (bN (dl [exC [2] pa2 ca2] [] (min (9 : Int) 65536).toNat (di 4096)) bM2 vi2 j.2.1 j.2.2.1) 82, mapE bm2 u8V j.1, rowE j.2.1 23 aw (dl [exC [2] pa2 ca2] [] (min (9 : Int) 65536).toNat (di 4096)).out, rowE j.2.2.2.2 23 aw (dl [exC [2] pa2 ca2] [] (min (9 : Int) 65536).toNat (di 4096)).out]) (ok := fun j => cO j.1 = (dl [exC [2] pa2 ca2] [] (min (9 : Int) 65536).toNat (di 4096)).w ∧ j.1.length ≤ wl2.length + 4 * (cX [exC [2] pa2 ca2] [] (min (9 : Int) 65536).toNat (di 4096)).length ∧ ∃ a n c, j.2.1 = .slice a n c) (dd := fun _ => 0) rfl mI (by repeat' constructor) (fun w hw => Nat.le_of_eq (hdr6)) (fun w hw => oN (di 4096) bc2 bM2 bm2 VR2 vi2 (.slice none 0 0) .nilFunc rs2 [exC [2] pa2 ca2] wl2 [] (9 : Int) w (hw.own (by repeat' constructor)) (hC2.mono (hw.lessB (Lo := [cellE bc2 (bN (di 4096) bM2 vi2 (.slice none 0 0) .nilFunc) 82, mapE bm2 u8V wl2, rowE (.slice none 0 0) 23 aw (di 4096).out]) (by repeat' constructor))) hO2 hw2 ⟨_, _, _, rfl⟩ (by show (0 : Nat) ≤ 4096; omega)) rfl (fun j hj => ?_)
  obtain ⟨wl5, vo5, ef5, vt5, vq5⟩ := j
  obtain ⟨hw5, hn5, hv5⟩ := hj
  change Tr _ _ (cellE bc2 (bN (dl [exC [2] pa2 ca2] [] (min (9 : Int) 65536).toNat (di 4096)) bM2 vi2 vo5 ef5) 82 :: mapE bm2 u8V wl5 :: rowE vo5 23 aw (dl [exC [2] pa2 ca2] [] (min (9 : Int) 65536).toNat (di 4096)).out :: rowE vq5 23 aw (dl [exC [2] pa2 ca2] [] (min (9 : Int) 65536).toNat (di 4096)).out :: _) _ _
  obtain ⟨n5, hm5⟩ : ∃ n, n = (cX [exC [2] pa2 ca2] [] (min (9 : Int) 65536).toNat (di 4096)).length := ⟨_, rfl⟩
  rw [← hm5] at hn5 ⊢
  obtain ⟨t5, ht5⟩ : ∃ t, t = (dl [exC [2] pa2 ca2] [] (min (9 : Int) 65536).toNat (di 4096)) := ⟨_, rfl⟩
  rw [← ht5] at hw5 ⊢
  refine jx (V := vq5) (fun pq5 cq5 hpv => ?_)
  subst hpv
  obtain ⟨hz1, hz2, hz3, hz4⟩ := BY ht5 hm5
  rw [hz1, hz2]
  refine cZ cY rfl (fun b9 => ?_)
  refine zz9 rfl rfl cF ?_
  refine ae (aa (af (ab (zz0 (ad rfl) (zz0 (aF rfl Tryz.call18 (fun w hw => qM t5 bc2 bM2 vi2 vo5 ef5 w (cellE.cellsIn (hw.ent _ (by repeat constructor)) (Ext.refl _)))) ?_)))))
  refine cZ gx rfl (fun b10 => ?_)
  refine bA nn rfl rfl aS ?_
  refine ae (aa (af (ab (zz0 (zz3 (off := 0) (ft := 31) rfl cV rfl da) ?_))))
  refine zz0 (aM rfl eH) ?_
  refine zz0 (aN rfl rfl) (zz0 (ad rfl) ?_)
  apply bJ
  ·exact (rfl : _ = (4, 32, 36))
  ·exact rfl
  ·intro hT11; have hT11' := hT11
   try simp only [bs] at hT11'
   refine zz5 hT11 (zz3 (off := 2) (ft := 3) rfl cV rfl aj) ?_
   refine zz5 hT11 (aM rfl aC) ?_
   refine zz5 hT11 (aN rfl rfl) (zz0 (aL rfl hT11 rfl) ?_)
   refine ae (aa ?_)
   exact av (Sub.cons rfl (zz8 4 rfl))
  ·intro hF11
   refine zz6 hF11 (zz6 hF11 (zz6 hF11 (zz0 (aK rfl hF11 rfl) ?_)))
   refine ae (aa ?_)
   exact av (Sub.cons rfl (zz8 4 rfl))
  refine zz0 (ad rfl) ?_
  apply bJ
  ·exact (rfl : _ = (5, 37, 42))
  ·exact rfl
  ·intro hT12; have hT12' := hT12
   try simp only [bs] at hT12'
   refine zz5 hT12 (zz3 (off := 1) (ft := 24) rfl cV rfl cC) ?_
   refine zz5 hT12 (aM rfl dD) ?_
   refine zz5 hT12 (fN rfl (by repeat constructor) al) ?_
   refine zz5 hT12 (aN rfl rfl) (zz0 (aL rfl hT12 rfl) ?_)
   refine ae (aa ?_)
   exact av (Sub.cons rfl (zz8 5 rfl))
  ·intro hF12
   refine zz6 hF12 (zz6 hF12 (zz6 hF12 (zz6 hF12 (zz0 (aK rfl hF12 rfl) ?_))))
   refine ae (aa ?_)
   exact av (Sub.cons rfl (zz8 5 rfl))
  refine zz0 (ad rfl) ?_
  apply bJ
  ·exact (rfl : _ = (6, 43, 49))
  ·exact rfl
  ·intro hT13; have hT13' := hT13
   try simp only [bs] at hT13'
   refine zz5 hT13 (zz3 (off := 1) (ft := 24) rfl cV rfl cC) ?_
   refine zz5 hT13 (aM rfl dD) ?_
   refine zz5 hT13 (mc rfl rfl al ah) ?_
   refine zz5 hT13 (eI rfl ay) ?_
   refine zz5 hT13 (gh (n := 5) rfl rfl) ?_
   refine zz0 (aL rfl hT13 rfl) ?_
   refine ae (aa ?_)
   exact av (Sub.cons rfl (zz8 6 rfl))
  ·intro hF13
   refine zz6 hF13 (zz6 hF13 (zz6 hF13 (zz6 hF13 (zz6 hF13 (zz0 (aK rfl hF13 rfl) ?_)))))
   refine ae (aa ?_)
   exact av (Sub.cons rfl (zz8 6 rfl))
  refine zz0 (ad rfl) ?_
  apply bJ
  ·exact (rfl : _ = (4, 50, 54))
  ·exact rfl
  ·intro hT14; have hT14' := hT14
   try simp only [bs] at hT14'
   refine zz5 hT14 (zz3 (off := 0) (ft := 31) rfl cV rfl da) ?_
   refine zz5 hT14 (aM rfl eH) ?_
   refine zz5 hT14 (aN rfl rfl) (zz0 (aL rfl hT14 rfl) ?_)
   refine ae (aa ?_)
   exact av (Sub.cons rfl (zz8 4 rfl))
  ·intro hF14
   refine zz6 hF14 (zz6 hF14 (zz6 hF14 (zz0 (aK rfl hF14 rfl) ?_)))
   refine ae (aa ?_)
   exact av (Sub.cons rfl (zz8 4 rfl))
  refine zz0 (ad rfl) ?_
  apply bJ
  ·exact (rfl : _ = (4, 55, 59))
  ·exact rfl
  ·intro hT15; have hT15' := hT15
   try simp only [bs] at hT15'
   refine zz5 hT15 (zz3 (off := 2) (ft := 3) rfl cV rfl aj) ?_
   refine zz5 hT15 (aM rfl aC) ?_
   refine zz5 hT15 (aN rfl rfl) (zz0 (aL rfl hT15 rfl) ?_)
   refine ae (aa ?_)
   exact av (Sub.cons rfl (zz8 4 rfl))
  ·intro hF15
   refine zz6 hF15 (zz6 hF15 (zz6 hF15 (zz0 (aK rfl hF15 rfl) ?_)))
   refine ae (aa ?_)
   exact av (Sub.cons rfl (zz8 4 rfl))
  refine zz0 (ad rfl) ?_
  apply bJ
  ·exact (rfl : _ = (3, 60, 63))
  ·exact rfl
  ·intro hT16; have hT16' := hT16
   try simp only [bs] at hT16'
   refine zz5 hT16 (ad rfl) (zz5 hT16 (aF rfl Tryz.call21 (fun w hw => pP t4 bc1 bM1 vi1 vo4 ef4 w (cellE.cellsIn (hw.ent _ (by repeat constructor)) (Ext.refl _)))) ?_)
   refine zz0 (aL rfl hT16 rfl) ?_
   refine ae (aa ?_)
   exact av (Sub.cons rfl (zz8 3 rfl))
  ·intro hF16
   refine zz6 hF16 (zz6 hF16 (zz0 (aK rfl hF16 rfl) ?_))
   refine ae (aa ?_)
   exact av (Sub.cons rfl (zz8 3 rfl))
  refine zz0 (ad rfl) ?_
  apply bJ
  ·exact (rfl : _ = (4, 64, 68))
  ·exact rfl
  ·intro hT17; have hT17' := hT17
   try simp only [bs] at hT17'
   refine zz5 hT17 (zz3 (off := 0) (ft := 31) rfl cV rfl da) ?_
   refine zz5 hT17 (aM rfl eH) ?_
   refine zz5 hT17 (aN rfl rfl) (zz0 (aL rfl hT17 rfl) ?_)
   refine ae (aa ?_)
   exact av (Sub.cons rfl (zz8 4 rfl))
  ·intro hF17
   refine zz6 hF17 (zz6 hF17 (zz6 hF17 (zz0 (aK rfl hF17 rfl) ?_)))
   refine ae (aa ?_)
   exact av (Sub.cons rfl (zz8 4 rfl))
  refine zz0 (ad rfl) ?_
  apply bJ
  ·exact (rfl : _ = (4, 69, 73))
  ·exact rfl
  ·intro hT18; have hT18' := hT18
   try simp only [bs] at hT18'
   refine zz5 hT18 (zz3 (off := 2) (ft := 3) rfl cV rfl aj) ?_
   refine zz5 hT18 (aM rfl aC) ?_
   refine zz5 hT18 (aN rfl rfl) (zz0 (aL rfl hT18 rfl) ?_)
   refine ae (aa ?_)
   exact av (Sub.cons rfl (zz8 4 rfl))
  ·intro hF18
   refine zz6 hF18 (zz6 hF18 (zz6 hF18 (zz0 (aK rfl hF18 rfl) ?_)))
   refine ae (aa ?_)
   exact av (Sub.cons rfl (zz8 4 rfl))
  refine zz0 (ad rfl) ?_
  apply bJ
  ·exact (rfl : _ = (4, 74, 78))
  ·exact rfl
  ·intro hT19; have hT19' := hT19
   try simp only [bs] at hT19'
   refine zz5 hT19 (zz3 (off := 8) (ft := 23) rfl aA rfl ah) ?_
   refine zz5 hT19 (aM rfl ay) ?_
   refine zz5 hT19 (gh (n := 4294967295) rfl rfl) ?_
   refine zz0 (aL rfl hT19 rfl) ?_
   refine ae (aa ?_)
   exact av (Sub.cons rfl (zz8 4 rfl))
  ·intro hF19
   refine zz6 hF19 (zz6 hF19 (zz6 hF19 (zz0 (aK rfl hF19 rfl) ?_)))
   refine ae (aa ?_)
   exact av (Sub.cons rfl (zz8 4 rfl))
  refine zz0 (ad rfl) ?_
  apply bJ
  ·exact (rfl : _ = (5, 79, 84))
  ·exact rfl
  ·intro hT20; have hT20' := hT20
   try simp only [bs] at hT20'
   refine zz5 hT20 (zz3 (off := 0) (ft := 36) rfl aA rfl bF) ?_
   refine zz5 hT20 (ff rfl rfl aZ ah) ?_
   refine zz5 hT20 (aM rfl ay) ?_
   refine zz5 hT20 (gh (n := 983040) rfl rfl) ?_
   refine zz0 (aL rfl hT20 rfl) ?_
   refine ae (aa ?_)
   exact av (Sub.cons rfl (zz8 5 rfl))
  ·intro hF20
   refine zz6 hF20 (zz6 hF20 (zz6 hF20 (zz6 hF20 (zz0 (aK rfl hF20 rfl) ?_))))
   refine ae (aa ?_)
   exact av (Sub.cons rfl (zz8 5 rfl))
  refine zz0 (ad rfl) ?_
  apply bJ
  ·exact (rfl : _ = (4, 85, 89))
  ·exact rfl
  ·intro hT21; have hT21' := hT21
   try simp only [bs] at hT21'
   refine zz5 hT21 (aF rfl Tryz.call22 (fun w hw => qN 7 w)) ?_
   refine zz5 hT21 (zC (k := 0) (off := 8) (ft := 23) rfl aA rfl rfl ay rfl) ?_
   refine zz5 hT21 (gh (n := 7) rfl rfl) ?_
   refine zz0 (aL rfl hT21 rfl) ?_
   refine ae (aa ?_)
   exact av (Sub.cons rfl (zz8 4 rfl))
  ·intro hF21
   refine zz6 hF21 (zz6 hF21 (zz6 hF21 (zz0 (aK rfl hF21 rfl) ?_)))
   refine ae (aa ?_)
   exact av (Sub.cons rfl (zz8 4 rfl))
  refine zz0 (ac rfl) (ae (aa (ao ?_)))
  refine aI Tryz.results7 rfl (fun w' hw => ?_)
  exact ⟨by simp [hx1, hx2, hx3, hy1, hy2, hy3, hz1, hz2, hz3, hz4, rF], hw.below0 hF16⟩
end Go.Proofs.YtpeaodkfbjenpaaGreat
namespace Go.HL
open Go Go.RowKit
section
variable (e : UInt8) (x y : UInt32) (dp : Option Addr) (dc : Nat)
end
theorem yI : rA gR [.bool, .bool, .bool, .bool] [0, 1, 2, 3] := by
  intro x y
  refine ⟨fun j o e ho he => ?_, ?_⟩
  · rcases j with _ | _ | _ | _ | j <;> simp at ho he <;> subst ho <;> subst he <;> trivial
  · obtain ⟨a0, a1, a2, a3⟩ := x
    obtain ⟨c0, c1, c2, c3⟩ := y
    rw [Bool.eq_iff_iff]
    simp [pS, gR]
end Go.HL
namespace Go.HL
open Go Go.RowKit
section
variable {P : Program}
inductive FieldsRun (P : Program) (d : Nat) (xs ys : Array Value) : List Field → List Bool → Prop
  | nil : FieldsRun P d xs ys [] []
  | cons {f : Field} {fs : List Field} {u v : Value} {b : Bool} {bs : List Bool} (hn : f.name ≠ "_") (hx : ∀ w, (part f.type xs f.offset).run P w = .ok u w) (hy : ∀ w, (part f.type ys f.offset).run P w = .ok v w)
      (he : ∀ w, (Op.equalIn d f.type u v).run P w = .ok b w) (h : FieldsRun P d xs ys fs bs) : FieldsRun P d xs ys (f :: fs) (b :: bs)
theorem lh {d : Nat} {xs ys : Array Value} (w : World) : ∀ {fs : List Field} {bs : List Bool}, FieldsRun P d xs ys fs bs → (Op.eqFields d xs ys fs).run P w = .ok (bs.all id) w
  | [], _, .nil => by simp [Op.eqFields]
  | f :: fs, _, .cons (b := b) (bs := bs) hn hx hy he h => by
    have ih := lh w h
    simp only [Op.eqFields, hn, ne_eq, not_false_eq_true, if_true, Sem.run_bind, List.all_cons, hx, hy, he, Result.andThen_ok]
    cases b
    · simp
    · simpa using ih
theorem xH {d : Nat} {t e : TypeId} {a0 a1 a2 a3 a4 a5 a6 a7 b0 b1 b2 b3 b4 b5 b6 b7 : Int} (ht : P.underlying t = some (.array 8 e)) (he : P.underlying e = some (.int .u32)) (hz : ∀ w, (sizeOf e).run P w = .ok 1 w) (hag : ∀ w, (isAgg e).run P w = .ok false w) (w : World) :
    (Op.equalIn (d + 1 + 1) t (.agg #[.int .u32 a0, .int .u32 a1, .int .u32 a2, .int .u32 a3, .int .u32 a4, .int .u32 a5, .int .u32 a6, .int .u32 a7]) (.agg #[.int .u32 b0, .int .u32 b1, .int .u32 b2, .int .u32 b3, .int .u32 b4, .int .u32 b5, .int .u32 b6, .int .u32 b7])).run P w =
      .ok (decide (a0 = b0 ∧ a1 = b1 ∧ a2 = b2 ∧ a3 = b3 ∧ a4 = b4 ∧ a5 = b5 ∧ a6 = b6 ∧ a7 = b7)) w := by
  have r : ∀ xs : Array Value, ∀ v i, xs[i]? = some v → (part e xs i).run P w = .ok v w := fun xs v i h => hU hag h
  have q : ∀ c0 c1 c2 c3 c4 c5 c6 c7 : Int, ∀ i v, (#[Value.int .u32 c0, .int .u32 c1, .int .u32 c2, .int .u32 c3, .int .u32 c4, .int .u32 c5, .int .u32 c6, .int .u32 c7] : Array Value)[i]? = some v → (part e #[Value.int .u32 c0, .int .u32 c1, .int .u32 c2, .int .u32 c3, .int .u32 c4, .int .u32 c5, .int .u32 c6, .int .u32 c7] i).run P w = .ok v w := fun c0 c1 c2 c3 c4 c5 c6 c7 i v h => r _ v i h
  have p0 := fun c0 c1 c2 c3 c4 c5 c6 c7 => q c0 c1 c2 c3 c4 c5 c6 c7 0 _ rfl
  have p1 := fun c0 c1 c2 c3 c4 c5 c6 c7 => q c0 c1 c2 c3 c4 c5 c6 c7 1 _ rfl
  have p2 := fun c0 c1 c2 c3 c4 c5 c6 c7 => q c0 c1 c2 c3 c4 c5 c6 c7 2 _ rfl
  have p3 := fun c0 c1 c2 c3 c4 c5 c6 c7 => q c0 c1 c2 c3 c4 c5 c6 c7 3 _ rfl
  have p4 := fun c0 c1 c2 c3 c4 c5 c6 c7 => q c0 c1 c2 c3 c4 c5 c6 c7 4 _ rfl
  have p5 := fun c0 c1 c2 c3 c4 c5 c6 c7 => q c0 c1 c2 c3 c4 c5 c6 c7 5 _ rfl
  have p6 := fun c0 c1 c2 c3 c4 c5 c6 c7 => q c0 c1 c2 c3 c4 c5 c6 c7 6 _ rfl
  have p7 := fun c0 c1 c2 c3 c4 c5 c6 c7 => q c0 c1 c2 c3 c4 c5 c6 c7 7 _ rfl
  rw [Op.equalIn]
  simp only [Sem.run_bind, run_underlying ht, Result.andThen_ok, hz, Std.Legacy.Range.forIn_eq_forIn_range', Std.Legacy.Range.size]
  simp [List.range', p0, p1, p2, p3, p4, p5, p6, p7, run_equalIn_int w _ _ _ _ _ _ he]
  by_cases h0 : a0 = b0
  · by_cases h1 : a1 = b1
    · by_cases h2 : a2 = b2
      · by_cases h3 : a3 = b3
        · by_cases h4 : a4 = b4
          · by_cases h5 : a5 = b5
            · by_cases h6 : a6 = b6
              · by_cases h7 : a7 = b7 <;> simp [h0, h1, h2, h3, h4, h5, h6, h7]
              · simp [h0, h1, h2, h3, h4, h5, h6]
            · simp [h0, h1, h2, h3, h4, h5]
          · simp [h0, h1, h2, h3, h4]
        · simp [h0, h1, h2, h3]
      · simp [h0, h1, h2]
    · simp [h0, h1]
  · simp [h0]
theorem wm {d : Nat} {t : TypeId} {fs : Array Field} (ht : P.underlying t = some (.struct fs)) (hw : WordFields P fs.toList [.bool, .bool, .bool, .bool]) (ho : fs.toList.map (·.offset) = [0, 1, 2, 3])
    (hh : P.stoodInHeld t = false) (x y : Flg) (w : World) : (Op.equalIn (d + 1 + 1) t (.agg (gR.enc x).toArray) (.agg (gR.enc y).toArray)).run P w = .ok (decide (x = y)) w := by
  have hf : P.fieldsOf t = fs := by simp [Program.fieldsOf, ht]
  rw [run_equalIn_struct w _ t _ _ (by rw [hf]; exact ht) hh, hf]
  obtain ⟨h1, h2⟩ := yI x y
  rw [iS _ _ _ w fs.toList _ hw (fun j f e hj he => h1 j f.offset e (by rw [← ho]; simp [hj]) he), ← h2, ← ho, List.all_map]
  rfl
structure MachTy (P : Program) (t : TypeId) : Prop where
  ex : ∃ (tr tp tf tu : TypeId) (f0 f1 f2 : Field) (fs : Array Field), P.underlying t = some (.struct #[f0, f1, f2]) ∧ f0.name ≠ "_" ∧ f1.name ≠ "_" ∧ f2.name ≠ "_" ∧ f0.type = tr ∧ f1.type = tp ∧ f2.type = tf ∧ f0.offset = 0 ∧ f1.offset = 8 ∧ f2.offset = 9 ∧
    P.stoodInHeld t = false ∧ P.underlying tr = some (.array 8 tu) ∧ (∀ w, (isAgg tr).run P w = .ok true w) ∧ (∀ w, (sizeOf tr).run P w = .ok 8 w) ∧ P.underlying tu = some (.int .u32) ∧ (∀ w, (sizeOf tu).run P w = .ok 1 w) ∧ (∀ w, (isAgg tu).run P w = .ok false w) ∧
    P.underlying tp = some (.int .u32) ∧ (∀ w, (isAgg tp).run P w = .ok false w) ∧ P.underlying tf = some (.struct fs) ∧ WordFields P fs.toList [.bool, .bool, .bool, .bool] ∧ fs.toList.map (·.offset) = [0, 1, 2, 3] ∧ P.stoodInHeld tf = false ∧ (∀ w, (isAgg tf).run P w = .ok true w) ∧ (∀ w, (sizeOf tf).run P w = .ok 4 w)
theorem yu {x y : Mach} (h : (x.r0.toNat = y.r0.toNat ∧ x.r1.toNat = y.r1.toNat ∧ x.r2.toNat = y.r2.toNat ∧ x.r3.toNat = y.r3.toNat ∧ x.r4.toNat = y.r4.toNat ∧ x.r5.toNat = y.r5.toNat ∧ x.r6.toNat = y.r6.toNat ∧ x.r7.toNat = y.r7.toNat) ∧ x.pc.toNat = y.pc.toNat ∧ x.f = y.f) : x = y := by
  obtain ⟨⟨h0, h1, h2, h3, h4, h5, h6, h7⟩, h8, h9⟩ := h
  cases x; cases y
  simp only at h0 h1 h2 h3 h4 h5 h6 h7 h8 h9
  rw [UInt32.toNat_inj] at h0 h1 h2 h3 h4 h5 h6 h7 h8
  subst h0 h1 h2 h3 h4 h5 h6 h7 h8 h9
  rfl
theorem na {t : TypeId} {cs vs : List Value} {o k : Nat} (ha : ∀ w, (isAgg t).run P w = .ok true w) (hz : ∀ w, (sizeOf t).run P w = .ok k w) (hv : (cs.drop o).take k = vs) (w : World) : (part t cs.toArray o).run P w = .ok (.agg vs.toArray) w := by
  have h1 : cs.toArray.extract o (o + k) = vs.toArray := by
    apply Array.toList_inj.1
    simp only [Array.toList_extract, List.extract]
    rw [show o + k - o = k by omega, hv]
  simp [part, ha, hz, hv]
open Classical in
theorem un {t : TypeId} (h : MachTy P t) (x y : Mach) (w : World) : (Op.equal t (.agg (nn.enc x).toArray) (.agg (nn.enc y).toArray)).run P w = .ok (decide (x = y)) w := by
  obtain ⟨tr, tp, tf, tu, f0, f1, f2, fs, ht, n0, n1, n2, y0, y1, y2, o0, o1, o2, hh, htr, hatr, hztr, htu, hztu, hatu, htp, hatp, htf, hwf, hof, hhf, hatf, hztf⟩ := h.ex
  have hf : P.fieldsOf t = #[f0, f1, f2] := by simp [Program.fieldsOf, ht]
  subst y0 y1 y2
  unfold Op.equal
  show (Op.equalIn (9997 + 1 + 1 + 1) t _ _).run P w = _
  rw [run_equalIn_struct w _ t _ _ (by rw [hf]; exact ht) hh, hf]
  have hr := lh w (FieldsRun.cons (P := P) (d := 9997 + 1 + 1) (xs := (nn.enc x).toArray) (ys := (nn.enc y).toArray) (f := f0) (fs := [f1, f2]) n0
    (fun w => by rw [o0]; exact na hatr hztr (vs := [.int .u32 x.r0.toNat, .int .u32 x.r1.toNat, .int .u32 x.r2.toNat, .int .u32 x.r3.toNat, .int .u32 x.r4.toNat, .int .u32 x.r5.toNat, .int .u32 x.r6.toNat, .int .u32 x.r7.toNat]) rfl w)
    (fun w => by rw [o0]; exact na hatr hztr (vs := [.int .u32 y.r0.toNat, .int .u32 y.r1.toNat, .int .u32 y.r2.toNat, .int .u32 y.r3.toNat, .int .u32 y.r4.toNat, .int .u32 y.r5.toNat, .int .u32 y.r6.toNat, .int .u32 y.r7.toNat]) rfl w)
    (fun w => xH htr htu hztu hatu w)
    (FieldsRun.cons (f := f1) (fs := [f2]) n1 (fun w => by rw [o1]; exact hU hatp (v := .int .u32 x.pc.toNat) rfl) (fun w => by rw [o1]; exact hU hatp (v := .int .u32 y.pc.toNat) rfl)
      (fun w => run_equalIn_int w _ _ _ _ _ _ htp)
      (FieldsRun.cons (f := f2) (fs := []) n2 (fun w => by rw [o2]; exact na hatf hztf (vs := gR.enc x.f) rfl w) (fun w => by rw [o2]; exact na hatf hztf (vs := gR.enc y.f) rfl w)
        (fun w => wm htf hwf hof hhf x.f y.f w) .nil)))
  refine hr.trans ?_
  congr 1
  rw [Bool.eq_iff_iff]
  simp only [List.all_cons, List.all_nil, id, Bool.and_true, Bool.and_eq_true, decide_eq_true_eq, beq_iff_eq, Int.natCast_inj]
  constructor
  · rintro ⟨q1, q2, q3⟩; exact yu ⟨q1, q2, q3⟩
  · rintro rfl; exact ⟨⟨rfl, rfl, rfl, rfl, rfl, rfl, rfl, rfl⟩, rfl, rfl⟩
end
section
variable {P : Program} {N : Nat} {F : Bg} {L : List Ent} {M : Fr} {dst : Option Tmp} {ty : TypeId} {pos : String} {after : Array Edge} {g : Option (Nat × Bool)}
open Classical in
open Classical in
theorem AN {x y : Operand} {t u : TypeId} {p q : Mach} (hx : opv M x = some (.agg (nn.enc p).toArray)) (hy : opv M y = some (.agg (nn.enc q).toArray)) (h : MachTy P t) (hg : P.eqGuardType P.depth t = false) :
    QS P N F L M ⟨dst, .binOp .neq t x y u, ty, pos, after, g⟩ (.bool (decide (p ≠ q))) :=
  cw fun a w ha _ => by
    simp [execOp, ha.eval hx, ha.eval hy, kG w hg, binOp, un h]
end
theorem vz : ∀ {xs ys : List UInt32}, xs.Pairwise (· < ·) → ys.Pairwise (· < ·) → (∀ a, a ∈ xs ↔ a ∈ ys) → xs = ys
  | [], [], _, _, _ => rfl
  | [], y :: ys, _, _, h => by have := (h y).2 (.head _); cases this
  | x :: xs, [], _, _, h => by have := (h x).1 (.head _); cases this
  | x :: xs, y :: ys, h1, h2, h => by
    rw [List.pairwise_cons] at h1 h2
    have hxy : x = y := by
      rcases List.mem_cons.1 ((h x).1 (.head _)) with q | q
      · exact q
      · rcases List.mem_cons.1 ((h y).2 (.head _)) with r | r
        · exact r.symm
        · have a1 := UInt32.lt_iff_toNat_lt.1 (h2.1 x q)
          have a2 := UInt32.lt_iff_toNat_lt.1 (h1.1 y r)
          omega
    subst hxy
    rw [vz h1.2 h2.2 (fun a => ⟨fun q => by
      rcases List.mem_cons.1 ((h a).1 (.tail _ q)) with r | r
      · subst r; have := UInt32.lt_iff_toNat_lt.1 (h1.1 a q); omega
      · exact r, fun q => by
      rcases List.mem_cons.1 ((h a).2 (.tail _ q)) with r | r
      · subst r; have := UInt32.lt_iff_toNat_lt.1 (h2.1 a q); omega
      · exact r⟩)]
theorem IsChg.uniq {l : List SecV} {w : WrF} {xs ys : List UInt32} (h1 : IsChg l w xs) (h2 : IsChg l w ys) : xs = ys := vz h1.1 h2.1 fun a => (h1.2 a).trans (h2.2 a).symm
end Go.HL
namespace Go.Proofs.YtpeaodkfbjenpaaGreat
open Go Go.HL Go.RowKit
theorem yv : MachTy Tryz.prog 40 :=
 ⟨⟨36, 23, 38, 23, _, _, _, _, aA, by decide, by decide, by decide, rfl, rfl, rfl, rfl, rfl, rfl, by kernel_rfl, aZ, Tryz.isAgg36, bF, aT, ah, ay, aT, ay, bj, ud _ bj, rfl, vn, dM, bG⟩⟩
theorem BO : Tryz.prog.eqGuardType Tryz.prog.depth 40 = false := by kernel_rfl
end Go.Proofs.YtpeaodkfbjenpaaGreat
namespace Go.HL
open Go Go.RowKit
section
variable {l : List SecV} {inp : List UInt32}
theorem vE : ∀ (n : Nat) {s : St}, s.out.length ≤ 4096 → (dl l inp n s).out.length ≤ 4096
  | 0, s, h => h
  | n + 1, s, h => by
    rw [dl]
    split
    · exact vE n (sF h)
    · exact h
theorem qJ : ∀ (n : Nat) (s : St), (cX l inp n s).length ≤ n
  | 0, s => Nat.le_refl _
  | n + 1, s => by
    rw [cX]
    split
    · rw [List.length_cons]; exact Nat.succ_le_succ (qJ n _)
    · exact Nat.zero_le _
variable {rs : List RegV} (hO : MemOK l rs)
include hO
theorem nC {w : WrF} (hw : kq l w) {a x : UInt32} {n : Int} : kq l (bS l w a n x).1 := by
  unfold bS
  split
  · exact hw
  rename_i h1
  split
  · exact hw
  rename_i h2
  split
  · exact hw
  have hn : n = 1 ∨ n = 2 ∨ n = 4 := by
    unfold jh at h1
    simp at h1
    omega
  exact s8 (x := 0) hO hw (by omega) (by omega)
theorem As {s : St} (hw : kq l s.w) {i : Ins} {nx : UInt32} : kq l (cS l inp s i nx).1.w := by
  unfold cS
  split
  · unfold dX
    repeat' split
    all_goals first | exact hw | exact nC hO hw
  split
  · unfold dj
    repeat' split
    all_goals first | exact hw | exact nC hO hw
  split
  · unfold eF
    repeat' split
    all_goals exact hw
  split
  · unfold eY
    repeat' split
    all_goals first | exact hw | exact nC hO hw
  split
  · rw [vu]; exact hw
  exact hw
theorem xr {s : St} (hw : kq l s.w) : kq l (stepS l inp s).1.w := by
  unfold stepS
  split
  · exact hw
  split
  · exact hw
  show kq l (eN l inp s).1.w
  unfold eN
  split
  · exact hw
  split
  · exact hw
  exact As hO hw
theorem vD : ∀ (n : Nat) {s : St}, kq l s.w → kq l (dl l inp n s).w
  | 0, s, h => h
  | n + 1, s, h => by
    rw [dl]
    split
    · exact vD n (xr hO h)
    · exact h
theorem zZ (p : UInt32) : kq l (di p).w := by
  have hst : e7 983036 = true := by decide
  exact s8 (x := 0) hO (w := fun _ => none) (a := 983036) (fun a h => by cases h) (Nat.le_refl 4) (by unfold dS; rw [if_pos hst]; decide)
end
end Go.HL
namespace Go.HL
open Go Go.RowKit
structure CellV where
  addr : UInt32
  b : UInt8
  deriving Inhabited
def cQ : Enc CellV := ⟨2, fun c => [.int .u32 c.addr.toNat, .int .u8 c.b.toNat], fun _ => rfl, fun x v h => by simp at h; rcases h with h | h <;> subst h <;> rfl⟩
def dz : List CellV → WrF
  | [], _ => none
  | c :: t, a => if c.addr = a then some c.b else dz t a
def ny (cs : List CellV) : Prop := cs.Pairwise (fun x y => x.addr < y.addr)
def kS (a : UInt32) (b : UInt8) : List CellV → List CellV
  | [] => [⟨a, b⟩]
  | c :: t => if c.addr < a then c :: kS a b t else if c.addr = a then ⟨a, b⟩ :: t else ⟨a, b⟩ :: c :: t
theorem qV (a : UInt32) (b : UInt8) : ∀ cs : List CellV, dz (kS a b cs) = wq (dz cs) a b
  | [] => by
    funext x
    show (if a = x then some b else none) = if x = a then some b else none
    by_cases h : a = x
    · rw [if_pos h, if_pos h.symm]
    · rw [if_neg h, if_neg (fun e => h e.symm)]
  | c :: t => by
    funext x
    unfold kS wq
    by_cases h1 : c.addr < a
    · rw [if_pos h1]
      show (if c.addr = x then some c.b else dz (kS a b t) x) = if x = a then some b else (if c.addr = x then some c.b else dz t x)
      rw [qV a b t]
      by_cases h2 : c.addr = x
      · rw [if_pos h2, if_neg (fun e => by subst e; subst h2; exact absurd h1 (UInt32.lt_irrefl _)), if_pos h2]
      · rw [if_neg h2, if_neg h2]; rfl
    · rw [if_neg h1]
      by_cases h2 : c.addr = a
      · rw [if_pos h2]
        show (if a = x then some b else dz t x) = if x = a then some b else (if c.addr = x then some c.b else dz t x)
        by_cases h3 : a = x
        · rw [if_pos h3, if_pos h3.symm]
        · rw [if_neg h3, if_neg (fun e => h3 e.symm), if_neg (fun e => h3 (h2.symm.trans e))]
      · rw [if_neg h2]
        show (if a = x then some b else dz (c :: t) x) = if x = a then some b else dz (c :: t) x
        by_cases h3 : a = x
        · rw [if_pos h3, if_pos h3.symm]
        · rw [if_neg h3, if_neg (fun e => h3 e.symm)]
theorem tc {a : UInt32} {b : UInt8} : ∀ {cs : List CellV} {x : CellV}, x ∈ kS a b cs → x = ⟨a, b⟩ ∨ x ∈ cs
  | [], x, h => .inl (by simpa [kS] using h)
  | c :: t, x, h => by
    unfold kS at h
    split at h
    · rcases List.mem_cons.1 h with h | h
      · exact .inr (h ▸ .head _)
      · exact (tc h).imp id (.tail _)
    · split at h
      · rcases List.mem_cons.1 h with h | h
        · exact .inl h
        · exact .inr (.tail _ h)
      · rcases List.mem_cons.1 h with h | h
        · exact .inl h
        · exact .inr h
theorem og {a : UInt32} {b : UInt8} : ∀ {cs : List CellV}, ny cs → ny (kS a b cs)
  | [], _ => List.pairwise_singleton _ _
  | c :: t, h => by
    have h' := List.pairwise_cons.1 h
    unfold kS
    by_cases h1 : c.addr < a
    · rw [if_pos h1]
      refine List.pairwise_cons.2 ⟨fun x hx => ?_, og h'.2⟩
      rcases tc hx with rfl | hx
      · exact h1
      · exact h'.1 x hx
    · rw [if_neg h1]
      by_cases h2 : c.addr = a
      · rw [if_pos h2]
        exact List.pairwise_cons.2 ⟨fun x hx => by show a < x.addr; rw [← h2]; exact h'.1 x hx, h'.2⟩
      · rw [if_neg h2]
        have h3 : a < c.addr := by
          rw [UInt32.lt_iff_toNat_lt] at h1 ⊢
          have : c.addr.toNat ≠ a.toNat := fun e => h2 (UInt32.toNat_inj.1 e)
          omega
        refine List.pairwise_cons.2 ⟨fun x hx => ?_, h⟩
        rcases List.mem_cons.1 hx with rfl | hx
        · exact h3
        · have h4 := h'.1 x hx
          show a < x.addr
          rw [UInt32.lt_iff_toNat_lt] at h3 h4 ⊢
          omega
theorem td (a : UInt32) (b : UInt8) : ∀ cs : List CellV, (kS a b cs).length ≤ cs.length + 1
  | [] => Nat.le_refl _
  | c :: t => by
    have := td a b t
    unfold kS
    repeat' split
    all_goals simp only [List.length_cons]
    all_goals omega
theorem pw {a : UInt32} {b : UInt8} : ∀ (cs : List CellV) (k : Nat), k ≤ cs.length → (∀ j, j < k → (cs.getD j default).addr < a) → (k < cs.length → ¬ (cs.getD k default).addr < a) →
    kS a b cs = cs.take k ++ [⟨a, b⟩] ++ cs.drop (if k < cs.length ∧ (cs.getD k default).addr = a then k + 1 else k)
  | [], k, hk, _, _ => by
    have : k = 0 := by simpa using hk
    subst this; rfl
  | c :: t, 0, _, _, h => by
    have h0 : ¬ c.addr < a := h (Nat.zero_lt_succ _)
    unfold kS
    rw [if_neg h0]
    by_cases h2 : c.addr = a
    · rw [if_pos h2, if_pos ⟨Nat.zero_lt_succ _, h2⟩]; rfl
    · rw [if_neg h2, if_neg (fun q => h2 q.2)]; rfl
  | c :: t, k + 1, hk, hl, h => by
    have h0 : c.addr < a := hl 0 (Nat.zero_lt_succ _)
    unfold kS
    rw [if_pos h0, pw t k (by simpa using hk) (fun j hj => by have := hl (j + 1) (by omega); simpa using this) (fun q => by have := h (by simpa using q); simpa using this)]
    simp only [List.take_succ_cons, List.cons_append, List.length_cons, List.getD_cons_succ, Nat.add_lt_add_iff_right]
    congr 2
    by_cases q : k < t.length ∧ (t.getD k default).addr = a
    · rw [if_pos q, if_pos q]; rfl
    · rw [if_neg q, if_neg q]; rfl
theorem pX {cs : List CellV} {a : UInt32} {k : Nat} (hk : k < cs.length) : dz (cs.drop k) a = if (cs.getD k default).addr = a then some (cs.getD k default).b else dz (cs.drop (k + 1)) a := by
  rw [drop_cons hk]; rfl
theorem rm {a : UInt32} {x : UInt8} : ∀ {cs : List CellV}, dz cs a = some x → (⟨a, x⟩ : CellV) ∈ cs
  | [], h => by cases h
  | c :: t, h => by
    have h' : (if c.addr = a then some c.b else dz t a) = some x := h
    split at h'
    · rename_i e
      obtain ⟨ca, cb⟩ := c
      cases h'
      subst e
      exact .head _
    · exact .tail _ (rm h')
theorem tP {c : CellV} : ∀ {cs : List CellV}, ny cs → c ∈ cs → dz cs c.addr = some c.b
  | d :: t, hs, h => by
    have hs' := List.pairwise_cons.1 hs
    show (if d.addr = c.addr then some d.b else dz t c.addr) = _
    rcases List.mem_cons.1 h with rfl | h
    · rw [if_pos rfl]
    · have h1 := hs'.1 c h
      rw [if_neg (fun e => by rw [e] at h1; exact absurd h1 (UInt32.lt_irrefl _))]
      exact tP hs'.2 h
def fr (cs : List CellV) (a n : UInt32) : Nat → List CellV
  | 0 => cs
  | k + 1 => kS (a + UInt32.ofNat k) (fP n (8 * k)).toUInt8 (fr cs a n k)
theorem kb (cs : List CellV) (a n : UInt32) : ∀ k, dz (fr cs a n k) = mL (dz cs) a n k
  | 0 => rfl
  | k + 1 => by
    show dz (kS _ _ _) = wq (mL (dz cs) a n k) _ _
    rw [qV, kb cs a n k]
theorem i6 {cs : List CellV} (h : ny cs) (a n : UInt32) : ∀ k, ny (fr cs a n k)
  | 0 => h
  | k + 1 => og (i6 h a n k)
theorem j4 (cs : List CellV) (a n : UInt32) : ∀ k, (fr cs a n k).length ≤ cs.length + k
  | 0 => Nat.le_refl _
  | k + 1 => by
    have h1 := j4 cs a n k
    have h2 := td (a + UInt32.ofNat k) (fP n (8 * k)).toUInt8 (fr cs a n k)
    show (kS _ _ _).length ≤ _
    omega
def ki (l : List SecV) (cs : List CellV) : List UInt32 := (cs.filter (fun c => decide (c.b ≠ i9 l c.addr))).map CellV.addr
theorem tO (l : List SecV) (cs : List CellV) : (ki l cs).length ≤ cs.length := by
  unfold ki
  rw [List.length_map]; exact List.length_filter_le _ _
theorem ri {l : List SecV} {cs : List CellV} {k : Nat} (h : k < cs.length) : ki l (cs.take (k + 1)) = ki l (cs.take k) ++ (if (cs.getD k default).b ≠ i9 l (cs.getD k default).addr then [(cs.getD k default).addr] else []) := by
  rw [g9 h]
  unfold ki
  rw [List.filter_append, List.map_append]
  congr 1
  by_cases q : (cs.getD k default).b ≠ i9 l (cs.getD k default).addr
  · rw [if_pos q, List.filter_cons, if_pos (decide_eq_true q)]; rfl
  · rw [if_neg q, List.filter_cons, if_neg (by simpa using q)]; rfl
theorem AB {l : List SecV} {cs : List CellV} (h : ny cs) : IsChg l (dz cs) (ki l cs) := by
  constructor
  · unfold ki
    rw [List.pairwise_map]
    exact (List.Pairwise.filter _ h)
  · intro a
    unfold ki
    simp only [List.mem_map, List.mem_filter, decide_eq_true_eq]
    constructor
    · rintro ⟨c, ⟨h1, h2⟩, rfl⟩
      exact ⟨c.b, tP h h1, h2⟩
    · rintro ⟨b, h1, h2⟩
      exact ⟨⟨a, b⟩, ⟨rm h1, h2⟩, rfl⟩
def fp (l : List SecV) (a : UInt32) : Int := if e7 a = true then (l.length : Int) else cR l a
theorem wY (a b : UInt32) : decide ((4294967296 : Int) ≤ (a.toNat : Int) + b.toNat) = decide (a + b < a) := by
  have h1 := a.toNat_lt
  have h2 := b.toNat_lt
  have h3 : (a + b).toNat = (a.toNat + b.toNat) % 4294967296 := UInt32.toNat_add a b
  rw [Bool.eq_iff_iff]
  simp only [decide_eq_true_eq, UInt32.lt_iff_toNat_lt]
  omega
theorem oL (a : UInt32) : lg a 0 = a := by
  rw [← UInt32.toNat_inj, iW]
  have := a.toNat_lt
  omega
theorem ky (a : UInt32) : fP a 0 = a := by
  rw [← UInt32.toNat_inj, ib]
  simp
theorem lJ (a : UInt32) (k : Nat) : lg a k * 2 = lg a (k + 1) := by
  rw [← UInt32.toNat_inj, UInt32.toNat_mul, iW, iW]
  have e : a.toNat * 2 ^ (k + 1) = a.toNat * 2 ^ k * 2 := by rw [Nat.pow_succ, Nat.mul_assoc]
  rw [e]
  show _ * 2 % 4294967296 = _
  omega
theorem lI (a : UInt32) (k : Nat) : fP a k / 2 = fP a (k + 1) := by
  rw [← UInt32.toNat_inj, UInt32.toNat_div, ib, ib, Nat.pow_succ, ← Nat.div_div_eq_div_mul]
  rfl
theorem kx (a : UInt32) (k : Nat) : fP a (8 * k) / 256 = fP a (8 * (k + 1)) := by
  rw [← UInt32.toNat_inj, UInt32.toNat_div, ib, ib, show 8 * (k + 1) = 8 * k + 8 by omega, Nat.pow_add, ← Nat.div_div_eq_div_mul]
  rfl
theorem wr8 (n : Int) : IntKind.i8.wrap n = if 128 ≤ n % 256 then n % 256 - 256 else n % 256 := by
  unfold IntKind.wrap; simp [IntKind.signed, IntKind.bits]
theorem Bw (n : Int) : IntKind.i16.wrap n = if 32768 ≤ n % 65536 then n % 65536 - 65536 else n % 65536 := by
  unfold IntKind.wrap; simp [IntKind.signed, IntKind.bits]
theorem BV (n : Int) : IntKind.i32.wrap n = if 2147483648 ≤ n % 4294967296 then n % 4294967296 - 4294967296 else n % 4294967296 := by
  unfold IntKind.wrap; simp [IntKind.signed, IntKind.bits]
theorem wrap32 (a : UInt32) : IntKind.i32.wrap a.toNat = if fG a = true then (a.toNat : Int) - 4294967296 else a.toNat := by
  have h := a.toNat_lt
  unfold fG
  simp only [UInt32.le_iff_toNat_le, decide_eq_true_eq]
  have e : (2147483648 : UInt32).toNat = 2147483648 := rfl
  rw [e, BV]
  split <;> split <;> omega
theorem ob (a : UInt32) : m5 a 0 = a := by
  unfold m5
  rw [← UInt32.toNat_inj]
  have h := a.toNat_lt
  have h2 := ji ((IntKind.i32.wrap a.toNat).fdiv (2 ^ 0))
  rw [show ((2 : Int) ^ 0) = 1 from rfl, Int.fdiv_one, wrap32] at h2 ⊢
  split at h2
  · rename_i q; rw [if_pos q]; omega
  · rename_i q; rw [if_neg q]; omega
def oD (a : UInt32) : UInt32 := if fG a = true then 2147483648 else 0
theorem jy (a : UInt32) (k : Nat) : m5 a k / 2 + oD a = m5 a (k + 1) := by
  unfold m5 oD
  rw [← UInt32.toNat_inj, UInt32.toNat_add, UInt32.toNat_div]
  have h := a.toNat_lt
  obtain ⟨A, hA⟩ : ∃ A, A = IntKind.i32.wrap a.toNat := ⟨_, rfl⟩
  have hA' := hA
  rw [wrap32] at hA'
  rw [← hA]
  have hp : (0 : Int) < 2 ^ k := Int.pow_pos (by decide)
  have e1 : A.fdiv (2 ^ (k + 1)) = (A.fdiv (2 ^ k)).fdiv 2 := by
    rw [Int.fdiv_eq_ediv_of_nonneg _ (Int.le_of_lt hp), Int.fdiv_eq_ediv_of_nonneg _ (show (0 : Int) ≤ 2 by decide), Int.fdiv_eq_ediv_of_nonneg _ (Int.le_of_lt (Int.pow_pos (show (0 : Int) < 2 by decide))), Int.pow_succ, Int.ediv_ediv_of_nonneg (Int.le_of_lt hp)]
  obtain ⟨q, hq⟩ : ∃ q, q = A.fdiv (2 ^ k) := ⟨_, rfl⟩
  have hq' := hq
  rw [Int.fdiv_eq_ediv_of_nonneg _ (Int.le_of_lt hp)] at hq'
  rw [e1, ← hq]
  have h1 := ji q
  have h2 := ji (q.fdiv 2)
  rw [Int.fdiv_eq_ediv_of_nonneg _ (by decide)] at h2 ⊢
  have hd := Int.mul_ediv_add_emod A (2 ^ k)
  have hm1 := Int.emod_nonneg A (Int.ne_of_gt hp)
  have hm2 := Int.emod_lt_of_pos A hp
  rw [← hq'] at hd
  show ((u32 q).toNat / 2 + _) % 4294967296 = _
  by_cases hs : fG a = true
  · rw [if_pos hs] at hA' ⊢
    have hn : 2147483648 ≤ a.toNat := by
      unfold fG at hs
      simpa [UInt32.le_iff_toNat_le] using hs
    have q1 : q < 0 := by
      rcases Int.lt_or_le q 0 with c | c
      · exact c
      · have := Int.mul_nonneg (Int.le_of_lt hp) c
        omega
    have q2 : -2147483648 ≤ q := by
      rcases Int.lt_or_le q (-2147483648) with c | c
      · exfalso
        have g1 : 2 ^ k * q ≤ 2 ^ k * (-2147483649) := Int.mul_le_mul_of_nonneg_left (by omega) (Int.le_of_lt hp)
        omega
      · exact c
    show ((u32 q).toNat / 2 + 2147483648) % 4294967296 = _
    omega
  · rw [if_neg hs] at hA' ⊢
    have hn : a.toNat < 2147483648 := by
      unfold fG at hs
      simpa [UInt32.le_iff_toNat_le] using hs
    have q1 : 0 ≤ q := by
      rcases Int.lt_or_le q 0 with c | c
      · exfalso
        have g1 : 2 ^ k * q ≤ 2 ^ k * (-1) := Int.mul_le_mul_of_nonneg_left (by omega) (Int.le_of_lt hp)
        omega
      · exact c
    have q2 : q ≤ A := by
      rcases Int.lt_or_le A q with c | c
      · exfalso
        have g1 : 1 * q ≤ 2 ^ k * q := Int.mul_le_mul_of_nonneg_right (by omega) q1
        omega
      · exact c
    show ((u32 q).toNat / 2 + 0) % 4294967296 = _
    omega
theorem BK {b : List UInt8} {k : Nat} (h : k < b.length) : 256 * leP (b.drop (k + 1)) + (b.getD k default).toUInt32 = leP (b.drop k) := by
  rw [drop_cons h]
  show _ = (b.getD k default).toUInt32 + 256 * leP (b.drop (k + 1))
  exact UInt32.add_comm _ _
theorem Al {a : UInt32} (h : 128 ≤ a % 256) : a % 256 - 256 = jJ a 1 := by
  rw [UInt32.le_iff_toNat_le] at h
  rw [← UInt32.toNat_inj]
  unfold jJ
  rw [if_pos rfl]
  have h2 := ji (IntKind.i8.wrap a.toNat)
  have e := wr8 a.toNat
  have hm : (a % 256).toNat = a.toNat % 256 := UInt32.toNat_mod a 256
  have e1 : (128 : UInt32).toNat = 128 := rfl
  rw [e1, hm] at h
  rw [if_pos (by omega)] at e
  rw [UInt32.toNat_sub, hm]
  have e2 : (256 : UInt32).toNat = 256 := rfl
  rw [e2]
  rw [e] at h2 ⊢
  omega
theorem Ak {a : UInt32} (h : ¬ 128 ≤ a % 256) : a % 256 = jJ a 1 := by
  rw [UInt32.le_iff_toNat_le] at h
  rw [← UInt32.toNat_inj]
  unfold jJ
  rw [if_pos rfl]
  have h2 := ji (IntKind.i8.wrap a.toNat)
  have e := wr8 a.toNat
  have hm : (a % 256).toNat = a.toNat % 256 := UInt32.toNat_mod a 256
  have e1 : (128 : UInt32).toNat = 128 := rfl
  rw [e1, hm] at h
  rw [if_neg (by omega)] at e
  rw [hm]
  rw [e] at h2 ⊢
  omega
theorem Aj {a : UInt32} (h : 32768 ≤ a % 65536) : a % 65536 - 65536 = jJ a 2 := by
  rw [UInt32.le_iff_toNat_le] at h
  rw [← UInt32.toNat_inj]
  unfold jJ
  rw [if_neg (by decide), if_pos rfl]
  have h2 := ji (IntKind.i16.wrap a.toNat)
  have e := Bw a.toNat
  have hm : (a % 65536).toNat = a.toNat % 65536 := UInt32.toNat_mod a 65536
  have e1 : (32768 : UInt32).toNat = 32768 := rfl
  rw [e1, hm] at h
  rw [if_pos (by omega)] at e
  rw [UInt32.toNat_sub, hm]
  have e2 : (65536 : UInt32).toNat = 65536 := rfl
  rw [e2]
  rw [e] at h2 ⊢
  omega
theorem Ai {a : UInt32} (h : ¬ 32768 ≤ a % 65536) : a % 65536 = jJ a 2 := by
  rw [UInt32.le_iff_toNat_le] at h
  rw [← UInt32.toNat_inj]
  unfold jJ
  rw [if_neg (by decide), if_pos rfl]
  have h2 := ji (IntKind.i16.wrap a.toNat)
  have e := Bw a.toNat
  have hm : (a % 65536).toNat = a.toNat % 65536 := UInt32.toNat_mod a 65536
  have e1 : (32768 : UInt32).toNat = 32768 := rfl
  rw [e1, hm] at h
  rw [if_neg (by omega)] at e
  rw [hm]
  rw [e] at h2 ⊢
  omega
theorem wP {a : UInt32} {n : Int} (h1 : n ≠ 1) (h2 : n ≠ 2) : jJ a n = a := by
  unfold jJ
  rw [if_neg h1, if_neg h2]
end Go.HL
namespace Go.Proofs.YtpeaodkfbjenpaaGreat
open Go Go.HL Go.RowKit
theorem gX (a : UInt32) (w : World) :
  Calls Tryz.prog 148 #[.int .u32 a.toNat] w (fun e w' => e = .returned (.bool (fG a)) ∧ Ext w w') := by
 refine enter Tryz.func148 rfl Tryz.ntmps148 rfl ?_
 refine af (ab (zz0 (ac rfl) (ae (aa (af (ab (zz0 (ad rfl) (zz0 (mt (n := 2147483648) rfl rfl) ?_))))))))
 refine zz0 (ac rfl) (ae (aa (ao ?_)))
 refine aI Tryz.results148 rfl (fun w' hw => ?_)
 exact ⟨rfl, hw.below (Bg.le.refl _)⟩
theorem uq (a : UInt32) (w : World) :
  Calls Tryz.prog 131 #[.int .u32 a.toNat] w (fun e w' => e = .returned (.agg (gR.enc (uP a)).toArray) ∧ Ext w w') := by
 refine enter Tryz.func131 rfl Tryz.ntmps131 rfl ?_
 refine af (ab ?_)
 refine cZ dC rfl (fun b1 => ?_)
 refine ae (aa (af (ab (zz0 (ad rfl) (zz0 (gh (n := 0) rfl rfl) ?_)))))
 refine zz0 (ad rfl) (zz0 (aF rfl fB (fun w hw => gX a w)) ?_)
 refine zz0 (bE (vs := [(0, _), (1, _)]) rfl rfl (mb _ _)) ?_
 refine bA gR rfl rfl bG ?_
 refine ae (aa (ao ?_))
 refine fE Tryz.results131 rfl (by repeat constructor) dM bG (by rfl) (fun w' hw => ?_)
 exact ⟨rfl, hw.below (Bg.le.refl _)⟩
theorem xZ (a b : UInt32) (w : World) :
  Calls Tryz.prog 127 #[.int .u32 a.toNat, .int .u32 b.toNat] w (fun e w' => e = .returned (.tuple #[.int .u32 (a + b).toNat, .agg (gR.enc (tW a b)).toArray]) ∧ Ext w w') := by
 have ha := a.toNat_lt
 have hb := b.toNat_lt
 refine enter Tryz.func127 rfl Tryz.ntmps127 rfl ?_
 refine af (ab (zz0 (ac rfl) ?_))
 refine cZ dC rfl (fun b1 => ?_)
 refine ae (aa (af (ab (zz0 (ad rfl) (zz0 (ad rfl) (zz0 (cJ rfl rfl) ?_))))))
 refine zz0 (ac rfl) (ae (aa (af (ab (zz0 (ad rfl) (zz0 (gi rfl aT cL) (zz0 (ad rfl) (zz0 (gi rfl aT cL) (zz0 (nw rfl rfl (by omega)) ?_)))))))))
 refine zz0 (ac rfl) (ae (aa (af (ab (zz0 (ad rfl) (zz0 (ad rfl) (zz0 (gh (n := 0) rfl rfl) ?_)))))))
 refine zz0 (ad rfl) (zz0 (aF rfl fB (fun w hw => gX (a + b) w)) ?_)
 refine zz0 (ad rfl) (zz0 (dh rfl rfl) (zz0 (ad rfl) (zz0 (aF rfl fB (fun w hw => gX a w)) ?_)))
 refine zz0 (ad rfl) (zz0 (aF rfl fB (fun w hw => gX b w)) ?_)
 refine zz0 (mw rfl rfl eC) ?_
 refine zz0 (ad rfl) ?_
 apply bJ
 ·exact (rfl : _ = (6, 28, 34))
 ·exact rfl
 ·intro hT2; have hT2' := hT2
  try simp only [bs] at hT2'
  refine zz5 hT2 (ad rfl) (zz5 hT2 (aF rfl fB (fun w hw => gX (a + b) w)) ?_)
  refine zz5 hT2 (ad rfl) (zz5 hT2 (aF rfl fB (fun w hw => gX a w)) ?_)
  refine zz5 hT2 (iu rfl rfl eC) ?_
  refine zz0 (aL rfl hT2 rfl) ?_
  refine ae (aa ?_)
  exact av (Sub.cons rfl (zz8 6 rfl))
 ·intro hF2
  refine zz6 hF2 (zz6 hF2 (zz6 hF2 (zz6 hF2 (zz6 hF2 (zz0 (aK rfl hF2 rfl) ?_)))))
  refine ae (aa ?_)
  exact av (Sub.cons rfl (zz8 6 rfl))
 refine zz0 (bE (vs := [(0, _), (1, _), (2, _), (3, _)]) rfl rfl (jN _ _ _ _)) ?_
 refine zz0 (ac rfl) (bA gR rfl rfl bG ?_)
 refine ae (aa (ao ?_))
 refine mp Tryz.results127 rfl rfl (by repeat constructor) dM bG (by rfl) (fun w' hw => ?_)
 have hc := wY a b
 exact ⟨by first | rfl | (unfold tW; rw [← hc]; rfl) | (unfold tW; rw [← hc]; cases fG a <;> cases fG b <;> cases fG (a + b) <;> rfl), hw.below (Bg.le.refl _)⟩
theorem sP (a b : UInt32) (w : World) :
  Calls Tryz.prog 128 #[.int .u32 a.toNat, .int .u32 b.toNat] w (fun e w' => e = .returned (.tuple #[.int .u32 (a - b).toNat, .agg (gR.enc (o7 a b)).toArray]) ∧ Ext w w') := by
 refine enter Tryz.func128 rfl Tryz.ntmps128 rfl ?_
 refine af (ab (zz0 (ac rfl) ?_))
 refine cZ dC rfl (fun b1 => ?_)
 refine ae (aa (af (ab (zz0 (ad rfl) (zz0 (ad rfl) (zz0 (eW rfl rfl) ?_))))))
 refine zz0 (ac rfl) (ae (aa (af (ab (zz0 (ad rfl) (zz0 (ad rfl) (zz0 (gh (n := 0) rfl rfl) ?_)))))))
 refine zz0 (ad rfl) (zz0 (aF rfl fB (fun w hw => gX (a - b) w)) ?_)
 refine zz0 (ad rfl) (zz0 (ad rfl) (zz0 (gz rfl rfl) ?_))
 refine zz0 (ad rfl) (zz0 (aF rfl fB (fun w hw => gX a w)) ?_)
 refine zz0 (ad rfl) (zz0 (aF rfl fB (fun w hw => gX b w)) ?_)
 refine zz0 (iu rfl rfl eC) ?_
 refine zz0 (ad rfl) ?_
 apply bJ
 ·exact (rfl : _ = (6, 23, 29))
 ·exact rfl
 ·intro hT2; have hT2' := hT2
  try simp only [bs] at hT2'
  refine zz5 hT2 (ad rfl) (zz5 hT2 (aF rfl fB (fun w hw => gX (a - b) w)) ?_)
  refine zz5 hT2 (ad rfl) (zz5 hT2 (aF rfl fB (fun w hw => gX a w)) ?_)
  refine zz5 hT2 (iu rfl rfl eC) ?_
  refine zz0 (aL rfl hT2 rfl) ?_
  refine ae (aa ?_)
  exact av (Sub.cons rfl (zz8 6 rfl))
 ·intro hF2
  refine zz6 hF2 (zz6 hF2 (zz6 hF2 (zz6 hF2 (zz6 hF2 (zz0 (aK rfl hF2 rfl) ?_)))))
  refine ae (aa ?_)
  exact av (Sub.cons rfl (zz8 6 rfl))
 refine zz0 (bE (vs := [(0, _), (1, _), (2, _), (3, _)]) rfl rfl (jN _ _ _ _)) ?_
 refine zz0 (ac rfl) (bA gR rfl rfl bG ?_)
 refine ae (aa (ao ?_))
 refine mp Tryz.results128 rfl rfl (by repeat constructor) dM bG (by rfl) (fun w' hw => ?_)
 exact ⟨by first | rfl | (unfold o7; cases fG a <;> cases fG b <;> cases fG (a - b) <;> rfl), hw.below (Bg.le.refl _)⟩
theorem xJ (a b : UInt32) (w : World) :
  Calls Tryz.prog 149 #[.int .u32 a.toNat, .int .u32 b.toNat] w (fun e w' => e = .returned (.int .u32 (lg a (e8 b)).toNat) ∧ Ext w w') := by
 have hcl := cnt_lt b
 have hcn : (b % 32).toNat = e8 b := rfl
 refine enter Tryz.func149 rfl Tryz.ntmps149 rfl ?_
 refine af (ab (zz0 (ac rfl) (ae (aa (af (af (ab (zz0 (ac rfl) (ae (aa (aQ ?_)))))))))))
 refine cu (ι := Nat) (fun k => k ≤ e8 b) (fun _ => _) (fun k => []) (fun k => [(0, .int .u32 (lg a k).toNat), (5, .int .u32 (UInt32.ofNat k).toNat)]) (fun k => e8 b - k) 0 (Nat.zero_le _) (.cons (by first | rfl | exact am rfl (by omega) | exact am rfl (by rw [oL]) | exact am rfl (by rw [lJ]) | exact am rfl (by rw [show UInt32.ofNat k + 1 = UInt32.ofNat (k + 1) from by rw [← UInt32.toNat_inj]; simp only [UInt32.toNat_add, UInt32.toNat_ofNat', UInt32.toNat_one]; omega]) | exact am rfl (by simp) | exact aR rfl (by simp)) (.cons (by first | rfl | exact am rfl (by omega) | exact am rfl (by rw [oL]) | exact am rfl (by rw [lJ]) | exact am rfl (by rw [show UInt32.ofNat k + 1 = UInt32.ofNat (k + 1) from by rw [← UInt32.toNat_inj]; simp only [UInt32.toNat_add, UInt32.toNat_ofNat', UInt32.toNat_one]; omega]) | exact am rfl (by simp) | exact aR rfl (by simp)) Front.nil)) (by repeat' constructor) rfl (fun k hi m hm => ?_)
 replace hi : k ≤ e8 b := hi
 replace hm : m = e8 b - k := hm
 change Tr _ _ [] ([(0, .int .u32 (lg a k).toNat), (5, .int .u32 (UInt32.ofNat k).toNat)] ++ _) _
 have hk1 : k ≤ e8 b := hi
 have hkn : (UInt32.ofNat k).toNat = k := by rw [UInt32.toNat_ofNat']; omega
 refine af (af (ab (zz0 (ad rfl) (zz0 (ad rfl) (zz0 (ko (n := 32) rfl rfl (by first | decide | assumption)) ?_)))))
 refine zz0 (gz rfl rfl) ?_
 refine ae (aa ?_)
 refine ak rfl ?_ ?_ <;> intro h1 <;> try simp only [bs] at h1
 ·refine ax (aa (af (aQ (ab (zz0 (ad rfl) (zz0 (je (n := 2) rfl rfl) ?_))))))
  refine zz0 (ac rfl) (ae (ba (aa (ab (zz0 (ad rfl) (zz0 (cJ (n := 1) rfl rfl) ?_))))))
  refine zz0 (ac rfl) (ae (aa ?_))
  have hlt : k < e8 b := by rw [← hkn, ← hcn]; exact UInt32.lt_iff_toNat_lt.1 (by assumption)
  apply bT (k + 1)
  ·exact rfl
  ·exact (.cons (by first | rfl | exact am rfl (by omega) | exact am rfl (by rw [oL]) | exact am rfl (by rw [lJ]) | exact am rfl (by rw [show UInt32.ofNat k + 1 = UInt32.ofNat (k + 1) from by rw [← UInt32.toNat_inj]; simp only [UInt32.toNat_add, UInt32.toNat_ofNat', UInt32.toNat_one]; omega]) | exact am rfl (by simp) | exact aR rfl (by simp)) (.cons (by first | rfl | exact am rfl (by omega) | exact am rfl (by rw [oL]) | exact am rfl (by rw [lJ]) | exact am rfl (by rw [show UInt32.ofNat k + 1 = UInt32.ofNat (k + 1) from by rw [← UInt32.toNat_inj]; simp only [UInt32.toNat_add, UInt32.toNat_ofNat', UInt32.toNat_one]; omega]) | exact am rfl (by simp) | exact aR rfl (by simp)) Front.nil))
  ·exact bR 12 rfl
  ·exact (by repeat' constructor)
  ·exact (by show k + 1 ≤ _; omega)
  ·exact (by show e8 b - (k + 1) < m; omega)
 ·refine cj (aY (aY (bV (aa (af (ab (zz0 (ad rfl) (zz0 (ac rfl) (ae (aa (ao ?_)))))))))))
  refine aI Tryz.results149 rfl (fun w' hw => ?_)
  have hk2 : k = e8 b := by
   have q : ¬ k < e8 b := by rw [← hkn, ← hcn]; exact fun q => absurd (UInt32.lt_iff_toNat_lt.2 q) (by assumption)
   omega
  subst hk2
  exact ⟨rfl, hw.below (Bg.le.refl _)⟩
theorem xI (a b : UInt32) (w : World) :
  Calls Tryz.prog 150 #[.int .u32 a.toNat, .int .u32 b.toNat] w (fun e w' => e = .returned (.int .u32 (fP a (e8 b)).toNat) ∧ Ext w w') := by
 have hcl := cnt_lt b
 have hcn : (b % 32).toNat = e8 b := rfl
 refine enter Tryz.func150 rfl Tryz.ntmps150 rfl ?_
 refine af (ab (zz0 (ac rfl) (ae (aa (af (af (ab (zz0 (ac rfl) (ae (aa (aQ ?_)))))))))))
 refine cu (ι := Nat) (fun k => k ≤ e8 b) (fun _ => _) (fun k => []) (fun k => [(0, .int .u32 (fP a k).toNat), (5, .int .u32 (UInt32.ofNat k).toNat)]) (fun k => e8 b - k) 0 (Nat.zero_le _) (.cons (by first | rfl | exact am rfl (by omega) | exact am rfl (by rw [ky]) | exact am rfl (by rw [lI]) | exact am rfl (by rw [show UInt32.ofNat k + 1 = UInt32.ofNat (k + 1) from by rw [← UInt32.toNat_inj]; simp only [UInt32.toNat_add, UInt32.toNat_ofNat', UInt32.toNat_one]; omega]) | exact am rfl (by simp) | exact aR rfl (by simp)) (.cons (by first | rfl | exact am rfl (by omega) | exact am rfl (by rw [ky]) | exact am rfl (by rw [lI]) | exact am rfl (by rw [show UInt32.ofNat k + 1 = UInt32.ofNat (k + 1) from by rw [← UInt32.toNat_inj]; simp only [UInt32.toNat_add, UInt32.toNat_ofNat', UInt32.toNat_one]; omega]) | exact am rfl (by simp) | exact aR rfl (by simp)) Front.nil)) (by repeat' constructor) rfl (fun k hi m hm => ?_)
 replace hi : k ≤ e8 b := hi
 replace hm : m = e8 b - k := hm
 change Tr _ _ [] ([(0, .int .u32 (fP a k).toNat), (5, .int .u32 (UInt32.ofNat k).toNat)] ++ _) _
 have hk1 : k ≤ e8 b := hi
 have hkn : (UInt32.ofNat k).toNat = k := by rw [UInt32.toNat_ofNat']; omega
 refine af (af (ab (zz0 (ad rfl) (zz0 (ad rfl) (zz0 (ko (n := 32) rfl rfl (by first | decide | assumption)) ?_)))))
 refine zz0 (gz rfl rfl) ?_
 refine ae (aa ?_)
 refine ak rfl ?_ ?_ <;> intro h1 <;> try simp only [bs] at h1
 ·refine ax (aa (af (aQ (ab (zz0 (ad rfl) (zz0 (nt (n := 2) rfl rfl (by first | decide | assumption)) ?_))))))
  refine zz0 (ac rfl) (ae (ba (aa (ab (zz0 (ad rfl) (zz0 (cJ (n := 1) rfl rfl) ?_))))))
  refine zz0 (ac rfl) (ae (aa ?_))
  have hlt : k < e8 b := by rw [← hkn, ← hcn]; exact UInt32.lt_iff_toNat_lt.1 (by assumption)
  apply bT (k + 1)
  ·exact rfl
  ·exact (.cons (by first | rfl | exact am rfl (by omega) | exact am rfl (by rw [ky]) | exact am rfl (by rw [lI]) | exact am rfl (by rw [show UInt32.ofNat k + 1 = UInt32.ofNat (k + 1) from by rw [← UInt32.toNat_inj]; simp only [UInt32.toNat_add, UInt32.toNat_ofNat', UInt32.toNat_one]; omega]) | exact am rfl (by simp) | exact aR rfl (by simp)) (.cons (by first | rfl | exact am rfl (by omega) | exact am rfl (by rw [ky]) | exact am rfl (by rw [lI]) | exact am rfl (by rw [show UInt32.ofNat k + 1 = UInt32.ofNat (k + 1) from by rw [← UInt32.toNat_inj]; simp only [UInt32.toNat_add, UInt32.toNat_ofNat', UInt32.toNat_one]; omega]) | exact am rfl (by simp) | exact aR rfl (by simp)) Front.nil))
  ·exact bR 12 rfl
  ·exact (by repeat' constructor)
  ·exact (by show k + 1 ≤ _; omega)
  ·exact (by show e8 b - (k + 1) < m; omega)
 ·refine cj (aY (aY (bV (aa (af (ab (zz0 (ad rfl) (zz0 (ac rfl) (ae (aa (ao ?_)))))))))))
  refine aI Tryz.results150 rfl (fun w' hw => ?_)
  have hk2 : k = e8 b := by
   have q : ¬ k < e8 b := by rw [← hkn, ← hcn]; exact fun q => absurd (UInt32.lt_iff_toNat_lt.2 q) (by assumption)
   omega
  subst hk2
  exact ⟨rfl, hw.below (Bg.le.refl _)⟩
theorem xK (a b : UInt32) (w : World) :
  Calls Tryz.prog 151 #[.int .u32 a.toNat, .int .u32 b.toNat] w (fun e w' => e = .returned (.int .u32 (m5 a (e8 b)).toNat) ∧ Ext w w') := by
 have hcl := cnt_lt b
 have hcn : (b % 32).toNat = e8 b := rfl
 refine enter Tryz.func151 rfl Tryz.ntmps151 rfl ?_
 refine af (ab (zz0 (ac rfl) (ae (aa (af (ab (zz0 (ac rfl) (ae (aa (af (af (ab (zz0 (ad rfl) ?_)))))))))))))
 refine zz0 (aF rfl fB (fun w hw => gX a w)) ?_
 refine ae (aa ?_)
 refine ak rfl ?_ ?_ <;> intro h1 <;> try simp only [bs] at h1
 ·refine ab (zz0 (ac rfl) (ae (aa (af (af ?_)))))
  first | (have htop : oD a = 2147483648 := by unfold oD; rw [if_pos (by assumption)]) | (have htop : oD a = 0 := by unfold oD; rw [if_neg (by simp_all)])
  refine ab (zz0 (ac rfl) (ae (aa (aQ ?_))))
  refine cu (ι := Nat) (fun k => k ≤ e8 b) (fun _ => _) (fun k => []) (fun k => [(0, .int .u32 (m5 a k).toNat), (6, .int .u32 (UInt32.ofNat k).toNat)]) (fun k => e8 b - k) 0 (Nat.zero_le _) (.cons (by first | rfl | exact am rfl (by omega) | exact am rfl (by rw [ob]) | exact am rfl (by rw [jy]) | exact am rfl (by rw [show UInt32.ofNat k + 1 = UInt32.ofNat (k + 1) from by rw [← UInt32.toNat_inj]; simp only [UInt32.toNat_add, UInt32.toNat_ofNat', UInt32.toNat_one]; omega]) | exact am rfl (by simp) | exact aR rfl (by simp)) (.cons (by first | rfl | exact am rfl (by omega) | exact am rfl (by rw [ob]) | exact am rfl (by rw [jy]) | exact am rfl (by rw [show UInt32.ofNat k + 1 = UInt32.ofNat (k + 1) from by rw [← UInt32.toNat_inj]; simp only [UInt32.toNat_add, UInt32.toNat_ofNat', UInt32.toNat_one]; omega]) | exact am rfl (by simp) | exact aR rfl (by simp)) Front.nil)) (by repeat' constructor) rfl (fun k hi m hm => ?_)
  replace hi : k ≤ e8 b := hi
  replace hm : m = e8 b - k := hm
  change Tr _ _ [] ([(0, .int .u32 (m5 a k).toNat), (6, .int .u32 (UInt32.ofNat k).toNat)] ++ _) _
  have hk1 : k ≤ e8 b := hi
  have hkn : (UInt32.ofNat k).toNat = k := by rw [UInt32.toNat_ofNat']; omega
  refine af (af (ab (zz0 (ad rfl) (zz0 (ad rfl) (zz0 (ko (n := 32) rfl rfl (by first | decide | assumption)) ?_)))))
  refine zz0 (gz rfl rfl) ?_
  refine ae (aa ?_)
  refine ak rfl ?_ ?_ <;> intro h2 <;> try simp only [bs] at h2
  ·refine ax (aa (af (aQ (ab (zz0 (ad rfl) (zz0 (nt (n := 2) rfl rfl (by first | decide | assumption)) ?_))))))
   refine zz0 (ad rfl) (zz0 (cJ (n := oD a) rfl (by rw [htop]; rfl)) ?_)
   refine zz0 (ac rfl) (ae (ba (aa (ab (zz0 (ad rfl) (zz0 (cJ (n := 1) rfl rfl) ?_))))))
   refine zz0 (ac rfl) (ae (aa ?_))
   have hlt : k < e8 b := by rw [← hkn, ← hcn]; exact UInt32.lt_iff_toNat_lt.1 (by assumption)
   apply bT (k + 1)
   ·exact rfl
   ·exact (.cons (by first | rfl | exact am rfl (by omega) | exact am rfl (by rw [ob]) | exact am rfl (by rw [jy]) | exact am rfl (by rw [show UInt32.ofNat k + 1 = UInt32.ofNat (k + 1) from by rw [← UInt32.toNat_inj]; simp only [UInt32.toNat_add, UInt32.toNat_ofNat', UInt32.toNat_one]; omega]) | exact am rfl (by simp) | exact aR rfl (by simp)) (.cons (by first | rfl | exact am rfl (by omega) | exact am rfl (by rw [ob]) | exact am rfl (by rw [jy]) | exact am rfl (by rw [show UInt32.ofNat k + 1 = UInt32.ofNat (k + 1) from by rw [← UInt32.toNat_inj]; simp only [UInt32.toNat_add, UInt32.toNat_ofNat', UInt32.toNat_one]; omega]) | exact am rfl (by simp) | exact aR rfl (by simp)) Front.nil))
   ·exact bR 14 rfl
   ·exact (by repeat' constructor)
   ·exact (by show k + 1 ≤ _; omega)
   ·exact (by show e8 b - (k + 1) < m; omega)
  ·refine cj (aY (aY (bV (aa (af (ab (zz0 (ad rfl) (zz0 (ac rfl) (ae (aa (ao ?_)))))))))))
   refine aI Tryz.results151 rfl (fun w' hw => ?_)
   have hk2 : k = e8 b := by
    have q : ¬ k < e8 b := by rw [← hkn, ← hcn]; exact fun q => absurd (UInt32.lt_iff_toNat_lt.2 q) (by assumption)
    omega
   subst hk2
   exact ⟨rfl, hw.below (Bg.le.refl _)⟩
 ·refine ax (aa (af (af ?_)))
  first | (have htop : oD a = 2147483648 := by unfold oD; rw [if_pos (by assumption)]) | (have htop : oD a = 0 := by unfold oD; rw [if_neg (by simp_all)])
  refine ab (zz0 (ac rfl) (ae (aa (aQ ?_))))
  refine cu (ι := Nat) (fun k => k ≤ e8 b) (fun _ => _) (fun k => []) (fun k => [(0, .int .u32 (m5 a k).toNat), (6, .int .u32 (UInt32.ofNat k).toNat)]) (fun k => e8 b - k) 0 (Nat.zero_le _) (.cons (by first | rfl | exact am rfl (by omega) | exact am rfl (by rw [ob]) | exact am rfl (by rw [jy]) | exact am rfl (by rw [show UInt32.ofNat k + 1 = UInt32.ofNat (k + 1) from by rw [← UInt32.toNat_inj]; simp only [UInt32.toNat_add, UInt32.toNat_ofNat', UInt32.toNat_one]; omega]) | exact am rfl (by simp) | exact aR rfl (by simp)) (.cons (by first | rfl | exact am rfl (by omega) | exact am rfl (by rw [ob]) | exact am rfl (by rw [jy]) | exact am rfl (by rw [show UInt32.ofNat k + 1 = UInt32.ofNat (k + 1) from by rw [← UInt32.toNat_inj]; simp only [UInt32.toNat_add, UInt32.toNat_ofNat', UInt32.toNat_one]; omega]) | exact am rfl (by simp) | exact aR rfl (by simp)) Front.nil)) (by repeat' constructor) rfl (fun k hi m hm => ?_)
  replace hi : k ≤ e8 b := hi
  replace hm : m = e8 b - k := hm
  change Tr _ _ [] ([(0, .int .u32 (m5 a k).toNat), (6, .int .u32 (UInt32.ofNat k).toNat)] ++ _) _
  have hk1 : k ≤ e8 b := hi
  have hkn : (UInt32.ofNat k).toNat = k := by rw [UInt32.toNat_ofNat']; omega
  refine af (af (ab (zz0 (ad rfl) (zz0 (ad rfl) (zz0 (ko (n := 32) rfl rfl (by first | decide | assumption)) ?_)))))
  refine zz0 (gz rfl rfl) ?_
  refine ae (aa ?_)
  refine ak rfl ?_ ?_ <;> intro h3 <;> try simp only [bs] at h3
  ·refine ax (aa (af (aQ (ab (zz0 (ad rfl) (zz0 (nt (n := 2) rfl rfl (by first | decide | assumption)) ?_))))))
   refine zz0 (ad rfl) (zz0 (cJ (n := oD a) rfl (by rw [htop]; rfl)) ?_)
   refine zz0 (ac rfl) (ae (ba (aa (ab (zz0 (ad rfl) (zz0 (cJ (n := 1) rfl rfl) ?_))))))
   refine zz0 (ac rfl) (ae (aa ?_))
   have hlt : k < e8 b := by rw [← hkn, ← hcn]; exact UInt32.lt_iff_toNat_lt.1 (by assumption)
   apply bT (k + 1)
   ·exact rfl
   ·exact (.cons (by first | rfl | exact am rfl (by omega) | exact am rfl (by rw [ob]) | exact am rfl (by rw [jy]) | exact am rfl (by rw [show UInt32.ofNat k + 1 = UInt32.ofNat (k + 1) from by rw [← UInt32.toNat_inj]; simp only [UInt32.toNat_add, UInt32.toNat_ofNat', UInt32.toNat_one]; omega]) | exact am rfl (by simp) | exact aR rfl (by simp)) (.cons (by first | rfl | exact am rfl (by omega) | exact am rfl (by rw [ob]) | exact am rfl (by rw [jy]) | exact am rfl (by rw [show UInt32.ofNat k + 1 = UInt32.ofNat (k + 1) from by rw [← UInt32.toNat_inj]; simp only [UInt32.toNat_add, UInt32.toNat_ofNat', UInt32.toNat_one]; omega]) | exact am rfl (by simp) | exact aR rfl (by simp)) Front.nil))
   ·exact bR 14 rfl
   ·exact (by repeat' constructor)
   ·exact (by show k + 1 ≤ _; omega)
   ·exact (by show e8 b - (k + 1) < m; omega)
  ·refine cj (aY (aY (bV (aa (af (ab (zz0 (ad rfl) (zz0 (ac rfl) (ae (aa (ao ?_)))))))))))
   refine aI Tryz.results151 rfl (fun w' hw => ?_)
   have hk2 : k = e8 b := by
    have q : ¬ k < e8 b := by rw [← hkn, ← hcn]; exact fun q => absurd (UInt32.lt_iff_toNat_lt.2 q) (by assumption)
    omega
   subst hk2
   exact ⟨rfl, hw.below (Bg.le.refl _)⟩
theorem uo (a : UInt32) (n : Int) (w : World) :
  Calls Tryz.prog 153 #[.int .u32 a.toNat, .int .i64 n] w (fun e w' => e = .returned (.int .u32 (if n = 1 then a % 256 else if n = 2 then a % 65536 else a).toNat) ∧ Ext w w') := by
 refine enter Tryz.func153 rfl Tryz.ntmps153 rfl ?_
 refine af (ab (zz0 (ac rfl) (ae (aa (af (af (ab (zz0 (ad rfl) (ae (aa (aQ (af (ab ?_)))))))))))))
 refine zz0 (aN rfl rfl) (zz0 (ac rfl) (ae (aa ?_)))
 refine ak rfl ?_ ?_ <;> intro h1 <;> try simp only [bs] at h1
 ·refine af (ab (zz0 (ad rfl) (zz0 (ko (n := 256) rfl rfl (by first | decide | assumption)) ?_)))
  refine zz0 (ac rfl) (ae (aa (ao (bf (an ?_)))))
  refine aI kY rfl (fun w' hw => ?_)
  exact ⟨by rw [if_pos (by assumption)], hw.below (Bg.le.refl _)⟩
 ·refine af (ab (zz0 (aN rfl rfl) (zz0 (ac rfl) (ae (aa ?_)))))
  refine ak rfl ?_ ?_ <;> intro h2 <;> try simp only [bs] at h2
  ·refine af (ab (zz0 (ad rfl) (zz0 (ko (n := 65536) rfl rfl (by first | decide | assumption)) ?_)))
   refine zz0 (ac rfl) (ae (aa (ao (bf (an ?_)))))
   refine aI kY rfl (fun w' hw => ?_)
   exact ⟨by rw [if_neg (by assumption), if_pos (by assumption)], hw.below (Bg.le.refl _)⟩
  ·refine ax (ba (aa (af (ab (zz0 (ad rfl) (zz0 (ac rfl) (ae (aa (ao ?_)))))))))
   refine aI kY rfl (fun w' hw => ?_)
   exact ⟨by rw [if_neg (by assumption), if_neg (by assumption)], hw.below (Bg.le.refl _)⟩
theorem pm (cc : Int) (f : Flg) (w : World) :
  Calls Tryz.prog 97 #[.int .i64 cc, .agg (gR.enc f).toArray] w (fun e w' => e = .returned (.bool (d6 cc f)) ∧ Ext w w') := by
 refine enter Tryz.func97 rfl Tryz.ntmps97 rfl ?_
 refine af (ab ?_)
 refine cH rfl rfl rfl (fun b1 => ?_)
 refine zz0 (ac rfl) (ae (aa (af (af (ab (zz0 (ad rfl) (ae (aa (aQ (af (ab (zz0 (aN rfl rfl) (zz0 (ac rfl) ?_)))))))))))))
 refine ae (aa ?_)
 refine ak rfl ?_ ?_ <;> intro h2 <;> try simp only [bs] at h2
 ·refine af (ab (zz0 (ac rfl) (ae (aa (ao (bf (an ?_)))))))
  refine aI dB rfl (fun w' hw => ?_)
  exact ⟨by unfold d6; (repeat (first | rw [if_pos (by assumption)] | rw [if_neg (by assumption)])); try (cases f.z <;> cases f.n <;> cases f.c <;> cases f.v <;> rfl), hw.below (Bg.le.refl _)⟩
 ·refine af (ab (zz0 (aN rfl rfl) (zz0 (ac rfl) (ae (aa ?_)))))
  refine ak rfl ?_ ?_ <;> intro h3 <;> try simp only [bs] at h3
  ·refine af (ab (zz0 (zz3 (off := 0) (ft := 4) rfl bj rfl bv) ?_))
   refine zz0 (aM rfl bP) ?_
   refine zz0 (ac rfl) (ae (aa (ao (bf (an ?_)))))
   refine aI dB rfl (fun w' hw => ?_)
   exact ⟨by unfold d6; (repeat (first | rw [if_pos (by assumption)] | rw [if_neg (by assumption)])); try (cases f.z <;> cases f.n <;> cases f.c <;> cases f.v <;> rfl), hw.below (Bg.le.refl _)⟩
  ·refine af (ab (zz0 (aN rfl rfl) (zz0 (ac rfl) (ae (aa ?_)))))
   refine ak rfl ?_ ?_ <;> intro h4 <;> try simp only [bs] at h4
   ·refine af (ab (zz0 (zz3 (off := 0) (ft := 4) rfl bj rfl bv) ?_))
    refine zz0 (aM rfl bP) ?_
    refine zz0 (cp rfl) (zz0 (ac rfl) (ae (aa (ao (bf (an ?_))))))
    refine aI dB rfl (fun w' hw => ?_)
    exact ⟨by unfold d6; (repeat (first | rw [if_pos (by assumption)] | rw [if_neg (by assumption)])); try (cases f.z <;> cases f.n <;> cases f.c <;> cases f.v <;> rfl), hw.below (Bg.le.refl _)⟩
   ·refine af (ab (zz0 (aN rfl rfl) (zz0 (ac rfl) (ae (aa ?_)))))
    refine ak rfl ?_ ?_ <;> intro h5 <;> try simp only [bs] at h5
    ·refine af (ab (zz0 (zz3 (off := 1) (ft := 4) rfl bj rfl bv) ?_))
     refine zz0 (aM rfl bP) ?_
     refine zz0 (zz3 (off := 3) (ft := 4) rfl bj rfl bv) ?_
     refine zz0 (aM rfl bP) ?_
     refine zz0 (iu rfl rfl eC) ?_
     refine zz0 (ac rfl) (ae (aa (ao (bf (an ?_)))))
     refine aI dB rfl (fun w' hw => ?_)
     exact ⟨by unfold d6; (repeat (first | rw [if_pos (by assumption)] | rw [if_neg (by assumption)])); try (cases f.z <;> cases f.n <;> cases f.c <;> cases f.v <;> rfl), hw.below (Bg.le.refl _)⟩
    ·refine af (ab (zz0 (aN rfl rfl) (zz0 (ac rfl) (ae (aa ?_)))))
     refine ak rfl ?_ ?_ <;> intro h6 <;> try simp only [bs] at h6
     ·refine af (ab (zz0 (zz3 (off := 1) (ft := 4) rfl bj rfl bv) ?_))
      refine zz0 (aM rfl bP) ?_
      refine zz0 (zz3 (off := 3) (ft := 4) rfl bj rfl bv) ?_
      refine zz0 (aM rfl bP) ?_
      refine zz0 (mw rfl rfl eC) ?_
      refine zz0 (ac rfl) (ae (aa (ao (bf (an ?_)))))
      refine aI dB rfl (fun w' hw => ?_)
      exact ⟨by unfold d6; (repeat (first | rw [if_pos (by assumption)] | rw [if_neg (by assumption)])); try (cases f.z <;> cases f.n <;> cases f.c <;> cases f.v <;> rfl), hw.below (Bg.le.refl _)⟩
     ·refine af (ab (zz0 (aN rfl rfl) (zz0 (ac rfl) (ae (aa ?_)))))
      refine ak rfl ?_ ?_ <;> intro h7 <;> try simp only [bs] at h7
      ·refine af (ab (zz0 (zz3 (off := 0) (ft := 4) rfl bj rfl bv) ?_))
       refine zz0 (aM rfl bP) ?_
       refine zz0 (ad rfl) ?_
       apply dk
       ·exact (rfl : _ = (6, 35, 41))
       ·exact rfl
       ·intro hF8; have hF8' := hF8
        try simp only [bs] at hF8'
        refine zz5 hF8 (zz3 (off := 1) (ft := 4) rfl bj rfl bv) ?_
        refine zz5 hF8 (aM rfl bP) ?_
        refine zz5 hF8 (zz3 (off := 3) (ft := 4) rfl bj rfl bv) ?_
        refine zz5 hF8 (aM rfl bP) ?_
        refine zz5 hF8 (iu rfl rfl eC) ?_
        refine zz0 (aK rfl hF8 rfl) ?_
        refine ae (aa ?_)
        exact av (Sub.cons rfl (zz8 6 rfl))
       ·intro hT8
        refine zz6 hT8 (zz6 hT8 (zz6 hT8 (zz6 hT8 (zz6 hT8 (zz0 (aL rfl hT8 rfl) ?_)))))
        refine ae (aa ?_)
        exact av (Sub.cons rfl (zz8 6 rfl))
       refine zz0 (ac rfl) (ae (aa (ao (bf (an ?_)))))
       refine aI dB rfl (fun w' hw => ?_)
       exact ⟨by unfold d6; (repeat (first | rw [if_pos (by assumption)] | rw [if_neg (by assumption)])); try (cases f.z <;> cases f.n <;> cases f.c <;> cases f.v <;> rfl), hw.below (Bg.le.refl _)⟩
      ·refine af (ab (zz0 (aN rfl rfl) (zz0 (ac rfl) (ae (aa ?_)))))
       refine ak rfl ?_ ?_ <;> intro h9 <;> try simp only [bs] at h9
       ·refine af (ab (zz0 (zz3 (off := 0) (ft := 4) rfl bj rfl bv) ?_))
        refine zz0 (aM rfl bP) ?_
        refine zz0 (cp rfl) (zz0 (ad rfl) ?_)
        apply bJ
        ·exact (rfl : _ = (6, 47, 53))
        ·exact rfl
        ·intro hT10; have hT10' := hT10
         try simp only [bs] at hT10'
         refine zz5 hT10 (zz3 (off := 1) (ft := 4) rfl bj rfl bv) ?_
         refine zz5 hT10 (aM rfl bP) ?_
         refine zz5 hT10 (zz3 (off := 3) (ft := 4) rfl bj rfl bv) ?_
         refine zz5 hT10 (aM rfl bP) ?_
         refine zz5 hT10 (mw rfl rfl eC) ?_
         refine zz0 (aL rfl hT10 rfl) ?_
         refine ae (aa ?_)
         exact av (Sub.cons rfl (zz8 6 rfl))
        ·intro hF10
         refine zz6 hF10 (zz6 hF10 (zz6 hF10 (zz6 hF10 (zz6 hF10 (zz0 (aK rfl hF10 rfl) ?_)))))
         refine ae (aa ?_)
         exact av (Sub.cons rfl (zz8 6 rfl))
        refine zz0 (ac rfl) (ae (aa (ao (bf (an ?_)))))
        refine aI dB rfl (fun w' hw => ?_)
        exact ⟨by unfold d6; (repeat (first | rw [if_pos (by assumption)] | rw [if_neg (by assumption)])); try (cases f.z <;> cases f.n <;> cases f.c <;> cases f.v <;> rfl), hw.below (Bg.le.refl _)⟩
       ·refine af (ab (zz0 (aN rfl rfl) (zz0 (ac rfl) (ae (aa ?_)))))
        refine ak rfl ?_ ?_ <;> intro h11 <;> try simp only [bs] at h11
        ·refine af (ab (zz0 (zz3 (off := 2) (ft := 4) rfl bj rfl bv) ?_))
         refine zz0 (aM rfl bP) ?_
         refine zz0 (ac rfl) (ae (aa (ao (bf (an ?_)))))
         refine aI dB rfl (fun w' hw => ?_)
         exact ⟨by unfold d6; (repeat (first | rw [if_pos (by assumption)] | rw [if_neg (by assumption)])); try (cases f.z <;> cases f.n <;> cases f.c <;> cases f.v <;> rfl), hw.below (Bg.le.refl _)⟩
        ·refine af (ab (zz0 (aN rfl rfl) (zz0 (ac rfl) (ae (aa ?_)))))
         refine ak rfl ?_ ?_ <;> intro h12 <;> try simp only [bs] at h12
         ·refine af (ab (zz0 (zz3 (off := 2) (ft := 4) rfl bj rfl bv) ?_))
          refine zz0 (aM rfl bP) ?_
          refine zz0 (cp rfl) (zz0 (ac rfl) (ae (aa (ao (bf (an ?_))))))
          refine aI dB rfl (fun w' hw => ?_)
          exact ⟨by unfold d6; (repeat (first | rw [if_pos (by assumption)] | rw [if_neg (by assumption)])); try (cases f.z <;> cases f.n <;> cases f.c <;> cases f.v <;> rfl), hw.below (Bg.le.refl _)⟩
         ·refine af (ab (zz0 (aN rfl rfl) (zz0 (ac rfl) (ae (aa ?_)))))
          refine ak rfl ?_ ?_ <;> intro h13 <;> try simp only [bs] at h13
          ·refine af (ab (zz0 (zz3 (off := 2) (ft := 4) rfl bj rfl bv) ?_))
           refine zz0 (aM rfl bP) ?_
           refine zz0 (ad rfl) ?_
           apply dk
           ·exact (rfl : _ = (3, 67, 70))
           ·exact rfl
           ·intro hF14; have hF14' := hF14
            try simp only [bs] at hF14'
            refine zz5 hF14 (zz3 (off := 0) (ft := 4) rfl bj rfl bv) ?_
            refine zz5 hF14 (aM rfl bP) ?_
            refine zz0 (aK rfl hF14 rfl) ?_
            refine ae (aa ?_)
            exact av (Sub.cons rfl (zz8 3 rfl))
           ·intro hT14
            refine zz6 hT14 (zz6 hT14 (zz0 (aL rfl hT14 rfl) ?_))
            refine ae (aa ?_)
            exact av (Sub.cons rfl (zz8 3 rfl))
           refine zz0 (ac rfl) (ae (aa (ao (bf (an ?_)))))
           refine aI dB rfl (fun w' hw => ?_)
           exact ⟨by unfold d6; (repeat (first | rw [if_pos (by assumption)] | rw [if_neg (by assumption)])); try (cases f.z <;> cases f.n <;> cases f.c <;> cases f.v <;> rfl), hw.below (Bg.le.refl _)⟩
          ·refine af (ab (zz0 (aN rfl rfl) (zz0 (ac rfl) (ae (aa ?_)))))
           refine ak rfl ?_ ?_ <;> intro h15 <;> try simp only [bs] at h15
           ·refine af (ab (zz0 (zz3 (off := 2) (ft := 4) rfl bj rfl bv) ?_))
            refine zz0 (aM rfl bP) ?_
            refine zz0 (cp rfl) (zz0 (ad rfl) ?_)
            apply bJ
            ·exact (rfl : _ = (4, 76, 80))
            ·exact rfl
            ·intro hT16; have hT16' := hT16
             try simp only [bs] at hT16'
             refine zz5 hT16 (zz3 (off := 0) (ft := 4) rfl bj rfl bv) ?_
             refine zz5 hT16 (aM rfl bP) ?_
             refine zz5 hT16 (cp rfl) (zz0 (aL rfl hT16 rfl) ?_)
             refine ae (aa ?_)
             exact av (Sub.cons rfl (zz8 4 rfl))
            ·intro hF16
             refine zz6 hF16 (zz6 hF16 (zz6 hF16 (zz0 (aK rfl hF16 rfl) ?_)))
             refine ae (aa ?_)
             exact av (Sub.cons rfl (zz8 4 rfl))
            refine zz0 (ac rfl) (ae (aa (ao (bf (an ?_)))))
            refine aI dB rfl (fun w' hw => ?_)
            exact ⟨by unfold d6; (repeat (first | rw [if_pos (by assumption)] | rw [if_neg (by assumption)])); try (cases f.z <;> cases f.n <;> cases f.c <;> cases f.v <;> rfl), hw.below (Bg.le.refl _)⟩
           ·refine af (ab (zz0 (aN rfl rfl) (zz0 (ac rfl) (ae (aa ?_)))))
            refine ak rfl ?_ ?_ <;> intro h17 <;> try simp only [bs] at h17
            ·refine af (ab (zz0 (zz3 (off := 1) (ft := 4) rfl bj rfl bv) ?_))
             refine zz0 (aM rfl bP) ?_
             refine zz0 (ac rfl) (ae (aa (ao (bf (an ?_)))))
             refine aI dB rfl (fun w' hw => ?_)
             exact ⟨by unfold d6; (repeat (first | rw [if_pos (by assumption)] | rw [if_neg (by assumption)])); try (cases f.z <;> cases f.n <;> cases f.c <;> cases f.v <;> rfl), hw.below (Bg.le.refl _)⟩
            ·refine af (ab (zz0 (aN rfl rfl) (zz0 (ac rfl) (ae (aa ?_)))))
             refine ak rfl ?_ ?_ <;> intro h18 <;> try simp only [bs] at h18
             ·refine af (ab (zz0 (zz3 (off := 1) (ft := 4) rfl bj rfl bv) ?_))
              refine zz0 (aM rfl bP) ?_
              refine zz0 (cp rfl) (zz0 (ac rfl) (ae (aa (ao (bf (an ?_))))))
              refine aI dB rfl (fun w' hw => ?_)
              exact ⟨by unfold d6; (repeat (first | rw [if_pos (by assumption)] | rw [if_neg (by assumption)])); try (cases f.z <;> cases f.n <;> cases f.c <;> cases f.v <;> rfl), hw.below (Bg.le.refl _)⟩
             ·refine af (ab (zz0 (aN rfl rfl) (zz0 (ac rfl) (ae (aa ?_)))))
              refine ak rfl ?_ ?_ <;> intro h19 <;> try simp only [bs] at h19
              ·refine af (ab (zz0 (zz3 (off := 3) (ft := 4) rfl bj rfl bv) ?_))
               refine zz0 (aM rfl bP) ?_
               refine zz0 (ac rfl) (ae (aa (ao (bf (an ?_)))))
               refine aI dB rfl (fun w' hw => ?_)
               exact ⟨by unfold d6; (repeat (first | rw [if_pos (by assumption)] | rw [if_neg (by assumption)])); try (cases f.z <;> cases f.n <;> cases f.c <;> cases f.v <;> rfl), hw.below (Bg.le.refl _)⟩
              ·refine af (ab (zz0 (aN rfl rfl) (zz0 (ac rfl) (ae (aa ?_)))))
               refine ak rfl ?_ ?_ <;> intro h20 <;> try simp only [bs] at h20
               ·refine af (ab (zz0 (zz3 (off := 3) (ft := 4) rfl bj rfl bv) ?_))
                refine zz0 (aM rfl bP) ?_
                refine zz0 (cp rfl) (zz0 (ac rfl) (ae (aa (ao (bf (an ?_))))))
                refine aI dB rfl (fun w' hw => ?_)
                exact ⟨by unfold d6; (repeat (first | rw [if_pos (by assumption)] | rw [if_neg (by assumption)])); try (cases f.z <;> cases f.n <;> cases f.c <;> cases f.v <;> rfl), hw.below (Bg.le.refl _)⟩
               ·refine ax (ba (aa (af (ab (zz0 (ac rfl) (ae (aa (ao ?_))))))))
                refine aI dB rfl (fun w' hw => ?_)
                exact ⟨by unfold d6; (repeat (first | rw [if_pos (by assumption)] | rw [if_neg (by assumption)])); try (cases f.z <;> cases f.n <;> cases f.c <;> cases f.v <;> rfl), hw.below (Bg.le.refl _)⟩
theorem m6 (x : Bool) (w : World) :
  Calls Tryz.prog 152 #[.bool x] w (fun e w' => e = .returned (.int .u32 (jM x).toNat) ∧ Ext w w') := by
 refine enter Tryz.func152 rfl Tryz.ntmps152 rfl ?_
 refine af (ab (zz0 (ac rfl) (ae (aa (af (af (ab (zz0 (ad rfl) (ae (aa ?_))))))))))
 refine ak rfl ?_ ?_ <;> intro h1 <;> try simp only [bs] at h1
 ·refine af (ab (zz0 (ac rfl) (ae (aa (ao (an ?_))))))
  refine aI Tryz.results152 rfl (fun w' hw => ?_)
  exact ⟨by rw [show x = true by assumption]; rfl, hw.below (Bg.le.refl _)⟩
 ·refine ax (aa (af (ab (zz0 (ac rfl) (ae (aa (ao ?_)))))))
  refine aI Tryz.results152 rfl (fun w' hw => ?_)
  exact ⟨by rw [show x = false by simp_all]; rfl, hw.below (Bg.le.refl _)⟩
theorem sQ (a : UInt32) (n : Int) (w : World) :
  Calls Tryz.prog 134 #[.int .u32 a.toNat, .int .i64 n] w (fun e w' => e = .returned (.int .u32 (jJ a n).toNat) ∧ Ext w w') := by
 refine enter Tryz.func134 rfl Tryz.ntmps134 rfl ?_
 refine af (ab (zz0 (ac rfl) (ae (aa (af (ab (zz0 (ad rfl) (zz0 (ad rfl) (zz0 (aF rfl Tryz.call153 (fun w hw => uo a n w)) ?_)))))))))
 refine zz0 (ac rfl) (ae (aa (af (af (ab (zz0 (ad rfl) (zz0 (aN rfl rfl) (zz0 (ad rfl) ?_))))))))
 apply bJ
 ·exact (rfl : _ = (3, 11, 14))
 ·exact rfl
 ·intro hT1; have hT1' := hT1
  try simp only [bs] at hT1'
  refine zz5 hT1 (ad rfl) (zz5 hT1 (mt (n := 128) rfl rfl) ?_)
  refine zz0 (aL rfl hT1 rfl) ?_
  refine ae (aa ?_)
  exact av (Sub.cons rfl (zz8 3 rfl))
 ·intro hF1
  refine zz6 hF1 (zz6 hF1 (zz0 (aK rfl hF1 rfl) ?_))
  refine ae (aa ?_)
  exact av (Sub.cons rfl (zz8 3 rfl))
 refine ae (aa ?_)
 refine ak rfl ?_ ?_ <;> intro h2 <;> try simp only [bs] at h2
 ·refine af (ab (zz0 (ad rfl) (zz0 (eW (n := 256) rfl rfl) ?_)))
  refine zz0 (ac rfl) (ae (aa (ao (an ?_))))
  refine aI kZ rfl (fun w' hw => ?_)
  have hq : jJ a n = (if n = 1 then a % 256 else if n = 2 then a % 65536 else a) - 256 := by
   obtain rfl : n = 1 := by simp_all
   rw [if_pos rfl, Al (by simp_all)]
  exact ⟨by rw [hq], hw.below (Bg.le.refl _)⟩
 ·refine ax (aa (af (af (ab (zz0 (ad rfl) (zz0 (aN rfl rfl) (zz0 (ad rfl) ?_)))))))
  apply bJ
  ·exact (rfl : _ = (3, 19, 22))
  ·exact rfl
  ·intro hT3; have hT3' := hT3
   try simp only [bs] at hT3'
   refine zz5 hT3 (ad rfl) (zz5 hT3 (mt (n := 32768) rfl rfl) ?_)
   refine zz0 (aL rfl hT3 rfl) ?_
   refine ae (aa ?_)
   exact av (Sub.cons rfl (zz8 3 rfl))
  ·intro hF3
   refine zz6 hF3 (zz6 hF3 (zz0 (aK rfl hF3 rfl) ?_))
   refine ae (aa ?_)
   exact av (Sub.cons rfl (zz8 3 rfl))
  refine ae (aa ?_)
  refine ak rfl ?_ ?_ <;> intro h4 <;> try simp only [bs] at h4
  ·refine af (ab (zz0 (ad rfl) (zz0 (eW (n := 65536) rfl rfl) ?_)))
   refine zz0 (ac rfl) (ae (aa (ao (an ?_))))
   refine aI kZ rfl (fun w' hw => ?_)
   have hq : jJ a n = (if n = 1 then a % 256 else if n = 2 then a % 65536 else a) - 65536 := by
    obtain rfl : n = 2 := by simp_all
    rw [if_neg (by decide), if_pos rfl, Aj (by simp_all)]
   exact ⟨by rw [hq], hw.below (Bg.le.refl _)⟩
  ·refine ax (aa (af (ab (zz0 (ad rfl) (zz0 (ac rfl) (ae (aa (ao ?_))))))))
   refine aI kZ rfl (fun w' hw => ?_)
   have hq : jJ a n = (if n = 1 then a % 256 else if n = 2 then a % 65536 else a) := by
    by_cases q1 : n = 1
    ·subst q1; rw [if_pos rfl, Ak (by simp_all)]
    ·by_cases q2 : n = 2
     ·subst q2; rw [if_neg q1, if_pos rfl, Ai (by simp_all)]
     ·rw [if_neg q1, if_neg q2, wP q1 q2]
   exact ⟨by rw [hq], hw.below (Bg.le.refl _)⟩
theorem uv (op : Int) (a b : UInt32) (w : World) :
  Calls Tryz.prog 129 #[.int .i64 op, .int .u32 a.toNat, .int .u32 b.toNat] w (fun e w' => e = .returned (.tuple #[.int .u32 (kl op a b).1.toNat, .int .i64 (kl op a b).2]) ∧ Ext w w') := by
 refine enter Tryz.func129 rfl Tryz.ntmps129 rfl ?_
 refine af (ab (zz0 (ac rfl) (zz0 (ac rfl) (ae (aa (af (af (ab (zz0 (ad rfl) (ae (aa (aQ (af ?_)))))))))))))
 refine ab (zz0 (aN rfl rfl) (zz0 (ac rfl) (ae (aa ?_))))
 refine ak rfl ?_ ?_ <;> intro h1 <;> try simp only [bs] at h1
 ·refine af (ab (zz0 (ad rfl) (zz0 (ad rfl) (zz0 (cJ rfl rfl) ?_))))
  refine zz0 (ac rfl) (zz0 (ac rfl) (ae (aa (ao (bf (an ?_))))))
  refine cy dF rfl rfl (fun w' hw => ?_)
  exact ⟨by unfold kl; rw [if_neg (by omega)]; unfold jB; (repeat (first | rw [if_pos (by assumption)] | rw [if_neg (by assumption)])), hw.below (Bg.le.refl _)⟩
 ·refine af (ab (zz0 (aN rfl rfl) (zz0 (ac rfl) (ae (aa ?_)))))
  refine ak rfl ?_ ?_ <;> intro h2 <;> try simp only [bs] at h2
  ·refine af (ab (zz0 (ad rfl) (zz0 (ad rfl) (zz0 (eW rfl rfl) ?_))))
   refine zz0 (ac rfl) (zz0 (ac rfl) (ae (aa (ao (bf (an ?_))))))
   refine cy dF rfl rfl (fun w' hw => ?_)
   exact ⟨by unfold kl; rw [if_neg (by omega)]; unfold jB; (repeat (first | rw [if_pos (by assumption)] | rw [if_neg (by assumption)])), hw.below (Bg.le.refl _)⟩
  ·refine af (ab (zz0 (aN rfl rfl) (zz0 (ac rfl) (ae (aa ?_)))))
   refine ak rfl ?_ ?_ <;> intro h3 <;> try simp only [bs] at h3
   ·refine af (ab (zz0 (ad rfl) (zz0 (ad rfl) (zz0 (je rfl rfl) ?_))))
    refine zz0 (ac rfl) (zz0 (ac rfl) (ae (aa (ao (bf (an ?_))))))
    refine cy dF rfl rfl (fun w' hw => ?_)
    exact ⟨by unfold kl; rw [if_neg (by omega)]; unfold jB; (repeat (first | rw [if_pos (by assumption)] | rw [if_neg (by assumption)])), hw.below (Bg.le.refl _)⟩
   ·refine af (ab (zz0 (aN rfl rfl) (zz0 (ac rfl) (ae (aa ?_)))))
    refine ak rfl ?_ ?_ <;> intro h4 <;> try simp only [bs] at h4
    ·refine af (ab (zz0 (ad rfl) (zz0 (ad rfl) (zz0 (iO rfl rfl) ?_))))
     refine zz0 (ac rfl) (zz0 (ac rfl) (ae (aa (ao (bf (an ?_))))))
     refine cy dF rfl rfl (fun w' hw => ?_)
     exact ⟨by unfold kl; rw [if_neg (by omega)]; unfold jB; (repeat (first | rw [if_pos (by assumption)] | rw [if_neg (by assumption)])), hw.below (Bg.le.refl _)⟩
    ·refine af (ab (zz0 (aN rfl rfl) (zz0 (ac rfl) (ae (aa ?_)))))
     refine ak rfl ?_ ?_ <;> intro h5 <;> try simp only [bs] at h5
     ·refine af (ab (zz0 (ad rfl) (zz0 (ad rfl) (zz0 (oW rfl rfl) ?_))))
      refine zz0 (ac rfl) (zz0 (ac rfl) (ae (aa (ao (bf (an ?_))))))
      refine cy dF rfl rfl (fun w' hw => ?_)
      exact ⟨by unfold kl; rw [if_neg (by omega)]; unfold jB; (repeat (first | rw [if_pos (by assumption)] | rw [if_neg (by assumption)])), hw.below (Bg.le.refl _)⟩
     ·refine af (ab (zz0 (aN rfl rfl) (zz0 (ac rfl) (ae (aa ?_)))))
      refine ak rfl ?_ ?_ <;> intro h6 <;> try simp only [bs] at h6
      ·refine af (ab (zz0 (ad rfl) (zz0 (ad rfl) (zz0 (lz rfl rfl) ?_))))
       refine zz0 (ac rfl) (zz0 (ac rfl) (ae (aa (ao (bf (an ?_))))))
       refine cy dF rfl rfl (fun w' hw => ?_)
       exact ⟨by unfold kl; rw [if_neg (by omega)]; unfold jB; (repeat (first | rw [if_pos (by assumption)] | rw [if_neg (by assumption)])), hw.below (Bg.le.refl _)⟩
      ·refine af (ab (zz0 (aN rfl rfl) (zz0 (ac rfl) (ae (aa ?_)))))
       refine ak rfl ?_ ?_ <;> intro h7 <;> try simp only [bs] at h7
       ·refine af (ab (zz0 (ad rfl) (zz0 (ad rfl) (zz0 (aF rfl Tryz.call149 (fun w hw => xJ a b w)) ?_))))
        refine zz0 (ac rfl) (zz0 (ac rfl) (ae (aa (ao (bf (an ?_))))))
        refine cy dF rfl rfl (fun w' hw => ?_)
        exact ⟨by unfold kl; rw [if_neg (by omega)]; unfold jB; (repeat (first | rw [if_pos (by assumption)] | rw [if_neg (by assumption)])), hw.below (Bg.le.refl _)⟩
       ·refine af (ab (zz0 (aN rfl rfl) (zz0 (ac rfl) (ae (aa ?_)))))
        refine ak rfl ?_ ?_ <;> intro h8 <;> try simp only [bs] at h8
        ·refine af (ab (zz0 (ad rfl) (zz0 (ad rfl) (zz0 (aF rfl Tryz.call150 (fun w hw => xI a b w)) ?_))))
         refine zz0 (ac rfl) (zz0 (ac rfl) (ae (aa (ao (bf (an ?_))))))
         refine cy dF rfl rfl (fun w' hw => ?_)
         exact ⟨by unfold kl; rw [if_neg (by omega)]; unfold jB; (repeat (first | rw [if_pos (by assumption)] | rw [if_neg (by assumption)])), hw.below (Bg.le.refl _)⟩
        ·refine af (ab (zz0 (aN rfl rfl) (zz0 (ac rfl) (ae (aa ?_)))))
         refine ak rfl ?_ ?_ <;> intro h9 <;> try simp only [bs] at h9
         ·refine af (ab (zz0 (ad rfl) (zz0 (ad rfl) (zz0 (aF rfl Tryz.call151 (fun w hw => xK a b w)) ?_))))
          refine zz0 (ac rfl) (zz0 (ac rfl) (ae (aa (ao (bf (an ?_))))))
          refine cy dF rfl rfl (fun w' hw => ?_)
          exact ⟨by unfold kl; rw [if_neg (by omega)]; unfold jB; (repeat (first | rw [if_pos (by assumption)] | rw [if_neg (by assumption)])), hw.below (Bg.le.refl _)⟩
         ·refine af (ab (zz0 (aN rfl rfl) (zz0 (ac rfl) (ae (aa ?_)))))
          refine ak rfl ?_ ?_ <;> intro h10 <;> try simp only [bs] at h10
          ·refine af (ab (zz0 (ad rfl) (zz0 (ad rfl) (zz0 (gh rfl rfl) ?_))))
           refine zz0 (aF rfl lZ (fun w hw => m6 (decide (a = b)) w)) ?_
           refine zz0 (ac rfl) (zz0 (ac rfl) (ae (aa (ao (bf (an ?_))))))
           refine cy dF rfl rfl (fun w' hw => ?_)
           exact ⟨by unfold kl; rw [if_neg (by omega)]; unfold jB; (repeat (first | rw [if_pos (by assumption)] | rw [if_neg (by assumption)])), hw.below (Bg.le.refl _)⟩
          ·refine af (ab (zz0 (aN rfl rfl) (zz0 (ac rfl) (ae (aa ?_)))))
           refine ak rfl ?_ ?_ <;> intro h11 <;> try simp only [bs] at h11
           ·refine af (ab (zz0 (ad rfl) (zz0 (ad rfl) (zz0 (jF rfl rfl) ?_))))
            refine zz0 (aF rfl lZ (fun w hw => m6 (decide (a ≠ b)) w)) ?_
            refine zz0 (ac rfl) (zz0 (ac rfl) (ae (aa (ao (bf (an ?_))))))
            refine cy dF rfl rfl (fun w' hw => ?_)
            exact ⟨by unfold kl; rw [if_neg (by omega)]; unfold jB; (repeat (first | rw [if_pos (by assumption)] | rw [if_neg (by assumption)])), hw.below (Bg.le.refl _)⟩
           ·refine af (ab (zz0 (aN rfl rfl) (zz0 (ac rfl) (ae (aa ?_)))))
            refine ak rfl ?_ ?_ <;> intro h12 <;> try simp only [bs] at h12
            ·refine af (ab (zz0 (ad rfl) (zz0 (ju rfl aT f6) (zz0 (ad rfl) (zz0 (ju rfl aT f6) (zz0 (cI rfl rfl) (zz0 (aF rfl lZ (fun w hw => m6 (rT a b) w)) ?_)))))))
             refine zz0 (ac rfl) (zz0 (ac rfl) (ae (aa (ao (bf (an ?_))))))
             refine cy dF rfl rfl (fun w' hw => ?_)
             exact ⟨by unfold kl; rw [if_neg (by omega)]; unfold jB; (repeat (first | rw [if_pos (by assumption)] | rw [if_neg (by assumption)])), hw.below (Bg.le.refl _)⟩
            ·refine af (ab (zz0 (aN rfl rfl) (zz0 (ac rfl) (ae (aa ?_)))))
             refine ak rfl ?_ ?_ <;> intro h13 <;> try simp only [bs] at h13
             ·refine af (ab (zz0 (ad rfl) (zz0 (ad rfl) (zz0 (gz rfl rfl) ?_))))
              refine zz0 (aF rfl lZ (fun w hw => m6 (decide (a < b)) w)) ?_
              refine zz0 (ac rfl) (zz0 (ac rfl) (ae (aa (ao (bf (an ?_))))))
              refine cy dF rfl rfl (fun w' hw => ?_)
              exact ⟨by unfold kl; rw [if_neg (by omega)]; unfold jB; (repeat (first | rw [if_pos (by assumption)] | rw [if_neg (by assumption)])), hw.below (Bg.le.refl _)⟩
             ·refine ax (ba (aa (af (ab (zz0 (ac rfl) (zz0 (ac rfl) (ae (aa (ao ?_)))))))))
              refine cy dF rfl rfl (fun w' hw => ?_)
              exact ⟨by unfold kl; rw [if_pos (by omega)]; rfl, hw.below (Bg.le.refl _)⟩
end Go.Proofs.YtpeaodkfbjenpaaGreat
namespace Go.HL
open Go Go.RowKit
structure SV where
  a : Option Addr
  n : Nat
  c : Nat
abbrev SV.v (s : SV) : Value := .slice s.a s.n s.c
structure RP where
  l : SV
  c : SV
  i : SV
  o : SV
def fX (l c : SV) : List Value := [.bool true, .slice l.a l.n l.c, .slice c.a c.n c.c]
def ee (s : St) (x : RP) : List Value := nn.enc s.m ++ [.bool true, .slice x.l.a x.l.n x.l.c, .slice x.c.a x.c.n x.c.c, .slice x.i.a x.i.n x.i.c, .slice x.o.a x.o.n x.o.c, .bool s.done, .int .i64 s.err]
def cK (x : RP) : Enc St := ⟨20, fun s => ee s x, fun _ => rfl, fun s v h => by simp [ee, nn] at h; rcases h with h | h | h | h | h | h | h | h | h | h | h | h | h | h | h | h | h | h | h | h <;> subst h <;> rfl⟩
def ia (l : SV) : Enc SV := ⟨3, fun c => fX l c, fun _ => rfl, fun s v h => by simp [fX] at h; rcases h with h | h | h <;> subst h <;> rfl⟩
section
variable {s : St} {x : RP}
theorem i5 {k : Int} (hk : 0 ≤ k ∧ k < 8) {o : Nat} (ho : o = k.toNat) : (ee s x)[o]? = some (.int .u32 (s.m.reg k).toNat) := by
  subst ho
  unfold ee
  rw [List.getElem?_append_left (by show k.toNat < 13; omega)]
  exact s.m.reg_cell hk
theorem gY {k : Int} (hk : 0 ≤ k ∧ k < 8) {o : Nat} (ho : o = k.toNat) (y : UInt32) : splice (ee s x) o [.int .u32 y.toNat] = ee (s.setR k y) x := by
  subst ho
  exact s.m.set_cells hk y _
theorem lN (p : UInt32) : splice (ee s x) 8 [.int .u32 p.toNat] = ee (s.to p) x := rfl
theorem m9 (f : Flg) : splice (ee s x) 9 (gR.enc f) = ee (s.setF f) x := rfl
theorem pp (c : SV) : splice (ee s x) 13 (fX x.l c) = ee s { x with c := c } := rfl
theorem zP (i : SV) : splice (ee s x) 16 [.slice i.a i.n i.c] = ee s { x with i := i } := rfl
theorem xT (o : SV) : splice (ee s x) 17 [.slice o.a o.n o.c] = ee s { x with o := o } := rfl
theorem qT (b : Bool) : splice (ee s x) 18 [.bool b] = ee { s with done := b } x := rfl
theorem xU (e : Int) : splice (ee s x) 19 [.int .i64 e] = ee { s with err := e } x := rfl
theorem gZ : (ee s x).length = 20 := rfl
end
theorem jk {H : Hp} {w w' : World} : Hp.le (pG w w') (vis H w.heap.size (hp w')) := fun b o e => by
  unfold pG at e
  unfold vis
  split at e
  · cases e
  · rw [if_neg (by assumption)]; exact e
def wF : Hp := fun _ => none
theorem nc (H : Hp) : Hp.le wF H := fun b o e => by cases e
structure RefAt (h : Hp) (l : List SecV) (inp : List UInt32) (s : St) (cs : List CellV) (x : RP) : Prop where
  secs : Sl h cm l x.l.v
  data : DataIn h l
  cells : Sl h cQ cs x.c.v
  inp : Sl h aw (inp.drop s.read) x.i.v
  out : Sl h aw s.out x.o.v
  fn : dz cs = s.w
  srt : ny cs
theorem RefAt.mono {h h' : Hp} {l : List SecV} {inp : List UInt32} {s : St} {cs : List CellV} {x : RP} (r : RefAt h l inp s cs x) (hh : Hp.le h h') : RefAt h' l inp s cs x :=
  ⟨r.secs.mono hh, r.data.mono hh, r.cells.mono hh, r.inp.mono hh, r.out.mono hh, r.fn, r.srt⟩
theorem RefAt.with_ {h : Hp} {l : List SecV} {inp : List UInt32} {s t : St} {cs : List CellV} {x : RP} (r : RefAt h l inp s cs x) (h1 : t.read = s.read) (h2 : t.out = s.out) (h3 : t.w = s.w) : RefAt h l inp t cs x :=
  ⟨r.secs, r.data, r.cells, by rw [h1]; exact r.inp, by rw [h2]; exact r.out, by rw [h3]; exact r.fn, r.srt⟩
theorem RefAt.cell_ {h : Hp} {l : List SecV} {inp : List UInt32} {s t : St} {cs cs' : List CellV} {x : RP} {c : SV} (r : RefAt h l inp s cs x) (h1 : t.read = s.read) (h2 : t.out = s.out) (h3 : dz cs' = t.w) (h4 : ny cs') (h5 : Sl h cQ cs' c.v) : RefAt h l inp t cs' { x with c := c } :=
  ⟨r.secs, r.data, h5, by rw [h1]; exact r.inp, by rw [h2]; exact r.out, h3, h4⟩
theorem BB {α : Type} {h : Hp} {E : Enc α} {l : List α} {V : Value} (s : Sl h E l V) : ∃ x : SV, V = x.v ∧ x.n = l.length := by
  obtain ⟨a, c, e, _⟩ := s.shape
  exact ⟨⟨a, l.length, c⟩, e, rfl⟩
theorem Sl.len_v {α : Type} {h : Hp} {E : Enc α} {l : List α} {x : SV} (s : Sl h E l x.v) : x.n = l.length := by
  obtain ⟨a, c, e, _⟩ := s.shape
  exact (Value.slice.inj e).2.1
theorem Mach.set_to (m : Mach) (p y : UInt32) (k : Int) : (m.to p).set k y = (m.set k y).to p := by
  unfold Mach.set
  repeat' split
  all_goals rfl
theorem Mach.set_pc (m : Mach) (k : Int) (y : UInt32) : (m.set k y).pc = m.pc := by
  unfold Mach.set
  repeat' split
  all_goals rfl
theorem Mach.set_to_pc (m : Mach) (k : Int) (y : UInt32) : (m.set k y).to m.pc = m.set k y := by
  rw [← Mach.set_pc m k y]; rfl
section
variable {s : St} {i : Ins} {nx : UInt32}
theorem jj (h : i.op ≠ 1) : (s.setR i.a (gd s.m i).1).setF (gd s.m i).2 = fW s i s.m.pc := by
  show ({ s with m := { s.m.set i.a (gd s.m i).1 with f := (gd s.m i).2 } } : St) = _
  unfold fW
  rw [decide_eq_false h, ← Mach.set_pc s.m i.a (gd s.m i).1]
  rfl
theorem Bl (h : ¬ (i.op = 5 ∨ i.op = 6 ∨ i.op = 7 ∨ i.op = 15 ∨ i.op = 19 ∨ i.op = 25 ∨ (8 ≤ i.op ∧ i.op ≤ 14))) : gd s.m i = (s.m.reg i.a, s.m.f) := by
  unfold gd
  repeat rw [if_neg (by omega)]
theorem tg (h : ¬ (i.op = 5 ∨ i.op = 6 ∨ i.op = 7 ∨ i.op = 15 ∨ i.op = 19 ∨ i.op = 25 ∨ (8 ≤ i.op ∧ i.op ≤ 14))) : fW s i s.m.pc = { s with done := decide (i.op = 1) || s.done } := by
  unfold fW
  rw [Bl h]
  simp only [Mach.set_reg]
theorem Bi {l : List SecV} {inp : List UInt32} : (cS l inp (s.to nx) i nx).2 = (cS l inp s i nx).2 ∧ ((cS l inp s i nx).2 = 0 → (cS l inp (s.to nx) i nx).1 = (cS l inp s i nx).1) := by
  have r7 : (s.to nx).m.r7 = s.m.r7 := rfl
  have rw' : (s.to nx).w = s.w := rfl
  have rr : ∀ k, (s.to nx).m.reg k = s.m.reg k := fun k => rfl
  have rf : (s.to nx).m.f = s.m.f := rfl
  have rd : (s.to nx).read = s.read := rfl
  have ro : (s.to nx).out = s.out := rfl
  have rs : ∀ k y p, ((s.to nx).m.set k y).to p = (s.m.set k y).to p := fun k y p => by show ((s.m.to nx).set k y).to p = _; rw [Mach.set_to]; rfl
  have rs2 : ∀ k y k2 y2 p, (((s.to nx).m.set k y).set k2 y2).to p = ((s.m.set k y).set k2 y2).to p := fun k y k2 y2 p => by show (((s.m.to nx).set k y).set k2 y2).to p = _; rw [Mach.set_to, Mach.set_to]; rfl
  have rt : ∀ p, (s.to nx).m.to p = s.m.to p := fun p => rfl
  unfold cS
  split
  · unfold dX; rw [r7, rw', rr]; repeat' split
    all_goals first | exact ⟨rfl, fun _ => by simp only [rs, rs2]; rfl⟩ | exact ⟨rfl, fun q => absurd q (by assumption)⟩
  split
  · unfold dj; simp only [r7, rw', rr]; repeat' split
    all_goals first | exact ⟨rfl, fun _ => by simp only [rs, rs2, rt]; rfl⟩ | exact ⟨rfl, fun q => absurd q (by assumption)⟩
  split
  · unfold eF; simp only [r7, rw', rr, rf]; repeat' split
    all_goals first | exact ⟨rfl, fun _ => by simp only [rs, rs2, rt]; rfl⟩ | exact ⟨rfl, fun q => absurd q (by assumption)⟩
  split
  · unfold eY; simp only [r7, rw', rr, rf]; repeat' split
    all_goals first | exact ⟨rfl, fun _ => by simp only [rs, rs2, rt]; rfl⟩ | exact ⟨rfl, fun q => absurd q (by assumption)⟩
  split
  · unfold de; simp only [r7, rw', rr, rf, rd, ro]; repeat' split
    all_goals first | exact ⟨rfl, fun _ => by simp only [rs, rs2, rt]; rfl⟩ | exact ⟨rfl, fun q => by cases q⟩
  · refine ⟨rfl, fun _ => ?_⟩
    show fW (s.to nx) i nx = fW s i nx
    have ra : gd (s.to nx).m i = gd s.m i := rfl
    unfold fW
    rw [ra]
    show ({ s with m := { (s.m.to nx).set i.a (gd s.m i).1 with f := (gd s.m i).2, pc := nx }, done := _ } : St) = _
    rw [Mach.set_to]; rfl
end
section
variable {P : Program} {ops : Array Oper} {Q : Exit → Act → World → Prop} {N : Nat} {F F0 : Bg} {L L0 : List Ent} {M : Fr} {ty : TypeId} {pos : String} {after : Array Edge} {rest : List Oper} {d : Nat} {fuel : Nat} {listed : Array Bool} {op : Op}
theorem mq {v : Value} (hF : F0.le F) (i : Nat) (hi : ops[i]? = some ⟨some d, op, ty, pos, after, none⟩) (hB : takeB ops listed i = true) (hQ : ∀ c a d v w, Q (.panic c) (a.put d v) w → Q (.panic c) a w)
    (h : QS P N F0 L0 M ⟨some d, op, ty, pos, after, none⟩ v) (k : Tr N F L ((d, v) :: M) (wpAnyH P .any ops Q (HpOK F0 L0) fuel (listed.setIfInBounds i true)))
    (hp : jS op = true := by rfl) (hd : Nat.ble (d + 1) N = true := by rfl) (hL : Pick L L0 := by repeat' (first | exact Pick.nil _ | exact Del.here _ | apply Pick.cons | apply Del.there)) :
    Tr N F L M (wpAnyH P .any ops Q (HpOK F0 L0) (fuel + 1) listed) := by
  simp only [takeB, Bool.and_eq_true] at hB
  intro a w ha hw
  exact wpAnyH_take hi hB.1.1 hB.1.2 hB.2 (fun c a w => hQ c a _ _ w) (.inl ⟨by simp [Region.wanted], fun w' hw' => so h hp ha hw'⟩) (HpOK.weaken (hL.heap hw) hF) (k _ _ (ha.put (Nat.le_of_ble_eq_true hd)) hw)
theorem qa {X : Act → World → Prop} (hF : F0.le F) (k : Tr N F L M X) (hL : Pick L L0 := by repeat' (first | exact Pick.nil _ | exact Del.here _ | apply Pick.cons | apply Del.there)) : Tr N F L M (wpList P ops (Exit.then (fun a w => HpOK F0 L0 w ∧ X a w) Q) []) :=
  fun a w ha hw => ⟨HpOK.weaken (hL.heap hw) hF, k a w ha hw⟩
end
def iK (l : List SecV) (s : St) (y : UInt32) : St × Int :=
  if (bS l s.w (s.m.r7 - 4) 4 y).2 ≠ 0 then (s, (bS l s.w (s.m.r7 - 4) 4 y).2) else ({ s with w := (bS l s.w (s.m.r7 - 4) 4 y).1, m := s.m.set 7 (s.m.r7 - 4) }, 0)
def nH (l : List SecV) (s : St) : St × UInt32 × Int :=
  if (cP l s.w s.m.r7 4).2 ≠ 0 then (s, 0, (cP l s.w s.m.r7 4).2) else ({ s with m := s.m.set 7 (s.m.r7 + 4) }, (cP l s.w s.m.r7 4).1, 0)
section
variable {l : List SecV} {a : UInt32}
theorem kz : -1 ≤ fp l a ∧ fp l a ≤ l.length := by
  unfold fp
  have := g5 (l := l) (a := a)
  split <;> omega
theorem m7 : fp l a < 0 ↔ iJ l a = true := by
  unfold fp iJ
  split
  · rename_i h; simp [h]
  · rename_i h; simp [h]
theorem mg : fp l a = (l.length : Int) ↔ e7 a = true := by
  unfold fp
  have := g5 (l := l) (a := a)
  split
  · rename_i h; simp [h]
  · rename_i h; simp [h]; omega
theorem ic (h0 : ¬ fp l a < 0) (h1 : ¬ fp l a = (l.length : Int)) : e7 a = false ∧ fp l a = cR l a ∧ ¬ cR l a < 0 ∧ (cR l a).toNat < l.length := by
  have hs : ¬ e7 a = true := fun e => h1 (mg.2 e)
  have e : fp l a = cR l a := by unfold fp; rw [if_neg hs]
  have := g5 (l := l) (a := a)
  exact ⟨by simpa using hs, e, by omega, by omega⟩
theorem vF (h : fp l a < 0) : dS l a = 0 := by
  have h1 := m7.1 h
  unfold iJ at h1
  unfold dS
  simp only [Bool.and_eq_true, Bool.not_eq_true', decide_eq_true_eq] at h1
  rw [if_neg (by rw [h1.1]; simp), if_pos h1.2]
theorem xP (h : fp l a = (l.length : Int)) : dS l a = ((983040 - a).toNat : Int) := by
  have h1 := mg.1 h
  obtain ⟨h2, h3⟩ := ln.1 h1
  unfold dS
  rw [if_pos h1, UInt32.toNat_sub_of_le _ _ (UInt32.le_iff_toNat_le.2 (by show a.toNat ≤ 983040; omega))]
  show (983040 : Int) - a.toNat = ((983040 - a.toNat : Nat) : Int)
  omega
theorem xE (h0 : ¬ fp l a < 0) (h1 : ¬ fp l a = (l.length : Int)) : ((a - (ei l a).addr).toNat : Int) = (a.toNat : Int) - (ei l a).addr.toNat ∧ (a - (ei l a).addr).toNat < (ei l a).data.length := by
  obtain ⟨h2, h3, h4, h5⟩ := ic h0 h1
  have h6 := ye (l := l) (a := a) h4
  have h7 := jv.1 (ml (l := l) (a := a) (by omega))
  refine ⟨h6, ?_⟩
  have h8 : jK (l.getD (cR l a).toNat default) ≤ (l.getD (cR l a).toNat default).addr.toNat + (l.getD (cR l a).toNat default).data.length := by unfold jK; omega
  unfold ei at h6 ⊢
  omega
theorem xQ (h0 : ¬ fp l a < 0) (h1 : ¬ fp l a = (l.length : Int)) : dS l a = ((ei l a).data.length : Int) - ((a - (ei l a).addr).toNat : Int) := by
  obtain ⟨h2, h3, h4, h5⟩ := ic h0 h1
  have := (xE h0 h1).1
  unfold dS
  rw [if_neg (by rw [h2]; simp), if_neg h4]
  omega
theorem Ag (h : fp l a < 0 ∨ fp l a = (l.length : Int)) : i9 l a = 0 := by
  unfold i9
  rcases h with h | h
  · have h1 := m7.1 h
    unfold iJ at h1
    simp only [Bool.and_eq_true, Bool.not_eq_true', decide_eq_true_eq] at h1
    rw [if_pos (.inr h1.2)]
  · rw [if_pos (.inl (mg.1 h))]
theorem yD (h0 : ¬ fp l a < 0) (h1 : ¬ fp l a = (l.length : Int)) : i9 l a = (ei l a).data.getD (a - (ei l a).addr).toNat 0 := by
  obtain ⟨h2, h3, h4, h5⟩ := ic h0 h1
  unfold i9
  rw [if_neg (by rintro (q | q); · rw [h2] at q; cases q
                 · exact h4 q)]
theorem A0 (h : fp l a = (l.length : Int)) : wrA l a = true := by
  unfold wrA; rw [mg.1 h]; rfl
theorem xk (h0 : ¬ fp l a < 0) (h1 : ¬ fp l a = (l.length : Int)) : wrA l a = (ei l a).wr := by
  unfold wrA; rw [(ic h0 h1).1]; rfl
theorem Bc (h : fp l a = (l.length : Int)) : exA l a = false := by
  unfold exA; rw [mg.1 h]; rfl
theorem yN (h0 : ¬ fp l a < 0) (h1 : ¬ fp l a = (l.length : Int)) : exA l a = (ei l a).ex := by
  unfold exA; rw [(ic h0 h1).1]; rfl
theorem xR (h : 0 < dS l a) : ¬ fp l a < 0 := fun q => by rw [vF q] at h; omega
end
theorem BC {h : Hp} {l : List SecV} {a : UInt32} (d : DataIn h l) (h0 : ¬ cR l a < 0) : Sl h dJ (ei l a).data (.slice (ei l a).dp (ei l a).data.length (ei l a).dc) := by
  have := g5 (l := l) (a := a)
  exact d _ (fQ (by omega))
theorem Mach.set2_to_pc (m : Mach) (k j : Int) (y z : UInt32) : ((m.set k y).set j z).to m.pc = (m.set k y).set j z := by
  rw [← Mach.set_pc m k y, Mach.set_to_pc]
theorem Mach.set_f (m : Mach) (k : Int) (y : UInt32) : (m.set k y).f = m.f := by
  unfold Mach.set
  repeat' split
  all_goals rfl
theorem St.setF_same (s : St) (k : Int) (y : UInt32) : (s.setR k y).setF s.m.f = s.setR k y := by
  show ({ s with m := { s.m.set k y with f := s.m.f } } : St) = { s with m := s.m.set k y }
  rw [← Mach.set_f s.m k y]
theorem St.setR_same (s : St) (k : Int) : s.setR k (s.m.reg k) = s := by
  show ({ s with m := s.m.set k (s.m.reg k) } : St) = s
  rw [Mach.set_reg]
section
variable {s : St} {i : Ins}
theorem wx (h : i.op = 5) : fW s i s.m.pc = s.setR i.a (fL s.m i) := by
  rw [← jj (by omega)]
  unfold gd
  rw [if_pos h]
  exact St.setF_same _ _ _
theorem wC (h : i.op = 6) : fW s i s.m.pc = (s.setR i.a (s.m.reg i.a + fL s.m i)).setF (tW (s.m.reg i.a) (fL s.m i)) := by
  rw [← jj (by omega)]
  unfold gd
  rw [if_neg (by omega), if_pos h]
theorem wv (h : i.op = 7) : fW s i s.m.pc = (s.setR i.a (s.m.reg i.a - fL s.m i)).setF (o7 (s.m.reg i.a) (fL s.m i)) := by
  rw [← jj (by omega)]
  unfold gd
  rw [if_neg (by omega), if_neg (by omega), if_pos h]
theorem wA (h : i.op = 15) : fW s i s.m.pc = s.setF (o7 (s.m.reg i.a) (fL s.m i)) := by
  rw [← jj (by omega)]
  unfold gd
  rw [if_neg (by omega), if_neg (by omega), if_neg (by omega), if_pos h]
  show (s.setR i.a (s.m.reg i.a)).setF _ = _
  rw [St.setR_same]
theorem wB (h : 8 ≤ i.op ∧ i.op ≤ 14) : fW s i s.m.pc = (s.setR i.a (jB (gd.opX i.op) (s.m.reg i.a) (fL s.m i))).setF (uP (jB (gd.opX i.op) (s.m.reg i.a) (fL s.m i))) := by
  rw [← jj (by omega)]
  unfold gd
  rw [if_neg (by omega), if_neg (by omega), if_neg (by omega), if_neg (by omega), if_neg (by omega), if_neg (by omega), if_pos h]
theorem wy (h : i.op = 19) : fW s i s.m.pc = s.setR i.a (s.m.reg i.b + i.imm) := by
  rw [← jj (by omega)]
  unfold gd
  rw [if_neg (by omega), if_neg (by omega), if_neg (by omega), if_neg (by omega), if_pos h]
  exact St.setF_same _ _ _
theorem ww (h : i.op = 25) : fW s i s.m.pc = s.setR i.a (jM (d6 i.cc s.m.f)) := by
  rw [← jj (by omega)]
  unfold gd
  rw [if_neg (by omega), if_neg (by omega), if_neg (by omega), if_neg (by omega), if_neg (by omega), if_pos h]
  exact St.setF_same _ _ _
theorem kh {l : List SecV} {inp : List UInt32} {nx : UInt32} (h : ¬ (i.op = 3 ∨ i.op = 4 ∨ i.op = 16 ∨ i.op = 17 ∨ i.op = 18 ∨ i.op = 20 ∨ i.op = 21 ∨ i.op = 22 ∨ i.op = 23 ∨ i.op = 24 ∨ i.op = 2 ∨ i.op = 26 ∨ i.op = 27)) : cS l inp s i nx = (fW s i nx, 0) := by
  unfold cS
  repeat rw [if_neg (by omega)]
theorem vR {l : List SecV} {inp : List UInt32} {nx : UInt32} (h : (cS l inp s i nx).2 ≠ 0) : (cS l inp s i nx).1 = s := by
  unfold cS dX dj eF eY de at h ⊢
  repeat' split
  all_goals first | rfl | (exfalso; simp_all)
theorem yR {l : List SecV} {inp : List UInt32} (h : i.op = 3) : cS l inp s i s.m.pc = iK l s (s.m.reg i.a) := by
  unfold cS dX iK
  rw [if_pos (.inl h), if_pos h, Mach.set_to_pc]
theorem Au {l : List SecV} {inp : List UInt32} (h : i.op = 27) (h2 : s.out.length < 4096) : cS l inp s i s.m.pc = ({ s with out := s.out ++ [s.m.reg i.a] }, 0) := by
  unfold cS de
  repeat (first | rw [if_pos (by omega)] | rw [if_neg (by omega)])
  rfl
end
theorem qK {l : List SecV} {w : WrF} {a x : UInt32} {n : Int} (h : (bS l w a n x).2 = 0) : n = 1 ∨ n = 2 ∨ n = 4 := by
  unfold bS at h
  split at h
  · cases h
  · rename_i h1
    unfold jh at h1
    simp at h1
    omega
theorem o8 {l : List SecV} {w : WrF} {a x : UInt32} {n : Int} (h : (bS l w a n x).2 = 0) : (bS l w a n x).1 = mL w a x n.toNat := by
  unfold bS at h ⊢
  repeat' split
  all_goals first | rfl | (exfalso; simp_all)
theorem yc {l : List SecV} {s : St} (h : (nH l s).2.2 = 0) : (cP l s.w s.m.r7 4).2 = 0 ∧ nH l s = (s.setR 7 (s.m.r7 + 4), (cP l s.w s.m.r7 4).1, 0) := by
  unfold nH at h ⊢
  by_cases q : (cP l s.w s.m.r7 4).2 ≠ 0
  · rw [if_pos q] at h; exact absurd h q
  · rw [if_neg q]; exact ⟨by omega, rfl⟩
theorem yd {l : List SecV} {s : St} (h : (nH l s).2.2 ≠ 0) : (cP l s.w s.m.r7 4).2 ≠ 0 ∧ nH l s = (s, 0, (cP l s.w s.m.r7 4).2) := by
  unfold nH at h ⊢
  by_cases q : (cP l s.w s.m.r7 4).2 ≠ 0
  · rw [if_pos q]; exact ⟨q, rfl⟩
  · rw [if_neg q] at h; exact absurd rfl h
theorem zS {l : List SecV} {s : St} {y : UInt32} (h : (iK l s y).2 = 0) : (bS l s.w (s.m.r7 - 4) 4 y).2 = 0 ∧ iK l s y = ({ s with w := (bS l s.w (s.m.r7 - 4) 4 y).1, m := s.m.set 7 (s.m.r7 - 4) }, 0) := by
  unfold iK at h ⊢
  by_cases q : (bS l s.w (s.m.r7 - 4) 4 y).2 ≠ 0
  · rw [if_pos q] at h; exact absurd h q
  · rw [if_neg q]; exact ⟨by omega, rfl⟩
theorem zT {l : List SecV} {s : St} {y : UInt32} (h : (iK l s y).2 ≠ 0) : (bS l s.w (s.m.r7 - 4) 4 y).2 ≠ 0 ∧ iK l s y = (s, (bS l s.w (s.m.r7 - 4) 4 y).2) := by
  unfold iK at h ⊢
  by_cases q : (bS l s.w (s.m.r7 - 4) 4 y).2 ≠ 0
  · rw [if_pos q]; exact ⟨q, rfl⟩
  · rw [if_neg q] at h; exact absurd rfl h
theorem RefAt.next_ {h : Hp} {l : List SecV} {inp : List UInt32} {s : St} {cs : List CellV} {x : RP} (r : RefAt h l inp s cs x) (hr : s.read < inp.length) {k : Int} {y : UInt32} :
    RefAt h l inp { s.setR k y with read := s.read + 1 } cs { x with i := ⟨if x.i.c = 1 then x.i.a else x.i.a.map (·.add (1 * aw.k)), (inp.drop s.read).length - 1, x.i.c - 1⟩ } := by
  have hl : (inp.drop s.read).length = inp.length - s.read := List.length_drop
  have q := Sl.resl r.inp (l := 1) (h := (inp.drop s.read).length) (by omega) (Nat.le_refl _)
  rw [List.take_length, List.drop_drop] at q
  exact ⟨r.secs, r.data, r.cells, q, r.out, r.fn, r.srt⟩
theorem RefAt.out_ {h : Hp} {l : List SecV} {inp : List UInt32} {s : St} {cs : List CellV} {x : RP} (r : RefAt h l inp s cs x) {o : SV} {os : List UInt32} (ho : Sl h aw os o.v) :
    RefAt h l inp { s with out := os } cs { x with o := o } := ⟨r.secs, r.data, r.cells, r.inp, ho, r.fn, r.srt⟩
section
variable {P : Program} {N : Nat} {F : Bg} {L : List Ent} {M : Fr}
theorem tZ {fn : Func} {R : Ending → World → Prop} {t T : TypeId} {u s r : Tmp} {v v2 : Value} {b k : Nat} {cs : List Value} (hr : fn.results = #[.cell u t, .tmp s, .tmp r]) (hv : look M u = some (.pointer (some ⟨b, 0, none⟩))) (hs : look M s = some v) (hs2 : look M r = some v2) (hm : cellE b cs T ∈ L)
    (hagg : ∀ w, (isAgg t).run P w = .ok true w) (hz : ∀ w, (sizeOf t).run P w = .ok k w) (hl : cs.length = k) (h : ∀ w, HpOK F L w → R (.returned (.tuple #[.agg cs.toArray, v, v2])) w) (hD : look M mk0 = some undef := by rfl) :
    Tr N F L M (bodyPost P fn R .ret) := fun a w ha hw => ⟨ha.defers0 hD, _, by
      have h1 := ha.val u _ hv
      have h2 := ha.val s _ hs
      have h3 := ha.val r _ hs2
      rw [Array.getD_eq_getD_getElem?] at h1 h2 h3
      simp [results, hr, h1, h2, h3, asAddr, gC (hw.ent _ hm) hagg hz hl], h w hw⟩
theorem zh {fn : Func} {R : Ending → World → Prop} {t t' T T' : TypeId} {u s : Tmp} {b b' k k' : Nat} {cs cs' : List Value} (hr : fn.results = #[.cell u t, .cell s t']) (hv : look M u = some (.pointer (some ⟨b, 0, none⟩))) (hs : look M s = some (.pointer (some ⟨b', 0, none⟩))) (hm : cellE b cs T ∈ L) (hm' : cellE b' cs' T' ∈ L)
    (hagg : ∀ w, (isAgg t).run P w = .ok true w) (hz : ∀ w, (sizeOf t).run P w = .ok k w) (hl : cs.length = k) (hagg' : ∀ w, (isAgg t').run P w = .ok true w) (hz' : ∀ w, (sizeOf t').run P w = .ok k' w) (hl' : cs'.length = k') (h : ∀ w, HpOK F L w → R (.returned (.tuple #[.agg cs.toArray, .agg cs'.toArray])) w) (hD : look M mk0 = some undef := by rfl) :
    Tr N F L M (bodyPost P fn R .ret) := fun a w ha hw => ⟨ha.defers0 hD, _, by
      have h1 := ha.val u _ hv
      have h2 := ha.val s _ hs
      rw [Array.getD_eq_getD_getElem?] at h1 h2
      simp [results, hr, h1, h2, asAddr, gC (hw.ent _ hm) hagg hz hl, gC (hw.ent _ hm') hagg' hz' hl'], h w hw⟩
theorem rq {fn : Func} {R : Ending → World → Prop} {t t' T T' : TypeId} {u s r : Tmp} {v : Value} {b b' k k' : Nat} {cs cs' : List Value} (hr : fn.results = #[.cell u t, .tmp r, .cell s t']) (hv : look M u = some (.pointer (some ⟨b, 0, none⟩))) (hx : look M r = some v) (hs : look M s = some (.pointer (some ⟨b', 0, none⟩))) (hm : cellE b cs T ∈ L) (hm' : cellE b' cs' T' ∈ L)
    (hagg : ∀ w, (isAgg t).run P w = .ok true w) (hz : ∀ w, (sizeOf t).run P w = .ok k w) (hl : cs.length = k) (hagg' : ∀ w, (isAgg t').run P w = .ok true w) (hz' : ∀ w, (sizeOf t').run P w = .ok k' w) (hl' : cs'.length = k') (h : ∀ w, HpOK F L w → R (.returned (.tuple #[.agg cs.toArray, v, .agg cs'.toArray])) w) (hD : look M mk0 = some undef := by rfl) :
    Tr N F L M (bodyPost P fn R .ret) := fun a w ha hw => ⟨ha.defers0 hD, _, by
      have h1 := ha.val u _ hv
      have h2 := ha.val s _ hs
      have h3 := ha.val r _ hx
      rw [Array.getD_eq_getD_getElem?] at h1 h2 h3
      simp [results, hr, h1, h2, h3, asAddr, gC (hw.ent _ hm) hagg hz hl, gC (hw.ent _ hm') hagg' hz' hl'], h w hw⟩
end
section
variable {l k : List SecV} (hp : k.map SecV.pl = l.map SecV.pl)
include hp
theorem uA : k.length = l.length := by
  have := congrArg List.length hp
  simpa using this
theorem BG (n : Nat) (h : n < l.length) : (k.getD n default).pl = (l.getD n default).pl := by
  have e := congrArg (fun x => x[n]?) hp
  simp only [List.getElem?_map] at e
  rw [jA h, jA (by rw [uA hp]; exact h)] at e
  simpa using e
theorem oP (a : UInt32) : cR k a = cR l a := by
  unfold cR
  refine mX _ _ 0 (uA hp) (fun i x y hx hy => ?_)
  have e := congrArg (fun z => z[i]?) hp
  simp only [List.getElem?_map, hx, hy, Option.map_some, Option.some.injEq] at e
  have e1 : x.addr = y.addr := congrArg Sec.addr e
  have e2 : x.data = y.data := congrArg Sec.data e
  rw [Bool.eq_iff_iff, jv, jv]
  unfold jK
  rw [e1, e2]
theorem rL {a : UInt32} (h : ¬ cR l a < 0) : (ei k a).pl = (ei l a).pl := by
  unfold ei
  rw [oP hp]
  have := g5 (l := l) (a := a)
  exact BG hp _ (by omega)
theorem rN (a : UInt32) : dS k a = dS l a := by
  unfold dS
  rw [oP hp]
  split
  · rfl
  split
  · rfl
  · rename_i h
    have e := rL hp h
    have e1 : (ei k a).addr = (ei l a).addr := congrArg Sec.addr e
    have e2 : (ei k a).data = (ei l a).data := congrArg Sec.data e
    rw [e1, e2]
theorem vH (a : UInt32) : i9 k a = i9 l a := by
  unfold i9
  rw [oP hp]
  split
  · rfl
  · rename_i h
    have e := rL hp (fun q => h (.inr q))
    have e1 : (ei k a).addr = (ei l a).addr := congrArg Sec.addr e
    have e2 : (ei k a).data = (ei l a).data := congrArg Sec.data e
    rw [e1, e2]
theorem pB (w : WrF) : ∀ (n : Nat) (a : UInt32), dW k w a n = dW l w a n
  | 0, _ => rfl
  | n + 1, a => by
    unfold dW
    rw [pB w n (a + 1)]
    unfold mS
    rw [vH hp]
theorem vG (w : WrF) (a : UInt32) (n : Int) : cP k w a n = cP l w a n := by
  unfold cP
  rw [rN hp, pB hp]
theorem uG {a : UInt32} (h : ¬ dS l a < 1) : e7 a = true ∨ ¬ cR l a < 0 := by
  unfold dS at h
  by_cases h1 : e7 a = true
  · exact .inl h1
  · rw [if_neg h1] at h
    by_cases h2 : cR l a < 0
    · rw [if_pos h2] at h; omega
    · exact .inr h2
theorem BF {a : UInt32} (h : e7 a = true ∨ ¬ cR l a < 0) : wrA k a = wrA l a := by
  unfold wrA
  rcases h with h | h
  · rw [h]; rfl
  · have e1 : (ei k a).wr = (ei l a).wr := congrArg Sec.wr (rL hp h)
    rw [e1]
theorem yh (w : WrF) (a : UInt32) (n : Int) (x : UInt32) : bS k w a n x = bS l w a n x := by
  unfold bS
  rw [rN hp]
  split
  · rfl
  rename_i h1
  split
  · rfl
  rename_i h2
  have hn : 1 ≤ n := by
    unfold jh at h1
    simp at h1
    omega
  rw [BF hp (uG hp (fun q => h2 (by omega)))]
theorem yi (w : WrF) (a : UInt32) : dK k w a = dK l w a := by
  unfold dK
  have e1 : iJ k a = iJ l a := by unfold iJ; rw [oP hp]
  rw [e1]
  split
  · rfl
  rename_i h
  have e2 : exA k a = exA l a := by
    unfold exA
    by_cases hs : e7 a = true
    · rw [hs]; rfl
    · have hf : ¬ cR l a < 0 := fun q => h (by unfold iJ; simp [hs, q])
      have e3 : (ei k a).ex = (ei l a).ex := congrArg Sec.ex (rL hp hf)
      rw [e3]
  rw [e2, rN hp, pB hp]
theorem A6 (inp : List UInt32) (s : St) (i : Ins) (nx : UInt32) : cS k inp s i nx = cS l inp s i nx := by
  unfold cS dX dj eF eY
  simp only [vG hp, yh hp]
theorem zU (inp : List UInt32) (s : St) : stepS k inp s = stepS l inp s := by
  unfold stepS eN
  simp only [yi hp, A6 hp]
theorem rM (inp : List UInt32) : ∀ (n : Nat) (s : St), dl k inp n s = dl l inp n s ∧ cX k inp n s = cX l inp n s
  | 0, s => ⟨rfl, rfl⟩
  | n + 1, s => by
    unfold dl cX
    rw [zU hp, (rM inp n _).1, (rM inp n _).2]
    exact ⟨rfl, rfl⟩
theorem A7 (w : WrF) (xs : List UInt32) (h : IsChg k w xs) : IsChg l w xs :=
  ⟨h.1, fun a => by rw [h.2 a, vH hp]⟩
end
end Go.HL
namespace Go.Proofs.YtpeaodkfbjenpaaGreat
open Go Go.HL Go.RowKit
theorem q9 (r : Int) (w : World) :
  Calls Tryz.prog 93 #[.int .i64 r] w (fun e w' => e = .returned (.bool (jP r)) ∧ Ext w w') := by
 refine enter Tryz.func93 rfl Tryz.ntmps93 rfl ?_
 refine af (ab (zz0 (ac rfl) (ae (aa (af (ab (zz0 (ad rfl) (zz0 (dh rfl rfl) (zz0 (ad rfl) ?_)))))))))
 apply bJ
 ·exact (rfl : _ = (3, 5, 8))
 ·exact rfl
 ·intro hT1; have hT1' := hT1
  try simp only [bs] at hT1'
  refine zz5 hT1 (ad rfl) (zz5 hT1 (cI rfl rfl) (zz0 (aL rfl hT1 rfl) ?_))
  refine ae (aa ?_)
  exact av (Sub.cons rfl (zz8 3 rfl))
 ·intro hF1
  refine zz6 hF1 (zz6 hF1 (zz0 (aK rfl hF1 rfl) ?_))
  refine ae (aa ?_)
  exact av (Sub.cons rfl (zz8 3 rfl))
 refine zz0 (ac rfl) (ae (aa (ao ?_)))
 refine aI Tryz.results93 rfl (fun w' hw => ?_)
 exact ⟨rfl, hw.below (Bg.le.refl _)⟩
end Go.Proofs.YtpeaodkfbjenpaaGreat
