/- Own rules and walks, part 4. -/
import Derived.Test.YtpeaodkfbjenpaaGreatB3
set_option linter.unusedSimpArgs false
set_option linter.unusedVariables false
set_option linter.unusedSectionVars false
set_option maxRecDepth 100000
set_option maxHeartbeats 16000000
namespace Go.Proofs.YtpeaodkfbjenpaaGreat
open Go Go.HL Go.RowKit
def ou (op : Int) : Nat :=
 if op = 3 ∨ op = 4 then 84 else if op = 16 ∨ op = 17 ∨ op = 18 then 85 else if op = 20 ∨ op = 21 ∨ op = 22 then 86 else if op = 23 ∨ op = 24 ∨ op = 2 then 87 else if op = 26 ∨ op = 27 then 88 else 89
def mg (op : Int) : Value := .func (.func (ou op)) #[] #[]
theorem ki (s : St) (bc bM : Nat) (vi vo eff : Value) (w : World) (hc : CellsIn (hp w) bc (bJ s bM vi vo eff)) :
  Calls Tryz.prog 35 #[.pointer (some ⟨bc, 0, none⟩)] w (fun e w' => e = .returned (.bool true) ∧ Ext w w') := by
 have hc' : CellsIn (Bg.of w).blk bc (bJ s bM vi vo eff) := hc
 refine enter Tryz.func35 rfl Tryz.ntmps35 rfl ?_
 refine af (ab (zz0 (ad rfl) (ae (aa (af (ab (zz0 (ac rfl) (zz0 (qJ rfl rfl dT rfl) ?_))))))))
 refine zz0 (ac rfl) ?_
 apply bF
 ·exact (rfl : _ = (6, 5, 11))
 ·exact rfl
 ·intro hT1; have hT1' := hT1
  try simp only [bs] at hT1'
  refine zz5 hT1 (ac rfl) (zz5 hT1 (aH rfl) ?_)
  refine zz5 hT1 (zz3 (off := 13) (ft := 68) rfl aC rfl fp) ?_
  refine zz5 hT1 (fQ rfl (by assumption) fW (by rfl)) ?_
  refine zz5 hT1 (qJ rfl rfl fC rfl) ?_
  refine zz0 (aE rfl hT1 rfl) ?_
  refine ae (aa ?_)
  exact aw (Sub.cons rfl (zz7 6 rfl))
 ·intro hF1
  refine zz6 hF1 (zz6 hF1 (zz6 hF1 (zz6 hF1 (zz6 hF1 (zz0 (aF rfl hF1 rfl) ?_)))))
  refine ae (aa ?_)
  exact aw (Sub.cons rfl (zz7 6 rfl))
 refine zz0 (ad rfl) (ae (aa (ao ?_)))
 refine aI Tryz.results35 rfl (fun w' hw => ?_)
 exact ⟨rfl, hw.below (Bg.le.refl _)⟩
theorem uV (s : St) (bc bM : Nat) (vi vo eff : Value) (i : Ins) (w : World) (hc : CellsIn (hp w) bc (bJ s bM vi vo eff)) (hB : 0 ≤ i.b ∧ i.b < 8) :
  Calls Tryz.prog 118 #[.pointer (some ⟨bc, 0, none⟩), .agg (eC.enc i).toArray] w (fun e w' => e = .returned (.int .u32 (fP s.m i).toNat) ∧ Ext w w') := by
 have hc' : CellsIn (Bg.of w).blk bc (bJ s bM vi vo eff) := hc
 refine enter Tryz.func118 rfl Tryz.ntmps118 rfl ?_
 refine af (ab ?_)
 refine cM rfl rfl rfl (fun b1 => ?_)
 refine zz0 (ad rfl) (ae (aa (af (af (ab (zz0 (zz3 (off := 3) (ft := 3) rfl ag rfl aj) ?_))))))
 refine zz0 (aM rfl aD) ?_
 refine zz0 (aN rfl rfl) (ae (aa ?_))
 refine ak rfl ?_ ?_ <;> intro h2 <;> try simp only [bs] at h2
 ·refine af (bI ([cellE b1 (eC.enc i) 114]) 9 rfl aU ?_)
  refine zz2 0 rfl (ac rfl) ?_
  refine zz2 1 rfl (zz3 (off := 7) (ft := 3) rfl ag rfl aj) ?_
  refine zz2 2 rfl (aM rfl aD) ?_
  refine zz2 3 rfl (aH rfl) ?_
  refine zz2 4 rfl (zz3 (off := 0) (ft := 40) rfl aC rfl aP) ?_
  refine zz2 5 rfl (zz3 (off := 0) (ft := 36) rfl aA rfl bG) ?_
  refine zz2 6 rfl (fj rfl rfl aY ah) ?_
  refine eV 7 rfl (by kernel_rfl) (bA (bA bW)) (fQ rfl hc' az (im hB (by simp))) ?_
  refine zz2 8 rfl (ad rfl) ?_
  refine eh ?_
  refine aa (ao (an ?_))
  refine aI Tryz.results118 rfl (fun w' hw => ?_)
  exact ⟨by unfold fP; rw [if_pos (by assumption)], hw.below (Bg.le.refl _)⟩
 ·refine ax (aa (af (ab (zz0 (zz3 (off := 1) (ft := 23) rfl ag rfl ah) ?_))))
  refine zz0 (aM rfl az) ?_
  refine zz0 (ad rfl) (ae (aa (ao ?_)))
  refine aI Tryz.results118 rfl (fun w' hw => ?_)
  exact ⟨by unfold fP; rw [if_neg (by assumption)], hw.below (Bg.le.refl _)⟩
theorem iM (s : St) (bc bM : Nat) (vi vo eff : Value) (i : Ins) (w : World) (ho : OwnAt w [cellE bc (bJ s bM vi vo eff) 82]) (hI : InsOK i) :
  Calls Tryz.prog 115 #[.pointer (some ⟨bc, 0, none⟩), .agg (eC.enc i).toArray] w (fun e w' => ∃ _ : Unit, e = .returned (.tuple #[]) ∧ Upd 0 w w' (cg [cellE bc (bJ s bM vi vo eff) 82]) [cellE bc (bJ (s.to (cv i)) bM vi vo eff) 82] ∧ True) := by
 refine ik (L := [cellE bc (bJ s bM vi vo eff) 82]) ho rfl (Nat.zero_le _) Tryz.func115 rfl Tryz.ntmps115 rfl ?_
 refine af (ab ?_)
 refine cM rfl rfl rfl (fun b1 => ?_)
 refine ae (aa (ab (zz0 (ac rfl) (zz0 (bK rfl bo aL) ?_))))
 refine zz0 (aB rfl mo (fun w hw => nH i w hI)) ?_
 refine zz0 (aH rfl) ?_
 refine zz0 (zz3 (off := 0) (ft := 40) rfl aC rfl aP) ?_
 refine zz0 (zz3 (off := 8) (ft := 23) rfl aA rfl ah) ?_
 refine zz4 rfl rfl ah (kZ _) ?_
 refine ae ?_
 refine gj Tryz.results115 (fun w' hw => ?_)
 exact ⟨(), rfl, hw.upd (Bg.le.refl _) (by repeat' constructor), trivial⟩
theorem xj (s : St) (bc bM : Nat) (vi vo eff : Value) (i : Ins) (w : World) (ho : OwnAt w [cellE bc (bJ s bM vi vo eff) 82]) (hI : InsOK i) (hA : 0 ≤ i.a ∧ i.a < 8) (hB : 0 ≤ i.b ∧ i.b < 8) :
  Calls Tryz.prog 89 #[.pointer (some ⟨bc, 0, none⟩), .agg (eC.enc i).toArray] w (fun e w' => ∃ _ : Unit, e = .returned (.int .i64 0) ∧ Upd 0 w w' (cg [cellE bc (bJ s bM vi vo eff) 82]) [cellE bc (bJ (f6 s i (cv i)) bM vi vo eff) 82] ∧ True) := by
 refine ik (L := [cellE bc (bJ s bM vi vo eff) 82]) ho rfl (Nat.zero_le _) Tryz.func89 rfl Tryz.ntmps89 rfl ?_
 refine af (ab ?_)
 refine cM rfl rfl rfl (fun b1 => ?_)
 refine zz0 (ad rfl) (ae (aa (af (bI ([cellE bc (bJ s bM vi vo eff) 82, cellE b1 (eC.enc i) 114]) 13 rfl aU ?_))))
 refine zz2 0 rfl (ac rfl) ?_
 refine zz2 1 rfl (zz3 (off := 6) (ft := 3) rfl ag rfl aj) ?_
 refine zz2 2 rfl (aM rfl aD) ?_
 refine zz2 3 rfl (aH rfl) ?_
 refine zz2 4 rfl (zz3 (off := 0) (ft := 40) rfl aC rfl aP) ?_
 refine zz2 5 rfl (zz3 (off := 0) (ft := 36) rfl aA rfl bG) ?_
 refine zz2 6 rfl (fj rfl rfl aY ah) ?_
 refine eV 7 rfl (by kernel_rfl) (bA bW) (dZ rfl (by repeat constructor) az (im hA (by simp))) ?_
 refine zz2 8 rfl (ac rfl) ?_
 refine zz2 9 rfl (bK rfl bo aL) ?_
 refine zz9 [10] (fun iq hq => ?_)
 obtain rfl := List.mem_singleton.1 hq
 refine aX rfl ?_
 refine zz0 (aB rfl Tryz.call118 (fun w hw => uV s bc bM vi vo eff i w (cellE.cellsIn (hw.ent _ (by repeat constructor)) (Ext.refl _)) hB)) ?_
 refine bB ?_
 refine zz2 11 rfl (ad rfl) ?_
 refine zz2 12 rfl (ad rfl) ?_
 refine eh ?_
 refine aa (af (bI ([cellE bc (bJ s bM vi vo eff) 82, cellE b1 (eC.enc i) 114]) 9 rfl aU ?_))
 refine zz2 0 rfl (ac rfl) ?_
 refine zz2 1 rfl (ac rfl) ?_
 refine zz2 2 rfl (aH rfl) ?_
 refine zz2 3 rfl (zz3 (off := 0) (ft := 40) rfl aC rfl aP) ?_
 refine zz2 4 rfl (zz3 (off := 9) (ft := 38) rfl aA rfl bH) ?_
 refine eV 5 rfl (by kernel_rfl) (bA bW) (fg (vs := gU.enc s.m.f) rfl (by repeat constructor) dN bH rfl rfl) ?_
 refine zz9 [6] (fun iq hq => ?_)
 obtain rfl := List.mem_singleton.1 hq
 refine aX rfl ?_
 refine c9 dE rfl (fun b2 => ?_)
 refine bB ?_
 refine zz2 7 rfl (ad rfl) ?_
 refine zz9 [8] (fun iq hq => ?_)
 obtain rfl := List.mem_singleton.1 hq
 refine aX rfl ?_
 refine bw gU rfl rfl bH ?_
 refine bB ?_
 refine eh ?_
 refine aa ?_
 refine eJ (ι := UInt32 × Flg × Bool) (fun ⟨r, f, dn⟩ => r = (gg s.m i).1 ∧ f = (gg s.m i).2 ∧ dn = (decide (i.op = 1) || s.done)) (fun _ => (Bg.lessB w (cg [cellE bc (bJ s bM vi vo eff) 82]) 0)) (fun ⟨r, f, dn⟩ => [cellE b2 (gU.enc f) 38, cellE b1 (eC.enc i) 114, cellE bc (bJ { s with done := dn } bM vi vo eff) 82]) (fun ⟨r, f, dn⟩ => [(7, .int .u32 r.toNat)]) ?_ (fun i hi => ?_)
 ·skip
  refine af (ab (zz0 (zz3 (off := 2) (ft := 3) rfl ag rfl aj) ?_))
  refine zz0 (aM rfl aD) ?_
  refine ae (aa (aQ (af (ab (zz0 (aN rfl rfl) (zz0 (ad rfl) (ae (aa ?_))))))))
  refine ak rfl ?_ ?_ <;> intro h3 <;> try simp only [bs] at h3
  ·refine ab (zz0 (ac rfl) (zz0 (aH rfl) ?_))
   refine zz0 (zz3 (off := 17) (ft := 4) rfl aC rfl bv) ?_
   refine zz4 rfl rfl bv ((rfl : splice (bJ s bM vi vo eff) 17 [.bool true] = bJ { s with done := true } bM vi vo eff)) ?_
   refine ae (a9 (aa ?_))
   apply aZ (s.m.reg i.a, s.m.f, true)
   ·exact rfl
   ·exact (.cons (by first | rfl | exact am rfl (by omega) | exact am rfl (by rw [hh]; rfl) | exact am rfl (by simp) | exact aS rfl (by simp)) Front.nil)
   ·exact bQ 7 rfl
   ·exact (by repeat' constructor)
   ·exact ⟨by unfold gg; repeat (first | rw [if_pos (by omega)] | rw [if_neg (by omega)]), by unfold gg; repeat (first | rw [if_pos (by omega)] | rw [if_neg (by omega)]), by first | (rw [decide_eq_true (by omega)]; rfl) | (rw [decide_eq_false (by omega)]; rfl)⟩
  ·refine af (ab (zz0 (aN rfl rfl) (zz0 (ad rfl) (ae (aa ?_)))))
   refine ak rfl ?_ ?_ <;> intro h4 <;> try simp only [bs] at h4
   ·refine ab (zz0 (ac rfl) (zz0 (ad rfl) (ae (a9 (aa ?_)))))
    apply aZ (fP s.m i, s.m.f, s.done)
    ·exact rfl
    ·exact (.cons (by first | rfl | exact am rfl (by omega) | exact am rfl (by rw [hh]; rfl) | exact am rfl (by simp) | exact aS rfl (by simp)) Front.nil)
    ·exact bQ 8 rfl
    ·exact (by repeat' constructor)
    ·exact ⟨by unfold gg; repeat (first | rw [if_pos (by omega)] | rw [if_neg (by omega)]), by unfold gg; repeat (first | rw [if_pos (by omega)] | rw [if_neg (by omega)]), by first | (rw [decide_eq_true (by omega)]; rfl) | (rw [decide_eq_false (by omega)]; rfl)⟩
   ·refine af (ab (zz0 (aN rfl rfl) (zz0 (ad rfl) (ae (aa ?_)))))
    refine ak rfl ?_ ?_ <;> intro h5 <;> try simp only [bs] at h5
    ·refine ab (zz0 (ac rfl) (zz0 (ac rfl) (zz0 (aB rfl Tryz.call119 (fun w hw => zI (s.m.reg i.a) (fP s.m i) w)) ?_)))
     refine zz0 (ac rfl) (zz0 (ay rfl rfl) (zz0 (ay rfl rfl) (zz0 (ad rfl) (bw gU rfl rfl bH ?_))))
     refine ae (a9 (aa ?_))
     apply aZ (s.m.reg i.a + fP s.m i, uD (s.m.reg i.a) (fP s.m i), s.done)
     ·exact rfl
     ·exact (.cons (by first | rfl | exact am rfl (by omega) | exact am rfl (by rw [hh]; rfl) | exact am rfl (by simp) | exact aS rfl (by simp)) Front.nil)
     ·exact bQ 15 rfl
     ·exact (by repeat' constructor)
     ·exact ⟨by unfold gg; repeat (first | rw [if_pos (by omega)] | rw [if_neg (by omega)]), by unfold gg; repeat (first | rw [if_pos (by omega)] | rw [if_neg (by omega)]), by first | (rw [decide_eq_true (by omega)]; rfl) | (rw [decide_eq_false (by omega)]; rfl)⟩
    ·refine af (ab (zz0 (aN rfl rfl) (zz0 (ad rfl) (ae (aa ?_)))))
     refine ak rfl ?_ ?_ <;> intro h6 <;> try simp only [bs] at h6
     ·refine ab (zz0 (ac rfl) (zz0 (ac rfl) (zz0 (aB rfl Tryz.call120 (fun w hw => tc (s.m.reg i.a) (fP s.m i) w)) ?_)))
      refine zz0 (ac rfl) (zz0 (ay rfl rfl) (zz0 (ay rfl rfl) (zz0 (ad rfl) (bw gU rfl rfl bH ?_))))
      refine ae (a9 (aa ?_))
      apply aZ (s.m.reg i.a - fP s.m i, pI (s.m.reg i.a) (fP s.m i), s.done)
      ·exact rfl
      ·exact (.cons (by first | rfl | exact am rfl (by omega) | exact am rfl (by rw [hh]; rfl) | exact am rfl (by simp) | exact aS rfl (by simp)) Front.nil)
      ·exact bQ 17 rfl
      ·exact (by repeat' constructor)
      ·exact ⟨by unfold gg; repeat (first | rw [if_pos (by omega)] | rw [if_neg (by omega)]), by unfold gg; repeat (first | rw [if_pos (by omega)] | rw [if_neg (by omega)]), by first | (rw [decide_eq_true (by omega)]; rfl) | (rw [decide_eq_false (by omega)]; rfl)⟩
     ·refine af (ab (zz0 (aN rfl rfl) (zz0 (ad rfl) (ae (aa ?_)))))
      refine ak rfl ?_ ?_ <;> intro h7 <;> try simp only [bs] at h7
      ·refine ab (zz0 (ac rfl) (zz0 (ac rfl) (zz0 (aB rfl Tryz.call120 (fun w hw => tc (s.m.reg i.a) (fP s.m i) w)) ?_)))
       refine zz0 (ac rfl) (zz0 (ay rfl rfl) (zz0 (ay rfl rfl) (bw gU rfl rfl bH ?_)))
       refine ae (a9 (aa ?_))
       apply aZ (s.m.reg i.a, pI (s.m.reg i.a) (fP s.m i), s.done)
       ·exact rfl
       ·exact (.cons (by first | rfl | exact am rfl (by omega) | exact am rfl (by rw [hh]; rfl) | exact am rfl (by simp) | exact aS rfl (by simp)) Front.nil)
       ·exact bQ 18 rfl
       ·exact (by repeat' constructor)
       ·exact ⟨by unfold gg; repeat (first | rw [if_pos (by omega)] | rw [if_neg (by omega)]), by unfold gg; repeat (first | rw [if_pos (by omega)] | rw [if_neg (by omega)]), by first | (rw [decide_eq_true (by omega)]; rfl) | (rw [decide_eq_false (by omega)]; rfl)⟩
      ·refine af (ab (zz0 (aN rfl rfl) (zz0 (ad rfl) (ae (aa ?_)))))
       refine ak rfl ?_ ?_ <;> intro h8 <;> try simp only [bs] at h8
       ·refine bI ([cellE bc (bJ s bM vi vo eff) 82, cellE b1 (eC.enc i) 114]) 12 rfl aU ?_
        refine zz2 0 rfl (ac rfl) ?_
        refine zz2 1 rfl (zz3 (off := 7) (ft := 3) rfl ag rfl aj) ?_
        refine zz2 2 rfl (aM rfl aD) ?_
        refine zz2 3 rfl (aH rfl) ?_
        refine zz2 4 rfl (zz3 (off := 0) (ft := 40) rfl aC rfl aP) ?_
        refine zz2 5 rfl (zz3 (off := 0) (ft := 36) rfl aA rfl bG) ?_
        refine zz2 6 rfl (fj rfl rfl aY ah) ?_
        refine eV 7 rfl (by kernel_rfl) (dG (bA bW)) (dZ rfl (by repeat constructor) az (im hB (by simp))) ?_
        refine zz2 8 rfl (zz3 (off := 1) (ft := 23) rfl ag rfl ah) ?_
        refine zz2 9 rfl (aM rfl az) ?_
        refine zz2 10 rfl (cL rfl rfl) ?_
        refine zz2 11 rfl (ad rfl) ?_
        refine eh ?_
        refine a9 (aa ?_)
        apply aZ (s.m.reg i.b + i.imm, s.m.f, s.done)
        ·exact rfl
        ·exact (.cons (by first | rfl | exact am rfl (by omega) | exact am rfl (by rw [hh]; rfl) | exact am rfl (by simp) | exact aS rfl (by simp)) Front.nil)
        ·exact bQ 26 rfl
        ·exact (by repeat' constructor)
        ·exact ⟨by unfold gg; repeat (first | rw [if_pos (by omega)] | rw [if_neg (by omega)]), by unfold gg; repeat (first | rw [if_pos (by omega)] | rw [if_neg (by omega)]), by first | (rw [decide_eq_true (by omega)]; rfl) | (rw [decide_eq_false (by omega)]; rfl)⟩
       ·refine af (ab (zz0 (aN rfl rfl) (zz0 (ad rfl) (ae (aa ?_)))))
        refine ak rfl ?_ ?_ <;> intro h9 <;> try simp only [bs] at h9
        ·refine af (ab (zz0 (ad rfl) (ae (aa (af (ab (zz0 (zz3 (off := 5) (ft := 3) rfl ag rfl aj) ?_)))))))
         refine zz0 (aM rfl aD) ?_
         refine zz0 (bK rfl dN bH) ?_
         refine zz0 (aB rfl Tryz.call117 (fun w hw => qt i.cc s.m.f w)) ?_
         refine ae (aa ?_)
         refine ak rfl ?_ ?_ <;> intro h10 <;> try simp only [bs] at h10
         ·refine ab (zz0 (ad rfl) (ae (a9 (aa ?_))))
          have hh : em i.cc s.m.f = true := by assumption
          apply aZ (jY (em i.cc s.m.f), s.m.f, s.done)
          ·exact rfl
          ·exact (.cons (by first | rfl | exact am rfl (by omega) | exact am rfl (by rw [hh]; rfl) | exact am rfl (by simp) | exact aS rfl (by simp)) Front.nil)
          ·exact bQ 22 rfl
          ·exact (by repeat' constructor)
          ·exact ⟨by unfold gg; repeat (first | rw [if_pos (by omega)] | rw [if_neg (by omega)]), by unfold gg; repeat (first | rw [if_pos (by omega)] | rw [if_neg (by omega)]), by first | (rw [decide_eq_true (by omega)]; rfl) | (rw [decide_eq_false (by omega)]; rfl)⟩
         ·refine ax (a9 (aa ?_))
          have hh : em i.cc s.m.f = false := by simp_all
          apply aZ (jY (em i.cc s.m.f), s.m.f, s.done)
          ·exact rfl
          ·exact (.cons (by first | rfl | exact am rfl (by omega) | exact am rfl (by rw [hh]; rfl) | exact am rfl (by simp) | exact aS rfl (by simp)) Front.nil)
          ·exact bQ 21 rfl
          ·exact (by repeat' constructor)
          ·exact ⟨by unfold gg; repeat (first | rw [if_pos (by omega)] | rw [if_neg (by omega)]), by unfold gg; repeat (first | rw [if_pos (by omega)] | rw [if_neg (by omega)]), by first | (rw [decide_eq_true (by omega)]; rfl) | (rw [decide_eq_false (by omega)]; rfl)⟩
        ·refine af (af (ab (zz0 (aN rfl rfl) (zz0 (ad rfl) (ae (aa ?_))))))
         apply cI
         ·exact rfl
         ·intro hO11
          try simp only [bs] at hO11
          refine af (ab (zz0 (aN rfl rfl) (zz0 (ad rfl) (ae (aa ?_)))))
          apply cI
          ·exact rfl
          ·intro hO12
           try simp only [bs] at hO12
           refine af (ab (zz0 (aN rfl rfl) (zz0 (ad rfl) (ae (aa ?_)))))
           apply cI
           ·exact rfl
           ·intro hO13
            try simp only [bs] at hO13
            refine af (ab (zz0 (aN rfl rfl) (zz0 (ad rfl) (ae (aa ?_)))))
            apply cI
            ·exact rfl
            ·intro hO14
             try simp only [bs] at hO14
             refine af (ab (zz0 (aN rfl rfl) (zz0 (ad rfl) (ae (aa ?_)))))
             apply cI
             ·exact rfl
             ·intro hO15
              try simp only [bs] at hO15
              refine af (ab (zz0 (aN rfl rfl) (zz0 (ad rfl) (ae (aa ?_)))))
              apply cI
              ·exact rfl
              ·intro hO16
               try simp only [bs] at hO16
               refine ab (zz0 (aN rfl rfl) (zz0 (ad rfl) (ae (aa ?_))))
               exact cX rfl (bQ 2 rfl)
              refine aa ?_
              exact cX rfl (bQ 3 rfl)
             refine aa ?_
             exact cX rfl (bQ 3 rfl)
            refine aa ?_
            exact cX rfl (bQ 3 rfl)
           refine aa ?_
           exact cX rfl (bQ 3 rfl)
          refine aa ?_
          exact cX rfl (bQ 3 rfl)
         refine aa ?_
         refine ak rfl ?_ ?_ <;> intro h17 <;> try simp only [bs] at h17
         ·refine af (ab (zz0 (bE (vs := [(0, _), (1, _), (2, _), (3, _), (4, _), (5, _), (6, _)]) rfl rfl (kL _ _ _ _ _ _ _)) ?_))
          refine c9 Tryz.zeroValue166 rfl (fun b18 => ?_)
          refine j0 rfl rfl Tryz.sizeOf166 ?_
          refine ae (aa (af (ab (zz0 (zz3 (off := 2) (ft := 3) rfl ag rfl aj) ?_))))
          refine zz0 (aM rfl aD) ?_
          refine zz0 (eE rfl rfl) ?_
          refine zz0 (fj rfl rfl Tryz.underlying166 aj) ?_
          refine zz0 (dZ (v := .int .i64 (gg.opX i.op)) rfl (by repeat constructor) aD (Aw (by omega) (by simp))) ?_
          refine zz0 (ac rfl) (zz0 (ac rfl) (zz0 (aB rfl Tryz.call121 (fun w hw => vy (gg.opX i.op) (s.m.reg i.a) (fP s.m i) w)) ?_))
          refine zz0 (ac rfl) (zz0 (ay rfl rfl) (zz0 (ay rfl rfl) (zz0 (ad rfl) (ae (aa (ab (zz0 (ac rfl) (zz0 (aB rfl Tryz.call122 (fun w hw => vf (kE (gg.opX i.op) (s.m.reg i.a) (fP s.m i)).1 w)) ?_))))))))
          refine bw gU rfl rfl bH ?_
          refine ae (a9 (aa ?_))
          rw [wE (by omega)]
          apply aZ ((jM (gg.opX i.op) (s.m.reg i.a) (fP s.m i)), vg (jM (gg.opX i.op) (s.m.reg i.a) (fP s.m i)), s.done)
          ·exact rfl
          ·exact (.cons (by first | rfl | exact am rfl (by omega) | exact am rfl (by rw [hh]; rfl) | exact am rfl (by simp) | exact aS rfl (by simp)) Front.nil)
          ·exact bQ 35 rfl
          ·exact (by repeat' constructor)
          ·exact ⟨by unfold gg; repeat (first | rw [if_pos (by omega)] | rw [if_neg (by omega)]), by unfold gg; repeat (first | rw [if_pos (by omega)] | rw [if_neg (by omega)]), by first | (rw [decide_eq_true (by omega)]; rfl) | (rw [decide_eq_false (by omega)]; rfl)⟩
         ·refine ax (a9 (aa ?_))
          apply aZ (s.m.reg i.a, s.m.f, s.done)
          ·exact rfl
          ·exact (.cons (by first | rfl | exact am rfl (by omega) | exact am rfl (by rw [hh]; rfl) | exact am rfl (by simp) | exact aS rfl (by simp)) Front.nil)
          ·exact bQ 19 rfl
          ·exact (by repeat' constructor)
          ·exact ⟨by unfold gg; repeat (first | rw [if_pos (by omega)] | rw [if_neg (by omega)]), by unfold gg; repeat (first | rw [if_pos (by omega)] | rw [if_neg (by omega)]), by first | (rw [decide_eq_true (by omega)]; rfl) | (rw [decide_eq_false (by omega)]; rfl)⟩
 ·obtain ⟨r, f, dn⟩ := i
  replace hi : r = (gg s.m i).1 ∧ f = (gg s.m i).2 ∧ dn = (decide (i.op = 1) || s.done) := hi
  change Tr _ _ [cellE b2 (gU.enc f) 38, cellE b1 (eC.enc i) 114, cellE bc (bJ { s with done := dn } bM vi vo eff) 82] ([(7, .int .u32 r.toNat)] ++ _) _
  obtain ⟨hr, hf, hdn⟩ := hi
  refine eJ (ι := Unit) (fun u => True) (fun _ => (Bg.lessB w (cg [cellE bc (bJ s bM vi vo eff) 82]) 0)) (fun u => [cellE b2 (gU.enc f) 38, cellE b1 (eC.enc i) 114, cellE bc (bJ (({ s with done := dn }.setR i.a r).setF f) bM vi vo eff) 82]) (fun u => []) ?_ (fun u hi => ?_)
  ·skip
   refine bI ([cellE b2 (gU.enc f) 38, cellE b1 (eC.enc i) 114]) 15 rfl aU ?_
   refine zz2 0 rfl (ac rfl) ?_
   refine zz2 1 rfl (zz3 (off := 6) (ft := 3) rfl ag rfl aj) ?_
   refine zz2 2 rfl (aM rfl aD) ?_
   refine zz2 3 rfl (ac rfl) ?_
   refine zz2 4 rfl (ac rfl) ?_
   refine zz2 5 rfl (bK rfl dN bH) ?_
   refine zz2 6 rfl (aH rfl) ?_
   refine zz2 7 rfl (zz3 (off := 0) (ft := 40) rfl aC rfl aP) ?_
   refine zz2 8 rfl (zz3 (off := 0) (ft := 36) rfl aA rfl bG) ?_
   refine zz2 9 rfl (fj rfl rfl aY ah) ?_
   refine zz9 [10] (fun iq hq => ?_)
   obtain rfl := List.mem_singleton.1 hq
   refine aX rfl ?_
   refine kr rfl rfl ah (by repeat constructor) (il hA (by simp) _) (by rfl) (by rw [io]; first | (simp; done) | (simp; omega)) ?_
   refine bB ?_
   refine zz2 11 rfl (aH rfl) ?_
   refine zz2 12 rfl (zz3 (off := 0) (ft := 40) rfl aC rfl aP) ?_
   refine zz2 13 rfl (zz3 (off := 9) (ft := 38) rfl aA rfl bH) ?_
   refine zz9 [14] (fun iq hq => ?_)
   obtain rfl := List.mem_singleton.1 hq
   refine aX rfl ?_
   refine zz4 rfl rfl bH (zv f) ?_
   refine bB ?_
   refine eh ?_
   refine aa ?_
   try rw [St.setF_setR]
   apply aZ ()
   ·exact rfl
   ·exact Front.nil
   ·exact bQ 13 rfl
   ·exact (by repeat' constructor)
   ·exact trivial
  ·skip
   replace hi : True := hi
   change Tr _ _ [cellE b2 (gU.enc f) 38, cellE b1 (eC.enc i) 114, cellE bc (bJ (({ s with done := dn }.setR i.a r).setF f) bM vi vo eff) 82] ([] ++ _) _
   refine af (ab (zz0 (ac rfl) (zz0 (bK rfl bo aL) ?_)))
   refine cT (fun _ : Unit => .tuple #[]) [cellE bc (bJ (({ s with done := dn }.setR i.a r).setF f) bM vi vo eff) 82] (fun _ => [cellE bc (bJ ((({ s with done := dn }.setR i.a r).setF f).to (cv i)) bM vi vo eff) 82]) (ok := fun _ => True) (dd := fun _ => 0) rfl gx (by repeat' constructor) (fun w hw => Nat.le_refl _) (fun w hw => iM (({ s with done := dn }.setR i.a r).setF f) bc bM vi vo eff i w (hw.own (by repeat' constructor)) hI) rfl (fun _ _ => ?_)
   refine ae (aa (af (ab (zz0 (ad rfl) (ae (aa (ao ?_)))))))
   refine aI Tryz.results89 rfl (fun w' hw => ?_)
   have hfin : ((({ s with done := dn } : St).setR i.a r).setF f).to (cv i) = f6 s i (cv i) := by subst hr hf hdn; rfl
   rw [hfin] at hw
   exact ⟨(), rfl, hw.upd (Bg.le.refl _) (by repeat' constructor), trivial⟩
theorem wT (s : St) (bc bM bm : Nat) (VR vi vo eff : Value) (rs : List RegV) (l : List SecV) (wl : WL) (i : Ins) (w : World) (ho : OwnAt w [cellE bc (bJ s bM vi vo eff) 82, mapE bm u8V wl]) (hM : MemAt (Bg.lessB w (cg [cellE bc (bJ s bM vi vo eff) 82, mapE bm u8V wl]) 0).blk bM bm VR rs) (hO : MemOK l rs) (hwl : cx wl = s.w) (hI : InsOK i) (hA : 0 ≤ i.a ∧ i.a < 8) (hB : 0 ≤ i.b ∧ i.b < 8) :
  Calls Tryz.prog 84 #[.pointer (some ⟨bc, 0, none⟩), .agg (eC.enc i).toArray] w (fun e w' => ∃ wl' : WL, e = .returned (.int .i64 (d5 l s i (cv i)).2) ∧ Upd 0 w w' (cg [cellE bc (bJ s bM vi vo eff) 82, mapE bm u8V wl]) [cellE bc (bJ (d5 l s i (cv i)).1 bM vi vo eff) 82, mapE bm u8V wl'] ∧ (cx wl' = (d5 l s i (cv i)).1.w ∧ wl'.length ≤ wl.length + 4)) := by
 refine ik (L := [cellE bc (bJ s bM vi vo eff) 82, mapE bm u8V wl]) ho rfl (Nat.zero_le _) Tryz.func84 rfl Tryz.ntmps84 rfl ?_
 refine af (ab ?_)
 refine cM rfl rfl rfl (fun b1 => ?_)
 refine zz0 (ad rfl) (ae (aa (af (ab (zz0 (ac rfl) (zz0 (aH rfl) ?_))))))
 refine zz0 (zz3 (off := 0) (ft := 40) rfl aC rfl aP) ?_
 refine zz0 (zz3 (off := 0) (ft := 36) rfl aA rfl bG) ?_
 refine zz0 (fj rfl rfl aY ah) ?_
 refine zz0 (fH rfl az) ?_
 refine zz0 (ad rfl) (ae (aa (af (af (ab (zz0 (zz3 (off := 2) (ft := 3) rfl ag rfl aj) ?_))))))
 refine zz0 (aM rfl aD) ?_
 refine zz0 (aN rfl rfl) (ae (aa ?_))
 refine ak rfl ?_ ?_ <;> intro h2 <;> try simp only [bs] at h2
 ·refine af (af (bI ([cellE bc (bJ s bM vi vo eff) 82, cellE b1 (eC.enc i) 114]) 16 rfl aU ?_))
  refine zz2 0 rfl (ac rfl) ?_
  refine zz2 1 rfl (aH rfl) ?_
  refine zz2 2 rfl (zz3 (off := 13) (ft := 68) rfl aC rfl fp) ?_
  refine zz2 3 rfl (fH rfl fW) ?_
  refine zz2 4 rfl (ac rfl) ?_
  refine zz2 5 rfl (eX (n := 4) rfl rfl) ?_
  refine zz2 6 rfl (ac rfl) ?_
  refine zz2 7 rfl (zz3 (off := 6) (ft := 3) rfl ag rfl aj) ?_
  refine zz2 8 rfl (aM rfl aD) ?_
  refine zz2 9 rfl (aH rfl) ?_
  refine zz2 10 rfl (zz3 (off := 0) (ft := 40) rfl aC rfl aP) ?_
  refine zz2 11 rfl (zz3 (off := 0) (ft := 36) rfl aA rfl bG) ?_
  refine zz2 12 rfl (fj rfl rfl aY ah) ?_
  refine eV 13 rfl (by kernel_rfl) (bA (bA (bA bW))) (dZ rfl (by repeat constructor) az (im hA (by simp))) ?_
  refine zz9 [14] (fun iq hq => ?_)
  obtain rfl := List.mem_singleton.1 hq
  refine aX rfl ?_
  refine cT (fun _ : WL => .int .i64 (bO l s.w (s.m.r7 - 4) 4 (s.m.reg i.a)).2) [mapE bm u8V wl] (fun wl' => [mapE bm u8V wl']) (ok := fun wl' => cx wl' = (bO l s.w (s.m.r7 - 4) 4 (s.m.reg i.a)).1 ∧ wl'.length ≤ wl.length + 4) (dd := fun _ => 0) rfl lM (by repeat' constructor) (fun w hw => Nat.le_refl _) (fun w hw => by have q := kw bM bm VR rs l (s.m.r7 - 4) 4 (s.m.reg i.a) wl w (hw.own (by repeat' constructor)) (hM.mono (hw.lessB (Lo := [mapE bm u8V wl]) (by repeat' constructor))) hO; rw [hwl] at q; exact q) rfl (fun wl2 hw2 => ?_)
  refine bB ?_
  refine zz2 15 rfl (ad rfl) ?_
  refine eh ?_
  refine aa (af (ab (zz0 (ac rfl) (zz0 (dk rfl rfl) (ae (aa ?_))))))
  refine ak rfl ?_ ?_ <;> intro h3 <;> try simp only [bs] at h3
  ·refine af (ab (zz0 (ac rfl) (zz0 (ad rfl) (ae (aa (ao (an (an ?_))))))))
   refine aI j9 rfl (fun w' hw => ?_)
   have hq : d5 l s i (cv i) = (s, (bO l s.w (s.m.r7 - 4) 4 (s.m.reg i.a)).2) := by unfold d5; repeat (first | rw [if_pos (by first | assumption | omega)] | rw [if_neg (by first | assumption | omega)])
   exact ⟨wl2, by rw [hq]; try rfl, by rw [hq]; exact hw.upd (Bg.le.refl _) (by repeat' constructor), by rw [hq]; exact ⟨hw2.1.trans (mV (by assumption)), hw2.2⟩⟩
  ·refine ax (aa (ab (zz0 (ac rfl) (zz0 (ac rfl) (zz0 (eX (n := 4) rfl rfl) ?_)))))
   refine zz0 (aH rfl) ?_
   refine zz0 (zz3 (off := 0) (ft := 40) rfl aC rfl aP) ?_
   refine zz0 (zz3 (off := 0) (ft := 36) rfl aA rfl bG) ?_
   refine zz0 (fj rfl rfl aY ah) ?_
   refine kr rfl rfl ah (by repeat constructor) (il (k := 7) (by omega) (by simp) _) (by rfl) (by rw [io]; first | (simp; done) | (simp; omega)) ?_
   refine ae (aa (af (ab (zz0 (ac rfl) (zz0 (bK rfl bo aL) ?_)))))
   refine cT (fun _ : Unit => .tuple #[]) [cellE bc (bJ (s.setR 7 (s.m.r7 - 4)) bM vi vo eff) 82] (fun _ => [cellE bc (bJ ((s.setR 7 (s.m.r7 - 4)).to (cv i)) bM vi vo eff) 82]) (ok := fun _ => True) (dd := fun _ => 0) rfl gx (by repeat' constructor) (fun w hw => Nat.le_refl _) (fun w hw => iM (s.setR 7 (s.m.r7 - 4)) bc bM vi vo eff i w (hw.own (by repeat' constructor)) hI) rfl (fun _ _ => ?_)
   refine ae (aa (af (ab (zz0 (ad rfl) (ae (aa (ao ?_)))))))
   refine aI j9 rfl (fun w' hw => ?_)
   have hq : d5 l s i (cv i) = ({ s with w := (bO l s.w (s.m.r7 - 4) 4 (s.m.reg i.a)).1, m := (s.m.set 7 (s.m.r7 - 4)).to (cv i) }, 0) := by unfold d5; repeat (first | rw [if_pos (by first | assumption | omega)] | rw [if_neg (by first | assumption | omega)])
   exact ⟨wl2, by rw [hq]; try rfl, by rw [hq]; exact hw.upd (Bg.le.refl _) (by repeat' constructor), by rw [hq]; exact ⟨hw2.1, hw2.2⟩⟩
 ·refine af (ab (zz0 (ac rfl) (zz0 (aH rfl) ?_)))
  refine zz0 (zz3 (off := 13) (ft := 68) rfl aC rfl fp) ?_
  refine zz0 (fH rfl fW) ?_
  refine zz0 (ac rfl) (zz0 (aB rfl jA (fun w hw => (by have q := ju bM bm VR rs l s.m.r7 4 wl w (hM.mono hw.bg) hO (mapE.in_ (hw.ent _ (by repeat constructor))); rw [hwl] at q; exact q))) ?_)
  refine zz0 (ac rfl) (zz0 (ay rfl rfl) (zz0 (ay rfl rfl) (zz0 (ad rfl) (zz0 (ad rfl) (ae (aa (af (af (ab (zz0 (ac rfl) (zz0 (dk rfl rfl) (ae (aa ?_)))))))))))))
  refine ak rfl ?_ ?_ <;> intro h4 <;> try simp only [bs] at h4
  ·refine af (ab (zz0 (ac rfl) (zz0 (ad rfl) (ae (aa (ao (an (an ?_))))))))
   refine aI j9 rfl (fun w' hw => ?_)
   have hq : d5 l s i (cv i) = (s, (cP l s.w s.m.r7 4).2) := by unfold d5; repeat (first | rw [if_pos (by first | assumption | omega)] | rw [if_neg (by first | assumption | omega)])
   exact ⟨wl, by rw [hq]; try rfl, by rw [hq]; exact hw.upd (Bg.le.refl _) (by repeat' constructor), by rw [hq]; exact ⟨hwl, by omega⟩⟩
  ·refine ax (aa (af (ab (zz0 (ac rfl) (zz0 (ac rfl) (zz0 (cL (n := 4) rfl rfl) ?_))))))
   refine zz0 (aH rfl) ?_
   refine zz0 (zz3 (off := 0) (ft := 40) rfl aC rfl aP) ?_
   refine zz0 (zz3 (off := 0) (ft := 36) rfl aA rfl bG) ?_
   refine zz0 (fj rfl rfl aY ah) ?_
   refine kr rfl rfl ah (by repeat constructor) (il (k := 7) (by omega) (by simp) _) (by rfl) (by rw [io]; first | (simp; done) | (simp; omega)) ?_
   refine ae (aa (bI ([cellE b1 (eC.enc i) 114]) 9 rfl aU ?_))
   refine zz2 0 rfl (ac rfl) ?_
   refine zz2 1 rfl (zz3 (off := 6) (ft := 3) rfl ag rfl aj) ?_
   refine zz2 2 rfl (aM rfl aD) ?_
   refine zz2 3 rfl (ac rfl) ?_
   refine zz2 4 rfl (aH rfl) ?_
   refine zz2 5 rfl (zz3 (off := 0) (ft := 40) rfl aC rfl aP) ?_
   refine zz2 6 rfl (zz3 (off := 0) (ft := 36) rfl aA rfl bG) ?_
   refine zz2 7 rfl (fj rfl rfl aY ah) ?_
   refine zz9 [8] (fun iq hq => ?_)
   obtain rfl := List.mem_singleton.1 hq
   refine aX rfl ?_
   refine kr rfl rfl ah (by repeat constructor) (il hA (by simp) _) (by rfl) (by rw [io]; first | (simp; done) | (simp; omega)) ?_
   refine bB ?_
   refine eh ?_
   refine aa (af (ab (zz0 (ac rfl) (zz0 (bK rfl bo aL) ?_))))
   refine cT (fun _ : Unit => .tuple #[]) [cellE bc (bJ ((s.setR 7 (s.m.r7 + 4)).setR i.a (cP l s.w s.m.r7 4).1) bM vi vo eff) 82] (fun _ => [cellE bc (bJ (((s.setR 7 (s.m.r7 + 4)).setR i.a (cP l s.w s.m.r7 4).1).to (cv i)) bM vi vo eff) 82]) (ok := fun _ => True) (dd := fun _ => 0) rfl gx (by repeat' constructor) (fun w hw => Nat.le_refl _) (fun w hw => iM ((s.setR 7 (s.m.r7 + 4)).setR i.a (cP l s.w s.m.r7 4).1) bc bM vi vo eff i w (hw.own (by repeat' constructor)) hI) rfl (fun _ _ => ?_)
   refine ae (aa (af (ab (zz0 (ad rfl) (ae (aa (ao ?_)))))))
   refine aI j9 rfl (fun w' hw => ?_)
   have hq : d5 l s i (cv i) = ({ s with m := ((s.m.set 7 (s.m.r7 + 4)).set i.a (cP l s.w s.m.r7 4).1).to (cv i) }, 0) := by unfold d5; repeat (first | rw [if_pos (by first | assumption | omega)] | rw [if_neg (by first | assumption | omega)])
   exact ⟨wl, by rw [hq]; try rfl, by rw [hq]; exact hw.upd (Bg.le.refl _) (by repeat' constructor), by rw [hq]; exact ⟨hwl, by omega⟩⟩
theorem vC (s : St) (bc bM bm : Nat) (VR vi vo eff : Value) (rs : List RegV) (l : List SecV) (wl : WL) (i : Ins) (w : World) (ho : OwnAt w [cellE bc (bJ s bM vi vo eff) 82, mapE bm u8V wl]) (hM : MemAt (Bg.lessB w (cg [cellE bc (bJ s bM vi vo eff) 82, mapE bm u8V wl]) 0).blk bM bm VR rs) (hO : MemOK l rs) (hwl : cx wl = s.w) (hI : InsOK i) (hA : 0 ≤ i.a ∧ i.a < 8) (hB : 0 ≤ i.b ∧ i.b < 8) :
  Calls Tryz.prog 85 #[.pointer (some ⟨bc, 0, none⟩), .agg (eC.enc i).toArray] w (fun e w' => ∃ wl' : WL, e = .returned (.int .i64 (dj l s i (cv i)).2) ∧ Upd 0 w w' (cg [cellE bc (bJ s bM vi vo eff) 82, mapE bm u8V wl]) [cellE bc (bJ (dj l s i (cv i)).1 bM vi vo eff) 82, mapE bm u8V wl'] ∧ (cx wl' = (dj l s i (cv i)).1.w ∧ wl'.length ≤ wl.length + 4)) := by
 refine ik (L := [cellE bc (bJ s bM vi vo eff) 82, mapE bm u8V wl]) ho rfl (Nat.zero_le _) Tryz.func85 rfl Tryz.ntmps85 rfl ?_
 refine af (ab ?_)
 refine cM rfl rfl rfl (fun b1 => ?_)
 refine zz0 (ad rfl) (ae (aa (af (bI ([cellE bc (bJ s bM vi vo eff) 82, cellE b1 (eC.enc i) 114]) 12 rfl aU ?_))))
 refine zz2 0 rfl (ac rfl) ?_
 refine zz2 1 rfl (zz3 (off := 7) (ft := 3) rfl ag rfl aj) ?_
 refine zz2 2 rfl (aM rfl aD) ?_
 refine zz2 3 rfl (aH rfl) ?_
 refine zz2 4 rfl (zz3 (off := 0) (ft := 40) rfl aC rfl aP) ?_
 refine zz2 5 rfl (zz3 (off := 0) (ft := 36) rfl aA rfl bG) ?_
 refine zz2 6 rfl (fj rfl rfl aY ah) ?_
 refine eV 7 rfl (by kernel_rfl) (bA bW) (dZ rfl (by repeat constructor) az (im hB (by simp))) ?_
 refine zz2 8 rfl (zz3 (off := 1) (ft := 23) rfl ag rfl ah) ?_
 refine zz2 9 rfl (aM rfl az) ?_
 refine zz2 10 rfl (cL rfl rfl) ?_
 refine zz2 11 rfl (ad rfl) ?_
 refine eh ?_
 refine aa (af (af (ab (zz0 (zz3 (off := 2) (ft := 3) rfl ag rfl aj) ?_))))
 refine zz0 (aM rfl aD) ?_
 refine zz0 (aN rfl rfl) (ae (aa ?_))
 refine ak rfl ?_ ?_ <;> intro h2 <;> try simp only [bs] at h2
 ·refine af (af (bI ([cellE bc (bJ s bM vi vo eff) 82, cellE b1 (eC.enc i) 114]) 17 rfl aU ?_))
  refine zz2 0 rfl (ac rfl) ?_
  refine zz2 1 rfl (aH rfl) ?_
  refine zz2 2 rfl (zz3 (off := 13) (ft := 68) rfl aC rfl fp) ?_
  refine zz2 3 rfl (fH rfl fW) ?_
  refine zz2 4 rfl (ac rfl) ?_
  refine zz2 5 rfl (zz3 (off := 4) (ft := 3) rfl ag rfl aj) ?_
  refine zz2 6 rfl (aM rfl aD) ?_
  refine zz2 7 rfl (ac rfl) ?_
  refine zz2 8 rfl (zz3 (off := 6) (ft := 3) rfl ag rfl aj) ?_
  refine zz2 9 rfl (aM rfl aD) ?_
  refine zz2 10 rfl (aH rfl) ?_
  refine zz2 11 rfl (zz3 (off := 0) (ft := 40) rfl aC rfl aP) ?_
  refine zz2 12 rfl (zz3 (off := 0) (ft := 36) rfl aA rfl bG) ?_
  refine zz2 13 rfl (fj rfl rfl aY ah) ?_
  refine eV 14 rfl (by kernel_rfl) (bA (bA (bA bW))) (dZ rfl (by repeat constructor) az (im hA (by simp))) ?_
  refine zz9 [15] (fun iq hq => ?_)
  obtain rfl := List.mem_singleton.1 hq
  refine aX rfl ?_
  refine cT (fun _ : WL => .int .i64 (bO l s.w (s.m.reg i.b + i.imm) i.width (s.m.reg i.a)).2) [mapE bm u8V wl] (fun wl' => [mapE bm u8V wl']) (ok := fun wl' => cx wl' = (bO l s.w (s.m.reg i.b + i.imm) i.width (s.m.reg i.a)).1 ∧ wl'.length ≤ wl.length + 4) (dd := fun _ => 0) rfl lM (by repeat' constructor) (fun w hw => Nat.le_refl _) (fun w hw => by have q := kw bM bm VR rs l (s.m.reg i.b + i.imm) i.width (s.m.reg i.a) wl w (hw.own (by repeat' constructor)) (hM.mono (hw.lessB (Lo := [mapE bm u8V wl]) (by repeat' constructor))) hO; rw [hwl] at q; exact q) rfl (fun wl2 hw2 => ?_)
  refine bB ?_
  refine zz2 16 rfl (ad rfl) ?_
  refine eh ?_
  refine aa (af (ab (zz0 (ac rfl) (zz0 (dk rfl rfl) (ae (aa ?_))))))
  refine ak rfl ?_ ?_ <;> intro h3 <;> try simp only [bs] at h3
  ·refine af (ab (zz0 (ac rfl) (zz0 (ad rfl) (ae (aa (ao (an (an ?_))))))))
   refine aI jh rfl (fun w' hw => ?_)
   have hq : dj l s i (cv i) = (s, (bO l s.w (s.m.reg i.b + i.imm) i.width (s.m.reg i.a)).2) := by unfold dj; repeat (first | rw [if_pos (by first | assumption | omega)] | rw [if_neg (by first | assumption | omega)])
   exact ⟨wl2, by rw [hq]; try rfl, by rw [hq]; exact hw.upd (Bg.le.refl _) (by repeat' constructor), by rw [hq]; exact ⟨hw2.1.trans (mV (by assumption)), hw2.2⟩⟩
  ·refine ax (aa (af (ab (zz0 (ac rfl) (zz0 (bK rfl bo aL) ?_)))))
   refine cT (fun _ : Unit => .tuple #[]) [cellE bc (bJ (s) bM vi vo eff) 82] (fun _ => [cellE bc (bJ ((s).to (cv i)) bM vi vo eff) 82]) (ok := fun _ => True) (dd := fun _ => 0) rfl gx (by repeat' constructor) (fun w hw => Nat.le_refl _) (fun w hw => iM (s) bc bM vi vo eff i w (hw.own (by repeat' constructor)) hI) rfl (fun _ _ => ?_)
   refine ae (aa (af (ab (zz0 (ad rfl) (ae (aa (ao (an ?_))))))))
   refine aI jh rfl (fun w' hw => ?_)
   have hq : dj l s i (cv i) = ({ s with w := (bO l s.w (s.m.reg i.b + i.imm) i.width (s.m.reg i.a)).1, m := s.m.to (cv i) }, 0) := by unfold dj; repeat (first | rw [if_pos (by first | assumption | omega)] | rw [if_neg (by first | assumption | omega)])
   exact ⟨wl2, by rw [hq]; try rfl, by rw [hq]; exact hw.upd (Bg.le.refl _) (by repeat' constructor), by rw [hq]; exact ⟨hw2.1, hw2.2⟩⟩
 ·refine ax (aa (af (bI ([cellE bc (bJ s bM vi vo eff) 82, cellE b1 (eC.enc i) 114]) 13 rfl aU ?_)))
  refine zz2 0 rfl (ac rfl) ?_
  refine zz2 1 rfl (aH rfl) ?_
  refine zz2 2 rfl (zz3 (off := 13) (ft := 68) rfl aC rfl fp) ?_
  refine zz2 3 rfl (fH rfl fW) ?_
  refine zz2 4 rfl (ac rfl) ?_
  refine zz2 5 rfl (zz3 (off := 4) (ft := 3) rfl ag rfl aj) ?_
  refine zz2 6 rfl (aM rfl aD) ?_
  refine zz9 [7] (fun iq hq => ?_)
  obtain rfl := List.mem_singleton.1 hq
  refine aX rfl ?_
  refine zz0 (aB rfl jA (fun w hw => (by have q := ju bM bm VR rs l (s.m.reg i.b + i.imm) i.width wl w (hM.mono hw.bg) hO (mapE.in_ (hw.ent _ (by repeat constructor))); rw [hwl] at q; exact q))) ?_
  refine bB ?_
  refine zz2 8 rfl (ac rfl) ?_
  refine zz2 9 rfl (ay rfl rfl) ?_
  refine zz2 10 rfl (ay rfl rfl) ?_
  refine zz2 11 rfl (ad rfl) ?_
  refine zz2 12 rfl (ad rfl) ?_
  refine eh ?_
  refine aa (af (af (ab (zz0 (ac rfl) (zz0 (dk rfl rfl) (ae (aa ?_)))))))
  refine ak rfl ?_ ?_ <;> intro h4 <;> try simp only [bs] at h4
  ·refine af (ab (zz0 (ac rfl) (zz0 (ad rfl) (ae (aa (ao (an ?_)))))))
   refine aI jh rfl (fun w' hw => ?_)
   have hq : dj l s i (cv i) = (s, (cP l s.w (s.m.reg i.b + i.imm) i.width).2) := by unfold dj; repeat (first | rw [if_pos (by first | assumption | omega)] | rw [if_neg (by first | assumption | omega)])
   exact ⟨wl, by rw [hq]; try rfl, by rw [hq]; exact hw.upd (Bg.le.refl _) (by repeat' constructor), by rw [hq]; exact ⟨hwl, by omega⟩⟩
  ·refine ax (aa (af (af (ab (zz0 (zz3 (off := 2) (ft := 3) rfl ag rfl aj) ?_)))))
   refine zz0 (aM rfl aD) ?_
   refine zz0 (aN rfl rfl) (ae (aa ?_))
   refine ak rfl ?_ ?_ <;> intro h5 <;> try simp only [bs] at h5
   ·refine ab (zz0 (ac rfl) (zz0 (zz3 (off := 4) (ft := 3) rfl ag rfl aj) ?_))
    refine zz0 (aM rfl aD) ?_
    refine zz0 (aB rfl Tryz.call81 (fun w hw => ns (cP l s.w (s.m.reg i.b + i.imm) i.width).1 i.width w)) ?_
    refine zz0 (ad rfl) (ae (aa (af (bI ([cellE b1 (eC.enc i) 114]) 9 rfl aU ?_))))
    refine zz2 0 rfl (ac rfl) ?_
    refine zz2 1 rfl (zz3 (off := 6) (ft := 3) rfl ag rfl aj) ?_
    refine zz2 2 rfl (aM rfl aD) ?_
    refine zz2 3 rfl (ac rfl) ?_
    refine zz2 4 rfl (aH rfl) ?_
    refine zz2 5 rfl (zz3 (off := 0) (ft := 40) rfl aC rfl aP) ?_
    refine zz2 6 rfl (zz3 (off := 0) (ft := 36) rfl aA rfl bG) ?_
    refine zz2 7 rfl (fj rfl rfl aY ah) ?_
    refine zz9 [8] (fun iq hq => ?_)
    obtain rfl := List.mem_singleton.1 hq
    refine aX rfl ?_
    refine kr rfl rfl ah (by repeat constructor) (il hA (by simp) _) (by rfl) (by rw [io]; first | (simp; done) | (simp; omega)) ?_
    refine bB ?_
    refine eh ?_
    refine aa (af (ab (zz0 (ac rfl) (zz0 (bK rfl bo aL) ?_))))
    refine cT (fun _ : Unit => .tuple #[]) [cellE bc (bJ (s.setR i.a (jU (cP l s.w (s.m.reg i.b + i.imm) i.width).1 i.width)) bM vi vo eff) 82] (fun _ => [cellE bc (bJ ((s.setR i.a (jU (cP l s.w (s.m.reg i.b + i.imm) i.width).1 i.width)).to (cv i)) bM vi vo eff) 82]) (ok := fun _ => True) (dd := fun _ => 0) rfl gx (by repeat' constructor) (fun w hw => Nat.le_refl _) (fun w hw => iM (s.setR i.a (jU (cP l s.w (s.m.reg i.b + i.imm) i.width).1 i.width)) bc bM vi vo eff i w (hw.own (by repeat' constructor)) hI) rfl (fun _ _ => ?_)
    refine ae (aa (af (ab (zz0 (ad rfl) (ae (aa (ao ?_)))))))
    refine aI jh rfl (fun w' hw => ?_)
    have hq : dj l s i (cv i) = ({ s with m := (s.m.set i.a (jU (cP l s.w (s.m.reg i.b + i.imm) i.width).1 i.width)).to (cv i) }, 0) := by unfold dj; repeat (first | rw [if_pos (by first | assumption | omega)] | rw [if_neg (by first | assumption | omega)])
    exact ⟨wl, by rw [hq]; try rfl, by rw [hq]; exact hw.upd (Bg.le.refl _) (by repeat' constructor), by rw [hq]; exact ⟨hwl, by omega⟩⟩
   ·refine ax (aa (af (bI ([cellE b1 (eC.enc i) 114]) 9 rfl aU ?_)))
    refine zz2 0 rfl (ac rfl) ?_
    refine zz2 1 rfl (zz3 (off := 6) (ft := 3) rfl ag rfl aj) ?_
    refine zz2 2 rfl (aM rfl aD) ?_
    refine zz2 3 rfl (ac rfl) ?_
    refine zz2 4 rfl (aH rfl) ?_
    refine zz2 5 rfl (zz3 (off := 0) (ft := 40) rfl aC rfl aP) ?_
    refine zz2 6 rfl (zz3 (off := 0) (ft := 36) rfl aA rfl bG) ?_
    refine zz2 7 rfl (fj rfl rfl aY ah) ?_
    refine zz9 [8] (fun iq hq => ?_)
    obtain rfl := List.mem_singleton.1 hq
    refine aX rfl ?_
    refine kr rfl rfl ah (by repeat constructor) (il hA (by simp) _) (by rfl) (by rw [io]; first | (simp; done) | (simp; omega)) ?_
    refine bB ?_
    refine eh ?_
    refine aa (af (ab (zz0 (ac rfl) (zz0 (bK rfl bo aL) ?_))))
    refine cT (fun _ : Unit => .tuple #[]) [cellE bc (bJ (s.setR i.a (cP l s.w (s.m.reg i.b + i.imm) i.width).1) bM vi vo eff) 82] (fun _ => [cellE bc (bJ ((s.setR i.a (cP l s.w (s.m.reg i.b + i.imm) i.width).1).to (cv i)) bM vi vo eff) 82]) (ok := fun _ => True) (dd := fun _ => 0) rfl gx (by repeat' constructor) (fun w hw => Nat.le_refl _) (fun w hw => iM (s.setR i.a (cP l s.w (s.m.reg i.b + i.imm) i.width).1) bc bM vi vo eff i w (hw.own (by repeat' constructor)) hI) rfl (fun _ _ => ?_)
    refine ae (aa (af (ab (zz0 (ad rfl) (ae (aa (ao ?_)))))))
    refine aI jh rfl (fun w' hw => ?_)
    have hq : dj l s i (cv i) = ({ s with m := (s.m.set i.a (cP l s.w (s.m.reg i.b + i.imm) i.width).1).to (cv i) }, 0) := by unfold dj; repeat (first | rw [if_pos (by first | assumption | omega)] | rw [if_neg (by first | assumption | omega)])
    exact ⟨wl, by rw [hq]; try rfl, by rw [hq]; exact hw.upd (Bg.le.refl _) (by repeat' constructor), by rw [hq]; exact ⟨hwl, by omega⟩⟩
theorem y7 (s : St) (bc bM bm : Nat) (VR vi vo eff : Value) (rs : List RegV) (l : List SecV) (wl : WL) (i : Ins) (w : World) (ho : OwnAt w [cellE bc (bJ s bM vi vo eff) 82, mapE bm u8V wl]) (hM : MemAt (Bg.lessB w (cg [cellE bc (bJ s bM vi vo eff) 82, mapE bm u8V wl]) 0).blk bM bm VR rs) (hO : MemOK l rs) (hwl : cx wl = s.w) (hI : InsOK i) (hA : 0 ≤ i.a ∧ i.a < 8) (hB : 0 ≤ i.b ∧ i.b < 8) :
  Calls Tryz.prog 86 #[.pointer (some ⟨bc, 0, none⟩), .agg (eC.enc i).toArray] w (fun e w' => ∃ wl' : WL, e = .returned (.int .i64 (eF l s i (cv i)).2) ∧ Upd 0 w w' (cg [cellE bc (bJ s bM vi vo eff) 82, mapE bm u8V wl]) [cellE bc (bJ (eF l s i (cv i)).1 bM vi vo eff) 82, mapE bm u8V wl'] ∧ (cx wl' = (eF l s i (cv i)).1.w ∧ wl'.length ≤ wl.length + 4)) := by
 refine ik (L := [cellE bc (bJ s bM vi vo eff) 82, mapE bm u8V wl]) ho rfl (Nat.zero_le _) Tryz.func86 rfl Tryz.ntmps86 rfl ?_
 refine af (ab ?_)
 refine cM rfl rfl rfl (fun b1 => ?_)
 refine zz0 (ad rfl) (ae (aa (af (ab (zz0 (bK rfl bo aL) ?_)))))
 refine zz0 (aB rfl mo (fun w hw => nH i w hI)) ?_
 refine zz0 (ad rfl) (ae (aa (af (aQ (af (ab (zz0 (zz3 (off := 2) (ft := 3) rfl ag rfl aj) ?_)))))))
 refine zz0 (aM rfl aD) ?_
 refine zz0 (aN rfl rfl) (zz0 (ad rfl) (ae (aa ?_)))
 refine ak rfl ?_ ?_ <;> intro h2 <;> try simp only [bs] at h2
 ·refine bI ([cellE bc (bJ s bM vi vo eff) 82, cellE b1 (eC.enc i) 114]) 9 rfl aU ?_
  refine zz2 0 rfl (ac rfl) ?_
  refine zz2 1 rfl (zz3 (off := 6) (ft := 3) rfl ag rfl aj) ?_
  refine zz2 2 rfl (aM rfl aD) ?_
  refine zz2 3 rfl (aH rfl) ?_
  refine zz2 4 rfl (zz3 (off := 0) (ft := 40) rfl aC rfl aP) ?_
  refine zz2 5 rfl (zz3 (off := 0) (ft := 36) rfl aA rfl bG) ?_
  refine zz2 6 rfl (fj rfl rfl aY ah) ?_
  refine eV 7 rfl (by kernel_rfl) (dG (bA bW)) (dZ rfl (by repeat constructor) az (im hA (by simp))) ?_
  refine zz2 8 rfl (ad rfl) ?_
  refine eh ?_
  refine a9 (aa (af (ab (zz0 (ac rfl) (zz0 (ac rfl) (zz0 (aH rfl) ?_))))))
  refine zz0 (zz3 (off := 0) (ft := 40) rfl aC rfl aP) ?_
  refine zz0 (zz3 (off := 8) (ft := 23) rfl aA rfl ah) ?_
  refine zz4 rfl rfl ah (kZ _) ?_
  refine ae (aa (af (ab (zz0 (ad rfl) (ae (aa (ao ?_)))))))
  refine aI jg rfl (fun w' hw => ?_)
  have hq : eF l s i (cv i) = ({ s with m := s.m.to (s.m.reg i.a) }, 0) := by unfold eF; repeat (first | rw [if_pos (by first | assumption | omega)] | rw [if_neg (by first | assumption | omega)])
  exact ⟨wl, by rw [hq]; try rfl, by rw [hq]; exact hw.upd (Bg.le.refl _) (by repeat' constructor), by rw [hq]; exact ⟨hwl, by omega⟩⟩
 ·refine af (ab (zz0 (zz3 (off := 2) (ft := 3) rfl ag rfl aj) ?_))
  refine zz0 (aM rfl aD) ?_
  refine zz0 (aN rfl rfl) (zz0 (ad rfl) (ae (aa ?_)))
  refine ak rfl ?_ ?_ <;> intro h3 <;> try simp only [bs] at h3
  ·refine af (bI ([cellE bc (bJ s bM vi vo eff) 82, cellE b1 (eC.enc i) 114]) 22 rfl aU ?_)
   refine zz2 0 rfl (ac rfl) ?_
   refine zz2 1 rfl (aH rfl) ?_
   refine zz2 2 rfl (zz3 (off := 13) (ft := 68) rfl aC rfl fp) ?_
   refine zz2 3 rfl (fH rfl fW) ?_
   refine zz2 4 rfl (zz3 (off := 1) (ft := 23) rfl ag rfl ah) ?_
   refine zz2 5 rfl (aM rfl az) ?_
   refine zz2 6 rfl (ac rfl) ?_
   refine zz2 7 rfl (zz3 (off := 6) (ft := 3) rfl ag rfl aj) ?_
   refine zz2 8 rfl (aM rfl aD) ?_
   refine zz2 9 rfl (aH rfl) ?_
   refine zz2 10 rfl (zz3 (off := 0) (ft := 40) rfl aC rfl aP) ?_
   refine zz2 11 rfl (zz3 (off := 0) (ft := 36) rfl aA rfl bG) ?_
   refine zz2 12 rfl (fj rfl rfl aY ah) ?_
   refine eV 13 rfl (by kernel_rfl) (bA (dG (bA bW))) (dZ rfl (by repeat constructor) az (im hA (by simp))) ?_
   refine zz2 14 rfl (jl (m := 4) rfl rfl) ?_
   refine zz2 15 rfl (cL rfl rfl) ?_
   refine zz9 [16] (fun iq hq => ?_)
   obtain rfl := List.mem_singleton.1 hq
   refine aX rfl ?_
   refine zz0 (aB rfl jA (fun w hw => (by have q := ju bM bm VR rs l (i.imm + 4 * s.m.reg i.a) 4 wl w (hM.mono hw.bg) hO (mapE.in_ (hw.ent _ (by repeat constructor))); rw [hwl] at q; exact q))) ?_
   refine bB ?_
   refine zz2 17 rfl (ac rfl) ?_
   refine zz2 18 rfl (ay rfl rfl) ?_
   refine zz2 19 rfl (ay rfl rfl) ?_
   refine zz2 20 rfl (ad rfl) ?_
   refine zz2 21 rfl (ad rfl) ?_
   refine eh ?_
   refine aa (af (af (ab (zz0 (ac rfl) (zz0 (dk rfl rfl) (ae (aa ?_)))))))
   refine ak rfl ?_ ?_ <;> intro h4 <;> try simp only [bs] at h4
   ·refine af (ab (zz0 (ac rfl) (zz0 (ad rfl) (ae (aa (ao (an (bf (an ?_)))))))))
    refine aI jg rfl (fun w' hw => ?_)
    have hq : eF l s i (cv i) = (s, (cP l s.w (i.imm + 4 * s.m.reg i.a) 4).2) := by unfold eF; repeat (first | rw [if_pos (by first | assumption | omega)] | rw [if_neg (by first | assumption | omega)])
    exact ⟨wl, by rw [hq]; try rfl, by rw [hq]; exact hw.upd (Bg.le.refl _) (by repeat' constructor), by rw [hq]; exact ⟨hwl, by omega⟩⟩
   ·refine ax (aa (ab (zz0 (ac rfl) (zz0 (ad rfl) (ae (a9 (aa (af (ab (zz0 (ac rfl) (zz0 (ac rfl) (zz0 (aH rfl) ?_))))))))))))
    refine zz0 (zz3 (off := 0) (ft := 40) rfl aC rfl aP) ?_
    refine zz0 (zz3 (off := 8) (ft := 23) rfl aA rfl ah) ?_
    refine zz4 rfl rfl ah (kZ _) ?_
    refine ae (aa (af (ab (zz0 (ad rfl) (ae (aa (ao ?_)))))))
    refine aI jg rfl (fun w' hw => ?_)
    have hq : eF l s i (cv i) = ({ s with m := s.m.to (cP l s.w (i.imm + 4 * s.m.reg i.a) 4).1 }, 0) := by unfold eF; repeat (first | rw [if_pos (by first | assumption | omega)] | rw [if_neg (by first | assumption | omega)])
    exact ⟨wl, by rw [hq]; try rfl, by rw [hq]; exact hw.upd (Bg.le.refl _) (by repeat' constructor), by rw [hq]; exact ⟨hwl, by omega⟩⟩
  ·refine af (bI ([cellE bc (bJ s bM vi vo eff) 82, cellE b1 (eC.enc i) 114]) 9 rfl aU ?_)
   refine zz2 0 rfl (zz3 (off := 5) (ft := 3) rfl ag rfl aj) ?_
   refine zz2 1 rfl (aM rfl aD) ?_
   refine zz2 2 rfl (ac rfl) ?_
   refine zz2 3 rfl (aH rfl) ?_
   refine zz2 4 rfl (zz3 (off := 0) (ft := 40) rfl aC rfl aP) ?_
   refine zz2 5 rfl (zz3 (off := 9) (ft := 38) rfl aA rfl bH) ?_
   refine eV 6 rfl (by kernel_rfl) (bA (dG (bA bW))) (fg (vs := gU.enc s.m.f) rfl (by repeat constructor) dN bH rfl rfl) ?_
   refine zz9 [7] (fun iq hq => ?_)
   obtain rfl := List.mem_singleton.1 hq
   refine aX rfl ?_
   refine zz0 (aB rfl Tryz.call117 (fun w hw => qt i.cc s.m.f w)) ?_
   refine bB ?_
   refine zz2 8 rfl (ad rfl) ?_
   refine eh ?_
   refine aa ?_
   refine ak rfl ?_ ?_ <;> intro h5 <;> try simp only [bs] at h5
   ·refine ab (zz0 (zz3 (off := 1) (ft := 23) rfl ag rfl ah) ?_)
    refine zz0 (aM rfl az) ?_
    refine zz0 (ad rfl) (ae (a9 (aa (af (ab (zz0 (ac rfl) (zz0 (ac rfl) (zz0 (aH rfl) ?_))))))))
    refine zz0 (zz3 (off := 0) (ft := 40) rfl aC rfl aP) ?_
    refine zz0 (zz3 (off := 8) (ft := 23) rfl aA rfl ah) ?_
    refine zz4 rfl rfl ah (kZ _) ?_
    refine ae (aa (af (ab (zz0 (ad rfl) (ae (aa (ao ?_)))))))
    refine aI jg rfl (fun w' hw => ?_)
    have hq : eF l s i (cv i) = ({ s with m := s.m.to i.imm }, 0) := by unfold eF; repeat (first | rw [if_pos (by first | assumption | omega)] | rw [if_neg (by first | assumption | omega)])
    exact ⟨wl, by rw [hq]; try rfl, by rw [hq]; exact hw.upd (Bg.le.refl _) (by repeat' constructor), by rw [hq]; exact ⟨hwl, by omega⟩⟩
   ·refine ax (a9 (aa (af (ab (zz0 (ac rfl) (zz0 (ac rfl) (zz0 (aH rfl) ?_)))))))
    refine zz0 (zz3 (off := 0) (ft := 40) rfl aC rfl aP) ?_
    refine zz0 (zz3 (off := 8) (ft := 23) rfl aA rfl ah) ?_
    refine zz4 rfl rfl ah (kZ _) ?_
    refine ae (aa (af (ab (zz0 (ad rfl) (ae (aa (ao ?_)))))))
    refine aI jg rfl (fun w' hw => ?_)
    have hh : ¬ em i.cc s.m.f = true := by simp_all
    have hq : eF l s i (cv i) = ({ s with m := s.m.to (cv i) }, 0) := by unfold eF; repeat (first | rw [if_pos (by first | assumption | omega)] | rw [if_neg (by first | assumption | omega)])
    exact ⟨wl, by rw [hq]; try rfl, by rw [hq]; exact hw.upd (Bg.le.refl _) (by repeat' constructor), by rw [hq]; exact ⟨hwl, by omega⟩⟩
theorem zE (s : St) (bc bM bm : Nat) (VR vi vo eff : Value) (rs : List RegV) (l : List SecV) (wl : WL) (i : Ins) (w : World) (ho : OwnAt w [cellE bc (bJ s bM vi vo eff) 82, mapE bm u8V wl]) (hM : MemAt (Bg.lessB w (cg [cellE bc (bJ s bM vi vo eff) 82, mapE bm u8V wl]) 0).blk bM bm VR rs) (hO : MemOK l rs) (hwl : cx wl = s.w) (hI : InsOK i) (hA : 0 ≤ i.a ∧ i.a < 8) (hB : 0 ≤ i.b ∧ i.b < 8) :
  Calls Tryz.prog 87 #[.pointer (some ⟨bc, 0, none⟩), .agg (eC.enc i).toArray] w (fun e w' => ∃ wl' : WL, e = .returned (.int .i64 (eR l s i (cv i)).2) ∧ Upd 0 w w' (cg [cellE bc (bJ s bM vi vo eff) 82, mapE bm u8V wl]) [cellE bc (bJ (eR l s i (cv i)).1 bM vi vo eff) 82, mapE bm u8V wl'] ∧ (cx wl' = (eR l s i (cv i)).1.w ∧ wl'.length ≤ wl.length + 4)) := by
 refine ik (L := [cellE bc (bJ s bM vi vo eff) 82, mapE bm u8V wl]) ho rfl (Nat.zero_le _) Tryz.func87 rfl Tryz.ntmps87 rfl ?_
 refine af (ab ?_)
 refine cM rfl rfl rfl (fun b1 => ?_)
 refine zz0 (ad rfl) (ae (aa (af (ab (zz0 (ac rfl) (zz0 (aH rfl) ?_))))))
 refine zz0 (zz3 (off := 0) (ft := 40) rfl aC rfl aP) ?_
 refine zz0 (zz3 (off := 0) (ft := 36) rfl aA rfl bG) ?_
 refine zz0 (fj rfl rfl aY ah) ?_
 refine zz0 (fH rfl az) ?_
 refine zz0 (ad rfl) (ae (aa (af (af (ab (zz0 (zz3 (off := 2) (ft := 3) rfl ag rfl aj) ?_))))))
 refine zz0 (aM rfl aD) ?_
 refine zz0 (aN rfl rfl) (ae (aa ?_))
 refine ak rfl ?_ ?_ <;> intro h2 <;> try simp only [bs] at h2
 ·refine af (ab (zz0 (ac rfl) (zz0 (aH rfl) ?_)))
  refine zz0 (zz3 (off := 13) (ft := 68) rfl aC rfl fp) ?_
  refine zz0 (fH rfl fW) ?_
  refine zz0 (ac rfl) (zz0 (aB rfl jA (fun w hw => (by have q := ju bM bm VR rs l s.m.r7 4 wl w (hM.mono hw.bg) hO (mapE.in_ (hw.ent _ (by repeat constructor))); rw [hwl] at q; exact q))) ?_)
  refine zz0 (ac rfl) (zz0 (ay rfl rfl) (zz0 (ay rfl rfl) (zz0 (ad rfl) (zz0 (ad rfl) (ae (aa (af (af (ab (zz0 (ac rfl) (zz0 (dk rfl rfl) (ae (aa ?_)))))))))))))
  refine ak rfl ?_ ?_ <;> intro h3 <;> try simp only [bs] at h3
  ·refine af (ab (zz0 (ac rfl) (zz0 (ad rfl) (ae (aa (ao (an (an ?_))))))))
   refine aI iG rfl (fun w' hw => ?_)
   have hq : eR l s i (cv i) = (s, (cP l s.w s.m.r7 4).2) := by unfold eR; repeat (first | rw [if_pos (by first | assumption | omega)] | rw [if_neg (by first | assumption | omega)])
   exact ⟨wl, by rw [hq]; try rfl, by rw [hq]; exact hw.upd (Bg.le.refl _) (by repeat' constructor), by rw [hq]; exact ⟨hwl, by omega⟩⟩
  ·refine ax (aa (af (ab (zz0 (ac rfl) (zz0 (ac rfl) (zz0 (cL (n := 4) rfl rfl) ?_))))))
   refine zz0 (aH rfl) ?_
   refine zz0 (zz3 (off := 0) (ft := 40) rfl aC rfl aP) ?_
   refine zz0 (zz3 (off := 0) (ft := 36) rfl aA rfl bG) ?_
   refine zz0 (fj rfl rfl aY ah) ?_
   refine kr rfl rfl ah (by repeat constructor) (il (k := 7) (by omega) (by simp) _) (by rfl) (by rw [io]; first | (simp; done) | (simp; omega)) ?_
   refine ae (aa (af (ab (zz0 (ac rfl) (zz0 (ac rfl) (zz0 (aH rfl) ?_))))))
   refine zz0 (zz3 (off := 0) (ft := 40) rfl aC rfl aP) ?_
   refine zz0 (zz3 (off := 8) (ft := 23) rfl aA rfl ah) ?_
   refine zz4 rfl rfl ah (kZ _) ?_
   refine ae (aa (af (ab (zz0 (ac rfl) (zz0 (ac rfl) (zz0 (gk (n := 4294967295) rfl rfl) ?_))))))
   refine zz0 (aH rfl) ?_
   refine zz0 (zz3 (off := 17) (ft := 4) rfl aC rfl bv) ?_
   refine zz4 rfl rfl bv (xF _) ?_
   refine ae (aa (af (ab (zz0 (ad rfl) (ae (aa (ao (an ?_))))))))
   refine aI iG rfl (fun w' hw => ?_)
   have hq : eR l s i (cv i) = ({ s with m := (s.m.set 7 (s.m.r7 + 4)).to (cP l s.w s.m.r7 4).1, done := decide ((cP l s.w s.m.r7 4).1 = 4294967295) }, 0) := by unfold eR; repeat (first | rw [if_pos (by first | assumption | omega)] | rw [if_neg (by first | assumption | omega)])
   exact ⟨wl, by rw [hq]; try rfl, by rw [hq]; exact hw.upd (Bg.le.refl _) (by repeat' constructor), by rw [hq]; exact ⟨hwl, by omega⟩⟩
 ·refine ax (aa (af (ab (zz0 (zz3 (off := 1) (ft := 23) rfl ag rfl ah) ?_))))
  refine zz0 (aM rfl az) ?_
  refine zz0 (ad rfl) (ae (aa (af (af (ab (zz0 (zz3 (off := 2) (ft := 3) rfl ag rfl aj) ?_))))))
  refine zz0 (aM rfl aD) ?_
  refine zz0 (aN rfl rfl) (ae (aa ?_))
  refine ak rfl ?_ ?_ <;> intro h4 <;> try simp only [bs] at h4
  ·refine bI ([cellE bc (bJ s bM vi vo eff) 82, cellE b1 (eC.enc i) 114]) 9 rfl aU ?_
   refine zz2 0 rfl (ac rfl) ?_
   refine zz2 1 rfl (zz3 (off := 6) (ft := 3) rfl ag rfl aj) ?_
   refine zz2 2 rfl (aM rfl aD) ?_
   refine zz2 3 rfl (aH rfl) ?_
   refine zz2 4 rfl (zz3 (off := 0) (ft := 40) rfl aC rfl aP) ?_
   refine zz2 5 rfl (zz3 (off := 0) (ft := 36) rfl aA rfl bG) ?_
   refine zz2 6 rfl (fj rfl rfl aY ah) ?_
   refine eV 7 rfl (by kernel_rfl) (bA bW) (dZ rfl (by repeat constructor) az (im hA (by simp))) ?_
   refine zz2 8 rfl (ad rfl) ?_
   refine eh ?_
   refine aa (af (af (bI ([cellE bc (bJ s bM vi vo eff) 82, cellE b1 (eC.enc i) 114]) 10 rfl aU ?_)))
   refine zz2 0 rfl (ac rfl) ?_
   refine zz2 1 rfl (aH rfl) ?_
   refine zz2 2 rfl (zz3 (off := 13) (ft := 68) rfl aC rfl fp) ?_
   refine zz2 3 rfl (fH rfl fW) ?_
   refine zz2 4 rfl (ac rfl) ?_
   refine zz2 5 rfl (eX (n := 4) rfl rfl) ?_
   refine zz2 6 rfl (bK rfl bo aL) ?_
   refine zz9 [7] (fun iq hq => ?_)
   obtain rfl := List.mem_singleton.1 hq
   refine aX rfl ?_
   refine zz0 (aB rfl mo (fun w hw => nH i w hI)) ?_
   refine bB ?_
   refine zz9 [8] (fun iq hq => ?_)
   obtain rfl := List.mem_singleton.1 hq
   refine aX rfl ?_
   refine cT (fun _ : WL => .int .i64 (bO l s.w (s.m.r7 - 4) 4 (cv i)).2) [mapE bm u8V wl] (fun wl' => [mapE bm u8V wl']) (ok := fun wl' => cx wl' = (bO l s.w (s.m.r7 - 4) 4 (cv i)).1 ∧ wl'.length ≤ wl.length + 4) (dd := fun _ => 0) rfl lM (by repeat' constructor) (fun w hw => Nat.le_refl _) (fun w hw => by have q := kw bM bm VR rs l (s.m.r7 - 4) 4 (cv i) wl w (hw.own (by repeat' constructor)) (hM.mono (hw.lessB (Lo := [mapE bm u8V wl]) (by repeat' constructor))) hO; rw [hwl] at q; exact q) rfl (fun wl2 hw2 => ?_)
   refine bB ?_
   refine zz2 9 rfl (ad rfl) ?_
   refine eh ?_
   refine aa (af (ab (zz0 (ac rfl) (zz0 (dk rfl rfl) (ae (aa ?_))))))
   refine ak rfl ?_ ?_ <;> intro h5 <;> try simp only [bs] at h5
   ·refine af (ab (zz0 (ac rfl) (zz0 (ad rfl) (ae (aa (ao (an ?_)))))))
    refine aI iG rfl (fun w' hw => ?_)
    have hq : eR l s i (cv i) = (s, (bO l s.w (s.m.r7 - 4) 4 (cv i)).2) := by unfold eR; repeat (first | rw [if_pos (by first | assumption | omega)] | rw [if_neg (by first | assumption | omega)])
    exact ⟨wl2, by rw [hq]; try rfl, by rw [hq]; exact hw.upd (Bg.le.refl _) (by repeat' constructor), by rw [hq]; exact ⟨hw2.1.trans (mV (by assumption)), hw2.2⟩⟩
   ·refine ax (aa (af (ab (zz0 (ac rfl) (zz0 (ac rfl) (zz0 (eX (n := 4) rfl rfl) ?_))))))
    refine zz0 (aH rfl) ?_
    refine zz0 (zz3 (off := 0) (ft := 40) rfl aC rfl aP) ?_
    refine zz0 (zz3 (off := 0) (ft := 36) rfl aA rfl bG) ?_
    refine zz0 (fj rfl rfl aY ah) ?_
    refine kr rfl rfl ah (by repeat constructor) (il (k := 7) (by omega) (by simp) _) (by rfl) (by rw [io]; first | (simp; done) | (simp; omega)) ?_
    refine ae (aa (af (ab (zz0 (ac rfl) (zz0 (ac rfl) (zz0 (aH rfl) ?_))))))
    refine zz0 (zz3 (off := 0) (ft := 40) rfl aC rfl aP) ?_
    refine zz0 (zz3 (off := 8) (ft := 23) rfl aA rfl ah) ?_
    refine zz4 rfl rfl ah (kZ _) ?_
    refine ae (aa (af (ab (zz0 (ad rfl) (ae (aa (ao ?_)))))))
    refine aI iG rfl (fun w' hw => ?_)
    have hq : eR l s i (cv i) = ({ s with w := (bO l s.w (s.m.r7 - 4) 4 (cv i)).1, m := (s.m.set 7 (s.m.r7 - 4)).to (s.m.reg i.a) }, 0) := by unfold eR; repeat (first | rw [if_pos (by first | assumption | omega)] | rw [if_neg (by first | assumption | omega)])
    exact ⟨wl2, by rw [hq]; try rfl, by rw [hq]; exact hw.upd (Bg.le.refl _) (by repeat' constructor), by rw [hq]; exact ⟨hw2.1, hw2.2⟩⟩
  ·refine ax (aa (af (af (bI ([cellE bc (bJ s bM vi vo eff) 82, cellE b1 (eC.enc i) 114]) 10 rfl aU ?_))))
   refine zz2 0 rfl (ac rfl) ?_
   refine zz2 1 rfl (aH rfl) ?_
   refine zz2 2 rfl (zz3 (off := 13) (ft := 68) rfl aC rfl fp) ?_
   refine zz2 3 rfl (fH rfl fW) ?_
   refine zz2 4 rfl (ac rfl) ?_
   refine zz2 5 rfl (eX (n := 4) rfl rfl) ?_
   refine zz2 6 rfl (bK rfl bo aL) ?_
   refine zz9 [7] (fun iq hq => ?_)
   obtain rfl := List.mem_singleton.1 hq
   refine aX rfl ?_
   refine zz0 (aB rfl mo (fun w hw => nH i w hI)) ?_
   refine bB ?_
   refine zz9 [8] (fun iq hq => ?_)
   obtain rfl := List.mem_singleton.1 hq
   refine aX rfl ?_
   refine cT (fun _ : WL => .int .i64 (bO l s.w (s.m.r7 - 4) 4 (cv i)).2) [mapE bm u8V wl] (fun wl' => [mapE bm u8V wl']) (ok := fun wl' => cx wl' = (bO l s.w (s.m.r7 - 4) 4 (cv i)).1 ∧ wl'.length ≤ wl.length + 4) (dd := fun _ => 0) rfl lM (by repeat' constructor) (fun w hw => Nat.le_refl _) (fun w hw => by have q := kw bM bm VR rs l (s.m.r7 - 4) 4 (cv i) wl w (hw.own (by repeat' constructor)) (hM.mono (hw.lessB (Lo := [mapE bm u8V wl]) (by repeat' constructor))) hO; rw [hwl] at q; exact q) rfl (fun wl2 hw2 => ?_)
   refine bB ?_
   refine zz2 9 rfl (ad rfl) ?_
   refine eh ?_
   refine aa (af (ab (zz0 (ac rfl) (zz0 (dk rfl rfl) (ae (aa ?_))))))
   refine ak rfl ?_ ?_ <;> intro h6 <;> try simp only [bs] at h6
   ·refine af (ab (zz0 (ac rfl) (zz0 (ad rfl) (ae (aa (ao (an ?_)))))))
    refine aI iG rfl (fun w' hw => ?_)
    have hq : eR l s i (cv i) = (s, (bO l s.w (s.m.r7 - 4) 4 (cv i)).2) := by unfold eR; repeat (first | rw [if_pos (by first | assumption | omega)] | rw [if_neg (by first | assumption | omega)])
    exact ⟨wl2, by rw [hq]; try rfl, by rw [hq]; exact hw.upd (Bg.le.refl _) (by repeat' constructor), by rw [hq]; exact ⟨hw2.1.trans (mV (by assumption)), hw2.2⟩⟩
   ·refine ax (aa (af (ab (zz0 (ac rfl) (zz0 (ac rfl) (zz0 (eX (n := 4) rfl rfl) ?_))))))
    refine zz0 (aH rfl) ?_
    refine zz0 (zz3 (off := 0) (ft := 40) rfl aC rfl aP) ?_
    refine zz0 (zz3 (off := 0) (ft := 36) rfl aA rfl bG) ?_
    refine zz0 (fj rfl rfl aY ah) ?_
    refine kr rfl rfl ah (by repeat constructor) (il (k := 7) (by omega) (by simp) _) (by rfl) (by rw [io]; first | (simp; done) | (simp; omega)) ?_
    refine ae (aa (af (ab (zz0 (ac rfl) (zz0 (ac rfl) (zz0 (aH rfl) ?_))))))
    refine zz0 (zz3 (off := 0) (ft := 40) rfl aC rfl aP) ?_
    refine zz0 (zz3 (off := 8) (ft := 23) rfl aA rfl ah) ?_
    refine zz4 rfl rfl ah (kZ _) ?_
    refine ae (aa (af (ab (zz0 (ad rfl) (ae (aa (ao ?_)))))))
    refine aI iG rfl (fun w' hw => ?_)
    have hq : eR l s i (cv i) = ({ s with w := (bO l s.w (s.m.r7 - 4) 4 (cv i)).1, m := (s.m.set 7 (s.m.r7 - 4)).to i.imm }, 0) := by unfold eR; repeat (first | rw [if_pos (by first | assumption | omega)] | rw [if_neg (by first | assumption | omega)])
    exact ⟨wl2, by rw [hq]; try rfl, by rw [hq]; exact hw.upd (Bg.le.refl _) (by repeat' constructor), by rw [hq]; exact ⟨hw2.1, hw2.2⟩⟩
theorem wP (s : St) (bc bM : Nat) (vi vo eff : Value) (inp : List UInt32) (i : Ins) (w : World) (ho : OwnAt w [cellE bc (bJ s bM vi vo eff) 82, rowE vo 23 av s.out]) (hin : Sl (Bg.lessB w (cg [cellE bc (bJ s bM vi vo eff) 82, rowE vo 23 av s.out]) 0).blk av inp vi) (hvo : ∃ a n c, vo = .slice a n c) (hI : InsOK i) (hA : 0 ≤ i.a ∧ i.a < 8) (hB : 0 ≤ i.b ∧ i.b < 8) :
  Calls Tryz.prog 88 #[.pointer (some ⟨bc, 0, none⟩), .agg (eC.enc i).toArray] w (fun e w' => ∃ vo' : Value, e = .returned (.int .i64 (df inp s i (cv i)).2) ∧ Upd 0 w w' (cg [cellE bc (bJ s bM vi vo eff) 82, rowE vo 23 av s.out]) [cellE bc (bJ (df inp s i (cv i)).1 bM vi vo' eff) 82, rowE vo' 23 av (df inp s i (cv i)).1.out] ∧ True) := by
 have hil := hin.len_le
 refine ik (L := [cellE bc (bJ s bM vi vo eff) 82, rowE vo 23 av s.out]) ho rfl (Nat.zero_le _) Tryz.func88 rfl Tryz.ntmps88 rfl ?_
 refine af (ab ?_)
 refine cM rfl rfl rfl (fun b1 => ?_)
 refine zz0 (ad rfl) (ae (aa (af (af (ab (zz0 (zz3 (off := 2) (ft := 3) rfl ag rfl aj) ?_))))))
 refine zz0 (aM rfl aD) ?_
 refine zz0 (aN rfl rfl) (ae (aa ?_))
 refine ak rfl ?_ ?_ <;> intro h2 <;> try simp only [bs] at h2
 ·refine af (af (bI ([cellE bc (bJ s bM vi vo eff) 82, cellE b1 (eC.enc i) 114]) 10 rfl aU ?_))
  refine zz2 0 rfl (ac rfl) ?_
  refine zz2 1 rfl (aH rfl) ?_
  refine zz2 2 rfl (zz3 (off := 15) (ft := 3) rfl aC rfl aj) ?_
  refine zz2 3 rfl (fH rfl aD) ?_
  refine zz2 4 rfl (ac rfl) ?_
  refine zz2 5 rfl (aH rfl) ?_
  refine zz2 6 rfl (zz3 (off := 14) (ft := 24) rfl aC rfl cC) ?_
  refine zz2 7 rfl (fH rfl dF) ?_
  refine zz9 [8] (fun iq hq => ?_)
  obtain rfl := List.mem_singleton.1 hq
  refine aX rfl ?_
  refine zz0 (gI rfl al) ?_
  refine bB ?_
  refine zz2 9 rfl (dl rfl rfl) ?_
  refine eh ?_
  refine aa ?_
  refine ak rfl ?_ ?_ <;> intro h3 <;> try simp only [bs] at h3
  ·refine af (ab (zz0 (ad rfl) (ae (aa (ao (an (an ?_)))))))
   refine aI iF rfl (fun w' hw => ?_)
   have hq : df inp s i (cv i) = (s, 14) := by unfold df; repeat (first | rw [if_pos (by first | assumption | omega)] | rw [if_neg (by first | assumption | omega)])
   exact ⟨vo, by rw [hq]; try rfl, by rw [hq]; exact hw.upd (Bg.le.refl _) (by repeat' constructor), trivial⟩
  ·refine ax (aa ?_)
   refine eJ (ι := Unit) (fun u => True) (fun _ => (Bg.lessB w (cg [cellE bc (bJ s bM vi vo eff) 82, rowE vo 23 av s.out]) 0)) (fun u => [cellE b1 (eC.enc i) 114, cellE bc (bJ (s.setR i.a (inp.getD s.read default)) bM vi vo eff) 82, rowE vo 23 av s.out]) (fun u => []) ?_ (fun u hi => ?_)
   ·skip
    refine bI ([cellE b1 (eC.enc i) 114]) 18 rfl aU ?_
    refine zz2 0 rfl (ac rfl) ?_
    refine zz2 1 rfl (zz3 (off := 6) (ft := 3) rfl ag rfl aj) ?_
    refine zz2 2 rfl (aM rfl aD) ?_
    refine zz2 3 rfl (ac rfl) ?_
    refine zz2 4 rfl (aH rfl) ?_
    refine zz2 5 rfl (zz3 (off := 14) (ft := 24) rfl aC rfl cC) ?_
    refine zz2 7 rfl (ac rfl) ?_
    refine zz2 8 rfl (aH rfl) ?_
    refine zz2 9 rfl (zz3 (off := 15) (ft := 3) rfl aC rfl aj) ?_
    refine zz2 13 rfl (aH rfl) ?_
    refine zz2 14 rfl (zz3 (off := 0) (ft := 40) rfl aC rfl aP) ?_
    refine zz2 15 rfl (zz3 (off := 0) (ft := 36) rfl aA rfl bG) ?_
    refine zz9 [6, 10] (fun iq hq => ?_)
    rcases List.mem_cons.1 hq with rfl | hq
    ·skip
     refine aX rfl ?_
     refine zz0 (fH rfl dF) ?_
     refine bB ?_
     refine zz9 [10] (fun iq hq => ?_)
     obtain rfl := List.mem_singleton.1 hq
     refine aX rfl ?_
     refine zz0 (fH rfl aD) ?_
     refine bB ?_
     refine zz2 11 rfl (i9 rfl rfl al ah) ?_
     refine zz2 12 rfl (gK rfl az) ?_
     refine zz2 16 rfl (fj rfl rfl aY ah) ?_
     refine zz9 [17] (fun iq hq => ?_)
     obtain rfl := List.mem_singleton.1 hq
     refine aX rfl ?_
     refine kr rfl rfl ah (by repeat constructor) (il hA (by simp) _) (by rfl) (by rw [io]; first | (simp; done) | (simp; omega)) ?_
     refine bB ?_
     refine eh ?_
     refine aa ?_
     apply aZ ()
     ·exact rfl
     ·exact Front.nil
     ·exact bQ 17 rfl
     ·exact (by repeat' constructor)
     ·exact trivial
    obtain rfl := List.mem_singleton.1 hq
    refine aX rfl ?_
    refine zz0 (fH rfl aD) ?_
    refine bB ?_
    refine zz9 [6] (fun iq hq => ?_)
    obtain rfl := List.mem_singleton.1 hq
    refine aX rfl ?_
    refine zz0 (fH rfl dF) ?_
    refine bB ?_
    refine zz2 11 rfl (i9 rfl rfl al ah) ?_
    refine zz2 12 rfl (gK rfl az) ?_
    refine zz2 16 rfl (fj rfl rfl aY ah) ?_
    refine zz9 [17] (fun iq hq => ?_)
    obtain rfl := List.mem_singleton.1 hq
    refine aX rfl ?_
    refine kr rfl rfl ah (by repeat constructor) (il hA (by simp) _) (by rfl) (by rw [io]; first | (simp; done) | (simp; omega)) ?_
    refine bB ?_
    refine eh ?_
    refine aa ?_
    apply aZ ()
    ·exact rfl
    ·exact Front.nil
    ·exact bQ 17 rfl
    ·exact (by repeat' constructor)
    ·exact trivial
   ·skip
    replace hi : True := hi
    change Tr _ _ [cellE b1 (eC.enc i) 114, cellE bc (bJ (s.setR i.a (inp.getD s.read default)) bM vi vo eff) 82, rowE vo 23 av s.out] ([] ++ _) _
    have hrd : (s.setR i.a (inp.getD s.read default)).read = s.read := rfl
    have hrl : s.read < inp.length := by omega
    refine ab (zz0 (ac rfl) (zz0 (aH rfl) ?_))
    refine zz0 (zz3 (off := 15) (ft := 3) rfl aC rfl aj) ?_
    refine zz0 (fH rfl aD) ?_
    refine zz0 (dq rfl rfl) ?_
    refine zz0 (aH rfl) ?_
    refine zz0 (zz3 (off := 15) (ft := 3) rfl aC rfl aj) ?_
    refine zz4 rfl rfl aj (xE (s := s.setR i.a (inp.getD s.read default))) ?_
    refine ae (aa (af (ab (zz0 (ac rfl) (zz0 (bK rfl bo aL) ?_)))))
    refine cT (fun _ : Unit => .tuple #[]) [cellE bc (bJ ({ s.setR i.a (inp.getD s.read default) with read := s.read + 1 }) bM vi vo eff) 82] (fun _ => [cellE bc (bJ (({ s.setR i.a (inp.getD s.read default) with read := s.read + 1 }).to (cv i)) bM vi vo eff) 82]) (ok := fun _ => True) (dd := fun _ => 0) rfl gx (by repeat' constructor) (fun w hw => Nat.le_refl _) (fun w hw => iM ({ s.setR i.a (inp.getD s.read default) with read := s.read + 1 }) bc bM vi vo eff i w (hw.own (by repeat' constructor)) hI) rfl (fun _ _ => ?_)
    refine ae (aa (af (ab (zz0 (ad rfl) (ae (aa (ao ?_)))))))
    refine aI iF rfl (fun w' hw => ?_)
    have hq : df inp s i (cv i) = ({ s with m := (s.m.set i.a (inp.getD s.read default)).to (cv i), read := s.read + 1 }, 0) := by unfold df; repeat (first | rw [if_pos (by first | assumption | omega)] | rw [if_neg (by first | assumption | omega)])
    exact ⟨vo, by rw [hq]; try rfl, by rw [hq]; exact hw.upd (Bg.le.refl _) (by repeat' constructor), trivial⟩
 ·refine af (af (ab (zz0 (ac rfl) (zz0 (aH rfl) ?_))))
  refine zz0 (zz3 (off := 16) (ft := 24) rfl aC rfl cC) ?_
  refine zz0 (fH rfl dF) ?_
  refine zz0 (fh rfl (by repeat constructor) al) ?_
  refine zz0 (dl rfl rfl) (ae (aa ?_))
  refine ak rfl ?_ ?_ <;> intro h4 <;> try simp only [bs] at h4
  ·refine af (ab (zz0 (ad rfl) (ae (aa (ao (an (an ?_)))))))
   refine aI iF rfl (fun w' hw => ?_)
   have hq : df inp s i (cv i) = (s, 6) := by unfold df; repeat (first | rw [if_pos (by first | assumption | omega)] | rw [if_neg (by first | assumption | omega)])
   exact ⟨vo, by rw [hq]; try rfl, by rw [hq]; exact hw.upd (Bg.le.refl _) (by repeat' constructor), trivial⟩
  ·refine ax (aa (bI ([cellE b1 (eC.enc i) 114]) 18 rfl aU ?_))
   refine zz2 0 rfl (ac rfl) ?_
   refine zz2 1 rfl (ac rfl) ?_
   refine zz2 2 rfl (aH rfl) ?_
   refine zz2 3 rfl (zz3 (off := 16) (ft := 24) rfl aC rfl cC) ?_
   refine zz2 5 rfl (ac rfl) ?_
   refine zz2 6 rfl (zz3 (off := 6) (ft := 3) rfl ag rfl aj) ?_
   refine zz2 7 rfl (aM rfl aD) ?_
   refine zz2 8 rfl (aH rfl) ?_
   refine zz2 9 rfl (zz3 (off := 0) (ft := 40) rfl aC rfl aP) ?_
   refine zz2 10 rfl (zz3 (off := 0) (ft := 36) rfl aA rfl bG) ?_
   refine zz2 11 rfl (fj rfl rfl aY ah) ?_
   refine zz9 [4, 12] (fun iq hq => ?_)
   rcases List.mem_cons.1 hq with rfl | hq
   ·skip
    refine aX rfl ?_
    refine zz0 (fH rfl dF) ?_
    refine bB ?_
    refine zz9 [12] (fun iq hq => ?_)
    obtain rfl := List.mem_singleton.1 hq
    refine aX rfl ?_
    refine zz0 (dZ rfl (by repeat constructor) az (im hA (by simp))) ?_
    refine bB ?_
    refine zz9 [13] (fun iq hq => ?_)
    obtain rfl := List.mem_singleton.1 hq
    refine aX rfl ?_
    refine fB (E := av) (s.m.reg i.a) rfl rfl al ah fm (by rfl) (by rfl) rfl (fun V5 => ?_)
    refine bB ?_
    refine zz9 [14] (fun iq hq => ?_)
    obtain rfl := List.mem_singleton.1 hq
    refine aX rfl ?_
    refine zz8 rfl rfl al gy (fun V44 => ?_)
    refine jm (V := V44) (fun pn cn hpv => ?_)
    subst hpv
    refine bB ?_
    refine zz2 15 rfl (aH rfl) ?_
    refine zz2 16 rfl (zz3 (off := 16) (ft := 24) rfl aC rfl cC) ?_
    refine zz9 [17] (fun iq hq => ?_)
    obtain rfl := List.mem_singleton.1 hq
    refine aX rfl ?_
    refine zz4 rfl rfl cC (qy _) ?_
    refine bB ?_
    refine eh ?_
    refine aa (af (ab (zz0 (ac rfl) (zz0 (bK rfl bo aL) ?_))))
    refine cT (fun _ : Unit => .tuple #[]) [cellE bc (bJ (s) bM vi (.slice pn (s.out ++ [s.m.reg i.a]).length cn) eff) 82] (fun _ => [cellE bc (bJ ((s).to (cv i)) bM vi (.slice pn (s.out ++ [s.m.reg i.a]).length cn) eff) 82]) (ok := fun _ => True) (dd := fun _ => 0) rfl gx (by repeat' constructor) (fun w hw => Nat.le_refl _) (fun w hw => iM (s) bc bM vi (.slice pn (s.out ++ [s.m.reg i.a]).length cn) eff i w (hw.own (by repeat' constructor)) hI) rfl (fun _ _ => ?_)
    refine ae (aa (af (ab (zz0 (ad rfl) (ae (aa (ao ?_)))))))
    refine aI iF rfl (fun w' hw => ?_)
    have hq : df inp s i (cv i) = ({ s with m := s.m.to (cv i), out := s.out ++ [s.m.reg i.a] }, 0) := by unfold df; repeat (first | rw [if_pos (by first | assumption | omega)] | rw [if_neg (by first | assumption | omega)])
    exact ⟨(.slice pn (s.out ++ [s.m.reg i.a]).length cn), by rw [hq]; try rfl, by rw [hq]; exact hw.upd (Bg.le.refl _) (by repeat' constructor), trivial⟩
   obtain rfl := List.mem_singleton.1 hq
   refine aX rfl ?_
   refine zz0 (dZ rfl (by repeat constructor) az (im hA (by simp))) ?_
   refine bB ?_
   refine zz9 [4, 13] (fun iq hq => ?_)
   rcases List.mem_cons.1 hq with rfl | hq
   ·skip
    refine aX rfl ?_
    refine zz0 (fH rfl dF) ?_
    refine bB ?_
    refine zz9 [13] (fun iq hq => ?_)
    obtain rfl := List.mem_singleton.1 hq
    refine aX rfl ?_
    refine fB (E := av) (s.m.reg i.a) rfl rfl al ah fm (by rfl) (by rfl) rfl (fun V6 => ?_)
    refine bB ?_
    refine zz9 [14] (fun iq hq => ?_)
    obtain rfl := List.mem_singleton.1 hq
    refine aX rfl ?_
    refine zz8 rfl rfl al gy (fun V44 => ?_)
    refine jm (V := V44) (fun pn cn hpv => ?_)
    subst hpv
    refine bB ?_
    refine zz2 15 rfl (aH rfl) ?_
    refine zz2 16 rfl (zz3 (off := 16) (ft := 24) rfl aC rfl cC) ?_
    refine zz9 [17] (fun iq hq => ?_)
    obtain rfl := List.mem_singleton.1 hq
    refine aX rfl ?_
    refine zz4 rfl rfl cC (qy _) ?_
    refine bB ?_
    refine eh ?_
    refine aa (af (ab (zz0 (ac rfl) (zz0 (bK rfl bo aL) ?_))))
    refine cT (fun _ : Unit => .tuple #[]) [cellE bc (bJ (s) bM vi (.slice pn (s.out ++ [s.m.reg i.a]).length cn) eff) 82] (fun _ => [cellE bc (bJ ((s).to (cv i)) bM vi (.slice pn (s.out ++ [s.m.reg i.a]).length cn) eff) 82]) (ok := fun _ => True) (dd := fun _ => 0) rfl gx (by repeat' constructor) (fun w hw => Nat.le_refl _) (fun w hw => iM (s) bc bM vi (.slice pn (s.out ++ [s.m.reg i.a]).length cn) eff i w (hw.own (by repeat' constructor)) hI) rfl (fun _ _ => ?_)
    refine ae (aa (af (ab (zz0 (ad rfl) (ae (aa (ao ?_)))))))
    refine aI iF rfl (fun w' hw => ?_)
    have hq : df inp s i (cv i) = ({ s with m := s.m.to (cv i), out := s.out ++ [s.m.reg i.a] }, 0) := by unfold df; repeat (first | rw [if_pos (by first | assumption | omega)] | rw [if_neg (by first | assumption | omega)])
    exact ⟨(.slice pn (s.out ++ [s.m.reg i.a]).length cn), by rw [hq]; try rfl, by rw [hq]; exact hw.upd (Bg.le.refl _) (by repeat' constructor), trivial⟩
   obtain rfl := List.mem_singleton.1 hq
   refine aX rfl ?_
   refine fB (E := av) (s.m.reg i.a) rfl rfl al ah fm (by rfl) (by rfl) rfl (fun V7 => ?_)
   refine bB ?_
   refine zz9 [4] (fun iq hq => ?_)
   obtain rfl := List.mem_singleton.1 hq
   refine aX rfl ?_
   refine zz0 (fH rfl dF) ?_
   refine bB ?_
   refine zz9 [14] (fun iq hq => ?_)
   obtain rfl := List.mem_singleton.1 hq
   refine aX rfl ?_
   refine zz8 rfl rfl al gy (fun V44 => ?_)
   refine jm (V := V44) (fun pn cn hpv => ?_)
   subst hpv
   refine bB ?_
   refine zz2 15 rfl (aH rfl) ?_
   refine zz2 16 rfl (zz3 (off := 16) (ft := 24) rfl aC rfl cC) ?_
   refine zz9 [17] (fun iq hq => ?_)
   obtain rfl := List.mem_singleton.1 hq
   refine aX rfl ?_
   refine zz4 rfl rfl cC (qy _) ?_
   refine bB ?_
   refine eh ?_
   refine aa (af (ab (zz0 (ac rfl) (zz0 (bK rfl bo aL) ?_))))
   refine cT (fun _ : Unit => .tuple #[]) [cellE bc (bJ (s) bM vi (.slice pn (s.out ++ [s.m.reg i.a]).length cn) eff) 82] (fun _ => [cellE bc (bJ ((s).to (cv i)) bM vi (.slice pn (s.out ++ [s.m.reg i.a]).length cn) eff) 82]) (ok := fun _ => True) (dd := fun _ => 0) rfl gx (by repeat' constructor) (fun w hw => Nat.le_refl _) (fun w hw => iM (s) bc bM vi (.slice pn (s.out ++ [s.m.reg i.a]).length cn) eff i w (hw.own (by repeat' constructor)) hI) rfl (fun _ _ => ?_)
   refine ae (aa (af (ab (zz0 (ad rfl) (ae (aa (ao ?_)))))))
   refine aI iF rfl (fun w' hw => ?_)
   have hq : df inp s i (cv i) = ({ s with m := s.m.to (cv i), out := s.out ++ [s.m.reg i.a] }, 0) := by unfold df; repeat (first | rw [if_pos (by first | assumption | omega)] | rw [if_neg (by first | assumption | omega)])
   exact ⟨(.slice pn (s.out ++ [s.m.reg i.a]).length cn), by rw [hq]; try rfl, by rw [hq]; exact hw.upd (Bg.le.refl _) (by repeat' constructor), trivial⟩
theorem vv (s : St) (bc bM : Nat) (vi vo eff : Value) (i : Ins) (w : World) (ho : OwnAt w [cellE bc (bJ s bM vi vo eff) 82]) :
  Calls Tryz.prog 61 #[.pointer (some ⟨bc, 0, none⟩), .agg (eC.enc i).toArray] w (fun e w' => ∃ _ : Unit, e = .returned (.tuple #[]) ∧ Upd 0 w w' (cg [cellE bc (bJ s bM vi vo eff) 82]) [cellE bc (bJ s bM vi vo (mg i.op)) 82] ∧ True) := by
 refine ik (L := [cellE bc (bJ s bM vi vo eff) 82]) ho rfl (Nat.zero_le _) Tryz.func61 rfl Tryz.ntmps61 rfl ?_
 refine af (ab ?_)
 refine cM rfl rfl rfl (fun b1 => ?_)
 refine ae (aa (af (ab (zz0 (zz3 (off := 2) (ft := 3) rfl ag rfl aj) ?_))))
 refine zz0 (aM rfl aD) ?_
 refine ae (aa (aQ (af (af (ab (zz0 (aN rfl rfl) (zz0 (ad rfl) (ae (aa ?_)))))))))
 apply cI
 ·exact rfl
 ·intro hO2
  try simp only [bs] at hO2
  refine ab (zz0 (aN rfl rfl) (zz0 (ad rfl) (ae (aa ?_))))
  exact cX rfl (bQ 2 rfl)
 refine aa ?_
 refine ak rfl ?_ ?_ <;> intro h3 <;> try simp only [bs] at h3
 ·refine ab (zz0 (ac rfl) (zz0 (aH rfl) ?_))
  refine zz0 (zz3 (off := 19) (ft := 80) rfl aC rfl eM) ?_
  refine zz4 rfl rfl eM (lI _) ?_
  refine ae (a9 ?_)
  refine gj iH (fun w' hw => ?_)
  have he : mg i.op = .func (.func 84) #[] #[] := by unfold mg ou; repeat (first | rw [if_pos (by omega)] | rw [if_neg (by omega)])
  rw [← he] at hw
  exact ⟨(), rfl, hw.upd (Bg.le.refl _) (by repeat' constructor), trivial⟩
 ·refine af (af (ab (zz0 (aN rfl rfl) (zz0 (ad rfl) (ae (aa ?_))))))
  apply cI
  ·exact rfl
  ·intro hO4
   try simp only [bs] at hO4
   refine af (ab (zz0 (aN rfl rfl) (zz0 (ad rfl) (ae (aa ?_)))))
   apply cI
   ·exact rfl
   ·intro hO5
    try simp only [bs] at hO5
    refine ab (zz0 (aN rfl rfl) (zz0 (ad rfl) (ae (aa ?_))))
    exact cX rfl (bQ 2 rfl)
   refine aa ?_
   exact cX rfl (bQ 3 rfl)
  refine aa ?_
  refine ak rfl ?_ ?_ <;> intro h6 <;> try simp only [bs] at h6
  ·refine ab (zz0 (ac rfl) (zz0 (aH rfl) ?_))
   refine zz0 (zz3 (off := 19) (ft := 80) rfl aC rfl eM) ?_
   refine zz4 rfl rfl eM (lI _) ?_
   refine ae (a9 ?_)
   refine gj iH (fun w' hw => ?_)
   have he : mg i.op = .func (.func 85) #[] #[] := by unfold mg ou; repeat (first | rw [if_pos (by omega)] | rw [if_neg (by omega)])
   rw [← he] at hw
   exact ⟨(), rfl, hw.upd (Bg.le.refl _) (by repeat' constructor), trivial⟩
  ·refine af (af (ab (zz0 (aN rfl rfl) (zz0 (ad rfl) (ae (aa ?_))))))
   apply cI
   ·exact rfl
   ·intro hO7
    try simp only [bs] at hO7
    refine af (ab (zz0 (aN rfl rfl) (zz0 (ad rfl) (ae (aa ?_)))))
    apply cI
    ·exact rfl
    ·intro hO8
     try simp only [bs] at hO8
     refine ab (zz0 (aN rfl rfl) (zz0 (ad rfl) (ae (aa ?_))))
     exact cX rfl (bQ 2 rfl)
    refine aa ?_
    exact cX rfl (bQ 3 rfl)
   refine aa ?_
   refine ak rfl ?_ ?_ <;> intro h9 <;> try simp only [bs] at h9
   ·refine ab (zz0 (ac rfl) (zz0 (aH rfl) ?_))
    refine zz0 (zz3 (off := 19) (ft := 80) rfl aC rfl eM) ?_
    refine zz4 rfl rfl eM (lI _) ?_
    refine ae (a9 ?_)
    refine gj iH (fun w' hw => ?_)
    have he : mg i.op = .func (.func 86) #[] #[] := by unfold mg ou; repeat (first | rw [if_pos (by omega)] | rw [if_neg (by omega)])
    rw [← he] at hw
    exact ⟨(), rfl, hw.upd (Bg.le.refl _) (by repeat' constructor), trivial⟩
   ·refine af (af (ab (zz0 (aN rfl rfl) (zz0 (ad rfl) (ae (aa ?_))))))
    apply cI
    ·exact rfl
    ·intro hO10
     try simp only [bs] at hO10
     refine af (ab (zz0 (aN rfl rfl) (zz0 (ad rfl) (ae (aa ?_)))))
     apply cI
     ·exact rfl
     ·intro hO11
      try simp only [bs] at hO11
      refine ab (zz0 (aN rfl rfl) (zz0 (ad rfl) (ae (aa ?_))))
      exact cX rfl (bQ 2 rfl)
     refine aa ?_
     exact cX rfl (bQ 3 rfl)
    refine aa ?_
    refine ak rfl ?_ ?_ <;> intro h12 <;> try simp only [bs] at h12
    ·refine ab (zz0 (ac rfl) (zz0 (aH rfl) ?_))
     refine zz0 (zz3 (off := 19) (ft := 80) rfl aC rfl eM) ?_
     refine zz4 rfl rfl eM (lI _) ?_
     refine ae (a9 ?_)
     refine gj iH (fun w' hw => ?_)
     have he : mg i.op = .func (.func 87) #[] #[] := by unfold mg ou; repeat (first | rw [if_pos (by omega)] | rw [if_neg (by omega)])
     rw [← he] at hw
     exact ⟨(), rfl, hw.upd (Bg.le.refl _) (by repeat' constructor), trivial⟩
    ·refine af (af (ab (zz0 (aN rfl rfl) (zz0 (ad rfl) (ae (aa ?_))))))
     apply cI
     ·exact rfl
     ·intro hO13
      try simp only [bs] at hO13
      refine ab (zz0 (aN rfl rfl) (zz0 (ad rfl) (ae (aa ?_))))
      exact cX rfl (bQ 2 rfl)
     refine aa ?_
     refine ak rfl ?_ ?_ <;> intro h14 <;> try simp only [bs] at h14
     ·refine ab (zz0 (ac rfl) (zz0 (aH rfl) ?_))
      refine zz0 (zz3 (off := 19) (ft := 80) rfl aC rfl eM) ?_
      refine zz4 rfl rfl eM (lI _) ?_
      refine ae (a9 ?_)
      refine gj iH (fun w' hw => ?_)
      have he : mg i.op = .func (.func 88) #[] #[] := by unfold mg ou; repeat (first | rw [if_pos (by omega)] | rw [if_neg (by omega)])
      rw [← he] at hw
      exact ⟨(), rfl, hw.upd (Bg.le.refl _) (by repeat' constructor), trivial⟩
     ·refine ab (zz0 (ac rfl) (zz0 (aH rfl) ?_))
      refine zz0 (zz3 (off := 19) (ft := 80) rfl aC rfl eM) ?_
      refine zz4 rfl rfl eM (lI _) ?_
      refine ae (a9 ?_)
      refine gj iH (fun w' hw => ?_)
      have he : mg i.op = .func (.func 89) #[] #[] := by unfold mg ou; repeat (first | rw [if_pos (by omega)] | rw [if_neg (by omega)])
      rw [← he] at hw
      exact ⟨(), rfl, hw.upd (Bg.le.refl _) (by repeat' constructor), trivial⟩
end Go.Proofs.YtpeaodkfbjenpaaGreat
namespace Go.Proofs.YtpeaodkfbjenpaaGreat
open Go Go.HL Go.RowKit
theorem AX (s : St) (bc bM bm : Nat) (VR vi vo eff : Value) (rs : List RegV) (l : List SecV) (wl : WL) (inp : List UInt32) (i : Ins) (w : World) (ho : OwnAt w [cellE bc (bJ s bM vi vo eff) 82, mapE bm u8V wl, rowE vo 23 av s.out]) (hC : CpuAt (Bg.lessB w (cg [cellE bc (bJ s bM vi vo eff) 82, mapE bm u8V wl, rowE vo 23 av s.out]) 0).blk bM bm VR vi rs inp) (hO : MemOK l rs) (hwl : cx wl = s.w) (hvo : ∃ a n c, vo = .slice a n c) (hI : InsOK i) (hA : 0 ≤ i.a ∧ i.a < 8) (hB : 0 ≤ i.b ∧ i.b < 8) :
  Calls Tryz.prog (ou i.op) #[.pointer (some ⟨bc, 0, none⟩), .agg (eC.enc i).toArray] w (fun e w' => ∃ j : WL × Value, e = .returned (.int .i64 (cU l inp s i (cv i)).2) ∧ Upd 0 w w' (cg [cellE bc (bJ s bM vi vo eff) 82, mapE bm u8V wl, rowE vo 23 av s.out]) [cellE bc (bJ (cU l inp s i (cv i)).1 bM vi j.2 eff) 82, mapE bm u8V j.1, rowE j.2 23 av (cU l inp s i (cv i)).1.out] ∧ (cx j.1 = (cU l inp s i (cv i)).1.w ∧ j.1.length ≤ wl.length + 4 ∧ ∃ a n c, j.2 = .slice a n c)) := by
 have hM2 : MemAt (Bg.lessB w (cg [cellE bc (bJ s bM vi vo eff) 82, mapE bm u8V wl]) 0).blk bM bm VR rs := hC.mem.mono (ud (uA (fun e he => by simp only [List.mem_cons, List.not_mem_nil, or_false] at he ⊢; rcases he with rfl | rfl <;> simp)))
 have hi3 : Sl (Bg.lessB w (cg [cellE bc (bJ s bM vi vo eff) 82, rowE vo 23 av s.out]) 0).blk av inp vi := hC.inp.mono (ud (uA (fun e he => by simp only [List.mem_cons, List.not_mem_nil, or_false] at he ⊢; rcases he with rfl | rfl <;> simp)))
 have ho2 : OwnAt w ([cellE bc (bJ s bM vi vo eff) 82, mapE bm u8V wl] ++ [rowE vo 23 av s.out]) := ho
 have ho1 : OwnAt w ([cellE bc (bJ s bM vi vo eff) 82] ++ [mapE bm u8V wl, rowE vo 23 av s.out]) := ho
 have hp : ([cellE bc (bJ s bM vi vo eff) 82, rowE vo 23 av s.out] ++ [mapE bm u8V wl]).Perm [cellE bc (bJ s bM vi vo eff) 82, mapE bm u8V wl, rowE vo 23 av s.out] := .cons _ (.swap _ _ _)
 have ho3 : OwnAt w ([cellE bc (bJ s bM vi vo eff) 82, rowE vo 23 av s.out] ++ [mapE bm u8V wl]) := ho.perm hp
 unfold ou cU
 by_cases h1 : i.op = 3 ∨ i.op = 4
 ·rw [if_pos h1, if_pos h1]
  refine (wT s bc bM bm VR vi vo eff rs l wl i w ho2.left hM2 hO hwl hI hA hB).mono fun e w' ⟨wl', q1, q2, q3, q4⟩ => ⟨(wl', vo), q1, ?_, q3, q4, hvo⟩
  rw [rp]; exact q2.frame ho2
 rw [if_neg h1, if_neg h1]
 by_cases h2 : i.op = 16 ∨ i.op = 17 ∨ i.op = 18
 ·rw [if_pos h2, if_pos h2]
  refine (vC s bc bM bm VR vi vo eff rs l wl i w ho2.left hM2 hO hwl hI hA hB).mono fun e w' ⟨wl', q1, q2, q3, q4⟩ => ⟨(wl', vo), q1, ?_, q3, q4, hvo⟩
  rw [qD]; exact q2.frame ho2
 rw [if_neg h2, if_neg h2]
 by_cases h3 : i.op = 20 ∨ i.op = 21 ∨ i.op = 22
 ·rw [if_pos h3, if_pos h3]
  refine (y7 s bc bM bm VR vi vo eff rs l wl i w ho2.left hM2 hO hwl hI hA hB).mono fun e w' ⟨wl', q1, q2, q3, q4⟩ => ⟨(wl', vo), q1, ?_, q3, q4, hvo⟩
  rw [ug]; exact q2.frame ho2
 rw [if_neg h3, if_neg h3]
 by_cases h4 : i.op = 23 ∨ i.op = 24 ∨ i.op = 2
 ·rw [if_pos h4, if_pos h4]
  refine (zE s bc bM bm VR vi vo eff rs l wl i w ho2.left hM2 hO hwl hI hA hB).mono fun e w' ⟨wl', q1, q2, q3, q4⟩ => ⟨(wl', vo), q1, ?_, q3, q4, hvo⟩
  rw [uy]; exact q2.frame ho2
 rw [if_neg h4, if_neg h4]
 by_cases h5 : i.op = 26 ∨ i.op = 27
 ·rw [if_pos h5, if_pos h5]
  refine (wP s bc bM vi vo eff inp i w ho3.left hi3 hvo hI hA hB).mono fun e w' ⟨vo', q1, q2, _⟩ => ⟨(wl, vo'), q1, ?_, by rw [vV]; exact hwl, Nat.le_add_right _ _, ?_⟩
  ·exact (q2.frame ho3).perm hp.symm (.cons _ (.swap _ _ _))
  ·have hr := q2.ent (rowE vo' 23 av (df inp s i (cv i)).1.out) (by simp)
   have hr' : RowOK vo' 23 av (df inp s i (cv i)).1.out (vo'.ownBlock.bind (w'.heap[·]?)) := hr
   rcases hr' with ⟨e1, _⟩ | ⟨g, cap, cur, e1, _⟩
   ·exact ⟨_, _, _, e1⟩
   ·exact ⟨_, _, _, e1⟩
 rw [if_neg h5, if_neg h5]
 refine (xj s bc bM vi vo eff i w ho1.left hI hA hB).mono fun e w' ⟨_, q1, q2, _⟩ => ⟨(wl, vo), q1, q2.frame ho1, hwl, Nat.le_add_right _ _, hvo⟩
theorem vn (op : Int) (args : Array Value) (w : World) : (callFunc (ou op) args).run Tryz.prog w = .ok (.enter (ou op) args) w := by
 unfold ou
 split
 ·exact Tryz.call84 args w
 split
 ·exact Tryz.call85 args w
 split
 ·exact Tryz.call86 args w
 split
 ·exact Tryz.call87 args w
 split
 ·exact Tryz.call88 args w
 ·exact Tryz.call89 args w
theorem zi (s : St) (bc bM bm : Nat) (VR vi vo eff : Value) (rs : List RegV) (l : List SecV) (wl : WL) (inp : List UInt32) (w : World) (ho : OwnAt w [cellE bc (bJ s bM vi vo eff) 82, mapE bm u8V wl, rowE vo 23 av s.out]) (hC : CpuAt (Bg.lessB w (cg [cellE bc (bJ s bM vi vo eff) 82, mapE bm u8V wl, rowE vo 23 av s.out]) 0).blk bM bm VR vi rs inp) (hO : MemOK l rs) (hwl : cx wl = s.w) (hvo : ∃ a n c, vo = .slice a n c) :
  Calls Tryz.prog 38 #[.pointer (some ⟨bc, 0, none⟩)] w (fun e w' => ∃ j : WL × Value × Value, e = .returned (.int .i64 (dX l inp s).2) ∧ Upd 0 w w' (cg [cellE bc (bJ s bM vi vo eff) 82, mapE bm u8V wl, rowE vo 23 av s.out]) [cellE bc (bJ (dX l inp s).1 bM vi j.2.1 j.2.2) 82, mapE bm u8V j.1, rowE j.2.1 23 av (dX l inp s).1.out] ∧ (cx j.1 = (dX l inp s).1.w ∧ j.1.length ≤ wl.length + 4 ∧ ∃ a n c, j.2.1 = .slice a n c)) := by
 refine ik (L := [cellE bc (bJ s bM vi vo eff) 82, mapE bm u8V wl, rowE vo 23 av s.out]) ho rfl (Nat.zero_le _) Tryz.func38 rfl Tryz.ntmps38 rfl ?_
 refine af (ab (zz0 (ad rfl) (ae (aa (af (bI ([cellE bc (bJ s bM vi vo eff) 82]) 15 rfl aU ?_))))))
 refine zz2 0 rfl (ac rfl) ?_
 refine zz2 1 rfl (aH rfl) ?_
 refine zz2 2 rfl (zz3 (off := 13) (ft := 68) rfl aC rfl fp) ?_
 refine zz2 3 rfl (fH rfl fW) ?_
 refine zz2 4 rfl (ac rfl) ?_
 refine zz2 5 rfl (aH rfl) ?_
 refine zz2 6 rfl (zz3 (off := 0) (ft := 40) rfl aC rfl aP) ?_
 refine zz2 7 rfl (zz3 (off := 8) (ft := 23) rfl aA rfl ah) ?_
 refine zz2 8 rfl (fH rfl az) ?_
 refine zz9 [9] (fun iq hq => ?_)
 obtain rfl := List.mem_singleton.1 hq
 refine aX rfl ?_
 refine oW (fun V => .tuple #[V, .int .i64 (dB l s.w s.m.pc).2]) rfl Tryz.call59 (fun w hw => by have q := u9 bM bm VR rs l s.m.pc wl w (hC.mem.mono hw.bg) hO (mapE.in_ (hw.ent _ (by repeat constructor))); rw [hwl] at q; exact q) rfl (fun V51 => ?_)
 refine bB ?_
 refine zz2 10 rfl (ac rfl) ?_
 refine zz2 11 rfl (ay rfl rfl) ?_
 refine zz2 12 rfl (ay rfl rfl) ?_
 refine zz2 13 rfl (ad rfl) ?_
 refine zz2 14 rfl (ad rfl) ?_
 refine eh ?_
 refine aa (af (af (ab (zz0 (ac rfl) (zz0 (dk rfl rfl) (ae (aa ?_)))))))
 refine ak rfl ?_ ?_ <;> intro h1 <;> try simp only [bs] at h1
 ·refine af (ab (zz0 (ac rfl) (zz0 (ad rfl) (ae (aa (ao (an ?_)))))))
  refine aI Tryz.results38 rfl (fun w' hw => ?_)
  have hq : dX l inp s = (s, (dB l s.w s.m.pc).2) := by unfold dX; rw [if_pos (by assumption)]
  exact ⟨(wl, vo, eff), by rw [hq]; try rfl, by rw [hq]; exact hw.upd (Bg.le.refl _) (by repeat' constructor), by rw [hq]; exact ⟨hwl, Nat.le_add_right _ _, hvo⟩⟩
 ·refine ax (aa (af (ab (zz0 (ac rfl) (zz0 (ac rfl) (zz0 (aH rfl) ?_))))))
  refine zz0 (zz3 (off := 0) (ft := 40) rfl aC rfl aP) ?_
  refine zz0 (zz3 (off := 8) (ft := 23) rfl aA rfl ah) ?_
  refine zz0 (fH rfl az) ?_
  refine zz0 (aB rfl Tryz.call60 (fun w hw => vp (dB l s.w s.m.pc).1 _ s.m.pc w (hw.row (by repeat constructor)))) ?_
  refine zz0 (ac rfl) (zz0 (ay rfl rfl) (zz0 (ay rfl rfl) ?_))
  refine c9 du rfl (fun b2 => ?_)
  refine bw eC rfl rfl aL ?_
  obtain ⟨ii, hii⟩ : ∃ ii, ii = (gv (dB l s.w s.m.pc).1 s.m.pc).1 := ⟨_, rfl⟩
  change Tr _ _ (cellE b2 (eC.enc (gv (dB l s.w s.m.pc).1 s.m.pc).1) 114 :: _) _ _
  rw [← hii]
  refine zz0 (ad rfl) (ae (aa (af (af (ab (zz0 (ac rfl) (zz0 (dk rfl rfl) (ae (aa ?_)))))))))
  refine ak rfl ?_ ?_ <;> intro h3 <;> try simp only [bs] at h3
  ·refine af (ab (zz0 (ac rfl) (zz0 (ad rfl) (ae (aa (ao (an ?_)))))))
   refine aI Tryz.results38 rfl (fun w' hw => ?_)
   have hq : dX l inp s = (s, (gv (dB l s.w s.m.pc).1 s.m.pc).2) := by unfold dX; rw [if_neg (by simp_all), if_pos (by assumption)]
   exact ⟨(wl, vo, eff), by rw [hq]; try rfl, by rw [hq]; exact hw.upd (Bg.le.refl _) (by repeat' constructor), by rw [hq]; exact ⟨hwl, Nat.le_add_right _ _, hvo⟩⟩
  ·refine ax (aa (af ?_))
   have hd0 : (gv (dB l s.w s.m.pc).1 s.m.pc).2 = 0 := by simp_all
   have hIi : InsOK ii := by rw [hii]; exact zo
   obtain ⟨hAi, hBi⟩ := uv hd0
   rw [← hii] at hAi hBi
   refine ab (zz0 (ac rfl) (zz0 (bK rfl bo aL) ?_))
   refine cT (fun _ : Unit => .tuple #[]) [cellE bc (bJ s bM vi vo eff) 82] (fun _ => [cellE bc (bJ s bM vi vo (mg ii.op)) 82]) (ok := fun _ => True) (dd := fun _ => 0) rfl Tryz.call61 (by repeat' constructor) (fun w hw => Nat.le_refl _) (fun w hw => vv s bc bM vi vo eff ii w (hw.own (by repeat' constructor))) rfl (fun _ _ => ?_)
   refine ae (aa (af (bI ([cellE b2 (eC.enc ii) 114]) 8 rfl aU ?_)))
   refine zz2 0 rfl (ac rfl) ?_
   refine zz2 1 rfl (aH rfl) ?_
   refine zz2 2 rfl (zz3 (off := 19) (ft := 80) rfl aC rfl eM) ?_
   refine zz2 4 rfl (ac rfl) ?_
   refine zz2 5 rfl (bK rfl bo aL) ?_
   refine zz9 [3] (fun iq hq => ?_)
   obtain rfl := List.mem_singleton.1 hq
   refine aX rfl ?_
   refine zz0 (fH rfl Tryz.isAgg80) ?_
   refine bB ?_
   refine zz9 [6] (fun iq hq => ?_)
   obtain rfl := List.mem_singleton.1 hq
   refine aX rfl ?_
   refine xQ (fun _ : WL × Value => .int .i64 (cU l inp s ii (cv ii)).2) [cellE bc (bJ s bM vi vo (mg ii.op)) 82, mapE bm u8V wl, rowE vo 23 av s.out] (fun j => [cellE bc (bJ (cU l inp s ii (cv ii)).1 bM vi j.2 (mg ii.op)) 82, mapE bm u8V j.1, rowE j.2 23 av (cU l inp s ii (cv ii)).1.out]) (ok := fun j => cx j.1 = (cU l inp s ii (cv ii)).1.w ∧ j.1.length ≤ wl.length + 4 ∧ ∃ a n c, j.2 = .slice a n c) (f := ou ii.op) (dd := fun _ => 0) rfl rfl (vn ii.op) (by repeat' constructor) (fun w hw => Nat.le_refl _) (fun w hw => AX s bc bM bm VR vi vo (mg ii.op) rs l wl inp ii w (hw.own (by repeat' constructor)) (hC.mono (hw.lessB (Lo := [cellE bc (bJ s bM vi vo (mg ii.op)) 82, mapE bm u8V wl, rowE vo 23 av s.out]) (by repeat' constructor))) hO hwl hvo hIi hAi hBi) rfl (fun j hj => ?_)
   refine bB ?_
   refine zz2 7 rfl (ad rfl) ?_
   refine eh ?_
   refine aa (ao ?_)
   refine aI Tryz.results38 rfl (fun w' hw => ?_)
   have hq : dX l inp s = cU l inp s ii (cv ii) := by rw [hii]; unfold dX; rw [if_neg (by simp_all), if_neg (by simp_all)]
   exact ⟨(j.1, j.2, mg ii.op), by rw [hq], by rw [hq]; exact hw.upd (Bg.le.refl _) (by repeat' constructor), by rw [hq]; exact hj⟩
theorem pL (s : St) (bc bM bm : Nat) (VR vi vo eff : Value) (rs : List RegV) (l : List SecV) (wl : WL) (inp : List UInt32) (w : World) (ho : OwnAt w [cellE bc (bJ s bM vi vo eff) 82, mapE bm u8V wl, rowE vo 23 av s.out]) (hC : CpuAt (Bg.lessB w (cg [cellE bc (bJ s bM vi vo eff) 82, mapE bm u8V wl, rowE vo 23 av s.out]) 0).blk bM bm VR vi rs inp) (hO : MemOK l rs) (hwl : cx wl = s.w) (hvo : ∃ a n c, vo = .slice a n c) :
  Calls Tryz.prog 19 #[.pointer (some ⟨bc, 0, none⟩)] w (fun e w' => ∃ j : WL × Value × Value, e = .returned (.int .i64 (stepS l inp s).2) ∧ Upd 0 w w' (cg [cellE bc (bJ s bM vi vo eff) 82, mapE bm u8V wl, rowE vo 23 av s.out]) [cellE bc (bJ (stepS l inp s).1 bM vi j.2.1 j.2.2) 82, mapE bm u8V j.1, rowE j.2.1 23 av (stepS l inp s).1.out] ∧ (cx j.1 = (stepS l inp s).1.w ∧ j.1.length ≤ wl.length + 4 ∧ ∃ a n c, j.2.1 = .slice a n c)) := by
 refine ik (L := [cellE bc (bJ s bM vi vo eff) 82, mapE bm u8V wl, rowE vo 23 av s.out]) ho rfl (Nat.zero_le _) Tryz.func19 rfl Tryz.ntmps19 rfl ?_
 refine af (ab (zz0 (ad rfl) (ae (aa (af (aQ (af (ab (zz0 (ac rfl) (zz0 (aB rfl km (fun w hw => ki s bc bM vi vo eff w (cellE.cellsIn (hw.ent _ (by repeat constructor)) (Ext.refl _)))) ?_))))))))))
 refine zz0 (cj rfl) (zz0 (ad rfl) (ae (aa ?_)))
 refine ak rfl ?_ ?_ <;> intro h1 <;> try simp only [bs] at h1
 ·first | contradiction | (exfalso; omega) | simp_all
 ·refine af (ab (zz0 (ac rfl) (zz0 (aH rfl) ?_)))
  refine zz0 (zz3 (off := 17) (ft := 4) rfl aC rfl bv) ?_
  refine zz0 (fH rfl bR) ?_
  refine zz0 (ad rfl) (ae (aa ?_))
  refine ak rfl ?_ ?_ <;> intro h2 <;> try simp only [bs] at h2
  ·refine af (ab (zz0 (ad rfl) (ae (aa (ao (bf (an ?_)))))))
   refine aI Tryz.results19 rfl (fun w' hw => ?_)
   have hq : stepS l inp s = (s, 21) := by unfold stepS; rw [if_pos (by assumption)]
   exact ⟨(wl, vo, eff), by rw [hq], by rw [hq]; exact hw.upd (Bg.le.refl _) (by repeat' constructor), by rw [hq]; exact ⟨hwl, Nat.le_add_right _ _, hvo⟩⟩
  ·refine af (ab (zz0 (ac rfl) (zz0 (aH rfl) ?_)))
   refine zz0 (zz3 (off := 18) (ft := 31) rfl aC rfl cS) ?_
   refine zz0 (fH rfl ee) ?_
   refine zz0 (aN rfl rfl) (zz0 (ad rfl) (ae (aa ?_)))
   refine ak rfl ?_ ?_ <;> intro h3 <;> try simp only [bs] at h3
   ·refine ab (zz0 (ac rfl) (zz0 (ac rfl) ?_))
    refine cT (fun _ : WL × Value × Value => .int .i64 (dX l inp s).2) [cellE bc (bJ s bM vi vo eff) 82, mapE bm u8V wl, rowE vo 23 av s.out] (fun j => [cellE bc (bJ (dX l inp s).1 bM vi j.2.1 j.2.2) 82, mapE bm u8V j.1, rowE j.2.1 23 av (dX l inp s).1.out]) (ok := fun j => cx j.1 = (dX l inp s).1.w ∧ j.1.length ≤ wl.length + 4 ∧ ∃ a n c, j.2.1 = .slice a n c) (dd := fun _ => 0) rfl Tryz.call38 (by repeat' constructor) (fun w hw => Nat.le_refl _) (fun w hw => zi s bc bM bm VR vi vo eff rs l wl inp w (hw.own (by repeat' constructor)) (hC.mono (hw.lessB (Lo := [cellE bc (bJ s bM vi vo eff) 82, mapE bm u8V wl, rowE vo 23 av s.out]) (by repeat' constructor))) hO hwl hvo) rfl (fun j hj => ?_)
    refine zz0 (aH rfl) ?_
    refine zz0 (zz3 (off := 18) (ft := 31) rfl aC rfl cS) ?_
    refine zz4 rfl rfl cS (zw _) ?_
    refine ae (a9 (aa (af (ab (zz0 (ac rfl) (zz0 (aH rfl) ?_))))))
    refine zz0 (zz3 (off := 18) (ft := 31) rfl aC rfl cS) ?_
    refine zz0 (fH rfl ee) ?_
    refine zz0 (ad rfl) (ae (aa (ao ?_)))
    refine aI Tryz.results19 rfl (fun w' hw => ?_)
    have hq : stepS l inp s = ({ (dX l inp s).1 with err := (dX l inp s).2 }, (dX l inp s).2) := by unfold stepS; rw [if_neg (by simp_all), if_neg (by simp_all)]
    exact ⟨j, by rw [hq]; try rfl, by rw [hq]; exact hw.upd (Bg.le.refl _) (by repeat' constructor), by rw [hq]; exact hj⟩
   ·refine ax (a9 (aa (af (ab (zz0 (ac rfl) (zz0 (aH rfl) ?_))))))
    refine zz0 (zz3 (off := 18) (ft := 31) rfl aC rfl cS) ?_
    refine zz0 (fH rfl ee) ?_
    refine zz0 (ad rfl) (ae (aa (ao ?_)))
    refine aI Tryz.results19 rfl (fun w' hw => ?_)
    have hq : stepS l inp s = (s, s.err) := by unfold stepS; rw [if_neg (by simp_all), if_pos (by assumption)]
    exact ⟨(wl, vo, eff), by rw [hq]; try rfl, by rw [hq]; exact hw.upd (Bg.le.refl _) (by repeat' constructor), by rw [hq]; exact ⟨hwl, Nat.le_add_right _ _, hvo⟩⟩
theorem rk (s : St) (bc bM bm : Nat) (VR vi vo eff : Value) (rs : List RegV) (l : List SecV) (wl : WL) (inp : List UInt32) (n : Int) (w : World) (ho : OwnAt w [cellE bc (bJ s bM vi vo eff) 82, mapE bm u8V wl, rowE vo 23 av s.out]) (hC : CpuAt (Bg.lessB w (cg [cellE bc (bJ s bM vi vo eff) 82, mapE bm u8V wl, rowE vo 23 av s.out]) 0).blk bM bm VR vi rs inp) (hO : MemOK l rs) (hwl : cx wl = s.w) (hvo : ∃ a n c, vo = .slice a n c) (hol : s.out.length ≤ 4096) :
  Calls Tryz.prog 15 #[.pointer (some ⟨bc, 0, none⟩), .int .i64 n] w (fun e w' => ∃ j : WL × Value × Value × Value × Value, e = .returned (.tuple #[j.2.2.2.1, .agg #[.int .i64 (jV (dm l inp (min n 65536).toNat s)), j.2.2.2.2, .int .i64 ((da l inp (min n 65536).toNat s).length : Nat)]]) ∧ Upd 0 w w' (cg [cellE bc (bJ s bM vi vo eff) 82, mapE bm u8V wl, rowE vo 23 av s.out]) [cellE bc (bJ (dm l inp (min n 65536).toNat s) bM vi j.2.1 j.2.2.1) 82, mapE bm u8V j.1, rowE j.2.1 23 av (dm l inp (min n 65536).toNat s).out, rowE j.2.2.2.1 23 av (da l inp (min n 65536).toNat s), rowE j.2.2.2.2 23 av (dm l inp (min n 65536).toNat s).out] ∧ (cx j.1 = (dm l inp (min n 65536).toNat s).w ∧ j.1.length ≤ wl.length + 4 * (da l inp (min n 65536).toNat s).length ∧ ∃ a n c, j.2.1 = .slice a n c)) := by
 refine ik (L := [cellE bc (bJ s bM vi vo eff) 82, mapE bm u8V wl, rowE vo 23 av s.out]) ho rfl (Nat.zero_le _) Tryz.func15 rfl Tryz.ntmps15 rfl ?_
 refine af (ab (zz0 (ad rfl) ?_))
 refine c9 di rfl (fun b1 => ?_)
 refine ae (aa (af (af (ab (zz0 (ac rfl) (zz0 (aB rfl km (fun w hw => ki s bc bM vi vo eff w (cellE.cellsIn (hw.ent _ (by repeat constructor)) (Ext.refl _)))) ?_))))))
 refine zz0 (cj rfl) (ae (aa ?_))
 refine ak rfl ?_ ?_ <;> intro h2 <;> try simp only [bs] at h2
 ·first | contradiction | (exfalso; omega) | simp_all
 ·refine ax (aa (af (ab (zz0 (ad rfl) (ae (aa (af (aQ (gd 23 av ?_)))))))))
  refine cp (ι := Nat × St × List UInt32 × WL × Value × Value × Value) (fun ⟨k, t, tr, wl1, vo1, eff1, vt⟩ => Ran l inp s k t tr ∧ k ≤ (min n 65536).toNat ∧ cx wl1 = t.w ∧ wl1.length ≤ wl.length + 4 * k ∧ ∃ a n c, vo1 = .slice a n c) (fun _ => (Bg.lessB w (cg [cellE bc (bJ s bM vi vo eff) 82, mapE bm u8V wl, rowE vo 23 av s.out]) 0)) (fun ⟨k, t, tr, wl1, vo1, eff1, vt⟩ => [rowE vt 23 av tr, cellE bc (bJ t bM vi vo1 eff1) 82, mapE bm u8V wl1, rowE vo1 23 av t.out, cellE b1 [.int .i64 0, .slice none 0 0, .int .i64 0] 46]) (fun ⟨k, t, tr, wl1, vo1, eff1, vt⟩ => [(6, vt)]) (fun ⟨k, t, tr, wl1, vo1, eff1, vt⟩ => (min n 65536).toNat - k) (0, s, [], wl, vo, eff, _) ⟨.nil, Nat.zero_le _, hwl, Nat.le_refl _, hvo⟩ (.cons (by first | rfl | exact am rfl (by omega) | exact am rfl (by simp) | exact aS rfl (by simp)) Front.nil) (by repeat' constructor) rfl (fun i hi m hm => ?_)
  obtain ⟨k, t, tr, wl1, vo1, eff1, vt⟩ := i
  replace hi : Ran l inp s k t tr ∧ k ≤ (min n 65536).toNat ∧ cx wl1 = t.w ∧ wl1.length ≤ wl.length + 4 * k ∧ ∃ a n c, vo1 = .slice a n c := hi
  replace hm : m = (min n 65536).toNat - k := hm
  change Tr _ _ [rowE vt 23 av tr, cellE bc (bJ t bM vi vo1 eff1) 82, mapE bm u8V wl1, rowE vo1 23 av t.out, cellE b1 [.int .i64 0, .slice none 0 0, .int .i64 0] 46] ([(6, vt)] ++ _) _
  obtain ⟨hR, hk, hwl1, hwn1, hvo1⟩ := hi
  have hrl := hR.len
  refine af (af (ab (zz0 (ac rfl) (zz0 (fh rfl (by repeat constructor) al) ?_))))
  refine zz0 (ac rfl) (zz0 (lb rfl rfl) ?_)
  refine zz0 (cE rfl rfl) (zz0 (ac rfl) ?_)
  apply bF
  ·exact (rfl : _ = (6, 17, 23))
  ·exact rfl
  ·intro hT3; have hT3' := hT3
   try simp only [bs] at hT3'
   refine zz5 hT3 (ac rfl) (zz5 hT3 (aH rfl) ?_)
   refine zz5 hT3 (zz3 (off := 17) (ft := 4) rfl aC rfl bv) ?_
   refine zz5 hT3 (fH rfl bR) ?_
   refine zz5 hT3 (cj rfl) (zz0 (aE rfl hT3 rfl) ?_)
   refine ae (aa ?_)
   exact aw (Sub.cons rfl (zz7 6 rfl))
  ·intro hF3
   refine zz6 hF3 (zz6 hF3 (zz6 hF3 (zz6 hF3 (zz6 hF3 (zz0 (aF rfl hF3 rfl) ?_)))))
   refine ae (aa ?_)
   exact aw (Sub.cons rfl (zz7 6 rfl))
  refine zz0 (ac rfl) ?_
  apply bF
  ·exact (rfl : _ = (6, 24, 30))
  ·exact rfl
  ·intro hT4; have hT4' := hT4
   try simp only [bs] at hT4'
   refine zz5 hT4 (ac rfl) (zz5 hT4 (aH rfl) ?_)
   refine zz5 hT4 (zz3 (off := 18) (ft := 31) rfl aC rfl cS) ?_
   refine zz5 hT4 (fH rfl ee) ?_
   refine zz5 hT4 (aN rfl rfl) (zz0 (aE rfl hT4 rfl) ?_)
   refine ae (aa ?_)
   exact aw (Sub.cons rfl (zz7 6 rfl))
  ·intro hF4
   refine zz6 hF4 (zz6 hF4 (zz6 hF4 (zz6 hF4 (zz6 hF4 (zz0 (aF rfl hF4 rfl) ?_)))))
   refine ae (aa ?_)
   exact aw (Sub.cons rfl (zz7 6 rfl))
  refine ae (aa ?_)
  refine ak rfl ?_ ?_ <;> intro h5 <;> try simp only [bs] at h5
  ·refine ax (aa (aQ (af (ab (zz0 (ac rfl) (zz0 (ac rfl) (zz0 (aH rfl) ?_)))))))
   refine zz0 (zz3 (off := 0) (ft := 40) rfl aC rfl aP) ?_
   refine zz0 (zz3 (off := 8) (ft := 23) rfl aA rfl ah) ?_
   refine zz0 (fH rfl az) ?_
   refine fB (E := av) t.m.pc rfl rfl al ah fm (by rfl) (by rfl) rfl (fun V6 => ?_)
   refine zz8 rfl rfl al gy (fun V44 => ?_)
   refine zz0 (ad rfl) (ae (aa (ab (zz0 (ac rfl) ?_))))
   refine cT (fun _ : WL × Value × Value => .int .i64 (stepS l inp t).2) [cellE bc (bJ t bM vi vo1 eff1) 82, mapE bm u8V wl1, rowE vo1 23 av t.out] (fun j => [cellE bc (bJ (stepS l inp t).1 bM vi j.2.1 j.2.2) 82, mapE bm u8V j.1, rowE j.2.1 23 av (stepS l inp t).1.out]) (ok := fun j => cx j.1 = (stepS l inp t).1.w ∧ j.1.length ≤ wl1.length + 4 ∧ ∃ a n c, j.2.1 = .slice a n c) (dd := fun _ => 0) rfl Tryz.call19 (by repeat' constructor) (fun w hw => Nat.le_refl _) (fun w hw => pL t bc bM bm VR vi vo1 eff1 rs l wl1 inp w (hw.own (by repeat' constructor)) (hC.mono (hw.lessB (Lo := [cellE bc (bJ t bM vi vo1 eff1) 82, mapE bm u8V wl1, rowE vo1 23 av t.out]) (by repeat' constructor))) hO hwl1 hvo1) rfl (fun j hj => ?_)
   refine ae (a9 (aa ?_))
   apply bP (k + 1, (stepS l inp t).1, tr ++ [t.m.pc], j.1, j.2.1, j.2.2, V44)
   ·exact rfl
   ·exact (.cons (by first | rfl | exact am rfl (by omega) | exact am rfl (by simp) | exact aS rfl (by simp)) Front.nil)
   ·exact bQ 21 rfl
   ·exact (by repeat' constructor)
   ·exact ⟨.snoc hR (by simp_all) (by simp_all), by omega, hj.1, by have := hj.2.1; show j.1.length ≤ _; omega, hj.2.2⟩
   ·exact (by show (min n 65536).toNat - (k + 1) < m; omega)
  ·refine cm (aV (aV (bT (aa ?_))))
   have hol1 := hR.out_len hol
   have hfu := hR.full (n := (min n 65536).toNat) hk (by by_cases hq : k = (min n 65536).toNat; exact .inl hq; right; rintro ⟨q1, q2⟩; simp_all; omega)
   refine eJ (ι := Option Addr × Nat × Nat) (fun ⟨pq, cq, bq⟩ => True) (fun _ => (Bg.lessB w (cg [cellE bc (bJ s bM vi vo eff) 82, mapE bm u8V wl, rowE vo 23 av s.out]) 0)) (fun ⟨pq, cq, bq⟩ => [cellE bq [.int .i64 t.err, .slice pq t.out.length cq, .int .i64 (tr.length : Nat)] 46, rowE (.slice pq t.out.length cq) 23 av t.out, cellE bc (bJ t bM vi vo1 eff1) 82, mapE bm u8V wl1, rowE vo1 23 av t.out, rowE vt 23 av tr, cellE b1 [.int .i64 0, .slice none 0 0, .int .i64 0] 46]) (fun ⟨pq, cq, bq⟩ => [(7, .pointer (some ⟨bq, 0, none⟩))]) ?_ (fun i hi => ?_)
   ·skip
    refine bI ([cellE bc (bJ t bM vi vo1 eff1) 82, mapE bm u8V wl1, rowE vo1 23 av t.out, rowE vt 23 av tr]) 14 rfl aU ?_
    refine zz2 0 rfl (ac rfl) ?_
    refine zz2 1 rfl (aH rfl) ?_
    refine zz2 2 rfl (zz3 (off := 18) (ft := 31) rfl aC rfl cS) ?_
    refine zz2 3 rfl (fH rfl ee) ?_
    refine zz2 4 rfl (ac rfl) ?_
    refine zz2 5 rfl (aH rfl) ?_
    refine zz2 6 rfl (zz3 (off := 16) (ft := 24) rfl aC rfl cC) ?_
    refine zz2 7 rfl (fH rfl dF) ?_
    refine zz2 9 rfl (ac rfl) ?_
    refine zz9 [8, 10, 12] (fun iq hq => ?_)
    rcases List.mem_cons.1 hq with rfl | hq
    ·skip
     refine aX rfl ?_
     refine dV rfl jz (fun w hw => jv t.out _ w (hw.row (by repeat constructor)) (by omega)) rfl (fun V45 => ?_)
     refine jm (V := V45) (fun pq cq hpv => ?_)
     subst hpv
     refine bB ?_
     refine zz9 [10, 12] (fun iq hq => ?_)
     rcases List.mem_cons.1 hq with rfl | hq
     ·skip
      refine aX rfl ?_
      refine zz0 (fh rfl (by repeat constructor) al) ?_
      refine bB ?_
      refine eV 11 rfl (by kernel_rfl) (bA bW) (bE (vs := [(0, _), (1, _), (2, _)]) (cs := #[.int .i64 t.err, .slice pq t.out.length cq, .int .i64 (tr.length : Nat)]) rfl rfl (by kernel_rfl)) ?_
      refine zz9 [12] (fun iq hq => ?_)
      obtain rfl := List.mem_singleton.1 hq
      refine aX rfl ?_
      refine c9 di rfl (fun b7 => ?_)
      refine bB ?_
      refine zz9 [13] (fun iq hq => ?_)
      obtain rfl := List.mem_singleton.1 hq
      refine aX rfl ?_
      refine j0 rfl rfl cR ?_
      refine bB ?_
      refine eh ?_
      refine aa ?_
      apply aZ (_, _, _)
      ·exact rfl
      ·exact (.cons (by first | rfl | exact am rfl (by omega) | exact am rfl (by simp) | exact aS rfl (by simp)) Front.nil)
      ·exact bQ 13 rfl
      ·exact (by repeat' constructor)
      ·exact trivial
     obtain rfl := List.mem_singleton.1 hq
     refine aX rfl ?_
     refine c9 di rfl (fun b8 => ?_)
     refine bB ?_
     refine zz9 [10] (fun iq hq => ?_)
     obtain rfl := List.mem_singleton.1 hq
     refine aX rfl ?_
     refine zz0 (fh rfl (by repeat constructor) al) ?_
     refine bB ?_
     refine eV 11 rfl (by kernel_rfl) (bA bW) (bE (vs := [(0, _), (1, _), (2, _)]) (cs := #[.int .i64 t.err, .slice pq t.out.length cq, .int .i64 (tr.length : Nat)]) rfl rfl (by kernel_rfl)) ?_
     refine zz9 [13] (fun iq hq => ?_)
     obtain rfl := List.mem_singleton.1 hq
     refine aX rfl ?_
     refine j0 rfl rfl cR ?_
     refine bB ?_
     refine eh ?_
     refine aa ?_
     apply aZ (_, _, _)
     ·exact rfl
     ·exact (.cons (by first | rfl | exact am rfl (by omega) | exact am rfl (by simp) | exact aS rfl (by simp)) Front.nil)
     ·exact bQ 13 rfl
     ·exact (by repeat' constructor)
     ·exact trivial
    rcases List.mem_cons.1 hq with rfl | hq
    ·skip
     refine aX rfl ?_
     refine zz0 (fh rfl (by repeat constructor) al) ?_
     refine bB ?_
     refine zz9 [8, 12] (fun iq hq => ?_)
     rcases List.mem_cons.1 hq with rfl | hq
     ·skip
      refine aX rfl ?_
      refine dV rfl jz (fun w hw => jv t.out _ w (hw.row (by repeat constructor)) (by omega)) rfl (fun V45 => ?_)
      refine jm (V := V45) (fun pq cq hpv => ?_)
      subst hpv
      refine bB ?_
      refine eV 11 rfl (by kernel_rfl) (bA bW) (bE (vs := [(0, _), (1, _), (2, _)]) (cs := #[.int .i64 t.err, .slice pq t.out.length cq, .int .i64 (tr.length : Nat)]) rfl rfl (by kernel_rfl)) ?_
      refine zz9 [12] (fun iq hq => ?_)
      obtain rfl := List.mem_singleton.1 hq
      refine aX rfl ?_
      refine c9 di rfl (fun b9 => ?_)
      refine bB ?_
      refine zz9 [13] (fun iq hq => ?_)
      obtain rfl := List.mem_singleton.1 hq
      refine aX rfl ?_
      refine j0 rfl rfl cR ?_
      refine bB ?_
      refine eh ?_
      refine aa ?_
      apply aZ (_, _, _)
      ·exact rfl
      ·exact (.cons (by first | rfl | exact am rfl (by omega) | exact am rfl (by simp) | exact aS rfl (by simp)) Front.nil)
      ·exact bQ 13 rfl
      ·exact (by repeat' constructor)
      ·exact trivial
     obtain rfl := List.mem_singleton.1 hq
     refine aX rfl ?_
     refine c9 di rfl (fun b10 => ?_)
     refine bB ?_
     refine zz9 [8] (fun iq hq => ?_)
     obtain rfl := List.mem_singleton.1 hq
     refine aX rfl ?_
     refine dV rfl jz (fun w hw => jv t.out _ w (hw.row (by repeat constructor)) (by omega)) rfl (fun V45 => ?_)
     refine jm (V := V45) (fun pq cq hpv => ?_)
     subst hpv
     refine bB ?_
     refine eV 11 rfl (by kernel_rfl) (bA bW) (bE (vs := [(0, _), (1, _), (2, _)]) (cs := #[.int .i64 t.err, .slice pq t.out.length cq, .int .i64 (tr.length : Nat)]) rfl rfl (by kernel_rfl)) ?_
     refine zz9 [13] (fun iq hq => ?_)
     obtain rfl := List.mem_singleton.1 hq
     refine aX rfl ?_
     refine j0 rfl rfl cR ?_
     refine bB ?_
     refine eh ?_
     refine aa ?_
     apply aZ (_, _, _)
     ·exact rfl
     ·exact (.cons (by first | rfl | exact am rfl (by omega) | exact am rfl (by simp) | exact aS rfl (by simp)) Front.nil)
     ·exact bQ 13 rfl
     ·exact (by repeat' constructor)
     ·exact trivial
    obtain rfl := List.mem_singleton.1 hq
    refine aX rfl ?_
    refine c9 di rfl (fun b11 => ?_)
    refine bB ?_
    refine zz9 [8, 10] (fun iq hq => ?_)
    rcases List.mem_cons.1 hq with rfl | hq
    ·skip
     refine aX rfl ?_
     refine dV rfl jz (fun w hw => jv t.out _ w (hw.row (by repeat constructor)) (by omega)) rfl (fun V45 => ?_)
     refine jm (V := V45) (fun pq cq hpv => ?_)
     subst hpv
     refine bB ?_
     refine zz9 [10] (fun iq hq => ?_)
     obtain rfl := List.mem_singleton.1 hq
     refine aX rfl ?_
     refine zz0 (fh rfl (by repeat constructor) al) ?_
     refine bB ?_
     refine eV 11 rfl (by kernel_rfl) (bA bW) (bE (vs := [(0, _), (1, _), (2, _)]) (cs := #[.int .i64 t.err, .slice pq t.out.length cq, .int .i64 (tr.length : Nat)]) rfl rfl (by kernel_rfl)) ?_
     refine zz9 [13] (fun iq hq => ?_)
     obtain rfl := List.mem_singleton.1 hq
     refine aX rfl ?_
     refine j0 rfl rfl cR ?_
     refine bB ?_
     refine eh ?_
     refine aa ?_
     apply aZ (_, _, _)
     ·exact rfl
     ·exact (.cons (by first | rfl | exact am rfl (by omega) | exact am rfl (by simp) | exact aS rfl (by simp)) Front.nil)
     ·exact bQ 13 rfl
     ·exact (by repeat' constructor)
     ·exact trivial
    obtain rfl := List.mem_singleton.1 hq
    refine aX rfl ?_
    refine zz0 (fh rfl (by repeat constructor) al) ?_
    refine bB ?_
    refine zz9 [8] (fun iq hq => ?_)
    obtain rfl := List.mem_singleton.1 hq
    refine aX rfl ?_
    refine dV rfl jz (fun w hw => jv t.out _ w (hw.row (by repeat constructor)) (by omega)) rfl (fun V45 => ?_)
    refine jm (V := V45) (fun pq cq hpv => ?_)
    subst hpv
    refine bB ?_
    refine eV 11 rfl (by kernel_rfl) (bA bW) (bE (vs := [(0, _), (1, _), (2, _)]) (cs := #[.int .i64 t.err, .slice pq t.out.length cq, .int .i64 (tr.length : Nat)]) rfl rfl (by kernel_rfl)) ?_
    refine zz9 [13] (fun iq hq => ?_)
    obtain rfl := List.mem_singleton.1 hq
    refine aX rfl ?_
    refine j0 rfl rfl cR ?_
    refine bB ?_
    refine eh ?_
    refine aa ?_
    apply aZ (_, _, _)
    ·exact rfl
    ·exact (.cons (by first | rfl | exact am rfl (by omega) | exact am rfl (by simp) | exact aS rfl (by simp)) Front.nil)
    ·exact bQ 13 rfl
    ·exact (by repeat' constructor)
    ·exact trivial
   ·obtain ⟨pq, cq, bq⟩ := i
    replace hi : True := hi
    change Tr _ _ [cellE bq [.int .i64 t.err, .slice pq t.out.length cq, .int .i64 (tr.length : Nat)] 46, rowE (.slice pq t.out.length cq) 23 av t.out, cellE bc (bJ t bM vi vo1 eff1) 82, mapE bm u8V wl1, rowE vo1 23 av t.out, rowE vt 23 av tr, cellE b1 [.int .i64 0, .slice none 0 0, .int .i64 0] 46] ([(7, .pointer (some ⟨bq, 0, none⟩))] ++ _) _
    refine eJ (ι := Int) (fun er => er = jV t) (fun _ => (Bg.lessB w (cg [cellE bc (bJ s bM vi vo eff) 82, mapE bm u8V wl, rowE vo 23 av s.out]) 0)) (fun er => [cellE bq [.int .i64 er, .slice pq t.out.length cq, .int .i64 (tr.length : Nat)] 46, rowE (.slice pq t.out.length cq) 23 av t.out, cellE bc (bJ t bM vi vo1 eff1) 82, mapE bm u8V wl1, rowE vo1 23 av t.out, rowE vt 23 av tr, cellE b1 [.int .i64 0, .slice none 0 0, .int .i64 0] 46]) (fun er => []) ?_ (fun er hi => ?_)
    ·skip
     refine af (ab (zz0 (ac rfl) (zz0 (aH rfl) ?_)))
     refine zz0 (zz3 (off := 18) (ft := 31) rfl aC rfl cS) ?_
     refine zz0 (fH rfl ee) ?_
     refine zz0 (aN rfl rfl) (zz0 (ac rfl) ?_)
     apply bF
     ·exact (rfl : _ = (6, 58, 64))
     ·exact rfl
     ·intro hT12; have hT12' := hT12
      try simp only [bs] at hT12'
      refine zz5 hT12 (ac rfl) (zz5 hT12 (aH rfl) ?_)
      refine zz5 hT12 (zz3 (off := 17) (ft := 4) rfl aC rfl bv) ?_
      refine zz5 hT12 (fH rfl bR) ?_
      refine zz5 hT12 (cj rfl) (zz0 (aE rfl hT12 rfl) ?_)
      refine ae (aa ?_)
      exact aw (Sub.cons rfl (zz7 6 rfl))
     ·intro hF12
      refine zz6 hF12 (zz6 hF12 (zz6 hF12 (zz6 hF12 (zz6 hF12 (zz0 (aF rfl hF12 rfl) ?_)))))
      refine ae (aa ?_)
      exact aw (Sub.cons rfl (zz7 6 rfl))
     refine ae (aa ?_)
     refine ak rfl ?_ ?_ <;> intro h13 <;> try simp only [bs] at h13
     ·refine ab (zz0 (zz3 (off := 0) (ft := 31) rfl cF rfl cS) ?_)
      refine zz1 (cs' := [_, _, _]) rfl rfl cS rfl ?_
      refine ae (aa ?_)
      apply aZ 15
      ·exact rfl
      ·exact Front.nil
      ·exact bQ 8 rfl
      ·exact (by repeat' constructor)
      ·exact (by show _ = _; unfold jV; clear hfu; rw [if_pos (by simp_all)])
     ·refine ax (aa ?_)
      apply aZ t.err
      ·exact rfl
      ·exact Front.nil
      ·exact bQ 7 rfl
      ·exact (by repeat' constructor)
      ·exact (by show _ = _; unfold jV; clear hfu; rw [if_neg (fun q => by obtain ⟨q1, q2⟩ := q; simp_all)])
    ·skip
     replace hi : er = jV t := hi
     change Tr _ _ [cellE bq [.int .i64 er, .slice pq t.out.length cq, .int .i64 (tr.length : Nat)] 46, rowE (.slice pq t.out.length cq) 23 av t.out, cellE bc (bJ t bM vi vo1 eff1) 82, mapE bm u8V wl1, rowE vo1 23 av t.out, rowE vt 23 av tr, cellE b1 [.int .i64 0, .slice none 0 0, .int .i64 0] 46] ([] ++ _) _
     refine af (bI ([cellE bq [.int .i64 er, .slice pq t.out.length cq, .int .i64 (tr.length : Nat)] 46]) 4 rfl aU ?_)
     refine zz2 0 rfl (ac rfl) ?_
     refine zz2 1 rfl (bK rfl jy cR) ?_
     refine zz2 2 rfl (ad rfl) ?_
     refine zz9 [3] (fun iq hq => ?_)
     obtain rfl := List.mem_singleton.1 hq
     refine aX rfl ?_
     refine j0 rfl rfl cR ?_
     refine bB ?_
     refine eh ?_
     refine aa (ao ?_)
     refine mO Tryz.results15 rfl rfl (by repeat constructor) jy cR (by rfl) (fun w' hw => ?_)
     obtain ⟨e1, e2⟩ := hfu
     have hrl2 := hR.len
     subst hi
     exact ⟨(wl1, vo1, eff1, vt, .slice pq t.out.length cq), by rw [← e1, ← e2]; try rfl, by rw [← e1, ← e2]; exact hw.upd (Bg.le.refl _) (by repeat' constructor), by rw [← e1, ← e2]; exact ⟨hwl1, by show wl1.length ≤ _; omega, hvo1⟩⟩
theorem pp (s : St) (bc bM bm : Nat) (VR vi vo eff : Value) (rs : List RegV) (l : List SecV) (wl : WL) (inp : List UInt32) (n : Int) (w : World) (ho : OwnAt w [cellE bc (bJ s bM vi vo eff) 82, mapE bm u8V wl, rowE vo 23 av s.out]) (hC : CpuAt (Bg.lessB w (cg [cellE bc (bJ s bM vi vo eff) 82, mapE bm u8V wl, rowE vo 23 av s.out]) 0).blk bM bm VR vi rs inp) (hO : MemOK l rs) (hwl : cx wl = s.w) (hvo : ∃ a n c, vo = .slice a n c) (hol : s.out.length ≤ 4096) :
  Calls Tryz.prog 11 #[.pointer (some ⟨bc, 0, none⟩), .int .i64 n] w (fun e w' => ∃ j : WL × Value × Value × Value × Value, e = .returned (.agg #[.int .i64 (jV (dm l inp (min n 65536).toNat s)), j.2.2.2.2, .int .i64 ((da l inp (min n 65536).toNat s).length : Nat)]) ∧ Upd 0 w w' (cg [cellE bc (bJ s bM vi vo eff) 82, mapE bm u8V wl, rowE vo 23 av s.out]) [cellE bc (bJ (dm l inp (min n 65536).toNat s) bM vi j.2.1 j.2.2.1) 82, mapE bm u8V j.1, rowE j.2.1 23 av (dm l inp (min n 65536).toNat s).out, rowE j.2.2.2.2 23 av (dm l inp (min n 65536).toNat s).out] ∧ (cx j.1 = (dm l inp (min n 65536).toNat s).w ∧ j.1.length ≤ wl.length + 4 * (da l inp (min n 65536).toNat s).length ∧ ∃ a n c, j.2.1 = .slice a n c)) := by
 refine ik (L := [cellE bc (bJ s bM vi vo eff) 82, mapE bm u8V wl, rowE vo 23 av s.out]) ho rfl (Nat.zero_le _) Tryz.func11 rfl Tryz.ntmps11 rfl ?_
 refine af (ab ?_)
 refine c9 di rfl (fun b1 => ?_)
 refine ae (aa (af (ab (zz0 (ac rfl) (zz0 (ac rfl) ?_)))))
 refine cT (fun j : WL × Value × Value × Value × Value => .tuple #[j.2.2.2.1, .agg #[.int .i64 (jV (dm l inp (min n 65536).toNat s)), j.2.2.2.2, .int .i64 ((da l inp (min n 65536).toNat s).length : Nat)]]) [cellE bc (bJ s bM vi vo eff) 82, mapE bm u8V wl, rowE vo 23 av s.out] (fun j => [cellE bc (bJ (dm l inp (min n 65536).toNat s) bM vi j.2.1 j.2.2.1) 82, mapE bm u8V j.1, rowE j.2.1 23 av (dm l inp (min n 65536).toNat s).out, rowE j.2.2.2.1 23 av (da l inp (min n 65536).toNat s), rowE j.2.2.2.2 23 av (dm l inp (min n 65536).toNat s).out]) (ok := fun j => cx j.1 = (dm l inp (min n 65536).toNat s).w ∧ j.1.length ≤ wl.length + 4 * (da l inp (min n 65536).toNat s).length ∧ ∃ a n c, j.2.1 = .slice a n c) (dd := fun _ => 0) rfl Tryz.call15 (by repeat' constructor) (fun w hw => Nat.le_refl _) (fun w hw => rk s bc bM bm VR vi vo eff rs l wl inp n w (hw.own (by repeat' constructor)) (hC.mono (hw.lessB (Lo := [cellE bc (bJ s bM vi vo eff) 82, mapE bm u8V wl, rowE vo 23 av s.out]) (by repeat' constructor))) hO hwl hvo hol) rfl (fun j hj => ?_)
 obtain ⟨wl1, vo1, eff1, vt, vq⟩ := j
 change Tr _ _ (cellE bc (bJ (dm l inp (min n 65536).toNat s) bM vi vo1 eff1) 82 :: mapE bm u8V wl1 :: rowE vo1 23 av (dm l inp (min n 65536).toNat s).out :: rowE vt 23 av (da l inp (min n 65536).toNat s) :: rowE vq 23 av (dm l inp (min n 65536).toNat s).out :: _) _ _
 refine jm (V := vq) (fun pq cq hpv => ?_)
 subst hpv
 refine zz0 (ac rfl) (zz0 (ay rfl rfl) (zz0 (ay rfl rfl) ?_))
 refine c9 di rfl (fun b2 => ?_)
 refine zz0 (ad rfl) (j0 rfl rfl cR ?_)
 refine ae (aa (af (ab (zz0 (bK rfl jy cR) ?_))))
 refine j0 rfl rfl cR ?_
 refine ae (aa (ao ?_))
 refine fJ Tryz.results11 rfl (by repeat constructor) jy cR (by rfl) (fun w' hw => ?_)
 exact ⟨(wl1, vo1, eff1, vt, .slice pq (dm l inp (min n 65536).toNat s).out.length cq), rfl, hw.upd (Bg.le.refl _) (by repeat' constructor), hj⟩
theorem js (s : St) (bc bM : Nat) (vi vo eff : Value) (w : World) (hc : CellsIn (hp w) bc (bJ s bM vi vo eff)) :
  Calls Tryz.prog 18 #[.pointer (some ⟨bc, 0, none⟩)] w (fun e w' => e = .returned (.agg (mY.enc s.m).toArray) ∧ Ext w w') := by
 have hc' : CellsIn (Bg.of w).blk bc (bJ s bM vi vo eff) := hc
 have hcp : CellsIn (Bg.of w).blk bc (mY.enc s.m) := hc'.prefix_
 refine enter Tryz.func18 rfl Tryz.ntmps18 rfl ?_
 refine af (ab ?_)
 refine c9 fV rfl (fun b1 => ?_)
 refine ae (aa (af (af (ab (zz0 (ac rfl) (zz0 (aB rfl km (fun w hw => ki s bc bM vi vo eff w (hc'.mono hw.bg))) ?_))))))
 refine zz0 (cj rfl) (ae (aa ?_))
 refine ak rfl ?_ ?_ <;> intro h2 <;> try simp only [bs] at h2
 ·first | contradiction | (exfalso; omega) | simp_all
 ·refine ax (aa (af (ab (zz0 (ac rfl) (zz0 (aH rfl) ?_)))))
  refine zz0 (zz3 (off := 0) (ft := 40) rfl aC rfl aP) ?_
  refine zz0 (rX rfl hcp gX aP rfl) ?_
  refine bw mY rfl rfl aP ?_
  refine ae (aa (ao ?_))
  refine fJ Tryz.results18 rfl (by repeat constructor) gX aP (by rfl) (fun w' hw => ?_)
  exact ⟨rfl, hw.below (Bg.le.refl _)⟩
theorem nq (s : St) (bc bM : Nat) (vi vo eff : Value) (bm : Nat) (VR : Value) (rs : List RegV) (wl : WL) (w : World) (hc : CellsIn (hp w) bc (bJ s bM vi vo eff)) (hM : MemAt (hp w) bM bm VR rs) (hW : MapIn (hp w) bm u8V wl) (hr : rs.length ≤ 100) :
  Calls Tryz.prog 29 #[.pointer (some ⟨bc, 0, none⟩)] w (fun e w' => ∃ i : Nat × Nat × Value, e = .returned (.pointer (some ⟨i.1, 0, none⟩)) ∧ Ext w w' ∧ NewEnts w w' [cellE i.1 [i.2.2, .map (some i.2.1)] 91, mapE i.2.1 u8V wl, rowE i.2.2 97 cD rs] ∧ True) := by
 have hc' : CellsIn (Bg.of w).blk bc (bJ s bM vi vo eff) := hc
 have hM' : MemAt (Bg.of w).blk bM bm VR rs := hM
 have hW' : MapIn (Bg.of w).blk bm u8V wl := hW
 refine enter Tryz.func29 rfl Tryz.ntmps29 rfl ?_
 refine af (ab (zz0 (ad rfl) (ae (aa (af (af (ab (zz0 (ac rfl) (zz0 (aB rfl km (fun w hw => ki s bc bM vi vo eff w (hc'.mono hw.bg))) ?_)))))))))
 refine zz0 (cj rfl) (ae (aa ?_))
 refine ak rfl ?_ ?_ <;> intro h1 <;> try simp only [bs] at h1
 ·first | contradiction | (exfalso; omega) | simp_all
 ·refine ax (aa (af (ab (zz0 (ac rfl) (zz0 (aH rfl) ?_)))))
  refine zz0 (zz3 (off := 13) (ft := 68) rfl aC rfl fp) ?_
  refine zz0 (fQ rfl (by assumption) fW (by rfl)) ?_
  refine e7 (fun i : Nat × Nat × Value => .pointer (some ⟨i.1, 0, none⟩)) (fun i => [cellE i.1 [i.2.2, .map (some i.2.1)] 91, mapE i.2.1 u8V wl, rowE i.2.2 97 cD rs]) (ok := fun _ => True) rfl Tryz.call45 (fun w hw => uc bM bm VR rs wl w (hM'.mono hw.bg) (hW'.mono hw.bg) hr) rfl (fun i _ => ?_)
  refine zz0 (ad rfl) (ae (aa (ao ?_)))
  refine aI Tryz.results29 rfl (fun w' hw => ?_)
  exact ⟨i, rfl, hw.below (Bg.le.refl _), hw.ents (Bg.le.refl _) (by repeat' constructor), trivial⟩
theorem nm (s : St) (bc bM : Nat) (vi vo eff : Value) (w : World) (hc : CellsIn (hp w) bc (bJ s bM vi vo eff)) (ho : Sl (hp w) av s.out vo) (hol : s.out.length ≤ 4096) :
  Calls Tryz.prog 30 #[.pointer (some ⟨bc, 0, none⟩)] w (fun e w' => ∃ V', e = .returned V' ∧ Ext w w' ∧ NewRow w w' 23 av (s.out) V') := by
 have hc' : CellsIn (Bg.of w).blk bc (bJ s bM vi vo eff) := hc
 have ho' : Sl (Bg.of w).blk av s.out vo := ho
 refine enter Tryz.func30 rfl Tryz.ntmps30 rfl ?_
 refine af (ab (zz0 (ad rfl) (ae (aa (af (af (ab (zz0 (ac rfl) (zz0 (aB rfl km (fun w hw => ki s bc bM vi vo eff w (hc'.mono hw.bg))) ?_)))))))))
 refine zz0 (cj rfl) (ae (aa ?_))
 refine ak rfl ?_ ?_ <;> intro h1 <;> try simp only [bs] at h1
 ·first | contradiction | (exfalso; omega) | simp_all
 ·refine ax (aa (af (ab (zz0 (ac rfl) (zz0 (aH rfl) ?_)))))
  refine zz0 (zz3 (off := 16) (ft := 24) rfl aC rfl cC) ?_
  refine zz0 (fQ rfl (by assumption) dF (by rfl)) ?_
  refine dV rfl jz (fun w hw => jv s.out vo w (hw.slF ho') (by omega)) rfl (fun V2 => ?_)
  refine zz0 (ad rfl) (ae (aa (ao ?_)))
  refine aI Tryz.results30 rfl (fun w' hw => ?_)
  exact ⟨_, rfl, hw.below (Bg.le.refl _), hw.new (.head _)⟩
theorem kz (s : St) (bc bM : Nat) (vi vo eff : Value) (w : World) (hc : CellsIn (hp w) bc (bJ s bM vi vo eff)) :
  Calls Tryz.prog 21 #[.pointer (some ⟨bc, 0, none⟩)] w (fun e w' => e = .returned (.bool s.done) ∧ Ext w w') := by
 have hc' : CellsIn (Bg.of w).blk bc (bJ s bM vi vo eff) := hc
 refine enter Tryz.func21 rfl Tryz.ntmps21 rfl ?_
 refine af (ab (zz0 (ad rfl) (ae (aa (af (ab (zz0 (ac rfl) (zz0 (aB rfl km (fun w hw => ki s bc bM vi vo eff w (hc'.mono hw.bg))) ?_))))))))
 refine zz0 (ac rfl) ?_
 apply bF
 ·exact (rfl : _ = (5, 5, 10))
 ·exact rfl
 ·intro hT1; have hT1' := hT1
  try simp only [bs] at hT1'
  refine zz5 hT1 (ac rfl) (zz5 hT1 (aH rfl) ?_)
  refine zz5 hT1 (zz3 (off := 17) (ft := 4) rfl aC rfl bv) ?_
  refine zz5 hT1 (fQ rfl (by assumption) bR (by rfl)) ?_
  refine zz0 (aE rfl hT1 rfl) ?_
  refine ae (aa ?_)
  exact aw (Sub.cons rfl (zz7 5 rfl))
 ·intro hF1
  refine zz6 hF1 (zz6 hF1 (zz6 hF1 (zz6 hF1 (zz0 (aF rfl hF1 rfl) ?_))))
  refine ae (aa ?_)
  exact aw (Sub.cons rfl (zz7 5 rfl))
 refine zz0 (ad rfl) (ae (aa (ao ?_)))
 refine aI Tryz.results21 rfl (fun w' hw => ?_)
 exact ⟨by simp, hw.below (Bg.le.refl _)⟩
theorem rn (p : UInt32) (w : World) :
  Calls Tryz.prog 22 #[.int .u32 p.toNat] w (fun e w' => e = .returned (.agg (mY.enc (sg p)).toArray) ∧ Ext w w') := by
 refine enter Tryz.func22 rfl Tryz.ntmps22 rfl ?_
 refine af (ab ?_)
 refine c9 fV rfl (fun b1 => ?_)
 refine ae (aa (af (ab ?_)))
 refine c9 fV rfl (fun b2 => ?_)
 refine ae (aa (af (ab (zz0 (zz3 (off := 0) (ft := 36) rfl aA rfl bG) ?_))))
 refine zz0 (fj rfl rfl aY ah) ?_
 refine zz1 (cs' := [_, _, _, _, _, _, _, _, _, _, _, _, _]) rfl rfl ah rfl ?_
 refine ae (aa (af (ab (zz0 (ac rfl) (zz0 (zz3 (off := 8) (ft := 23) rfl aA rfl ah) ?_)))))
 refine zz1 (cs' := [_, _, _, _, _, _, _, _, _, _, _, _, _]) rfl rfl ah rfl ?_
 refine ae (aa (af (ab (zz0 (bK rfl gX aP) ?_))))
 refine bw mY rfl rfl aP ?_
 refine ae (aa (ao ?_))
 refine fJ Tryz.results22 rfl (by repeat constructor) gX aP (by rfl) (fun w' hw => ?_)
 exact ⟨rfl, hw.below (Bg.le.refl _)⟩
end Go.Proofs.YtpeaodkfbjenpaaGreat
namespace Go.HL
open Go Go.RowKit
def lh (l : List SecV) : Nat → Int
  | 0 => 0
  | k + 1 => lh l k + min ((l.getD k default).data.length : Int) 1000
theorem lz (l : List SecV) (k : Nat) : ∀ n, lh l k ≤ lh l (k + n)
  | 0 => Int.le_refl _
  | n + 1 => by
    have := lz l k n
    show lh l k ≤ lh l (k + n) + min ((l.getD (k + n) default).data.length : Int) 1000
    omega
theorem Ai {l : List SecV} {k n : Nat} (h : k < n) : min ((l.getD k default).data.length : Int) 1000 ≤ lh l n := by
  have h1 := lz l (k + 1) (n - (k + 1))
  rw [show k + 1 + (n - (k + 1)) = n by omega] at h1
  have h2 : 0 ≤ lh l k := by have := lz l 0 k; rw [Nat.zero_add] at this; exact this
  have h3 : lh l (k + 1) = lh l k + min ((l.getD k default).data.length : Int) 1000 := rfl
  omega
def jb (l : List SecV) (inp : List UInt32) : Bool := decide ((l.length : Int) < 20) && decide ((inp.length : Int) ≤ 40) && decide (lh l l.length < 1000)
structure Small (l : List SecV) (inp : List UInt32) : Prop where
  secB : SecB l
  inp : inp.length ≤ 40
theorem nz {l : List SecV} {inp : List UInt32} (h : jb l inp = true) : Small l inp := by
  unfold jb at h
  simp only [Bool.and_eq_true, decide_eq_true_eq] at h
  obtain ⟨⟨h1, h2⟩, h3⟩ := h
  refine ⟨⟨by omega, fun s hs => ?_⟩, by omega⟩
  obtain ⟨k, hk, e⟩ := List.getElem_of_mem hs
  have e' : l.getD k default = s := by rw [List.getD_eq_getElem?_getD, List.getElem?_eq_getElem hk, e]; rfl
  have := Ai (l := l) hk
  rw [e'] at this
  omega
def exC (b : List UInt8) (dp : Option Addr) (dc : Nat) : SecV := ⟨⟨#[99]⟩, 4096, b, dp, dc, false, true⟩
def fZ : List UInt8 := [48, 0, 5, 161, 0, 1]
theorem AS (dp : Option Addr) (dc : Nat) : dL [exC fZ dp dc] = 0 := by kernel_rfl
theorem AQ (dp : Option Addr) (dc : Nat) : dL [exC [2] dp dc] = 0 := by kernel_rfl
theorem AP (dp : Option Addr) (dc : Nat) : (let t := dm [exC fZ dp dc] [] 2 (cJ 4096); decide (t.err = 0) && !t.done && decide (t.out = [5]) && decide ((da [exC fZ dp dc] [] 2 (cJ 4096)).length = 2)) = true := by kernel_rfl
theorem AO (dp : Option Addr) (dc : Nat) : (let t := dm [exC fZ dp dc] [] 1 (dm [exC fZ dp dc] [] 2 (cJ 4096)); decide (t.err = 0) && t.done && decide ((da [exC fZ dp dc] [] 1 (dm [exC fZ dp dc] [] 2 (cJ 4096))).length = 1)) = true := by kernel_rfl
theorem AN (dp : Option Addr) (dc : Nat) : (let t := dm [exC [2] dp dc] [] 9 (cJ 4096); decide (t.err = 0) && t.done && decide (t.out = []) && decide (t.m.pc = 4294967295) && decide (t.m.r7 = 983040) && decide ((da [exC [2] dp dc] [] 9 (cJ 4096)).length = 1)) = true := by kernel_rfl
theorem min2 : (min (2 : Int) 65536).toNat = 2 := by decide
theorem Co : (min (1 : Int) 65536).toNat = 1 := by decide
theorem Cn : (min (9 : Int) 65536).toNat = 9 := by decide
theorem rJ {t : St} (h : t.done = true) : jV t = t.err := by
  unfold jV
  rw [if_neg (fun q => by rw [h] at q; cases q.2)]
theorem AT {t : St} (h : t.err = 0) (h2 : t.done = false) : jV t = 15 := by
  unfold jV
  rw [if_pos ⟨h, h2⟩]
theorem Cg {dp : Option Addr} {dc n : Nat} {t : St} (h : t = dm [exC fZ dp dc] [] (min (2 : Int) 65536).toNat (cJ 4096)) (hn : n = (da [exC fZ dp dc] [] (min (2 : Int) 65536).toNat (cJ 4096)).length) : jV t = 15 ∧ t.out = [5] ∧ n = 2 := by
  have q := AP dp dc
  rw [min2] at h hn
  simp only [Bool.and_eq_true, decide_eq_true_eq, Bool.not_eq_true'] at q
  rw [← h, ← hn] at q
  exact ⟨AT q.1.1.1 q.1.1.2, q.1.2, q.2⟩
theorem Cf {dp : Option Addr} {dc n : Nat} {t t1 : St} (h1 : t1 = dm [exC fZ dp dc] [] (min (2 : Int) 65536).toNat (cJ 4096)) (h : t = dm [exC fZ dp dc] [] (min (1 : Int) 65536).toNat t1) (hn : n = (da [exC fZ dp dc] [] (min (1 : Int) 65536).toNat t1).length) : jV t = 0 ∧ t.done = true ∧ n = 1 := by
  have q := AO dp dc
  rw [min2] at h1
  rw [Co] at h hn
  simp only [Bool.and_eq_true, decide_eq_true_eq] at q
  rw [← h1, ← h, ← hn] at q
  exact ⟨(rJ q.1.2).trans q.1.1, q.1.2, q.2⟩
theorem Cp {dp : Option Addr} {dc n : Nat} {t : St} (h : t = dm [exC [2] dp dc] [] (min (9 : Int) 65536).toNat (cJ 4096)) (hn : n = (da [exC [2] dp dc] [] (min (9 : Int) 65536).toNat (cJ 4096)).length) : jV t = 0 ∧ n = 1 ∧ t.m.pc = 4294967295 ∧ t.m.r7 = 983040 := by
  have q := AN dp dc
  rw [Cn] at h hn
  simp only [Bool.and_eq_true, decide_eq_true_eq] at q
  rw [← h, ← hn] at q
  exact ⟨(rJ q.1.1.1.1.2).trans q.1.1.1.1.1, q.2, q.1.1.2, q.1.2⟩
theorem wA {e : Ent} (B L : List Ent) : ∀ A : List Ent, Del e (A ++ (e :: B) ++ L) (A ++ B ++ L)
  | [] => .here _
  | a :: A => .there _ (wA B L A)
theorem ru (L : List Ent) (A : List Ent) : ∀ B : List Ent, Split (A ++ B ++ L) B (A ++ L)
  | [] => by rw [List.append_nil]; exact .nil _
  | b :: B => .cons (wA B L A) (ru L A B)
section
variable {P : Program} {ops : Array Oper} {Q : Exit → Act → World → Prop} {N : Nat} {F : Bg} {L : List Ent} {M : Fr} {ty : TypeId} {pos : String} {after : Array Edge} {rest : List Oper} {d : Nat}
theorem iu {ι : Type} (φ : ι → Value) (A B : ι → List Ent) {ok : ι → Prop} {f : FuncId} {xs : List Operand} {vs : List Value} {ts : Array TypeId} (h0 : F.dr = 0) (hx : kN M xs = some vs)
    (he : ∀ (args : Array Value) (w : World), (callFunc f args).run P w = .ok (.enter f args) w)
    (hc : ∀ w, HpOK F L w → Calls P f vs.toArray w fun e w' => ∃ i, e = .returned (φ i) ∧ Below w.heap.size w w' ∧ NewEnts w w' (A i ++ B i) ∧ ok i) (hd : Nat.ble (d + 1) N = true)
    (K : ∀ i F', ok i → F.le F' → (∀ e ∈ B i, e.ok (e.blk.bind F'.blk)) → Tr N F' (A i ++ L) ((d, φ i) :: M) (wpList P ops Q rest)) :
    Tr N F L M (wpList P ops Q (⟨some d, .call { callee := .value (.func f), args := xs.toArray, argTypes := ts }, ty, pos, after, none⟩ :: rest)) := by
  refine nU φ (fun i => A i ++ B i) (ok := ok) h0 hx he hc hd (fun i hi => ?_)
  exact vK (ru L (A i) (B i)) (fun F' hF' hk => K i F' hi hF' hk)
end
theorem xx {F : Bg} {L : List Ent} {w : World} {bM bm : Nat} {VR : Value} {T T2 U : TypeId} {rs : List RegV} (h : HpOK F L w) (h1 : cellE bM [VR, .map (some bm)] T ∈ L) (h2 : rowE VR T2 cD rs ∈ L) (h3 : ∀ e ∈ eI U rs, e ∈ L) : MemAt (hp w) bM bm VR rs :=
  ⟨cellE.cellsIn (h.ent _ h1) (Ext.refl _), h.row h2, fun r hr => rowE.sl (h.ent _ (h3 _ (oJ hr)))⟩
theorem mL {h : Hp} {bM bm : Nat} {VR vi : Value} {T T2 U U8 : TypeId} {rs : List RegV} {inp : List UInt32} (k : ∀ e ∈ (cellE bM [VR, .map (some bm)] T :: rowE VR T2 cD rs :: rowE vi U av inp :: eI U8 rs), e.ok (e.blk.bind h)) : CpuAt h bM bm VR vi rs inp :=
  ⟨yV k (.head _) (.tail _ (.head _)) (fun e he => .tail _ (.tail _ (.tail _ he))), RowOK.sl (k _ (.tail _ (.tail _ (.head _))))⟩
end Go.HL
namespace Go.Proofs.YtpeaodkfbjenpaaGreat
open Go Go.HL Go.RowKit
theorem Ay (l : List SecV) (V : Value) (w : World) (hV : Sl (hp w) cf l V) (hB : SecB l) (hN : ∀ s ∈ l, s.name.size ≤ 140737488351232) (hD : DataIn (hp w) l) (h : dL l = 0) : Calls Tryz.prog 25 #[V] w (fun e w' => ∃ j : Nat × Nat × Value × List RegV, e = .returned (.tuple #[.pointer (some ⟨j.1, 0, none⟩), .int .i64 0]) ∧ Ext w w' ∧ NewEnts w w' (cellE j.1 [j.2.2.1, .map (some j.2.1)] 91 :: mapE j.2.1 u8V [] :: rowE j.2.2.1 97 cD j.2.2.2 :: eI 5 j.2.2.2) ∧ MemOK l j.2.2.2) := by
 refine (t6 l V w hV hB hN hD).mono fun e w' ⟨i, h1, h2, h3, h4⟩ => ?_
 rcases i with _ | j
 ·exact absurd h h4
 ·rw [h] at h1
  exact ⟨j, h1, h2, h3, h4⟩
theorem Az (l : List SecV) (V : Value) (w : World) (hV : Sl (hp w) cf l V) (hB : SecB l) (hN : ∀ s ∈ l, s.name.size ≤ 140737488351232) (hD : DataIn (hp w) l) (h : dL l ≠ 0) : Calls Tryz.prog 25 #[V] w (fun e w' => e = .returned (.tuple #[.pointer none, .int .i64 (dL l)]) ∧ Ext w w') := by
 refine (t6 l V w hV hB hN hD).mono fun e w' ⟨i, h1, h2, h3, h4⟩ => ?_
 rcases i with _ | j
 ·exact ⟨h1, h2⟩
 ·exact absurd h4.chk h
theorem yR (bM0 bm0 : Nat) (VR0 vi0 : Value) (rs : List RegV) (l : List SecV) (wl : WL) (p : UInt32) (inp : List UInt32) (w : World) (hM : MemAt (hp w) bM0 bm0 VR0 rs) (hW : MapIn (hp w) bm0 u8V wl) (hO : MemOK l rs) (hwl : cx wl = fun _ => none) (hin : Sl (hp w) av inp vi0) (hil : inp.length ≤ 4096) :
  Calls Tryz.prog 26 #[.pointer (some ⟨bM0, 0, none⟩), .int .u32 p.toNat, vi0] w (fun e w' => ∃ j : Nat × Nat × Nat × Value × Value × WL, e = .returned (.tuple #[.pointer (some ⟨j.1, 0, none⟩), .int .i64 0]) ∧ Below w.heap.size w w' ∧ NewEnts w w' [cellE j.1 (bJ (cJ p) j.2.1 j.2.2.2.2.1 (.slice none 0 0) .nilFunc) 82, mapE j.2.2.1 u8V j.2.2.2.2.2, rowE (.slice none 0 0) 23 av [], cellE j.2.1 [j.2.2.2.1, .map (some j.2.2.1)] 91, rowE j.2.2.2.1 97 cD rs, rowE j.2.2.2.2.1 23 av inp] ∧ (cx j.2.2.2.2.2 = (cJ p).w ∧ j.2.2.2.2.2.length ≤ wl.length + 4)) := by
 have hM' : MemAt (Bg.of0 w).blk bM0 bm0 VR0 rs := hM
 have hW' : MapIn (Bg.of0 w).blk bm0 u8V wl := hW
 have hin' : Sl (Bg.of0 w).blk av inp vi0 := hin
 have hrl := hO.bounds.1
 refine mf Tryz.func26 rfl Tryz.ntmps26 rfl ?_
 refine af (ab (zz0 (ad rfl) (zz0 (ad rfl) (ae (aa (af (ab (zz0 (ac rfl) ?_))))))))
 refine e7 (fun i : Nat × Nat × Value => .pointer (some ⟨i.1, 0, none⟩)) (fun i => [cellE i.1 [i.2.2, .map (some i.2.1)] 91, mapE i.2.1 u8V wl, rowE i.2.2 97 cD rs]) (ok := fun _ => True) rfl Tryz.call45 (fun w hw => uc bM0 bm0 VR0 rs wl w (hM'.mono hw.bg) (hW'.mono hw.bg) (by omega)) rfl (fun i _ => ?_)
 refine zz0 (ad rfl) (ae (aa (af (af (ab (zz0 (ac rfl) (zz0 (fX rfl rfl fC rfl) ?_)))))))
 refine ae (aa ?_)
 refine ak rfl ?_ ?_ <;> intro h1 <;> try simp only [bs] at h1
 ·first | contradiction | (exfalso; omega) | simp_all
 ·refine ax (aa (af (af (ab (zz0 (ac rfl) (zz0 (gI rfl al) ?_))))))
  refine zz0 (fG rfl rfl) (ae (aa ?_))
  refine ak rfl ?_ ?_ <;> intro h2 <;> try simp only [bs] at h2
  ·first | contradiction | (exfalso; omega) | simp_all
  ·refine ax (aa (af (af (ab (zz0 (ac rfl) ?_)))))
   refine cT (fun _ : WL => .int .i64 0) [mapE i.2.1 u8V wl] (fun wl' => [mapE i.2.1 u8V wl']) (ok := fun wl' => cx wl' = (cJ p).w ∧ wl'.length ≤ wl.length + 4) (dd := fun _ => 0) rfl lM (by repeat' constructor) (fun w hw => Nat.le_of_eq rfl) (fun w hw => by have q := kw i.1 i.2.1 i.2.2 rs l 983036 4 4294967295 wl w (hw.own (by repeat' constructor)) (va hw (by repeat' constructor) (by repeat constructor) (by repeat constructor) hM'.data) hO; rw [rm, hwl] at q; exact q) rfl (fun wl2 hw2 => ?_)
   refine zz0 (ad rfl) (ae (aa (af (ab (zz0 (ac rfl) (zz0 (dk rfl rfl) (ae (aa ?_))))))))
   refine ak rfl ?_ ?_ <;> intro h3 <;> try simp only [bs] at h3
   ·first | contradiction | (exfalso; omega) | simp_all
   ·refine ax (aa (af (gd 23 av ?_)))
    refine ab (zz0 (ac rfl) (zz0 (aB rfl Tryz.call22 (fun w hw => rn p w)) ?_))
    refine zz0 (ac rfl) (zz0 (ac rfl) ?_)
    refine dV rfl jz (fun w hw => jv inp vi0 w (hw.slF hin') (by omega)) rfl (fun V46 => ?_)
    refine jm (V := V46) (fun pi ci hpv => ?_)
    subst hpv
    refine zz0 (bE (vs := [(0, _), (1, _), (2, _)]) (cs := (bJ (cJ p) i.1 (.slice pi inp.length ci) (.slice none 0 0) .nilFunc).toArray) rfl rfl (by kernel_rfl)) ?_
    refine cM (cs := (bJ (cJ p) i.1 (.slice pi inp.length ci) (.slice none 0 0) .nilFunc)) rfl rfl rfl (fun b47 => ?_)
    refine zz0 (ad rfl) (zz0 (ad rfl) (ae (aa (ao ?_))))
    refine cy Tryz.results26 rfl rfl (fun w' hw => ?_)
    exact ⟨(b47, i.1, i.2.1, i.2.2, .slice pi inp.length ci, wl2), rfl, hw.below0 (Bg.le.refl _), hw.ents0 rfl (by repeat' constructor), hw2⟩
theorem nR (l : List SecV) (V : Value) (p : UInt32) (inp : List UInt32) (vi0 : Value) (w : World) (hV : Sl (hp w) cf l V) (hB : SecB l) (hN : ∀ s ∈ l, s.name.size ≤ 140737488351232) (hD : DataIn (hp w) l) (hin : Sl (hp w) av inp vi0) (hil : inp.length ≤ 4096) (h : dL l = 0) :
  Calls Tryz.prog 9 #[V, .int .u32 p.toNat, vi0] w (fun e w' => ∃ j : Nat × Nat × Nat × Value × Value × WL × List RegV, e = .returned (.pointer (some ⟨j.1, 0, none⟩)) ∧ Below w.heap.size w w' ∧ NewEnts w w' ([cellE j.1 (bJ (cJ p) j.2.1 j.2.2.2.2.1 (.slice none 0 0) .nilFunc) 82, mapE j.2.2.1 u8V j.2.2.2.2.2.1, rowE (.slice none 0 0) 23 av []] ++ (cellE j.2.1 [j.2.2.2.1, .map (some j.2.2.1)] 91 :: rowE j.2.2.2.1 97 cD j.2.2.2.2.2.2 :: rowE j.2.2.2.2.1 23 av inp :: eI 5 j.2.2.2.2.2.2)) ∧ (cx j.2.2.2.2.2.1 = (cJ p).w ∧ j.2.2.2.2.2.1.length ≤ 4) ∧ MemOK l j.2.2.2.2.2.2) := by
 have hV' : Sl (Bg.of0 w).blk cf l V := hV
 have hD' : DataIn (Bg.of0 w).blk l := hD
 have hin' : Sl (Bg.of0 w).blk av inp vi0 := hin
 refine mf Tryz.func9 rfl Tryz.ntmps9 rfl ?_
 refine af (ab (zz0 (ad rfl) (ae (aa (af (ab (zz0 (ac rfl) ?_)))))))
 refine e7 (fun j : Nat × Nat × Value × List RegV => .tuple #[.pointer (some ⟨j.1, 0, none⟩), .int .i64 0]) (fun j => (cellE j.1 [j.2.2.1, .map (some j.2.1)] 91 :: mapE j.2.1 u8V [] :: rowE j.2.2.1 97 cD j.2.2.2 :: eI 5 j.2.2.2)) (ok := fun j => MemOK l j.2.2.2) rfl Tryz.call25 (fun w hw => Ay l V w (hw.slF hV') hB hN (hD'.mono hw.bg) h) rfl (fun i hO => ?_)
 obtain ⟨bM0, bm0, VR0, rs⟩ := i
 rw [List.append_nil]
 refine zz0 (ac rfl) (zz0 (ay rfl rfl) (zz0 (ay rfl rfl) (zz0 (ad rfl) (zz0 (ad rfl) (ae (aa (af (af (ab (zz0 (ac rfl) (zz0 (dk rfl rfl) (zz0 (ac rfl) ?_))))))))))))
 apply cZ
 ·exact (rfl : _ = (3, 17, 20))
 ·exact rfl
 ·intro hF1; have hF1' := hF1
  try simp only [bs] at hF1'
  refine zz5 hF1 (ac rfl) (zz5 hF1 (fX rfl rfl fC rfl) ?_)
  refine zz0 (aF rfl hF1 rfl) ?_
  refine ae (aa ?_)
  exact aw (hL := Pick.refl _) (Sub.cons rfl (zz7 3 rfl))
 ·intro hT1
  refine zz6 hT1 (zz6 hT1 (zz0 (aE rfl hT1 rfl) ?_))
  refine ae (aa ?_)
  exact aw (hL := Pick.refl _) (Sub.cons rfl (zz7 3 rfl))
 refine ae (aa ?_)
 refine ak rfl ?_ ?_ <;> intro h2 <;> try simp only [bs] at h2
 ·first | contradiction | (exfalso; omega) | simp_all
 ·refine ax (aa (af (ab (zz0 (ac rfl) (zz0 (ac rfl) (zz0 (ac rfl) ?_))))))
  refine nU (fun j : Nat × Nat × Nat × Value × Value × WL => .tuple #[.pointer (some ⟨j.1, 0, none⟩), .int .i64 0]) (fun j => [cellE j.1 (bJ (cJ p) j.2.1 j.2.2.2.2.1 (.slice none 0 0) .nilFunc) 82, mapE j.2.2.1 u8V j.2.2.2.2.2, rowE (.slice none 0 0) 23 av [], cellE j.2.1 [j.2.2.2.1, .map (some j.2.2.1)] 91, rowE j.2.2.2.1 97 cD rs, rowE j.2.2.2.2.1 23 av inp]) (ok := fun j => cx j.2.2.2.2.2 = (cJ p).w ∧ j.2.2.2.2.2.length ≤ ([] : WL).length + 4) rfl rfl Tryz.call26 (fun w hw => yR bM0 bm0 VR0 vi0 rs l [] p inp w (xx (T := 91) (T2 := 97) (U := 5) hw (by repeat constructor) (by repeat constructor) (fun e he => .tail _ (.tail _ (.tail _ he)))) (mapE.in_ (hw.ent _ (by repeat constructor))) hO rfl (hw.slF hin') hil) rfl (fun j hj => ?_)
  refine zz0 (ac rfl) (zz0 (ay rfl rfl) (zz0 (ay rfl rfl) (zz0 (ad rfl) (zz0 (ad rfl) (ae (aa (af (af (ab (zz0 (ac rfl) (zz0 (dk rfl rfl) (ae (aa ?_)))))))))))))
  refine ak rfl ?_ ?_ <;> intro h3 <;> try simp only [bs] at h3
  ·first | contradiction | (exfalso; omega) | simp_all
  ·refine ax (aa (af (ab (zz0 (ac rfl) (zz0 (ad rfl) (ae (aa (ao ?_))))))))
   refine aI Tryz.results9 rfl (fun w' hw => ?_)
   exact ⟨(j.1, j.2.1, j.2.2.1, j.2.2.2.1, j.2.2.2.2.1, j.2.2.2.2.2, rs), rfl, hw.below0 (Bg.le.refl _), hw.ents0 rfl (by show Pick _ (cellE j.1 (bJ (cJ p) j.2.1 j.2.2.2.2.1 (.slice none 0 0) .nilFunc) 82 :: mapE j.2.2.1 u8V j.2.2.2.2.2 :: rowE (.slice none 0 0) 23 av [] :: (cellE j.2.1 [j.2.2.2.1, .map (some j.2.2.1)] 91 :: rowE j.2.2.2.1 97 cD rs :: rowE j.2.2.2.2.1 23 av inp :: eI 5 rs)); exact .cons (by repeat constructor) (.cons (by repeat constructor) (.cons (by repeat constructor) (.cons (by repeat constructor) (.cons (by repeat constructor) (.cons (by repeat constructor) (by repeat (first | exact Pick.refl _ | apply Pick.skip)))))))), hj, hO⟩
theorem sL (l : List SecV) (V : Value) (p : UInt32) (inp : List UInt32) (vi0 : Value) (w : World) (hV : Sl (hp w) cf l V) (hB : SecB l) (hN : ∀ s ∈ l, s.name.size ≤ 140737488351232) (hD : DataIn (hp w) l) (hin : Sl (hp w) av inp vi0) (hil : inp.length ≤ 4096) (h : dL l ≠ 0) :
  Calls Tryz.prog 9 #[V, .int .u32 p.toNat, vi0] w (fun e w' => e = .returned (.pointer none) ∧ Ext w w') := by
 have hV' : Sl (Bg.of w).blk cf l V := hV
 have hD' : DataIn (Bg.of w).blk l := hD
 have hin' : Sl (Bg.of w).blk av inp vi0 := hin
 refine enter Tryz.func9 rfl Tryz.ntmps9 rfl ?_
 refine af (ab (zz0 (ad rfl) (ae (aa (af (ab (zz0 (ac rfl) (zz0 (aB rfl Tryz.call25 (fun w hw => Az l V w (hw.slF hV') hB hN (hD'.mono hw.bg) h)) ?_))))))))
 refine zz0 (ac rfl) (zz0 (ay rfl rfl) (zz0 (ay rfl rfl) (zz0 (ad rfl) (zz0 (ad rfl) (ae (aa (af (af (ab (zz0 (ac rfl) (zz0 (dk rfl rfl) (zz0 (ac rfl) ?_))))))))))))
 apply cZ (y := true)
 ·exact (rfl : _ = (3, 17, 20))
 ·exact rfl
 ·intro hF1; have hF1' := hF1
  try simp only [bs] at hF1'
  exact absurd (of_decide_eq_false hF1) (fun q => q h)
 ·intro hT1
  refine zz6 hT1 (zz6 hT1 (zz0 (aE rfl hT1 rfl) ?_))
  refine ae (aa ?_)
  exact aw (Sub.cons rfl (zz7 3 rfl))
 refine ae (aa ?_)
 refine ak rfl ?_ ?_ <;> intro h2 <;> try simp only [bs] at h2
 ·refine af (ab (zz0 (ad rfl) (ae (aa (ao (an ?_))))))
  refine aI Tryz.results9 rfl (fun w' hw => ?_)
  exact ⟨rfl, hw.below (Bg.le.refl _)⟩
 ·exact absurd h2.2 (by decide)
theorem kg (l : List SecV) (inp : List UInt32) (V vi : Value) (w : World) (hV : Sl (hp w) cf l V) (hin : Sl (hp w) av inp vi) :
  Calls Tryz.prog 6 #[V, vi] w (fun e w' => e = .returned (.bool (jb l inp)) ∧ Ext w w') := by
 have hV' : Sl (Bg.of w).blk cf l V := hV
 have hin' : Sl (Bg.of w).blk av inp vi := hin
 have hlen := hV.len_le
 refine enter Tryz.func6 rfl Tryz.ntmps6 rfl ?_
 refine af (ab (zz0 (ad rfl) (ae (aa (af (af (ab (zz0 (ac rfl) (zz0 (gI rfl bh) ?_)))))))))
 refine zz0 (dl rfl rfl) (zz0 (ac rfl) ?_)
 apply cZ
 ·exact (rfl : _ = (4, 10, 14))
 ·exact rfl
 ·intro hF1; have hF1' := hF1
  try simp only [bs] at hF1'
  refine zz5 hF1 (ac rfl) (zz5 hF1 (gI rfl al) ?_)
  refine zz5 hF1 (fG rfl rfl) (zz0 (aF rfl hF1 rfl) ?_)
  refine ae (aa ?_)
  exact aw (Sub.cons rfl (zz7 4 rfl))
 ·intro hT1
  refine zz6 hT1 (zz6 hT1 (zz6 hT1 (zz0 (aE rfl hT1 rfl) ?_)))
  refine ae (aa ?_)
  exact aw (Sub.cons rfl (zz7 4 rfl))
 refine ae (aa ?_)
 refine ak rfl ?_ ?_ <;> intro h2 <;> try simp only [bs] at h2
 ·refine af (ab (zz0 (ad rfl) (ae (aa (ao (an ?_))))))
  refine aI Tryz.results6 rfl (fun w' hw => ?_)
  exact ⟨by unfold jb; simp; omega, hw.below (Bg.le.refl _)⟩
 ·refine ax (aa (af (ab (zz0 (ad rfl) (ae (aa (af (af (ab (zz0 (ad rfl) (ae (aa (aQ ?_)))))))))))))
  refine cp (ι := Nat) (fun k => k ≤ l.length ∧ lh l k < 1000) (fun _ => _) (fun k => []) (fun k => [(6, .int .i64 (k : Nat)), (5, .int .i64 (lh l k))]) (fun k => l.length - k) 0 ⟨Nat.zero_le _, by show (0 : Int) < 1000; decide⟩ (.cons (by first | rfl | exact am rfl (by omega) | exact am rfl (by simp) | exact aS rfl (by simp)) (.cons (by first | rfl | exact am rfl (by omega) | exact am rfl (by simp) | exact aS rfl (by simp)) Front.nil)) (by repeat' constructor) rfl (fun k hi m hm => ?_)
  replace hi : k ≤ l.length ∧ lh l k < 1000 := hi
  replace hm : m = l.length - k := hm
  change Tr _ _ [] ([(6, .int .i64 (k : Nat)), (5, .int .i64 (lh l k))] ++ _) _
  obtain ⟨hk1, hk2⟩ := hi
  have hk0 : 0 ≤ lh l k := by have := lz l 0 k; rw [Nat.zero_add] at this; exact this
  refine af (af (ab (zz0 (ac rfl) (zz0 (ac rfl) (zz0 (gI rfl bh) ?_)))))
  refine zz0 (cE rfl rfl) (ae (aa ?_))
  refine ak rfl ?_ ?_ <;> intro h3 <;> try simp only [bs] at h3
  ·refine ax (aa (af (aQ (af (ab (zz0 (ac rfl) (zz0 (ac rfl) (zz0 (ac rfl) (zz0 (i9 rfl rfl bh bL) ?_)))))))))
   refine zz0 (zz3 (off := 2) (ft := 62) rfl bC rfl de) ?_
   refine zz0 (ly rfl dM) ?_
   refine zz0 (fR rfl aG) ?_
   refine zz0 (lb rfl rfl) ?_
   refine zz0 (dq rfl rfl) ?_
   refine zz0 (ad rfl) (ae (aa (af (ab (zz0 (ac rfl) (zz0 (dl rfl rfl) (ae (aa ?_))))))))
   refine ak rfl ?_ ?_ <;> intro h4 <;> try simp only [bs] at h4
   ·refine af (ab (zz0 (ad rfl) (ae (aa (ao (bf (an (an (bf (an ?_))))))))))
    refine aI Tryz.results6 rfl (fun w' hw => ?_)
    have hle : lh l (k + 1) ≤ lh l l.length := by have := lz l (k + 1) (l.length - (k + 1)); rw [show k + 1 + (l.length - (k + 1)) = l.length by omega] at this; exact this
    have he : lh l (k + 1) = lh l k + min ((l.getD k default).data.length : Int) 1000 := rfl
    exact ⟨by unfold jb; rw [decide_eq_false (p := lh l l.length < 1000) (by omega), Bool.and_false], hw.below (Bg.le.refl _)⟩
   ·refine ax (a9 (aa (ab (zz0 (ac rfl) (zz0 (dq rfl rfl) ?_)))))
    refine zz0 (ad rfl) (ae (aa ?_))
    apply bP (k + 1)
    ·exact rfl
    ·exact (.cons (by first | rfl | exact am rfl (by omega) | exact am rfl (by simp) | exact aS rfl (by simp)) (.cons (by first | rfl | exact am rfl (by omega) | exact am rfl (by simp) | exact aS rfl (by simp)) Front.nil))
    ·exact bQ 21 rfl
    ·exact (by repeat' constructor)
    ·exact ⟨by omega, by show lh l k + min ((l.getD k default).data.length : Int) 1000 < 1000; omega⟩
    ·exact (by (try dsimp only); omega)
  ·refine cm (aV (aV (bT (aa (af (ab (zz0 (ad rfl) (ae (aa (ao ?_))))))))))
   refine aI Tryz.results6 rfl (fun w' hw => ?_)
   obtain rfl : k = l.length := by omega
   exact ⟨by unfold jb; rw [decide_eq_true hk2, decide_eq_true (by omega), decide_eq_true (by omega)]; rfl, hw.below (Bg.le.refl _)⟩
end Go.Proofs.YtpeaodkfbjenpaaGreat
namespace Go.Proofs.YtpeaodkfbjenpaaGreat
open Go Go.HL Go.RowKit
theorem gu (w : World) :
  Calls Tryz.prog 7 #[] w (fun e w' => e = .returned (.bool true) ∧ Below w.heap.size w w') := by
 refine mf Tryz.func7 rfl Tryz.ntmps7 rfl ?_
 refine af (ab (zz0 (ad rfl) (ae (aa (af (ab ?_))))))
 refine A6 (E := dH) fZ (vs := [(0, _), (1, _), (2, _), (3, _), (4, _), (5, _)]) rfl rfl aG bN jH (by rfl) (by rfl) rfl (by first | kernel_rfl | rfl) rfl (fun V1 => ?_)
 refine k7 (.head _) (fun pa1 ca1 hpv => ?_)
 subst hpv
 refine m7 (.here _) (fun F1 hF1 hD1 => ?_)
 refine zz0 (bE (vs := [(0, _), (1, _), (2, _), (4, _)]) (cs := (cf.enc (exC fZ pa1 ca1)).toArray) rfl rfl (by kernel_rfl)) ?_
 refine fB (E := cf) (exC fZ pa1 ca1) rfl rfl bh bL fl (by rfl) (by rfl) rfl (fun V2 => ?_)
 refine m7 (.here _) (fun F2 hF2 hS1 => ?_)
 replace hD1 := hD1.mono hF2.blk
 refine iu (fun j : Nat × Nat × Nat × Value × Value × WL × List RegV => .pointer (some ⟨j.1, 0, none⟩)) (fun j => [cellE j.1 (bJ (cJ 4096) j.2.1 j.2.2.2.2.1 (.slice none 0 0) .nilFunc) 82, mapE j.2.2.1 u8V j.2.2.2.2.2.1, rowE (.slice none 0 0) 23 av []]) (fun j => (cellE j.2.1 [j.2.2.2.1, .map (some j.2.2.1)] 91 :: rowE j.2.2.2.1 97 cD j.2.2.2.2.2.2 :: rowE j.2.2.2.2.1 23 av [] :: eI 5 j.2.2.2.2.2.2)) (ok := fun j => (cx j.2.2.2.2.2.1 = (cJ 4096).w ∧ j.2.2.2.2.2.1.length ≤ 4) ∧ MemOK [exC fZ pa1 ca1] j.2.2.2.2.2.2) ((hF1.trans hF2).dr) rfl jQ (fun w hw => nR [exC fZ pa1 ca1] _ 4096 [] _ w (hw.slF hS1) ⟨by simp, by simp [exC, fZ]⟩ (by simp [exC]; decide) (fun s hs => by simp only [List.mem_singleton] at hs; subst hs; exact hw.slF hD1) (Sl.nil _ _) (by decide) (AS _ _)) rfl (fun j F3 hj hF3 hk => ?_)
 obtain ⟨bc1, bM1, bm1, VR1, vi1, wl1, rs1⟩ := j
 have hC1 : CpuAt F3.blk bM1 bm1 VR1 vi1 rs1 [] := mL hk
 obtain ⟨⟨hw1, hn1⟩, hO1⟩ := hj
 replace hO1 : MemOK [exC fZ pa1 ca1] rs1 := hO1
 change Tr _ _ ([cellE bc1 (bJ (cJ 4096) bM1 vi1 (.slice none 0 0) .nilFunc) 82, mapE bm1 u8V wl1, rowE (.slice none 0 0) 23 av (cJ 4096).out] ++ _) _ _
 refine zz0 (ad rfl) (ae (aa (af (ab ?_))))
 refine fB (E := dH) (2 : UInt8) rfl rfl aG bN jH (by rfl) (by rfl) rfl (fun V3 => ?_)
 refine k7 (.head _) (fun pa2 ca2 hpv => ?_)
 subst hpv
 refine m7 (.here _) (fun F4 hF4 hD2 => ?_)
 refine zz0 (bE (vs := [(0, _), (1, _), (2, _), (4, _)]) (cs := (cf.enc (exC [2] pa2 ca2)).toArray) rfl rfl (by kernel_rfl)) ?_
 refine fB (E := cf) (exC [2] pa2 ca2) rfl rfl bh bL fl (by rfl) (by rfl) rfl (fun V4 => ?_)
 refine m7 (.here _) (fun F5 hF5 hS2 => ?_)
 replace hD2 := hD2.mono hF5.blk
 refine iu (fun j : Nat × Nat × Nat × Value × Value × WL × List RegV => .pointer (some ⟨j.1, 0, none⟩)) (fun j => [cellE j.1 (bJ (cJ 4096) j.2.1 j.2.2.2.2.1 (.slice none 0 0) .nilFunc) 82, mapE j.2.2.1 u8V j.2.2.2.2.2.1, rowE (.slice none 0 0) 23 av []]) (fun j => (cellE j.2.1 [j.2.2.2.1, .map (some j.2.2.1)] 91 :: rowE j.2.2.2.1 97 cD j.2.2.2.2.2.2 :: rowE j.2.2.2.2.1 23 av [] :: eI 5 j.2.2.2.2.2.2)) (ok := fun j => (cx j.2.2.2.2.2.1 = (cJ 4096).w ∧ j.2.2.2.2.2.1.length ≤ 4) ∧ MemOK [exC [2] pa2 ca2] j.2.2.2.2.2.2) ((hF1.trans (hF2.trans (hF3.trans (hF4.trans hF5)))).dr) rfl jQ (fun w hw => nR [exC [2] pa2 ca2] _ 4096 [] _ w (hw.slF hS2) ⟨by simp, by simp [exC, fZ]⟩ (by simp [exC]; decide) (fun s hs => by simp only [List.mem_singleton] at hs; subst hs; exact hw.slF hD2) (Sl.nil _ _) (by decide) (AQ _ _)) rfl (fun j F6 hj hF6 hk => ?_)
 obtain ⟨bc2, bM2, bm2, VR2, vi2, wl2, rs2⟩ := j
 have hC2 : CpuAt F6.blk bM2 bm2 VR2 vi2 rs2 [] := mL hk
 obtain ⟨⟨hw2, hn2⟩, hO2⟩ := hj
 replace hO2 : MemOK [exC [2] pa2 ca2] rs2 := hO2
 change Tr _ _ ([cellE bc2 (bJ (cJ 4096) bM2 vi2 (.slice none 0 0) .nilFunc) 82, mapE bm2 u8V wl2, rowE (.slice none 0 0) 23 av (cJ 4096).out] ++ _) _ _
 have hF16 := hF1.trans (hF2.trans (hF3.trans (hF4.trans (hF5.trans hF6))))
 have hdr6 : F6.dr = 0 := hF16.dr
 replace hC1 := hC1.mono (hF4.trans (hF5.trans hF6)).blk
 refine zz0 (ad rfl) (ae (aa (af (af (ab (zz0 (ac rfl) (zz0 (fX rfl rfl dT rfl) ?_)))))))
 refine zz0 (ac rfl) ?_
 apply cZ
 ·exact (rfl : _ = (3, 17, 20))
 ·exact rfl
 ·intro hF5; have hF5' := hF5
  try simp only [bs] at hF5'
  refine zz5 hF5 (ac rfl) (zz5 hF5 (fX rfl rfl dT rfl) ?_)
  refine zz0 (aF rfl hF5 rfl) ?_
  refine ae (aa ?_)
  exact aw (Sub.cons rfl (zz7 3 rfl))
 ·intro hT5
  refine zz6 hT5 (zz6 hT5 (zz0 (aE rfl hT5 rfl) ?_))
  refine ae (aa ?_)
  exact aw (Sub.cons rfl (zz7 3 rfl))
 refine ae (aa ?_)
 refine ak rfl ?_ ?_ <;> intro h6 <;> try simp only [bs] at h6
 ·first | contradiction | (exfalso; omega) | simp_all
 ·refine ax (aa (af (ab (zz0 (ac rfl) ?_))))
  refine cT (fun j : WL × Value × Value × Value × Value => .agg #[.int .i64 (jV (dm [exC fZ pa1 ca1] [] (min (2 : Int) 65536).toNat (cJ 4096))), j.2.2.2.2, .int .i64 ((da [exC fZ pa1 ca1] [] (min (2 : Int) 65536).toNat (cJ 4096)).length : Nat)]) [cellE bc1 (bJ (cJ 4096) bM1 vi1 (.slice none 0 0) .nilFunc) 82, mapE bm1 u8V wl1, rowE (.slice none 0 0) 23 av (cJ 4096).out] (fun j => [cellE bc1 (bJ (dm [exC fZ pa1 ca1] [] (min (2 : Int) 65536).toNat (cJ 4096)) bM1 vi1 j.2.1 j.2.2.1) 82, mapE bm1 u8V j.1, rowE j.2.1 23 av (dm [exC fZ pa1 ca1] [] (min (2 : Int) 65536).toNat (cJ 4096)).out, rowE j.2.2.2.2 23 av (dm [exC fZ pa1 ca1] [] (min (2 : Int) 65536).toNat (cJ 4096)).out]) (ok := fun j => cx j.1 = (dm [exC fZ pa1 ca1] [] (min (2 : Int) 65536).toNat (cJ 4096)).w ∧ j.1.length ≤ wl1.length + 4 * (da [exC fZ pa1 ca1] [] (min (2 : Int) 65536).toNat (cJ 4096)).length ∧ ∃ a n c, j.2.1 = .slice a n c) (dd := fun _ => 0) rfl m5 (by repeat' constructor) (fun w hw => Nat.le_of_eq (hdr6)) (fun w hw => pp (cJ 4096) bc1 bM1 bm1 VR1 vi1 (.slice none 0 0) .nilFunc rs1 [exC fZ pa1 ca1] wl1 [] (2 : Int) w (hw.own (by repeat' constructor)) (hC1.mono (hw.lessB (Lo := [cellE bc1 (bJ (cJ 4096) bM1 vi1 (.slice none 0 0) .nilFunc) 82, mapE bm1 u8V wl1, rowE (.slice none 0 0) 23 av (cJ 4096).out]) (by repeat' constructor))) hO1 hw1 ⟨_, _, _, rfl⟩ (by show (0 : Nat) ≤ 4096; omega)) rfl (fun j hj => ?_)
  obtain ⟨wl3, vo3, ef3, vt3, vq3⟩ := j
  obtain ⟨hw3, hn3, hv3⟩ := hj
  change Tr _ _ (cellE bc1 (bJ (dm [exC fZ pa1 ca1] [] (min (2 : Int) 65536).toNat (cJ 4096)) bM1 vi1 vo3 ef3) 82 :: mapE bm1 u8V wl3 :: rowE vo3 23 av (dm [exC fZ pa1 ca1] [] (min (2 : Int) 65536).toNat (cJ 4096)).out :: rowE vq3 23 av (dm [exC fZ pa1 ca1] [] (min (2 : Int) 65536).toNat (cJ 4096)).out :: _) _ _
  obtain ⟨n3, hm3⟩ : ∃ n, n = (da [exC fZ pa1 ca1] [] (min (2 : Int) 65536).toNat (cJ 4096)).length := ⟨_, rfl⟩
  rw [← hm3] at hn3 ⊢
  obtain ⟨t3, ht3⟩ : ∃ t, t = (dm [exC fZ pa1 ca1] [] (min (2 : Int) 65536).toNat (cJ 4096)) := ⟨_, rfl⟩
  rw [← ht3] at hw3 ⊢
  refine jm (V := vq3) (fun pq3 cq3 hpv => ?_)
  subst hpv
  obtain ⟨hx1, hx2, hx3⟩ := Cg ht3 hm3
  rw [hx1, hx3]
  have hxl : t3.out.length = 1 := by rw [hx2]; rfl
  refine zz0 (ac rfl) ?_
  refine cT (fun j : WL × Value × Value × Value × Value => .agg #[.int .i64 (jV (dm [exC fZ pa1 ca1] [] (min (1 : Int) 65536).toNat t3)), j.2.2.2.2, .int .i64 ((da [exC fZ pa1 ca1] [] (min (1 : Int) 65536).toNat t3).length : Nat)]) [cellE bc1 (bJ t3 bM1 vi1 vo3 ef3) 82, mapE bm1 u8V wl3, rowE vo3 23 av t3.out] (fun j => [cellE bc1 (bJ (dm [exC fZ pa1 ca1] [] (min (1 : Int) 65536).toNat t3) bM1 vi1 j.2.1 j.2.2.1) 82, mapE bm1 u8V j.1, rowE j.2.1 23 av (dm [exC fZ pa1 ca1] [] (min (1 : Int) 65536).toNat t3).out, rowE j.2.2.2.2 23 av (dm [exC fZ pa1 ca1] [] (min (1 : Int) 65536).toNat t3).out]) (ok := fun j => cx j.1 = (dm [exC fZ pa1 ca1] [] (min (1 : Int) 65536).toNat t3).w ∧ j.1.length ≤ wl3.length + 4 * (da [exC fZ pa1 ca1] [] (min (1 : Int) 65536).toNat t3).length ∧ ∃ a n c, j.2.1 = .slice a n c) (dd := fun _ => 0) rfl m5 (by repeat' constructor) (fun w hw => Nat.le_of_eq (hdr6)) (fun w hw => pp t3 bc1 bM1 bm1 VR1 vi1 vo3 ef3 rs1 [exC fZ pa1 ca1] wl3 [] (1 : Int) w (hw.own (by repeat' constructor)) (hC1.mono (hw.lessB (Lo := [cellE bc1 (bJ t3 bM1 vi1 vo3 ef3) 82, mapE bm1 u8V wl3, rowE vo3 23 av t3.out]) (by repeat' constructor))) hO1 hw3 hv3 (by rw [hx2]; decide)) rfl (fun j hj => ?_)
  obtain ⟨wl4, vo4, ef4, vt4, vq4⟩ := j
  obtain ⟨hw4, hn4, hv4⟩ := hj
  change Tr _ _ (cellE bc1 (bJ (dm [exC fZ pa1 ca1] [] (min (1 : Int) 65536).toNat t3) bM1 vi1 vo4 ef4) 82 :: mapE bm1 u8V wl4 :: rowE vo4 23 av (dm [exC fZ pa1 ca1] [] (min (1 : Int) 65536).toNat t3).out :: rowE vq4 23 av (dm [exC fZ pa1 ca1] [] (min (1 : Int) 65536).toNat t3).out :: _) _ _
  obtain ⟨n4, hm4⟩ : ∃ n, n = (da [exC fZ pa1 ca1] [] (min (1 : Int) 65536).toNat t3).length := ⟨_, rfl⟩
  rw [← hm4] at hn4 ⊢
  obtain ⟨t4, ht4⟩ : ∃ t, t = (dm [exC fZ pa1 ca1] [] (min (1 : Int) 65536).toNat t3) := ⟨_, rfl⟩
  rw [← ht4] at hw4 ⊢
  refine jm (V := vq4) (fun pq4 cq4 hpv => ?_)
  subst hpv
  obtain ⟨hy1, hy2, hy3⟩ := Cf ht3 ht4 hm4
  rw [hy1, hy3]
  refine c9 di rfl (fun b7 => ?_)
  refine c9 di rfl (fun b8 => ?_)
  refine j0 rfl rfl cR ?_
  refine j0 rfl rfl cR ?_
  refine ae (aa (af (ab (zz0 (ac rfl) ?_))))
  refine cT (fun j : WL × Value × Value × Value × Value => .agg #[.int .i64 (jV (dm [exC [2] pa2 ca2] [] (min (9 : Int) 65536).toNat (cJ 4096))), j.2.2.2.2, .int .i64 ((da [exC [2] pa2 ca2] [] (min (9 : Int) 65536).toNat (cJ 4096)).length : Nat)]) [cellE bc2 (bJ (cJ 4096) bM2 vi2 (.slice none 0 0) .nilFunc) 82, mapE bm2 u8V wl2, rowE (.slice none 0 0) 23 av (cJ 4096).out] (fun j => [cellE bc2 (bJ (dm [exC [2] pa2 ca2] [] (min (9 : Int) 65536).toNat (cJ 4096)) bM2 vi2 j.2.1 j.2.2.1) 82, mapE bm2 u8V j.1, rowE j.2.1 23 av (dm [exC [2] pa2 ca2] [] (min (9 : Int) 65536).toNat (cJ 4096)).out, rowE j.2.2.2.2 23 av (dm [exC [2] pa2 ca2] [] (min (9 : Int) 65536).toNat (cJ 4096)).out]) (ok := fun j => cx j.1 = (dm [exC [2] pa2 ca2] [] (min (9 : Int) 65536).toNat (cJ 4096)).w ∧ j.1.length ≤ wl2.length + 4 * (da [exC [2] pa2 ca2] [] (min (9 : Int) 65536).toNat (cJ 4096)).length ∧ ∃ a n c, j.2.1 = .slice a n c) (dd := fun _ => 0) rfl m5 (by repeat' constructor) (fun w hw => Nat.le_of_eq (hdr6)) (fun w hw => pp (cJ 4096) bc2 bM2 bm2 VR2 vi2 (.slice none 0 0) .nilFunc rs2 [exC [2] pa2 ca2] wl2 [] (9 : Int) w (hw.own (by repeat' constructor)) (hC2.mono (hw.lessB (Lo := [cellE bc2 (bJ (cJ 4096) bM2 vi2 (.slice none 0 0) .nilFunc) 82, mapE bm2 u8V wl2, rowE (.slice none 0 0) 23 av (cJ 4096).out]) (by repeat' constructor))) hO2 hw2 ⟨_, _, _, rfl⟩ (by show (0 : Nat) ≤ 4096; omega)) rfl (fun j hj => ?_)
  obtain ⟨wl5, vo5, ef5, vt5, vq5⟩ := j
  obtain ⟨hw5, hn5, hv5⟩ := hj
  change Tr _ _ (cellE bc2 (bJ (dm [exC [2] pa2 ca2] [] (min (9 : Int) 65536).toNat (cJ 4096)) bM2 vi2 vo5 ef5) 82 :: mapE bm2 u8V wl5 :: rowE vo5 23 av (dm [exC [2] pa2 ca2] [] (min (9 : Int) 65536).toNat (cJ 4096)).out :: rowE vq5 23 av (dm [exC [2] pa2 ca2] [] (min (9 : Int) 65536).toNat (cJ 4096)).out :: _) _ _
  obtain ⟨n5, hm5⟩ : ∃ n, n = (da [exC [2] pa2 ca2] [] (min (9 : Int) 65536).toNat (cJ 4096)).length := ⟨_, rfl⟩
  rw [← hm5] at hn5 ⊢
  obtain ⟨t5, ht5⟩ : ∃ t, t = (dm [exC [2] pa2 ca2] [] (min (9 : Int) 65536).toNat (cJ 4096)) := ⟨_, rfl⟩
  rw [← ht5] at hw5 ⊢
  refine jm (V := vq5) (fun pq5 cq5 hpv => ?_)
  subst hpv
  obtain ⟨hz1, hz2, hz3, hz4⟩ := Cp ht5 hm5
  rw [hz1, hz2]
  refine c9 di rfl (fun b9 => ?_)
  refine j0 rfl rfl cR ?_
  refine ae (aa (af (ab (zz0 (ac rfl) (zz0 (aB rfl jB (fun w hw => js t5 bc2 bM2 vi2 vo5 ef5 w (cellE.cellsIn (hw.ent _ (by repeat constructor)) (Ext.refl _)))) ?_)))))
  refine c9 fV rfl (fun b10 => ?_)
  refine bw mY rfl rfl aP ?_
  refine ae (aa (af (ab (zz0 (zz3 (off := 0) (ft := 31) rfl cF rfl cS) ?_))))
  refine zz0 (aM rfl ee) ?_
  refine zz0 (aN rfl rfl) (zz0 (ac rfl) ?_)
  apply bF
  ·exact (rfl : _ = (4, 32, 36))
  ·exact rfl
  ·intro hT11; have hT11' := hT11
   try simp only [bs] at hT11'
   refine zz5 hT11 (zz3 (off := 2) (ft := 3) rfl cF rfl aj) ?_
   refine zz5 hT11 (aM rfl aD) ?_
   refine zz5 hT11 (aN rfl rfl) (zz0 (aE rfl hT11 rfl) ?_)
   refine ae (aa ?_)
   exact aw (Sub.cons rfl (zz7 4 rfl))
  ·intro hF11
   refine zz6 hF11 (zz6 hF11 (zz6 hF11 (zz0 (aF rfl hF11 rfl) ?_)))
   refine ae (aa ?_)
   exact aw (Sub.cons rfl (zz7 4 rfl))
  refine zz0 (ac rfl) ?_
  apply bF
  ·exact (rfl : _ = (5, 37, 42))
  ·exact rfl
  ·intro hT12; have hT12' := hT12
   try simp only [bs] at hT12'
   refine zz5 hT12 (zz3 (off := 1) (ft := 24) rfl cF rfl cC) ?_
   refine zz5 hT12 (aM rfl dF) ?_
   refine zz5 hT12 (fh rfl (by repeat constructor) al) ?_
   refine zz5 hT12 (aN rfl rfl) (zz0 (aE rfl hT12 rfl) ?_)
   refine ae (aa ?_)
   exact aw (Sub.cons rfl (zz7 5 rfl))
  ·intro hF12
   refine zz6 hF12 (zz6 hF12 (zz6 hF12 (zz6 hF12 (zz0 (aF rfl hF12 rfl) ?_))))
   refine ae (aa ?_)
   exact aw (Sub.cons rfl (zz7 5 rfl))
  refine zz0 (ac rfl) ?_
  apply bF
  ·exact (rfl : _ = (6, 43, 49))
  ·exact rfl
  ·intro hT13; have hT13' := hT13
   try simp only [bs] at hT13'
   refine zz5 hT13 (zz3 (off := 1) (ft := 24) rfl cF rfl cC) ?_
   refine zz5 hT13 (aM rfl dF) ?_
   refine zz5 hT13 (mz rfl rfl al ah) ?_
   refine zz5 hT13 (eH rfl az) ?_
   refine zz5 hT13 (gk (n := 5) rfl rfl) ?_
   refine zz0 (aE rfl hT13 rfl) ?_
   refine ae (aa ?_)
   exact aw (Sub.cons rfl (zz7 6 rfl))
  ·intro hF13
   refine zz6 hF13 (zz6 hF13 (zz6 hF13 (zz6 hF13 (zz6 hF13 (zz0 (aF rfl hF13 rfl) ?_)))))
   refine ae (aa ?_)
   exact aw (Sub.cons rfl (zz7 6 rfl))
  refine zz0 (ac rfl) ?_
  apply bF
  ·exact (rfl : _ = (4, 50, 54))
  ·exact rfl
  ·intro hT14; have hT14' := hT14
   try simp only [bs] at hT14'
   refine zz5 hT14 (zz3 (off := 0) (ft := 31) rfl cF rfl cS) ?_
   refine zz5 hT14 (aM rfl ee) ?_
   refine zz5 hT14 (aN rfl rfl) (zz0 (aE rfl hT14 rfl) ?_)
   refine ae (aa ?_)
   exact aw (Sub.cons rfl (zz7 4 rfl))
  ·intro hF14
   refine zz6 hF14 (zz6 hF14 (zz6 hF14 (zz0 (aF rfl hF14 rfl) ?_)))
   refine ae (aa ?_)
   exact aw (Sub.cons rfl (zz7 4 rfl))
  refine zz0 (ac rfl) ?_
  apply bF
  ·exact (rfl : _ = (4, 55, 59))
  ·exact rfl
  ·intro hT15; have hT15' := hT15
   try simp only [bs] at hT15'
   refine zz5 hT15 (zz3 (off := 2) (ft := 3) rfl cF rfl aj) ?_
   refine zz5 hT15 (aM rfl aD) ?_
   refine zz5 hT15 (aN rfl rfl) (zz0 (aE rfl hT15 rfl) ?_)
   refine ae (aa ?_)
   exact aw (Sub.cons rfl (zz7 4 rfl))
  ·intro hF15
   refine zz6 hF15 (zz6 hF15 (zz6 hF15 (zz0 (aF rfl hF15 rfl) ?_)))
   refine ae (aa ?_)
   exact aw (Sub.cons rfl (zz7 4 rfl))
  refine zz0 (ac rfl) ?_
  apply bF
  ·exact (rfl : _ = (3, 60, 63))
  ·exact rfl
  ·intro hT16; have hT16' := hT16
   try simp only [bs] at hT16'
   refine zz5 hT16 (ac rfl) (zz5 hT16 (aB rfl lN (fun w hw => kz t4 bc1 bM1 vi1 vo4 ef4 w (cellE.cellsIn (hw.ent _ (by repeat constructor)) (Ext.refl _)))) ?_)
   refine zz0 (aE rfl hT16 rfl) ?_
   refine ae (aa ?_)
   exact aw (Sub.cons rfl (zz7 3 rfl))
  ·intro hF16
   refine zz6 hF16 (zz6 hF16 (zz0 (aF rfl hF16 rfl) ?_))
   refine ae (aa ?_)
   exact aw (Sub.cons rfl (zz7 3 rfl))
  refine zz0 (ac rfl) ?_
  apply bF
  ·exact (rfl : _ = (4, 64, 68))
  ·exact rfl
  ·intro hT17; have hT17' := hT17
   try simp only [bs] at hT17'
   refine zz5 hT17 (zz3 (off := 0) (ft := 31) rfl cF rfl cS) ?_
   refine zz5 hT17 (aM rfl ee) ?_
   refine zz5 hT17 (aN rfl rfl) (zz0 (aE rfl hT17 rfl) ?_)
   refine ae (aa ?_)
   exact aw (Sub.cons rfl (zz7 4 rfl))
  ·intro hF17
   refine zz6 hF17 (zz6 hF17 (zz6 hF17 (zz0 (aF rfl hF17 rfl) ?_)))
   refine ae (aa ?_)
   exact aw (Sub.cons rfl (zz7 4 rfl))
  refine zz0 (ac rfl) ?_
  apply bF
  ·exact (rfl : _ = (4, 69, 73))
  ·exact rfl
  ·intro hT18; have hT18' := hT18
   try simp only [bs] at hT18'
   refine zz5 hT18 (zz3 (off := 2) (ft := 3) rfl cF rfl aj) ?_
   refine zz5 hT18 (aM rfl aD) ?_
   refine zz5 hT18 (aN rfl rfl) (zz0 (aE rfl hT18 rfl) ?_)
   refine ae (aa ?_)
   exact aw (Sub.cons rfl (zz7 4 rfl))
  ·intro hF18
   refine zz6 hF18 (zz6 hF18 (zz6 hF18 (zz0 (aF rfl hF18 rfl) ?_)))
   refine ae (aa ?_)
   exact aw (Sub.cons rfl (zz7 4 rfl))
  refine zz0 (ac rfl) ?_
  apply bF
  ·exact (rfl : _ = (4, 74, 78))
  ·exact rfl
  ·intro hT19; have hT19' := hT19
   try simp only [bs] at hT19'
   refine zz5 hT19 (zz3 (off := 8) (ft := 23) rfl aA rfl ah) ?_
   refine zz5 hT19 (aM rfl az) ?_
   refine zz5 hT19 (gk (n := 4294967295) rfl rfl) ?_
   refine zz0 (aE rfl hT19 rfl) ?_
   refine ae (aa ?_)
   exact aw (Sub.cons rfl (zz7 4 rfl))
  ·intro hF19
   refine zz6 hF19 (zz6 hF19 (zz6 hF19 (zz0 (aF rfl hF19 rfl) ?_)))
   refine ae (aa ?_)
   exact aw (Sub.cons rfl (zz7 4 rfl))
  refine zz0 (ac rfl) ?_
  apply bF
  ·exact (rfl : _ = (5, 79, 84))
  ·exact rfl
  ·intro hT20; have hT20' := hT20
   try simp only [bs] at hT20'
   refine zz5 hT20 (zz3 (off := 0) (ft := 36) rfl aA rfl bG) ?_
   refine zz5 hT20 (fj rfl rfl aY ah) ?_
   refine zz5 hT20 (aM rfl az) ?_
   refine zz5 hT20 (gk (n := 983040) rfl rfl) ?_
   refine zz0 (aE rfl hT20 rfl) ?_
   refine ae (aa ?_)
   exact aw (Sub.cons rfl (zz7 5 rfl))
  ·intro hF20
   refine zz6 hF20 (zz6 hF20 (zz6 hF20 (zz6 hF20 (zz0 (aF rfl hF20 rfl) ?_))))
   refine ae (aa ?_)
   exact aw (Sub.cons rfl (zz7 5 rfl))
  refine zz0 (ac rfl) ?_
  apply bF
  ·exact (rfl : _ = (4, 85, 89))
  ·exact rfl
  ·intro hT21; have hT21' := hT21
   try simp only [bs] at hT21'
   refine zz5 hT21 (aB rfl Tryz.call22 (fun w hw => rn 7 w)) ?_
   refine zz5 hT21 (Ac (k := 0) (off := 8) (ft := 23) rfl aA rfl rfl az rfl) ?_
   refine zz5 hT21 (gk (n := 7) rfl rfl) ?_
   refine zz0 (aE rfl hT21 rfl) ?_
   refine ae (aa ?_)
   exact aw (Sub.cons rfl (zz7 4 rfl))
  ·intro hF21
   refine zz6 hF21 (zz6 hF21 (zz6 hF21 (zz0 (aF rfl hF21 rfl) ?_)))
   refine ae (aa ?_)
   exact aw (Sub.cons rfl (zz7 4 rfl))
  refine zz0 (ad rfl) (ae (aa (ao ?_)))
  refine aI Tryz.results7 rfl (fun w' hw => ?_)
  exact ⟨by simp [hx1, hx2, hx3, hy1, hy2, hy3, hz1, hz2, hz3, hz4, sg], hw.below0 hF16⟩
end Go.Proofs.YtpeaodkfbjenpaaGreat
namespace Go.HL
open Go Go.RowKit
section
variable (e : UInt8) (x y : UInt32) (dp : Option Addr) (dc : Nat)
end
theorem ze : sb gU [.bool, .bool, .bool, .bool] [0, 1, 2, 3] := by
  intro x y
  refine ⟨fun j o e ho he => ?_, ?_⟩
  · rcases j with _ | _ | _ | _ | j <;> simp at ho he <;> subst ho <;> subst he <;> trivial
  · obtain ⟨a0, a1, a2, a3⟩ := x
    obtain ⟨c0, c1, c2, c3⟩ := y
    rw [Bool.eq_iff_iff]
    simp [qx, gU]
end Go.HL
namespace Go.HL
open Go Go.RowKit
section
variable {P : Program}
inductive FieldsRun (P : Program) (d : Nat) (xs ys : Array Value) : List Field → List Bool → Prop
  | nil : FieldsRun P d xs ys [] []
  | cons {f : Field} {fs : List Field} {u v : Value} {b : Bool} {bs : List Bool} (hn : f.name ≠ "_") (hx : ∀ w, (part f.type xs f.offset).run P w = .ok u w) (hy : ∀ w, (part f.type ys f.offset).run P w = .ok v w)
      (he : ∀ w, (Op.equalIn d f.type u v).run P w = .ok b w) (h : FieldsRun P d xs ys fs bs) : FieldsRun P d xs ys (f :: fs) (b :: bs)
theorem lC {d : Nat} {xs ys : Array Value} (w : World) : ∀ {fs : List Field} {bs : List Bool}, FieldsRun P d xs ys fs bs → (Op.eqFields d xs ys fs).run P w = .ok (bs.all id) w
  | [], _, .nil => by simp [Op.eqFields]
  | f :: fs, _, .cons (b := b) (bs := bs) hn hx hy he h => by
    have ih := lC w h
    simp only [Op.eqFields, hn, ne_eq, not_false_eq_true, if_true, Sem.run_bind, List.all_cons, hx, hy, he, Result.andThen_ok]
    cases b
    · simp
    · simpa using ih
theorem yp {d : Nat} {t e : TypeId} {a0 a1 a2 a3 a4 a5 a6 a7 b0 b1 b2 b3 b4 b5 b6 b7 : Int} (ht : P.underlying t = some (.array 8 e)) (he : P.underlying e = some (.int .u32)) (hz : ∀ w, (sizeOf e).run P w = .ok 1 w) (hag : ∀ w, (isAgg e).run P w = .ok false w) (w : World) :
    (Op.equalIn (d + 1 + 1) t (.agg #[.int .u32 a0, .int .u32 a1, .int .u32 a2, .int .u32 a3, .int .u32 a4, .int .u32 a5, .int .u32 a6, .int .u32 a7]) (.agg #[.int .u32 b0, .int .u32 b1, .int .u32 b2, .int .u32 b3, .int .u32 b4, .int .u32 b5, .int .u32 b6, .int .u32 b7])).run P w =
      .ok (decide (a0 = b0 ∧ a1 = b1 ∧ a2 = b2 ∧ a3 = b3 ∧ a4 = b4 ∧ a5 = b5 ∧ a6 = b6 ∧ a7 = b7)) w := by
  have r : ∀ xs : Array Value, ∀ v i, xs[i]? = some v → (part e xs i).run P w = .ok v w := fun xs v i h => ia hag h
  have q : ∀ c0 c1 c2 c3 c4 c5 c6 c7 : Int, ∀ i v, (#[Value.int .u32 c0, .int .u32 c1, .int .u32 c2, .int .u32 c3, .int .u32 c4, .int .u32 c5, .int .u32 c6, .int .u32 c7] : Array Value)[i]? = some v → (part e #[Value.int .u32 c0, .int .u32 c1, .int .u32 c2, .int .u32 c3, .int .u32 c4, .int .u32 c5, .int .u32 c6, .int .u32 c7] i).run P w = .ok v w := fun c0 c1 c2 c3 c4 c5 c6 c7 i v h => r _ v i h
  have p0 := fun c0 c1 c2 c3 c4 c5 c6 c7 => q c0 c1 c2 c3 c4 c5 c6 c7 0 _ rfl
  have p1 := fun c0 c1 c2 c3 c4 c5 c6 c7 => q c0 c1 c2 c3 c4 c5 c6 c7 1 _ rfl
  have p2 := fun c0 c1 c2 c3 c4 c5 c6 c7 => q c0 c1 c2 c3 c4 c5 c6 c7 2 _ rfl
  have p3 := fun c0 c1 c2 c3 c4 c5 c6 c7 => q c0 c1 c2 c3 c4 c5 c6 c7 3 _ rfl
  have p4 := fun c0 c1 c2 c3 c4 c5 c6 c7 => q c0 c1 c2 c3 c4 c5 c6 c7 4 _ rfl
  have p5 := fun c0 c1 c2 c3 c4 c5 c6 c7 => q c0 c1 c2 c3 c4 c5 c6 c7 5 _ rfl
  have p6 := fun c0 c1 c2 c3 c4 c5 c6 c7 => q c0 c1 c2 c3 c4 c5 c6 c7 6 _ rfl
  have p7 := fun c0 c1 c2 c3 c4 c5 c6 c7 => q c0 c1 c2 c3 c4 c5 c6 c7 7 _ rfl
  rw [Op.equalIn]
  simp only [Sem.run_bind, run_underlying ht, Result.andThen_ok, hz, Std.Legacy.Range.forIn_eq_forIn_range', Std.Legacy.Range.size]
  simp [List.range', p0, p1, p2, p3, p4, p5, p6, p7, run_equalIn_int w _ _ _ _ _ _ he]
  by_cases h0 : a0 = b0
  · by_cases h1 : a1 = b1
    · by_cases h2 : a2 = b2
      · by_cases h3 : a3 = b3
        · by_cases h4 : a4 = b4
          · by_cases h5 : a5 = b5
            · by_cases h6 : a6 = b6
              · by_cases h7 : a7 = b7 <;> simp [h0, h1, h2, h3, h4, h5, h6, h7]
              · simp [h0, h1, h2, h3, h4, h5, h6]
            · simp [h0, h1, h2, h3, h4, h5]
          · simp [h0, h1, h2, h3, h4]
        · simp [h0, h1, h2, h3]
      · simp [h0, h1, h2]
    · simp [h0, h1]
  · simp [h0]
theorem wY {d : Nat} {t : TypeId} {fs : Array Field} (ht : P.underlying t = some (.struct fs)) (hw : WordFields P fs.toList [.bool, .bool, .bool, .bool]) (ho : fs.toList.map (·.offset) = [0, 1, 2, 3])
    (hh : P.stoodInHeld t = false) (x y : Flg) (w : World) : (Op.equalIn (d + 1 + 1) t (.agg (gU.enc x).toArray) (.agg (gU.enc y).toArray)).run P w = .ok (decide (x = y)) w := by
  have hf : P.fieldsOf t = fs := by simp [Program.fieldsOf, ht]
  rw [run_equalIn_struct w _ t _ _ (by rw [hf]; exact ht) hh, hf]
  obtain ⟨h1, h2⟩ := ze x y
  rw [iT _ _ _ w fs.toList _ hw (fun j f e hj he => h1 j f.offset e (by rw [← ho]; simp [hj]) he), ← h2, ← ho, List.all_map]
  rfl
structure MachTy (P : Program) (t : TypeId) : Prop where
  ex : ∃ (tr tp tf tu : TypeId) (f0 f1 f2 : Field) (fs : Array Field), P.underlying t = some (.struct #[f0, f1, f2]) ∧ f0.name ≠ "_" ∧ f1.name ≠ "_" ∧ f2.name ≠ "_" ∧ f0.type = tr ∧ f1.type = tp ∧ f2.type = tf ∧ f0.offset = 0 ∧ f1.offset = 8 ∧ f2.offset = 9 ∧
    P.stoodInHeld t = false ∧ P.underlying tr = some (.array 8 tu) ∧ (∀ w, (isAgg tr).run P w = .ok true w) ∧ (∀ w, (sizeOf tr).run P w = .ok 8 w) ∧ P.underlying tu = some (.int .u32) ∧ (∀ w, (sizeOf tu).run P w = .ok 1 w) ∧ (∀ w, (isAgg tu).run P w = .ok false w) ∧
    P.underlying tp = some (.int .u32) ∧ (∀ w, (isAgg tp).run P w = .ok false w) ∧ P.underlying tf = some (.struct fs) ∧ WordFields P fs.toList [.bool, .bool, .bool, .bool] ∧ fs.toList.map (·.offset) = [0, 1, 2, 3] ∧ P.stoodInHeld tf = false ∧ (∀ w, (isAgg tf).run P w = .ok true w) ∧ (∀ w, (sizeOf tf).run P w = .ok 4 w)
theorem yW {x y : Mach} (h : (x.r0.toNat = y.r0.toNat ∧ x.r1.toNat = y.r1.toNat ∧ x.r2.toNat = y.r2.toNat ∧ x.r3.toNat = y.r3.toNat ∧ x.r4.toNat = y.r4.toNat ∧ x.r5.toNat = y.r5.toNat ∧ x.r6.toNat = y.r6.toNat ∧ x.r7.toNat = y.r7.toNat) ∧ x.pc.toNat = y.pc.toNat ∧ x.f = y.f) : x = y := by
  obtain ⟨⟨h0, h1, h2, h3, h4, h5, h6, h7⟩, h8, h9⟩ := h
  cases x; cases y
  simp only at h0 h1 h2 h3 h4 h5 h6 h7 h8 h9
  rw [UInt32.toNat_inj] at h0 h1 h2 h3 h4 h5 h6 h7 h8
  subst h0 h1 h2 h3 h4 h5 h6 h7 h8 h9
  rfl
theorem nF {t : TypeId} {cs vs : List Value} {o k : Nat} (ha : ∀ w, (isAgg t).run P w = .ok true w) (hz : ∀ w, (sizeOf t).run P w = .ok k w) (hv : (cs.drop o).take k = vs) (w : World) : (part t cs.toArray o).run P w = .ok (.agg vs.toArray) w := by
  have h1 : cs.toArray.extract o (o + k) = vs.toArray := by
    apply Array.toList_inj.1
    simp only [Array.toList_extract, List.extract]
    rw [show o + k - o = k by omega, hv]
  simp [part, ha, hz, hv]
open Classical in
theorem pS {t : TypeId} (h : MachTy P t) (x y : Mach) (w : World) : (Op.equal t (.agg (mY.enc x).toArray) (.agg (mY.enc y).toArray)).run P w = .ok (decide (x = y)) w := by
  obtain ⟨tr, tp, tf, tu, f0, f1, f2, fs, ht, n0, n1, n2, y0, y1, y2, o0, o1, o2, hh, htr, hatr, hztr, htu, hztu, hatu, htp, hatp, htf, hwf, hof, hhf, hatf, hztf⟩ := h.ex
  have hf : P.fieldsOf t = #[f0, f1, f2] := by simp [Program.fieldsOf, ht]
  subst y0 y1 y2
  unfold Op.equal
  show (Op.equalIn (9997 + 1 + 1 + 1) t _ _).run P w = _
  rw [run_equalIn_struct w _ t _ _ (by rw [hf]; exact ht) hh, hf]
  have hr := lC w (FieldsRun.cons (P := P) (d := 9997 + 1 + 1) (xs := (mY.enc x).toArray) (ys := (mY.enc y).toArray) (f := f0) (fs := [f1, f2]) n0
    (fun w => by rw [o0]; exact nF hatr hztr (vs := [.int .u32 x.r0.toNat, .int .u32 x.r1.toNat, .int .u32 x.r2.toNat, .int .u32 x.r3.toNat, .int .u32 x.r4.toNat, .int .u32 x.r5.toNat, .int .u32 x.r6.toNat, .int .u32 x.r7.toNat]) rfl w)
    (fun w => by rw [o0]; exact nF hatr hztr (vs := [.int .u32 y.r0.toNat, .int .u32 y.r1.toNat, .int .u32 y.r2.toNat, .int .u32 y.r3.toNat, .int .u32 y.r4.toNat, .int .u32 y.r5.toNat, .int .u32 y.r6.toNat, .int .u32 y.r7.toNat]) rfl w)
    (fun w => yp htr htu hztu hatu w)
    (FieldsRun.cons (f := f1) (fs := [f2]) n1 (fun w => by rw [o1]; exact ia hatp (v := .int .u32 x.pc.toNat) rfl) (fun w => by rw [o1]; exact ia hatp (v := .int .u32 y.pc.toNat) rfl)
      (fun w => run_equalIn_int w _ _ _ _ _ _ htp)
      (FieldsRun.cons (f := f2) (fs := []) n2 (fun w => by rw [o2]; exact nF hatf hztf (vs := gU.enc x.f) rfl w) (fun w => by rw [o2]; exact nF hatf hztf (vs := gU.enc y.f) rfl w)
        (fun w => wY htf hwf hof hhf x.f y.f w) .nil)))
  refine hr.trans ?_
  congr 1
  rw [Bool.eq_iff_iff]
  simp only [List.all_cons, List.all_nil, id, Bool.and_true, Bool.and_eq_true, decide_eq_true_eq, beq_iff_eq, Int.natCast_inj]
  constructor
  · rintro ⟨q1, q2, q3⟩; exact yW ⟨q1, q2, q3⟩
  · rintro rfl; exact ⟨⟨rfl, rfl, rfl, rfl, rfl, rfl, rfl, rfl⟩, rfl, rfl⟩
end
section
variable {P : Program} {N : Nat} {F : Bg} {L : List Ent} {M : Fr} {dst : Option Tmp} {ty : TypeId} {pos : String} {after : Array Edge} {g : Option (Nat × Bool)}
open Classical in
theorem wK {x y : Operand} {t u : TypeId} {p q : Mach} (hx : opv M x = some (.agg (mY.enc p).toArray)) (hy : opv M y = some (.agg (mY.enc q).toArray)) (h : MachTy P t) (hg : P.eqGuardType P.depth t = false) :
    QS P N F L M ⟨dst, .binOp .eql t x y u, ty, pos, after, g⟩ (.bool (decide (p = q))) :=
  cu fun a w ha _ => by
    simp [execOp, ha.eval hx, ha.eval hy, jL w hg, binOp, pS h]
open Classical in
theorem wJ {x y : Operand} {t u : TypeId} {p q : Mach} (hx : opv M x = some (.agg (mY.enc p).toArray)) (hy : opv M y = some (.agg (mY.enc q).toArray)) (h : MachTy P t) (hg : P.eqGuardType P.depth t = false) :
    QS P N F L M ⟨dst, .binOp .neq t x y u, ty, pos, after, g⟩ (.bool (decide (p ≠ q))) :=
  cu fun a w ha _ => by
    simp [execOp, ha.eval hx, ha.eval hy, jL w hg, binOp, pS h]
end
theorem v6 : ∀ {xs ys : List UInt32}, xs.Pairwise (· < ·) → ys.Pairwise (· < ·) → (∀ a, a ∈ xs ↔ a ∈ ys) → xs = ys
  | [], [], _, _, _ => rfl
  | [], y :: ys, _, _, h => by have := (h y).2 (.head _); cases this
  | x :: xs, [], _, _, h => by have := (h x).1 (.head _); cases this
  | x :: xs, y :: ys, h1, h2, h => by
    rw [List.pairwise_cons] at h1 h2
    have hxy : x = y := by
      rcases List.mem_cons.1 ((h x).1 (.head _)) with q | q
      · exact q
      · rcases List.mem_cons.1 ((h y).2 (.head _)) with r | r
        · exact r.symm
        · have a1 := UInt32.lt_iff_toNat_lt.1 (h2.1 x q)
          have a2 := UInt32.lt_iff_toNat_lt.1 (h1.1 y r)
          omega
    subst hxy
    rw [v6 h1.2 h2.2 (fun a => ⟨fun q => by
      rcases List.mem_cons.1 ((h a).1 (.tail _ q)) with r | r
      · subst r; have := UInt32.lt_iff_toNat_lt.1 (h1.1 a q); omega
      · exact r, fun q => by
      rcases List.mem_cons.1 ((h a).2 (.tail _ q)) with r | r
      · subst r; have := UInt32.lt_iff_toNat_lt.1 (h2.1 a q); omega
      · exact r⟩)]
theorem IsChg.uniq {l : List SecV} {w : WrF} {xs ys : List UInt32} (h1 : IsChg l w xs) (h2 : IsChg l w ys) : xs = ys := v6 h1.1 h2.1 fun a => (h1.2 a).trans (h2.2 a).symm
theorem v5 : ∀ {xs : List UInt32} {b : Nat}, xs.Pairwise (· < ·) → (∀ a ∈ xs, b ≤ a.toNat) → b ≤ 4294967296 → b + xs.length ≤ 4294967296
  | [], b, _, _, hb => by simpa using hb
  | x :: xs, b, h, ha, hb => by
    rw [List.pairwise_cons] at h
    have h0 := ha x (.head _)
    have hx := x.toNat_lt
    have ih := v5 (xs := xs) (b := x.toNat + 1) h.2 (fun a q => by have := UInt32.lt_iff_toNat_lt.1 (h.1 a q); omega) (by omega)
    rw [List.length_cons]
    omega
theorem IsChg.len {l : List SecV} {w : WrF} {xs : List UInt32} (h : IsChg l w xs) : xs.length ≤ 4294967296 := by
  have := v5 (b := 0) h.1 (fun a _ => Nat.zero_le _) (by omega)
  omega
end Go.HL
namespace Go.Proofs.YtpeaodkfbjenpaaGreat
open Go Go.HL Go.RowKit
theorem nI : MachTy Tryz.prog 40 :=
 ⟨⟨36, 23, 38, 23, _, _, _, _, aA, by decide, by decide, by decide, rfl, rfl, rfl, rfl, rfl, rfl, by kernel_rfl, aY, Tryz.isAgg36, bG, aT, ah, az, aT, az, bj, uM _ bj, rfl, vS, dN, bH⟩⟩
theorem wy : Tryz.prog.eqGuardType Tryz.prog.depth 40 = false := by kernel_rfl
theorem pQ (l : List SecV) (bM1 bm1 : Nat) (VR1 : Value) (rs1 : List RegV) (wl1 : WL) (bM2 bm2 : Nat) (VR2 : Value) (rs2 : List RegV) (wl2 : WL) (w : World) (hM1 : MemAt (hp w) bM1 bm1 VR1 rs1) (hO1 : MemOK l rs1) (hW1 : MapIn (hp w) bm1 u8V wl1) (hn1 : wl1.length ≤ 1000000) (hM2 : MemAt (hp w) bM2 bm2 VR2 rs2) (hO2 : MemOK l rs2) (hW2 : MapIn (hp w) bm2 u8V wl2) (hn2 : wl2.length ≤ 1000000) (hI : i7 l (cx wl1)) (he : cx wl1 = cx wl2) :
  Calls Tryz.prog 37 #[.pointer (some ⟨bM1, 0, none⟩), .pointer (some ⟨bM2, 0, none⟩)] w (fun e w' => e = .returned (.bool true) ∧ Ext w w') := by
 have hM1 : MemAt (Bg.of w).blk bM1 bm1 VR1 rs1 := hM1
 have hW1 : MapIn (Bg.of w).blk bm1 u8V wl1 := hW1
 have hM2 : MemAt (Bg.of w).blk bM2 bm2 VR2 rs2 := hM2
 have hW2 : MapIn (Bg.of w).blk bm2 u8V wl2 := hW2
 refine enter Tryz.func37 rfl Tryz.ntmps37 rfl ?_
 refine af (ab (zz0 (ad rfl) (ae (aa (af (ab (zz0 (ac rfl) ?_)))))))
 refine e7 (fun i : Value × List UInt32 => i.1) (fun i => [rowE i.1 23 av i.2]) (ok := fun i => IsChg l (cx wl1) i.2) rfl Tryz.call31 (fun w hw => qo bM1 bm1 VR1 rs1 l wl1 w (hM1.mono hw.bg) hO1 (hW1.mono hw.bg) hI hn1) rfl (fun i hi1 => ?_)
 obtain ⟨V1, xs⟩ := i
 refine zz0 (ac rfl) ?_
 refine e7 (fun i : Value × List UInt32 => i.1) (fun i => [rowE i.1 23 av i.2]) (ok := fun i => IsChg l (cx wl1) i.2) rfl Tryz.call31 (fun w hw => by rw [he]; exact qo bM2 bm2 VR2 rs2 l wl2 w (hM2.mono hw.bg) hO2 (hW2.mono hw.bg) (he ▸ hI) hn2) rfl (fun i hi2 => ?_)
 obtain ⟨V2, ys⟩ := i
 obtain rfl : xs = ys := IsChg.uniq hi1 hi2
 have hxl : xs.length ≤ 4294967296 := hi1.len
 refine zz0 (ad rfl) (zz0 (ad rfl) (ae (aa (af (af (ab (zz0 (ac rfl) (zz0 (ac rfl) (zz0 (aB rfl kn (fun w hw => kf xs xs _ _ w (hw.row (by repeat constructor)) (hw.row (by repeat constructor)))) ?_)))))))))
 refine zz0 (cj rfl) (ae (aa ?_))
 refine ak rfl ?_ ?_ <;> intro h1 <;> try simp only [bs] at h1
 ·exact absurd h1 (by simp)
 ·refine ax (aa (af (af (ab (zz0 (ad rfl) (ae (aa (aQ ?_))))))))
  refine cp (ι := Nat) (fun k => k ≤ xs.length) (fun _ => _) (fun k => [rowE V2 23 av xs, rowE V1 23 av xs]) (fun k => [(7, .int .i64 (k : Nat))]) (fun k => xs.length - k) 0 (Nat.zero_le _) (.cons (by first | rfl | exact am rfl (by omega) | exact am rfl (by simp) | exact aS rfl (by simp)) Front.nil) (by repeat' constructor) rfl (fun k hi m hm => ?_)
  replace hi : k ≤ xs.length := hi
  replace hm : m = xs.length - k := hm
  change Tr _ _ [rowE V2 23 av xs, rowE V1 23 av xs] ([(7, .int .i64 (k : Nat))] ++ _) _
  have hk1 : k ≤ xs.length := hi
  refine af (af (ab (zz0 (ac rfl) (zz0 (ac rfl) (zz0 (fh rfl (by repeat constructor) al) ?_)))))
  refine zz0 (cE rfl rfl) (ae (aa ?_))
  refine ak rfl ?_ ?_ <;> intro h2 <;> try simp only [bs] at h2
  ·refine ax (aa (af (aQ (af (ab (zz0 (ac rfl) (zz0 (ac rfl) (zz0 (ac rfl) (zz0 (dP rfl rfl al ah) ?_)))))))))
   refine zz0 (eH rfl az) ?_
   refine zz0 (aB rfl jA (fun w hw => ju bM1 bm1 VR1 rs1 l (xs.getD k default) 1 wl1 w (hM1.mono hw.bg) hO1 (hW1.mono hw.bg))) ?_
   refine zz0 (ac rfl) (zz0 (ay rfl rfl) (zz0 (ay rfl rfl) (zz0 (ad rfl) (zz0 (ad rfl) (ae (aa (af (ab (zz0 (ac rfl) (zz0 (ac rfl) (zz0 (ac rfl) (zz0 (dP rfl rfl al ah) ?_))))))))))))
   refine zz0 (eH rfl az) ?_
   refine zz0 (aB rfl jA (fun w hw => ju bM2 bm2 VR2 rs2 l (xs.getD k default) 1 wl2 w (hM2.mono hw.bg) hO2 (hW2.mono hw.bg))) ?_
   refine zz0 (ac rfl) (zz0 (ay rfl rfl) (zz0 (ay rfl rfl) (zz0 (ad rfl) (zz0 (ad rfl) (ae (aa (af (ab (zz0 (ac rfl) (zz0 (ac rfl) (zz0 (jk rfl rfl) ?_)))))))))))
   refine zz0 (ac rfl) ?_
   apply cZ
   ·exact (rfl : _ = (4, 47, 51))
   ·exact rfl
   ·intro hF3; have hF3' := hF3
    try simp only [bs] at hF3'
    refine zz5 hF3 (ac rfl) (zz5 hF3 (ac rfl) (zz5 hF3 (dk rfl rfl) (zz0 (aF rfl hF3 rfl) ?_)))
    refine ae (aa ?_)
    exact aw (Sub.cons rfl (zz7 4 rfl))
   ·intro hT3
    refine zz6 hT3 (zz6 hT3 (zz6 hT3 (zz0 (aE rfl hT3 rfl) ?_)))
    refine ae (aa ?_)
    exact aw (Sub.cons rfl (zz7 4 rfl))
   refine ae (aa ?_)
   refine ak rfl ?_ ?_ <;> intro h4 <;> try simp only [bs] at h4
   ·exact absurd h4 (by rw [he]; simp)
   ·refine ax (a9 (aa (ab (zz0 (ac rfl) (zz0 (dq rfl rfl) ?_)))))
    refine zz0 (ad rfl) (ae (aa ?_))
    apply bP (k + 1)
    ·exact rfl
    ·exact (.cons (by first | rfl | exact am rfl (by omega) | exact am rfl (by simp) | exact aS rfl (by simp)) Front.nil)
    ·exact bQ 35 rfl
    ·exact (by repeat' constructor)
    ·exact (by show k + 1 ≤ _; omega)
    ·exact (by (try dsimp only); omega)
  ·refine cm (aV (aV (bT (aa (af (ab (zz0 (ad rfl) (ae (aa (ao ?_))))))))))
   refine aI Tryz.results37 rfl (fun w' hw => ?_)
   exact ⟨rfl, hw.below (Bg.le.refl _)⟩
theorem yo (l : List SecV) (s : St) (bc1 bc2 : Nat) (vi1 vo1 eff1 vi2 vo2 eff2 : Value) (bM1 bm1 : Nat) (VR1 : Value) (rs1 : List RegV) (wl1 : WL) (bM2 bm2 : Nat) (VR2 : Value) (rs2 : List RegV) (wl2 : WL) (w : World) (hM1 : MemAt (hp w) bM1 bm1 VR1 rs1) (hO1 : MemOK l rs1) (hW1 : MapIn (hp w) bm1 u8V wl1) (hn1 : wl1.length ≤ 1000000) (hM2 : MemAt (hp w) bM2 bm2 VR2 rs2) (hO2 : MemOK l rs2) (hW2 : MapIn (hp w) bm2 u8V wl2) (hn2 : wl2.length ≤ 1000000) (hI : i7 l s.w) (hs1 : cx wl1 = s.w) (hs2 : cx wl2 = s.w) (hol : s.out.length ≤ 4096) (hc1 : CellsIn (hp w) bc1 (bJ s bM1 vi1 vo1 eff1)) (hc2 : CellsIn (hp w) bc2 (bJ s bM2 vi2 vo2 eff2)) (ho1 : Sl (hp w) av s.out vo1) (ho2 : Sl (hp w) av s.out vo2) :
  Calls Tryz.prog 17 #[.pointer (some ⟨bc1, 0, none⟩), .pointer (some ⟨bc2, 0, none⟩)] w (fun e w' => e = .returned (.bool true) ∧ Ext w w') := by
 have hM1 : MemAt (Bg.of w).blk bM1 bm1 VR1 rs1 := hM1
 have hW1 : MapIn (Bg.of w).blk bm1 u8V wl1 := hW1
 have hM2 : MemAt (Bg.of w).blk bM2 bm2 VR2 rs2 := hM2
 have hW2 : MapIn (Bg.of w).blk bm2 u8V wl2 := hW2
 have hc1 : CellsIn (Bg.of w).blk bc1 (bJ s bM1 vi1 vo1 eff1) := hc1
 have ho1 : Sl (Bg.of w).blk av s.out vo1 := ho1
 have hc2 : CellsIn (Bg.of w).blk bc2 (bJ s bM2 vi2 vo2 eff2) := hc2
 have ho2 : Sl (Bg.of w).blk av s.out vo2 := ho2
 refine enter Tryz.func17 rfl Tryz.ntmps17 rfl ?_
 refine af (ab (zz0 (ad rfl) (ae (aa (af (ab (zz0 (ac rfl) ?_)))))))
 refine e7 (fun i : Nat × Nat × Value => .pointer (some ⟨i.1, 0, none⟩)) (fun i => [cellE i.1 [i.2.2, .map (some i.2.1)] 91, mapE i.2.1 u8V wl1, rowE i.2.2 97 cD rs1]) (ok := fun _ => True) rfl Tryz.call29 (fun w hw => nq s bc1 bM1 vi1 vo1 eff1 bm1 VR1 rs1 wl1 w (hc1.mono hw.bg) (hM1.mono hw.bg) (hW1.mono hw.bg) (Nat.le_trans hO1.bounds.1 (by omega))) rfl (fun i1 _ => ?_)
 refine zz0 (ac rfl) ?_
 refine e7 (fun i : Nat × Nat × Value => .pointer (some ⟨i.1, 0, none⟩)) (fun i => [cellE i.1 [i.2.2, .map (some i.2.1)] 91, mapE i.2.1 u8V wl2, rowE i.2.2 97 cD rs2]) (ok := fun _ => True) rfl Tryz.call29 (fun w hw => nq s bc2 bM2 vi2 vo2 eff2 bm2 VR2 rs2 wl2 w (hc2.mono hw.bg) (hM2.mono hw.bg) (hW2.mono hw.bg) (Nat.le_trans hO2.bounds.1 (by omega))) rfl (fun i2 _ => ?_)
 refine zz0 (ad rfl) (zz0 (ad rfl) (ae (aa (af (af (ab (zz0 (ac rfl) (zz0 (fX rfl rfl fC rfl) ?_))))))))
 refine zz0 (ac rfl) ?_
 apply cZ
 ·exact (rfl : _ = (3, 13, 16))
 ·exact rfl
 ·intro hF1; have hF1' := hF1
  try simp only [bs] at hF1'
  refine zz5 hF1 (ac rfl) (zz5 hF1 (fX rfl rfl fC rfl) ?_)
  refine zz0 (aF rfl hF1 rfl) ?_
  refine ae (aa ?_)
  exact aw (Sub.cons rfl (zz7 3 rfl))
 ·intro hT1
  refine zz6 hT1 (zz6 hT1 (zz0 (aE rfl hT1 rfl) ?_))
  refine ae (aa ?_)
  exact aw (Sub.cons rfl (zz7 3 rfl))
 refine ae (aa ?_)
 refine ak rfl ?_ ?_ <;> intro h2 <;> try simp only [bs] at h2
 ·first | contradiction | (exfalso; omega) | simp_all
 ·refine ax (aa (af (ab (zz0 (ac rfl) (zz0 (aB rfl jB (fun w hw => js s bc1 bM1 vi1 vo1 eff1 w (hc1.mono hw.bg))) ?_)))))
  refine zz0 (ac rfl) (zz0 (aB rfl jB (fun w hw => js s bc2 bM2 vi2 vo2 eff2 w (hc2.mono hw.bg))) ?_)
  refine zz0 (wK (p := s.m) (q := s.m) rfl rfl nI wy) ?_
  refine zz0 (ac rfl) ?_
  apply bF
  ·exact (rfl : _ = (6, 22, 28))
  ·exact rfl
  ·intro hT3; have hT3' := hT3
   try simp only [bs] at hT3'
   refine zz5 hT3 (ac rfl) (vI rfl rfl hT3 ?_)
   refine dV rfl Tryz.call30 (fun w hw => nm s bc1 bM1 vi1 vo1 eff1 w (hc1.mono hw.bg) (hw.slF ho1) hol) rfl (fun V4 => ?_)
   refine zz5 hT3 (ac rfl) (vI rfl rfl hT3 ?_)
   refine dV rfl Tryz.call30 (fun w hw => nm s bc2 bM2 vi2 vo2 eff2 w (hc2.mono hw.bg) (hw.slF ho2) hol) rfl (fun V5 => ?_)
   refine zz5 hT3 (aB rfl kn (fun w hw => kf s.out s.out _ _ w (hw.row (by repeat constructor)) (hw.row (by repeat constructor)))) ?_
   refine zz0 (aE rfl hT3 rfl) ?_
   refine ae (aa ?_)
   exact aw (Sub.cons rfl (zz7 6 rfl))
  ·intro hF3
   refine zz6 hF3 (zz6 hF3 (zz6 hF3 (zz6 hF3 (zz6 hF3 (zz0 (aF rfl hF3 rfl) ?_)))))
   refine ae (aa ?_)
   exact aw (Sub.cons rfl (zz7 6 rfl))
  refine zz0 (ac rfl) ?_
  apply bF
  ·exact (rfl : _ = (6, 29, 35))
  ·exact rfl
  ·intro hT6; have hT6' := hT6
   try simp only [bs] at hT6'
   refine zz5 hT6 (ac rfl) (zz5 hT6 (aB rfl lN (fun w hw => kz s bc1 bM1 vi1 vo1 eff1 w (hc1.mono hw.bg))) ?_)
   refine zz5 hT6 (ac rfl) (zz5 hT6 (aB rfl lN (fun w hw => kz s bc2 bM2 vi2 vo2 eff2 w (hc2.mono hw.bg))) ?_)
   refine zz5 hT6 (jS rfl rfl dS) ?_
   refine zz0 (aE rfl hT6 rfl) ?_
   refine ae (aa ?_)
   exact aw (Sub.cons rfl (zz7 6 rfl))
  ·intro hF6
   refine zz6 hF6 (zz6 hF6 (zz6 hF6 (zz6 hF6 (zz6 hF6 (zz0 (aF rfl hF6 rfl) ?_)))))
   refine ae (aa ?_)
   exact aw (Sub.cons rfl (zz7 6 rfl))
  refine zz0 (ac rfl) ?_
  apply bF
  ·exact (rfl : _ = (4, 36, 40))
  ·exact rfl
  ·intro hT7; have hT7' := hT7
   try simp only [bs] at hT7'
   refine zz5 hT7 (ac rfl) (zz5 hT7 (ac rfl) (zz5 hT7 (aB rfl Tryz.call37 (fun w hw => pQ l i1.1 i1.2.1 i1.2.2 rs1 wl1 i2.1 i2.2.1 i2.2.2 rs2 wl2 w ⟨cellE.cellsIn (hw.ent _ (by repeat constructor)) (Ext.refl _), hw.row (by repeat constructor), (hM1.mono hw.bg).data⟩ hO1 (mapE.in_ (hw.ent _ (by repeat constructor))) hn1 ⟨cellE.cellsIn (hw.ent _ (by repeat constructor)) (Ext.refl _), hw.row (by repeat constructor), (hM2.mono hw.bg).data⟩ hO2 (mapE.in_ (hw.ent _ (by repeat constructor))) hn2 (hs1 ▸ hI) (hs1.trans hs2.symm))) ?_))
   refine zz0 (aE rfl hT7 rfl) ?_
   refine ae (aa ?_)
   exact aw (Sub.cons rfl (zz7 4 rfl))
  ·intro hF7
   refine zz6 hF7 (zz6 hF7 (zz6 hF7 (zz0 (aF rfl hF7 rfl) ?_)))
   refine ae (aa ?_)
   exact aw (Sub.cons rfl (zz7 4 rfl))
  refine zz0 (ad rfl) (ae (aa (ao ?_)))
  refine aI Tryz.results17 rfl (fun w' hw => ?_)
  exact ⟨by simp, hw.below (Bg.le.refl _)⟩
end Go.Proofs.YtpeaodkfbjenpaaGreat
namespace Go.HL
open Go Go.RowKit
section
variable {l : List SecV} {inp : List UInt32}
theorem wd : ∀ (n : Nat) {s : St}, s.out.length ≤ 4096 → (dm l inp n s).out.length ≤ 4096
  | 0, s, h => h
  | n + 1, s, h => by
    rw [dm]
    split
    · exact wd n (pK h)
    · exact h
theorem rj : ∀ (n : Nat) (s : St), (da l inp n s).length ≤ n
  | 0, s => Nat.le_refl _
  | n + 1, s => by
    rw [da]
    split
    · rw [List.length_cons]; exact Nat.succ_le_succ (rj n _)
    · exact Nat.zero_le _
variable {rs : List RegV} (hO : MemOK l rs)
include hO
theorem oa {w : WrF} (hw : i7 l w) {a x : UInt32} {n : Int} : i7 l (bO l w a n x).1 := by
  unfold bO
  split
  · exact hw
  rename_i h1
  split
  · exact hw
  rename_i h2
  split
  · exact hw
  have hn : n = 1 ∨ n = 2 ∨ n = 4 := by
    unfold jp at h1
    simp at h1
    omega
  exact tP (x := 0) hO hw (by omega) (by omega)
theorem AU {s : St} (hw : i7 l s.w) {i : Ins} {nx : UInt32} : i7 l (cU l inp s i nx).1.w := by
  unfold cU
  split
  · unfold d5
    repeat' split
    all_goals first | exact hw | exact oa hO hw
  split
  · unfold dj
    repeat' split
    all_goals first | exact hw | exact oa hO hw
  split
  · unfold eF
    repeat' split
    all_goals exact hw
  split
  · unfold eR
    repeat' split
    all_goals first | exact hw | exact oa hO hw
  split
  · rw [vV]; exact hw
  exact hw
theorem te {s : St} (hw : i7 l s.w) : i7 l (stepS l inp s).1.w := by
  unfold stepS
  split
  · exact hw
  split
  · exact hw
  show i7 l (dX l inp s).1.w
  unfold dX
  split
  · exact hw
  split
  · exact hw
  exact AU hO hw
theorem wc : ∀ (n : Nat) {s : St}, i7 l s.w → i7 l (dm l inp n s).w
  | 0, s, h => h
  | n + 1, s, h => by
    rw [dm]
    split
    · exact wc n (te hO h)
    · exact h
theorem wn (p : UInt32) : i7 l (cJ p).w := by
  have hst : e9 983036 = true := by decide
  exact tP (x := 0) hO (w := fun _ => none) (a := 983036) (fun a h => by cases h) (Nat.le_refl 4) (by unfold dW; rw [if_pos hst]; decide)
end
end Go.HL
namespace Go.HL
open Go Go.RowKit
structure CellV where
  addr : UInt32
  b : UInt8
  deriving Inhabited
def cQ : Enc CellV := ⟨2, fun c => [.int .u32 c.addr.toNat, .int .u8 c.b.toNat], fun _ => rfl, fun x v h => by simp at h; rcases h with h | h <;> subst h <;> rfl⟩
def dA : List CellV → WrF
  | [], _ => none
  | c :: t, a => if c.addr = a then some c.b else dA t a
def nZ (cs : List CellV) : Prop := cs.Pairwise (fun x y => x.addr < y.addr)
def lk (a : UInt32) (b : UInt8) : List CellV → List CellV
  | [] => [⟨a, b⟩]
  | c :: t => if c.addr < a then c :: lk a b t else if c.addr = a then ⟨a, b⟩ :: t else ⟨a, b⟩ :: c :: t
theorem rB (a : UInt32) (b : UInt8) : ∀ cs : List CellV, dA (lk a b cs) = w9 (dA cs) a b
  | [] => by
    funext x
    show (if a = x then some b else none) = if x = a then some b else none
    by_cases h : a = x
    · rw [if_pos h, if_pos h.symm]
    · rw [if_neg h, if_neg (fun e => h e.symm)]
  | c :: t => by
    funext x
    unfold lk w9
    by_cases h1 : c.addr < a
    · rw [if_pos h1]
      show (if c.addr = x then some c.b else dA (lk a b t) x) = if x = a then some b else (if c.addr = x then some c.b else dA t x)
      rw [rB a b t]
      by_cases h2 : c.addr = x
      · rw [if_pos h2, if_neg (fun e => by subst e; subst h2; exact absurd h1 (UInt32.lt_irrefl _)), if_pos h2]
      · rw [if_neg h2, if_neg h2]; rfl
    · rw [if_neg h1]
      by_cases h2 : c.addr = a
      · rw [if_pos h2]
        show (if a = x then some b else dA t x) = if x = a then some b else (if c.addr = x then some c.b else dA t x)
        by_cases h3 : a = x
        · rw [if_pos h3, if_pos h3.symm]
        · rw [if_neg h3, if_neg (fun e => h3 e.symm), if_neg (fun e => h3 (h2.symm.trans e))]
      · rw [if_neg h2]
        show (if a = x then some b else dA (c :: t) x) = if x = a then some b else dA (c :: t) x
        by_cases h3 : a = x
        · rw [if_pos h3, if_pos h3.symm]
        · rw [if_neg h3, if_neg (fun e => h3 e.symm)]
theorem tU {a : UInt32} {b : UInt8} : ∀ {cs : List CellV} {x : CellV}, x ∈ lk a b cs → x = ⟨a, b⟩ ∨ x ∈ cs
  | [], x, h => .inl (by simpa [lk] using h)
  | c :: t, x, h => by
    unfold lk at h
    split at h
    · rcases List.mem_cons.1 h with h | h
      · exact .inr (h ▸ .head _)
      · exact (tU h).imp id (.tail _)
    · split at h
      · rcases List.mem_cons.1 h with h | h
        · exact .inl h
        · exact .inr (.tail _ h)
      · rcases List.mem_cons.1 h with h | h
        · exact .inl h
        · exact .inr h
theorem oN {a : UInt32} {b : UInt8} : ∀ {cs : List CellV}, nZ cs → nZ (lk a b cs)
  | [], _ => List.pairwise_singleton _ _
  | c :: t, h => by
    have h' := List.pairwise_cons.1 h
    unfold lk
    by_cases h1 : c.addr < a
    · rw [if_pos h1]
      refine List.pairwise_cons.2 ⟨fun x hx => ?_, oN h'.2⟩
      rcases tU hx with rfl | hx
      · exact h1
      · exact h'.1 x hx
    · rw [if_neg h1]
      by_cases h2 : c.addr = a
      · rw [if_pos h2]
        exact List.pairwise_cons.2 ⟨fun x hx => by show a < x.addr; rw [← h2]; exact h'.1 x hx, h'.2⟩
      · rw [if_neg h2]
        have h3 : a < c.addr := by
          rw [UInt32.lt_iff_toNat_lt] at h1 ⊢
          have : c.addr.toNat ≠ a.toNat := fun e => h2 (UInt32.toNat_inj.1 e)
          omega
        refine List.pairwise_cons.2 ⟨fun x hx => ?_, h⟩
        rcases List.mem_cons.1 hx with rfl | hx
        · exact h3
        · have h4 := h'.1 x hx
          show a < x.addr
          rw [UInt32.lt_iff_toNat_lt] at h3 h4 ⊢
          omega
theorem tV (a : UInt32) (b : UInt8) : ∀ cs : List CellV, (lk a b cs).length ≤ cs.length + 1
  | [] => Nat.le_refl _
  | c :: t => by
    have := tV a b t
    unfold lk
    repeat' split
    all_goals simp only [List.length_cons]
    all_goals omega
theorem pZ {a : UInt32} {b : UInt8} : ∀ (cs : List CellV) (k : Nat), k ≤ cs.length → (∀ j, j < k → (cs.getD j default).addr < a) → (k < cs.length → ¬ (cs.getD k default).addr < a) →
    lk a b cs = cs.take k ++ [⟨a, b⟩] ++ cs.drop (if k < cs.length ∧ (cs.getD k default).addr = a then k + 1 else k)
  | [], k, hk, _, _ => by
    have : k = 0 := by simpa using hk
    subst this; rfl
  | c :: t, 0, _, _, h => by
    have h0 : ¬ c.addr < a := h (Nat.zero_lt_succ _)
    unfold lk
    rw [if_neg h0]
    by_cases h2 : c.addr = a
    · rw [if_pos h2, if_pos ⟨Nat.zero_lt_succ _, h2⟩]; rfl
    · rw [if_neg h2, if_neg (fun q => h2 q.2)]; rfl
  | c :: t, k + 1, hk, hl, h => by
    have h0 : c.addr < a := hl 0 (Nat.zero_lt_succ _)
    unfold lk
    rw [if_pos h0, pZ t k (by simpa using hk) (fun j hj => by have := hl (j + 1) (by omega); simpa using this) (fun q => by have := h (by simpa using q); simpa using this)]
    simp only [List.take_succ_cons, List.cons_append, List.length_cons, List.getD_cons_succ, Nat.add_lt_add_iff_right]
    congr 2
    by_cases q : k < t.length ∧ (t.getD k default).addr = a
    · rw [if_pos q, if_pos q]; rfl
    · rw [if_neg q, if_neg q]; rfl
theorem qB {cs : List CellV} {a : UInt32} {k : Nat} (hk : k < cs.length) : dA (cs.drop k) a = if (cs.getD k default).addr = a then some (cs.getD k default).b else dA (cs.drop (k + 1)) a := by
  rw [drop_cons hk]; rfl
theorem rR {a : UInt32} {x : UInt8} : ∀ {cs : List CellV}, dA cs a = some x → (⟨a, x⟩ : CellV) ∈ cs
  | [], h => by cases h
  | c :: t, h => by
    have h' : (if c.addr = a then some c.b else dA t a) = some x := h
    split at h'
    · rename_i e
      obtain ⟨ca, cb⟩ := c
      cases h'
      subst e
      exact .head _
    · exact .tail _ (rR h')
theorem ux {c : CellV} : ∀ {cs : List CellV}, nZ cs → c ∈ cs → dA cs c.addr = some c.b
  | d :: t, hs, h => by
    have hs' := List.pairwise_cons.1 hs
    show (if d.addr = c.addr then some d.b else dA t c.addr) = _
    rcases List.mem_cons.1 h with rfl | h
    · rw [if_pos rfl]
    · have h1 := hs'.1 c h
      rw [if_neg (fun e => by rw [e] at h1; exact absurd h1 (UInt32.lt_irrefl _))]
      exact ux hs'.2 h
def e8 (cs : List CellV) (a n : UInt32) : Nat → List CellV
  | 0 => cs
  | k + 1 => lk (a + UInt32.ofNat k) (fS n (8 * k)).toUInt8 (e8 cs a n k)
theorem kt (cs : List CellV) (a n : UInt32) : ∀ k, dA (e8 cs a n k) = m8 (dA cs) a n k
  | 0 => rfl
  | k + 1 => by
    show dA (lk _ _ _) = w9 (m8 (dA cs) a n k) _ _
    rw [rB, kt cs a n k]
theorem jd {cs : List CellV} (h : nZ cs) (a n : UInt32) : ∀ k, nZ (e8 cs a n k)
  | 0 => h
  | k + 1 => oN (jd h a n k)
theorem iZ (cs : List CellV) (a n : UInt32) : ∀ k, (e8 cs a n k).length ≤ cs.length + k
  | 0 => Nat.le_refl _
  | k + 1 => by
    have h1 := iZ cs a n k
    have h2 := tV (a + UInt32.ofNat k) (fS n (8 * k)).toUInt8 (e8 cs a n k)
    show (lk _ _ _).length ≤ _
    omega
def kC (l : List SecV) (cs : List CellV) : List UInt32 := (cs.filter (fun c => decide (c.b ≠ jf l c.addr))).map CellV.addr
theorem uw (l : List SecV) (cs : List CellV) : (kC l cs).length ≤ cs.length := by
  unfold kC
  rw [List.length_map]; exact List.length_filter_le _ _
theorem rN {l : List SecV} {cs : List CellV} {k : Nat} (h : k < cs.length) : kC l (cs.take (k + 1)) = kC l (cs.take k) ++ (if (cs.getD k default).b ≠ jf l (cs.getD k default).addr then [(cs.getD k default).addr] else []) := by
  rw [hZ h]
  unfold kC
  rw [List.filter_append, List.map_append]
  congr 1
  by_cases q : (cs.getD k default).b ≠ jf l (cs.getD k default).addr
  · rw [if_pos q, List.filter_cons, if_pos (decide_eq_true q)]; rfl
  · rw [if_neg q, List.filter_cons, if_neg (by simpa using q)]; rfl
theorem A2 {l : List SecV} {cs : List CellV} (h : nZ cs) : IsChg l (dA cs) (kC l cs) := by
  constructor
  · unfold kC
    rw [List.pairwise_map]
    exact (List.Pairwise.filter _ h)
  · intro a
    unfold kC
    simp only [List.mem_map, List.mem_filter, decide_eq_true_eq]
    constructor
    · rintro ⟨c, ⟨h1, h2⟩, rfl⟩
      exact ⟨c.b, ux h h1, h2⟩
    · rintro ⟨b, h1, h2⟩
      exact ⟨⟨a, b⟩, ⟨rR h1, h2⟩, rfl⟩
def fu (l : List SecV) (a : UInt32) : Int := if e9 a = true then (l.length : Int) else cV l a
theorem xN (a b : UInt32) : decide ((4294967296 : Int) ≤ (a.toNat : Int) + b.toNat) = decide (a + b < a) := by
  have h1 := a.toNat_lt
  have h2 := b.toNat_lt
  have h3 : (a + b).toNat = (a.toNat + b.toNat) % 4294967296 := UInt32.toNat_add a b
  rw [Bool.eq_iff_iff]
  simp only [decide_eq_true_eq, UInt32.lt_iff_toNat_lt]
  omega
theorem pj (a : UInt32) : lB a 0 = a := by
  rw [← UInt32.toNat_inj, iW]
  have := a.toNat_lt
  omega
theorem kQ (a : UInt32) : fS a 0 = a := by
  rw [← UInt32.toNat_inj, ic]
  simp
theorem l4 (a : UInt32) (k : Nat) : lB a k * 2 = lB a (k + 1) := by
  rw [← UInt32.toNat_inj, UInt32.toNat_mul, iW, iW]
  have e : a.toNat * 2 ^ (k + 1) = a.toNat * 2 ^ k * 2 := by rw [Nat.pow_succ, Nat.mul_assoc]
  rw [e]
  show _ * 2 % 4294967296 = _
  omega
theorem l3 (a : UInt32) (k : Nat) : fS a k / 2 = fS a (k + 1) := by
  rw [← UInt32.toNat_inj, UInt32.toNat_div, ic, ic, Nat.pow_succ, ← Nat.div_div_eq_div_mul]
  rfl
theorem kP (a : UInt32) (k : Nat) : fS a (8 * k) / 256 = fS a (8 * (k + 1)) := by
  rw [← UInt32.toNat_inj, UInt32.toNat_div, ic, ic, show 8 * (k + 1) = 8 * k + 8 by omega, Nat.pow_add, ← Nat.div_div_eq_div_mul]
  rfl
theorem wr8 (n : Int) : IntKind.i8.wrap n = if 128 ≤ n % 256 then n % 256 - 256 else n % 256 := by
  unfold IntKind.wrap; simp [IntKind.signed, IntKind.bits]
theorem BV (n : Int) : IntKind.i16.wrap n = if 32768 ≤ n % 65536 then n % 65536 - 65536 else n % 65536 := by
  unfold IntKind.wrap; simp [IntKind.signed, IntKind.bits]
theorem Cm (n : Int) : IntKind.i32.wrap n = if 2147483648 ≤ n % 4294967296 then n % 4294967296 - 4294967296 else n % 4294967296 := by
  unfold IntKind.wrap; simp [IntKind.signed, IntKind.bits]
theorem wrap32 (a : UInt32) : IntKind.i32.wrap a.toNat = if fL a = true then (a.toNat : Int) - 4294967296 else a.toNat := by
  have h := a.toNat_lt
  unfold fL
  simp only [UInt32.le_iff_toNat_le, decide_eq_true_eq]
  have e : (2147483648 : UInt32).toNat = 2147483648 := rfl
  rw [e, Cm]
  split <;> split <;> omega
theorem oI (a : UInt32) : nA a 0 = a := by
  unfold nA
  rw [← UInt32.toNat_inj]
  have h := a.toNat_lt
  have h2 := jq ((IntKind.i32.wrap a.toNat).fdiv (2 ^ 0))
  rw [show ((2 : Int) ^ 0) = 1 from rfl, Int.fdiv_one, wrap32] at h2 ⊢
  split at h2
  · rename_i q; rw [if_pos q]; omega
  · rename_i q; rw [if_neg q]; omega
def o7 (a : UInt32) : UInt32 := if fL a = true then 2147483648 else 0
theorem jI (a : UInt32) (k : Nat) : nA a k / 2 + o7 a = nA a (k + 1) := by
  unfold nA o7
  rw [← UInt32.toNat_inj, UInt32.toNat_add, UInt32.toNat_div]
  have h := a.toNat_lt
  obtain ⟨A, hA⟩ : ∃ A, A = IntKind.i32.wrap a.toNat := ⟨_, rfl⟩
  have hA' := hA
  rw [wrap32] at hA'
  rw [← hA]
  have hp : (0 : Int) < 2 ^ k := Int.pow_pos (by decide)
  have e1 : A.fdiv (2 ^ (k + 1)) = (A.fdiv (2 ^ k)).fdiv 2 := by
    rw [Int.fdiv_eq_ediv_of_nonneg _ (Int.le_of_lt hp), Int.fdiv_eq_ediv_of_nonneg _ (show (0 : Int) ≤ 2 by decide), Int.fdiv_eq_ediv_of_nonneg _ (Int.le_of_lt (Int.pow_pos (show (0 : Int) < 2 by decide))), Int.pow_succ, Int.ediv_ediv_of_nonneg (Int.le_of_lt hp)]
  obtain ⟨q, hq⟩ : ∃ q, q = A.fdiv (2 ^ k) := ⟨_, rfl⟩
  have hq' := hq
  rw [Int.fdiv_eq_ediv_of_nonneg _ (Int.le_of_lt hp)] at hq'
  rw [e1, ← hq]
  have h1 := jq q
  have h2 := jq (q.fdiv 2)
  rw [Int.fdiv_eq_ediv_of_nonneg _ (by decide)] at h2 ⊢
  have hd := Int.mul_ediv_add_emod A (2 ^ k)
  have hm1 := Int.emod_nonneg A (Int.ne_of_gt hp)
  have hm2 := Int.emod_lt_of_pos A hp
  rw [← hq'] at hd
  show ((u32 q).toNat / 2 + _) % 4294967296 = _
  by_cases hs : fL a = true
  · rw [if_pos hs] at hA' ⊢
    have hn : 2147483648 ≤ a.toNat := by
      unfold fL at hs
      simpa [UInt32.le_iff_toNat_le] using hs
    have q1 : q < 0 := by
      rcases Int.lt_or_le q 0 with c | c
      · exact c
      · have := Int.mul_nonneg (Int.le_of_lt hp) c
        omega
    have q2 : -2147483648 ≤ q := by
      rcases Int.lt_or_le q (-2147483648) with c | c
      · exfalso
        have g1 : 2 ^ k * q ≤ 2 ^ k * (-2147483649) := Int.mul_le_mul_of_nonneg_left (by omega) (Int.le_of_lt hp)
        omega
      · exact c
    show ((u32 q).toNat / 2 + 2147483648) % 4294967296 = _
    omega
  · rw [if_neg hs] at hA' ⊢
    have hn : a.toNat < 2147483648 := by
      unfold fL at hs
      simpa [UInt32.le_iff_toNat_le] using hs
    have q1 : 0 ≤ q := by
      rcases Int.lt_or_le q 0 with c | c
      · exfalso
        have g1 : 2 ^ k * q ≤ 2 ^ k * (-1) := Int.mul_le_mul_of_nonneg_left (by omega) (Int.le_of_lt hp)
        omega
      · exact c
    have q2 : q ≤ A := by
      rcases Int.lt_or_le A q with c | c
      · exfalso
        have g1 : 1 * q ≤ 2 ^ k * q := Int.mul_le_mul_of_nonneg_right (by omega) q1
        omega
      · exact c
    show ((u32 q).toNat / 2 + 0) % 4294967296 = _
    omega
theorem Cd {b : List UInt8} {k : Nat} (h : k < b.length) : 256 * leP (b.drop (k + 1)) + (b.getD k default).toUInt32 = leP (b.drop k) := by
  rw [drop_cons h]
  show _ = (b.getD k default).toUInt32 + 256 * leP (b.drop (k + 1))
  exact UInt32.add_comm _ _
theorem AL {a : UInt32} (h : 128 ≤ a % 256) : a % 256 - 256 = jU a 1 := by
  rw [UInt32.le_iff_toNat_le] at h
  rw [← UInt32.toNat_inj]
  unfold jU
  rw [if_pos rfl]
  have h2 := jq (IntKind.i8.wrap a.toNat)
  have e := wr8 a.toNat
  have hm : (a % 256).toNat = a.toNat % 256 := UInt32.toNat_mod a 256
  have e1 : (128 : UInt32).toNat = 128 := rfl
  rw [e1, hm] at h
  rw [if_pos (by omega)] at e
  rw [UInt32.toNat_sub, hm]
  have e2 : (256 : UInt32).toNat = 256 := rfl
  rw [e2]
  rw [e] at h2 ⊢
  omega
theorem AK {a : UInt32} (h : ¬ 128 ≤ a % 256) : a % 256 = jU a 1 := by
  rw [UInt32.le_iff_toNat_le] at h
  rw [← UInt32.toNat_inj]
  unfold jU
  rw [if_pos rfl]
  have h2 := jq (IntKind.i8.wrap a.toNat)
  have e := wr8 a.toNat
  have hm : (a % 256).toNat = a.toNat % 256 := UInt32.toNat_mod a 256
  have e1 : (128 : UInt32).toNat = 128 := rfl
  rw [e1, hm] at h
  rw [if_neg (by omega)] at e
  rw [hm]
  rw [e] at h2 ⊢
  omega
theorem AI {a : UInt32} (h : 32768 ≤ a % 65536) : a % 65536 - 65536 = jU a 2 := by
  rw [UInt32.le_iff_toNat_le] at h
  rw [← UInt32.toNat_inj]
  unfold jU
  rw [if_neg (by decide), if_pos rfl]
  have h2 := jq (IntKind.i16.wrap a.toNat)
  have e := BV a.toNat
  have hm : (a % 65536).toNat = a.toNat % 65536 := UInt32.toNat_mod a 65536
  have e1 : (32768 : UInt32).toNat = 32768 := rfl
  rw [e1, hm] at h
  rw [if_pos (by omega)] at e
  rw [UInt32.toNat_sub, hm]
  have e2 : (65536 : UInt32).toNat = 65536 := rfl
  rw [e2]
  rw [e] at h2 ⊢
  omega
theorem AH {a : UInt32} (h : ¬ 32768 ≤ a % 65536) : a % 65536 = jU a 2 := by
  rw [UInt32.le_iff_toNat_le] at h
  rw [← UInt32.toNat_inj]
  unfold jU
  rw [if_neg (by decide), if_pos rfl]
  have h2 := jq (IntKind.i16.wrap a.toNat)
  have e := BV a.toNat
  have hm : (a % 65536).toNat = a.toNat % 65536 := UInt32.toNat_mod a 65536
  have e1 : (32768 : UInt32).toNat = 32768 := rfl
  rw [e1, hm] at h
  rw [if_neg (by omega)] at e
  rw [hm]
  rw [e] at h2 ⊢
  omega
theorem xC {a : UInt32} {n : Int} (h1 : n ≠ 1) (h2 : n ≠ 2) : jU a n = a := by
  unfold jU
  rw [if_neg h1, if_neg h2]
end Go.HL
namespace Go.Proofs.YtpeaodkfbjenpaaGreat
open Go Go.HL Go.RowKit
theorem gZ (a : UInt32) (w : World) :
  Calls Tryz.prog 148 #[.int .u32 a.toNat] w (fun e w' => e = .returned (.bool (fL a)) ∧ Ext w w') := by
 refine enter Tryz.func148 rfl Tryz.ntmps148 rfl ?_
 refine af (ab (zz0 (ad rfl) (ae (aa (af (ab (zz0 (ac rfl) (zz0 (mR (n := 2147483648) rfl rfl) ?_))))))))
 refine zz0 (ad rfl) (ae (aa (ao ?_)))
 refine aI Tryz.results148 rfl (fun w' hw => ?_)
 exact ⟨rfl, hw.below (Bg.le.refl _)⟩
theorem uX (a : UInt32) (w : World) :
  Calls Tryz.prog 131 #[.int .u32 a.toNat] w (fun e w' => e = .returned (.agg (gU.enc (vg a)).toArray) ∧ Ext w w') := by
 refine enter Tryz.func131 rfl Tryz.ntmps131 rfl ?_
 refine af (ab ?_)
 refine c9 dE rfl (fun b1 => ?_)
 refine ae (aa (af (ab (zz0 (ac rfl) (zz0 (gk (n := 0) rfl rfl) ?_)))))
 refine zz0 (ac rfl) (zz0 (aB rfl fE (fun w hw => gZ a w)) ?_)
 refine zz0 (bE (vs := [(0, _), (1, _)]) rfl rfl (my _ _)) ?_
 refine bw gU rfl rfl bH ?_
 refine ae (aa (ao ?_))
 refine fJ Tryz.results131 rfl (by repeat constructor) dN bH (by rfl) (fun w' hw => ?_)
 exact ⟨rfl, hw.below (Bg.le.refl _)⟩
theorem yF (a b : UInt32) (w : World) :
  Calls Tryz.prog 127 #[.int .u32 a.toNat, .int .u32 b.toNat] w (fun e w' => e = .returned (.tuple #[.int .u32 (a + b).toNat, .agg (gU.enc (uD a b)).toArray]) ∧ Ext w w') := by
 have ha := a.toNat_lt
 have hb := b.toNat_lt
 refine enter Tryz.func127 rfl Tryz.ntmps127 rfl ?_
 refine af (ab (zz0 (ad rfl) ?_))
 refine c9 dE rfl (fun b1 => ?_)
 refine ae (aa (af (ab (zz0 (ac rfl) (zz0 (ac rfl) (zz0 (cL rfl rfl) ?_))))))
 refine zz0 (ad rfl) (ae (aa (af (ab (zz0 (ac rfl) (zz0 (gl rfl aT cN) (zz0 (ac rfl) (zz0 (gl rfl aT cN) (zz0 (nY rfl rfl (by omega)) ?_)))))))))
 refine zz0 (ad rfl) (ae (aa (af (ab (zz0 (ac rfl) (zz0 (ac rfl) (zz0 (gk (n := 0) rfl rfl) ?_)))))))
 refine zz0 (ac rfl) (zz0 (aB rfl fE (fun w hw => gZ (a + b) w)) ?_)
 refine zz0 (ac rfl) (zz0 (dl rfl rfl) (zz0 (ac rfl) (zz0 (aB rfl fE (fun w hw => gZ a w)) ?_)))
 refine zz0 (ac rfl) (zz0 (aB rfl fE (fun w hw => gZ b w)) ?_)
 refine zz0 (jS rfl rfl dS) ?_
 refine zz0 (ac rfl) ?_
 apply bF
 ·exact (rfl : _ = (6, 28, 34))
 ·exact rfl
 ·intro hT2; have hT2' := hT2
  try simp only [bs] at hT2'
  refine zz5 hT2 (ac rfl) (zz5 hT2 (aB rfl fE (fun w hw => gZ (a + b) w)) ?_)
  refine zz5 hT2 (ac rfl) (zz5 hT2 (aB rfl fE (fun w hw => gZ a w)) ?_)
  refine zz5 hT2 (iv rfl rfl dS) ?_
  refine zz0 (aE rfl hT2 rfl) ?_
  refine ae (aa ?_)
  exact aw (Sub.cons rfl (zz7 6 rfl))
 ·intro hF2
  refine zz6 hF2 (zz6 hF2 (zz6 hF2 (zz6 hF2 (zz6 hF2 (zz0 (aF rfl hF2 rfl) ?_)))))
  refine ae (aa ?_)
  exact aw (Sub.cons rfl (zz7 6 rfl))
 refine zz0 (bE (vs := [(0, _), (1, _), (2, _), (3, _)]) rfl rfl (jZ _ _ _ _)) ?_
 refine zz0 (ad rfl) (bw gU rfl rfl bH ?_)
 refine ae (aa (ao ?_))
 refine mO Tryz.results127 rfl rfl (by repeat constructor) dN bH (by rfl) (fun w' hw => ?_)
 have hc := xN a b
 exact ⟨by first | rfl | (unfold uD; rw [← hc]; rfl) | (unfold uD; rw [← hc]; cases fL a <;> cases fL b <;> cases fL (a + b) <;> rfl), hw.below (Bg.le.refl _)⟩
theorem tt (a b : UInt32) (w : World) :
  Calls Tryz.prog 128 #[.int .u32 a.toNat, .int .u32 b.toNat] w (fun e w' => e = .returned (.tuple #[.int .u32 (a - b).toNat, .agg (gU.enc (pI a b)).toArray]) ∧ Ext w w') := by
 refine enter Tryz.func128 rfl Tryz.ntmps128 rfl ?_
 refine af (ab (zz0 (ad rfl) ?_))
 refine c9 dE rfl (fun b1 => ?_)
 refine ae (aa (af (ab (zz0 (ac rfl) (zz0 (ac rfl) (zz0 (eX rfl rfl) ?_))))))
 refine zz0 (ad rfl) (ae (aa (af (ab (zz0 (ac rfl) (zz0 (ac rfl) (zz0 (gk (n := 0) rfl rfl) ?_)))))))
 refine zz0 (ac rfl) (zz0 (aB rfl fE (fun w hw => gZ (a - b) w)) ?_)
 refine zz0 (ac rfl) (zz0 (ac rfl) (zz0 (gG rfl rfl) ?_))
 refine zz0 (ac rfl) (zz0 (aB rfl fE (fun w hw => gZ a w)) ?_)
 refine zz0 (ac rfl) (zz0 (aB rfl fE (fun w hw => gZ b w)) ?_)
 refine zz0 (iv rfl rfl dS) ?_
 refine zz0 (ac rfl) ?_
 apply bF
 ·exact (rfl : _ = (6, 23, 29))
 ·exact rfl
 ·intro hT2; have hT2' := hT2
  try simp only [bs] at hT2'
  refine zz5 hT2 (ac rfl) (zz5 hT2 (aB rfl fE (fun w hw => gZ (a - b) w)) ?_)
  refine zz5 hT2 (ac rfl) (zz5 hT2 (aB rfl fE (fun w hw => gZ a w)) ?_)
  refine zz5 hT2 (iv rfl rfl dS) ?_
  refine zz0 (aE rfl hT2 rfl) ?_
  refine ae (aa ?_)
  exact aw (Sub.cons rfl (zz7 6 rfl))
 ·intro hF2
  refine zz6 hF2 (zz6 hF2 (zz6 hF2 (zz6 hF2 (zz6 hF2 (zz0 (aF rfl hF2 rfl) ?_)))))
  refine ae (aa ?_)
  exact aw (Sub.cons rfl (zz7 6 rfl))
 refine zz0 (bE (vs := [(0, _), (1, _), (2, _), (3, _)]) rfl rfl (jZ _ _ _ _)) ?_
 refine zz0 (ad rfl) (bw gU rfl rfl bH ?_)
 refine ae (aa (ao ?_))
 refine mO Tryz.results128 rfl rfl (by repeat constructor) dN bH (by rfl) (fun w' hw => ?_)
 exact ⟨by first | rfl | (unfold pI; cases fL a <;> cases fL b <;> cases fL (a - b) <;> rfl), hw.below (Bg.le.refl _)⟩
theorem yr (a b : UInt32) (w : World) :
  Calls Tryz.prog 149 #[.int .u32 a.toNat, .int .u32 b.toNat] w (fun e w' => e = .returned (.int .u32 (lB a (fb b)).toNat) ∧ Ext w w') := by
 have hcl := cnt_lt b
 have hcn : (b % 32).toNat = fb b := rfl
 refine enter Tryz.func149 rfl Tryz.ntmps149 rfl ?_
 refine af (ab (zz0 (ad rfl) (ae (aa (af (af (ab (zz0 (ad rfl) (ae (aa (aQ ?_)))))))))))
 refine cp (ι := Nat) (fun k => k ≤ fb b) (fun _ => _) (fun k => []) (fun k => [(0, .int .u32 (lB a k).toNat), (5, .int .u32 (UInt32.ofNat k).toNat)]) (fun k => fb b - k) 0 (Nat.zero_le _) (.cons (by first | rfl | exact am rfl (by omega) | exact am rfl (by rw [pj]) | exact am rfl (by rw [l4]) | exact am rfl (by rw [show UInt32.ofNat k + 1 = UInt32.ofNat (k + 1) from by rw [← UInt32.toNat_inj]; simp only [UInt32.toNat_add, UInt32.toNat_ofNat', UInt32.toNat_one]; omega]) | exact am rfl (by simp) | exact aS rfl (by simp)) (.cons (by first | rfl | exact am rfl (by omega) | exact am rfl (by rw [pj]) | exact am rfl (by rw [l4]) | exact am rfl (by rw [show UInt32.ofNat k + 1 = UInt32.ofNat (k + 1) from by rw [← UInt32.toNat_inj]; simp only [UInt32.toNat_add, UInt32.toNat_ofNat', UInt32.toNat_one]; omega]) | exact am rfl (by simp) | exact aS rfl (by simp)) Front.nil)) (by repeat' constructor) rfl (fun k hi m hm => ?_)
 replace hi : k ≤ fb b := hi
 replace hm : m = fb b - k := hm
 change Tr _ _ [] ([(0, .int .u32 (lB a k).toNat), (5, .int .u32 (UInt32.ofNat k).toNat)] ++ _) _
 have hk1 : k ≤ fb b := hi
 have hkn : (UInt32.ofNat k).toNat = k := by rw [UInt32.toNat_ofNat']; omega
 refine af (af (ab (zz0 (ac rfl) (zz0 (ac rfl) (zz0 (kJ (n := 32) rfl rfl (by first | decide | assumption)) ?_)))))
 refine zz0 (gG rfl rfl) ?_
 refine ae (aa ?_)
 refine ak rfl ?_ ?_ <;> intro h1 <;> try simp only [bs] at h1
 ·refine ax (aa (af (aQ (ab (zz0 (ac rfl) (zz0 (jl (n := 2) rfl rfl) ?_))))))
  refine zz0 (ad rfl) (ae (a9 (aa (ab (zz0 (ac rfl) (zz0 (cL (n := 1) rfl rfl) ?_))))))
  refine zz0 (ad rfl) (ae (aa ?_))
  have hlt : k < fb b := by rw [← hkn, ← hcn]; exact UInt32.lt_iff_toNat_lt.1 (by assumption)
  apply bP (k + 1)
  ·exact rfl
  ·exact (.cons (by first | rfl | exact am rfl (by omega) | exact am rfl (by rw [pj]) | exact am rfl (by rw [l4]) | exact am rfl (by rw [show UInt32.ofNat k + 1 = UInt32.ofNat (k + 1) from by rw [← UInt32.toNat_inj]; simp only [UInt32.toNat_add, UInt32.toNat_ofNat', UInt32.toNat_one]; omega]) | exact am rfl (by simp) | exact aS rfl (by simp)) (.cons (by first | rfl | exact am rfl (by omega) | exact am rfl (by rw [pj]) | exact am rfl (by rw [l4]) | exact am rfl (by rw [show UInt32.ofNat k + 1 = UInt32.ofNat (k + 1) from by rw [← UInt32.toNat_inj]; simp only [UInt32.toNat_add, UInt32.toNat_ofNat', UInt32.toNat_one]; omega]) | exact am rfl (by simp) | exact aS rfl (by simp)) Front.nil))
  ·exact bQ 12 rfl
  ·exact (by repeat' constructor)
  ·exact (by show k + 1 ≤ _; omega)
  ·exact (by show fb b - (k + 1) < m; omega)
 ·refine cm (aV (aV (bT (aa (af (ab (zz0 (ac rfl) (zz0 (ad rfl) (ae (aa (ao ?_)))))))))))
  refine aI Tryz.results149 rfl (fun w' hw => ?_)
  have hk2 : k = fb b := by
   have q : ¬ k < fb b := by rw [← hkn, ← hcn]; exact fun q => absurd (UInt32.lt_iff_toNat_lt.2 q) (by assumption)
   omega
  subst hk2
  exact ⟨rfl, hw.below (Bg.le.refl _)⟩
theorem yq (a b : UInt32) (w : World) :
  Calls Tryz.prog 150 #[.int .u32 a.toNat, .int .u32 b.toNat] w (fun e w' => e = .returned (.int .u32 (fS a (fb b)).toNat) ∧ Ext w w') := by
 have hcl := cnt_lt b
 have hcn : (b % 32).toNat = fb b := rfl
 refine enter Tryz.func150 rfl Tryz.ntmps150 rfl ?_
 refine af (ab (zz0 (ad rfl) (ae (aa (af (af (ab (zz0 (ad rfl) (ae (aa (aQ ?_)))))))))))
 refine cp (ι := Nat) (fun k => k ≤ fb b) (fun _ => _) (fun k => []) (fun k => [(0, .int .u32 (fS a k).toNat), (5, .int .u32 (UInt32.ofNat k).toNat)]) (fun k => fb b - k) 0 (Nat.zero_le _) (.cons (by first | rfl | exact am rfl (by omega) | exact am rfl (by rw [kQ]) | exact am rfl (by rw [l3]) | exact am rfl (by rw [show UInt32.ofNat k + 1 = UInt32.ofNat (k + 1) from by rw [← UInt32.toNat_inj]; simp only [UInt32.toNat_add, UInt32.toNat_ofNat', UInt32.toNat_one]; omega]) | exact am rfl (by simp) | exact aS rfl (by simp)) (.cons (by first | rfl | exact am rfl (by omega) | exact am rfl (by rw [kQ]) | exact am rfl (by rw [l3]) | exact am rfl (by rw [show UInt32.ofNat k + 1 = UInt32.ofNat (k + 1) from by rw [← UInt32.toNat_inj]; simp only [UInt32.toNat_add, UInt32.toNat_ofNat', UInt32.toNat_one]; omega]) | exact am rfl (by simp) | exact aS rfl (by simp)) Front.nil)) (by repeat' constructor) rfl (fun k hi m hm => ?_)
 replace hi : k ≤ fb b := hi
 replace hm : m = fb b - k := hm
 change Tr _ _ [] ([(0, .int .u32 (fS a k).toNat), (5, .int .u32 (UInt32.ofNat k).toNat)] ++ _) _
 have hk1 : k ≤ fb b := hi
 have hkn : (UInt32.ofNat k).toNat = k := by rw [UInt32.toNat_ofNat']; omega
 refine af (af (ab (zz0 (ac rfl) (zz0 (ac rfl) (zz0 (kJ (n := 32) rfl rfl (by first | decide | assumption)) ?_)))))
 refine zz0 (gG rfl rfl) ?_
 refine ae (aa ?_)
 refine ak rfl ?_ ?_ <;> intro h1 <;> try simp only [bs] at h1
 ·refine ax (aa (af (aQ (ab (zz0 (ac rfl) (zz0 (nV (n := 2) rfl rfl (by first | decide | assumption)) ?_))))))
  refine zz0 (ad rfl) (ae (a9 (aa (ab (zz0 (ac rfl) (zz0 (cL (n := 1) rfl rfl) ?_))))))
  refine zz0 (ad rfl) (ae (aa ?_))
  have hlt : k < fb b := by rw [← hkn, ← hcn]; exact UInt32.lt_iff_toNat_lt.1 (by assumption)
  apply bP (k + 1)
  ·exact rfl
  ·exact (.cons (by first | rfl | exact am rfl (by omega) | exact am rfl (by rw [kQ]) | exact am rfl (by rw [l3]) | exact am rfl (by rw [show UInt32.ofNat k + 1 = UInt32.ofNat (k + 1) from by rw [← UInt32.toNat_inj]; simp only [UInt32.toNat_add, UInt32.toNat_ofNat', UInt32.toNat_one]; omega]) | exact am rfl (by simp) | exact aS rfl (by simp)) (.cons (by first | rfl | exact am rfl (by omega) | exact am rfl (by rw [kQ]) | exact am rfl (by rw [l3]) | exact am rfl (by rw [show UInt32.ofNat k + 1 = UInt32.ofNat (k + 1) from by rw [← UInt32.toNat_inj]; simp only [UInt32.toNat_add, UInt32.toNat_ofNat', UInt32.toNat_one]; omega]) | exact am rfl (by simp) | exact aS rfl (by simp)) Front.nil))
  ·exact bQ 12 rfl
  ·exact (by repeat' constructor)
  ·exact (by show k + 1 ≤ _; omega)
  ·exact (by show fb b - (k + 1) < m; omega)
 ·refine cm (aV (aV (bT (aa (af (ab (zz0 (ac rfl) (zz0 (ad rfl) (ae (aa (ao ?_)))))))))))
  refine aI Tryz.results150 rfl (fun w' hw => ?_)
  have hk2 : k = fb b := by
   have q : ¬ k < fb b := by rw [← hkn, ← hcn]; exact fun q => absurd (UInt32.lt_iff_toNat_lt.2 q) (by assumption)
   omega
  subst hk2
  exact ⟨rfl, hw.below (Bg.le.refl _)⟩
theorem yt (a b : UInt32) (w : World) :
  Calls Tryz.prog 151 #[.int .u32 a.toNat, .int .u32 b.toNat] w (fun e w' => e = .returned (.int .u32 (nA a (fb b)).toNat) ∧ Ext w w') := by
 have hcl := cnt_lt b
 have hcn : (b % 32).toNat = fb b := rfl
 refine enter Tryz.func151 rfl Tryz.ntmps151 rfl ?_
 refine af (ab (zz0 (ad rfl) (ae (aa (af (ab (zz0 (ad rfl) (ae (aa (af (af (ab (zz0 (ac rfl) ?_)))))))))))))
 refine zz0 (aB rfl fE (fun w hw => gZ a w)) ?_
 refine ae (aa ?_)
 refine ak rfl ?_ ?_ <;> intro h1 <;> try simp only [bs] at h1
 ·refine ab (zz0 (ad rfl) (ae (aa (af (af ?_)))))
  first | (have htop : o7 a = 2147483648 := by unfold o7; rw [if_pos (by assumption)]) | (have htop : o7 a = 0 := by unfold o7; rw [if_neg (by simp_all)])
  refine ab (zz0 (ad rfl) (ae (aa (aQ ?_))))
  refine cp (ι := Nat) (fun k => k ≤ fb b) (fun _ => _) (fun k => []) (fun k => [(0, .int .u32 (nA a k).toNat), (6, .int .u32 (UInt32.ofNat k).toNat)]) (fun k => fb b - k) 0 (Nat.zero_le _) (.cons (by first | rfl | exact am rfl (by omega) | exact am rfl (by rw [oI]) | exact am rfl (by rw [jI]) | exact am rfl (by rw [show UInt32.ofNat k + 1 = UInt32.ofNat (k + 1) from by rw [← UInt32.toNat_inj]; simp only [UInt32.toNat_add, UInt32.toNat_ofNat', UInt32.toNat_one]; omega]) | exact am rfl (by simp) | exact aS rfl (by simp)) (.cons (by first | rfl | exact am rfl (by omega) | exact am rfl (by rw [oI]) | exact am rfl (by rw [jI]) | exact am rfl (by rw [show UInt32.ofNat k + 1 = UInt32.ofNat (k + 1) from by rw [← UInt32.toNat_inj]; simp only [UInt32.toNat_add, UInt32.toNat_ofNat', UInt32.toNat_one]; omega]) | exact am rfl (by simp) | exact aS rfl (by simp)) Front.nil)) (by repeat' constructor) rfl (fun k hi m hm => ?_)
  replace hi : k ≤ fb b := hi
  replace hm : m = fb b - k := hm
  change Tr _ _ [] ([(0, .int .u32 (nA a k).toNat), (6, .int .u32 (UInt32.ofNat k).toNat)] ++ _) _
  have hk1 : k ≤ fb b := hi
  have hkn : (UInt32.ofNat k).toNat = k := by rw [UInt32.toNat_ofNat']; omega
  refine af (af (ab (zz0 (ac rfl) (zz0 (ac rfl) (zz0 (kJ (n := 32) rfl rfl (by first | decide | assumption)) ?_)))))
  refine zz0 (gG rfl rfl) ?_
  refine ae (aa ?_)
  refine ak rfl ?_ ?_ <;> intro h2 <;> try simp only [bs] at h2
  ·refine ax (aa (af (aQ (ab (zz0 (ac rfl) (zz0 (nV (n := 2) rfl rfl (by first | decide | assumption)) ?_))))))
   refine zz0 (ac rfl) (zz0 (cL (n := o7 a) rfl (by rw [htop]; rfl)) ?_)
   refine zz0 (ad rfl) (ae (a9 (aa (ab (zz0 (ac rfl) (zz0 (cL (n := 1) rfl rfl) ?_))))))
   refine zz0 (ad rfl) (ae (aa ?_))
   have hlt : k < fb b := by rw [← hkn, ← hcn]; exact UInt32.lt_iff_toNat_lt.1 (by assumption)
   apply bP (k + 1)
   ·exact rfl
   ·exact (.cons (by first | rfl | exact am rfl (by omega) | exact am rfl (by rw [oI]) | exact am rfl (by rw [jI]) | exact am rfl (by rw [show UInt32.ofNat k + 1 = UInt32.ofNat (k + 1) from by rw [← UInt32.toNat_inj]; simp only [UInt32.toNat_add, UInt32.toNat_ofNat', UInt32.toNat_one]; omega]) | exact am rfl (by simp) | exact aS rfl (by simp)) (.cons (by first | rfl | exact am rfl (by omega) | exact am rfl (by rw [oI]) | exact am rfl (by rw [jI]) | exact am rfl (by rw [show UInt32.ofNat k + 1 = UInt32.ofNat (k + 1) from by rw [← UInt32.toNat_inj]; simp only [UInt32.toNat_add, UInt32.toNat_ofNat', UInt32.toNat_one]; omega]) | exact am rfl (by simp) | exact aS rfl (by simp)) Front.nil))
   ·exact bQ 14 rfl
   ·exact (by repeat' constructor)
   ·exact (by show k + 1 ≤ _; omega)
   ·exact (by show fb b - (k + 1) < m; omega)
  ·refine cm (aV (aV (bT (aa (af (ab (zz0 (ac rfl) (zz0 (ad rfl) (ae (aa (ao ?_)))))))))))
   refine aI Tryz.results151 rfl (fun w' hw => ?_)
   have hk2 : k = fb b := by
    have q : ¬ k < fb b := by rw [← hkn, ← hcn]; exact fun q => absurd (UInt32.lt_iff_toNat_lt.2 q) (by assumption)
    omega
   subst hk2
   exact ⟨rfl, hw.below (Bg.le.refl _)⟩
 ·refine ax (aa (af (af ?_)))
  first | (have htop : o7 a = 2147483648 := by unfold o7; rw [if_pos (by assumption)]) | (have htop : o7 a = 0 := by unfold o7; rw [if_neg (by simp_all)])
  refine ab (zz0 (ad rfl) (ae (aa (aQ ?_))))
  refine cp (ι := Nat) (fun k => k ≤ fb b) (fun _ => _) (fun k => []) (fun k => [(0, .int .u32 (nA a k).toNat), (6, .int .u32 (UInt32.ofNat k).toNat)]) (fun k => fb b - k) 0 (Nat.zero_le _) (.cons (by first | rfl | exact am rfl (by omega) | exact am rfl (by rw [oI]) | exact am rfl (by rw [jI]) | exact am rfl (by rw [show UInt32.ofNat k + 1 = UInt32.ofNat (k + 1) from by rw [← UInt32.toNat_inj]; simp only [UInt32.toNat_add, UInt32.toNat_ofNat', UInt32.toNat_one]; omega]) | exact am rfl (by simp) | exact aS rfl (by simp)) (.cons (by first | rfl | exact am rfl (by omega) | exact am rfl (by rw [oI]) | exact am rfl (by rw [jI]) | exact am rfl (by rw [show UInt32.ofNat k + 1 = UInt32.ofNat (k + 1) from by rw [← UInt32.toNat_inj]; simp only [UInt32.toNat_add, UInt32.toNat_ofNat', UInt32.toNat_one]; omega]) | exact am rfl (by simp) | exact aS rfl (by simp)) Front.nil)) (by repeat' constructor) rfl (fun k hi m hm => ?_)
  replace hi : k ≤ fb b := hi
  replace hm : m = fb b - k := hm
  change Tr _ _ [] ([(0, .int .u32 (nA a k).toNat), (6, .int .u32 (UInt32.ofNat k).toNat)] ++ _) _
  have hk1 : k ≤ fb b := hi
  have hkn : (UInt32.ofNat k).toNat = k := by rw [UInt32.toNat_ofNat']; omega
  refine af (af (ab (zz0 (ac rfl) (zz0 (ac rfl) (zz0 (kJ (n := 32) rfl rfl (by first | decide | assumption)) ?_)))))
  refine zz0 (gG rfl rfl) ?_
  refine ae (aa ?_)
  refine ak rfl ?_ ?_ <;> intro h3 <;> try simp only [bs] at h3
  ·refine ax (aa (af (aQ (ab (zz0 (ac rfl) (zz0 (nV (n := 2) rfl rfl (by first | decide | assumption)) ?_))))))
   refine zz0 (ac rfl) (zz0 (cL (n := o7 a) rfl (by rw [htop]; rfl)) ?_)
   refine zz0 (ad rfl) (ae (a9 (aa (ab (zz0 (ac rfl) (zz0 (cL (n := 1) rfl rfl) ?_))))))
   refine zz0 (ad rfl) (ae (aa ?_))
   have hlt : k < fb b := by rw [← hkn, ← hcn]; exact UInt32.lt_iff_toNat_lt.1 (by assumption)
   apply bP (k + 1)
   ·exact rfl
   ·exact (.cons (by first | rfl | exact am rfl (by omega) | exact am rfl (by rw [oI]) | exact am rfl (by rw [jI]) | exact am rfl (by rw [show UInt32.ofNat k + 1 = UInt32.ofNat (k + 1) from by rw [← UInt32.toNat_inj]; simp only [UInt32.toNat_add, UInt32.toNat_ofNat', UInt32.toNat_one]; omega]) | exact am rfl (by simp) | exact aS rfl (by simp)) (.cons (by first | rfl | exact am rfl (by omega) | exact am rfl (by rw [oI]) | exact am rfl (by rw [jI]) | exact am rfl (by rw [show UInt32.ofNat k + 1 = UInt32.ofNat (k + 1) from by rw [← UInt32.toNat_inj]; simp only [UInt32.toNat_add, UInt32.toNat_ofNat', UInt32.toNat_one]; omega]) | exact am rfl (by simp) | exact aS rfl (by simp)) Front.nil))
   ·exact bQ 14 rfl
   ·exact (by repeat' constructor)
   ·exact (by show k + 1 ≤ _; omega)
   ·exact (by show fb b - (k + 1) < m; omega)
  ·refine cm (aV (aV (bT (aa (af (ab (zz0 (ac rfl) (zz0 (ad rfl) (ae (aa (ao ?_)))))))))))
   refine aI Tryz.results151 rfl (fun w' hw => ?_)
   have hk2 : k = fb b := by
    have q : ¬ k < fb b := by rw [← hkn, ← hcn]; exact fun q => absurd (UInt32.lt_iff_toNat_lt.2 q) (by assumption)
    omega
   subst hk2
   exact ⟨rfl, hw.below (Bg.le.refl _)⟩
theorem uW (a : UInt32) (n : Int) (w : World) :
  Calls Tryz.prog 153 #[.int .u32 a.toNat, .int .i64 n] w (fun e w' => e = .returned (.int .u32 (if n = 1 then a % 256 else if n = 2 then a % 65536 else a).toNat) ∧ Ext w w') := by
 refine enter Tryz.func153 rfl Tryz.ntmps153 rfl ?_
 refine af (ab (zz0 (ad rfl) (ae (aa (af (af (ab (zz0 (ac rfl) (ae (aa (aQ (af (ab ?_)))))))))))))
 refine zz0 (aN rfl rfl) (zz0 (ad rfl) (ae (aa ?_)))
 refine ak rfl ?_ ?_ <;> intro h1 <;> try simp only [bs] at h1
 ·refine af (ab (zz0 (ac rfl) (zz0 (kJ (n := 256) rfl rfl (by first | decide | assumption)) ?_)))
  refine zz0 (ad rfl) (ae (aa (ao (bf (an ?_)))))
  refine aI lq rfl (fun w' hw => ?_)
  exact ⟨by rw [if_pos (by assumption)], hw.below (Bg.le.refl _)⟩
 ·refine af (ab (zz0 (aN rfl rfl) (zz0 (ad rfl) (ae (aa ?_)))))
  refine ak rfl ?_ ?_ <;> intro h2 <;> try simp only [bs] at h2
  ·refine af (ab (zz0 (ac rfl) (zz0 (kJ (n := 65536) rfl rfl (by first | decide | assumption)) ?_)))
   refine zz0 (ad rfl) (ae (aa (ao (bf (an ?_)))))
   refine aI lq rfl (fun w' hw => ?_)
   exact ⟨by rw [if_neg (by assumption), if_pos (by assumption)], hw.below (Bg.le.refl _)⟩
  ·refine ax (a9 (aa (af (ab (zz0 (ac rfl) (zz0 (ad rfl) (ae (aa (ao ?_)))))))))
   refine aI lq rfl (fun w' hw => ?_)
   exact ⟨by rw [if_neg (by assumption), if_neg (by assumption)], hw.below (Bg.le.refl _)⟩
theorem pU (cc : Int) (f : Flg) (w : World) :
  Calls Tryz.prog 97 #[.int .i64 cc, .agg (gU.enc f).toArray] w (fun e w' => e = .returned (.bool (em cc f)) ∧ Ext w w') := by
 refine enter Tryz.func97 rfl Tryz.ntmps97 rfl ?_
 refine af (ab ?_)
 refine cM rfl rfl rfl (fun b1 => ?_)
 refine zz0 (ad rfl) (ae (aa (af (af (ab (zz0 (ac rfl) (ae (aa (aQ (af (ab (zz0 (aN rfl rfl) (zz0 (ad rfl) ?_)))))))))))))
 refine ae (aa ?_)
 refine ak rfl ?_ ?_ <;> intro h2 <;> try simp only [bs] at h2
 ·refine af (ab (zz0 (ad rfl) (ae (aa (ao (bf (an ?_)))))))
  refine aI dD rfl (fun w' hw => ?_)
  exact ⟨by unfold em; (repeat (first | rw [if_pos (by assumption)] | rw [if_neg (by assumption)])); try (cases f.z <;> cases f.n <;> cases f.c <;> cases f.v <;> rfl), hw.below (Bg.le.refl _)⟩
 ·refine af (ab (zz0 (aN rfl rfl) (zz0 (ad rfl) (ae (aa ?_)))))
  refine ak rfl ?_ ?_ <;> intro h3 <;> try simp only [bs] at h3
  ·refine af (ab (zz0 (zz3 (off := 0) (ft := 4) rfl bj rfl bv) ?_))
   refine zz0 (aM rfl bR) ?_
   refine zz0 (ad rfl) (ae (aa (ao (bf (an ?_)))))
   refine aI dD rfl (fun w' hw => ?_)
   exact ⟨by unfold em; (repeat (first | rw [if_pos (by assumption)] | rw [if_neg (by assumption)])); try (cases f.z <;> cases f.n <;> cases f.c <;> cases f.v <;> rfl), hw.below (Bg.le.refl _)⟩
  ·refine af (ab (zz0 (aN rfl rfl) (zz0 (ad rfl) (ae (aa ?_)))))
   refine ak rfl ?_ ?_ <;> intro h4 <;> try simp only [bs] at h4
   ·refine af (ab (zz0 (zz3 (off := 0) (ft := 4) rfl bj rfl bv) ?_))
    refine zz0 (aM rfl bR) ?_
    refine zz0 (cj rfl) (zz0 (ad rfl) (ae (aa (ao (bf (an ?_))))))
    refine aI dD rfl (fun w' hw => ?_)
    exact ⟨by unfold em; (repeat (first | rw [if_pos (by assumption)] | rw [if_neg (by assumption)])); try (cases f.z <;> cases f.n <;> cases f.c <;> cases f.v <;> rfl), hw.below (Bg.le.refl _)⟩
   ·refine af (ab (zz0 (aN rfl rfl) (zz0 (ad rfl) (ae (aa ?_)))))
    refine ak rfl ?_ ?_ <;> intro h5 <;> try simp only [bs] at h5
    ·refine af (ab (zz0 (zz3 (off := 1) (ft := 4) rfl bj rfl bv) ?_))
     refine zz0 (aM rfl bR) ?_
     refine zz0 (zz3 (off := 3) (ft := 4) rfl bj rfl bv) ?_
     refine zz0 (aM rfl bR) ?_
     refine zz0 (iv rfl rfl dS) ?_
     refine zz0 (ad rfl) (ae (aa (ao (bf (an ?_)))))
     refine aI dD rfl (fun w' hw => ?_)
     exact ⟨by unfold em; (repeat (first | rw [if_pos (by assumption)] | rw [if_neg (by assumption)])); try (cases f.z <;> cases f.n <;> cases f.c <;> cases f.v <;> rfl), hw.below (Bg.le.refl _)⟩
    ·refine af (ab (zz0 (aN rfl rfl) (zz0 (ad rfl) (ae (aa ?_)))))
     refine ak rfl ?_ ?_ <;> intro h6 <;> try simp only [bs] at h6
     ·refine af (ab (zz0 (zz3 (off := 1) (ft := 4) rfl bj rfl bv) ?_))
      refine zz0 (aM rfl bR) ?_
      refine zz0 (zz3 (off := 3) (ft := 4) rfl bj rfl bv) ?_
      refine zz0 (aM rfl bR) ?_
      refine zz0 (jS rfl rfl dS) ?_
      refine zz0 (ad rfl) (ae (aa (ao (bf (an ?_)))))
      refine aI dD rfl (fun w' hw => ?_)
      exact ⟨by unfold em; (repeat (first | rw [if_pos (by assumption)] | rw [if_neg (by assumption)])); try (cases f.z <;> cases f.n <;> cases f.c <;> cases f.v <;> rfl), hw.below (Bg.le.refl _)⟩
     ·refine af (ab (zz0 (aN rfl rfl) (zz0 (ad rfl) (ae (aa ?_)))))
      refine ak rfl ?_ ?_ <;> intro h7 <;> try simp only [bs] at h7
      ·refine af (ab (zz0 (zz3 (off := 0) (ft := 4) rfl bj rfl bv) ?_))
       refine zz0 (aM rfl bR) ?_
       refine zz0 (ac rfl) ?_
       apply cZ
       ·exact (rfl : _ = (6, 35, 41))
       ·exact rfl
       ·intro hF8; have hF8' := hF8
        try simp only [bs] at hF8'
        refine zz5 hF8 (zz3 (off := 1) (ft := 4) rfl bj rfl bv) ?_
        refine zz5 hF8 (aM rfl bR) ?_
        refine zz5 hF8 (zz3 (off := 3) (ft := 4) rfl bj rfl bv) ?_
        refine zz5 hF8 (aM rfl bR) ?_
        refine zz5 hF8 (iv rfl rfl dS) ?_
        refine zz0 (aF rfl hF8 rfl) ?_
        refine ae (aa ?_)
        exact aw (Sub.cons rfl (zz7 6 rfl))
       ·intro hT8
        refine zz6 hT8 (zz6 hT8 (zz6 hT8 (zz6 hT8 (zz6 hT8 (zz0 (aE rfl hT8 rfl) ?_)))))
        refine ae (aa ?_)
        exact aw (Sub.cons rfl (zz7 6 rfl))
       refine zz0 (ad rfl) (ae (aa (ao (bf (an ?_)))))
       refine aI dD rfl (fun w' hw => ?_)
       exact ⟨by unfold em; (repeat (first | rw [if_pos (by assumption)] | rw [if_neg (by assumption)])); try (cases f.z <;> cases f.n <;> cases f.c <;> cases f.v <;> rfl), hw.below (Bg.le.refl _)⟩
      ·refine af (ab (zz0 (aN rfl rfl) (zz0 (ad rfl) (ae (aa ?_)))))
       refine ak rfl ?_ ?_ <;> intro h9 <;> try simp only [bs] at h9
       ·refine af (ab (zz0 (zz3 (off := 0) (ft := 4) rfl bj rfl bv) ?_))
        refine zz0 (aM rfl bR) ?_
        refine zz0 (cj rfl) (zz0 (ac rfl) ?_)
        apply bF
        ·exact (rfl : _ = (6, 47, 53))
        ·exact rfl
        ·intro hT10; have hT10' := hT10
         try simp only [bs] at hT10'
         refine zz5 hT10 (zz3 (off := 1) (ft := 4) rfl bj rfl bv) ?_
         refine zz5 hT10 (aM rfl bR) ?_
         refine zz5 hT10 (zz3 (off := 3) (ft := 4) rfl bj rfl bv) ?_
         refine zz5 hT10 (aM rfl bR) ?_
         refine zz5 hT10 (jS rfl rfl dS) ?_
         refine zz0 (aE rfl hT10 rfl) ?_
         refine ae (aa ?_)
         exact aw (Sub.cons rfl (zz7 6 rfl))
        ·intro hF10
         refine zz6 hF10 (zz6 hF10 (zz6 hF10 (zz6 hF10 (zz6 hF10 (zz0 (aF rfl hF10 rfl) ?_)))))
         refine ae (aa ?_)
         exact aw (Sub.cons rfl (zz7 6 rfl))
        refine zz0 (ad rfl) (ae (aa (ao (bf (an ?_)))))
        refine aI dD rfl (fun w' hw => ?_)
        exact ⟨by unfold em; (repeat (first | rw [if_pos (by assumption)] | rw [if_neg (by assumption)])); try (cases f.z <;> cases f.n <;> cases f.c <;> cases f.v <;> rfl), hw.below (Bg.le.refl _)⟩
       ·refine af (ab (zz0 (aN rfl rfl) (zz0 (ad rfl) (ae (aa ?_)))))
        refine ak rfl ?_ ?_ <;> intro h11 <;> try simp only [bs] at h11
        ·refine af (ab (zz0 (zz3 (off := 2) (ft := 4) rfl bj rfl bv) ?_))
         refine zz0 (aM rfl bR) ?_
         refine zz0 (ad rfl) (ae (aa (ao (bf (an ?_)))))
         refine aI dD rfl (fun w' hw => ?_)
         exact ⟨by unfold em; (repeat (first | rw [if_pos (by assumption)] | rw [if_neg (by assumption)])); try (cases f.z <;> cases f.n <;> cases f.c <;> cases f.v <;> rfl), hw.below (Bg.le.refl _)⟩
        ·refine af (ab (zz0 (aN rfl rfl) (zz0 (ad rfl) (ae (aa ?_)))))
         refine ak rfl ?_ ?_ <;> intro h12 <;> try simp only [bs] at h12
         ·refine af (ab (zz0 (zz3 (off := 2) (ft := 4) rfl bj rfl bv) ?_))
          refine zz0 (aM rfl bR) ?_
          refine zz0 (cj rfl) (zz0 (ad rfl) (ae (aa (ao (bf (an ?_))))))
          refine aI dD rfl (fun w' hw => ?_)
          exact ⟨by unfold em; (repeat (first | rw [if_pos (by assumption)] | rw [if_neg (by assumption)])); try (cases f.z <;> cases f.n <;> cases f.c <;> cases f.v <;> rfl), hw.below (Bg.le.refl _)⟩
         ·refine af (ab (zz0 (aN rfl rfl) (zz0 (ad rfl) (ae (aa ?_)))))
          refine ak rfl ?_ ?_ <;> intro h13 <;> try simp only [bs] at h13
          ·refine af (ab (zz0 (zz3 (off := 2) (ft := 4) rfl bj rfl bv) ?_))
           refine zz0 (aM rfl bR) ?_
           refine zz0 (ac rfl) ?_
           apply cZ
           ·exact (rfl : _ = (3, 67, 70))
           ·exact rfl
           ·intro hF14; have hF14' := hF14
            try simp only [bs] at hF14'
            refine zz5 hF14 (zz3 (off := 0) (ft := 4) rfl bj rfl bv) ?_
            refine zz5 hF14 (aM rfl bR) ?_
            refine zz0 (aF rfl hF14 rfl) ?_
            refine ae (aa ?_)
            exact aw (Sub.cons rfl (zz7 3 rfl))
           ·intro hT14
            refine zz6 hT14 (zz6 hT14 (zz0 (aE rfl hT14 rfl) ?_))
            refine ae (aa ?_)
            exact aw (Sub.cons rfl (zz7 3 rfl))
           refine zz0 (ad rfl) (ae (aa (ao (bf (an ?_)))))
           refine aI dD rfl (fun w' hw => ?_)
           exact ⟨by unfold em; (repeat (first | rw [if_pos (by assumption)] | rw [if_neg (by assumption)])); try (cases f.z <;> cases f.n <;> cases f.c <;> cases f.v <;> rfl), hw.below (Bg.le.refl _)⟩
          ·refine af (ab (zz0 (aN rfl rfl) (zz0 (ad rfl) (ae (aa ?_)))))
           refine ak rfl ?_ ?_ <;> intro h15 <;> try simp only [bs] at h15
           ·refine af (ab (zz0 (zz3 (off := 2) (ft := 4) rfl bj rfl bv) ?_))
            refine zz0 (aM rfl bR) ?_
            refine zz0 (cj rfl) (zz0 (ac rfl) ?_)
            apply bF
            ·exact (rfl : _ = (4, 76, 80))
            ·exact rfl
            ·intro hT16; have hT16' := hT16
             try simp only [bs] at hT16'
             refine zz5 hT16 (zz3 (off := 0) (ft := 4) rfl bj rfl bv) ?_
             refine zz5 hT16 (aM rfl bR) ?_
             refine zz5 hT16 (cj rfl) (zz0 (aE rfl hT16 rfl) ?_)
             refine ae (aa ?_)
             exact aw (Sub.cons rfl (zz7 4 rfl))
            ·intro hF16
             refine zz6 hF16 (zz6 hF16 (zz6 hF16 (zz0 (aF rfl hF16 rfl) ?_)))
             refine ae (aa ?_)
             exact aw (Sub.cons rfl (zz7 4 rfl))
            refine zz0 (ad rfl) (ae (aa (ao (bf (an ?_)))))
            refine aI dD rfl (fun w' hw => ?_)
            exact ⟨by unfold em; (repeat (first | rw [if_pos (by assumption)] | rw [if_neg (by assumption)])); try (cases f.z <;> cases f.n <;> cases f.c <;> cases f.v <;> rfl), hw.below (Bg.le.refl _)⟩
           ·refine af (ab (zz0 (aN rfl rfl) (zz0 (ad rfl) (ae (aa ?_)))))
            refine ak rfl ?_ ?_ <;> intro h17 <;> try simp only [bs] at h17
            ·refine af (ab (zz0 (zz3 (off := 1) (ft := 4) rfl bj rfl bv) ?_))
             refine zz0 (aM rfl bR) ?_
             refine zz0 (ad rfl) (ae (aa (ao (bf (an ?_)))))
             refine aI dD rfl (fun w' hw => ?_)
             exact ⟨by unfold em; (repeat (first | rw [if_pos (by assumption)] | rw [if_neg (by assumption)])); try (cases f.z <;> cases f.n <;> cases f.c <;> cases f.v <;> rfl), hw.below (Bg.le.refl _)⟩
            ·refine af (ab (zz0 (aN rfl rfl) (zz0 (ad rfl) (ae (aa ?_)))))
             refine ak rfl ?_ ?_ <;> intro h18 <;> try simp only [bs] at h18
             ·refine af (ab (zz0 (zz3 (off := 1) (ft := 4) rfl bj rfl bv) ?_))
              refine zz0 (aM rfl bR) ?_
              refine zz0 (cj rfl) (zz0 (ad rfl) (ae (aa (ao (bf (an ?_))))))
              refine aI dD rfl (fun w' hw => ?_)
              exact ⟨by unfold em; (repeat (first | rw [if_pos (by assumption)] | rw [if_neg (by assumption)])); try (cases f.z <;> cases f.n <;> cases f.c <;> cases f.v <;> rfl), hw.below (Bg.le.refl _)⟩
             ·refine af (ab (zz0 (aN rfl rfl) (zz0 (ad rfl) (ae (aa ?_)))))
              refine ak rfl ?_ ?_ <;> intro h19 <;> try simp only [bs] at h19
              ·refine af (ab (zz0 (zz3 (off := 3) (ft := 4) rfl bj rfl bv) ?_))
               refine zz0 (aM rfl bR) ?_
               refine zz0 (ad rfl) (ae (aa (ao (bf (an ?_)))))
               refine aI dD rfl (fun w' hw => ?_)
               exact ⟨by unfold em; (repeat (first | rw [if_pos (by assumption)] | rw [if_neg (by assumption)])); try (cases f.z <;> cases f.n <;> cases f.c <;> cases f.v <;> rfl), hw.below (Bg.le.refl _)⟩
              ·refine af (ab (zz0 (aN rfl rfl) (zz0 (ad rfl) (ae (aa ?_)))))
               refine ak rfl ?_ ?_ <;> intro h20 <;> try simp only [bs] at h20
               ·refine af (ab (zz0 (zz3 (off := 3) (ft := 4) rfl bj rfl bv) ?_))
                refine zz0 (aM rfl bR) ?_
                refine zz0 (cj rfl) (zz0 (ad rfl) (ae (aa (ao (bf (an ?_))))))
                refine aI dD rfl (fun w' hw => ?_)
                exact ⟨by unfold em; (repeat (first | rw [if_pos (by assumption)] | rw [if_neg (by assumption)])); try (cases f.z <;> cases f.n <;> cases f.c <;> cases f.v <;> rfl), hw.below (Bg.le.refl _)⟩
               ·refine ax (a9 (aa (af (ab (zz0 (ad rfl) (ae (aa (ao ?_))))))))
                refine aI dD rfl (fun w' hw => ?_)
                exact ⟨by unfold em; (repeat (first | rw [if_pos (by assumption)] | rw [if_neg (by assumption)])); try (cases f.z <;> cases f.n <;> cases f.c <;> cases f.v <;> rfl), hw.below (Bg.le.refl _)⟩
theorem nB (x : Bool) (w : World) :
  Calls Tryz.prog 152 #[.bool x] w (fun e w' => e = .returned (.int .u32 (jY x).toNat) ∧ Ext w w') := by
 refine enter Tryz.func152 rfl Tryz.ntmps152 rfl ?_
 refine af (ab (zz0 (ad rfl) (ae (aa (af (af (ab (zz0 (ac rfl) (ae (aa ?_))))))))))
 refine ak rfl ?_ ?_ <;> intro h1 <;> try simp only [bs] at h1
 ·refine af (ab (zz0 (ad rfl) (ae (aa (ao (an ?_))))))
  refine aI Tryz.results152 rfl (fun w' hw => ?_)
  exact ⟨by rw [show x = true by assumption]; rfl, hw.below (Bg.le.refl _)⟩
 ·refine ax (aa (af (ab (zz0 (ad rfl) (ae (aa (ao ?_)))))))
  refine aI Tryz.results152 rfl (fun w' hw => ?_)
  exact ⟨by rw [show x = false by simp_all]; rfl, hw.below (Bg.le.refl _)⟩
theorem tw (a : UInt32) (n : Int) (w : World) :
  Calls Tryz.prog 134 #[.int .u32 a.toNat, .int .i64 n] w (fun e w' => e = .returned (.int .u32 (jU a n).toNat) ∧ Ext w w') := by
 refine enter Tryz.func134 rfl Tryz.ntmps134 rfl ?_
 refine af (ab (zz0 (ad rfl) (ae (aa (af (ab (zz0 (ac rfl) (zz0 (ac rfl) (zz0 (aB rfl Tryz.call153 (fun w hw => uW a n w)) ?_)))))))))
 refine zz0 (ad rfl) (ae (aa (af (af (ab (zz0 (ac rfl) (zz0 (aN rfl rfl) (zz0 (ac rfl) ?_))))))))
 apply bF
 ·exact (rfl : _ = (3, 11, 14))
 ·exact rfl
 ·intro hT1; have hT1' := hT1
  try simp only [bs] at hT1'
  refine zz5 hT1 (ac rfl) (zz5 hT1 (mR (n := 128) rfl rfl) ?_)
  refine zz0 (aE rfl hT1 rfl) ?_
  refine ae (aa ?_)
  exact aw (Sub.cons rfl (zz7 3 rfl))
 ·intro hF1
  refine zz6 hF1 (zz6 hF1 (zz0 (aF rfl hF1 rfl) ?_))
  refine ae (aa ?_)
  exact aw (Sub.cons rfl (zz7 3 rfl))
 refine ae (aa ?_)
 refine ak rfl ?_ ?_ <;> intro h2 <;> try simp only [bs] at h2
 ·refine af (ab (zz0 (ac rfl) (zz0 (eX (n := 256) rfl rfl) ?_)))
  refine zz0 (ad rfl) (ae (aa (ao (an ?_))))
  refine aI lr rfl (fun w' hw => ?_)
  have hq : jU a n = (if n = 1 then a % 256 else if n = 2 then a % 65536 else a) - 256 := by
   obtain rfl : n = 1 := by simp_all
   rw [if_pos rfl, AL (by simp_all)]
  exact ⟨by rw [hq], hw.below (Bg.le.refl _)⟩
 ·refine ax (aa (af (af (ab (zz0 (ac rfl) (zz0 (aN rfl rfl) (zz0 (ac rfl) ?_)))))))
  apply bF
  ·exact (rfl : _ = (3, 19, 22))
  ·exact rfl
  ·intro hT3; have hT3' := hT3
   try simp only [bs] at hT3'
   refine zz5 hT3 (ac rfl) (zz5 hT3 (mR (n := 32768) rfl rfl) ?_)
   refine zz0 (aE rfl hT3 rfl) ?_
   refine ae (aa ?_)
   exact aw (Sub.cons rfl (zz7 3 rfl))
  ·intro hF3
   refine zz6 hF3 (zz6 hF3 (zz0 (aF rfl hF3 rfl) ?_))
   refine ae (aa ?_)
   exact aw (Sub.cons rfl (zz7 3 rfl))
  refine ae (aa ?_)
  refine ak rfl ?_ ?_ <;> intro h4 <;> try simp only [bs] at h4
  ·refine af (ab (zz0 (ac rfl) (zz0 (eX (n := 65536) rfl rfl) ?_)))
   refine zz0 (ad rfl) (ae (aa (ao (an ?_))))
   refine aI lr rfl (fun w' hw => ?_)
   have hq : jU a n = (if n = 1 then a % 256 else if n = 2 then a % 65536 else a) - 65536 := by
    obtain rfl : n = 2 := by simp_all
    rw [if_neg (by decide), if_pos rfl, AI (by simp_all)]
   exact ⟨by rw [hq], hw.below (Bg.le.refl _)⟩
  ·refine ax (aa (af (ab (zz0 (ac rfl) (zz0 (ad rfl) (ae (aa (ao ?_))))))))
   refine aI lr rfl (fun w' hw => ?_)
   have hq : jU a n = (if n = 1 then a % 256 else if n = 2 then a % 65536 else a) := by
    by_cases q1 : n = 1
    ·subst q1; rw [if_pos rfl, AK (by simp_all)]
    ·by_cases q2 : n = 2
     ·subst q2; rw [if_neg q1, if_pos rfl, AH (by simp_all)]
     ·rw [if_neg q1, if_neg q2, xC q1 q2]
   exact ⟨by rw [hq], hw.below (Bg.le.refl _)⟩
theorem uZ (op : Int) (a b : UInt32) (w : World) :
  Calls Tryz.prog 129 #[.int .i64 op, .int .u32 a.toNat, .int .u32 b.toNat] w (fun e w' => e = .returned (.tuple #[.int .u32 (kE op a b).1.toNat, .int .i64 (kE op a b).2]) ∧ Ext w w') := by
 refine enter Tryz.func129 rfl Tryz.ntmps129 rfl ?_
 refine af (ab (zz0 (ad rfl) (zz0 (ad rfl) (ae (aa (af (af (ab (zz0 (ac rfl) (ae (aa (aQ (af ?_)))))))))))))
 refine ab (zz0 (aN rfl rfl) (zz0 (ad rfl) (ae (aa ?_))))
 refine ak rfl ?_ ?_ <;> intro h1 <;> try simp only [bs] at h1
 ·refine af (ab (zz0 (ac rfl) (zz0 (ac rfl) (zz0 (cL rfl rfl) ?_))))
  refine zz0 (ad rfl) (zz0 (ad rfl) (ae (aa (ao (bf (an ?_))))))
  refine cy dI rfl rfl (fun w' hw => ?_)
  exact ⟨by unfold kE; rw [if_neg (by omega)]; unfold jM; (repeat (first | rw [if_pos (by assumption)] | rw [if_neg (by assumption)])), hw.below (Bg.le.refl _)⟩
 ·refine af (ab (zz0 (aN rfl rfl) (zz0 (ad rfl) (ae (aa ?_)))))
  refine ak rfl ?_ ?_ <;> intro h2 <;> try simp only [bs] at h2
  ·refine af (ab (zz0 (ac rfl) (zz0 (ac rfl) (zz0 (eX rfl rfl) ?_))))
   refine zz0 (ad rfl) (zz0 (ad rfl) (ae (aa (ao (bf (an ?_))))))
   refine cy dI rfl rfl (fun w' hw => ?_)
   exact ⟨by unfold kE; rw [if_neg (by omega)]; unfold jM; (repeat (first | rw [if_pos (by assumption)] | rw [if_neg (by assumption)])), hw.below (Bg.le.refl _)⟩
  ·refine af (ab (zz0 (aN rfl rfl) (zz0 (ad rfl) (ae (aa ?_)))))
   refine ak rfl ?_ ?_ <;> intro h3 <;> try simp only [bs] at h3
   ·refine af (ab (zz0 (ac rfl) (zz0 (ac rfl) (zz0 (jl rfl rfl) ?_))))
    refine zz0 (ad rfl) (zz0 (ad rfl) (ae (aa (ao (bf (an ?_))))))
    refine cy dI rfl rfl (fun w' hw => ?_)
    exact ⟨by unfold kE; rw [if_neg (by omega)]; unfold jM; (repeat (first | rw [if_pos (by assumption)] | rw [if_neg (by assumption)])), hw.below (Bg.le.refl _)⟩
   ·refine af (ab (zz0 (aN rfl rfl) (zz0 (ad rfl) (ae (aa ?_)))))
    refine ak rfl ?_ ?_ <;> intro h4 <;> try simp only [bs] at h4
    ·refine af (ab (zz0 (ac rfl) (zz0 (ac rfl) (zz0 (iP rfl rfl) ?_))))
     refine zz0 (ad rfl) (zz0 (ad rfl) (ae (aa (ao (bf (an ?_))))))
     refine cy dI rfl rfl (fun w' hw => ?_)
     exact ⟨by unfold kE; rw [if_neg (by omega)]; unfold jM; (repeat (first | rw [if_pos (by assumption)] | rw [if_neg (by assumption)])), hw.below (Bg.le.refl _)⟩
    ·refine af (ab (zz0 (aN rfl rfl) (zz0 (ad rfl) (ae (aa ?_)))))
     refine ak rfl ?_ ?_ <;> intro h5 <;> try simp only [bs] at h5
     ·refine af (ab (zz0 (ac rfl) (zz0 (ac rfl) (zz0 (pD rfl rfl) ?_))))
      refine zz0 (ad rfl) (zz0 (ad rfl) (ae (aa (ao (bf (an ?_))))))
      refine cy dI rfl rfl (fun w' hw => ?_)
      exact ⟨by unfold kE; rw [if_neg (by omega)]; unfold jM; (repeat (first | rw [if_pos (by assumption)] | rw [if_neg (by assumption)])), hw.below (Bg.le.refl _)⟩
     ·refine af (ab (zz0 (aN rfl rfl) (zz0 (ad rfl) (ae (aa ?_)))))
      refine ak rfl ?_ ?_ <;> intro h6 <;> try simp only [bs] at h6
      ·refine af (ab (zz0 (ac rfl) (zz0 (ac rfl) (zz0 (lP rfl rfl) ?_))))
       refine zz0 (ad rfl) (zz0 (ad rfl) (ae (aa (ao (bf (an ?_))))))
       refine cy dI rfl rfl (fun w' hw => ?_)
       exact ⟨by unfold kE; rw [if_neg (by omega)]; unfold jM; (repeat (first | rw [if_pos (by assumption)] | rw [if_neg (by assumption)])), hw.below (Bg.le.refl _)⟩
      ·refine af (ab (zz0 (aN rfl rfl) (zz0 (ad rfl) (ae (aa ?_)))))
       refine ak rfl ?_ ?_ <;> intro h7 <;> try simp only [bs] at h7
       ·refine af (ab (zz0 (ac rfl) (zz0 (ac rfl) (zz0 (aB rfl Tryz.call149 (fun w hw => yr a b w)) ?_))))
        refine zz0 (ad rfl) (zz0 (ad rfl) (ae (aa (ao (bf (an ?_))))))
        refine cy dI rfl rfl (fun w' hw => ?_)
        exact ⟨by unfold kE; rw [if_neg (by omega)]; unfold jM; (repeat (first | rw [if_pos (by assumption)] | rw [if_neg (by assumption)])), hw.below (Bg.le.refl _)⟩
       ·refine af (ab (zz0 (aN rfl rfl) (zz0 (ad rfl) (ae (aa ?_)))))
        refine ak rfl ?_ ?_ <;> intro h8 <;> try simp only [bs] at h8
        ·refine af (ab (zz0 (ac rfl) (zz0 (ac rfl) (zz0 (aB rfl Tryz.call150 (fun w hw => yq a b w)) ?_))))
         refine zz0 (ad rfl) (zz0 (ad rfl) (ae (aa (ao (bf (an ?_))))))
         refine cy dI rfl rfl (fun w' hw => ?_)
         exact ⟨by unfold kE; rw [if_neg (by omega)]; unfold jM; (repeat (first | rw [if_pos (by assumption)] | rw [if_neg (by assumption)])), hw.below (Bg.le.refl _)⟩
        ·refine af (ab (zz0 (aN rfl rfl) (zz0 (ad rfl) (ae (aa ?_)))))
         refine ak rfl ?_ ?_ <;> intro h9 <;> try simp only [bs] at h9
         ·refine af (ab (zz0 (ac rfl) (zz0 (ac rfl) (zz0 (aB rfl Tryz.call151 (fun w hw => yt a b w)) ?_))))
          refine zz0 (ad rfl) (zz0 (ad rfl) (ae (aa (ao (bf (an ?_))))))
          refine cy dI rfl rfl (fun w' hw => ?_)
          exact ⟨by unfold kE; rw [if_neg (by omega)]; unfold jM; (repeat (first | rw [if_pos (by assumption)] | rw [if_neg (by assumption)])), hw.below (Bg.le.refl _)⟩
         ·refine af (ab (zz0 (aN rfl rfl) (zz0 (ad rfl) (ae (aa ?_)))))
          refine ak rfl ?_ ?_ <;> intro h10 <;> try simp only [bs] at h10
          ·refine af (ab (zz0 (ac rfl) (zz0 (ac rfl) (zz0 (gk rfl rfl) ?_))))
           refine zz0 (aB rfl mj (fun w hw => nB (decide (a = b)) w)) ?_
           refine zz0 (ad rfl) (zz0 (ad rfl) (ae (aa (ao (bf (an ?_))))))
           refine cy dI rfl rfl (fun w' hw => ?_)
           exact ⟨by unfold kE; rw [if_neg (by omega)]; unfold jM; (repeat (first | rw [if_pos (by assumption)] | rw [if_neg (by assumption)])), hw.below (Bg.le.refl _)⟩
          ·refine af (ab (zz0 (aN rfl rfl) (zz0 (ad rfl) (ae (aa ?_)))))
           refine ak rfl ?_ ?_ <;> intro h11 <;> try simp only [bs] at h11
           ·refine af (ab (zz0 (ac rfl) (zz0 (ac rfl) (zz0 (jk rfl rfl) ?_))))
            refine zz0 (aB rfl mj (fun w hw => nB (decide (a ≠ b)) w)) ?_
            refine zz0 (ad rfl) (zz0 (ad rfl) (ae (aa (ao (bf (an ?_))))))
            refine cy dI rfl rfl (fun w' hw => ?_)
            exact ⟨by unfold kE; rw [if_neg (by omega)]; unfold jM; (repeat (first | rw [if_pos (by assumption)] | rw [if_neg (by assumption)])), hw.below (Bg.le.refl _)⟩
           ·refine af (ab (zz0 (aN rfl rfl) (zz0 (ad rfl) (ae (aa ?_)))))
            refine ak rfl ?_ ?_ <;> intro h12 <;> try simp only [bs] at h12
            ·refine af (ab (zz0 (ac rfl) (zz0 (jE rfl aT ga) (zz0 (ac rfl) (zz0 (jE rfl aT ga) (zz0 (cE rfl rfl) (zz0 (aB rfl mj (fun w hw => nB (sB a b) w)) ?_)))))))
             refine zz0 (ad rfl) (zz0 (ad rfl) (ae (aa (ao (bf (an ?_))))))
             refine cy dI rfl rfl (fun w' hw => ?_)
             exact ⟨by unfold kE; rw [if_neg (by omega)]; unfold jM; (repeat (first | rw [if_pos (by assumption)] | rw [if_neg (by assumption)])), hw.below (Bg.le.refl _)⟩
            ·refine af (ab (zz0 (aN rfl rfl) (zz0 (ad rfl) (ae (aa ?_)))))
             refine ak rfl ?_ ?_ <;> intro h13 <;> try simp only [bs] at h13
             ·refine af (ab (zz0 (ac rfl) (zz0 (ac rfl) (zz0 (gG rfl rfl) ?_))))
              refine zz0 (aB rfl mj (fun w hw => nB (decide (a < b)) w)) ?_
              refine zz0 (ad rfl) (zz0 (ad rfl) (ae (aa (ao (bf (an ?_))))))
              refine cy dI rfl rfl (fun w' hw => ?_)
              exact ⟨by unfold kE; rw [if_neg (by omega)]; unfold jM; (repeat (first | rw [if_pos (by assumption)] | rw [if_neg (by assumption)])), hw.below (Bg.le.refl _)⟩
             ·refine ax (a9 (aa (af (ab (zz0 (ad rfl) (zz0 (ad rfl) (ae (aa (ao ?_)))))))))
              refine cy dI rfl rfl (fun w' hw => ?_)
              exact ⟨by unfold kE; rw [if_pos (by omega)]; rfl, hw.below (Bg.le.refl _)⟩
end Go.Proofs.YtpeaodkfbjenpaaGreat
namespace Go.HL
open Go Go.RowKit
structure SV where
  a : Option Addr
  n : Nat
  c : Nat
abbrev SV.v (s : SV) : Value := .slice s.a s.n s.c
structure RP where
  l : SV
  c : SV
  i : SV
  o : SV
def f8 (l c : SV) : List Value := [.bool true, .slice l.a l.n l.c, .slice c.a c.n c.c]
def ev (s : St) (x : RP) : List Value := mY.enc s.m ++ [.bool true, .slice x.l.a x.l.n x.l.c, .slice x.c.a x.c.n x.c.c, .slice x.i.a x.i.n x.i.c, .slice x.o.a x.o.n x.o.c, .bool s.done, .int .i64 s.err]
def cK (x : RP) : Enc St := ⟨20, fun s => ev s x, fun _ => rfl, fun s v h => by simp [ev, mY] at h; rcases h with h | h | h | h | h | h | h | h | h | h | h | h | h | h | h | h | h | h | h | h <;> subst h <;> rfl⟩
def gA (l : SV) : Enc SV := ⟨3, fun c => f8 l c, fun _ => rfl, fun s v h => by simp [f8] at h; rcases h with h | h | h <;> subst h <;> rfl⟩
section
variable {s : St} {x : RP}
theorem jc {k : Int} (hk : 0 ≤ k ∧ k < 8) {o : Nat} (ho : o = k.toNat) : (ev s x)[o]? = some (.int .u32 (s.m.reg k).toNat) := by
  subst ho
  unfold ev
  rw [List.getElem?_append_left (by show k.toNat < 13; omega)]
  exact s.m.reg_cell hk
theorem g6 {k : Int} (hk : 0 ≤ k ∧ k < 8) {o : Nat} (ho : o = k.toNat) (y : UInt32) : splice (ev s x) o [.int .u32 y.toNat] = ev (s.setR k y) x := by
  subst ho
  exact s.m.set_cells hk y _
theorem l7 (p : UInt32) : splice (ev s x) 8 [.int .u32 p.toNat] = ev (s.to p) x := rfl
theorem nE (f : Flg) : splice (ev s x) 9 (gU.enc f) = ev (s.setF f) x := rfl
theorem pV (c : SV) : splice (ev s x) 13 (f8 x.l c) = ev s { x with c := c } := rfl
theorem An (i : SV) : splice (ev s x) 16 [.slice i.a i.n i.c] = ev s { x with i := i } := rfl
theorem yA (o : SV) : splice (ev s x) 17 [.slice o.a o.n o.c] = ev s { x with o := o } := rfl
theorem rz (b : Bool) : splice (ev s x) 18 [.bool b] = ev { s with done := b } x := rfl
theorem yB (e : Int) : splice (ev s x) 19 [.int .i64 e] = ev { s with err := e } x := rfl
theorem g7 : (ev s x).length = 20 := rfl
end
theorem i5 {H : Hp} {w w' : World} : Hp.le (qi w w') (vis H w.heap.size (hp w')) := fun b o e => by
  unfold qi at e
  unfold vis
  split at e
  · cases e
  · rw [if_neg (by assumption)]; exact e
def u7 : Hp := fun _ => none
theorem l9 (H : Hp) : Hp.le u7 H := fun b o e => by cases e
structure RefAt (h : Hp) (l : List SecV) (inp : List UInt32) (s : St) (cs : List CellV) (x : RP) : Prop where
  secs : Sl h cf l x.l.v
  data : DataIn h l
  cells : Sl h cQ cs x.c.v
  inp : Sl h av (inp.drop s.read) x.i.v
  out : Sl h av s.out x.o.v
  fn : dA cs = s.w
  srt : nZ cs
theorem RefAt.mono {h h' : Hp} {l : List SecV} {inp : List UInt32} {s : St} {cs : List CellV} {x : RP} (r : RefAt h l inp s cs x) (hh : Hp.le h h') : RefAt h' l inp s cs x :=
  ⟨r.secs.mono hh, r.data.mono hh, r.cells.mono hh, r.inp.mono hh, r.out.mono hh, r.fn, r.srt⟩
theorem RefAt.with_ {h : Hp} {l : List SecV} {inp : List UInt32} {s t : St} {cs : List CellV} {x : RP} (r : RefAt h l inp s cs x) (h1 : t.read = s.read) (h2 : t.out = s.out) (h3 : t.w = s.w) : RefAt h l inp t cs x :=
  ⟨r.secs, r.data, r.cells, by rw [h1]; exact r.inp, by rw [h2]; exact r.out, by rw [h3]; exact r.fn, r.srt⟩
theorem RefAt.cell_ {h : Hp} {l : List SecV} {inp : List UInt32} {s t : St} {cs cs' : List CellV} {x : RP} {c : SV} (r : RefAt h l inp s cs x) (h1 : t.read = s.read) (h2 : t.out = s.out) (h3 : dA cs' = t.w) (h4 : nZ cs') (h5 : Sl h cQ cs' c.v) : RefAt h l inp t cs' { x with c := c } :=
  ⟨r.secs, r.data, h5, by rw [h1]; exact r.inp, by rw [h2]; exact r.out, h3, h4⟩
theorem Ak {α : Type} {h : Hp} {E : Enc α} {l : List α} {V : Value} (s : Sl h E l V) : ∃ x : SV, V = x.v ∧ x.n = l.length := by
  obtain ⟨a, c, e, _⟩ := s.shape
  exact ⟨⟨a, l.length, c⟩, e, rfl⟩
theorem Sl.len_v {α : Type} {h : Hp} {E : Enc α} {l : List α} {x : SV} (s : Sl h E l x.v) : x.n = l.length := by
  obtain ⟨a, c, e, _⟩ := s.shape
  exact (Value.slice.inj e).2.1
theorem Mach.set_to (m : Mach) (p y : UInt32) (k : Int) : (m.to p).set k y = (m.set k y).to p := by
  unfold Mach.set
  repeat' split
  all_goals rfl
theorem Mach.set_pc (m : Mach) (k : Int) (y : UInt32) : (m.set k y).pc = m.pc := by
  unfold Mach.set
  repeat' split
  all_goals rfl
theorem Mach.set_to_pc (m : Mach) (k : Int) (y : UInt32) : (m.set k y).to m.pc = m.set k y := by
  rw [← Mach.set_pc m k y]; rfl
section
variable {s : St} {i : Ins} {nx : UInt32}
theorem jt (h : i.op ≠ 1) : (s.setR i.a (gg s.m i).1).setF (gg s.m i).2 = f6 s i s.m.pc := by
  show ({ s with m := { s.m.set i.a (gg s.m i).1 with f := (gg s.m i).2 } } : St) = _
  unfold f6
  rw [decide_eq_false h, ← Mach.set_pc s.m i.a (gg s.m i).1]
  rfl
theorem BK (h : ¬ (i.op = 5 ∨ i.op = 6 ∨ i.op = 7 ∨ i.op = 15 ∨ i.op = 19 ∨ i.op = 25 ∨ (8 ≤ i.op ∧ i.op ≤ 14))) : gg s.m i = (s.m.reg i.a, s.m.f) := by
  unfold gg
  repeat rw [if_neg (by omega)]
theorem tX (h : ¬ (i.op = 5 ∨ i.op = 6 ∨ i.op = 7 ∨ i.op = 15 ∨ i.op = 19 ∨ i.op = 25 ∨ (8 ≤ i.op ∧ i.op ≤ 14))) : f6 s i s.m.pc = { s with done := decide (i.op = 1) || s.done } := by
  unfold f6
  rw [BK h]
  simp only [Mach.set_reg]
theorem BG {l : List SecV} {inp : List UInt32} : (cU l inp (s.to nx) i nx).2 = (cU l inp s i nx).2 ∧ ((cU l inp s i nx).2 = 0 → (cU l inp (s.to nx) i nx).1 = (cU l inp s i nx).1) := by
  have r7 : (s.to nx).m.r7 = s.m.r7 := rfl
  have rw' : (s.to nx).w = s.w := rfl
  have rr : ∀ k, (s.to nx).m.reg k = s.m.reg k := fun k => rfl
  have rf : (s.to nx).m.f = s.m.f := rfl
  have rd : (s.to nx).read = s.read := rfl
  have ro : (s.to nx).out = s.out := rfl
  have rs : ∀ k y p, ((s.to nx).m.set k y).to p = (s.m.set k y).to p := fun k y p => by show ((s.m.to nx).set k y).to p = _; rw [Mach.set_to]; rfl
  have rs2 : ∀ k y k2 y2 p, (((s.to nx).m.set k y).set k2 y2).to p = ((s.m.set k y).set k2 y2).to p := fun k y k2 y2 p => by show (((s.m.to nx).set k y).set k2 y2).to p = _; rw [Mach.set_to, Mach.set_to]; rfl
  have rt : ∀ p, (s.to nx).m.to p = s.m.to p := fun p => rfl
  unfold cU
  split
  · unfold d5; rw [r7, rw', rr]; repeat' split
    all_goals first | exact ⟨rfl, fun _ => by simp only [rs, rs2]; rfl⟩ | exact ⟨rfl, fun q => absurd q (by assumption)⟩
  split
  · unfold dj; simp only [r7, rw', rr]; repeat' split
    all_goals first | exact ⟨rfl, fun _ => by simp only [rs, rs2, rt]; rfl⟩ | exact ⟨rfl, fun q => absurd q (by assumption)⟩
  split
  · unfold eF; simp only [r7, rw', rr, rf]; repeat' split
    all_goals first | exact ⟨rfl, fun _ => by simp only [rs, rs2, rt]; rfl⟩ | exact ⟨rfl, fun q => absurd q (by assumption)⟩
  split
  · unfold eR; simp only [r7, rw', rr, rf]; repeat' split
    all_goals first | exact ⟨rfl, fun _ => by simp only [rs, rs2, rt]; rfl⟩ | exact ⟨rfl, fun q => absurd q (by assumption)⟩
  split
  · unfold df; simp only [r7, rw', rr, rf, rd, ro]; repeat' split
    all_goals first | exact ⟨rfl, fun _ => by simp only [rs, rs2, rt]; rfl⟩ | exact ⟨rfl, fun q => by cases q⟩
  · refine ⟨rfl, fun _ => ?_⟩
    show f6 (s.to nx) i nx = f6 s i nx
    have ra : gg (s.to nx).m i = gg s.m i := rfl
    unfold f6
    rw [ra]
    show ({ s with m := { (s.m.to nx).set i.a (gg s.m i).1 with f := (gg s.m i).2, pc := nx }, done := _ } : St) = _
    rw [Mach.set_to]; rfl
end
section
variable {P : Program} {ops : Array Oper} {Q : Exit → Act → World → Prop} {N : Nat} {F F0 : Bg} {L L0 : List Ent} {M : Fr} {ty : TypeId} {pos : String} {after : Array Edge} {rest : List Oper} {d : Nat} {fuel : Nat} {listed : Array Bool} {op : Op}
theorem mP {v : Value} (hF : F0.le F) (i : Nat) (hi : ops[i]? = some ⟨some d, op, ty, pos, after, none⟩) (hB : takeB ops listed i = true) (hQ : ∀ c a d v w, Q (.panic c) (a.put d v) w → Q (.panic c) a w)
    (h : QS P N F0 L0 M ⟨some d, op, ty, pos, after, none⟩ v) (k : Tr N F L ((d, v) :: M) (wpAnyH P .any ops Q (HpOK F0 L0) fuel (listed.setIfInBounds i true)))
    (hp : jF op = true := by rfl) (hd : Nat.ble (d + 1) N = true := by rfl) (hL : Pick L L0 := by repeat' (first | exact Pick.nil _ | exact Del.here _ | apply Pick.cons | apply Del.there)) :
    Tr N F L M (wpAnyH P .any ops Q (HpOK F0 L0) (fuel + 1) listed) := by
  simp only [takeB, Bool.and_eq_true] at hB
  intro a w ha hw
  exact wpAnyH_take hi hB.1.1 hB.1.2 hB.2 (fun c a w => hQ c a _ _ w) (.inl ⟨by simp [Region.wanted], fun w' hw' => sV h hp ha hw'⟩) (HpOK.weaken (hL.heap hw) hF) (k _ _ (ha.put (Nat.le_of_ble_eq_true hd)) hw)
theorem qE {X : Act → World → Prop} (hF : F0.le F) (k : Tr N F L M X) (hL : Pick L L0 := by repeat' (first | exact Pick.nil _ | exact Del.here _ | apply Pick.cons | apply Del.there)) : Tr N F L M (wpList P ops (Exit.then (fun a w => HpOK F0 L0 w ∧ X a w) Q) []) :=
  fun a w ha hw => ⟨HpOK.weaken (hL.heap hw) hF, k a w ha hw⟩
end
def iL (l : List SecV) (s : St) (y : UInt32) : St × Int :=
  if (bO l s.w (s.m.r7 - 4) 4 y).2 ≠ 0 then (s, (bO l s.w (s.m.r7 - 4) 4 y).2) else ({ s with w := (bO l s.w (s.m.r7 - 4) 4 y).1, m := s.m.set 7 (s.m.r7 - 4) }, 0)
def oe (l : List SecV) (s : St) : St × UInt32 × Int :=
  if (cP l s.w s.m.r7 4).2 ≠ 0 then (s, 0, (cP l s.w s.m.r7 4).2) else ({ s with m := s.m.set 7 (s.m.r7 + 4) }, (cP l s.w s.m.r7 4).1, 0)
section
variable {l : List SecV} {a : UInt32}
theorem kS : -1 ≤ fu l a ∧ fu l a ≤ l.length := by
  unfold fu
  have := g8 (l := l) (a := a)
  split <;> omega
theorem nC : fu l a < 0 ↔ iK l a = true := by
  unfold fu iK
  split
  · rename_i h; simp [h]
  · rename_i h; simp [h]
theorem mE : fu l a = (l.length : Int) ↔ e9 a = true := by
  unfold fu
  have := g8 (l := l) (a := a)
  split
  · rename_i h; simp [h]
  · rename_i h; simp [h]; omega
theorem ie (h0 : ¬ fu l a < 0) (h1 : ¬ fu l a = (l.length : Int)) : e9 a = false ∧ fu l a = cV l a ∧ ¬ cV l a < 0 ∧ (cV l a).toNat < l.length := by
  have hs : ¬ e9 a = true := fun e => h1 (mE.2 e)
  have e : fu l a = cV l a := by unfold fu; rw [if_neg hs]
  have := g8 (l := l) (a := a)
  exact ⟨by simpa using hs, e, by omega, by omega⟩
theorem we (h : fu l a < 0) : dW l a = 0 := by
  have h1 := nC.1 h
  unfold iK at h1
  unfold dW
  simp only [Bool.and_eq_true, Bool.not_eq_true', decide_eq_true_eq] at h1
  rw [if_neg (by rw [h1.1]; simp), if_pos h1.2]
theorem yx (h : fu l a = (l.length : Int)) : dW l a = ((983040 - a).toNat : Int) := by
  have h1 := mE.1 h
  obtain ⟨h2, h3⟩ := lG.1 h1
  unfold dW
  rw [if_pos h1, UInt32.toNat_sub_of_le _ _ (UInt32.le_iff_toNat_le.2 (by show a.toNat ≤ 983040; omega))]
  show (983040 : Int) - a.toNat = ((983040 - a.toNat : Nat) : Int)
  omega
theorem ym (h0 : ¬ fu l a < 0) (h1 : ¬ fu l a = (l.length : Int)) : ((a - (eB l a).addr).toNat : Int) = (a.toNat : Int) - (eB l a).addr.toNat ∧ (a - (eB l a).addr).toNat < (eB l a).data.length := by
  obtain ⟨h2, h3, h4, h5⟩ := ie h0 h1
  have h6 := yI (l := l) (a := a) h4
  have h7 := jG.1 (mJ (l := l) (a := a) (by omega))
  refine ⟨h6, ?_⟩
  have h8 : jW (l.getD (cV l a).toNat default) ≤ (l.getD (cV l a).toNat default).addr.toNat + (l.getD (cV l a).toNat default).data.length := by unfold jW; omega
  unfold eB at h6 ⊢
  omega
theorem yy (h0 : ¬ fu l a < 0) (h1 : ¬ fu l a = (l.length : Int)) : dW l a = ((eB l a).data.length : Int) - ((a - (eB l a).addr).toNat : Int) := by
  obtain ⟨h2, h3, h4, h5⟩ := ie h0 h1
  have := (ym h0 h1).1
  unfold dW
  rw [if_neg (by rw [h2]; simp), if_neg h4]
  omega
theorem AE (h : fu l a < 0 ∨ fu l a = (l.length : Int)) : jf l a = 0 := by
  unfold jf
  rcases h with h | h
  · have h1 := nC.1 h
    unfold iK at h1
    simp only [Bool.and_eq_true, Bool.not_eq_true', decide_eq_true_eq] at h1
    rw [if_pos (.inr h1.2)]
  · rw [if_pos (.inl (mE.1 h))]
theorem y9 (h0 : ¬ fu l a < 0) (h1 : ¬ fu l a = (l.length : Int)) : jf l a = (eB l a).data.getD (a - (eB l a).addr).toNat 0 := by
  obtain ⟨h2, h3, h4, h5⟩ := ie h0 h1
  unfold jf
  rw [if_neg (by rintro (q | q); · rw [h2] at q; cases q
                 · exact h4 q)]
theorem Bo (h : fu l a = (l.length : Int)) : wrA l a = true := by
  unfold wrA; rw [mE.1 h]; rfl
theorem ya (h0 : ¬ fu l a < 0) (h1 : ¬ fu l a = (l.length : Int)) : wrA l a = (eB l a).wr := by
  unfold wrA; rw [(ie h0 h1).1]; rfl
theorem BB (h : fu l a = (l.length : Int)) : exA l a = false := by
  unfold exA; rw [mE.1 h]; rfl
theorem zj (h0 : ¬ fu l a < 0) (h1 : ¬ fu l a = (l.length : Int)) : exA l a = (eB l a).ex := by
  unfold exA; rw [(ie h0 h1).1]; rfl
theorem yz (h : 0 < dW l a) : ¬ fu l a < 0 := fun q => by rw [we q] at h; omega
end
theorem B5 {h : Hp} {l : List SecV} {a : UInt32} (d : DataIn h l) (h0 : ¬ cV l a < 0) : Sl h dH (eB l a).data (.slice (eB l a).dp (eB l a).data.length (eB l a).dc) := by
  have := g8 (l := l) (a := a)
  exact d _ (fU (by omega))
theorem Mach.set2_to_pc (m : Mach) (k j : Int) (y z : UInt32) : ((m.set k y).set j z).to m.pc = (m.set k y).set j z := by
  rw [← Mach.set_pc m k y, Mach.set_to_pc]
theorem Mach.set_f (m : Mach) (k : Int) (y : UInt32) : (m.set k y).f = m.f := by
  unfold Mach.set
  repeat' split
  all_goals rfl
theorem St.setF_same (s : St) (k : Int) (y : UInt32) : (s.setR k y).setF s.m.f = s.setR k y := by
  show ({ s with m := { s.m.set k y with f := s.m.f } } : St) = { s with m := s.m.set k y }
  rw [← Mach.set_f s.m k y]
theorem St.setR_same (s : St) (k : Int) : s.setR k (s.m.reg k) = s := by
  show ({ s with m := s.m.set k (s.m.reg k) } : St) = s
  rw [Mach.set_reg]
section
variable {s : St} {i : Ins}
theorem xf (h : i.op = 5) : f6 s i s.m.pc = s.setR i.a (fP s.m i) := by
  rw [← jt (by omega)]
  unfold gg
  rw [if_pos h]
  exact St.setF_same _ _ _
theorem xn (h : i.op = 6) : f6 s i s.m.pc = (s.setR i.a (s.m.reg i.a + fP s.m i)).setF (uD (s.m.reg i.a) (fP s.m i)) := by
  rw [← jt (by omega)]
  unfold gg
  rw [if_neg (by omega), if_pos h]
theorem xd (h : i.op = 7) : f6 s i s.m.pc = (s.setR i.a (s.m.reg i.a - fP s.m i)).setF (pI (s.m.reg i.a) (fP s.m i)) := by
  rw [← jt (by omega)]
  unfold gg
  rw [if_neg (by omega), if_neg (by omega), if_pos h]
theorem xk (h : i.op = 15) : f6 s i s.m.pc = s.setF (pI (s.m.reg i.a) (fP s.m i)) := by
  rw [← jt (by omega)]
  unfold gg
  rw [if_neg (by omega), if_neg (by omega), if_neg (by omega), if_pos h]
  show (s.setR i.a (s.m.reg i.a)).setF _ = _
  rw [St.setR_same]
theorem xm (h : 8 ≤ i.op ∧ i.op ≤ 14) : f6 s i s.m.pc = (s.setR i.a (jM (gg.opX i.op) (s.m.reg i.a) (fP s.m i))).setF (vg (jM (gg.opX i.op) (s.m.reg i.a) (fP s.m i))) := by
  rw [← jt (by omega)]
  unfold gg
  rw [if_neg (by omega), if_neg (by omega), if_neg (by omega), if_neg (by omega), if_neg (by omega), if_neg (by omega), if_pos h]
theorem xh (h : i.op = 19) : f6 s i s.m.pc = s.setR i.a (s.m.reg i.b + i.imm) := by
  rw [← jt (by omega)]
  unfold gg
  rw [if_neg (by omega), if_neg (by omega), if_neg (by omega), if_neg (by omega), if_pos h]
  exact St.setF_same _ _ _
theorem xe (h : i.op = 25) : f6 s i s.m.pc = s.setR i.a (jY (em i.cc s.m.f)) := by
  rw [← jt (by omega)]
  unfold gg
  rw [if_neg (by omega), if_neg (by omega), if_neg (by omega), if_neg (by omega), if_neg (by omega), if_pos h]
  exact St.setF_same _ _ _
theorem kB {l : List SecV} {inp : List UInt32} {nx : UInt32} (h : ¬ (i.op = 3 ∨ i.op = 4 ∨ i.op = 16 ∨ i.op = 17 ∨ i.op = 18 ∨ i.op = 20 ∨ i.op = 21 ∨ i.op = 22 ∨ i.op = 23 ∨ i.op = 24 ∨ i.op = 2 ∨ i.op = 26 ∨ i.op = 27)) : cU l inp s i nx = (f6 s i nx, 0) := by
  unfold cU
  repeat rw [if_neg (by omega)]
theorem sG {l : List SecV} {inp : List UInt32} {nx : UInt32} (h : (cU l inp s i nx).2 ≠ 0) : (cU l inp s i nx).1 = s := by
  unfold cU d5 dj eF eR df at h ⊢
  repeat' split
  all_goals first | rfl | (exfalso; simp_all)
theorem zn {l : List SecV} {inp : List UInt32} (h : i.op = 3) : cU l inp s i s.m.pc = iL l s (s.m.reg i.a) := by
  unfold cU d5 iL
  rw [if_pos (.inl h), if_pos h, Mach.set_to_pc]
theorem AV {l : List SecV} {inp : List UInt32} (h : i.op = 27) (h2 : s.out.length < 4096) : cU l inp s i s.m.pc = ({ s with out := s.out ++ [s.m.reg i.a] }, 0) := by
  unfold cU df
  repeat (first | rw [if_pos (by omega)] | rw [if_neg (by omega)])
  rfl
end
theorem rl {l : List SecV} {w : WrF} {a x : UInt32} {n : Int} (h : (bO l w a n x).2 = 0) : n = 1 ∨ n = 2 ∨ n = 4 := by
  unfold bO at h
  split at h
  · cases h
  · rename_i h1
    unfold jp at h1
    simp at h1
    omega
theorem pJ {l : List SecV} {w : WrF} {a x : UInt32} {n : Int} (h : (bO l w a n x).2 = 0) : (bO l w a n x).1 = m8 w a x n.toNat := by
  unfold bO at h ⊢
  repeat' split
  all_goals first | rfl | (exfalso; simp_all)
theorem yG {l : List SecV} {s : St} (h : (oe l s).2.2 = 0) : (cP l s.w s.m.r7 4).2 = 0 ∧ oe l s = (s.setR 7 (s.m.r7 + 4), (cP l s.w s.m.r7 4).1, 0) := by
  unfold oe at h ⊢
  by_cases q : (cP l s.w s.m.r7 4).2 ≠ 0
  · rw [if_pos q] at h; exact absurd h q
  · rw [if_neg q]; exact ⟨by omega, rfl⟩
theorem yH {l : List SecV} {s : St} (h : (oe l s).2.2 ≠ 0) : (cP l s.w s.m.r7 4).2 ≠ 0 ∧ oe l s = (s, 0, (cP l s.w s.m.r7 4).2) := by
  unfold oe at h ⊢
  by_cases q : (cP l s.w s.m.r7 4).2 ≠ 0
  · rw [if_pos q]; exact ⟨q, rfl⟩
  · rw [if_neg q] at h; exact absurd rfl h
theorem Aq {l : List SecV} {s : St} {y : UInt32} (h : (iL l s y).2 = 0) : (bO l s.w (s.m.r7 - 4) 4 y).2 = 0 ∧ iL l s y = ({ s with w := (bO l s.w (s.m.r7 - 4) 4 y).1, m := s.m.set 7 (s.m.r7 - 4) }, 0) := by
  unfold iL at h ⊢
  by_cases q : (bO l s.w (s.m.r7 - 4) 4 y).2 ≠ 0
  · rw [if_pos q] at h; exact absurd h q
  · rw [if_neg q]; exact ⟨by omega, rfl⟩
theorem Ar {l : List SecV} {s : St} {y : UInt32} (h : (iL l s y).2 ≠ 0) : (bO l s.w (s.m.r7 - 4) 4 y).2 ≠ 0 ∧ iL l s y = (s, (bO l s.w (s.m.r7 - 4) 4 y).2) := by
  unfold iL at h ⊢
  by_cases q : (bO l s.w (s.m.r7 - 4) 4 y).2 ≠ 0
  · rw [if_pos q]; exact ⟨q, rfl⟩
  · rw [if_neg q] at h; exact absurd rfl h
theorem RefAt.next_ {h : Hp} {l : List SecV} {inp : List UInt32} {s : St} {cs : List CellV} {x : RP} (r : RefAt h l inp s cs x) (hr : s.read < inp.length) {k : Int} {y : UInt32} :
    RefAt h l inp { s.setR k y with read := s.read + 1 } cs { x with i := ⟨if x.i.c = 1 then x.i.a else x.i.a.map (·.add (1 * av.k)), (inp.drop s.read).length - 1, x.i.c - 1⟩ } := by
  have hl : (inp.drop s.read).length = inp.length - s.read := List.length_drop
  have q := Sl.resl r.inp (l := 1) (h := (inp.drop s.read).length) (by omega) (Nat.le_refl _)
  rw [List.take_length, List.drop_drop] at q
  exact ⟨r.secs, r.data, r.cells, q, r.out, r.fn, r.srt⟩
theorem RefAt.out_ {h : Hp} {l : List SecV} {inp : List UInt32} {s : St} {cs : List CellV} {x : RP} (r : RefAt h l inp s cs x) {o : SV} {os : List UInt32} (ho : Sl h av os o.v) :
    RefAt h l inp { s with out := os } cs { x with o := o } := ⟨r.secs, r.data, r.cells, r.inp, ho, r.fn, r.srt⟩
section
variable {P : Program} {N : Nat} {F : Bg} {L : List Ent} {M : Fr}
theorem uG {fn : Func} {R : Ending → World → Prop} {t T : TypeId} {u s r : Tmp} {v v2 : Value} {b k : Nat} {cs : List Value} (hr : fn.results = #[.cell u t, .tmp s, .tmp r]) (hv : look M u = some (.pointer (some ⟨b, 0, none⟩))) (hs : look M s = some v) (hs2 : look M r = some v2) (hm : cellE b cs T ∈ L)
    (hagg : ∀ w, (isAgg t).run P w = .ok true w) (hz : ∀ w, (sizeOf t).run P w = .ok k w) (hl : cs.length = k) (h : ∀ w, HpOK F L w → R (.returned (.tuple #[.agg cs.toArray, v, v2])) w) (hD : look M mk0 = some undef := by rfl) :
    Tr N F L M (bodyPost P fn R .ret) := fun a w ha hw => ⟨ha.defers0 hD, _, by
      have h1 := ha.val u _ hv
      have h2 := ha.val s _ hs
      have h3 := ha.val r _ hs2
      rw [Array.getD_eq_getD_getElem?] at h1 h2 h3
      simp [results, hr, h1, h2, h3, asAddr, iY (hw.ent _ hm) hagg hz hl], h w hw⟩
theorem rU {fn : Func} {R : Ending → World → Prop} {t t' T T' : TypeId} {u s r : Tmp} {v : Value} {b b' k k' : Nat} {cs cs' : List Value} (hr : fn.results = #[.cell u t, .tmp r, .cell s t']) (hv : look M u = some (.pointer (some ⟨b, 0, none⟩))) (hx : look M r = some v) (hs : look M s = some (.pointer (some ⟨b', 0, none⟩))) (hm : cellE b cs T ∈ L) (hm' : cellE b' cs' T' ∈ L)
    (hagg : ∀ w, (isAgg t).run P w = .ok true w) (hz : ∀ w, (sizeOf t).run P w = .ok k w) (hl : cs.length = k) (hagg' : ∀ w, (isAgg t').run P w = .ok true w) (hz' : ∀ w, (sizeOf t').run P w = .ok k' w) (hl' : cs'.length = k') (h : ∀ w, HpOK F L w → R (.returned (.tuple #[.agg cs.toArray, v, .agg cs'.toArray])) w) (hD : look M mk0 = some undef := by rfl) :
    Tr N F L M (bodyPost P fn R .ret) := fun a w ha hw => ⟨ha.defers0 hD, _, by
      have h1 := ha.val u _ hv
      have h2 := ha.val s _ hs
      have h3 := ha.val r _ hx
      rw [Array.getD_eq_getD_getElem?] at h1 h2 h3
      simp [results, hr, h1, h2, h3, asAddr, iY (hw.ent _ hm) hagg hz hl, iY (hw.ent _ hm') hagg' hz' hl'], h w hw⟩
end
section
variable {l k : List SecV} (hp : k.map SecV.pl = l.map SecV.pl)
include hp
theorem u2 : k.length = l.length := by
  have := congrArg List.length hp
  simpa using this
theorem B9 (n : Nat) (h : n < l.length) : (k.getD n default).pl = (l.getD n default).pl := by
  have e := congrArg (fun x => x[n]?) hp
  simp only [List.getElem?_map] at e
  rw [jK h, jK (by rw [u2 hp]; exact h)] at e
  simpa using e
theorem pu (a : UInt32) : cV k a = cV l a := by
  unfold cV
  refine nr _ _ 0 (u2 hp) (fun i x y hx hy => ?_)
  have e := congrArg (fun z => z[i]?) hp
  simp only [List.getElem?_map, hx, hy, Option.map_some, Option.some.injEq] at e
  have e1 : x.addr = y.addr := congrArg Sec.addr e
  have e2 : x.data = y.data := congrArg Sec.data e
  rw [Bool.eq_iff_iff, jG, jG]
  unfold jW
  rw [e1, e2]
theorem so {a : UInt32} (h : ¬ cV l a < 0) : (eB k a).pl = (eB l a).pl := by
  unfold eB
  rw [pu hp]
  have := g8 (l := l) (a := a)
  exact B9 hp _ (by omega)
theorem sr (a : UInt32) : dW k a = dW l a := by
  unfold dW
  rw [pu hp]
  split
  · rfl
  split
  · rfl
  · rename_i h
    have e := so hp h
    have e1 : (eB k a).addr = (eB l a).addr := congrArg Sec.addr e
    have e2 : (eB k a).data = (eB l a).data := congrArg Sec.data e
    rw [e1, e2]
theorem wk (a : UInt32) : jf k a = jf l a := by
  unfold jf
  rw [pu hp]
  split
  · rfl
  · rename_i h
    have e := so hp (fun q => h (.inr q))
    have e1 : (eB k a).addr = (eB l a).addr := congrArg Sec.addr e
    have e2 : (eB k a).data = (eB l a).data := congrArg Sec.data e
    rw [e1, e2]
theorem qd (w : WrF) : ∀ (n : Nat) (a : UInt32), d6 k w a n = d6 l w a n
  | 0, _ => rfl
  | n + 1, a => by
    unfold d6
    rw [qd w n (a + 1)]
    unfold nj
    rw [wk hp]
theorem wj (w : WrF) (a : UInt32) (n : Int) : cP k w a n = cP l w a n := by
  unfold cP
  rw [sr hp, qd hp]
theorem u6 {a : UInt32} (h : ¬ dW l a < 1) : e9 a = true ∨ ¬ cV l a < 0 := by
  unfold dW at h
  by_cases h1 : e9 a = true
  · exact .inl h1
  · rw [if_neg h1] at h
    by_cases h2 : cV l a < 0
    · rw [if_pos h2] at h; omega
    · exact .inr h2
theorem B8 {a : UInt32} (h : e9 a = true ∨ ¬ cV l a < 0) : wrA k a = wrA l a := by
  unfold wrA
  rcases h with h | h
  · rw [h]; rfl
  · have e1 : (eB k a).wr = (eB l a).wr := congrArg Sec.wr (so hp h)
    rw [e1]
theorem yL (w : WrF) (a : UInt32) (n : Int) (x : UInt32) : bO k w a n x = bO l w a n x := by
  unfold bO
  rw [sr hp]
  split
  · rfl
  rename_i h1
  split
  · rfl
  rename_i h2
  have hn : 1 ≤ n := by
    unfold jp at h1
    simp at h1
    omega
  rw [B8 hp (u6 hp (fun q => h2 (by omega)))]
theorem yM (w : WrF) (a : UInt32) : dB k w a = dB l w a := by
  unfold dB
  have e1 : iK k a = iK l a := by unfold iK; rw [pu hp]
  rw [e1]
  split
  · rfl
  rename_i h
  have e2 : exA k a = exA l a := by
    unfold exA
    by_cases hs : e9 a = true
    · rw [hs]; rfl
    · have hf : ¬ cV l a < 0 := fun q => h (by unfold iK; simp [hs, q])
      have e3 : (eB k a).ex = (eB l a).ex := congrArg Sec.ex (so hp hf)
      rw [e3]
  rw [e2, sr hp, qd hp]
theorem Bu (inp : List UInt32) (s : St) (i : Ins) (nx : UInt32) : cU k inp s i nx = cU l inp s i nx := by
  unfold cU d5 dj eF eR
  simp only [wj hp, yL hp]
theorem wi (inp : List UInt32) (s : St) : stepS k inp s = stepS l inp s := by
  unfold stepS dX
  simp only [yM hp, Bu hp]
theorem sq (inp : List UInt32) : ∀ (n : Nat) (s : St), dm k inp n s = dm l inp n s ∧ da k inp n s = da l inp n s
  | 0, s => ⟨rfl, rfl⟩
  | n + 1, s => by
    unfold dm da
    rw [wi hp, (sq inp n _).1, (sq inp n _).2]
    exact ⟨rfl, rfl⟩
theorem Bv (w : WrF) (xs : List UInt32) (h : IsChg k w xs) : IsChg l w xs :=
  ⟨h.1, fun a => by rw [h.2 a, wk hp]⟩
end
end Go.HL
namespace Go.Proofs.YtpeaodkfbjenpaaGreat
open Go Go.HL Go.RowKit
theorem rI (r : Int) (w : World) :
  Calls Tryz.prog 93 #[.int .i64 r] w (fun e w' => e = .returned (.bool (j2 r)) ∧ Ext w w') := by
 refine enter Tryz.func93 rfl Tryz.ntmps93 rfl ?_
 refine af (ab (zz0 (ad rfl) (ae (aa (af (ab (zz0 (ac rfl) (zz0 (dl rfl rfl) (zz0 (ac rfl) ?_)))))))))
 apply bF
 ·exact (rfl : _ = (3, 5, 8))
 ·exact rfl
 ·intro hT1; have hT1' := hT1
  try simp only [bs] at hT1'
  refine zz5 hT1 (ac rfl) (zz5 hT1 (cE rfl rfl) (zz0 (aE rfl hT1 rfl) ?_))
  refine ae (aa ?_)
  exact aw (Sub.cons rfl (zz7 3 rfl))
 ·intro hF1
  refine zz6 hF1 (zz6 hF1 (zz0 (aF rfl hF1 rfl) ?_))
  refine ae (aa ?_)
  exact aw (Sub.cons rfl (zz7 3 rfl))
 refine zz0 (ad rfl) (ae (aa (ao ?_)))
 refine aI Tryz.results93 rfl (fun w' hw => ?_)
 exact ⟨rfl, hw.below (Bg.le.refl _)⟩
end Go.Proofs.YtpeaodkfbjenpaaGreat
