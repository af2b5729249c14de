/- Own rules and walks, part 4. -/
import Derived.Test.YtfnedefgepjbpaaB3
set_option linter.unusedSimpArgs false
set_option linter.unusedVariables false
set_option linter.unusedSectionVars false
namespace Go.Proofs.Ytfnedefgepjbpaa
open Go Go.HL Go.RowKit
set_option maxRecDepth 100000 in
set_option maxHeartbeats 2000000 in
theorem sized_any (c : Int) (w : World) :
    Calls Try.prog 69 #[.int .i64 c] w (fun e w' => e = .returned (.int .i64 (sizedP c)) ∧ Ext w w') := by
  refine enter Try.func69 rfl Try.ntmps69 rfl ?_
  refine Tr.seq ?_
  refine Tr.region ?_
  refine Tr.q (QS.assign rfl) rfl ?_
  refine Tr.nil ?_
  refine Tr.thenN ?_
  refine Tr.seq ?_
  refine Tr.block ?_
  refine Tr.seq ?_
  refine Tr.region ?_
  refine Tr.q (QS.move rfl) rfl ?_
  refine Tr.q (QS.leq rfl rfl) rfl ?_
  refine Tr.q (QS.move rfl) rfl ?_
  apply Tr.orP
  · exact (rfl : _ = (7, 6, 13))
  · exact rfl
  · intro hF1; have hF1' := hF1
    try simp only [bs] at hF1'
    refine Tr.gq rfl rfl hF1 (QS.move rfl) rfl ?_
    refine Tr.gq rfl rfl hF1 (QS.geq rfl rfl) rfl ?_
    refine Tr.gq rfl rfl hF1 (QS.move rfl) rfl ?_
    apply Tr.andP
    · exact (rfl : _ = (3, 9, 12))
    · exact rfl
    · intro hT2; have hT2' := hT2
      try simp only [bs] at hT2'
      refine Tr.gq rfl rfl hT2 (QS.move rfl) rfl ?_
      refine Tr.gq rfl rfl hT2 (QS.leq rfl rfl) rfl ?_
      refine Tr.gq rfl rfl hF1 (QS.pickT rfl hT2 rfl) rfl ?_
      refine Tr.nil (Tr.thenN ?_)
      exact Tr.endX (Sub.cons rfl (Sub.dropN 3 (by kernel_rfl) rfl))
    · intro hF2
      refine Tr.gskip rfl rfl hF2 rfl ?_
      refine Tr.gskip rfl rfl hF2 rfl ?_
      refine Tr.gq rfl rfl hF1 (QS.pickF rfl hF2 rfl) rfl ?_
      refine Tr.nil (Tr.thenN ?_)
      exact Tr.endX (Sub.cons rfl (Sub.dropN 3 (by kernel_rfl) rfl))
    refine Tr.q (QS.pickF rfl hF1 rfl) rfl ?_
    refine Tr.nil (Tr.thenN ?_)
    exact Tr.endX (Sub.cons rfl (Sub.dropN 5 (by kernel_rfl) rfl))
  · intro hT1
    refine Tr.gskip rfl rfl hT1 rfl ?_
    refine Tr.gskip rfl rfl hT1 rfl ?_
    refine Tr.gskip rfl rfl hT1 rfl ?_
    refine Tr.gskipU rfl rfl rfl ?_
    refine Tr.gskipU rfl rfl rfl ?_
    refine Tr.gskip rfl rfl hT1 rfl ?_
    refine Tr.q (QS.pickT rfl hT1 rfl) rfl ?_
    refine Tr.nil (Tr.thenN ?_)
    exact Tr.endX (Sub.cons rfl (Sub.dropN 7 (by kernel_rfl) rfl))
  refine Tr.q (QS.assign rfl) rfl ?_
  refine Tr.nil ?_
  refine Tr.thenN ?_
  refine Tr.cond rfl (fun h3 => ?_) (fun h3 => ?_)
  · try simp only [bs] at h3
    refine Tr.seq ?_
    refine Tr.region ?_
    refine Tr.q (QS.assign rfl) rfl ?_
    refine Tr.nil ?_
    refine Tr.thenN ?_
    refine Tr.ret ?_
    refine Tr.inR ?_
    refine Tr.thenR ?_
    refine Tr.ret1 Try.results69 rfl (fun w' hw => ?_)
    exact ⟨by clear hw; unfold sizedP; (repeat (first | rw [if_pos (by first | assumption | omega | grind)] | rw [if_neg (by first | assumption | omega | grind)])) <;> rfl, hw.below (Bg.le.refl _)⟩
  · try simp only [bs] at h3
    refine Tr.seq ?_
    refine Tr.region ?_
    refine Tr.q (QS.move rfl) rfl ?_
    refine Tr.q (QS.geq rfl rfl) rfl ?_
    refine Tr.q (QS.move rfl) rfl ?_
    apply Tr.andP
    · exact (rfl : _ = (3, 17, 20))
    · exact rfl
    · intro hT4; have hT4' := hT4
      try simp only [bs] at hT4'
      refine Tr.gq rfl rfl hT4 (QS.move rfl) rfl ?_
      refine Tr.gq rfl rfl hT4 (QS.leq rfl rfl) rfl ?_
      refine Tr.q (QS.pickT rfl hT4 rfl) rfl ?_
      refine Tr.nil (Tr.thenN ?_)
      exact Tr.endX (Sub.cons rfl (Sub.dropN 3 (by kernel_rfl) rfl))
    · intro hF4
      refine Tr.gskip rfl rfl hF4 rfl ?_
      refine Tr.gskip rfl rfl hF4 rfl ?_
      refine Tr.q (QS.pickF rfl hF4 rfl) rfl ?_
      refine Tr.nil (Tr.thenN ?_)
      exact Tr.endX (Sub.cons rfl (Sub.dropN 3 (by kernel_rfl) rfl))
    refine Tr.q (QS.move rfl) rfl ?_
    apply Tr.orP
    · exact (rfl : _ = (7, 21, 28))
    · exact rfl
    · intro hF5; have hF5' := hF5
      try simp only [bs] at hF5'
      refine Tr.gq rfl rfl hF5 (QS.move rfl) rfl ?_
      refine Tr.gq rfl rfl hF5 (QS.geq rfl rfl) rfl ?_
      refine Tr.gq rfl rfl hF5 (QS.move rfl) rfl ?_
      apply Tr.andP
      · exact (rfl : _ = (3, 24, 27))
      · exact rfl
      · intro hT6; have hT6' := hT6
        try simp only [bs] at hT6'
        refine Tr.gq rfl rfl hT6 (QS.move rfl) rfl ?_
        refine Tr.gq rfl rfl hT6 (QS.leq rfl rfl) rfl ?_
        refine Tr.gq rfl rfl hF5 (QS.pickT rfl hT6 rfl) rfl ?_
        refine Tr.nil (Tr.thenN ?_)
        exact Tr.endX (Sub.cons rfl (Sub.dropN 3 (by kernel_rfl) rfl))
      · intro hF6
        refine Tr.gskip rfl rfl hF6 rfl ?_
        refine Tr.gskip rfl rfl hF6 rfl ?_
        refine Tr.gq rfl rfl hF5 (QS.pickF rfl hF6 rfl) rfl ?_
        refine Tr.nil (Tr.thenN ?_)
        exact Tr.endX (Sub.cons rfl (Sub.dropN 3 (by kernel_rfl) rfl))
      refine Tr.q (QS.pickF rfl hF5 rfl) rfl ?_
      refine Tr.nil (Tr.thenN ?_)
      exact Tr.endX (Sub.cons rfl (Sub.dropN 5 (by kernel_rfl) rfl))
    · intro hT5
      refine Tr.gskip rfl rfl hT5 rfl ?_
      refine Tr.gskip rfl rfl hT5 rfl ?_
      refine Tr.gskip rfl rfl hT5 rfl ?_
      refine Tr.gskipU rfl rfl rfl ?_
      refine Tr.gskipU rfl rfl rfl ?_
      refine Tr.gskip rfl rfl hT5 rfl ?_
      refine Tr.q (QS.pickT rfl hT5 rfl) rfl ?_
      refine Tr.nil (Tr.thenN ?_)
      exact Tr.endX (Sub.cons rfl (Sub.dropN 7 (by kernel_rfl) rfl))
    refine Tr.q (QS.move rfl) rfl ?_
    apply Tr.orP
    · exact (rfl : _ = (3, 29, 32))
    · exact rfl
    · intro hF7; have hF7' := hF7
      try simp only [bs] at hF7'
      refine Tr.gq rfl rfl hF7 (QS.move rfl) rfl ?_
      refine Tr.gq rfl rfl hF7 (QS.eql rfl rfl) rfl ?_
      refine Tr.q (QS.pickF rfl hF7 rfl) rfl ?_
      refine Tr.nil (Tr.thenN ?_)
      exact Tr.endX (Sub.cons rfl (Sub.dropN 3 (by kernel_rfl) rfl))
    · intro hT7
      refine Tr.gskip rfl rfl hT7 rfl ?_
      refine Tr.gskip rfl rfl hT7 rfl ?_
      refine Tr.q (QS.pickT rfl hT7 rfl) rfl ?_
      refine Tr.nil (Tr.thenN ?_)
      exact Tr.endX (Sub.cons rfl (Sub.dropN 3 (by kernel_rfl) rfl))
    refine Tr.q (QS.move rfl) rfl ?_
    apply Tr.orP
    · exact (rfl : _ = (3, 33, 36))
    · exact rfl
    · intro hF8; have hF8' := hF8
      try simp only [bs] at hF8'
      refine Tr.gq rfl rfl hF8 (QS.move rfl) rfl ?_
      refine Tr.gq rfl rfl hF8 (QS.eql rfl rfl) rfl ?_
      refine Tr.q (QS.pickF rfl hF8 rfl) rfl ?_
      refine Tr.nil (Tr.thenN ?_)
      exact Tr.endX (Sub.cons rfl (Sub.dropN 3 (by kernel_rfl) rfl))
    · intro hT8
      refine Tr.gskip rfl rfl hT8 rfl ?_
      refine Tr.gskip rfl rfl hT8 rfl ?_
      refine Tr.q (QS.pickT rfl hT8 rfl) rfl ?_
      refine Tr.nil (Tr.thenN ?_)
      exact Tr.endX (Sub.cons rfl (Sub.dropN 3 (by kernel_rfl) rfl))
    refine Tr.q (QS.move rfl) rfl ?_
    apply Tr.orP
    · exact (rfl : _ = (7, 37, 44))
    · exact rfl
    · intro hF9; have hF9' := hF9
      try simp only [bs] at hF9'
      refine Tr.gq rfl rfl hF9 (QS.move rfl) rfl ?_
      refine Tr.gq rfl rfl hF9 (QS.geq rfl rfl) rfl ?_
      refine Tr.gq rfl rfl hF9 (QS.move rfl) rfl ?_
      apply Tr.andP
      · exact (rfl : _ = (3, 40, 43))
      · exact rfl
      · intro hT10; have hT10' := hT10
        try simp only [bs] at hT10'
        refine Tr.gq rfl rfl hT10 (QS.move rfl) rfl ?_
        refine Tr.gq rfl rfl hT10 (QS.leq rfl rfl) rfl ?_
        refine Tr.gq rfl rfl hF9 (QS.pickT rfl hT10 rfl) rfl ?_
        refine Tr.nil (Tr.thenN ?_)
        exact Tr.endX (Sub.cons rfl (Sub.dropN 3 (by kernel_rfl) rfl))
      · intro hF10
        refine Tr.gskip rfl rfl hF10 rfl ?_
        refine Tr.gskip rfl rfl hF10 rfl ?_
        refine Tr.gq rfl rfl hF9 (QS.pickF rfl hF10 rfl) rfl ?_
        refine Tr.nil (Tr.thenN ?_)
        exact Tr.endX (Sub.cons rfl (Sub.dropN 3 (by kernel_rfl) rfl))
      refine Tr.q (QS.pickF rfl hF9 rfl) rfl ?_
      refine Tr.nil (Tr.thenN ?_)
      exact Tr.endX (Sub.cons rfl (Sub.dropN 5 (by kernel_rfl) rfl))
    · intro hT9
      refine Tr.gskip rfl rfl hT9 rfl ?_
      refine Tr.gskip rfl rfl hT9 rfl ?_
      refine Tr.gskip rfl rfl hT9 rfl ?_
      refine Tr.gskipU rfl rfl rfl ?_
      refine Tr.gskipU rfl rfl rfl ?_
      refine Tr.gskip rfl rfl hT9 rfl ?_
      refine Tr.q (QS.pickT rfl hT9 rfl) rfl ?_
      refine Tr.nil (Tr.thenN ?_)
      exact Tr.endX (Sub.cons rfl (Sub.dropN 7 (by kernel_rfl) rfl))
    refine Tr.q (QS.move rfl) rfl ?_
    apply Tr.orP
    · exact (rfl : _ = (3, 45, 48))
    · exact rfl
    · intro hF11; have hF11' := hF11
      try simp only [bs] at hF11'
      refine Tr.gq rfl rfl hF11 (QS.move rfl) rfl ?_
      refine Tr.gq rfl rfl hF11 (QS.eql rfl rfl) rfl ?_
      refine Tr.q (QS.pickF rfl hF11 rfl) rfl ?_
      refine Tr.nil (Tr.thenN ?_)
      exact Tr.endX (Sub.cons rfl (Sub.dropN 3 (by kernel_rfl) rfl))
    · intro hT11
      refine Tr.gskip rfl rfl hT11 rfl ?_
      refine Tr.gskip rfl rfl hT11 rfl ?_
      refine Tr.q (QS.pickT rfl hT11 rfl) rfl ?_
      refine Tr.nil (Tr.thenN ?_)
      exact Tr.endX (Sub.cons rfl (Sub.dropN 3 (by kernel_rfl) rfl))
    refine Tr.q (QS.move rfl) rfl ?_
    apply Tr.orP
    · exact (rfl : _ = (3, 49, 52))
    · exact rfl
    · intro hF12; have hF12' := hF12
      try simp only [bs] at hF12'
      refine Tr.gq rfl rfl hF12 (QS.move rfl) rfl ?_
      refine Tr.gq rfl rfl hF12 (QS.eql rfl rfl) rfl ?_
      refine Tr.q (QS.pickF rfl hF12 rfl) rfl ?_
      refine Tr.nil (Tr.thenN ?_)
      exact Tr.endX (Sub.cons rfl (Sub.dropN 3 (by kernel_rfl) rfl))
    · intro hT12
      refine Tr.gskip rfl rfl hT12 rfl ?_
      refine Tr.gskip rfl rfl hT12 rfl ?_
      refine Tr.q (QS.pickT rfl hT12 rfl) rfl ?_
      refine Tr.nil (Tr.thenN ?_)
      exact Tr.endX (Sub.cons rfl (Sub.dropN 3 (by kernel_rfl) rfl))
    refine Tr.q (QS.assign rfl) rfl ?_
    refine Tr.nil ?_
    refine Tr.thenN ?_
    refine Tr.cond rfl (fun h13 => ?_) (fun h13 => ?_)
    · try simp only [bs] at h13
      refine Tr.seq ?_
      refine Tr.region ?_
      refine Tr.q (QS.assign rfl) rfl ?_
      refine Tr.nil ?_
      refine Tr.thenN ?_
      refine Tr.ret ?_
      refine Tr.inR ?_
      refine Tr.thenR ?_
      refine Tr.ret1 Try.results69 rfl (fun w' hw => ?_)
      exact ⟨by clear hw; unfold sizedP; (repeat (first | rw [if_pos (by first | assumption | omega | grind)] | rw [if_neg (by first | assumption | omega | grind)])) <;> rfl, hw.below (Bg.le.refl _)⟩
    · try simp only [bs] at h13
      refine Tr.seq ?_
      refine Tr.region ?_
      refine Tr.q (QS.move rfl) rfl ?_
      refine Tr.q (QS.geq rfl rfl) rfl ?_
      refine Tr.q (QS.move rfl) rfl ?_
      apply Tr.andP
      · exact (rfl : _ = (3, 56, 59))
      · exact rfl
      · intro hT14; have hT14' := hT14
        try simp only [bs] at hT14'
        refine Tr.gq rfl rfl hT14 (QS.move rfl) rfl ?_
        refine Tr.gq rfl rfl hT14 (QS.leq rfl rfl) rfl ?_
        refine Tr.q (QS.pickT rfl hT14 rfl) rfl ?_
        refine Tr.nil (Tr.thenN ?_)
        exact Tr.endX (Sub.cons rfl (Sub.dropN 3 (by kernel_rfl) rfl))
      · intro hF14
        refine Tr.gskip rfl rfl hF14 rfl ?_
        refine Tr.gskip rfl rfl hF14 rfl ?_
        refine Tr.q (QS.pickF rfl hF14 rfl) rfl ?_
        refine Tr.nil (Tr.thenN ?_)
        exact Tr.endX (Sub.cons rfl (Sub.dropN 3 (by kernel_rfl) rfl))
      refine Tr.q (QS.move rfl) rfl ?_
      apply Tr.orP
      · exact (rfl : _ = (7, 60, 67))
      · exact rfl
      · intro hF15; have hF15' := hF15
        try simp only [bs] at hF15'
        refine Tr.gq rfl rfl hF15 (QS.move rfl) rfl ?_
        refine Tr.gq rfl rfl hF15 (QS.geq rfl rfl) rfl ?_
        refine Tr.gq rfl rfl hF15 (QS.move rfl) rfl ?_
        apply Tr.andP
        · exact (rfl : _ = (3, 63, 66))
        · exact rfl
        · intro hT16; have hT16' := hT16
          try simp only [bs] at hT16'
          refine Tr.gq rfl rfl hT16 (QS.move rfl) rfl ?_
          refine Tr.gq rfl rfl hT16 (QS.leq rfl rfl) rfl ?_
          refine Tr.gq rfl rfl hF15 (QS.pickT rfl hT16 rfl) rfl ?_
          refine Tr.nil (Tr.thenN ?_)
          exact Tr.endX (Sub.cons rfl (Sub.dropN 3 (by kernel_rfl) rfl))
        · intro hF16
          refine Tr.gskip rfl rfl hF16 rfl ?_
          refine Tr.gskip rfl rfl hF16 rfl ?_
          refine Tr.gq rfl rfl hF15 (QS.pickF rfl hF16 rfl) rfl ?_
          refine Tr.nil (Tr.thenN ?_)
          exact Tr.endX (Sub.cons rfl (Sub.dropN 3 (by kernel_rfl) rfl))
        refine Tr.q (QS.pickF rfl hF15 rfl) rfl ?_
        refine Tr.nil (Tr.thenN ?_)
        exact Tr.endX (Sub.cons rfl (Sub.dropN 5 (by kernel_rfl) rfl))
      · intro hT15
        refine Tr.gskip rfl rfl hT15 rfl ?_
        refine Tr.gskip rfl rfl hT15 rfl ?_
        refine Tr.gskip rfl rfl hT15 rfl ?_
        refine Tr.gskipU rfl rfl rfl ?_
        refine Tr.gskipU rfl rfl rfl ?_
        refine Tr.gskip rfl rfl hT15 rfl ?_
        refine Tr.q (QS.pickT rfl hT15 rfl) rfl ?_
        refine Tr.nil (Tr.thenN ?_)
        exact Tr.endX (Sub.cons rfl (Sub.dropN 7 (by kernel_rfl) rfl))
      refine Tr.q (QS.move rfl) rfl ?_
      apply Tr.orP
      · exact (rfl : _ = (3, 68, 71))
      · exact rfl
      · intro hF17; have hF17' := hF17
        try simp only [bs] at hF17'
        refine Tr.gq rfl rfl hF17 (QS.move rfl) rfl ?_
        refine Tr.gq rfl rfl hF17 (QS.eql rfl rfl) rfl ?_
        refine Tr.q (QS.pickF rfl hF17 rfl) rfl ?_
        refine Tr.nil (Tr.thenN ?_)
        exact Tr.endX (Sub.cons rfl (Sub.dropN 3 (by kernel_rfl) rfl))
      · intro hT17
        refine Tr.gskip rfl rfl hT17 rfl ?_
        refine Tr.gskip rfl rfl hT17 rfl ?_
        refine Tr.q (QS.pickT rfl hT17 rfl) rfl ?_
        refine Tr.nil (Tr.thenN ?_)
        exact Tr.endX (Sub.cons rfl (Sub.dropN 3 (by kernel_rfl) rfl))
      refine Tr.q (QS.assign rfl) rfl ?_
      refine Tr.nil ?_
      refine Tr.thenN ?_
      refine Tr.cond rfl (fun h18 => ?_) (fun h18 => ?_)
      · try simp only [bs] at h18
        refine Tr.seq ?_
        refine Tr.region ?_
        refine Tr.q (QS.assign rfl) rfl ?_
        refine Tr.nil ?_
        refine Tr.thenN ?_
        refine Tr.ret ?_
        refine Tr.inR ?_
        refine Tr.thenR ?_
        refine Tr.ret1 Try.results69 rfl (fun w' hw => ?_)
        exact ⟨by clear hw; unfold sizedP; (repeat (first | rw [if_pos (by first | assumption | omega | grind)] | rw [if_neg (by first | assumption | omega | grind)])) <;> rfl, hw.below (Bg.le.refl _)⟩
      · try simp only [bs] at h18
        refine Tr.seq ?_
        refine Tr.region ?_
        refine Tr.q (QS.move rfl) rfl ?_
        refine Tr.q (QS.geq rfl rfl) rfl ?_
        refine Tr.q (QS.move rfl) rfl ?_
        apply Tr.andP
        · exact (rfl : _ = (3, 75, 78))
        · exact rfl
        · intro hT19; have hT19' := hT19
          try simp only [bs] at hT19'
          refine Tr.gq rfl rfl hT19 (QS.move rfl) rfl ?_
          refine Tr.gq rfl rfl hT19 (QS.leq rfl rfl) rfl ?_
          refine Tr.q (QS.pickT rfl hT19 rfl) rfl ?_
          refine Tr.nil (Tr.thenN ?_)
          exact Tr.endX (Sub.cons rfl (Sub.dropN 3 (by kernel_rfl) rfl))
        · intro hF19
          refine Tr.gskip rfl rfl hF19 rfl ?_
          refine Tr.gskip rfl rfl hF19 rfl ?_
          refine Tr.q (QS.pickF rfl hF19 rfl) rfl ?_
          refine Tr.nil (Tr.thenN ?_)
          exact Tr.endX (Sub.cons rfl (Sub.dropN 3 (by kernel_rfl) rfl))
        refine Tr.q (QS.move rfl) rfl ?_
        apply Tr.orP
        · exact (rfl : _ = (3, 79, 82))
        · exact rfl
        · intro hF20; have hF20' := hF20
          try simp only [bs] at hF20'
          refine Tr.gq rfl rfl hF20 (QS.move rfl) rfl ?_
          refine Tr.gq rfl rfl hF20 (QS.eql rfl rfl) rfl ?_
          refine Tr.q (QS.pickF rfl hF20 rfl) rfl ?_
          refine Tr.nil (Tr.thenN ?_)
          exact Tr.endX (Sub.cons rfl (Sub.dropN 3 (by kernel_rfl) rfl))
        · intro hT20
          refine Tr.gskip rfl rfl hT20 rfl ?_
          refine Tr.gskip rfl rfl hT20 rfl ?_
          refine Tr.q (QS.pickT rfl hT20 rfl) rfl ?_
          refine Tr.nil (Tr.thenN ?_)
          exact Tr.endX (Sub.cons rfl (Sub.dropN 3 (by kernel_rfl) rfl))
        refine Tr.q (QS.assign rfl) rfl ?_
        refine Tr.nil ?_
        refine Tr.thenN ?_
        refine Tr.cond rfl (fun h21 => ?_) (fun h21 => ?_)
        · try simp only [bs] at h21
          refine Tr.seq ?_
          refine Tr.region ?_
          refine Tr.q (QS.assign rfl) rfl ?_
          refine Tr.nil ?_
          refine Tr.thenN ?_
          refine Tr.ret ?_
          refine Tr.inR ?_
          refine Tr.thenR ?_
          refine Tr.ret1 Try.results69 rfl (fun w' hw => ?_)
          exact ⟨by clear hw; unfold sizedP; (repeat (first | rw [if_pos (by first | assumption | omega | grind)] | rw [if_neg (by first | assumption | omega | grind)])) <;> rfl, hw.below (Bg.le.refl _)⟩
        · try simp only [bs] at h21
          refine Tr.seq ?_
          refine Tr.region ?_
          refine Tr.q (QS.move rfl) rfl ?_
          refine Tr.q (QS.geq rfl rfl) rfl ?_
          refine Tr.q (QS.move rfl) rfl ?_
          apply Tr.andP
          · exact (rfl : _ = (3, 86, 89))
          · exact rfl
          · intro hT22; have hT22' := hT22
            try simp only [bs] at hT22'
            refine Tr.gq rfl rfl hT22 (QS.move rfl) rfl ?_
            refine Tr.gq rfl rfl hT22 (QS.leq rfl rfl) rfl ?_
            refine Tr.q (QS.pickT rfl hT22 rfl) rfl ?_
            refine Tr.nil (Tr.thenN ?_)
            exact Tr.endX (Sub.cons rfl (Sub.dropN 3 (by kernel_rfl) rfl))
          · intro hF22
            refine Tr.gskip rfl rfl hF22 rfl ?_
            refine Tr.gskip rfl rfl hF22 rfl ?_
            refine Tr.q (QS.pickF rfl hF22 rfl) rfl ?_
            refine Tr.nil (Tr.thenN ?_)
            exact Tr.endX (Sub.cons rfl (Sub.dropN 3 (by kernel_rfl) rfl))
          refine Tr.q (QS.move rfl) rfl ?_
          apply Tr.orP
          · exact (rfl : _ = (3, 90, 93))
          · exact rfl
          · intro hF23; have hF23' := hF23
            try simp only [bs] at hF23'
            refine Tr.gq rfl rfl hF23 (QS.move rfl) rfl ?_
            refine Tr.gq rfl rfl hF23 (QS.eql rfl rfl) rfl ?_
            refine Tr.q (QS.pickF rfl hF23 rfl) rfl ?_
            refine Tr.nil (Tr.thenN ?_)
            exact Tr.endX (Sub.cons rfl (Sub.dropN 3 (by kernel_rfl) rfl))
          · intro hT23
            refine Tr.gskip rfl rfl hT23 rfl ?_
            refine Tr.gskip rfl rfl hT23 rfl ?_
            refine Tr.q (QS.pickT rfl hT23 rfl) rfl ?_
            refine Tr.nil (Tr.thenN ?_)
            exact Tr.endX (Sub.cons rfl (Sub.dropN 3 (by kernel_rfl) rfl))
          refine Tr.q (QS.assign rfl) rfl ?_
          refine Tr.nil ?_
          refine Tr.thenN ?_
          refine Tr.cond rfl (fun h24 => ?_) (fun h24 => ?_)
          · try simp only [bs] at h24
            refine Tr.seq ?_
            refine Tr.region ?_
            refine Tr.q (QS.assign rfl) rfl ?_
            refine Tr.nil ?_
            refine Tr.thenN ?_
            refine Tr.ret ?_
            refine Tr.inR ?_
            refine Tr.thenR ?_
            refine Tr.ret1 Try.results69 rfl (fun w' hw => ?_)
            exact ⟨by clear hw; unfold sizedP; (repeat (first | rw [if_pos (by first | assumption | omega | grind)] | rw [if_neg (by first | assumption | omega | grind)])) <;> rfl, hw.below (Bg.le.refl _)⟩
          · try simp only [bs] at h24
            refine Tr.skip ?_
            refine Tr.inN ?_
            refine Tr.thenN ?_
            refine Tr.seq ?_
            refine Tr.region ?_
            refine Tr.q (QS.assign rfl) rfl ?_
            refine Tr.nil ?_
            refine Tr.thenN ?_
            refine Tr.ret ?_
            refine Tr.ret1 Try.results69 rfl (fun w' hw => ?_)
            exact ⟨by clear hw; unfold sizedP; (repeat (first | rw [if_pos (by first | assumption | omega | grind)] | rw [if_neg (by first | assumption | omega | grind)])) <;> rfl, hw.below (Bg.le.refl _)⟩
set_option maxRecDepth 100000 in
set_option maxHeartbeats 2000000 in
theorem signed_any (c : UInt8) (w : World) :
    Calls Try.prog 92 #[.int .u8 c.toNat] w (fun e w' => e = .returned (.int .u32 (sextP c).toNat) ∧ Ext w w') := by
  refine enter Try.func92 rfl Try.ntmps92 rfl ?_
  refine Tr.seq ?_
  refine Tr.region ?_
  refine Tr.q (QS.assign rfl) rfl ?_
  refine Tr.nil ?_
  refine Tr.thenN ?_
  refine Tr.seq ?_
  refine Tr.seq ?_
  refine Tr.region ?_
  refine Tr.q (QS.move rfl) rfl ?_
  refine Tr.q (QS.lss8 (n := 128) rfl rfl) rfl ?_
  refine Tr.nil ?_
  refine Tr.thenN ?_
  refine Tr.cond rfl (fun h1 => ?_) (fun h1 => ?_)
  · try simp only [bs] at h1
    refine Tr.seq ?_
    refine Tr.region ?_
    refine Tr.q (QS.move rfl) rfl ?_
    refine Tr.q (QS.cvt8to32 rfl Try.underlying5 Try.underlying23) rfl ?_
    refine Tr.q (QS.assign rfl) rfl ?_
    refine Tr.nil ?_
    refine Tr.thenN ?_
    refine Tr.ret ?_
    refine Tr.thenR ?_
    refine Tr.ret1 Try.results92 rfl (fun w' hw => ?_)
    exact ⟨by clear hw; unfold sextP; (repeat (first | rw [if_pos (by first | assumption | omega | grind)] | rw [if_neg (by first | assumption | omega | grind)])) <;> rfl, hw.below (Bg.le.refl _)⟩
  · try simp only [bs] at h1
    refine Tr.skip ?_
    refine Tr.thenN ?_
    refine Tr.seq ?_
    refine Tr.region ?_
    refine Tr.q (QS.move rfl) rfl ?_
    refine Tr.q (QS.cvt8to32 rfl Try.underlying5 Try.underlying23) rfl ?_
    refine Tr.q (QS.add32 (n := 4294967040) rfl rfl) rfl ?_
    refine Tr.q (QS.assign rfl) rfl ?_
    refine Tr.nil ?_
    refine Tr.thenN ?_
    refine Tr.ret ?_
    refine Tr.ret1 Try.results92 rfl (fun w' hw => ?_)
    exact ⟨by clear hw; unfold sextP; (repeat (first | rw [if_pos (by first | assumption | omega | grind)] | rw [if_neg (by first | assumption | omega | grind)])) <;> rfl, hw.below (Bg.le.refl _)⟩
set_option maxRecDepth 100000 in
set_option maxHeartbeats 2000000 in
theorem refLong_any (l : List UInt8) (V : Value) (w : World) (hV : Sl (hp w) encU8 l V) (hl : 4 ≤ l.length) :
    Calls Try.prog 93 #[V] w (fun e w' => e = .returned (.int .u32 (longP l 0).toNat) ∧ Ext w w') := by
  have hV' : Sl (Bg.of w).blk encU8 l V := hV
  have hlen := hV.len_le
  refine enter Try.func93 rfl Try.ntmps93 rfl ?_
  refine Tr.seq ?_
  refine Tr.region ?_
  refine Tr.q (QS.assign rfl) rfl ?_
  refine Tr.nil ?_
  refine Tr.thenN ?_
  refine Tr.seq ?_
  refine Tr.regionQ HLF.mixed (by kernel_rfl) ?_
  refine TrQ.q (QS.move rfl) rfl ?_
  refine TrQ.q (QS.idx rfl rfl (by assumption) Try.underlying54 Try.sizeOf5 (by rfl) (by omega)) rfl ?_
  refine TrQ.q (QS.el1 rfl (by assumption) Try.isAgg5 (by omega) (by rfl)) rfl ?_
  refine TrQ.q (QS.cvt8to32 rfl Try.underlying5 Try.underlying23) rfl ?_
  refine TrQ.q (QS.move rfl) rfl ?_
  refine TrQ.q (QS.idx rfl rfl (by assumption) Try.underlying54 Try.sizeOf5 (by rfl) (by omega)) rfl ?_
  refine TrQ.q (QS.el1 rfl (by assumption) Try.isAgg5 (by omega) (by rfl)) rfl ?_
  refine TrQ.q (QS.cvt8to32 rfl Try.underlying5 Try.underlying23) rfl ?_
  refine TrQ.q (QS.mul32 (m := 256) rfl rfl) rfl ?_
  refine TrQ.q (QS.add32 rfl rfl) rfl ?_
  refine TrQ.q (QS.move rfl) rfl ?_
  refine TrQ.q (QS.idx rfl rfl (by assumption) Try.underlying54 Try.sizeOf5 (by rfl) (by omega)) rfl ?_
  refine TrQ.q (QS.el1 rfl (by assumption) Try.isAgg5 (by omega) (by rfl)) rfl ?_
  refine TrQ.q (QS.cvt8to32 rfl Try.underlying5 Try.underlying23) rfl ?_
  refine TrQ.q (QS.mul32 (m := 65536) rfl rfl) rfl ?_
  refine TrQ.q (QS.add32 rfl rfl) rfl ?_
  refine TrQ.q (QS.move rfl) rfl ?_
  refine TrQ.q (QS.idx rfl rfl (by assumption) Try.underlying54 Try.sizeOf5 (by rfl) (by omega)) rfl ?_
  refine TrQ.q (QS.el1 rfl (by assumption) Try.isAgg5 (by omega) (by rfl)) rfl ?_
  refine TrQ.q (QS.cvt8to32 rfl Try.underlying5 Try.underlying23) rfl ?_
  refine TrQ.q (QS.mul32 (m := 16777216) rfl rfl) rfl ?_
  refine TrQ.q (QS.add32 rfl rfl) rfl ?_
  refine TrQ.q (QS.assign rfl) rfl ?_
  refine TrQ.nil ?_
  refine Tr.thenN ?_
  refine Tr.ret ?_
  refine Tr.ret1 Try.results93 rfl (fun w' hw => ?_)
  exact ⟨rfl, hw.below (Bg.le.refl _)⟩
set_option maxRecDepth 100000 in
set_option maxHeartbeats 2000000 in
theorem refAccess_any (c : Int) (w : World) :
    Calls Try.prog 112 #[.int .i64 c] w (fun e w' => e = .returned (.tuple #[.int .i64 (refAccP c).1, .int .i64 (refAccP c).2]) ∧ Ext w w') := by
  refine enter Try.func112 rfl Try.ntmps112 rfl ?_
  refine Tr.seq ?_
  refine Tr.region ?_
  refine Tr.q (QS.assign rfl) rfl ?_
  refine Tr.q (QS.assign rfl) rfl ?_
  refine Tr.nil ?_
  refine Tr.thenN ?_
  refine Tr.seq ?_
  refine Tr.seq ?_
  refine Tr.region ?_
  refine Tr.q (QS.move rfl) rfl ?_
  refine Tr.nil ?_
  refine Tr.thenN ?_
  refine Tr.block ?_
  refine Tr.seq ?_
  refine Tr.region ?_
  refine Tr.q (QS.eql rfl rfl) rfl ?_
  refine Tr.q (QS.assign rfl) rfl ?_
  refine Tr.nil ?_
  refine Tr.thenN ?_
  refine Tr.cond rfl (fun h1 => ?_) (fun h1 => ?_)
  · try simp only [bs] at h1
    refine Tr.seq ?_
    refine Tr.region ?_
    refine Tr.q (QS.assign rfl) rfl ?_
    refine Tr.q (QS.assign rfl) rfl ?_
    refine Tr.nil ?_
    refine Tr.thenN ?_
    refine Tr.ret ?_
    refine Tr.inR ?_
    refine Tr.thenR ?_
    refine Tr.ret2 Try.results112 rfl rfl (fun w' hw => ?_)
    exact ⟨by clear hw; unfold refAccP; (repeat (first | rw [if_pos (by first | assumption | omega | grind)] | rw [if_neg (by first | assumption | omega | grind)])) <;> rfl, hw.below (Bg.le.refl _)⟩
  · try simp only [bs] at h1
    refine Tr.seq ?_
    refine Tr.region ?_
    refine Tr.q (QS.eql rfl rfl) rfl ?_
    refine Tr.q (QS.assign rfl) rfl ?_
    refine Tr.nil ?_
    refine Tr.thenN ?_
    refine Tr.cond rfl (fun h2 => ?_) (fun h2 => ?_)
    · try simp only [bs] at h2
      refine Tr.seq ?_
      refine Tr.region ?_
      refine Tr.q (QS.assign rfl) rfl ?_
      refine Tr.q (QS.assign rfl) rfl ?_
      refine Tr.nil ?_
      refine Tr.thenN ?_
      refine Tr.ret ?_
      refine Tr.inR ?_
      refine Tr.thenR ?_
      refine Tr.ret2 Try.results112 rfl rfl (fun w' hw => ?_)
      exact ⟨by clear hw; unfold refAccP; (repeat (first | rw [if_pos (by first | assumption | omega | grind)] | rw [if_neg (by first | assumption | omega | grind)])) <;> rfl, hw.below (Bg.le.refl _)⟩
    · try simp only [bs] at h2
      refine Tr.seq ?_
      refine Tr.region ?_
      refine Tr.q (QS.eql rfl rfl) rfl ?_
      refine Tr.q (QS.assign rfl) rfl ?_
      refine Tr.nil ?_
      refine Tr.thenN ?_
      refine Tr.cond rfl (fun h3 => ?_) (fun h3 => ?_)
      · try simp only [bs] at h3
        refine Tr.seq ?_
        refine Tr.region ?_
        refine Tr.q (QS.assign rfl) rfl ?_
        refine Tr.q (QS.assign rfl) rfl ?_
        refine Tr.nil ?_
        refine Tr.thenN ?_
        refine Tr.ret ?_
        refine Tr.inR ?_
        refine Tr.thenR ?_
        refine Tr.ret2 Try.results112 rfl rfl (fun w' hw => ?_)
        exact ⟨by clear hw; unfold refAccP; (repeat (first | rw [if_pos (by first | assumption | omega | grind)] | rw [if_neg (by first | assumption | omega | grind)])) <;> rfl, hw.below (Bg.le.refl _)⟩
      · try simp only [bs] at h3
        refine Tr.seq ?_
        refine Tr.region ?_
        refine Tr.q (QS.eql rfl rfl) rfl ?_
        refine Tr.q (QS.assign rfl) rfl ?_
        refine Tr.nil ?_
        refine Tr.thenN ?_
        refine Tr.cond rfl (fun h4 => ?_) (fun h4 => ?_)
        · try simp only [bs] at h4
          refine Tr.seq ?_
          refine Tr.region ?_
          refine Tr.q (QS.assign rfl) rfl ?_
          refine Tr.q (QS.assign rfl) rfl ?_
          refine Tr.nil ?_
          refine Tr.thenN ?_
          refine Tr.ret ?_
          refine Tr.inR ?_
          refine Tr.thenR ?_
          refine Tr.ret2 Try.results112 rfl rfl (fun w' hw => ?_)
          exact ⟨by clear hw; unfold refAccP; (repeat (first | rw [if_pos (by first | assumption | omega | grind)] | rw [if_neg (by first | assumption | omega | grind)])) <;> rfl, hw.below (Bg.le.refl _)⟩
        · try simp only [bs] at h4
          refine Tr.seq ?_
          refine Tr.region ?_
          refine Tr.q (QS.eql rfl rfl) rfl ?_
          refine Tr.q (QS.assign rfl) rfl ?_
          refine Tr.nil ?_
          refine Tr.thenN ?_
          refine Tr.cond rfl (fun h5 => ?_) (fun h5 => ?_)
          · try simp only [bs] at h5
            refine Tr.seq ?_
            refine Tr.region ?_
            refine Tr.q (QS.assign rfl) rfl ?_
            refine Tr.q (QS.assign rfl) rfl ?_
            refine Tr.nil ?_
            refine Tr.thenN ?_
            refine Tr.ret ?_
            refine Tr.inR ?_
            refine Tr.thenR ?_
            refine Tr.ret2 Try.results112 rfl rfl (fun w' hw => ?_)
            exact ⟨by clear hw; unfold refAccP; (repeat (first | rw [if_pos (by first | assumption | omega | grind)] | rw [if_neg (by first | assumption | omega | grind)])) <;> rfl, hw.below (Bg.le.refl _)⟩
          · try simp only [bs] at h5
            refine Tr.seq ?_
            refine Tr.region ?_
            refine Tr.q (QS.eql rfl rfl) rfl ?_
            refine Tr.q (QS.assign rfl) rfl ?_
            refine Tr.nil ?_
            refine Tr.thenN ?_
            refine Tr.cond rfl (fun h6 => ?_) (fun h6 => ?_)
            · try simp only [bs] at h6
              refine Tr.seq ?_
              refine Tr.region ?_
              refine Tr.q (QS.assign rfl) rfl ?_
              refine Tr.q (QS.assign rfl) rfl ?_
              refine Tr.nil ?_
              refine Tr.thenN ?_
              refine Tr.ret ?_
              refine Tr.inR ?_
              refine Tr.thenR ?_
              refine Tr.ret2 Try.results112 rfl rfl (fun w' hw => ?_)
              exact ⟨by clear hw; unfold refAccP; (repeat (first | rw [if_pos (by first | assumption | omega | grind)] | rw [if_neg (by first | assumption | omega | grind)])) <;> rfl, hw.below (Bg.le.refl _)⟩
            · try simp only [bs] at h6
              refine Tr.seq ?_
              refine Tr.region ?_
              refine Tr.q (QS.eql rfl rfl) rfl ?_
              refine Tr.q (QS.assign rfl) rfl ?_
              refine Tr.nil ?_
              refine Tr.thenN ?_
              refine Tr.cond rfl (fun h7 => ?_) (fun h7 => ?_)
              · try simp only [bs] at h7
                refine Tr.seq ?_
                refine Tr.region ?_
                refine Tr.q (QS.assign rfl) rfl ?_
                refine Tr.q (QS.assign rfl) rfl ?_
                refine Tr.nil ?_
                refine Tr.thenN ?_
                refine Tr.ret ?_
                refine Tr.inR ?_
                refine Tr.thenR ?_
                refine Tr.ret2 Try.results112 rfl rfl (fun w' hw => ?_)
                exact ⟨by clear hw; unfold refAccP; (repeat (first | rw [if_pos (by first | assumption | omega | grind)] | rw [if_neg (by first | assumption | omega | grind)])) <;> rfl, hw.below (Bg.le.refl _)⟩
              · try simp only [bs] at h7
                refine Tr.skip ?_
                refine Tr.inN ?_
                refine Tr.thenN ?_
                refine Tr.seq ?_
                refine Tr.region ?_
                refine Tr.q (QS.assign rfl) rfl ?_
                refine Tr.q (QS.assign rfl) rfl ?_
                refine Tr.nil ?_
                refine Tr.thenN ?_
                refine Tr.ret ?_
                refine Tr.ret2 Try.results112 rfl rfl (fun w' hw => ?_)
                exact ⟨by clear hw; unfold refAccP; (repeat (first | rw [if_pos (by first | assumption | omega | grind)] | rw [if_neg (by first | assumption | omega | grind)])) <;> rfl, hw.below (Bg.le.refl _)⟩
set_option maxRecDepth 100000 in
set_option maxHeartbeats 2000000 in
theorem memoryOr_any (c : Int) (b : List UInt8) (V : Value) (addr : UInt32) (sz : Int) (w : World) (hV : Sl (hp w) encU8 b V) (hb : (b.length : Int) = sizedP c) (hc : 0 ≤ c ∧ c ≤ 255) (hz : sizedP c ≠ 0) (hn : ¬ (32 ≤ c ∧ c ≤ 42 ∨ 48 ≤ c ∧ c ≤ 58 ∨ 64 ≤ c ∧ c ≤ 74)) :
    Calls Try.prog 94 #[.int .i64 c, V, .agg (encIns.enc ⟨addr, 0, 0, 0, 0, 0, 0, 0, sz⟩).toArray] w (fun e w' => e = .returned (.agg (encIns.enc (refBodyP c b ⟨addr, 0, 0, 0, 0, 0, 0, 0, sz⟩)).toArray) ∧ Ext w w') := by
  have hV' : Sl (Bg.of w).blk encU8 b V := hV
  have hlen := hV.len_le
  have hsp := sizedP_spec (c := c)
  have hsz := sizedP_ne hz
  refine enter Try.func94 rfl Try.ntmps94 rfl ?_
  refine Tr.seq ?_
  refine Tr.region ?_
  refine Tr.box rfl rfl rfl (fun b1 => ?_)
  refine Tr.alloc Try.zeroValue36 rfl rfl (fun b2 => ?_)
  refine Tr.nil ?_
  refine Tr.thenN ?_
  refine Tr.seq ?_
  refine Tr.region ?_
  refine Tr.q (QS.fieldAddr (off := 0) (ft := 23) rfl Try.underlying36 rfl rfl Try.sizeOf23 (by decide)) rfl ?_
  refine Tr.q (QS.lV rfl Try.isAgg23) rfl ?_
  refine Tr.q (QS.fieldAddr (off := 8) (ft := 3) rfl Try.underlying36 rfl rfl Try.sizeOf3 (by decide)) rfl ?_
  refine Tr.q (QS.lV rfl Try.isAgg3) rfl ?_
  refine Tr.q (QS.cvtTo32 rfl Try.underlying3 Try.underlying23) rfl ?_
  refine Tr.q (QS.add32 rfl rfl) rfl ?_
  refine Tr.q (QS.assign rfl) rfl ?_
  refine Tr.nil ?_
  refine Tr.thenN ?_
  refine Tr.seqJ (ι := Ins) (fun k => k = refBodyP c b ⟨addr, 0, 0, 0, 0, 0, 0, 0, sz⟩) (fun _ => Bg.of w) (fun k => [cellE b1 (encIns.enc k) 36, cellE b2 (encIns.enc zeroIns) 36]) (fun k => []) ?_ (fun k hi => ?_)
  · skip
    refine Tr.block ?_
    refine Tr.seq ?_
    refine Tr.region ?_
    refine Tr.q (QS.move rfl) rfl ?_
    refine Tr.q (QS.leq rfl rfl) rfl ?_
    refine Tr.q (QS.assign rfl) rfl ?_
    refine Tr.nil ?_
    refine Tr.thenN ?_
    refine Tr.cond rfl (fun h3 => ?_) (fun h3 => ?_)
    · try simp only [bs] at h3
      refine Tr.region ?_
      refine Tr.q (QS.move rfl) rfl ?_
      refine Tr.q (QS.fieldAddr (off := 2) (ft := 3) rfl Try.underlying36 rfl rfl Try.sizeOf3 (by decide)) rfl ?_
      refine Tr.storeV (cs' := [_, _, _, _, _, _, _, _, _]) rfl rfl Try.sizeOf3 (by repeat (first | exact Put.here _ | apply Put.there)) rfl (by rfl) (by first | exact Nat.le_of_ble_eq_true rfl | simp) (by first | exact List.all_eq_true.1 rfl | (intro u hu; simp [Value.cells] at hu; simp_all [Value.oneCell'])) rfl ?_
      refine Tr.nil ?_
      refine Tr.inN ?_
      refine Tr.thenN ?_
      apply Tr.joined ⟨addr, 0, c, 0, 0, 0, 0, 0, sz⟩
      · exact rfl
      · exact Front.nil
      · exact SubX.dropN 5 (by kernel_rfl) rfl
      · exact (by repeat' (first | exact Pick.nil _ | exact Del.here _ | apply Pick.cons | apply Del.there))
      · exact (by unfold refBodyP kindP; (repeat (first | rw [if_pos (by omega)] | rw [if_neg (by omega)])) <;> rfl)
    · try simp only [bs] at h3
      refine Tr.seq ?_
      refine Tr.region ?_
      refine Tr.q (QS.move rfl) rfl ?_
      refine Tr.q (QS.leq rfl rfl) rfl ?_
      refine Tr.q (QS.assign rfl) rfl ?_
      refine Tr.nil ?_
      refine Tr.thenN ?_
      refine Tr.cond rfl (fun h4 => ?_) (fun h4 => ?_)
      · try simp only [bs] at h4
        refine Tr.region ?_
        refine Tr.q (QS.move rfl) rfl ?_
        refine Tr.q (QS.subI rfl rfl (by omega)) rfl ?_
        refine Tr.q (QS.fieldAddr (off := 2) (ft := 3) rfl Try.underlying36 rfl rfl Try.sizeOf3 (by decide)) rfl ?_
        refine Tr.storeV (cs' := [_, _, _, _, _, _, _, _, _]) rfl rfl Try.sizeOf3 (by repeat (first | exact Put.here _ | apply Put.there)) rfl (by rfl) (by first | exact Nat.le_of_ble_eq_true rfl | simp) (by first | exact List.all_eq_true.1 rfl | (intro u hu; simp [Value.cells] at hu; simp_all [Value.oneCell'])) rfl ?_
        refine Tr.q (QS.fieldAddr (off := 6) (ft := 3) rfl Try.underlying36 rfl rfl Try.sizeOf3 (by decide)) rfl ?_
        refine Tr.storeV (cs' := [_, _, _, _, _, _, _, _, _]) rfl rfl Try.sizeOf3 (by repeat (first | exact Put.here _ | apply Put.there)) rfl (by rfl) (by first | exact Nat.le_of_ble_eq_true rfl | simp) (by first | exact List.all_eq_true.1 rfl | (intro u hu; simp [Value.cells] at hu; simp_all [Value.oneCell'])) rfl ?_
        refine Tr.nil ?_
        refine Tr.inN ?_
        refine Tr.thenN ?_
        apply Tr.joined ⟨addr, 0, 3, 0, 0, 0, c - 8, 0, sz⟩
        · exact rfl
        · exact Front.nil
        · exact SubX.dropN 10 (by kernel_rfl) rfl
        · exact (by repeat' (first | exact Pick.nil _ | exact Del.here _ | apply Pick.cons | apply Del.there))
        · exact (by unfold refBodyP kindP; (repeat (first | rw [if_pos (by omega)] | rw [if_neg (by omega)])) <;> rfl)
      · try simp only [bs] at h4
        refine Tr.seq ?_
        refine Tr.region ?_
        refine Tr.q (QS.move rfl) rfl ?_
        refine Tr.q (QS.leq rfl rfl) rfl ?_
        refine Tr.q (QS.assign rfl) rfl ?_
        refine Tr.nil ?_
        refine Tr.thenN ?_
        refine Tr.cond rfl (fun h5 => ?_) (fun h5 => ?_)
        · try simp only [bs] at h5
          refine Tr.region ?_
          refine Tr.q (QS.move rfl) rfl ?_
          refine Tr.q (QS.subI rfl rfl (by omega)) rfl ?_
          refine Tr.q (QS.fieldAddr (off := 2) (ft := 3) rfl Try.underlying36 rfl rfl Try.sizeOf3 (by decide)) rfl ?_
          refine Tr.storeV (cs' := [_, _, _, _, _, _, _, _, _]) rfl rfl Try.sizeOf3 (by repeat (first | exact Put.here _ | apply Put.there)) rfl (by rfl) (by first | exact Nat.le_of_ble_eq_true rfl | simp) (by first | exact List.all_eq_true.1 rfl | (intro u hu; simp [Value.cells] at hu; simp_all [Value.oneCell'])) rfl ?_
          refine Tr.q (QS.fieldAddr (off := 6) (ft := 3) rfl Try.underlying36 rfl rfl Try.sizeOf3 (by decide)) rfl ?_
          refine Tr.storeV (cs' := [_, _, _, _, _, _, _, _, _]) rfl rfl Try.sizeOf3 (by repeat (first | exact Put.here _ | apply Put.there)) rfl (by rfl) (by first | exact Nat.le_of_ble_eq_true rfl | simp) (by first | exact List.all_eq_true.1 rfl | (intro u hu; simp [Value.cells] at hu; simp_all [Value.oneCell'])) rfl ?_
          refine Tr.nil ?_
          refine Tr.inN ?_
          refine Tr.thenN ?_
          apply Tr.joined ⟨addr, 0, 4, 0, 0, 0, c - 16, 0, sz⟩
          · exact rfl
          · exact Front.nil
          · exact SubX.dropN 13 (by kernel_rfl) rfl
          · exact (by repeat' (first | exact Pick.nil _ | exact Del.here _ | apply Pick.cons | apply Del.there))
          · exact (by unfold refBodyP kindP; (repeat (first | rw [if_pos (by omega)] | rw [if_neg (by omega)])) <;> rfl)
        · try simp only [bs] at h5
          refine Tr.seq ?_
          refine Tr.region ?_
          refine Tr.q (QS.move rfl) rfl ?_
          refine Tr.q (QS.leq rfl rfl) rfl ?_
          refine Tr.q (QS.assign rfl) rfl ?_
          refine Tr.nil ?_
          refine Tr.thenN ?_
          refine Tr.cond rfl (fun h6 => ?_) (fun h6 => ?_)
          · try simp only [bs] at h6
            refine Tr.seq ?_
            refine Tr.region ?_
            refine Tr.q (QS.move rfl) rfl ?_
            refine Tr.q (QS.call rfl Try.call112 (fun w hw => refAccess_any c w)) rfl ?_
            refine Tr.q (QS.move rfl) rfl ?_
            refine Tr.q (QS.extract rfl rfl) rfl ?_
            refine Tr.q (QS.extract rfl rfl) rfl ?_
            refine Tr.q (QS.fieldAddr (off := 2) (ft := 3) rfl Try.underlying36 rfl rfl Try.sizeOf3 (by decide)) rfl ?_
            refine Tr.storeV (cs' := [_, _, _, _, _, _, _, _, _]) rfl rfl Try.sizeOf3 (by repeat (first | exact Put.here _ | apply Put.there)) rfl (by rfl) (by first | exact Nat.le_of_ble_eq_true rfl | simp) (by first | exact List.all_eq_true.1 rfl | (intro u hu; simp [Value.cells] at hu; simp_all [Value.oneCell'])) rfl ?_
            refine Tr.q (QS.fieldAddr (off := 4) (ft := 3) rfl Try.underlying36 rfl rfl Try.sizeOf3 (by decide)) rfl ?_
            refine Tr.storeV (cs' := [_, _, _, _, _, _, _, _, _]) rfl rfl Try.sizeOf3 (by repeat (first | exact Put.here _ | apply Put.there)) rfl (by rfl) (by first | exact Nat.le_of_ble_eq_true rfl | simp) (by first | exact List.all_eq_true.1 rfl | (intro u hu; simp [Value.cells] at hu; simp_all [Value.oneCell'])) rfl ?_
            refine Tr.nil ?_
            refine Tr.thenN ?_
            refine Tr.regionH ([cellE b2 (encIns.enc zeroIns) 36]) 20 rfl HLF.mixed ?_
            refine Tr.hT 0 rfl (by kernel_rfl) (panicIn (panicThen panicBody)) (QS.move rfl) ?_
            refine Tr.hT 1 rfl (by kernel_rfl) (panicIn (panicThen panicBody)) (QS.idx rfl rfl (by assumption) Try.underlying54 Try.sizeOf5 (by rfl) (by omega)) ?_
            refine Tr.hT 2 rfl (by kernel_rfl) (panicIn (panicThen panicBody)) (QS.el1 rfl (by assumption) Try.isAgg5 (by omega) (by rfl)) ?_
            refine Tr.hT 3 rfl (by kernel_rfl) (panicIn (panicThen panicBody)) (QS.quo8 (n := 16) rfl rfl (by first | decide | assumption)) ?_
            refine Tr.hT 4 rfl (by kernel_rfl) (panicIn (panicThen panicBody)) (QS.cvt8toI rfl Try.underlying5 Try.underlying3) ?_
            refine Tr.hT 5 rfl (by kernel_rfl) (panicIn (panicThen panicBody)) (QS.move rfl) ?_
            refine Tr.hT 6 rfl (by kernel_rfl) (panicIn (panicThen panicBody)) (QS.idx rfl rfl (by assumption) Try.underlying54 Try.sizeOf5 (by rfl) (by omega)) ?_
            refine Tr.hT 7 rfl (by kernel_rfl) (panicIn (panicThen panicBody)) (QS.el1 rfl (by assumption) Try.isAgg5 (by omega) (by rfl)) ?_
            refine Tr.hT 8 rfl (by kernel_rfl) (panicIn (panicThen panicBody)) (QS.rem8 (n := 16) rfl rfl (by first | decide | assumption)) ?_
            refine Tr.hT 9 rfl (by kernel_rfl) (panicIn (panicThen panicBody)) (QS.cvt8toI rfl Try.underlying5 Try.underlying3) ?_
            refine Tr.hT 10 rfl (by kernel_rfl) (panicIn (panicThen panicBody)) (QS.move rfl) ?_
            refine Tr.hT 11 rfl (by kernel_rfl) (panicIn (panicThen panicBody)) (QS.idx rfl rfl (by assumption) Try.underlying54 Try.sizeOf5 (by rfl) (by omega)) ?_
            refine Tr.hT 12 rfl (by kernel_rfl) (panicIn (panicThen panicBody)) (QS.el1 rfl (by assumption) Try.isAgg5 (by omega) (by rfl)) ?_
            refine Tr.hT 14 rfl (by kernel_rfl) (panicIn (panicThen panicBody)) (QS.fieldAddr (off := 6) (ft := 3) rfl Try.underlying36 rfl rfl Try.sizeOf3 (by decide)) ?_
            refine Tr.hAll [13] (by kernel_rfl) (by simp) (fun iq hq => ?_)
            obtain rfl := List.mem_singleton.1 hq
            refine Tr.hOp rfl ?_
            refine Tr.q (QS.call rfl Try.call92 (fun w hw => signed_any (b.getD 2 default) w)) rfl ?_
            refine Tr.hN ?_
            refine Tr.hAll [15] (by kernel_rfl) (by simp) (fun iq hq => ?_)
            obtain rfl := List.mem_singleton.1 hq
            refine Tr.hOp rfl ?_
            refine Tr.storeV (cs' := [_, _, _, _, _, _, _, _, _]) rfl rfl Try.sizeOf3 (by repeat (first | exact Put.here _ | apply Put.there)) rfl (by rfl) (by first | exact Nat.le_of_ble_eq_true rfl | simp) (by first | exact List.all_eq_true.1 rfl | (intro u hu; simp [Value.cells] at hu; simp_all [Value.oneCell'])) rfl ?_
            refine Tr.hN ?_
            refine Tr.hT 16 rfl (by kernel_rfl) (panicIn (panicThen panicBody)) (QS.fieldAddr (off := 7) (ft := 3) rfl Try.underlying36 rfl rfl Try.sizeOf3 (by decide)) ?_
            refine Tr.hAll [17] (by kernel_rfl) (by simp) (fun iq hq => ?_)
            obtain rfl := List.mem_singleton.1 hq
            refine Tr.hOp rfl ?_
            refine Tr.storeV (cs' := [_, _, _, _, _, _, _, _, _]) rfl rfl Try.sizeOf3 (by repeat (first | exact Put.here _ | apply Put.there)) rfl (by rfl) (by first | exact Nat.le_of_ble_eq_true rfl | simp) (by first | exact List.all_eq_true.1 rfl | (intro u hu; simp [Value.cells] at hu; simp_all [Value.oneCell'])) rfl ?_
            refine Tr.hN ?_
            refine Tr.hT 18 rfl (by kernel_rfl) (panicIn (panicThen panicBody)) (QS.fieldAddr (off := 1) (ft := 23) rfl Try.underlying36 rfl rfl Try.sizeOf23 (by decide)) ?_
            refine Tr.hAll [19] (by kernel_rfl) (by simp) (fun iq hq => ?_)
            obtain rfl := List.mem_singleton.1 hq
            refine Tr.hOp rfl ?_
            refine Tr.storeV (cs' := [_, _, _, _, _, _, _, _, _]) rfl rfl Try.sizeOf23 (by repeat (first | exact Put.here _ | apply Put.there)) rfl (by rfl) (by first | exact Nat.le_of_ble_eq_true rfl | simp) (by first | exact List.all_eq_true.1 rfl | (intro u hu; simp [Value.cells] at hu; simp_all [Value.oneCell'])) rfl ?_
            refine Tr.hN ?_
            refine Tr.hDone (by kernel_rfl) ?_
            refine Tr.inN ?_
            refine Tr.thenN ?_
            apply Tr.joined ⟨addr, sextP (b.getD 2 default), (refAccP c).1, 0, (refAccP c).2, 0, ((b.getD 1 default) / 16).toNat, ((b.getD 1 default) % 16).toNat, sz⟩
            · exact rfl
            · exact Front.nil
            · exact SubX.dropN 36 (by kernel_rfl) rfl
            · exact (by repeat' (first | exact Pick.nil _ | exact Del.here _ | apply Pick.cons | apply Del.there))
            · exact (by unfold refBodyP kindP; (repeat (first | rw [if_pos (by omega)] | rw [if_neg (by omega)])) <;> rfl)
          · try simp only [bs] at h6
            refine Tr.seq ?_
            refine Tr.region ?_
            refine Tr.q (QS.move rfl) rfl ?_
            refine Tr.q (QS.eql rfl rfl) rfl ?_
            refine Tr.q (QS.assign rfl) rfl ?_
            refine Tr.nil ?_
            refine Tr.thenN ?_
            refine Tr.cond rfl (fun h7 => ?_) (fun h7 => ?_)
            · try simp only [bs] at h7
              refine Tr.regionH ([cellE b2 (encIns.enc zeroIns) 36]) 22 rfl HLF.mixed ?_
              refine Tr.hT 0 rfl (by kernel_rfl) (panicIn (panicThen panicBody)) (QS.move rfl) ?_
              refine Tr.hT 1 rfl (by kernel_rfl) (panicIn (panicThen panicBody)) (QS.idx rfl rfl (by assumption) Try.underlying54 Try.sizeOf5 (by rfl) (by omega)) ?_
              refine Tr.hT 2 rfl (by kernel_rfl) (panicIn (panicThen panicBody)) (QS.el1 rfl (by assumption) Try.isAgg5 (by omega) (by rfl)) ?_
              refine Tr.hT 3 rfl (by kernel_rfl) (panicIn (panicThen panicBody)) (QS.quo8 (n := 16) rfl rfl (by first | decide | assumption)) ?_
              refine Tr.hT 4 rfl (by kernel_rfl) (panicIn (panicThen panicBody)) (QS.cvt8toI rfl Try.underlying5 Try.underlying3) ?_
              refine Tr.hT 5 rfl (by kernel_rfl) (panicIn (panicThen panicBody)) (QS.move rfl) ?_
              refine Tr.hT 6 rfl (by kernel_rfl) (panicIn (panicThen panicBody)) (QS.idx rfl rfl (by assumption) Try.underlying54 Try.sizeOf5 (by rfl) (by omega)) ?_
              refine Tr.hT 7 rfl (by kernel_rfl) (panicIn (panicThen panicBody)) (QS.el1 rfl (by assumption) Try.isAgg5 (by omega) (by rfl)) ?_
              refine Tr.hT 8 rfl (by kernel_rfl) (panicIn (panicThen panicBody)) (QS.rem8 (n := 16) rfl rfl (by first | decide | assumption)) ?_
              refine Tr.hT 9 rfl (by kernel_rfl) (panicIn (panicThen panicBody)) (QS.cvt8toI rfl Try.underlying5 Try.underlying3) ?_
              refine Tr.hT 10 rfl (by kernel_rfl) (panicIn (panicThen panicBody)) (QS.move rfl) ?_
              refine Tr.hT 11 rfl (by kernel_rfl) (panicIn (panicThen panicBody)) (QS.idx rfl rfl (by assumption) Try.underlying54 Try.sizeOf5 (by rfl) (by omega)) ?_
              refine Tr.hT 12 rfl (by kernel_rfl) (panicIn (panicThen panicBody)) (QS.el1 rfl (by assumption) Try.isAgg5 (by omega) (by rfl)) ?_
              refine Tr.hT 14 rfl (by kernel_rfl) (panicIn (panicThen panicBody)) (QS.fieldAddr (off := 2) (ft := 3) rfl Try.underlying36 rfl rfl Try.sizeOf3 (by decide)) ?_
              refine Tr.hAll [13] (by kernel_rfl) (by simp) (fun iq hq => ?_)
              obtain rfl := List.mem_singleton.1 hq
              refine Tr.hOp rfl ?_
              refine Tr.q (QS.call rfl Try.call92 (fun w hw => signed_any (b.getD 2 default) w)) rfl ?_
              refine Tr.hN ?_
              refine Tr.hAll [15] (by kernel_rfl) (by simp) (fun iq hq => ?_)
              obtain rfl := List.mem_singleton.1 hq
              refine Tr.hOp rfl ?_
              refine Tr.storeV (cs' := [_, _, _, _, _, _, _, _, _]) rfl rfl Try.sizeOf3 (by repeat (first | exact Put.here _ | apply Put.there)) rfl (by rfl) (by first | exact Nat.le_of_ble_eq_true rfl | simp) (by first | exact List.all_eq_true.1 rfl | (intro u hu; simp [Value.cells] at hu; simp_all [Value.oneCell'])) rfl ?_
              refine Tr.hN ?_
              refine Tr.hT 16 rfl (by kernel_rfl) (panicIn (panicThen panicBody)) (QS.fieldAddr (off := 6) (ft := 3) rfl Try.underlying36 rfl rfl Try.sizeOf3 (by decide)) ?_
              refine Tr.hAll [17] (by kernel_rfl) (by simp) (fun iq hq => ?_)
              obtain rfl := List.mem_singleton.1 hq
              refine Tr.hOp rfl ?_
              refine Tr.storeV (cs' := [_, _, _, _, _, _, _, _, _]) rfl rfl Try.sizeOf3 (by repeat (first | exact Put.here _ | apply Put.there)) rfl (by rfl) (by first | exact Nat.le_of_ble_eq_true rfl | simp) (by first | exact List.all_eq_true.1 rfl | (intro u hu; simp [Value.cells] at hu; simp_all [Value.oneCell'])) rfl ?_
              refine Tr.hN ?_
              refine Tr.hT 18 rfl (by kernel_rfl) (panicIn (panicThen panicBody)) (QS.fieldAddr (off := 7) (ft := 3) rfl Try.underlying36 rfl rfl Try.sizeOf3 (by decide)) ?_
              refine Tr.hAll [19] (by kernel_rfl) (by simp) (fun iq hq => ?_)
              obtain rfl := List.mem_singleton.1 hq
              refine Tr.hOp rfl ?_
              refine Tr.storeV (cs' := [_, _, _, _, _, _, _, _, _]) rfl rfl Try.sizeOf3 (by repeat (first | exact Put.here _ | apply Put.there)) rfl (by rfl) (by first | exact Nat.le_of_ble_eq_true rfl | simp) (by first | exact List.all_eq_true.1 rfl | (intro u hu; simp [Value.cells] at hu; simp_all [Value.oneCell'])) rfl ?_
              refine Tr.hN ?_
              refine Tr.hT 20 rfl (by kernel_rfl) (panicIn (panicThen panicBody)) (QS.fieldAddr (off := 1) (ft := 23) rfl Try.underlying36 rfl rfl Try.sizeOf23 (by decide)) ?_
              refine Tr.hAll [21] (by kernel_rfl) (by simp) (fun iq hq => ?_)
              obtain rfl := List.mem_singleton.1 hq
              refine Tr.hOp rfl ?_
              refine Tr.storeV (cs' := [_, _, _, _, _, _, _, _, _]) rfl rfl Try.sizeOf23 (by repeat (first | exact Put.here _ | apply Put.there)) rfl (by rfl) (by first | exact Nat.le_of_ble_eq_true rfl | simp) (by first | exact List.all_eq_true.1 rfl | (intro u hu; simp [Value.cells] at hu; simp_all [Value.oneCell'])) rfl ?_
              refine Tr.hN ?_
              refine Tr.hDone (by kernel_rfl) ?_
              refine Tr.inN ?_
              refine Tr.thenN ?_
              apply Tr.joined ⟨addr, sextP (b.getD 2 default), 19, 0, 0, 0, ((b.getD 1 default) / 16).toNat, ((b.getD 1 default) % 16).toNat, sz⟩
              · exact rfl
              · exact Front.nil
              · exact SubX.dropN 33 (by kernel_rfl) rfl
              · exact (by repeat' (first | exact Pick.nil _ | exact Del.here _ | apply Pick.cons | apply Del.there))
              · exact (by unfold refBodyP kindP; (repeat (first | rw [if_pos (by omega)] | rw [if_neg (by omega)])) <;> rfl)
            · try simp only [bs] at h7
              refine Tr.seq ?_
              refine Tr.region ?_
              refine Tr.q (QS.move rfl) rfl ?_
              refine Tr.q (QS.leq rfl rfl) rfl ?_
              refine Tr.q (QS.assign rfl) rfl ?_
              refine Tr.nil ?_
              refine Tr.thenN ?_
              refine Tr.cond rfl (fun h8 => ?_) (fun h8 => ?_)
              · try simp only [bs] at h8
                refine Tr.region ?_
                refine Tr.q (QS.move rfl) rfl ?_
                refine Tr.q (QS.subI rfl rfl (by omega)) rfl ?_
                refine Tr.q (QS.move rfl) rfl ?_
                refine Tr.q (QS.move rfl) rfl ?_
                refine Tr.q (QS.idx rfl rfl (by assumption) Try.underlying54 Try.sizeOf5 (by rfl) (by omega)) rfl ?_
                refine Tr.q (QS.el1 rfl (by assumption) Try.isAgg5 (by omega) (by rfl)) rfl ?_
                refine Tr.q (QS.call rfl Try.call92 (fun w hw => signed_any (b.getD 1 default) w)) rfl ?_
                refine Tr.q (QS.add32 rfl rfl) rfl ?_
                refine Tr.q (QS.fieldAddr (off := 2) (ft := 3) rfl Try.underlying36 rfl rfl Try.sizeOf3 (by decide)) rfl ?_
                refine Tr.storeV (cs' := [_, _, _, _, _, _, _, _, _]) rfl rfl Try.sizeOf3 (by repeat (first | exact Put.here _ | apply Put.there)) rfl (by rfl) (by first | exact Nat.le_of_ble_eq_true rfl | simp) (by first | exact List.all_eq_true.1 rfl | (intro u hu; simp [Value.cells] at hu; simp_all [Value.oneCell'])) rfl ?_
                refine Tr.q (QS.fieldAddr (off := 3) (ft := 3) rfl Try.underlying36 rfl rfl Try.sizeOf3 (by decide)) rfl ?_
                refine Tr.storeV (cs' := [_, _, _, _, _, _, _, _, _]) rfl rfl Try.sizeOf3 (by repeat (first | exact Put.here _ | apply Put.there)) rfl (by rfl) (by first | exact Nat.le_of_ble_eq_true rfl | simp) (by first | exact List.all_eq_true.1 rfl | (intro u hu; simp [Value.cells] at hu; simp_all [Value.oneCell'])) rfl ?_
                refine Tr.q (QS.fieldAddr (off := 5) (ft := 3) rfl Try.underlying36 rfl rfl Try.sizeOf3 (by decide)) rfl ?_
                refine Tr.storeV (cs' := [_, _, _, _, _, _, _, _, _]) rfl rfl Try.sizeOf3 (by repeat (first | exact Put.here _ | apply Put.there)) rfl (by rfl) (by first | exact Nat.le_of_ble_eq_true rfl | simp) (by first | exact List.all_eq_true.1 rfl | (intro u hu; simp [Value.cells] at hu; simp_all [Value.oneCell'])) rfl ?_
                refine Tr.q (QS.fieldAddr (off := 1) (ft := 23) rfl Try.underlying36 rfl rfl Try.sizeOf23 (by decide)) rfl ?_
                refine Tr.storeV (cs' := [_, _, _, _, _, _, _, _, _]) rfl rfl Try.sizeOf23 (by repeat (first | exact Put.here _ | apply Put.there)) rfl (by rfl) (by first | exact Nat.le_of_ble_eq_true rfl | simp) (by first | exact List.all_eq_true.1 rfl | (intro u hu; simp [Value.cells] at hu; simp_all [Value.oneCell'])) rfl ?_
                refine Tr.nil ?_
                refine Tr.inN ?_
                refine Tr.thenN ?_
                apply Tr.joined ⟨addr, (addr + u32 sz) + sextP (b.getD 1 default), 20, 1, 0, c - 96, 0, 0, sz⟩
                · exact rfl
                · exact Front.nil
                · exact SubX.dropN 30 (by kernel_rfl) rfl
                · exact (by repeat' (first | exact Pick.nil _ | exact Del.here _ | apply Pick.cons | apply Del.there))
                · exact (by unfold refBodyP kindP; (repeat (first | rw [if_pos (by omega)] | rw [if_neg (by omega)])) <;> rfl)
              · try simp only [bs] at h8
                refine Tr.seq ?_
                refine Tr.region ?_
                refine Tr.q (QS.move rfl) rfl ?_
                refine Tr.q (QS.leq rfl rfl) rfl ?_
                refine Tr.q (QS.assign rfl) rfl ?_
                refine Tr.nil ?_
                refine Tr.thenN ?_
                refine Tr.cond rfl (fun h9 => ?_) (fun h9 => ?_)
                · try simp only [bs] at h9
                  refine Tr.region ?_
                  refine Tr.q (QS.move rfl) rfl ?_
                  refine Tr.q (QS.subI rfl rfl (by omega)) rfl ?_
                  refine Tr.q (QS.move rfl) rfl ?_
                  refine Tr.q (QS.move rfl) rfl ?_
                  refine Tr.q (QS.slice (lv := some (_, _)) (hv := none) rfl (by assumption) rfl rfl Try.underlying54 Try.sizeOf5 (by rfl) (by simp only [loOf, hiOf] <;> first | omega | assumption | (simp only [NatCast.natCast, Int.ofNat_eq_natCast]; omega)) (by simp only [loOf, hiOf] <;> first | omega | assumption | (simp only [NatCast.natCast, Int.ofNat_eq_natCast]; omega)) (by simp only [loOf, hiOf] <;> first | omega | assumption | (simp only [NatCast.natCast, Int.ofNat_eq_natCast]; omega))) rfl ?_
                  refine Tr.q (QS.call rfl Try.call93 (fun w hw => refLong_any ((b.take (b.length : Int).toNat).drop (1 : Int).toNat) _ w (hw.slF (Sl.resl hV' (by omega) (by omega))) (by simp; omega))) rfl ?_
                  refine Tr.q (QS.add32 rfl rfl) rfl ?_
                  refine Tr.q (QS.fieldAddr (off := 2) (ft := 3) rfl Try.underlying36 rfl rfl Try.sizeOf3 (by decide)) rfl ?_
                  refine Tr.storeV (cs' := [_, _, _, _, _, _, _, _, _]) rfl rfl Try.sizeOf3 (by repeat (first | exact Put.here _ | apply Put.there)) rfl (by rfl) (by first | exact Nat.le_of_ble_eq_true rfl | simp) (by first | exact List.all_eq_true.1 rfl | (intro u hu; simp [Value.cells] at hu; simp_all [Value.oneCell'])) rfl ?_
                  refine Tr.q (QS.fieldAddr (off := 3) (ft := 3) rfl Try.underlying36 rfl rfl Try.sizeOf3 (by decide)) rfl ?_
                  refine Tr.storeV (cs' := [_, _, _, _, _, _, _, _, _]) rfl rfl Try.sizeOf3 (by repeat (first | exact Put.here _ | apply Put.there)) rfl (by rfl) (by first | exact Nat.le_of_ble_eq_true rfl | simp) (by first | exact List.all_eq_true.1 rfl | (intro u hu; simp [Value.cells] at hu; simp_all [Value.oneCell'])) rfl ?_
                  refine Tr.q (QS.fieldAddr (off := 5) (ft := 3) rfl Try.underlying36 rfl rfl Try.sizeOf3 (by decide)) rfl ?_
                  refine Tr.storeV (cs' := [_, _, _, _, _, _, _, _, _]) rfl rfl Try.sizeOf3 (by repeat (first | exact Put.here _ | apply Put.there)) rfl (by rfl) (by first | exact Nat.le_of_ble_eq_true rfl | simp) (by first | exact List.all_eq_true.1 rfl | (intro u hu; simp [Value.cells] at hu; simp_all [Value.oneCell'])) rfl ?_
                  refine Tr.q (QS.fieldAddr (off := 1) (ft := 23) rfl Try.underlying36 rfl rfl Try.sizeOf23 (by decide)) rfl ?_
                  refine Tr.storeV (cs' := [_, _, _, _, _, _, _, _, _]) rfl rfl Try.sizeOf23 (by repeat (first | exact Put.here _ | apply Put.there)) rfl (by rfl) (by first | exact Nat.le_of_ble_eq_true rfl | simp) (by first | exact List.all_eq_true.1 rfl | (intro u hu; simp [Value.cells] at hu; simp_all [Value.oneCell'])) rfl ?_
                  refine Tr.nil ?_
                  refine Tr.inN ?_
                  refine Tr.thenN ?_
                  rw [show longP ((b.take (b.length : Int).toNat).drop (1 : Int).toNat) 0 = longP b 1 from long_drop (k := 1) (by omega)]
                  apply Tr.joined ⟨addr, (addr + u32 sz) + longP b 1, 20, 2, 0, c - 112, 0, 0, sz⟩
                  · exact rfl
                  · exact Front.nil
                  · exact SubX.dropN 32 (by kernel_rfl) rfl
                  · exact (by repeat' (first | exact Pick.nil _ | exact Del.here _ | apply Pick.cons | apply Del.there))
                  · exact (by unfold refBodyP kindP; (repeat (first | rw [if_pos (by omega)] | rw [if_neg (by omega)])) <;> rfl)
                · try simp only [bs] at h9
                  refine Tr.seq ?_
                  refine Tr.region ?_
                  refine Tr.q (QS.move rfl) rfl ?_
                  refine Tr.q (QS.eql rfl rfl) rfl ?_
                  refine Tr.q (QS.assign rfl) rfl ?_
                  refine Tr.nil ?_
                  refine Tr.thenN ?_
                  refine Tr.cond rfl (fun h10 => ?_) (fun h10 => ?_)
                  · try simp only [bs] at h10
                    refine Tr.region ?_
                    refine Tr.q (QS.move rfl) rfl ?_
                    refine Tr.q (QS.move rfl) rfl ?_
                    refine Tr.q (QS.slice (lv := some (_, _)) (hv := none) rfl (by assumption) rfl rfl Try.underlying54 Try.sizeOf5 (by rfl) (by simp only [loOf, hiOf] <;> first | omega | assumption | (simp only [NatCast.natCast, Int.ofNat_eq_natCast]; omega)) (by simp only [loOf, hiOf] <;> first | omega | assumption | (simp only [NatCast.natCast, Int.ofNat_eq_natCast]; omega)) (by simp only [loOf, hiOf] <;> first | omega | assumption | (simp only [NatCast.natCast, Int.ofNat_eq_natCast]; omega))) rfl ?_
                    refine Tr.q (QS.call rfl Try.call93 (fun w hw => refLong_any ((b.take (b.length : Int).toNat).drop (1 : Int).toNat) _ w (hw.slF (Sl.resl hV' (by omega) (by omega))) (by simp; omega))) rfl ?_
                    refine Tr.q (QS.add32 rfl rfl) rfl ?_
                    refine Tr.q (QS.fieldAddr (off := 2) (ft := 3) rfl Try.underlying36 rfl rfl Try.sizeOf3 (by decide)) rfl ?_
                    refine Tr.storeV (cs' := [_, _, _, _, _, _, _, _, _]) rfl rfl Try.sizeOf3 (by repeat (first | exact Put.here _ | apply Put.there)) rfl (by rfl) (by first | exact Nat.le_of_ble_eq_true rfl | simp) (by first | exact List.all_eq_true.1 rfl | (intro u hu; simp [Value.cells] at hu; simp_all [Value.oneCell'])) rfl ?_
                    refine Tr.q (QS.fieldAddr (off := 1) (ft := 23) rfl Try.underlying36 rfl rfl Try.sizeOf23 (by decide)) rfl ?_
                    refine Tr.storeV (cs' := [_, _, _, _, _, _, _, _, _]) rfl rfl Try.sizeOf23 (by repeat (first | exact Put.here _ | apply Put.there)) rfl (by rfl) (by first | exact Nat.le_of_ble_eq_true rfl | simp) (by first | exact List.all_eq_true.1 rfl | (intro u hu; simp [Value.cells] at hu; simp_all [Value.oneCell'])) rfl ?_
                    refine Tr.nil ?_
                    refine Tr.inN ?_
                    refine Tr.thenN ?_
                    rw [show longP ((b.take (b.length : Int).toNat).drop (1 : Int).toNat) 0 = longP b 1 from long_drop (k := 1) (by omega)]
                    apply Tr.joined ⟨addr, (addr + u32 sz) + longP b 1, 23, 0, 0, 0, 0, 0, sz⟩
                    · exact rfl
                    · exact Front.nil
                    · exact SubX.dropN 31 (by kernel_rfl) rfl
                    · exact (by repeat' (first | exact Pick.nil _ | exact Del.here _ | apply Pick.cons | apply Del.there))
                    · exact (by unfold refBodyP kindP; (repeat (first | rw [if_pos (by omega)] | rw [if_neg (by omega)])) <;> rfl)
                  · try simp only [bs] at h10
                    refine Tr.seq ?_
                    refine Tr.region ?_
                    refine Tr.q (QS.move rfl) rfl ?_
                    refine Tr.q (QS.eql rfl rfl) rfl ?_
                    refine Tr.q (QS.assign rfl) rfl ?_
                    refine Tr.nil ?_
                    refine Tr.thenN ?_
                    refine Tr.cond rfl (fun h11 => ?_) (fun h11 => ?_)
                    · try simp only [bs] at h11
                      refine Tr.regionH ([cellE b2 (encIns.enc zeroIns) 36]) 8 rfl HLF.mixed ?_
                      refine Tr.hT 0 rfl (by kernel_rfl) (panicIn (panicThen panicBody)) (QS.move rfl) ?_
                      refine Tr.hT 1 rfl (by kernel_rfl) (panicIn (panicThen panicBody)) (QS.idx rfl rfl (by assumption) Try.underlying54 Try.sizeOf5 (by rfl) (by omega)) ?_
                      refine Tr.hT 2 rfl (by kernel_rfl) (panicIn (panicThen panicBody)) (QS.el1 rfl (by assumption) Try.isAgg5 (by omega) (by rfl)) ?_
                      refine Tr.hT 3 rfl (by kernel_rfl) (panicIn (panicThen panicBody)) (QS.cvt8toI rfl Try.underlying5 Try.underlying3) ?_
                      refine Tr.hT 4 rfl (by kernel_rfl) (panicIn (panicThen panicBody)) (QS.fieldAddr (off := 2) (ft := 3) rfl Try.underlying36 rfl rfl Try.sizeOf3 (by decide)) ?_
                      refine Tr.hAll [5] (by kernel_rfl) (by simp) (fun iq hq => ?_)
                      obtain rfl := List.mem_singleton.1 hq
                      refine Tr.hOp rfl ?_
                      refine Tr.storeV (cs' := [_, _, _, _, _, _, _, _, _]) rfl rfl Try.sizeOf3 (by repeat (first | exact Put.here _ | apply Put.there)) rfl (by rfl) (by first | exact Nat.le_of_ble_eq_true rfl | simp) (by first | exact List.all_eq_true.1 rfl | (intro u hu; simp [Value.cells] at hu; simp_all [Value.oneCell'])) rfl ?_
                      refine Tr.hN ?_
                      refine Tr.hT 6 rfl (by kernel_rfl) (panicIn (panicThen panicBody)) (QS.fieldAddr (off := 6) (ft := 3) rfl Try.underlying36 rfl rfl Try.sizeOf3 (by decide)) ?_
                      refine Tr.hAll [7] (by kernel_rfl) (by simp) (fun iq hq => ?_)
                      obtain rfl := List.mem_singleton.1 hq
                      refine Tr.hOp rfl ?_
                      refine Tr.storeV (cs' := [_, _, _, _, _, _, _, _, _]) rfl rfl Try.sizeOf3 (by repeat (first | exact Put.here _ | apply Put.there)) rfl (by rfl) (by first | exact Nat.le_of_ble_eq_true rfl | simp) (by first | exact List.all_eq_true.1 rfl | (intro u hu; simp [Value.cells] at hu; simp_all [Value.oneCell'])) rfl ?_
                      refine Tr.hN ?_
                      refine Tr.hDone (by kernel_rfl) ?_
                      refine Tr.inN ?_
                      refine Tr.thenN ?_
                      apply Tr.joined ⟨addr, 0, 24, 0, 0, 0, (b.getD 1 default).toNat, 0, sz⟩
                      · exact rfl
                      · exact Front.nil
                      · exact SubX.dropN 33 (by kernel_rfl) rfl
                      · exact (by repeat' (first | exact Pick.nil _ | exact Del.here _ | apply Pick.cons | apply Del.there))
                      · exact (by unfold refBodyP kindP; (repeat (first | rw [if_pos (by omega)] | rw [if_neg (by omega)])) <;> rfl)
                    · try simp only [bs] at h11
                      refine Tr.seq ?_
                      refine Tr.region ?_
                      refine Tr.q (QS.move rfl) rfl ?_
                      refine Tr.q (QS.eql rfl rfl) rfl ?_
                      refine Tr.q (QS.assign rfl) rfl ?_
                      refine Tr.nil ?_
                      refine Tr.thenN ?_
                      refine Tr.cond rfl (fun h12 => ?_) (fun h12 => ?_)
                      · try simp only [bs] at h12
                        refine Tr.regionH ([cellE b2 (encIns.enc zeroIns) 36]) 8 rfl HLF.mixed ?_
                        refine Tr.hT 0 rfl (by kernel_rfl) (panicIn (panicThen panicBody)) (QS.move rfl) ?_
                        refine Tr.hT 1 rfl (by kernel_rfl) (panicIn (panicThen panicBody)) (QS.idx rfl rfl (by assumption) Try.underlying54 Try.sizeOf5 (by rfl) (by omega)) ?_
                        refine Tr.hT 2 rfl (by kernel_rfl) (panicIn (panicThen panicBody)) (QS.el1 rfl (by assumption) Try.isAgg5 (by omega) (by rfl)) ?_
                        refine Tr.hT 3 rfl (by kernel_rfl) (panicIn (panicThen panicBody)) (QS.cvt8toI rfl Try.underlying5 Try.underlying3) ?_
                        refine Tr.hT 4 rfl (by kernel_rfl) (panicIn (panicThen panicBody)) (QS.fieldAddr (off := 2) (ft := 3) rfl Try.underlying36 rfl rfl Try.sizeOf3 (by decide)) ?_
                        refine Tr.hAll [5] (by kernel_rfl) (by simp) (fun iq hq => ?_)
                        obtain rfl := List.mem_singleton.1 hq
                        refine Tr.hOp rfl ?_
                        refine Tr.storeV (cs' := [_, _, _, _, _, _, _, _, _]) rfl rfl Try.sizeOf3 (by repeat (first | exact Put.here _ | apply Put.there)) rfl (by rfl) (by first | exact Nat.le_of_ble_eq_true rfl | simp) (by first | exact List.all_eq_true.1 rfl | (intro u hu; simp [Value.cells] at hu; simp_all [Value.oneCell'])) rfl ?_
                        refine Tr.hN ?_
                        refine Tr.hT 6 rfl (by kernel_rfl) (panicIn (panicThen panicBody)) (QS.fieldAddr (off := 6) (ft := 3) rfl Try.underlying36 rfl rfl Try.sizeOf3 (by decide)) ?_
                        refine Tr.hAll [7] (by kernel_rfl) (by simp) (fun iq hq => ?_)
                        obtain rfl := List.mem_singleton.1 hq
                        refine Tr.hOp rfl ?_
                        refine Tr.storeV (cs' := [_, _, _, _, _, _, _, _, _]) rfl rfl Try.sizeOf3 (by repeat (first | exact Put.here _ | apply Put.there)) rfl (by rfl) (by first | exact Nat.le_of_ble_eq_true rfl | simp) (by first | exact List.all_eq_true.1 rfl | (intro u hu; simp [Value.cells] at hu; simp_all [Value.oneCell'])) rfl ?_
                        refine Tr.hN ?_
                        refine Tr.hDone (by kernel_rfl) ?_
                        refine Tr.inN ?_
                        refine Tr.thenN ?_
                        apply Tr.joined ⟨addr, 0, 21, 0, 0, 0, (b.getD 1 default).toNat, 0, sz⟩
                        · exact rfl
                        · exact Front.nil
                        · exact SubX.dropN 36 (by kernel_rfl) rfl
                        · exact (by repeat' (first | exact Pick.nil _ | exact Del.here _ | apply Pick.cons | apply Del.there))
                        · exact (by unfold refBodyP kindP; (repeat (first | rw [if_pos (by omega)] | rw [if_neg (by omega)])) <;> rfl)
                      · try simp only [bs] at h12
                        refine Tr.seq ?_
                        refine Tr.region ?_
                        refine Tr.q (QS.move rfl) rfl ?_
                        refine Tr.q (QS.eql rfl rfl) rfl ?_
                        refine Tr.q (QS.assign rfl) rfl ?_
                        refine Tr.nil ?_
                        refine Tr.thenN ?_
                        refine Tr.cond rfl (fun h13 => ?_) (fun h13 => ?_)
                        · try simp only [bs] at h13
                          refine Tr.regionH ([cellE b2 (encIns.enc zeroIns) 36]) 13 rfl HLF.mixed ?_
                          refine Tr.hT 0 rfl (by kernel_rfl) (panicIn (panicThen panicBody)) (QS.move rfl) ?_
                          refine Tr.hT 1 rfl (by kernel_rfl) (panicIn (panicThen panicBody)) (QS.idx rfl rfl (by assumption) Try.underlying54 Try.sizeOf5 (by rfl) (by omega)) ?_
                          refine Tr.hT 2 rfl (by kernel_rfl) (panicIn (panicThen panicBody)) (QS.el1 rfl (by assumption) Try.isAgg5 (by omega) (by rfl)) ?_
                          refine Tr.hT 3 rfl (by kernel_rfl) (panicIn (panicThen panicBody)) (QS.cvt8toI rfl Try.underlying5 Try.underlying3) ?_
                          refine Tr.hT 4 rfl (by kernel_rfl) (panicIn (panicThen panicBody)) (QS.move rfl) ?_
                          refine Tr.hT 5 rfl (by kernel_rfl) (panicIn (panicThen panicBody)) (QS.slice (lv := some (_, _)) (hv := none) rfl (by assumption) rfl rfl Try.underlying54 Try.sizeOf5 (by rfl) (by simp only [loOf, hiOf] <;> first | omega | assumption | (simp only [NatCast.natCast, Int.ofNat_eq_natCast]; omega)) (by simp only [loOf, hiOf] <;> first | omega | assumption | (simp only [NatCast.natCast, Int.ofNat_eq_natCast]; omega)) (by simp only [loOf, hiOf] <;> first | omega | assumption | (simp only [NatCast.natCast, Int.ofNat_eq_natCast]; omega))) ?_
                          refine Tr.hT 7 rfl (by kernel_rfl) (panicIn (panicThen panicBody)) (QS.fieldAddr (off := 2) (ft := 3) rfl Try.underlying36 rfl rfl Try.sizeOf3 (by decide)) ?_
                          refine Tr.hAll [6] (by kernel_rfl) (by simp) (fun iq hq => ?_)
                          obtain rfl := List.mem_singleton.1 hq
                          refine Tr.hOp rfl ?_
                          refine Tr.q (QS.call rfl Try.call93 (fun w hw => refLong_any ((b.take (b.length : Int).toNat).drop (2 : Int).toNat) _ w (hw.slF (Sl.resl hV' (by omega) (by omega))) (by simp; omega))) rfl ?_
                          refine Tr.hN ?_
                          refine Tr.hAll [8] (by kernel_rfl) (by simp) (fun iq hq => ?_)
                          obtain rfl := List.mem_singleton.1 hq
                          refine Tr.hOp rfl ?_
                          refine Tr.storeV (cs' := [_, _, _, _, _, _, _, _, _]) rfl rfl Try.sizeOf3 (by repeat (first | exact Put.here _ | apply Put.there)) rfl (by rfl) (by first | exact Nat.le_of_ble_eq_true rfl | simp) (by first | exact List.all_eq_true.1 rfl | (intro u hu; simp [Value.cells] at hu; simp_all [Value.oneCell'])) rfl ?_
                          refine Tr.hN ?_
                          refine Tr.hT 9 rfl (by kernel_rfl) (panicIn (panicThen panicBody)) (QS.fieldAddr (off := 6) (ft := 3) rfl Try.underlying36 rfl rfl Try.sizeOf3 (by decide)) ?_
                          refine Tr.hAll [10] (by kernel_rfl) (by simp) (fun iq hq => ?_)
                          obtain rfl := List.mem_singleton.1 hq
                          refine Tr.hOp rfl ?_
                          refine Tr.storeV (cs' := [_, _, _, _, _, _, _, _, _]) rfl rfl Try.sizeOf3 (by repeat (first | exact Put.here _ | apply Put.there)) rfl (by rfl) (by first | exact Nat.le_of_ble_eq_true rfl | simp) (by first | exact List.all_eq_true.1 rfl | (intro u hu; simp [Value.cells] at hu; simp_all [Value.oneCell'])) rfl ?_
                          refine Tr.hN ?_
                          refine Tr.hT 11 rfl (by kernel_rfl) (panicIn (panicThen panicBody)) (QS.fieldAddr (off := 1) (ft := 23) rfl Try.underlying36 rfl rfl Try.sizeOf23 (by decide)) ?_
                          refine Tr.hAll [12] (by kernel_rfl) (by simp) (fun iq hq => ?_)
                          obtain rfl := List.mem_singleton.1 hq
                          refine Tr.hOp rfl ?_
                          refine Tr.storeV (cs' := [_, _, _, _, _, _, _, _, _]) rfl rfl Try.sizeOf23 (by repeat (first | exact Put.here _ | apply Put.there)) rfl (by rfl) (by first | exact Nat.le_of_ble_eq_true rfl | simp) (by first | exact List.all_eq_true.1 rfl | (intro u hu; simp [Value.cells] at hu; simp_all [Value.oneCell'])) rfl ?_
                          refine Tr.hN ?_
                          refine Tr.hDone (by kernel_rfl) ?_
                          refine Tr.inN ?_
                          refine Tr.thenN ?_
                          rw [show longP ((b.take (b.length : Int).toNat).drop (2 : Int).toNat) 0 = longP b 2 from long_drop (k := 2) (by omega)]
                          apply Tr.joined ⟨addr, longP b 2, 22, 0, 0, 0, (b.getD 1 default).toNat, 0, sz⟩
                          · exact rfl
                          · exact Front.nil
                          · exact SubX.dropN 43 (by kernel_rfl) rfl
                          · exact (by repeat' (first | exact Pick.nil _ | exact Del.here _ | apply Pick.cons | apply Del.there))
                          · exact (by unfold refBodyP kindP; (repeat (first | rw [if_pos (by omega)] | rw [if_neg (by omega)])) <;> rfl)
                        · try simp only [bs] at h13
                          refine Tr.seq ?_
                          refine Tr.region ?_
                          refine Tr.q (QS.move rfl) rfl ?_
                          refine Tr.q (QS.leq rfl rfl) rfl ?_
                          refine Tr.q (QS.assign rfl) rfl ?_
                          refine Tr.nil ?_
                          refine Tr.thenN ?_
                          refine Tr.cond rfl (fun h14 => ?_) (fun h14 => ?_)
                          · try simp only [bs] at h14
                            refine Tr.regionH ([cellE b2 (encIns.enc zeroIns) 36]) 12 rfl HLF.mixed ?_
                            refine Tr.hT 0 rfl (by kernel_rfl) (panicIn (panicThen panicBody)) (QS.move rfl) ?_
                            refine Tr.hT 1 rfl (by kernel_rfl) (panicIn (panicThen panicBody)) (QS.subI rfl rfl (by omega)) ?_
                            refine Tr.hT 2 rfl (by kernel_rfl) (panicIn (panicThen panicBody)) (QS.move rfl) ?_
                            refine Tr.hT 3 rfl (by kernel_rfl) (panicIn (panicThen panicBody)) (QS.idx rfl rfl (by assumption) Try.underlying54 Try.sizeOf5 (by rfl) (by omega)) ?_
                            refine Tr.hT 4 rfl (by kernel_rfl) (panicIn (panicThen panicBody)) (QS.el1 rfl (by assumption) Try.isAgg5 (by omega) (by rfl)) ?_
                            refine Tr.hT 5 rfl (by kernel_rfl) (panicIn (panicThen panicBody)) (QS.cvt8toI rfl Try.underlying5 Try.underlying3) ?_
                            refine Tr.hT 6 rfl (by kernel_rfl) (panicIn (panicThen panicBody)) (QS.fieldAddr (off := 2) (ft := 3) rfl Try.underlying36 rfl rfl Try.sizeOf3 (by decide)) ?_
                            refine Tr.hAll [7] (by kernel_rfl) (by simp) (fun iq hq => ?_)
                            obtain rfl := List.mem_singleton.1 hq
                            refine Tr.hOp rfl ?_
                            refine Tr.storeV (cs' := [_, _, _, _, _, _, _, _, _]) rfl rfl Try.sizeOf3 (by repeat (first | exact Put.here _ | apply Put.there)) rfl (by rfl) (by first | exact Nat.le_of_ble_eq_true rfl | simp) (by first | exact List.all_eq_true.1 rfl | (intro u hu; simp [Value.cells] at hu; simp_all [Value.oneCell'])) rfl ?_
                            refine Tr.hN ?_
                            refine Tr.hT 8 rfl (by kernel_rfl) (panicIn (panicThen panicBody)) (QS.fieldAddr (off := 5) (ft := 3) rfl Try.underlying36 rfl rfl Try.sizeOf3 (by decide)) ?_
                            refine Tr.hAll [9] (by kernel_rfl) (by simp) (fun iq hq => ?_)
                            obtain rfl := List.mem_singleton.1 hq
                            refine Tr.hOp rfl ?_
                            refine Tr.storeV (cs' := [_, _, _, _, _, _, _, _, _]) rfl rfl Try.sizeOf3 (by repeat (first | exact Put.here _ | apply Put.there)) rfl (by rfl) (by first | exact Nat.le_of_ble_eq_true rfl | simp) (by first | exact List.all_eq_true.1 rfl | (intro u hu; simp [Value.cells] at hu; simp_all [Value.oneCell'])) rfl ?_
                            refine Tr.hN ?_
                            refine Tr.hT 10 rfl (by kernel_rfl) (panicIn (panicThen panicBody)) (QS.fieldAddr (off := 6) (ft := 3) rfl Try.underlying36 rfl rfl Try.sizeOf3 (by decide)) ?_
                            refine Tr.hAll [11] (by kernel_rfl) (by simp) (fun iq hq => ?_)
                            obtain rfl := List.mem_singleton.1 hq
                            refine Tr.hOp rfl ?_
                            refine Tr.storeV (cs' := [_, _, _, _, _, _, _, _, _]) rfl rfl Try.sizeOf3 (by repeat (first | exact Put.here _ | apply Put.there)) rfl (by rfl) (by first | exact Nat.le_of_ble_eq_true rfl | simp) (by first | exact List.all_eq_true.1 rfl | (intro u hu; simp [Value.cells] at hu; simp_all [Value.oneCell'])) rfl ?_
                            refine Tr.hN ?_
                            refine Tr.hDone (by kernel_rfl) ?_
                            refine Tr.inN ?_
                            refine Tr.thenN ?_
                            apply Tr.joined ⟨addr, 0, 25, 0, 0, c - 144, (b.getD 1 default).toNat, 0, sz⟩
                            · exact rfl
                            · exact Front.nil
                            · exact SubX.dropN 45 (by kernel_rfl) rfl
                            · exact (by repeat' (first | exact Pick.nil _ | exact Del.here _ | apply Pick.cons | apply Del.there))
                            · exact (by unfold refBodyP kindP; (repeat (first | rw [if_pos (by omega)] | rw [if_neg (by omega)])) <;> rfl)
                          · try simp only [bs] at h14
                            refine Tr.seq ?_
                            refine Tr.region ?_
                            refine Tr.q (QS.move rfl) rfl ?_
                            refine Tr.q (QS.eql rfl rfl) rfl ?_
                            refine Tr.q (QS.assign rfl) rfl ?_
                            refine Tr.nil ?_
                            refine Tr.thenN ?_
                            refine Tr.cond rfl (fun h15 => ?_) (fun h15 => ?_)
                            · try simp only [bs] at h15
                              refine Tr.regionH ([cellE b2 (encIns.enc zeroIns) 36]) 8 rfl HLF.mixed ?_
                              refine Tr.hT 0 rfl (by kernel_rfl) (panicIn (panicThen panicBody)) (QS.move rfl) ?_
                              refine Tr.hT 1 rfl (by kernel_rfl) (panicIn (panicThen panicBody)) (QS.idx rfl rfl (by assumption) Try.underlying54 Try.sizeOf5 (by rfl) (by omega)) ?_
                              refine Tr.hT 2 rfl (by kernel_rfl) (panicIn (panicThen panicBody)) (QS.el1 rfl (by assumption) Try.isAgg5 (by omega) (by rfl)) ?_
                              refine Tr.hT 3 rfl (by kernel_rfl) (panicIn (panicThen panicBody)) (QS.cvt8toI rfl Try.underlying5 Try.underlying3) ?_
                              refine Tr.hT 4 rfl (by kernel_rfl) (panicIn (panicThen panicBody)) (QS.fieldAddr (off := 2) (ft := 3) rfl Try.underlying36 rfl rfl Try.sizeOf3 (by decide)) ?_
                              refine Tr.hAll [5] (by kernel_rfl) (by simp) (fun iq hq => ?_)
                              obtain rfl := List.mem_singleton.1 hq
                              refine Tr.hOp rfl ?_
                              refine Tr.storeV (cs' := [_, _, _, _, _, _, _, _, _]) rfl rfl Try.sizeOf3 (by repeat (first | exact Put.here _ | apply Put.there)) rfl (by rfl) (by first | exact Nat.le_of_ble_eq_true rfl | simp) (by first | exact List.all_eq_true.1 rfl | (intro u hu; simp [Value.cells] at hu; simp_all [Value.oneCell'])) rfl ?_
                              refine Tr.hN ?_
                              refine Tr.hT 6 rfl (by kernel_rfl) (panicIn (panicThen panicBody)) (QS.fieldAddr (off := 6) (ft := 3) rfl Try.underlying36 rfl rfl Try.sizeOf3 (by decide)) ?_
                              refine Tr.hAll [7] (by kernel_rfl) (by simp) (fun iq hq => ?_)
                              obtain rfl := List.mem_singleton.1 hq
                              refine Tr.hOp rfl ?_
                              refine Tr.storeV (cs' := [_, _, _, _, _, _, _, _, _]) rfl rfl Try.sizeOf3 (by repeat (first | exact Put.here _ | apply Put.there)) rfl (by rfl) (by first | exact Nat.le_of_ble_eq_true rfl | simp) (by first | exact List.all_eq_true.1 rfl | (intro u hu; simp [Value.cells] at hu; simp_all [Value.oneCell'])) rfl ?_
                              refine Tr.hN ?_
                              refine Tr.hDone (by kernel_rfl) ?_
                              refine Tr.inN ?_
                              refine Tr.thenN ?_
                              apply Tr.joined ⟨addr, 0, 26, 0, 0, 0, (b.getD 1 default).toNat, 0, sz⟩
                              · exact rfl
                              · exact Front.nil
                              · exact SubX.dropN 45 (by kernel_rfl) rfl
                              · exact (by repeat' (first | exact Pick.nil _ | exact Del.here _ | apply Pick.cons | apply Del.there))
                              · exact (by unfold refBodyP kindP; (repeat (first | rw [if_pos (by omega)] | rw [if_neg (by omega)])) <;> rfl)
                            · try simp only [bs] at h15
                              refine Tr.regionH ([cellE b2 (encIns.enc zeroIns) 36]) 8 rfl HLF.mixed ?_
                              refine Tr.hT 0 rfl (by kernel_rfl) (panicIn (panicThen panicBody)) (QS.move rfl) ?_
                              refine Tr.hT 1 rfl (by kernel_rfl) (panicIn (panicThen panicBody)) (QS.idx rfl rfl (by assumption) Try.underlying54 Try.sizeOf5 (by rfl) (by omega)) ?_
                              refine Tr.hT 2 rfl (by kernel_rfl) (panicIn (panicThen panicBody)) (QS.el1 rfl (by assumption) Try.isAgg5 (by omega) (by rfl)) ?_
                              refine Tr.hT 3 rfl (by kernel_rfl) (panicIn (panicThen panicBody)) (QS.cvt8toI rfl Try.underlying5 Try.underlying3) ?_
                              refine Tr.hT 4 rfl (by kernel_rfl) (panicIn (panicThen panicBody)) (QS.fieldAddr (off := 2) (ft := 3) rfl Try.underlying36 rfl rfl Try.sizeOf3 (by decide)) ?_
                              refine Tr.hAll [5] (by kernel_rfl) (by simp) (fun iq hq => ?_)
                              obtain rfl := List.mem_singleton.1 hq
                              refine Tr.hOp rfl ?_
                              refine Tr.storeV (cs' := [_, _, _, _, _, _, _, _, _]) rfl rfl Try.sizeOf3 (by repeat (first | exact Put.here _ | apply Put.there)) rfl (by rfl) (by first | exact Nat.le_of_ble_eq_true rfl | simp) (by first | exact List.all_eq_true.1 rfl | (intro u hu; simp [Value.cells] at hu; simp_all [Value.oneCell'])) rfl ?_
                              refine Tr.hN ?_
                              refine Tr.hT 6 rfl (by kernel_rfl) (panicIn (panicThen panicBody)) (QS.fieldAddr (off := 6) (ft := 3) rfl Try.underlying36 rfl rfl Try.sizeOf3 (by decide)) ?_
                              refine Tr.hAll [7] (by kernel_rfl) (by simp) (fun iq hq => ?_)
                              obtain rfl := List.mem_singleton.1 hq
                              refine Tr.hOp rfl ?_
                              refine Tr.storeV (cs' := [_, _, _, _, _, _, _, _, _]) rfl rfl Try.sizeOf3 (by repeat (first | exact Put.here _ | apply Put.there)) rfl (by rfl) (by first | exact Nat.le_of_ble_eq_true rfl | simp) (by first | exact List.all_eq_true.1 rfl | (intro u hu; simp [Value.cells] at hu; simp_all [Value.oneCell'])) rfl ?_
                              refine Tr.hN ?_
                              refine Tr.hDone (by kernel_rfl) ?_
                              refine Tr.inN ?_
                              refine Tr.thenN ?_
                              apply Tr.joined ⟨addr, 0, 27, 0, 0, 0, (b.getD 1 default).toNat, 0, sz⟩
                              · exact rfl
                              · exact Front.nil
                              · exact SubX.dropN 45 (by kernel_rfl) rfl
                              · exact (by repeat' (first | exact Pick.nil _ | exact Del.here _ | apply Pick.cons | apply Del.there))
                              · exact (by unfold refBodyP kindP; (repeat (first | rw [if_pos (by omega)] | rw [if_neg (by omega)])) <;> rfl)
  · skip
    replace hi : k = refBodyP c b ⟨addr, 0, 0, 0, 0, 0, 0, 0, sz⟩ := hi
    change Tr _ _ [cellE b1 (encIns.enc k) 36, cellE b2 (encIns.enc zeroIns) 36] ([] ++ _) _
    refine Tr.seq ?_
    refine Tr.region ?_
    refine Tr.q (QS.lW rfl Try.isAgg36 Try.sizeOf36) rfl ?_
    refine Tr.storeW rfl rfl Try.sizeOf36 (by repeat (first | exact Put.here _ | apply Put.there)) (by rfl) (by rfl) (by first | exact List.all_eq_true.1 rfl | exact Enc.one _ _ | exact Enc.one encIns _) rfl ?_
    refine Tr.nil ?_
    refine Tr.thenN ?_
    refine Tr.ret ?_
    refine Tr.retC1 Try.results94 rfl (by repeat (first | exact List.Mem.head _ | apply List.Mem.tail)) Try.isAgg36 Try.sizeOf36 (by rfl) (fun w' hw => ?_)
    exact ⟨by rw [hi]; rfl, hw.below (Bg.le.refl _)⟩
set_option maxRecDepth 100000 in
set_option maxHeartbeats 2000000 in
theorem fields_any (b : List UInt8) (V : Value) (addr : UInt32) (sz : Int) (w : World) (hV : Sl (hp w) encU8 b V) (hb : (b.length : Int) = sizedP (b.getD 0 default).toNat) (hz : sizedP (b.getD 0 default).toNat ≠ 0) :
    Calls Try.prog 70 #[V, .agg (encIns.enc ⟨addr, 0, 0, 0, 0, 0, 0, 0, sz⟩).toArray] w (fun e w' => e = .returned (.agg (encIns.enc (refBodyP (b.getD 0 default).toNat b ⟨addr, 0, 0, 0, 0, 0, 0, 0, sz⟩)).toArray) ∧ Ext w w') := by
  have hV' : Sl (Bg.of w).blk encU8 b V := hV
  have hlen := hV.len_le
  have hsp := sizedP_spec (c := ((b.getD 0 default).toNat : Nat))
  have hsz := sizedP_ne hz
  have hc0 := (b.getD 0 default).toNat_lt
  generalize hcc : (((b.getD 0 default).toNat : Nat) : Int) = c at *
  refine enter Try.func70 rfl Try.ntmps70 rfl ?_
  refine Tr.seq ?_
  refine Tr.region ?_
  refine Tr.box rfl rfl rfl (fun b1 => ?_)
  refine Tr.alloc Try.zeroValue36 rfl rfl (fun b2 => ?_)
  refine Tr.nil ?_
  refine Tr.thenN ?_
  refine Tr.seq ?_
  refine Tr.region ?_
  refine Tr.q (QS.move rfl) rfl ?_
  refine Tr.q (QS.idx rfl rfl (by assumption) Try.underlying54 Try.sizeOf5 (by rfl) (by omega)) rfl ?_
  refine Tr.q (QS.el1 rfl (by assumption) Try.isAgg5 (by omega) (by rfl)) rfl ?_
  refine Tr.q (QS.cvt8toI rfl Try.underlying5 Try.underlying3) rfl ?_
  rw [show Int.toNat 0 = 0 from rfl, hcc]
  refine Tr.q (QS.assign rfl) rfl ?_
  refine Tr.nil ?_
  refine Tr.thenN ?_
  refine Tr.seqJ (ι := Ins) (fun k => k = refBodyP c b ⟨addr, 0, 0, 0, 0, 0, 0, 0, sz⟩) (fun _ => Bg.of w) (fun k => [cellE b1 (encIns.enc k) 36, cellE b2 (encIns.enc zeroIns) 36]) (fun k => []) ?_ (fun k hi => ?_)
  · skip
    refine Tr.block ?_
    refine Tr.seq ?_
    refine Tr.region ?_
    refine Tr.q (QS.move rfl) rfl ?_
    refine Tr.q (QS.geq rfl rfl) rfl ?_
    refine Tr.q (QS.move rfl) rfl ?_
    apply Tr.andP
    · exact (rfl : _ = (3, 17, 20))
    · exact rfl
    · intro hT3; have hT3' := hT3
      try simp only [bs] at hT3'
      refine Tr.gq rfl rfl hT3 (QS.move rfl) rfl ?_
      refine Tr.gq rfl rfl hT3 (QS.leq rfl rfl) rfl ?_
      refine Tr.q (QS.pickT rfl hT3 rfl) rfl ?_
      refine Tr.nil (Tr.thenN ?_)
      exact Tr.endX (Sub.cons rfl (Sub.dropN 3 (by kernel_rfl) rfl))
    · intro hF3
      refine Tr.gskip rfl rfl hF3 rfl ?_
      refine Tr.gskip rfl rfl hF3 rfl ?_
      refine Tr.q (QS.pickF rfl hF3 rfl) rfl ?_
      refine Tr.nil (Tr.thenN ?_)
      exact Tr.endX (Sub.cons rfl (Sub.dropN 3 (by kernel_rfl) rfl))
    refine Tr.q (QS.assign rfl) rfl ?_
    refine Tr.nil ?_
    refine Tr.thenN ?_
    refine Tr.cond rfl (fun h4 => ?_) (fun h4 => ?_)
    · try simp only [bs] at h4
      refine Tr.regionH ([cellE b2 (encIns.enc zeroIns) 36]) 21 rfl HLF.mixed ?_
      refine Tr.hT 0 rfl (by kernel_rfl) (panicIn (panicThen panicBody)) (QS.move rfl) ?_
      refine Tr.hT 1 rfl (by kernel_rfl) (panicIn (panicThen panicBody)) (QS.addI rfl rfl (by omega)) ?_
      refine Tr.hT 2 rfl (by kernel_rfl) (panicIn (panicThen panicBody)) (QS.subI rfl rfl (by omega)) ?_
      refine Tr.hT 3 rfl (by kernel_rfl) (panicIn (panicThen panicBody)) (QS.move rfl) ?_
      refine Tr.hT 4 rfl (by kernel_rfl) (panicIn (panicThen panicBody)) (QS.idx rfl rfl (by assumption) Try.underlying54 Try.sizeOf5 (by rfl) (by omega)) ?_
      refine Tr.hT 5 rfl (by kernel_rfl) (panicIn (panicThen panicBody)) (QS.el1 rfl (by assumption) Try.isAgg5 (by omega) (by rfl)) ?_
      refine Tr.hT 6 rfl (by kernel_rfl) (panicIn (panicThen panicBody)) (QS.quo8 (n := 16) rfl rfl (by first | decide | assumption)) ?_
      refine Tr.hT 7 rfl (by kernel_rfl) (panicIn (panicThen panicBody)) (QS.cvt8toI rfl Try.underlying5 Try.underlying3) ?_
      refine Tr.hT 8 rfl (by kernel_rfl) (panicIn (panicThen panicBody)) (QS.move rfl) ?_
      refine Tr.hT 9 rfl (by kernel_rfl) (panicIn (panicThen panicBody)) (QS.idx rfl rfl (by assumption) Try.underlying54 Try.sizeOf5 (by rfl) (by omega)) ?_
      refine Tr.hT 10 rfl (by kernel_rfl) (panicIn (panicThen panicBody)) (QS.el1 rfl (by assumption) Try.isAgg5 (by omega) (by rfl)) ?_
      refine Tr.hT 11 rfl (by kernel_rfl) (panicIn (panicThen panicBody)) (QS.rem8 (n := 16) rfl rfl (by first | decide | assumption)) ?_
      refine Tr.hT 12 rfl (by kernel_rfl) (panicIn (panicThen panicBody)) (QS.cvt8toI rfl Try.underlying5 Try.underlying3) ?_
      refine Tr.hT 13 rfl (by kernel_rfl) (panicIn (panicThen panicBody)) (QS.fieldAddr (off := 2) (ft := 3) rfl Try.underlying36 rfl rfl Try.sizeOf3 (by decide)) ?_
      refine Tr.hAll [14] (by kernel_rfl) (by simp) (fun iq hq => ?_)
      obtain rfl := List.mem_singleton.1 hq
      refine Tr.hOp rfl ?_
      refine Tr.storeV (cs' := [_, _, _, _, _, _, _, _, _]) rfl rfl Try.sizeOf3 (by repeat (first | exact Put.here _ | apply Put.there)) rfl (by rfl) (by first | exact Nat.le_of_ble_eq_true rfl | simp) (by first | exact List.all_eq_true.1 rfl | (intro u hu; simp [Value.cells] at hu; simp_all [Value.oneCell'])) rfl ?_
      refine Tr.hN ?_
      refine Tr.hT 15 rfl (by kernel_rfl) (panicIn (panicThen panicBody)) (QS.fieldAddr (off := 3) (ft := 3) rfl Try.underlying36 rfl rfl Try.sizeOf3 (by decide)) ?_
      refine Tr.hAll [16] (by kernel_rfl) (by simp) (fun iq hq => ?_)
      obtain rfl := List.mem_singleton.1 hq
      refine Tr.hOp rfl ?_
      refine Tr.storeV (cs' := [_, _, _, _, _, _, _, _, _]) rfl rfl Try.sizeOf3 (by repeat (first | exact Put.here _ | apply Put.there)) rfl (by rfl) (by first | exact Nat.le_of_ble_eq_true rfl | simp) (by first | exact List.all_eq_true.1 rfl | (intro u hu; simp [Value.cells] at hu; simp_all [Value.oneCell'])) rfl ?_
      refine Tr.hN ?_
      refine Tr.hT 17 rfl (by kernel_rfl) (panicIn (panicThen panicBody)) (QS.fieldAddr (off := 6) (ft := 3) rfl Try.underlying36 rfl rfl Try.sizeOf3 (by decide)) ?_
      refine Tr.hAll [18] (by kernel_rfl) (by simp) (fun iq hq => ?_)
      obtain rfl := List.mem_singleton.1 hq
      refine Tr.hOp rfl ?_
      refine Tr.storeV (cs' := [_, _, _, _, _, _, _, _, _]) rfl rfl Try.sizeOf3 (by repeat (first | exact Put.here _ | apply Put.there)) rfl (by rfl) (by first | exact Nat.le_of_ble_eq_true rfl | simp) (by first | exact List.all_eq_true.1 rfl | (intro u hu; simp [Value.cells] at hu; simp_all [Value.oneCell'])) rfl ?_
      refine Tr.hN ?_
      refine Tr.hT 19 rfl (by kernel_rfl) (panicIn (panicThen panicBody)) (QS.fieldAddr (off := 7) (ft := 3) rfl Try.underlying36 rfl rfl Try.sizeOf3 (by decide)) ?_
      refine Tr.hAll [20] (by kernel_rfl) (by simp) (fun iq hq => ?_)
      obtain rfl := List.mem_singleton.1 hq
      refine Tr.hOp rfl ?_
      refine Tr.storeV (cs' := [_, _, _, _, _, _, _, _, _]) rfl rfl Try.sizeOf3 (by repeat (first | exact Put.here _ | apply Put.there)) rfl (by rfl) (by first | exact Nat.le_of_ble_eq_true rfl | simp) (by first | exact List.all_eq_true.1 rfl | (intro u hu; simp [Value.cells] at hu; simp_all [Value.oneCell'])) rfl ?_
      refine Tr.hN ?_
      refine Tr.hDone (by kernel_rfl) ?_
      refine Tr.inN ?_
      refine Tr.thenN ?_
      apply Tr.joined ⟨addr, 0, 5 + c - 32, 0, 0, 0, ((b.getD 1 default) / 16).toNat, ((b.getD 1 default) % 16).toNat, sz⟩
      · exact rfl
      · exact Front.nil
      · exact SubX.dropN 22 (by kernel_rfl) rfl
      · exact (by repeat' (first | exact Pick.nil _ | exact Del.here _ | apply Pick.cons | apply Del.there))
      · exact (by unfold refBodyP kindP; (repeat (first | rw [if_pos (by omega)] | rw [if_neg (by omega)])) <;> rfl)
    · try simp only [bs] at h4
      refine Tr.seq ?_
      refine Tr.region ?_
      refine Tr.q (QS.move rfl) rfl ?_
      refine Tr.q (QS.geq rfl rfl) rfl ?_
      refine Tr.q (QS.move rfl) rfl ?_
      apply Tr.andP
      · exact (rfl : _ = (3, 41, 44))
      · exact rfl
      · intro hT5; have hT5' := hT5
        try simp only [bs] at hT5'
        refine Tr.gq rfl rfl hT5 (QS.move rfl) rfl ?_
        refine Tr.gq rfl rfl hT5 (QS.leq rfl rfl) rfl ?_
        refine Tr.q (QS.pickT rfl hT5 rfl) rfl ?_
        refine Tr.nil (Tr.thenN ?_)
        exact Tr.endX (Sub.cons rfl (Sub.dropN 3 (by kernel_rfl) rfl))
      · intro hF5
        refine Tr.gskip rfl rfl hF5 rfl ?_
        refine Tr.gskip rfl rfl hF5 rfl ?_
        refine Tr.q (QS.pickF rfl hF5 rfl) rfl ?_
        refine Tr.nil (Tr.thenN ?_)
        exact Tr.endX (Sub.cons rfl (Sub.dropN 3 (by kernel_rfl) rfl))
      refine Tr.q (QS.assign rfl) rfl ?_
      refine Tr.nil ?_
      refine Tr.thenN ?_
      refine Tr.cond rfl (fun h6 => ?_) (fun h6 => ?_)
      · try simp only [bs] at h6
        refine Tr.regionH ([cellE b2 (encIns.enc zeroIns) 36]) 19 rfl HLF.mixed ?_
        refine Tr.hT 0 rfl (by kernel_rfl) (panicIn (panicThen panicBody)) (QS.move rfl) ?_
        refine Tr.hT 1 rfl (by kernel_rfl) (panicIn (panicThen panicBody)) (QS.addI rfl rfl (by omega)) ?_
        refine Tr.hT 2 rfl (by kernel_rfl) (panicIn (panicThen panicBody)) (QS.subI rfl rfl (by omega)) ?_
        refine Tr.hT 3 rfl (by kernel_rfl) (panicIn (panicThen panicBody)) (QS.move rfl) ?_
        refine Tr.hT 4 rfl (by kernel_rfl) (panicIn (panicThen panicBody)) (QS.idx rfl rfl (by assumption) Try.underlying54 Try.sizeOf5 (by rfl) (by omega)) ?_
        refine Tr.hT 5 rfl (by kernel_rfl) (panicIn (panicThen panicBody)) (QS.el1 rfl (by assumption) Try.isAgg5 (by omega) (by rfl)) ?_
        refine Tr.hT 6 rfl (by kernel_rfl) (panicIn (panicThen panicBody)) (QS.cvt8toI rfl Try.underlying5 Try.underlying3) ?_
        refine Tr.hT 7 rfl (by kernel_rfl) (panicIn (panicThen panicBody)) (QS.move rfl) ?_
        refine Tr.hT 8 rfl (by kernel_rfl) (panicIn (panicThen panicBody)) (QS.idx rfl rfl (by assumption) Try.underlying54 Try.sizeOf5 (by rfl) (by omega)) ?_
        refine Tr.hT 9 rfl (by kernel_rfl) (panicIn (panicThen panicBody)) (QS.el1 rfl (by assumption) Try.isAgg5 (by omega) (by rfl)) ?_
        refine Tr.hT 11 rfl (by kernel_rfl) (panicIn (panicThen panicBody)) (QS.fieldAddr (off := 2) (ft := 3) rfl Try.underlying36 rfl rfl Try.sizeOf3 (by decide)) ?_
        refine Tr.hAll [10] (by kernel_rfl) (by simp) (fun iq hq => ?_)
        obtain rfl := List.mem_singleton.1 hq
        refine Tr.hOp rfl ?_
        refine Tr.q (QS.call rfl Try.call92 (fun w hw => signed_any (b.getD 2 default) w)) rfl ?_
        refine Tr.hN ?_
        refine Tr.hAll [12] (by kernel_rfl) (by simp) (fun iq hq => ?_)
        obtain rfl := List.mem_singleton.1 hq
        refine Tr.hOp rfl ?_
        refine Tr.storeV (cs' := [_, _, _, _, _, _, _, _, _]) rfl rfl Try.sizeOf3 (by repeat (first | exact Put.here _ | apply Put.there)) rfl (by rfl) (by first | exact Nat.le_of_ble_eq_true rfl | simp) (by first | exact List.all_eq_true.1 rfl | (intro u hu; simp [Value.cells] at hu; simp_all [Value.oneCell'])) rfl ?_
        refine Tr.hN ?_
        refine Tr.hT 13 rfl (by kernel_rfl) (panicIn (panicThen panicBody)) (QS.fieldAddr (off := 3) (ft := 3) rfl Try.underlying36 rfl rfl Try.sizeOf3 (by decide)) ?_
        refine Tr.hAll [14] (by kernel_rfl) (by simp) (fun iq hq => ?_)
        obtain rfl := List.mem_singleton.1 hq
        refine Tr.hOp rfl ?_
        refine Tr.storeV (cs' := [_, _, _, _, _, _, _, _, _]) rfl rfl Try.sizeOf3 (by repeat (first | exact Put.here _ | apply Put.there)) rfl (by rfl) (by first | exact Nat.le_of_ble_eq_true rfl | simp) (by first | exact List.all_eq_true.1 rfl | (intro u hu; simp [Value.cells] at hu; simp_all [Value.oneCell'])) rfl ?_
        refine Tr.hN ?_
        refine Tr.hT 15 rfl (by kernel_rfl) (panicIn (panicThen panicBody)) (QS.fieldAddr (off := 6) (ft := 3) rfl Try.underlying36 rfl rfl Try.sizeOf3 (by decide)) ?_
        refine Tr.hAll [16] (by kernel_rfl) (by simp) (fun iq hq => ?_)
        obtain rfl := List.mem_singleton.1 hq
        refine Tr.hOp rfl ?_
        refine Tr.storeV (cs' := [_, _, _, _, _, _, _, _, _]) rfl rfl Try.sizeOf3 (by repeat (first | exact Put.here _ | apply Put.there)) rfl (by rfl) (by first | exact Nat.le_of_ble_eq_true rfl | simp) (by first | exact List.all_eq_true.1 rfl | (intro u hu; simp [Value.cells] at hu; simp_all [Value.oneCell'])) rfl ?_
        refine Tr.hN ?_
        refine Tr.hT 17 rfl (by kernel_rfl) (panicIn (panicThen panicBody)) (QS.fieldAddr (off := 1) (ft := 23) rfl Try.underlying36 rfl rfl Try.sizeOf23 (by decide)) ?_
        refine Tr.hAll [18] (by kernel_rfl) (by simp) (fun iq hq => ?_)
        obtain rfl := List.mem_singleton.1 hq
        refine Tr.hOp rfl ?_
        refine Tr.storeV (cs' := [_, _, _, _, _, _, _, _, _]) rfl rfl Try.sizeOf23 (by repeat (first | exact Put.here _ | apply Put.there)) rfl (by rfl) (by first | exact Nat.le_of_ble_eq_true rfl | simp) (by first | exact List.all_eq_true.1 rfl | (intro u hu; simp [Value.cells] at hu; simp_all [Value.oneCell'])) rfl ?_
        refine Tr.hN ?_
        refine Tr.hDone (by kernel_rfl) ?_
        refine Tr.inN ?_
        refine Tr.thenN ?_
        apply Tr.joined ⟨addr, sextP (b.getD 2 default), 5 + c - 48, 1, 0, 0, (b.getD 1 default).toNat, 0, sz⟩
        · exact rfl
        · exact Front.nil
        · exact SubX.dropN 25 (by kernel_rfl) rfl
        · exact (by repeat' (first | exact Pick.nil _ | exact Del.here _ | apply Pick.cons | apply Del.there))
        · exact (by unfold refBodyP kindP; (repeat (first | rw [if_pos (by omega)] | rw [if_neg (by omega)])) <;> rfl)
      · try simp only [bs] at h6
        refine Tr.seq ?_
        refine Tr.region ?_
        refine Tr.q (QS.move rfl) rfl ?_
        refine Tr.q (QS.geq rfl rfl) rfl ?_
        refine Tr.q (QS.move rfl) rfl ?_
        apply Tr.andP
        · exact (rfl : _ = (3, 63, 66))
        · exact rfl
        · intro hT7; have hT7' := hT7
          try simp only [bs] at hT7'
          refine Tr.gq rfl rfl hT7 (QS.move rfl) rfl ?_
          refine Tr.gq rfl rfl hT7 (QS.leq rfl rfl) rfl ?_
          refine Tr.q (QS.pickT rfl hT7 rfl) rfl ?_
          refine Tr.nil (Tr.thenN ?_)
          exact Tr.endX (Sub.cons rfl (Sub.dropN 3 (by kernel_rfl) rfl))
        · intro hF7
          refine Tr.gskip rfl rfl hF7 rfl ?_
          refine Tr.gskip rfl rfl hF7 rfl ?_
          refine Tr.q (QS.pickF rfl hF7 rfl) rfl ?_
          refine Tr.nil (Tr.thenN ?_)
          exact Tr.endX (Sub.cons rfl (Sub.dropN 3 (by kernel_rfl) rfl))
        refine Tr.q (QS.assign rfl) rfl ?_
        refine Tr.nil ?_
        refine Tr.thenN ?_
        refine Tr.cond rfl (fun h8 => ?_) (fun h8 => ?_)
        · try simp only [bs] at h8
          refine Tr.regionH ([cellE b2 (encIns.enc zeroIns) 36]) 18 rfl HLF.mixed ?_
          refine Tr.hT 0 rfl (by kernel_rfl) (panicIn (panicThen panicBody)) (QS.move rfl) ?_
          refine Tr.hT 1 rfl (by kernel_rfl) (panicIn (panicThen panicBody)) (QS.addI rfl rfl (by omega)) ?_
          refine Tr.hT 2 rfl (by kernel_rfl) (panicIn (panicThen panicBody)) (QS.subI rfl rfl (by omega)) ?_
          refine Tr.hT 3 rfl (by kernel_rfl) (panicIn (panicThen panicBody)) (QS.move rfl) ?_
          refine Tr.hT 4 rfl (by kernel_rfl) (panicIn (panicThen panicBody)) (QS.idx rfl rfl (by assumption) Try.underlying54 Try.sizeOf5 (by rfl) (by omega)) ?_
          refine Tr.hT 5 rfl (by kernel_rfl) (panicIn (panicThen panicBody)) (QS.el1 rfl (by assumption) Try.isAgg5 (by omega) (by rfl)) ?_
          refine Tr.hT 6 rfl (by kernel_rfl) (panicIn (panicThen panicBody)) (QS.cvt8toI rfl Try.underlying5 Try.underlying3) ?_
          refine Tr.hT 7 rfl (by kernel_rfl) (panicIn (panicThen panicBody)) (QS.move rfl) ?_
          refine Tr.hT 8 rfl (by kernel_rfl) (panicIn (panicThen panicBody)) (QS.slice (lv := some (_, _)) (hv := none) rfl (by assumption) rfl rfl Try.underlying54 Try.sizeOf5 (by rfl) (by simp only [loOf, hiOf] <;> first | omega | assumption | (simp only [NatCast.natCast, Int.ofNat_eq_natCast]; omega)) (by simp only [loOf, hiOf] <;> first | omega | assumption | (simp only [NatCast.natCast, Int.ofNat_eq_natCast]; omega)) (by simp only [loOf, hiOf] <;> first | omega | assumption | (simp only [NatCast.natCast, Int.ofNat_eq_natCast]; omega))) ?_
          refine Tr.hT 10 rfl (by kernel_rfl) (panicIn (panicThen panicBody)) (QS.fieldAddr (off := 2) (ft := 3) rfl Try.underlying36 rfl rfl Try.sizeOf3 (by decide)) ?_
          refine Tr.hAll [9] (by kernel_rfl) (by simp) (fun iq hq => ?_)
          obtain rfl := List.mem_singleton.1 hq
          refine Tr.hOp rfl ?_
          refine Tr.q (QS.call rfl Try.call93 (fun w hw => refLong_any ((b.take (b.length : Int).toNat).drop (2 : Int).toNat) _ w (hw.slF (Sl.resl hV' (by omega) (by omega))) (by simp; omega))) rfl ?_
          refine Tr.hN ?_
          refine Tr.hAll [11] (by kernel_rfl) (by simp) (fun iq hq => ?_)
          obtain rfl := List.mem_singleton.1 hq
          refine Tr.hOp rfl ?_
          refine Tr.storeV (cs' := [_, _, _, _, _, _, _, _, _]) rfl rfl Try.sizeOf3 (by repeat (first | exact Put.here _ | apply Put.there)) rfl (by rfl) (by first | exact Nat.le_of_ble_eq_true rfl | simp) (by first | exact List.all_eq_true.1 rfl | (intro u hu; simp [Value.cells] at hu; simp_all [Value.oneCell'])) rfl ?_
          refine Tr.hN ?_
          refine Tr.hT 12 rfl (by kernel_rfl) (panicIn (panicThen panicBody)) (QS.fieldAddr (off := 3) (ft := 3) rfl Try.underlying36 rfl rfl Try.sizeOf3 (by decide)) ?_
          refine Tr.hAll [13] (by kernel_rfl) (by simp) (fun iq hq => ?_)
          obtain rfl := List.mem_singleton.1 hq
          refine Tr.hOp rfl ?_
          refine Tr.storeV (cs' := [_, _, _, _, _, _, _, _, _]) rfl rfl Try.sizeOf3 (by repeat (first | exact Put.here _ | apply Put.there)) rfl (by rfl) (by first | exact Nat.le_of_ble_eq_true rfl | simp) (by first | exact List.all_eq_true.1 rfl | (intro u hu; simp [Value.cells] at hu; simp_all [Value.oneCell'])) rfl ?_
          refine Tr.hN ?_
          refine Tr.hT 14 rfl (by kernel_rfl) (panicIn (panicThen panicBody)) (QS.fieldAddr (off := 6) (ft := 3) rfl Try.underlying36 rfl rfl Try.sizeOf3 (by decide)) ?_
          refine Tr.hAll [15] (by kernel_rfl) (by simp) (fun iq hq => ?_)
          obtain rfl := List.mem_singleton.1 hq
          refine Tr.hOp rfl ?_
          refine Tr.storeV (cs' := [_, _, _, _, _, _, _, _, _]) rfl rfl Try.sizeOf3 (by repeat (first | exact Put.here _ | apply Put.there)) rfl (by rfl) (by first | exact Nat.le_of_ble_eq_true rfl | simp) (by first | exact List.all_eq_true.1 rfl | (intro u hu; simp [Value.cells] at hu; simp_all [Value.oneCell'])) rfl ?_
          refine Tr.hN ?_
          refine Tr.hT 16 rfl (by kernel_rfl) (panicIn (panicThen panicBody)) (QS.fieldAddr (off := 1) (ft := 23) rfl Try.underlying36 rfl rfl Try.sizeOf23 (by decide)) ?_
          refine Tr.hAll [17] (by kernel_rfl) (by simp) (fun iq hq => ?_)
          obtain rfl := List.mem_singleton.1 hq
          refine Tr.hOp rfl ?_
          refine Tr.storeV (cs' := [_, _, _, _, _, _, _, _, _]) rfl rfl Try.sizeOf23 (by repeat (first | exact Put.here _ | apply Put.there)) rfl (by rfl) (by first | exact Nat.le_of_ble_eq_true rfl | simp) (by first | exact List.all_eq_true.1 rfl | (intro u hu; simp [Value.cells] at hu; simp_all [Value.oneCell'])) rfl ?_
          refine Tr.hN ?_
          refine Tr.hDone (by kernel_rfl) ?_
          refine Tr.inN ?_
          refine Tr.thenN ?_
          rw [show longP ((b.take (b.length : Int).toNat).drop (2 : Int).toNat) 0 = longP b 2 from long_drop (k := 2) (by omega)]
          apply Tr.joined ⟨addr, longP b 2, 5 + c - 64, 2, 0, 0, (b.getD 1 default).toNat, 0, sz⟩
          · exact rfl
          · exact Front.nil
          · exact SubX.dropN 29 (by kernel_rfl) rfl
          · exact (by repeat' (first | exact Pick.nil _ | exact Del.here _ | apply Pick.cons | apply Del.there))
          · exact (by unfold refBodyP kindP; (repeat (first | rw [if_pos (by omega)] | rw [if_neg (by omega)])) <;> rfl)
        · try simp only [bs] at h8
          refine Tr.seq ?_
          refine Tr.region ?_
          refine Tr.q (QS.move rfl) rfl ?_
          refine Tr.q (QS.move rfl) rfl ?_
          refine Tr.q (QS.lW rfl Try.isAgg36 Try.sizeOf36) rfl ?_
          refine Tr.q (QS.call rfl Try.call94 (fun w hw => memoryOr_any c b V addr sz w (hw.slF hV) hb (by omega) hz (by omega))) rfl ?_
          refine Tr.storeW rfl rfl Try.sizeOf36 (by repeat (first | exact Put.here _ | apply Put.there)) (by rfl) (by rfl) (by first | exact List.all_eq_true.1 rfl | exact Enc.one _ _ | exact Enc.one encIns _) rfl ?_
          refine Tr.nil ?_
          refine Tr.thenN ?_
          refine Tr.ret ?_
          refine Tr.inR ?_
          refine Tr.thenR ?_
          refine Tr.retC1 Try.results70 rfl (by repeat (first | exact List.Mem.head _ | apply List.Mem.tail)) Try.isAgg36 Try.sizeOf36 (by rfl) (fun w' hw => ?_)
          exact ⟨rfl, hw.below (Bg.le.refl _)⟩
  · skip
    replace hi : k = refBodyP c b ⟨addr, 0, 0, 0, 0, 0, 0, 0, sz⟩ := hi
    change Tr _ _ [cellE b1 (encIns.enc k) 36, cellE b2 (encIns.enc zeroIns) 36] ([] ++ _) _
    refine Tr.seq ?_
    refine Tr.region ?_
    refine Tr.q (QS.lW rfl Try.isAgg36 Try.sizeOf36) rfl ?_
    refine Tr.storeW rfl rfl Try.sizeOf36 (by repeat (first | exact Put.here _ | apply Put.there)) (by rfl) (by rfl) (by first | exact List.all_eq_true.1 rfl | exact Enc.one _ _ | exact Enc.one encIns _) rfl ?_
    refine Tr.nil ?_
    refine Tr.thenN ?_
    refine Tr.ret ?_
    refine Tr.retC1 Try.results70 rfl (by repeat (first | exact List.Mem.head _ | apply List.Mem.tail)) Try.isAgg36 Try.sizeOf36 (by rfl) (fun w' hw => ?_)
    exact ⟨by rw [hi]; rfl, hw.below (Bg.le.refl _)⟩
set_option maxRecDepth 100000 in
set_option maxHeartbeats 2000000 in
theorem refDecode_any (b : List UInt8) (V : Value) (addr : UInt32) (w : World) (hV : Sl (hp w) encU8 b V) :
    Calls Try.prog 34 #[V, .int .u32 addr.toNat] w (fun e w' => e = .returned (.tuple #[.agg (encIns.enc (refDecP b addr).1).toArray, .int .i64 (refDecP b addr).2]) ∧ Ext w w') := by
  have hV' : Sl (Bg.of w).blk encU8 b V := hV
  have hlen := hV.len_le
  have hpos := sizedP_nonneg (((b.getD 0 default).toNat : Nat) : Int)
  refine enter Try.func34 rfl Try.ntmps34 rfl ?_
  refine Tr.seq ?_
  refine Tr.region ?_
  refine Tr.alloc Try.zeroValue36 rfl rfl (fun b1 => ?_)
  refine Tr.q (QS.assign rfl) rfl ?_
  refine Tr.nil ?_
  refine Tr.thenN ?_
  refine Tr.seq ?_
  refine Tr.seq ?_
  refine Tr.region ?_
  refine Tr.q (QS.move rfl) rfl ?_
  refine Tr.q (QS.len rfl (by assumption) Try.underlying54) rfl ?_
  refine Tr.q (QS.eql rfl rfl) rfl ?_
  refine Tr.nil ?_
  refine Tr.thenN ?_
  refine Tr.cond rfl (fun h2 => ?_) (fun h2 => ?_)
  · try simp only [bs] at h2
    refine Tr.seq ?_
    refine Tr.region ?_
    refine Tr.q (QS.build (vs := []) rfl rfl (HLF.built36)) rfl ?_
    refine Tr.storeW rfl rfl Try.sizeOf36 (by repeat (first | exact Put.here _ | apply Put.there)) (by rfl) (by rfl) (by first | exact List.all_eq_true.1 rfl | exact Enc.one _ _ | exact Enc.one encIns _) rfl ?_
    refine Tr.q (QS.assign rfl) rfl ?_
    refine Tr.nil ?_
    refine Tr.thenN ?_
    refine Tr.ret ?_
    refine Tr.thenR ?_
    refine Tr.retC2 Try.results34 rfl rfl (by repeat (first | exact List.Mem.head _ | apply List.Mem.tail)) Try.isAgg36 Try.sizeOf36 (by rfl) (fun w' hw => ?_)
    exact ⟨by unfold refDecP; rw [if_pos (by omega)]; rfl, hw.below (Bg.le.refl _)⟩
  · try simp only [bs] at h2
    refine Tr.skip ?_
    refine Tr.thenN ?_
    refine Tr.seq ?_
    refine Tr.region ?_
    refine Tr.q (QS.move rfl) rfl ?_
    refine Tr.q (QS.idx rfl rfl (by assumption) Try.underlying54 Try.sizeOf5 (by rfl) (by omega)) rfl ?_
    refine Tr.q (QS.el1 rfl (by assumption) Try.isAgg5 (by omega) (by rfl)) rfl ?_
    refine Tr.q (QS.cvt8toI rfl Try.underlying5 Try.underlying3) rfl ?_
    refine Tr.q (QS.call rfl Try.call69 (fun w hw => sized_any (b.getD 0 default).toNat w)) rfl ?_
    generalize hq : sizedP (b.getD 0 default).toNat = n at *
    refine Tr.q (QS.assign rfl) rfl ?_
    refine Tr.nil ?_
    refine Tr.thenN ?_
    refine Tr.seq ?_
    refine Tr.seq ?_
    refine Tr.region ?_
    refine Tr.q (QS.move rfl) rfl ?_
    refine Tr.q (QS.eql rfl rfl) rfl ?_
    refine Tr.nil ?_
    refine Tr.thenN ?_
    refine Tr.cond rfl (fun h3 => ?_) (fun h3 => ?_)
    · try simp only [bs] at h3
      refine Tr.seq ?_
      refine Tr.region ?_
      refine Tr.q (QS.build (vs := []) rfl rfl (HLF.built36)) rfl ?_
      refine Tr.storeW rfl rfl Try.sizeOf36 (by repeat (first | exact Put.here _ | apply Put.there)) (by rfl) (by rfl) (by first | exact List.all_eq_true.1 rfl | exact Enc.one _ _ | exact Enc.one encIns _) rfl ?_
      refine Tr.q (QS.assign rfl) rfl ?_
      refine Tr.nil ?_
      refine Tr.thenN ?_
      refine Tr.ret ?_
      refine Tr.thenR ?_
      refine Tr.retC2 Try.results34 rfl rfl (by repeat (first | exact List.Mem.head _ | apply List.Mem.tail)) Try.isAgg36 Try.sizeOf36 (by rfl) (fun w' hw => ?_)
      exact ⟨by unfold refDecP; rw [if_neg (by omega), if_pos (by rw [hq]; assumption)]; rfl, hw.below (Bg.le.refl _)⟩
    · try simp only [bs] at h3
      refine Tr.skip ?_
      refine Tr.thenN ?_
      refine Tr.seq ?_
      refine Tr.seq ?_
      refine Tr.region ?_
      refine Tr.q (QS.move rfl) rfl ?_
      refine Tr.q (QS.len rfl (by assumption) Try.underlying54) rfl ?_
      refine Tr.q (QS.move rfl) rfl ?_
      refine Tr.q (QS.lss rfl rfl) rfl ?_
      refine Tr.nil ?_
      refine Tr.thenN ?_
      refine Tr.cond rfl (fun h4 => ?_) (fun h4 => ?_)
      · try simp only [bs] at h4
        refine Tr.seq ?_
        refine Tr.region ?_
        refine Tr.q (QS.build (vs := []) rfl rfl (HLF.built36)) rfl ?_
        refine Tr.storeW rfl rfl Try.sizeOf36 (by repeat (first | exact Put.here _ | apply Put.there)) (by rfl) (by rfl) (by first | exact List.all_eq_true.1 rfl | exact Enc.one _ _ | exact Enc.one encIns _) rfl ?_
        refine Tr.q (QS.assign rfl) rfl ?_
        refine Tr.nil ?_
        refine Tr.thenN ?_
        refine Tr.ret ?_
        refine Tr.thenR ?_
        refine Tr.retC2 Try.results34 rfl rfl (by repeat (first | exact List.Mem.head _ | apply List.Mem.tail)) Try.isAgg36 Try.sizeOf36 (by rfl) (fun w' hw => ?_)
        exact ⟨by unfold refDecP; rw [if_neg (by omega), if_neg (by rw [hq]; assumption), if_pos (by rw [hq]; assumption)]; rfl, hw.below (Bg.le.refl _)⟩
      · try simp only [bs] at h4
        refine Tr.skip ?_
        refine Tr.thenN ?_
        refine Tr.seq ?_
        refine Tr.region ?_
        refine Tr.q (QS.move rfl) rfl ?_
        refine Tr.q (QS.move rfl) rfl ?_
        refine Tr.q (QS.slice (lv := none) (hv := some (_, _)) rfl (by assumption) rfl rfl Try.underlying54 Try.sizeOf5 (by rfl) (by simp only [loOf, hiOf] <;> first | omega | assumption | (simp only [NatCast.natCast, Int.ofNat_eq_natCast]; omega)) (by simp only [loOf, hiOf] <;> first | omega | assumption | (simp only [NatCast.natCast, Int.ofNat_eq_natCast]; omega)) (by simp only [loOf, hiOf] <;> first | omega | assumption | (simp only [NatCast.natCast, Int.ofNat_eq_natCast]; omega))) rfl ?_
        refine Tr.q (QS.move rfl) rfl ?_
        refine Tr.q (QS.move rfl) rfl ?_
        refine Tr.q (QS.build (vs := [(0, _), (8, _)]) rfl rfl (HLF.built36_0_8 _ _)) rfl ?_
        refine Tr.q (QS.call rfl Try.call70 (fun w hw => fields_any ((b.take n.toNat).drop 0) _ addr n w (hw.slF (Sl.resl hV' (by omega) (by omega))) (by rw [List.drop_zero]; exact take_size (by omega) (by omega) (take_head (by omega)) hq) (by rw [List.drop_zero, take_head (by omega), hq]; assumption))) rfl ?_
        refine Tr.alloc Try.zeroValue36 rfl rfl (fun b5 => ?_)
        refine Tr.storeW rfl rfl Try.sizeOf36 (by repeat (first | exact Put.here _ | apply Put.there)) (by rfl) (by rfl) (by first | exact List.all_eq_true.1 rfl | exact Enc.one _ _ | exact Enc.one encIns _) rfl ?_
        refine Tr.nil ?_
        refine Tr.thenN ?_
        refine Tr.seq ?_
        refine Tr.seq ?_
        refine Tr.region ?_
        refine Tr.q (QS.fieldAddr (off := 6) (ft := 3) rfl Try.underlying36 rfl rfl Try.sizeOf3 (by decide)) rfl ?_
        refine Tr.q (QS.lV rfl Try.isAgg3) rfl ?_
        refine Tr.q (QS.call rfl Try.call71 (fun w hw => isReg_any _ w)) rfl ?_
        refine Tr.q (QS.not rfl) rfl ?_
        refine Tr.q (QS.move rfl) rfl ?_
        apply Tr.orP
        · exact (rfl : _ = (5, 36, 41))
        · exact rfl
        · intro hF6; have hF6' := hF6
          try simp only [bs] at hF6'
          refine Tr.gq rfl rfl hF6 (QS.fieldAddr (off := 7) (ft := 3) rfl Try.underlying36 rfl rfl Try.sizeOf3 (by decide)) rfl ?_
          refine Tr.gq rfl rfl hF6 (QS.lV rfl Try.isAgg3) rfl ?_
          refine Tr.gq rfl rfl hF6 (QS.call rfl Try.call71 (fun w hw => isReg_any _ w)) rfl ?_
          refine Tr.gq rfl rfl hF6 (QS.not rfl) rfl ?_
          refine Tr.q (QS.pickF rfl hF6 rfl) rfl ?_
          refine Tr.nil (Tr.thenN ?_)
          exact Tr.endX (Sub.cons rfl (Sub.dropN 5 (by kernel_rfl) rfl))
        · intro hT6
          refine Tr.gskip rfl rfl hT6 rfl ?_
          refine Tr.gskip rfl rfl hT6 rfl ?_
          refine Tr.gskip rfl rfl hT6 rfl ?_
          refine Tr.gskip rfl rfl hT6 rfl ?_
          refine Tr.q (QS.pickT rfl hT6 rfl) rfl ?_
          refine Tr.nil (Tr.thenN ?_)
          exact Tr.endX (Sub.cons rfl (Sub.dropN 5 (by kernel_rfl) rfl))
        refine Tr.nil ?_
        refine Tr.thenN ?_
        refine Tr.cond rfl (fun h7 => ?_) (fun h7 => ?_)
        · try simp only [bs] at h7
          refine Tr.seq ?_
          refine Tr.region ?_
          refine Tr.q (QS.build (vs := []) rfl rfl (HLF.built36)) rfl ?_
          refine Tr.storeW rfl rfl Try.sizeOf36 (by repeat (first | exact Put.here _ | apply Put.there)) (by rfl) (by rfl) (by first | exact List.all_eq_true.1 rfl | exact Enc.one _ _ | exact Enc.one encIns _) rfl ?_
          refine Tr.q (QS.assign rfl) rfl ?_
          refine Tr.nil ?_
          refine Tr.thenN ?_
          refine Tr.ret ?_
          refine Tr.thenR ?_
          refine Tr.retC2 Try.results34 rfl rfl (by repeat (first | exact List.Mem.head _ | apply List.Mem.tail)) Try.isAgg36 Try.sizeOf36 (by rfl) (fun w' hw => ?_)
          exact ⟨by unfold refDecP; rw [if_neg (by omega), if_neg (by rw [hq]; assumption), if_neg (by rw [hq]; assumption), hq]; simp only [List.drop_zero, take_head (show 0 < n.toNat by omega)] at *; (first | rw [if_pos (by assumption)] | rw [if_neg (by grind)]); rfl, hw.below (Bg.le.refl _)⟩
        · try simp only [bs] at h7
          refine Tr.skip ?_
          refine Tr.thenN ?_
          refine Tr.seq ?_
          refine Tr.region ?_
          refine Tr.q (QS.lW rfl Try.isAgg36 Try.sizeOf36) rfl ?_
          refine Tr.storeW rfl rfl Try.sizeOf36 (by repeat (first | exact Put.here _ | apply Put.there)) (by rfl) (by rfl) (by first | exact List.all_eq_true.1 rfl | exact Enc.one _ _ | exact Enc.one encIns _) rfl ?_
          refine Tr.q (QS.assign rfl) rfl ?_
          refine Tr.nil ?_
          refine Tr.thenN ?_
          refine Tr.ret ?_
          refine Tr.retC2 Try.results34 rfl rfl (by repeat (first | exact List.Mem.head _ | apply List.Mem.tail)) Try.isAgg36 Try.sizeOf36 (by rfl) (fun w' hw => ?_)
          exact ⟨by unfold refDecP; rw [if_neg (by omega), if_neg (by rw [hq]; assumption), if_neg (by rw [hq]; assumption), hq]; simp only [List.drop_zero, take_head (show 0 < n.toNat by omega)] at *; (first | rw [if_pos (by assumption)] | rw [if_neg (by grind)]); rfl, hw.below (Bg.le.refl _)⟩
end Go.Proofs.Ytfnedefgepjbpaa
namespace Go.HL
open Go
theorem u32_self (a : UInt32) : u32 (a.toNat : Int) = a := by
  have := u32_val (n := (a.toNat : Int)) (by have := a.toNat_lt; omega)
  exact UInt32.toNat_inj.1 (by omega)
def lowR (a : Int) (s : SecV) : Int := if (s.addr.toNat : Int) < a then a else s.addr.toNat
def stepR (a best : Int) (s : SecV) : Int := if lowR a s < endP s ∧ (best < 0 ∨ lowR a s < best) then lowR a s else best
/-- The least address from a on that is in a section, or -1. -/
def nextR (l : List SecV) (a : Int) : Int := l.foldl (stepR a) (-1)
theorem lowR_rng {a : Int} (h : 0 ≤ a ∧ a ≤ 4294967300) (s : SecV) : 0 ≤ lowR a s ∧ lowR a s ≤ 4294967300 := by
  have := s.addr.toNat_lt
  unfold lowR; split <;> omega
theorem stepR_rng {a best : Int} (h : 0 ≤ a ∧ a ≤ 4294967300) (hb : -1 ≤ best ∧ best ≤ 4294967300) (s : SecV) : -1 ≤ stepR a best s ∧ stepR a best s ≤ 4294967300 := by
  have := lowR_rng h s
  unfold stepR; split <;> omega
theorem foldl_take_succ11 {α β : Type} [Inhabited α] {f : β → α → β} {b : β} {k : Nat} {l : List α} (h : k < l.length) : (l.take (k + 1)).foldl f b = f ((l.take k).foldl f b) (l.getD k default) := by
  rw [take_succ h, List.foldl_append]; rfl
/-- What the folding keeps: the least so far. -/
theorem nextR_spec {a : Int} (ha : 0 ≤ a) : ∀ (l : List SecV) (best : Int), (best = -1 ∨ a ≤ best) →
    let r := l.foldl (stepR a) best
    (r = -1 ∨ a ≤ r) ∧ (r = best ∨ ∃ s ∈ l, r = lowR a s ∧ lowR a s < endP s) ∧ (0 ≤ best → 0 ≤ r ∧ r ≤ best) ∧ ∀ s ∈ l, lowR a s < endP s → 0 ≤ r ∧ r ≤ lowR a s
  | [], best, hb => ⟨hb, .inl rfl, fun h => ⟨h, Int.le_refl _⟩, fun s hs => by cases hs⟩
  | s :: l, best, hb => by
    have hl : a ≤ lowR a s := by unfold lowR; split <;> omega
    have hb2 : stepR a best s = -1 ∨ a ≤ stepR a best s := by unfold stepR; split <;> omega
    obtain ⟨q1, q2, q3, q4⟩ := nextR_spec ha l (stepR a best s) hb2
    refine ⟨q1, ?_, fun h => ?_, fun x hx hlt => ?_⟩
    · rcases q2 with q2 | ⟨x, hx, q2⟩
      · have e : (s :: l).foldl (stepR a) best = stepR a best s := q2
        show (s :: l).foldl (stepR a) best = best ∨ _
        rw [e]
        unfold stepR
        split
        · rename_i h; exact .inr ⟨s, .head _, rfl, h.1⟩
        · exact .inl rfl
      · exact .inr ⟨x, .tail _ hx, q2⟩
    · have : 0 ≤ stepR a best s ∧ stepR a best s ≤ best := by unfold stepR; split <;> omega
      have := q3 this.1
      show 0 ≤ l.foldl (stepR a) (stepR a best s) ∧ l.foldl (stepR a) (stepR a best s) ≤ best
      omega
    · rcases List.mem_cons.1 hx with rfl | hx
      · have h2 : 0 ≤ stepR a best x ∧ stepR a best x ≤ lowR a x := by unfold stepR; split <;> omega
        have := q3 h2.1
        show 0 ≤ l.foldl (stepR a) (stepR a best x) ∧ l.foldl (stepR a) (stepR a best x) ≤ lowR a x
        omega
      · exact q4 x hx hlt
end Go.HL
namespace Go.Proofs.Ytfnedefgepjbpaa
open Go Go.HL Go.RowKit
set_option maxRecDepth 100000 in
set_option maxHeartbeats 2000000 in
theorem nextR_any (l : List SecV) (V : Value) (a : Int) (w : World) (hV : Sl (hp w) encSec l V) (hB : SecB l) (ha : 0 ≤ a ∧ a ≤ 4294967300) :
    Calls Try.prog 33 #[V, .int .i64 a] w (fun e w' => e = .returned (.int .i64 (nextR l a)) ∧ Ext w w') := by
  have hV' : Sl (Bg.of w).blk encSec l V := hV
  have hlen := hB.1
  refine enter Try.func33 rfl Try.ntmps33 rfl ?_
  refine Tr.seq ?_
  refine Tr.region ?_
  refine Tr.q (QS.assign rfl) rfl ?_
  refine Tr.nil ?_
  refine Tr.thenN ?_
  refine Tr.seq ?_
  refine Tr.region ?_
  refine Tr.q (QS.assign rfl) rfl ?_
  refine Tr.nil ?_
  refine Tr.thenN ?_
  refine Tr.seq ?_
  refine Tr.seq ?_
  refine Tr.region ?_
  refine Tr.q (QS.assign rfl) rfl ?_
  refine Tr.nil ?_
  refine Tr.thenN ?_
  refine Tr.block ?_
  refine Tr.loop (ι := Nat × Int) (fun ⟨k, best⟩ => k ≤ l.length ∧ best = (l.take k).foldl (stepR a) (-1) ∧ -1 ≤ best ∧ best ≤ 4294967300) (fun _ => _) (fun ⟨k, best⟩ => []) (fun ⟨k, best⟩ => [(6, .int .i64 (k : Nat)), (5, .int .i64 best)]) (fun ⟨k, best⟩ => l.length - k) (0, -1) ⟨Nat.zero_le _, rfl, by omega, by omega⟩ (.cons (by first | rfl | exact lookI rfl (by omega) | exact lookI rfl (by simp) | exact lookB rfl (by simp)) (.cons (by first | rfl | exact lookI rfl (by omega) | exact lookI rfl (by simp) | exact lookB rfl (by simp)) Front.nil)) (by repeat' (first | exact Pick.nil _ | exact Del.here _ | apply Pick.cons | apply Del.there)) rfl (fun i hi m hm => ?_)
  obtain ⟨k, best⟩ := i
  replace hi : k ≤ l.length ∧ best = (l.take k).foldl (stepR a) (-1) ∧ -1 ≤ best ∧ best ≤ 4294967300 := hi
  replace hm : m = l.length - k := hm
  change Tr _ _ [] ([(6, .int .i64 (k : Nat)), (5, .int .i64 best)] ++ _) _
  obtain ⟨hk1, hk2, hk3, hk4⟩ := hi
  have hadr := (l.getD k default).addr.toNat_lt
  have hdl : k < l.length → (l.getD k default).data.length ≤ 200000 := fun q => hB.at q
  have hlr := lowR_rng ha (l.getD k default)
  have hsr := stepR_rng ha ⟨hk3, hk4⟩ (l.getD k default)
  refine Tr.seq ?_
  refine Tr.seq ?_
  refine Tr.region ?_
  refine Tr.q (QS.move rfl) rfl ?_
  refine Tr.q (QS.move rfl) rfl ?_
  refine Tr.q (QS.len rfl (by assumption) Try.underlying22) rfl ?_
  refine Tr.q (QS.lss rfl rfl) rfl ?_
  refine Tr.nil ?_
  refine Tr.thenN ?_
  refine Tr.cond rfl (fun h1 => ?_) (fun h1 => ?_)
  · try simp only [bs] at h1
    refine Tr.skip ?_
    refine Tr.thenN ?_
    refine Tr.seq ?_
    refine Tr.block ?_
    refine Tr.seq ?_
    refine Tr.region ?_
    refine Tr.q (QS.move rfl) rfl ?_
    refine Tr.q (QS.move rfl) rfl ?_
    refine Tr.q (QS.idxN rfl rfl (by assumption) Try.underlying22 Try.sizeOf59 (by rfl) (by omega)) rfl ?_
    refine Tr.q (QS.fieldAddr (off := 1) (ft := 23) rfl Try.underlying59 rfl rfl Try.sizeOf23 (by decide)) rfl ?_
    refine Tr.q (QS.elF rfl (by assumption) Try.isAgg23 (by omega) (by rfl)) rfl ?_
    refine Tr.q (QS.cvt32toI rfl Try.underlying23 Try.underlying3) rfl ?_
    refine Tr.q (QS.assign rfl) rfl ?_
    refine Tr.nil ?_
    refine Tr.thenN ?_
    refine Tr.seq ?_
    refine Tr.region ?_
    refine Tr.q (QS.move rfl) rfl ?_
    refine Tr.q (QS.move rfl) rfl ?_
    refine Tr.q (QS.move rfl) rfl ?_
    refine Tr.q (QS.idxN rfl rfl (by assumption) Try.underlying22 Try.sizeOf59 (by rfl) (by omega)) rfl ?_
    refine Tr.q (QS.fieldAddr (off := 2) (ft := 54) rfl Try.underlying59 rfl rfl Try.sizeOf54 (by decide)) rfl ?_
    refine Tr.q (QS.elF rfl (by assumption) Try.isAgg54 (by omega) (by rfl)) rfl ?_
    refine Tr.q (QS.lenNil rfl Try.underlying54) rfl ?_
    refine Tr.q (QS.addI rfl rfl (by omega)) rfl ?_
    refine Tr.q (QS.assign rfl) rfl ?_
    refine Tr.nil ?_
    refine Tr.thenN ?_
    refine Tr.seqJ (ι := Int) (fun e2 => e2 = endP (l.getD k default)) (fun _ => Bg.of w) (fun e2 => []) (fun e2 => [(8, .int .i64 e2)]) ?_ (fun e2 hi => ?_)
    · skip
      refine Tr.seq ?_
      refine Tr.region ?_
      refine Tr.q (QS.move rfl) rfl ?_
      refine Tr.q (QS.gtr rfl rfl) rfl ?_
      refine Tr.nil ?_
      refine Tr.thenN ?_
      refine Tr.cond rfl (fun h2 => ?_) (fun h2 => ?_)
      · try simp only [bs] at h2
        refine Tr.region ?_
        refine Tr.q (QS.assign rfl) rfl ?_
        refine Tr.nil ?_
        refine Tr.thenN ?_
        apply Tr.joined 4294967295
        · exact rfl
        · exact (.cons (by first | rfl | exact lookI rfl (by omega) | exact lookI rfl (by simp) | exact lookB rfl (by simp)) Front.nil)
        · exact SubX.dropN 3 (by kernel_rfl) rfl
        · exact (by repeat' (first | exact Pick.nil _ | exact Del.here _ | apply Pick.cons | apply Del.there))
        · exact (by unfold endP; omega)
      · try simp only [bs] at h2
        refine Tr.skip ?_
        refine Tr.thenN ?_
        apply Tr.joined _
        · exact rfl
        · exact (.cons (by first | rfl | exact lookI rfl (by omega) | exact lookI rfl (by simp) | exact lookB rfl (by simp)) Front.nil)
        · exact SubX.dropN 2 (by kernel_rfl) rfl
        · exact (by repeat' (first | exact Pick.nil _ | exact Del.here _ | apply Pick.cons | apply Del.there))
        · exact (by unfold endP; omega)
    · skip
      replace hi : e2 = endP (l.getD k default) := hi
      change Tr _ _ [] ([(8, .int .i64 e2)] ++ _) _
      have he2 : e2 = endP (l.getD k default) := hi
      have hen := endP_rng (l.getD k default)
      refine Tr.seqJ (ι := Int) (fun x2 => x2 = lowR a (l.getD k default)) (fun _ => Bg.of w) (fun x2 => []) (fun x2 => [(7, .int .i64 x2)]) ?_ (fun x2 hi => ?_)
      · skip
        refine Tr.seq ?_
        refine Tr.region ?_
        refine Tr.q (QS.move rfl) rfl ?_
        refine Tr.q (QS.move rfl) rfl ?_
        refine Tr.q (QS.lss rfl rfl) rfl ?_
        refine Tr.nil ?_
        refine Tr.thenN ?_
        refine Tr.cond rfl (fun h3 => ?_) (fun h3 => ?_)
        · try simp only [bs] at h3
          refine Tr.region ?_
          refine Tr.q (QS.move rfl) rfl ?_
          refine Tr.q (QS.assign rfl) rfl ?_
          refine Tr.nil ?_
          refine Tr.thenN ?_
          apply Tr.joined a
          · exact rfl
          · exact (.cons (by first | rfl | exact lookI rfl (by omega) | exact lookI rfl (by simp) | exact lookB rfl (by simp)) Front.nil)
          · exact SubX.dropN 5 (by kernel_rfl) rfl
          · exact (by repeat' (first | exact Pick.nil _ | exact Del.here _ | apply Pick.cons | apply Del.there))
          · exact (by unfold lowR; rw [if_pos (by assumption)])
        · try simp only [bs] at h3
          refine Tr.skip ?_
          refine Tr.thenN ?_
          apply Tr.joined _
          · exact rfl
          · exact (.cons (by first | rfl | exact lookI rfl (by omega) | exact lookI rfl (by simp) | exact lookB rfl (by simp)) Front.nil)
          · exact SubX.dropN 3 (by kernel_rfl) rfl
          · exact (by repeat' (first | exact Pick.nil _ | exact Del.here _ | apply Pick.cons | apply Del.there))
          · exact (by unfold lowR; rw [if_neg (by assumption)])
      · skip
        replace hi : x2 = lowR a (l.getD k default) := hi
        change Tr _ _ [] ([(7, .int .i64 x2)] ++ _) _
        have hx2 : x2 = lowR a (l.getD k default) := hi
        refine Tr.seq ?_
        refine Tr.region ?_
        refine Tr.q (QS.move rfl) rfl ?_
        refine Tr.q (QS.move rfl) rfl ?_
        refine Tr.q (QS.lss rfl rfl) rfl ?_
        refine Tr.q (QS.move rfl) rfl ?_
        apply Tr.andP
        · exact (rfl : _ = (8, 38, 46))
        · exact rfl
        · intro hT4; have hT4' := hT4
          try simp only [bs] at hT4'
          refine Tr.gq rfl rfl hT4 (QS.move rfl) rfl ?_
          refine Tr.gq rfl rfl hT4 (QS.lss rfl rfl) rfl ?_
          refine Tr.gq rfl rfl hT4 (QS.move rfl) rfl ?_
          apply Tr.orP
          · exact (rfl : _ = (4, 41, 45))
          · exact rfl
          · intro hF5; have hF5' := hF5
            try simp only [bs] at hF5'
            refine Tr.gq rfl rfl hF5 (QS.move rfl) rfl ?_
            refine Tr.gq rfl rfl hF5 (QS.move rfl) rfl ?_
            refine Tr.gq rfl rfl hF5 (QS.lss rfl rfl) rfl ?_
            refine Tr.gq rfl rfl hT4 (QS.pickF rfl hF5 rfl) rfl ?_
            refine Tr.nil (Tr.thenN ?_)
            exact Tr.endX (Sub.cons rfl (Sub.dropN 4 (by kernel_rfl) rfl))
          · intro hT5
            refine Tr.gskip rfl rfl hT5 rfl ?_
            refine Tr.gskip rfl rfl hT5 rfl ?_
            refine Tr.gskip rfl rfl hT5 rfl ?_
            refine Tr.gq rfl rfl hT4 (QS.pickT rfl hT5 rfl) rfl ?_
            refine Tr.nil (Tr.thenN ?_)
            exact Tr.endX (Sub.cons rfl (Sub.dropN 4 (by kernel_rfl) rfl))
          refine Tr.q (QS.pickT rfl hT4 rfl) rfl ?_
          refine Tr.nil (Tr.thenN ?_)
          exact Tr.endX (Sub.cons rfl (Sub.dropN 5 (by kernel_rfl) rfl))
        · intro hF4
          refine Tr.gskip rfl rfl hF4 rfl ?_
          refine Tr.gskip rfl rfl hF4 rfl ?_
          refine Tr.gskip rfl rfl hF4 rfl ?_
          refine Tr.gskipU rfl rfl rfl ?_
          refine Tr.gskipU rfl rfl rfl ?_
          refine Tr.gskipU rfl rfl rfl ?_
          refine Tr.gskip rfl rfl hF4 rfl ?_
          refine Tr.q (QS.pickF rfl hF4 rfl) rfl ?_
          refine Tr.nil (Tr.thenN ?_)
          exact Tr.endX (Sub.cons rfl (Sub.dropN 8 (by kernel_rfl) rfl))
        refine Tr.nil ?_
        refine Tr.thenN ?_
        refine Tr.cond rfl (fun h6 => ?_) (fun h6 => ?_)
        · try simp only [bs] at h6
          refine Tr.region ?_
          refine Tr.q (QS.move rfl) rfl ?_
          refine Tr.q (QS.assign rfl) rfl ?_
          refine Tr.nil ?_
          refine Tr.inN ?_
          refine Tr.thenN ?_
          refine Tr.region ?_
          refine Tr.q (QS.move rfl) rfl ?_
          refine Tr.q (QS.addI rfl rfl (by omega)) rfl ?_
          refine Tr.q (QS.assign rfl) rfl ?_
          refine Tr.nil ?_
          refine Tr.thenN ?_
          have hst : stepR a best (l.getD k default) = x2 := by rw [hx2] at h6 ⊢; rw [he2] at h6; unfold stepR; rw [if_pos h6]
          have hfo := foldl_take_succ11 (f := stepR a) (b := (-1 : Int)) (l := l) (k := k) (by omega)
          rw [← hk2, hst] at hfo
          apply Tr.again (k + 1, x2)
          · exact rfl
          · exact (.cons (by first | rfl | exact lookI rfl (by omega) | exact lookI rfl (by simp) | exact lookB rfl (by simp)) (.cons (by first | rfl | exact lookI rfl (by omega) | exact lookI rfl (by simp) | exact lookB rfl (by simp)) Front.nil))
          · exact SubX.dropN 34 (by kernel_rfl) rfl
          · exact (by repeat' (first | exact Pick.nil _ | exact Del.here _ | apply Pick.cons | apply Del.there))
          · exact ⟨by omega, hfo.symm, by omega, by omega⟩
          · exact (by (try dsimp only); omega)
        · try simp only [bs] at h6
          refine Tr.skip ?_
          refine Tr.inN ?_
          refine Tr.thenN ?_
          refine Tr.region ?_
          refine Tr.q (QS.move rfl) rfl ?_
          refine Tr.q (QS.addI rfl rfl (by omega)) rfl ?_
          refine Tr.q (QS.assign rfl) rfl ?_
          refine Tr.nil ?_
          refine Tr.thenN ?_
          have hst : stepR a best (l.getD k default) = best := by rw [hx2, he2] at h6; unfold stepR; rw [if_neg (fun q => by rcases h6 with h6 | h6 <;> omega)]
          have hfo := foldl_take_succ11 (f := stepR a) (b := (-1 : Int)) (l := l) (k := k) (by omega)
          rw [← hk2, hst] at hfo
          apply Tr.again (k + 1, best)
          · exact rfl
          · exact (.cons (by first | rfl | exact lookI rfl (by omega) | exact lookI rfl (by simp) | exact lookB rfl (by simp)) (.cons (by first | rfl | exact lookI rfl (by omega) | exact lookI rfl (by simp) | exact lookB rfl (by simp)) Front.nil))
          · exact SubX.dropN 32 (by kernel_rfl) rfl
          · exact (by repeat' (first | exact Pick.nil _ | exact Del.here _ | apply Pick.cons | apply Del.there))
          · exact ⟨by omega, hfo.symm, hk3, hk4⟩
          · exact (by (try dsimp only); omega)
  · try simp only [bs] at h1
    refine Tr.exit ?_
    refine Tr.thenE ?_
    refine Tr.thenE ?_
    refine Tr.inHit ?_
    refine Tr.thenN ?_
    refine Tr.seq ?_
    refine Tr.region ?_
    refine Tr.q (QS.move rfl) rfl ?_
    refine Tr.q (QS.assign rfl) rfl ?_
    refine Tr.nil ?_
    refine Tr.thenN ?_
    refine Tr.ret ?_
    refine Tr.ret1 Try.results33 rfl (fun w' hw => ?_)
    exact ⟨by rw [hk2, List.take_of_length_le (by omega)]; rfl, hw.below (Bg.le.refl _)⟩
set_option maxRecDepth 100000 in
set_option maxHeartbeats 2000000 in
theorem bytesR_any (l : List SecV) (V : Value) (a to_ : UInt32) (w : World) (hV : Sl (hp w) encSec l V) (hB : SecB l) (hD : DataIn (hp w) l) (hf : 0 ≤ findP l a) (hat : a < to_) :
    Calls Try.prog 35 #[V, .int .i64 (a.toNat : Int), .int .i64 (to_.toNat : Int)] w (fun e w' => ∃ V', e = .returned V' ∧ Ext w w' ∧ NewRow w w' 5 encU8 (winP l a to_) V') := by
  have hV' : Sl (Bg.of w).blk encSec l V := hV
  have hlen := hB.1
  have hfl := findP_lt (l := l) (a := a)
  have ha := a.toNat_lt
  have ht := to_.toNat_lt
  have hat' := UInt32.lt_iff_toNat_lt.1 hat
  have hin := inS_iff.1 (findP_in (l := l) (a := a) (by omega))
  obtain ⟨s, hs⟩ : ∃ s, s = l.getD (findP l a).toNat default := ⟨_, rfl⟩
  have hdl := hB.at (k := (findP l a).toNat) (by omega)
  have hDk : Sl (Bg.of w).blk encU8 (l.getD (findP l a).toNat default).data (.slice (l.getD (findP l a).toNat default).dp (l.getD (findP l a).toNat default).data.length (l.getD (findP l a).toNat default).dc) := hD _ (mem_getD (by omega))
  rw [← hs] at hin hdl hDk
  have hen : endP s ≤ (s.addr.toNat : Int) + s.data.length := by unfold endP; omega
  have hsub : (a - s.addr).toNat = a.toNat - s.addr.toNat := UInt32.toNat_sub_of_le _ _ (UInt32.le_iff_toNat_le.2 hin.1)
  have htsub : (to_ - a).toNat = to_.toNat - a.toNat := UInt32.toNat_sub_of_le _ _ (UInt32.le_iff_toNat_le.2 (by omega))
  have hdr : (s.data.drop (a - s.addr).toNat).length = s.data.length - (a - s.addr).toNat := List.length_drop
  refine enter Try.func35 rfl Try.ntmps35 rfl ?_
  refine Tr.seq ?_
  refine Tr.region ?_
  refine Tr.q (QS.assign rfl) rfl ?_
  refine Tr.nil ?_
  refine Tr.thenN ?_
  refine Tr.seq ?_
  refine Tr.region ?_
  refine Tr.q (QS.move rfl) rfl ?_
  refine Tr.q (QS.move rfl) rfl ?_
  refine Tr.q (QS.move rfl) rfl ?_
  refine Tr.q (QS.cvtTo32 rfl Try.underlying3 Try.underlying23) rfl ?_
  refine Tr.q (QS.call rfl Try.call72 (fun w hw => (by rw [u32_self]; exact refFind_any l V a w (hw.slF hV) hB))) rfl ?_
  refine Tr.q (QS.idx rfl rfl (by assumption) Try.underlying22 Try.sizeOf59 (by rfl) (by omega)) rfl ?_
  refine Tr.q (QS.elA rfl (by assumption) Try.isAgg59 Try.sizeOf59 (by rfl) (by omega)) rfl ?_
  rw [← hs]
  refine Tr.alloc Try.zeroValue59 rfl rfl (fun b1 => ?_)
  refine Tr.storeW rfl rfl Try.sizeOf59 (by repeat (first | exact Put.here _ | apply Put.there)) (by rfl) (by rfl) (by first | exact List.all_eq_true.1 rfl | exact Enc.one _ _ | exact Enc.one encSec _) rfl ?_
  refine Tr.nil ?_
  refine Tr.thenN ?_
  refine Tr.seq ?_
  refine Tr.region ?_
  refine Tr.q (QS.assign rfl) rfl ?_
  refine Tr.nil ?_
  refine Tr.thenN ?_
  refine Tr.seq ?_
  refine Tr.seq ?_
  refine Tr.region ?_
  refine Tr.q (QS.assign rfl) rfl ?_
  refine Tr.nil ?_
  refine Tr.thenN ?_
  refine Tr.block ?_
  refine Tr.ownNil 5 encU8 ?_
  refine Tr.loop (ι := Nat × Value) (fun ⟨i, V'⟩ => (i : Int) ≤ winN s a to_) (fun _ => _) (fun ⟨i, V'⟩ => [rowE V' 5 encU8 ((s.data.drop (a - s.addr).toNat).take i), cellE b1 (encSec.enc s) 59]) (fun ⟨i, V'⟩ => [(9, .int .i64 (i : Nat)), (8, V')]) (fun ⟨i, V'⟩ => 6 - i) (0, _) (by show ((0 : Nat) : Int) ≤ winN s a to_; unfold winN; omega) (.cons (by first | rfl | exact lookI rfl (by omega) | exact lookI rfl (by simp) | exact lookB rfl (by simp)) (.cons (by first | rfl | exact lookI rfl (by omega) | exact lookI rfl (by simp) | exact lookB rfl (by simp)) Front.nil)) (by repeat' (first | exact Pick.nil _ | exact Del.here _ | apply Pick.cons | apply Del.there)) rfl (fun i hi m hm => ?_)
  obtain ⟨i, V'⟩ := i
  replace hi : (i : Int) ≤ winN s a to_ := hi
  replace hm : m = 6 - i := hm
  change Tr _ _ [rowE V' 5 encU8 ((s.data.drop (a - s.addr).toNat).take i), cellE b1 (encSec.enc s) 59] ([(9, .int .i64 (i : Nat)), (8, V')] ++ _) _
  have hi6 : (i : Int) ≤ 6 := by unfold winN at hi; omega
  have htl : ((s.data.drop (a - s.addr).toNat).take i).length ≤ 6 := by rw [List.length_take]; omega
  refine Tr.seq ?_
  refine Tr.seq ?_
  refine Tr.region ?_
  refine Tr.q (QS.move rfl) rfl ?_
  refine Tr.q (QS.lss rfl rfl) rfl ?_
  refine Tr.q (QS.move rfl) rfl ?_
  apply Tr.andP
  · exact (rfl : _ = (6, 19, 25))
  · exact rfl
  · intro hT2; have hT2' := hT2
    try simp only [bs] at hT2'
    refine Tr.gq rfl rfl hT2 (QS.move rfl) rfl ?_
    refine Tr.gq rfl rfl hT2 (QS.move rfl) rfl ?_
    refine Tr.gq rfl rfl hT2 (QS.addI rfl rfl (by omega)) rfl ?_
    refine Tr.gq rfl rfl hT2 (QS.move rfl) rfl ?_
    refine Tr.gq rfl rfl hT2 (QS.lss rfl rfl) rfl ?_
    refine Tr.q (QS.pickT rfl hT2 rfl) rfl ?_
    refine Tr.nil (Tr.thenN ?_)
    exact Tr.endX (Sub.cons rfl (Sub.dropN 6 (by kernel_rfl) rfl))
  · intro hF2
    refine Tr.gskip rfl rfl hF2 rfl ?_
    refine Tr.gskip rfl rfl hF2 rfl ?_
    refine Tr.gskip rfl rfl hF2 rfl ?_
    refine Tr.gskip rfl rfl hF2 rfl ?_
    refine Tr.gskip rfl rfl hF2 rfl ?_
    refine Tr.q (QS.pickF rfl hF2 rfl) rfl ?_
    refine Tr.nil (Tr.thenN ?_)
    exact Tr.endX (Sub.cons rfl (Sub.dropN 6 (by kernel_rfl) rfl))
  refine Tr.q (QS.move rfl) rfl ?_
  apply Tr.andP
  · exact (rfl : _ = (12, 26, 38))
  · exact rfl
  · intro hT3; have hT3' := hT3
    try simp only [bs] at hT3'
    refine Tr.gq rfl rfl hT3 (QS.move rfl) rfl ?_
    refine Tr.gq rfl rfl hT3 (QS.move rfl) rfl ?_
    refine Tr.gq rfl rfl hT3 (QS.addI rfl rfl (by omega)) rfl ?_
    refine Tr.gq rfl rfl hT3 (QS.fieldAddr (off := 1) (ft := 23) rfl Try.underlying59 rfl rfl Try.sizeOf23 (by decide)) rfl ?_
    refine Tr.gq rfl rfl hT3 (QS.lV rfl Try.isAgg23) rfl ?_
    refine Tr.gq rfl rfl hT3 (QS.cvt32toI rfl Try.underlying23 Try.underlying3) rfl ?_
    refine Tr.gq rfl rfl hT3 (QS.subI rfl rfl (by omega)) rfl ?_
    refine Tr.gq rfl rfl hT3 (QS.fieldAddr (off := 2) (ft := 54) rfl Try.underlying59 rfl rfl Try.sizeOf54 (by decide)) rfl ?_
    refine Tr.gq rfl rfl hT3 (QS.lV rfl Try.isAgg54) rfl ?_
    refine Tr.gq rfl rfl hT3 (QS.len rfl (by assumption) Try.underlying54) rfl ?_
    refine Tr.gq rfl rfl hT3 (QS.lss rfl rfl) rfl ?_
    refine Tr.q (QS.pickT rfl hT3 rfl) rfl ?_
    refine Tr.nil (Tr.thenN ?_)
    exact Tr.endX (Sub.cons rfl (Sub.dropN 12 (by kernel_rfl) rfl))
  · intro hF3
    refine Tr.gskip rfl rfl hF3 rfl ?_
    refine Tr.gskip rfl rfl hF3 rfl ?_
    refine Tr.gskip rfl rfl hF3 rfl ?_
    refine Tr.gskip rfl rfl hF3 rfl ?_
    refine Tr.gskip rfl rfl hF3 rfl ?_
    refine Tr.gskip rfl rfl hF3 rfl ?_
    refine Tr.gskip rfl rfl hF3 rfl ?_
    refine Tr.gskip rfl rfl hF3 rfl ?_
    refine Tr.gskip rfl rfl hF3 rfl ?_
    refine Tr.gskip rfl rfl hF3 rfl ?_
    refine Tr.gskip rfl rfl hF3 rfl ?_
    refine Tr.q (QS.pickF rfl hF3 rfl) rfl ?_
    refine Tr.nil (Tr.thenN ?_)
    exact Tr.endX (Sub.cons rfl (Sub.dropN 12 (by kernel_rfl) rfl))
  refine Tr.q (QS.move rfl) rfl ?_
  apply Tr.andP
  · exact (rfl : _ = (5, 39, 44))
  · exact rfl
  · intro hT4; have hT4' := hT4
    try simp only [bs] at hT4'
    refine Tr.gq rfl rfl hT4 (QS.move rfl) rfl ?_
    refine Tr.gq rfl rfl hT4 (QS.move rfl) rfl ?_
    refine Tr.gq rfl rfl hT4 (QS.addI rfl rfl (by omega)) rfl ?_
    refine Tr.gq rfl rfl hT4 (QS.lss rfl rfl) rfl ?_
    refine Tr.q (QS.pickT rfl hT4 rfl) rfl ?_
    refine Tr.nil (Tr.thenN ?_)
    exact Tr.endX (Sub.cons rfl (Sub.dropN 5 (by kernel_rfl) rfl))
  · intro hF4
    refine Tr.gskip rfl rfl hF4 rfl ?_
    refine Tr.gskip rfl rfl hF4 rfl ?_
    refine Tr.gskip rfl rfl hF4 rfl ?_
    refine Tr.gskip rfl rfl hF4 rfl ?_
    refine Tr.q (QS.pickF rfl hF4 rfl) rfl ?_
    refine Tr.nil (Tr.thenN ?_)
    exact Tr.endX (Sub.cons rfl (Sub.dropN 5 (by kernel_rfl) rfl))
  refine Tr.nil ?_
  refine Tr.thenN ?_
  refine Tr.cond rfl (fun h5 => ?_) (fun h5 => ?_)
  · try simp only [bs] at h5
    refine Tr.skip ?_
    refine Tr.thenN ?_
    refine Tr.seq ?_
    refine Tr.block ?_
    refine Tr.region ?_
    refine Tr.q (QS.move rfl) rfl ?_
    refine Tr.q (QS.fieldAddr (off := 2) (ft := 54) rfl Try.underlying59 rfl rfl Try.sizeOf54 (by decide)) rfl ?_
    refine Tr.q (QS.lV rfl Try.isAgg54) rfl ?_
    refine Tr.q (QS.move rfl) rfl ?_
    refine Tr.q (QS.move rfl) rfl ?_
    refine Tr.q (QS.addI rfl rfl (by omega)) rfl ?_
    refine Tr.q (QS.fieldAddr (off := 1) (ft := 23) rfl Try.underlying59 rfl rfl Try.sizeOf23 (by decide)) rfl ?_
    refine Tr.q (QS.lV rfl Try.isAgg23) rfl ?_
    refine Tr.q (QS.cvt32toI rfl Try.underlying23 Try.underlying3) rfl ?_
    refine Tr.q (QS.subI rfl rfl (by omega)) rfl ?_
    refine Tr.q (QS.idx rfl rfl (by assumption) Try.underlying54 Try.sizeOf5 (by rfl) (by omega)) rfl ?_
    refine Tr.q (QS.el1 rfl (by assumption) Try.isAgg5 (by omega) (by rfl)) rfl ?_
    refine Tr.lit1 (E := encU8) _ rfl rfl Try.underlying54 Try.sizeOf5 Try.zeroValue5 (by rfl) (by rfl) rfl (fun V6 => ?_)
    refine Tr.append1 rfl rfl (by repeat (first | exact Del.here _ | apply Del.there)) (by repeat (first | exact Del.here _ | apply Del.there)) Try.underlying54 HLF.info5 (by rfl) (by rfl) (by (try simp only [List.length_cons, List.length_nil, List.length_append, List.length_take]); omega) (by unfold maxLen; (try simp only [List.length_cons, List.length_nil, List.length_append, List.length_take]); omega) rfl (fun V7 => ?_)
    refine Tr.q (QS.assign rfl) rfl ?_
    refine Tr.nil ?_
    refine Tr.inN ?_
    refine Tr.thenN ?_
    refine Tr.region ?_
    refine Tr.q (QS.move rfl) rfl ?_
    refine Tr.q (QS.addI rfl rfl (by omega)) rfl ?_
    refine Tr.q (QS.assign rfl) rfl ?_
    refine Tr.nil ?_
    refine Tr.thenN ?_
    have hst := take_succ (l := s.data.drop (a - s.addr).toNat) (k := i) (by omega)
    have hgd : (s.data.drop (a - s.addr).toNat).getD i default = s.data.getD ((a.toNat : Int) + i - s.addr.toNat).toNat default := by rw [show ((a.toNat : Int) + i - s.addr.toNat).toNat = (a - s.addr).toNat + i by omega]; simp [List.getD_eq_getElem?_getD]
    rw [hgd] at hst
    rw [← hst]
    apply Tr.again (i + 1, _)
    · exact rfl
    · exact (.cons (by first | rfl | exact lookI rfl (by omega) | exact lookI rfl (by simp) | exact lookB rfl (by simp)) (.cons (by first | rfl | exact lookI rfl (by omega) | exact lookI rfl (by simp) | exact lookB rfl (by simp)) Front.nil))
    · exact SubX.dropN 28 (by kernel_rfl) rfl
    · exact (by repeat' (first | exact Pick.nil _ | exact Del.here _ | apply Pick.cons | apply Del.there))
    · exact (by show ((i + 1 : Nat) : Int) ≤ winN s a to_; unfold winN; omega)
    · exact (by (try dsimp only); omega)
  · try simp only [bs] at h5
    refine Tr.exit ?_
    refine Tr.thenE ?_
    refine Tr.thenE ?_
    refine Tr.inHit ?_
    refine Tr.thenN ?_
    refine Tr.seq ?_
    refine Tr.region ?_
    refine Tr.q (QS.move rfl) rfl ?_
    refine Tr.q (QS.assign rfl) rfl ?_
    refine Tr.nil ?_
    refine Tr.thenN ?_
    refine Tr.ret ?_
    refine Tr.ret1 Try.results35 rfl (fun w' hw => ?_)
    have hwi : (i : Int) = winN s a to_ := by unfold winN at hi ⊢; omega
    have hwp : winP l a to_ = (s.data.drop (a - s.addr).toNat).take i := by unfold winP; rw [if_neg (by omega), ← hs, ← hwi]; rfl
    exact ⟨_, rfl, hw.below (Bg.le.refl _), by rw [hwp]; exact hw.new (.head _)⟩
end Go.Proofs.Ytfnedefgepjbpaa
namespace Go.HL
open Go Go.RowKit
section
variable {P : Program} {ops : Array Oper} {Q : Exit → Act → World → Prop} {N : Nat} {F : Bg} {L : List Ent} {M : Fr} {ty : TypeId} {pos : String} {after : Array Edge} {rest : List Oper} {d : Nat} {dst : Option Tmp} {g : Option (Nat × Bool)}
def redrew (w w' : World) : World := { w' with drawn := max w.drawn w'.drawn }
theorem ext_redrew {w w' : World} (h : Below w.heap.size w w') : Ext w (redrew w w') := ⟨⟨h.os, h.tape, h.output, h.size, h.block⟩, Nat.le_max_left _ _⟩
theorem HpOK.redrew {w w' : World} (h : HpOK F L (HL.redrew w w')) (h0 : F.dr = 0) : HpOK F L w' := ⟨h.os, h.tape, h.out, h.n, by rw [h0]; exact Nat.zero_le _, h.bg, h.ent, h.nodup, h.lt, h.sep⟩
theorem HpOK.grow0 {w w' : World} (h : HpOK F L w) (hb : Below w.heap.size w w') (h0 : F.dr = 0) : HpOK F L w' := (h.grow (ext_redrew hb)).redrew h0
theorem QS.call0 {f : FuncId} {xs : List Operand} {vs : List Value} {ts : Array TypeId} {v : Value} (h0 : F.dr = 0) (hx : opvs M xs = some vs)
    (he : ∀ (args : Array Value) (w : World), (callFunc f args).run P w = .ok (.enter f args) w)
    (hc : ∀ w, HpOK F L w → Calls P f vs.toArray w fun e w' => e = .returned v ∧ Below w.heap.size w w') :
    QS P N F L M ⟨dst, .call { callee := .value (.func f), args := xs.toArray, argTypes := ts }, ty, pos, after, g⟩ v := by
  intro a w ha hw
  have hr : (execOp a.eval ⟨dst, .call { callee := .value (.func f), args := xs.toArray, argTypes := ts }, ty, pos, after, g⟩).run P w = .ok (.enter f vs.toArray) w := by
    have := ha.evals hx
    simp [execOp, resolve, Deferred.ofValue, Act.eval, invoke, he, this]
  unfold Oper.quietAt
  rw [hr]
  exact ⟨rfl, (hc w hw).mono fun e w' ⟨h1, h2⟩ => ⟨h1, hw.grow0 h2 h0⟩⟩
theorem Tr.callEnts0 {ι : Type} (φ : ι → Value) (Ls : ι → List Ent) {ok : ι → Prop} {f : FuncId} {xs : List Operand} {vs : List Value} {ts : Array TypeId} (h0 : F.dr = 0) (hx : opvs M xs = some vs)
    (he : ∀ (args : Array Value) (w : World), (callFunc f args).run P w = .ok (.enter f args) w)
    (hc : ∀ w, HpOK F L w → Calls P f vs.toArray w fun e w' => ∃ i, e = .returned (φ i) ∧ Below w.heap.size w w' ∧ NewEnts w w' (Ls i) ∧ ok i) (hd : Nat.ble (d + 1) N = true)
    (K : ∀ i, ok i → Tr N F (Ls i ++ L) ((d, φ i) :: M) (wpList P ops Q rest)) :
    Tr N F L M (wpList P ops Q (⟨some d, .call { callee := .value (.func f), args := xs.toArray, argTypes := ts }, ty, pos, after, none⟩ :: rest)) := by
  intro a w ha hw
  refine wpList_plain rfl fun K' hK => ?_
  have hr : (execOp a.eval ⟨some d, .call { callee := .value (.func f), args := xs.toArray, argTypes := ts }, ty, pos, after, none⟩).run P w = .ok (.enter f vs.toArray) w := by
    have := ha.evals hx
    simp [execOp, resolve, Deferred.ofValue, Act.eval, invoke, he, this]
  unfold Oper.wp
  rw [hr]
  refine (hc w hw).mono fun e w' ⟨i, h1, h2, h3, h4⟩ => ?_
  subst h1
  have hn : NewEnts w (redrew w w') (Ls i) := ⟨h3.ent, h3.nodup, h3.lt, h3.ge⟩
  exact hK _ _ (K i h4 _ _ (ha.put (Nat.le_of_ble_eq_true hd)) ((hw.newEnts (ext_redrew h2) hn).redrew h0))
end
end Go.HL
namespace Go.Proofs.Ytfnedefgepjbpaa
open Go Go.HL Go.RowKit
set_option maxRecDepth 100000 in
set_option maxHeartbeats 2000000 in
theorem same11_any (fs : List Ins) (rs : List Rng) (Va Vb Vc Vd : Value) (w : World) (hA : Sl (hp w) encIns fs Va) (hB : Sl (hp w) encRng rs Vb) (hC : Sl (hp w) encIns fs Vc) (hD : Sl (hp w) encRng rs Vd) :
    Calls Try.prog 13 #[Va, Vb, Vc, Vd] w (fun e w' => e = .returned (.bool true) ∧ Ext w w') := by
  have hA' : Sl (Bg.of w).blk encIns fs Va := hA
  have hB' : Sl (Bg.of w).blk encRng rs Vb := hB
  have hC' : Sl (Bg.of w).blk encIns fs Vc := hC
  have hD' : Sl (Bg.of w).blk encRng rs Vd := hD
  have hl1 := hA.len_le
  have hl2 := hB.len_le
  refine enter Try.func13 rfl Try.ntmps13 rfl ?_
  refine Tr.seq ?_
  refine Tr.region ?_
  refine Tr.q (QS.assign rfl) rfl ?_
  refine Tr.nil ?_
  refine Tr.thenN ?_
  refine Tr.seq ?_
  refine Tr.seq ?_
  refine Tr.region ?_
  refine Tr.q (QS.move rfl) rfl ?_
  refine Tr.q (QS.len rfl (by assumption) Try.underlying26) rfl ?_
  refine Tr.q (QS.move rfl) rfl ?_
  refine Tr.q (QS.len rfl (by assumption) Try.underlying26) rfl ?_
  refine Tr.q (QS.neq rfl rfl) rfl ?_
  refine Tr.q (QS.move rfl) rfl ?_
  apply Tr.orP
  · exact (rfl : _ = (6, 16, 22))
  · exact rfl
  · intro hF1; have hF1' := hF1
    try simp only [bs] at hF1'
    refine Tr.gq rfl rfl hF1 (QS.move rfl) rfl ?_
    refine Tr.gq rfl rfl hF1 (QS.len rfl (by assumption) Try.underlying27) rfl ?_
    refine Tr.gq rfl rfl hF1 (QS.move rfl) rfl ?_
    refine Tr.gq rfl rfl hF1 (QS.len rfl (by assumption) Try.underlying30) rfl ?_
    refine Tr.gq rfl rfl hF1 (QS.neq rfl rfl) rfl ?_
    refine Tr.q (QS.pickF rfl hF1 rfl) rfl ?_
    refine Tr.nil (Tr.thenN ?_)
    exact Tr.endX (Sub.cons rfl (Sub.dropN 6 (by kernel_rfl) rfl))
  · intro hT1
    refine Tr.gskip rfl rfl hT1 rfl ?_
    refine Tr.gskip rfl rfl hT1 rfl ?_
    refine Tr.gskip rfl rfl hT1 rfl ?_
    refine Tr.gskip rfl rfl hT1 rfl ?_
    refine Tr.gskip rfl rfl hT1 rfl ?_
    refine Tr.q (QS.pickT rfl hT1 rfl) rfl ?_
    refine Tr.nil (Tr.thenN ?_)
    exact Tr.endX (Sub.cons rfl (Sub.dropN 6 (by kernel_rfl) rfl))
  refine Tr.nil ?_
  refine Tr.thenN ?_
  refine Tr.cond rfl (fun h2 => ?_) (fun h2 => ?_)
  · try simp only [bs] at h2
    refine Tr.seq ?_
    refine Tr.region ?_
    refine Tr.q (QS.assign rfl) rfl ?_
    refine Tr.nil ?_
    refine Tr.thenN ?_
    refine Tr.ret ?_
    refine Tr.thenR ?_
    refine Tr.ret1 Try.results13 rfl (fun w' hw => ?_)
    exfalso; simp_all
  · try simp only [bs] at h2
    refine Tr.skip ?_
    refine Tr.thenN ?_
    refine Tr.seq ?_
    refine Tr.seq ?_
    refine Tr.region ?_
    refine Tr.q (QS.assign rfl) rfl ?_
    refine Tr.nil ?_
    refine Tr.thenN ?_
    refine Tr.block ?_
    refine Tr.loop (ι := Nat) (fun k => k ≤ fs.length) (fun _ => _) (fun k => []) (fun k => [(9, .int .i64 (k : Nat))]) (fun k => fs.length - k) 0 (Nat.zero_le _) (.cons (by first | rfl | exact lookI rfl (by omega) | exact lookI rfl (by simp) | exact lookB rfl (by simp)) Front.nil) (by repeat' (first | exact Pick.nil _ | exact Del.here _ | apply Pick.cons | apply Del.there)) rfl (fun k hi m hm => ?_)
    replace hi : k ≤ fs.length := hi
    replace hm : m = fs.length - k := hm
    change Tr _ _ [] ([(9, .int .i64 (k : Nat))] ++ _) _
    refine Tr.seq ?_
    refine Tr.seq ?_
    refine Tr.region ?_
    refine Tr.q (QS.move rfl) rfl ?_
    refine Tr.q (QS.move rfl) rfl ?_
    refine Tr.q (QS.len rfl (by assumption) Try.underlying26) rfl ?_
    refine Tr.q (QS.lss rfl rfl) rfl ?_
    refine Tr.nil ?_
    refine Tr.thenN ?_
    refine Tr.cond rfl (fun h3 => ?_) (fun h3 => ?_)
    · try simp only [bs] at h3
      refine Tr.skip ?_
      refine Tr.thenN ?_
      refine Tr.seq ?_
      refine Tr.block ?_
      refine Tr.seq ?_
      refine Tr.regionQ HLF.mixed (by kernel_rfl) ?_
      refine TrQ.q (QS.move rfl) rfl ?_
      refine TrQ.q (QS.move rfl) rfl ?_
      refine TrQ.q (QS.idxN rfl rfl (by assumption) Try.underlying26 Try.sizeOf36 (by rfl) (by omega)) rfl ?_
      refine TrQ.q (QS.elA rfl (by assumption) Try.isAgg36 Try.sizeOf36 (by rfl) (by omega)) rfl ?_
      refine TrQ.q (QS.move rfl) rfl ?_
      refine TrQ.q (QS.move rfl) rfl ?_
      refine TrQ.q (QS.idxN rfl rfl (by assumption) Try.underlying26 Try.sizeOf36 (by rfl) (by omega)) rfl ?_
      refine TrQ.q (QS.elA rfl (by assumption) Try.isAgg36 Try.sizeOf36 (by rfl) (by omega)) rfl ?_
      refine TrQ.q (QS.neqE rfl rfl insEqEnc Try.underlying36 (HLF.words36 _ Try.underlying36) rfl HLF.held36 HLF.eqg36) rfl ?_
      refine TrQ.nil ?_
      refine Tr.thenN ?_
      refine Tr.cond rfl (fun h4 => ?_) (fun h4 => ?_)
      · try simp only [bs] at h4
        refine Tr.seq ?_
        refine Tr.region ?_
        refine Tr.q (QS.assign rfl) rfl ?_
        refine Tr.nil ?_
        refine Tr.thenN ?_
        refine Tr.ret ?_
        refine Tr.inR ?_
        refine Tr.thenR ?_
        refine Tr.thenR ?_
        refine Tr.inR ?_
        refine Tr.thenR ?_
        refine Tr.ret1 Try.results13 rfl (fun w' hw => ?_)
        exfalso; simp_all
      · try simp only [bs] at h4
        refine Tr.skip ?_
        refine Tr.inN ?_
        refine Tr.thenN ?_
        refine Tr.region ?_
        refine Tr.q (QS.move rfl) rfl ?_
        refine Tr.q (QS.addI rfl rfl (by omega)) rfl ?_
        refine Tr.q (QS.assign rfl) rfl ?_
        refine Tr.nil ?_
        refine Tr.thenN ?_
        apply Tr.again (k + 1)
        · exact rfl
        · exact (.cons (by first | rfl | exact lookI rfl (by omega) | exact lookI rfl (by simp) | exact lookB rfl (by simp)) Front.nil)
        · exact SubX.dropN 17 (by kernel_rfl) rfl
        · exact (by repeat' (first | exact Pick.nil _ | exact Del.here _ | apply Pick.cons | apply Del.there))
        · exact (by show k + 1 ≤ _; omega)
        · exact (by (try dsimp only); omega)
    · try simp only [bs] at h3
      refine Tr.exit ?_
      refine Tr.thenE ?_
      refine Tr.thenE ?_
      refine Tr.inHit ?_
      refine Tr.thenN ?_
      refine Tr.seq ?_
      refine Tr.seq ?_
      refine Tr.region ?_
      refine Tr.q (QS.assign rfl) rfl ?_
      refine Tr.nil ?_
      refine Tr.thenN ?_
      refine Tr.block ?_
      refine Tr.loop (ι := Nat) (fun k => k ≤ rs.length) (fun _ => _) (fun k => []) (fun k => [(10, .int .i64 (k : Nat))]) (fun k => rs.length - k) 0 (Nat.zero_le _) (.cons (by first | rfl | exact lookI rfl (by omega) | exact lookI rfl (by simp) | exact lookB rfl (by simp)) Front.nil) (by repeat' (first | exact Pick.nil _ | exact Del.here _ | apply Pick.cons | apply Del.there)) rfl (fun k hi m hm => ?_)
      replace hi : k ≤ rs.length := hi
      replace hm : m = rs.length - k := hm
      change Tr _ _ [] ([(10, .int .i64 (k : Nat))] ++ _) _
      refine Tr.seq ?_
      refine Tr.seq ?_
      refine Tr.region ?_
      refine Tr.q (QS.move rfl) rfl ?_
      refine Tr.q (QS.move rfl) rfl ?_
      refine Tr.q (QS.len rfl (by assumption) Try.underlying27) rfl ?_
      refine Tr.q (QS.lss rfl rfl) rfl ?_
      refine Tr.nil ?_
      refine Tr.thenN ?_
      refine Tr.cond rfl (fun h5 => ?_) (fun h5 => ?_)
      · try simp only [bs] at h5
        refine Tr.skip ?_
        refine Tr.thenN ?_
        refine Tr.seq ?_
        refine Tr.block ?_
        refine Tr.seq ?_
        refine Tr.regionQ HLF.mixed (by kernel_rfl) ?_
        refine TrQ.q (QS.move rfl) rfl ?_
        refine TrQ.q (QS.move rfl) rfl ?_
        refine TrQ.q (QS.idxN rfl rfl (by assumption) Try.underlying27 Try.sizeOf61 (by rfl) (by omega)) rfl ?_
        refine TrQ.q (QS.fieldAddr (off := 0) (ft := 23) rfl Try.underlying61 rfl rfl Try.sizeOf23 (by decide)) rfl ?_
        refine TrQ.q (QS.elF rfl (by assumption) Try.isAgg23 (by omega) (by rfl)) rfl ?_
        refine TrQ.q (QS.move rfl) rfl ?_
        refine TrQ.q (QS.move rfl) rfl ?_
        refine TrQ.q (QS.idxN rfl rfl (by assumption) Try.underlying30 Try.sizeOf73 (by rfl) (by omega)) rfl ?_
        refine TrQ.q (QS.fieldAddr (off := 0) (ft := 23) rfl Try.underlying73 rfl rfl Try.sizeOf23 (by decide)) rfl ?_
        refine TrQ.q (QS.elF rfl (by assumption) Try.isAgg23 (by omega) (by rfl)) rfl ?_
        refine TrQ.q (QS.neq32 rfl rfl) rfl ?_
        refine TrQ.q (QS.move rfl) rfl ?_
        apply TrQ.orP
        · exact (rfl : _ = (12, 55, 67))
        · exact rfl
        · intro hF6; have hF6' := hF6
          try simp only [bs] at hF6'
          refine TrQ.gq rfl rfl hF6 (QS.move rfl) rfl ?_
          refine TrQ.gq rfl rfl hF6 (QS.move rfl) rfl ?_
          refine TrQ.gq rfl rfl hF6 (QS.idxN rfl rfl (by assumption) Try.underlying27 Try.sizeOf61 (by rfl) (by omega)) rfl ?_
          refine TrQ.gq rfl rfl hF6 (QS.fieldAddr (off := 1) (ft := 23) rfl Try.underlying61 rfl rfl Try.sizeOf23 (by decide)) rfl ?_
          refine TrQ.gq rfl rfl hF6 (QS.elF rfl (by assumption) Try.isAgg23 (by omega) (by rfl)) rfl ?_
          refine TrQ.gq rfl rfl hF6 (QS.move rfl) rfl ?_
          refine TrQ.gq rfl rfl hF6 (QS.move rfl) rfl ?_
          refine TrQ.gq rfl rfl hF6 (QS.idxN rfl rfl (by assumption) Try.underlying30 Try.sizeOf73 (by rfl) (by omega)) rfl ?_
          refine TrQ.gq rfl rfl hF6 (QS.fieldAddr (off := 1) (ft := 23) rfl Try.underlying73 rfl rfl Try.sizeOf23 (by decide)) rfl ?_
          refine TrQ.gq rfl rfl hF6 (QS.elF rfl (by assumption) Try.isAgg23 (by omega) (by rfl)) rfl ?_
          refine TrQ.gq rfl rfl hF6 (QS.neq32 rfl rfl) rfl ?_
          refine TrQ.q (QS.pickF rfl hF6 rfl) rfl ?_
          exact TrQ.end (Sub.cons rfl (Sub.dropN 12 (by kernel_rfl) rfl))
        · intro hT6
          refine TrQ.gskip rfl rfl hT6 rfl ?_
          refine TrQ.gskip rfl rfl hT6 rfl ?_
          refine TrQ.gskip rfl rfl hT6 rfl ?_
          refine TrQ.gskip rfl rfl hT6 rfl ?_
          refine TrQ.gskip rfl rfl hT6 rfl ?_
          refine TrQ.gskip rfl rfl hT6 rfl ?_
          refine TrQ.gskip rfl rfl hT6 rfl ?_
          refine TrQ.gskip rfl rfl hT6 rfl ?_
          refine TrQ.gskip rfl rfl hT6 rfl ?_
          refine TrQ.gskip rfl rfl hT6 rfl ?_
          refine TrQ.gskip rfl rfl hT6 rfl ?_
          refine TrQ.q (QS.pickT rfl hT6 rfl) rfl ?_
          exact TrQ.end (Sub.cons rfl (Sub.dropN 12 (by kernel_rfl) rfl))
        refine TrQ.nil ?_
        refine Tr.thenN ?_
        refine Tr.cond rfl (fun h7 => ?_) (fun h7 => ?_)
        · try simp only [bs] at h7
          refine Tr.seq ?_
          refine Tr.region ?_
          refine Tr.q (QS.assign rfl) rfl ?_
          refine Tr.nil ?_
          refine Tr.thenN ?_
          refine Tr.ret ?_
          refine Tr.inR ?_
          refine Tr.thenR ?_
          refine Tr.thenR ?_
          refine Tr.inR ?_
          refine Tr.thenR ?_
          refine Tr.ret1 Try.results13 rfl (fun w' hw => ?_)
          exfalso; simp_all
        · try simp only [bs] at h7
          refine Tr.skip ?_
          refine Tr.inN ?_
          refine Tr.thenN ?_
          refine Tr.region ?_
          refine Tr.q (QS.move rfl) rfl ?_
          refine Tr.q (QS.addI rfl rfl (by omega)) rfl ?_
          refine Tr.q (QS.assign rfl) rfl ?_
          refine Tr.nil ?_
          refine Tr.thenN ?_
          apply Tr.again (k + 1)
          · exact rfl
          · exact (.cons (by first | rfl | exact lookI rfl (by omega) | exact lookI rfl (by simp) | exact lookB rfl (by simp)) Front.nil)
          · exact SubX.dropN 21 (by kernel_rfl) rfl
          · exact (by repeat' (first | exact Pick.nil _ | exact Del.here _ | apply Pick.cons | apply Del.there))
          · exact (by show k + 1 ≤ _; omega)
          · exact (by (try dsimp only); omega)
      · try simp only [bs] at h5
        refine Tr.exit ?_
        refine Tr.thenE ?_
        refine Tr.thenE ?_
        refine Tr.inHit ?_
        refine Tr.thenN ?_
        refine Tr.seq ?_
        refine Tr.region ?_
        refine Tr.q (QS.assign rfl) rfl ?_
        refine Tr.nil ?_
        refine Tr.thenN ?_
        refine Tr.ret ?_
        refine Tr.ret1 Try.results13 rfl (fun w' hw => ?_)
        exact ⟨rfl, hw.below (Bg.le.refl _)⟩
def ex11 (pa : Option Addr) (pc : Nat) : SecV := ⟨⟨#[116]⟩, 4096, [0, 255, 1], pa, pc, false, true⟩
def ex11a : Ins := (decP [0, 255, 1] 4096).1
def ex11b : Ins := (decP [1] 4098).1
theorem ex11B (pa : Option Addr) (pc : Nat) : SecB [ex11 pa pc] := ⟨by simp, fun s hs => by simp only [List.mem_singleton] at hs; subst hs; show (3 : Nat) ≤ 200000; decide⟩
theorem ex11_pos (pa : Option Addr) (pc : Nat) : posP [ex11 pa pc] 4096 4099 = [4096, 4097, 4098] := by kernel_rfl
theorem ex11_found (pa : Option Addr) (pc : Nat) : foundP [ex11 pa pc] 4099 [4096, 4097, 4098] = [ex11a, ex11b] := by kernel_rfl
theorem ex11_bad (pa : Option Addr) (pc : Nat) : normalP (badP [ex11 pa pc] 4099 [4096, 4097, 4098]) = [⟨4097, 4098⟩] := by kernel_rfl
set_option maxRecDepth 100000 in
set_option maxHeartbeats 8000000 in
theorem example11_any (w : World) :
    Calls Try.prog 10 #[] w (fun e w' => e = .returned (.bool true) ∧ Below w.heap.size w w') := by
  refine enter0 Try.func10 rfl Try.ntmps10 rfl ?_
  refine Tr.seq ?_
  refine Tr.region ?_
  refine Tr.q (QS.assign rfl) rfl ?_
  refine Tr.nil ?_
  refine Tr.thenN ?_
  refine Tr.seq ?_
  refine Tr.region ?_
  refine Tr.litN (E := encU8) ([0, 255, 1] : List UInt8) (vs := [(0, _), (1, _), (2, _)]) rfl rfl Try.underlying54 Try.sizeOf5 Try.zeroValue5 (by rfl) (by rfl) rfl (by first | kernel_rfl | rfl) rfl (fun V1 => ?_)
  refine Tr.rowShape (.head _) (fun pa pc hpv => ?_)
  subst hpv
  refine Tr.frozen (.here _) (fun F1 hF1 hD1 => ?_)
  refine Tr.q (QS.build (vs := [(0, _), (1, _), (2, _), (4, _)]) rfl rfl rfl) rfl ?_
  refine Tr.lit1 (E := encSec) (ex11 pa pc) rfl rfl Try.underlying22 Try.sizeOf59 Try.zeroValue59 (by rfl) (by rfl) rfl (fun V2 => ?_)
  refine Tr.frozen (.here _) (fun F2 hF2 hS => ?_)
  replace hD1 := hD1.mono hF2.blk
  refine Tr.q (QS.assign rfl) rfl ?_
  refine Tr.nil ?_
  refine Tr.thenN ?_
  refine Tr.seq ?_
  refine Tr.region ?_
  refine Tr.q (QS.move rfl) rfl ?_
  refine Tr.callEnts0 (fun i : (Value × List Ins) × (Value × List Rng) => .tuple #[i.1.1, i.2.1]) (fun i => [rowE i.1.1 36 encIns i.1.2, rowE i.2.1 61 encRng i.2.2]) (ok := fun i => i.1.2 = [ex11a, ex11b] ∧ i.2.2 = [⟨4097, 4098⟩]) (hF1.trans hF2).dr rfl Try.call11 (fun w hw => (sweep_any [ex11 pa pc] _ 4096 4099 w (hw.slF hS) (ex11B pa pc) (fun s hs => by simp only [List.mem_singleton] at hs; subst hs; exact hw.slF hD1) (by rw [ex11_pos]; decide)).mono fun e w' ⟨i, q1, q2, q3, q4, q5⟩ => ⟨i, q1, q2, q3, by rw [q4, ex11_pos, ex11_found], by rw [q5, ex11_pos, ex11_bad]⟩) rfl (fun i hi => ?_)
  refine Tr.q (QS.move rfl) rfl ?_
  refine Tr.q (QS.extract rfl rfl) rfl ?_
  refine Tr.q (QS.extract rfl rfl) rfl ?_
  refine Tr.q (QS.assign rfl) rfl ?_
  refine Tr.q (QS.assign rfl) rfl ?_
  refine Tr.nil ?_
  refine Tr.thenN ?_
  refine Tr.seq ?_
  obtain ⟨⟨Va, fs⟩, ⟨Vb, rs⟩⟩ := i
  obtain ⟨h1, h2⟩ := hi
  replace h1 : fs = [ex11a, ex11b] := h1
  replace h2 : rs = [⟨4097, 4098⟩] := h2
  subst h1 h2
  change Tr _ _ [rowE Va 36 encIns [ex11a, ex11b], rowE Vb 61 encRng [⟨4097, 4098⟩]] _ _
  refine Tr.region ?_
  refine Tr.q (QS.move rfl) rfl ?_
  refine Tr.q (QS.lenRow rfl (by repeat (first | exact List.Mem.head _ | apply List.Mem.tail)) Try.underlying26) rfl ?_
  refine Tr.q (QS.eql rfl rfl) rfl ?_
  refine Tr.q (QS.move rfl) rfl ?_
  apply Tr.andP
  · exact (rfl : _ = (6, 15, 21))
  · exact rfl
  · intro hT3; have hT3' := hT3
    try simp only [bs] at hT3'
    refine Tr.gq rfl rfl hT3 (QS.move rfl) rfl ?_
    refine Tr.gq rfl rfl hT3 (QS.idxRow rfl rfl (by repeat (first | exact List.Mem.head _ | apply List.Mem.tail)) Try.underlying26 Try.sizeOf36 (by rfl) (by omega)) rfl ?_
    refine Tr.gq rfl rfl hT3 (QS.fieldAddr (off := 2) (ft := 3) rfl Try.underlying36 rfl rfl Try.sizeOf3 (by decide)) rfl ?_
    refine Tr.gq rfl rfl hT3 (QS.elRF rfl (by repeat (first | exact List.Mem.head _ | apply List.Mem.tail)) Try.isAgg3 (by omega) (by rfl)) rfl ?_
    refine Tr.gq rfl rfl hT3 (QS.eql rfl rfl) rfl ?_
    refine Tr.q (QS.pickT rfl hT3 rfl) rfl ?_
    refine Tr.nil (Tr.thenN ?_)
    exact Tr.endX (Sub.cons rfl (Sub.dropN 6 (by kernel_rfl) rfl))
  · intro hF3
    refine Tr.gskip rfl rfl hF3 rfl ?_
    refine Tr.gskip rfl rfl hF3 rfl ?_
    refine Tr.gskip rfl rfl hF3 rfl ?_
    refine Tr.gskip rfl rfl hF3 rfl ?_
    refine Tr.gskip rfl rfl hF3 rfl ?_
    refine Tr.q (QS.pickF rfl hF3 rfl) rfl ?_
    refine Tr.nil (Tr.thenN ?_)
    exact Tr.endX (Sub.cons rfl (Sub.dropN 6 (by kernel_rfl) rfl))
  refine Tr.q (QS.move rfl) rfl ?_
  apply Tr.andP
  · exact (rfl : _ = (6, 22, 28))
  · exact rfl
  · intro hT4; have hT4' := hT4
    try simp only [bs] at hT4'
    refine Tr.gq rfl rfl hT4 (QS.move rfl) rfl ?_
    refine Tr.gq rfl rfl hT4 (QS.idxRow rfl rfl (by repeat (first | exact List.Mem.head _ | apply List.Mem.tail)) Try.underlying26 Try.sizeOf36 (by rfl) (by omega)) rfl ?_
    refine Tr.gq rfl rfl hT4 (QS.fieldAddr (off := 0) (ft := 23) rfl Try.underlying36 rfl rfl Try.sizeOf23 (by decide)) rfl ?_
    refine Tr.gq rfl rfl hT4 (QS.elRF rfl (by repeat (first | exact List.Mem.head _ | apply List.Mem.tail)) Try.isAgg23 (by omega) (by rfl)) rfl ?_
    refine Tr.gq rfl rfl hT4 (QS.eql32 (n := 4098) rfl rfl) rfl ?_
    refine Tr.q (QS.pickT rfl hT4 rfl) rfl ?_
    refine Tr.nil (Tr.thenN ?_)
    exact Tr.endX (Sub.cons rfl (Sub.dropN 6 (by kernel_rfl) rfl))
  · intro hF4
    refine Tr.gskip rfl rfl hF4 rfl ?_
    refine Tr.gskip rfl rfl hF4 rfl ?_
    refine Tr.gskip rfl rfl hF4 rfl ?_
    refine Tr.gskip rfl rfl hF4 rfl ?_
    refine Tr.gskip rfl rfl hF4 rfl ?_
    refine Tr.q (QS.pickF rfl hF4 rfl) rfl ?_
    refine Tr.nil (Tr.thenN ?_)
    exact Tr.endX (Sub.cons rfl (Sub.dropN 6 (by kernel_rfl) rfl))
  refine Tr.q (QS.move rfl) rfl ?_
  apply Tr.andP
  · exact (rfl : _ = (6, 29, 35))
  · exact rfl
  · intro hT5; have hT5' := hT5
    try simp only [bs] at hT5'
    refine Tr.gq rfl rfl hT5 (QS.move rfl) rfl ?_
    refine Tr.gq rfl rfl hT5 (QS.idxRow rfl rfl (by repeat (first | exact List.Mem.head _ | apply List.Mem.tail)) Try.underlying26 Try.sizeOf36 (by rfl) (by omega)) rfl ?_
    refine Tr.gq rfl rfl hT5 (QS.fieldAddr (off := 2) (ft := 3) rfl Try.underlying36 rfl rfl Try.sizeOf3 (by decide)) rfl ?_
    refine Tr.gq rfl rfl hT5 (QS.elRF rfl (by repeat (first | exact List.Mem.head _ | apply List.Mem.tail)) Try.isAgg3 (by omega) (by rfl)) rfl ?_
    refine Tr.gq rfl rfl hT5 (QS.eql rfl rfl) rfl ?_
    refine Tr.q (QS.pickT rfl hT5 rfl) rfl ?_
    refine Tr.nil (Tr.thenN ?_)
    exact Tr.endX (Sub.cons rfl (Sub.dropN 6 (by kernel_rfl) rfl))
  · intro hF5
    refine Tr.gskip rfl rfl hF5 rfl ?_
    refine Tr.gskip rfl rfl hF5 rfl ?_
    refine Tr.gskip rfl rfl hF5 rfl ?_
    refine Tr.gskip rfl rfl hF5 rfl ?_
    refine Tr.gskip rfl rfl hF5 rfl ?_
    refine Tr.q (QS.pickF rfl hF5 rfl) rfl ?_
    refine Tr.nil (Tr.thenN ?_)
    exact Tr.endX (Sub.cons rfl (Sub.dropN 6 (by kernel_rfl) rfl))
  refine Tr.q (QS.move rfl) rfl ?_
  apply Tr.andP
  · exact (rfl : _ = (4, 36, 40))
  · exact rfl
  · intro hT6; have hT6' := hT6
    try simp only [bs] at hT6'
    refine Tr.gq rfl rfl hT6 (QS.move rfl) rfl ?_
    refine Tr.gq rfl rfl hT6 (QS.lenRow rfl (by repeat (first | exact List.Mem.head _ | apply List.Mem.tail)) Try.underlying27) rfl ?_
    refine Tr.gq rfl rfl hT6 (QS.eql rfl rfl) rfl ?_
    refine Tr.q (QS.pickT rfl hT6 rfl) rfl ?_
    refine Tr.nil (Tr.thenN ?_)
    exact Tr.endX (Sub.cons rfl (Sub.dropN 4 (by kernel_rfl) rfl))
  · intro hF6
    refine Tr.gskip rfl rfl hF6 rfl ?_
    refine Tr.gskip rfl rfl hF6 rfl ?_
    refine Tr.gskip rfl rfl hF6 rfl ?_
    refine Tr.q (QS.pickF rfl hF6 rfl) rfl ?_
    refine Tr.nil (Tr.thenN ?_)
    exact Tr.endX (Sub.cons rfl (Sub.dropN 4 (by kernel_rfl) rfl))
  refine Tr.q (QS.move rfl) rfl ?_
  apply Tr.andP
  · exact (rfl : _ = (6, 41, 47))
  · exact rfl
  · intro hT7; have hT7' := hT7
    try simp only [bs] at hT7'
    refine Tr.gq rfl rfl hT7 (QS.move rfl) rfl ?_
    refine Tr.gq rfl rfl hT7 (QS.idxRow rfl rfl (by repeat (first | exact List.Mem.head _ | apply List.Mem.tail)) Try.underlying27 Try.sizeOf61 (by rfl) (by omega)) rfl ?_
    refine Tr.gq rfl rfl hT7 (QS.fieldAddr (off := 0) (ft := 23) rfl Try.underlying61 rfl rfl Try.sizeOf23 (by decide)) rfl ?_
    refine Tr.gq rfl rfl hT7 (QS.elRF rfl (by repeat (first | exact List.Mem.head _ | apply List.Mem.tail)) Try.isAgg23 (by omega) (by rfl)) rfl ?_
    refine Tr.gq rfl rfl hT7 (QS.eql32 (n := 4097) rfl rfl) rfl ?_
    refine Tr.q (QS.pickT rfl hT7 rfl) rfl ?_
    refine Tr.nil (Tr.thenN ?_)
    exact Tr.endX (Sub.cons rfl (Sub.dropN 6 (by kernel_rfl) rfl))
  · intro hF7
    refine Tr.gskip rfl rfl hF7 rfl ?_
    refine Tr.gskip rfl rfl hF7 rfl ?_
    refine Tr.gskip rfl rfl hF7 rfl ?_
    refine Tr.gskip rfl rfl hF7 rfl ?_
    refine Tr.gskip rfl rfl hF7 rfl ?_
    refine Tr.q (QS.pickF rfl hF7 rfl) rfl ?_
    refine Tr.nil (Tr.thenN ?_)
    exact Tr.endX (Sub.cons rfl (Sub.dropN 6 (by kernel_rfl) rfl))
  refine Tr.q (QS.move rfl) rfl ?_
  apply Tr.andP
  · exact (rfl : _ = (6, 48, 54))
  · exact rfl
  · intro hT8; have hT8' := hT8
    try simp only [bs] at hT8'
    refine Tr.gq rfl rfl hT8 (QS.move rfl) rfl ?_
    refine Tr.gq rfl rfl hT8 (QS.idxRow rfl rfl (by repeat (first | exact List.Mem.head _ | apply List.Mem.tail)) Try.underlying27 Try.sizeOf61 (by rfl) (by omega)) rfl ?_
    refine Tr.gq rfl rfl hT8 (QS.fieldAddr (off := 1) (ft := 23) rfl Try.underlying61 rfl rfl Try.sizeOf23 (by decide)) rfl ?_
    refine Tr.gq rfl rfl hT8 (QS.elRF rfl (by repeat (first | exact List.Mem.head _ | apply List.Mem.tail)) Try.isAgg23 (by omega) (by rfl)) rfl ?_
    refine Tr.gq rfl rfl hT8 (QS.eql32 (n := 4098) rfl rfl) rfl ?_
    refine Tr.q (QS.pickT rfl hT8 rfl) rfl ?_
    refine Tr.nil (Tr.thenN ?_)
    exact Tr.endX (Sub.cons rfl (Sub.dropN 6 (by kernel_rfl) rfl))
  · intro hF8
    refine Tr.gskip rfl rfl hF8 rfl ?_
    refine Tr.gskip rfl rfl hF8 rfl ?_
    refine Tr.gskip rfl rfl hF8 rfl ?_
    refine Tr.gskip rfl rfl hF8 rfl ?_
    refine Tr.gskip rfl rfl hF8 rfl ?_
    refine Tr.q (QS.pickF rfl hF8 rfl) rfl ?_
    refine Tr.nil (Tr.thenN ?_)
    exact Tr.endX (Sub.cons rfl (Sub.dropN 6 (by kernel_rfl) rfl))
  refine Tr.q (QS.assign rfl) rfl ?_
  refine Tr.nil ?_
  refine Tr.thenN ?_
  refine Tr.ret ?_
  refine Tr.ret1 Try.results10 rfl (fun w' hw => ?_)
  exact ⟨by rfl, hw.below0 (hF1.trans hF2)⟩
end Go.Proofs.Ytfnedefgepjbpaa
namespace Go.HL
open Go
theorem nxt_spec : ∀ {rs : List Rng} {a : UInt32}, Norm rs →
    (∀ b, nxtP rs a = some b → Has rs b.toNat ∧ a.toNat ≤ b.toNat ∧ ∀ n, a.toNat ≤ n → Has rs n → b.toNat ≤ n) ∧ (nxtP rs a = none → ∀ n, a.toNat ≤ n → ¬ Has rs n)
  | [], a, _ => ⟨fun b h => by simp [nxtP] at h, fun _ n _ ⟨r, hr, _⟩ => by cases hr⟩
  | r :: t, a, hn => by
    have h1 := List.pairwise_cons.1 hn.1
    have hr := hn.2 r (.head _)
    have ht : Norm t := ⟨h1.2, fun x hx => hn.2 x (.tail _ hx)⟩
    obtain ⟨k1, k2⟩ := nxt_spec (a := a) ht
    unfold nxtP
    by_cases c : a < r.hi
    · rw [if_pos c]
      rw [UInt32.lt_iff_toNat_lt] at c
      refine ⟨fun b h => ?_, fun h => by cases h⟩
      cases h
      have hb : (if a < r.lo then r.lo else a).toNat = max a.toNat r.lo.toNat := by
        split
        · rename_i q; rw [UInt32.lt_iff_toNat_lt] at q; omega
        · rename_i q; rw [UInt32.lt_iff_toNat_lt] at q; omega
      rw [hb]
      refine ⟨⟨r, .head _, by omega, by omega⟩, by omega, fun n h2 ⟨x, hx, q1, q2⟩ => ?_⟩
      rcases List.mem_cons.1 hx with rfl | hx
      · omega
      · have := h1.1 x hx; omega
    · rw [if_neg c]
      rw [UInt32.lt_iff_toNat_lt] at c
      refine ⟨fun b h => ?_, fun h n h2 ⟨x, hx, q1, q2⟩ => ?_⟩
      · obtain ⟨⟨x, hx, q1, q2⟩, q3, q4⟩ := k1 b h
        refine ⟨⟨x, .tail _ hx, q1, q2⟩, q3, fun n h2 ⟨y, hy, p1, p2⟩ => ?_⟩
        rcases List.mem_cons.1 hy with rfl | hy
        · omega
        · exact q4 n h2 ⟨y, hy, p1, p2⟩
      · rcases List.mem_cons.1 hx with rfl | hx
        · omega
        · exact k2 h n h2 ⟨x, hx, q1, q2⟩
/-- The reference's next address. -/
theorem next_link (l : List SecV) (a : UInt32) : nextR l a.toNat = match nxtP (normalP (l.map spaceP)) a with | some b => (b.toNat : Int) | none => -1 := by
  obtain ⟨hn, hh⟩ := normal_ok (l.map spaceP)
  obtain ⟨k1, k2⟩ := nxt_spec (a := a) hn
  obtain ⟨q1, q2, _, q4⟩ := nextR_spec (a := (a.toNat : Int)) (by omega) l (-1) (.inl rfl)
  have e : nextR l a.toNat = l.foldl (stepR a.toNat) (-1) := rfl
  rw [e]
  generalize l.foldl (stepR (a.toNat : Int)) (-1) = r at q1 q2 q4 ⊢
  have hr : r ≠ -1 → Has (normalP (l.map spaceP)) r.toNat ∧ (a.toNat : Int) ≤ r := fun hne => by
    rcases q2 with q2 | ⟨s, hs, q2, q3⟩
    · exact absurd q2 hne
    · have h1 : (a.toNat : Int) ≤ lowR a.toNat s ∧ (s.addr.toNat : Int) ≤ lowR a.toNat s := by unfold lowR; split <;> omega
      refine ⟨(hh _).2 (has_space.2 ⟨s, hs, by omega, by omega⟩), by omega⟩
  cases hq : nxtP (normalP (l.map spaceP)) a with
  | none =>
    show r = -1
    refine Decidable.byContradiction fun hne => ?_
    obtain ⟨h1, h2⟩ := hr hne
    exact k2 hq _ (by omega) h1
  | some b =>
    show r = (b.toNat : Int)
    obtain ⟨b1, b2, b3⟩ := k1 b hq
    obtain ⟨s, hs, s1, s2⟩ := has_space.1 ((hh _).1 b1)
    have hl : lowR a.toNat s ≤ b.toNat := by unfold lowR; split <;> omega
    obtain ⟨h0, h1⟩ := q4 s hs (by omega)
    have := b3 r.toNat (by have := (hr (by omega)).2; omega) (hr (by omega)).1
    omega
end Go.HL
namespace Go.HL
open Go
theorem inc_len : ∀ (ps : List Nat) (lo hi : Nat), ps.Pairwise (· < ·) → (∀ p ∈ ps, lo ≤ p ∧ p < hi) → ps.length ≤ hi - lo
  | [], _, _, _, _ => Nat.zero_le _
  | x :: t, lo, hi, h, hb => by
    have h1 := List.pairwise_cons.1 h
    have := inc_len t (x + 1) hi h1.2 (fun p hp => ⟨h1.1 p hp, (hb p (.tail _ hp)).2⟩)
    have := hb x (.head _)
    simp only [List.length_cons]; omega
theorem filter_two (p : Nat → Bool) : ∀ l : List Nat, (l.filter p).length + (l.filter fun x => !p x).length = l.length
  | [] => rfl
  | x :: t => by
    have := filter_two p t
    cases h : p x <;> simp [List.filter_cons, h] <;> omega
def totB (l : List SecV) : Nat := (l.map fun s => s.data.length).sum
theorem cov_len : ∀ (l : List SecV) (ps : List Nat), ps.Pairwise (· < ·) → (∀ p ∈ ps, ∃ s ∈ l, s.addr.toNat ≤ p ∧ (p : Int) < endP s) → ps.length ≤ totB l
  | [], ps, _, h => by
    cases ps with
    | nil => exact Nat.zero_le _
    | cons p t => obtain ⟨s, hs, _⟩ := h p (.head _); cases hs
  | s :: l, ps, hi, h => by
    have h1 := filter_two (fun p => decide (s.addr.toNat ≤ p ∧ (p : Int) < endP s)) ps
    have h2 := inc_len (ps.filter fun p => decide (s.addr.toNat ≤ p ∧ (p : Int) < endP s)) s.addr.toNat (endP s).toNat (hi.filter _) (fun p hp => by
      have := of_decide_eq_true (List.mem_filter.1 hp).2
      omega)
    have h3 := cov_len l (ps.filter fun p => !decide (s.addr.toNat ≤ p ∧ (p : Int) < endP s)) (hi.filter _) (fun p hp => by
      obtain ⟨q1, q2⟩ := List.mem_filter.1 hp
      obtain ⟨x, hx, q3⟩ := h p q1
      rcases List.mem_cons.1 hx with rfl | hx
      · simp [q3] at q2
      · exact ⟨x, hx, q3⟩)
    have he : endP s ≤ (s.addr.toNat : Int) + s.data.length := by unfold endP; omega
    have ht : totB (s :: l) = s.data.length + totB l := by simp [totB]
    rw [ht]; omega
theorem posF_spec {l : List SecV} {rs : List Rng} {to_ : UInt32} (hn : Norm rs) : ∀ (f : Nat) (a : UInt32), ((posF l rs to_ f a).map UInt32.toNat).Pairwise (· < ·) ∧ ∀ p ∈ posF l rs to_ f a, a.toNat ≤ p.toNat ∧ Has rs p.toNat ∧ p < to_
  | 0, a => ⟨by simp [posF], fun p hp => by cases hp⟩
  | f + 1, a => by
    cases hq : nxtP rs a with
    | none => rw [posF_stop hq]; exact ⟨by simp, fun p hp => by cases hp⟩
    | some b =>
      by_cases hb : b < to_
      · rw [posF_go hq hb]
        obtain ⟨k1, k2⟩ := posF_spec hn f (b + szW l to_ b)
        obtain ⟨s1, s2⟩ := step_pos l to_ b hb
        obtain ⟨b1, b2, _⟩ := (nxt_spec (a := a) hn).1 b hq
        refine ⟨?_, fun p hp => ?_⟩
        · rw [List.map_cons, List.pairwise_cons]
          refine ⟨fun n hnm => ?_, k1⟩
          obtain ⟨p, hp, rfl⟩ := List.mem_map.1 hnm
          have := (k2 p hp).1
          omega
        · rcases List.mem_cons.1 hp with rfl | hp
          · exact ⟨b2, b1, hb⟩
          · obtain ⟨q1, q2, q3⟩ := k2 p hp
            exact ⟨by omega, q2, q3⟩
      · rw [posF_stop2 hq hb]; exact ⟨by simp, fun p hp => by cases hp⟩
theorem posP_len (l : List SecV) (from_ to_ : UInt32) : (posP l from_ to_).length ≤ totB l := by
  obtain ⟨hn, hh⟩ := normal_ok (l.map spaceP)
  obtain ⟨k1, k2⟩ := posF_spec (l := l) (to_ := to_) hn 4294967296 from_
  have := cov_len l ((posP l from_ to_).map UInt32.toNat) k1 (fun p hp => by
    obtain ⟨q, hq, rfl⟩ := List.mem_map.1 hp
    exact has_space.1 ((hh _).1 (k2 q hq).2.1))
  simpa using this
end Go.HL
namespace Go.HL
open Go
def stepB (out : List Rng) (r : Rng) : List Rng := if 0 < out.length ∧ (out.getD (out.length - 1) default).hi = r.lo then out.set (out.length - 1) ⟨(out.getD (out.length - 1) default).lo, r.hi⟩ else out ++ [r]
def mergeB (rs : List Rng) : List Rng := rs.foldl stepB []
theorem mergeB_snoc (rs : List Rng) (r : Rng) : mergeB (rs ++ [r]) = stepB (mergeB rs) r := by simp [mergeB, List.foldl_append]
theorem stepB_len (out : List Rng) (r : Rng) : (stepB out r).length ≤ out.length + 1 := by unfold stepB; split <;> simp
theorem foldB_len : ∀ (rs out : List Rng), (rs.foldl stepB out).length ≤ out.length + rs.length
  | [], out => by simp
  | r :: t, out => by
    have h1 := foldB_len t (stepB out r)
    have h2 := stepB_len out r
    simp only [List.foldl_cons, List.length_cons]; omega
theorem mergeB_len (rs : List Rng) : (mergeB rs).length ≤ rs.length := by have := foldB_len rs []; simpa [mergeB] using this
theorem has_find {l : List SecV} {b : UInt32} (h : Has (normalP (l.map spaceP)) b.toNat) : 0 ≤ findP l b := by
  have h1 := finds_ok l b
  obtain ⟨r, hr, q1, q2⟩ := h
  have h2 : (normalP (l.map spaceP)).any (inR b) = true := List.any_eq_true.2 ⟨r, hr, by
    simp only [inR, Bool.and_eq_true, decide_eq_true_eq, UInt32.le_iff_toNat_le, UInt32.lt_iff_toNat_lt]; exact ⟨q1, q2⟩⟩
  rw [h2] at h1
  exact of_decide_eq_true h1.symm
theorem u32_succ {b t : UInt32} (h : b < t) : u32 ((b.toNat : Int) + 1) = b + 1 := by
  have ht := t.toNat_lt
  rw [UInt32.lt_iff_toNat_lt] at h
  have e := u32_val (n := (b.toNat : Int) + 1) (by omega)
  apply UInt32.toNat_inj.1
  rw [UInt32.toNat_add, show (1 : UInt32).toNat = 1 from rfl]
  omega
theorem sz_ok {l : List SecV} {to_ b : UInt32} (h : (decP (winP l b to_) b).2 = 0) : ((szW l to_ b).toNat : Int) = (decP (winP l b to_) b).1.size := by
  have hd := dec_size h
  have hw := win_len l b to_
  unfold szW
  rw [if_pos (show okW l to_ b = true from decide_eq_true h)]
  exact u32_val (by unfold decW; omega)
theorem sz_bad {l : List SecV} {to_ b : UInt32} (h : ¬ (decP (winP l b to_) b).2 = 0) : (szW l to_ b).toNat = 1 := by
  unfold szW
  rw [if_neg (show ¬ okW l to_ b = true from fun q => h (of_decide_eq_true q))]; rfl
end Go.HL
namespace Go.Proofs.Ytfnedefgepjbpaa
open Go Go.HL Go.RowKit
set_option maxRecDepth 100000 in
set_option maxHeartbeats 8000000 in
theorem refSweep_any (l : List SecV) (V : Value) (from_ to_ : UInt32) (w : World) (hV : Sl (hp w) encSec l V) (hB : SecB l) (hD : DataIn (hp w) l) :
    Calls Try.prog 12 #[V, .int .u32 from_.toNat, .int .u32 to_.toNat] w (fun e w' => ∃ i : (Value × List Ins) × (Value × List Rng), e = .returned (.tuple #[i.1.1, i.2.1]) ∧ Ext w w' ∧ NewEnts w w' [rowE i.1.1 36 encIns i.1.2, rowE i.2.1 73 encRng i.2.2] ∧ i.1.2 = foundP l to_ (posP l from_ to_) ∧ i.2.2 = mergeB (badP l to_ (posP l from_ to_))) := by
  have hV' : Sl (Bg.of w).blk encSec l V := hV
  have hlen := hB.1
  obtain ⟨rs, hrs⟩ : ∃ rs, rs = normalP (l.map spaceP) := ⟨_, rfl⟩
  have hno := (normal_ok (l.map spaceP)).1
  rw [← hrs] at hno
  have hfr := from_.toNat_lt
  have hto := to_.toNat_lt
  refine enter Try.func12 rfl Try.ntmps12 rfl ?_
  refine Tr.seq ?_
  refine Tr.region ?_
  refine Tr.q (QS.assign rfl) rfl ?_
  refine Tr.q (QS.assign rfl) rfl ?_
  refine Tr.nil ?_
  refine Tr.thenN ?_
  refine Tr.seq ?_
  refine Tr.region ?_
  refine Tr.q (QS.assign rfl) rfl ?_
  refine Tr.nil ?_
  refine Tr.thenN ?_
  refine Tr.seq ?_
  refine Tr.region ?_
  refine Tr.q (QS.assign rfl) rfl ?_
  refine Tr.nil ?_
  refine Tr.thenN ?_
  refine Tr.seq ?_
  refine Tr.region ?_
  refine Tr.q (QS.move rfl) rfl ?_
  refine Tr.q (QS.move rfl) rfl ?_
  refine Tr.q (QS.cvt32toI rfl Try.underlying23 Try.underlying3) rfl ?_
  refine Tr.q (QS.call rfl Try.call33 (fun w hw => nextR_any l V (from_.toNat : Int) w (hw.slF hV) hB (by omega))) rfl ?_
  refine Tr.q (QS.assign rfl) rfl ?_
  refine Tr.nil ?_
  refine Tr.thenN ?_
  refine Tr.seq ?_
  refine Tr.block ?_
  refine Tr.ownNil 73 encRng ?_
  refine Tr.ownNil 36 encIns ?_
  refine Tr.loop (ι := UInt32 × List UInt32 × Nat × Value × Value) (fun ⟨x, pre, f, Vf, Vb⟩ => pre ++ posF l rs to_ f x = posP l from_ to_ ∧ pre.length ≤ x.toNat ∧ 4294967296 ≤ f + x.toNat) (fun _ => _) (fun ⟨x, pre, f, Vf, Vb⟩ => [rowE Vf 36 encIns (foundP l to_ pre), rowE Vb 73 encRng (mergeB (badP l to_ pre))]) (fun ⟨x, pre, f, Vf, Vb⟩ => [(10, .int .i64 (nextR l x.toNat)), (8, Vf), (9, Vb)]) (fun ⟨x, pre, f, Vf, Vb⟩ => 4294967296 - x.toNat) (from_, [], 4294967296, _, _) ⟨by rw [posP, ← hrs]; rfl, Nat.zero_le _, by omega⟩ (.cons (by first | rfl | exact lookI rfl (by omega) | exact lookI rfl (by simp) | exact lookB rfl (by simp)) (.cons (by first | rfl | exact lookI rfl (by omega) | exact lookI rfl (by simp) | exact lookB rfl (by simp)) (.cons (by first | rfl | exact lookI rfl (by omega) | exact lookI rfl (by simp) | exact lookB rfl (by simp)) Front.nil))) (by repeat' (first | exact Pick.nil _ | exact Del.here _ | apply Pick.cons | apply Del.there)) rfl (fun i hi m hm => ?_)
  obtain ⟨x, pre, f, Vf, Vb⟩ := i
  replace hi : pre ++ posF l rs to_ f x = posP l from_ to_ ∧ pre.length ≤ x.toNat ∧ 4294967296 ≤ f + x.toNat := hi
  replace hm : m = 4294967296 - x.toNat := hm
  change Tr _ _ [rowE Vf 36 encIns (foundP l to_ pre), rowE Vb 73 encRng (mergeB (badP l to_ pre))] ([(10, .int .i64 (nextR l x.toNat)), (8, Vf), (9, Vb)] ++ _) _
  obtain ⟨q6, q7, q8⟩ := hi
  have hxlt := x.toNat_lt
  have hlink := next_link l x
  rw [← hrs] at hlink
  have hfl := found_len l to_ pre
  have hbl := bad_len l to_ pre
  have hml := mergeB_len (badP l to_ pre)
  refine Tr.seq ?_
  refine Tr.seq ?_
  refine Tr.region ?_
  refine Tr.q (QS.move rfl) rfl ?_
  refine Tr.q (QS.geq rfl rfl) rfl ?_
  refine Tr.q (QS.move rfl) rfl ?_
  apply Tr.andP
  · exact (rfl : _ = (5, 20, 25))
  · exact rfl
  · intro hT1; have hT1' := hT1
    try simp only [bs] at hT1'
    refine Tr.gq rfl rfl hT1 (QS.move rfl) rfl ?_
    refine Tr.gq rfl rfl hT1 (QS.move rfl) rfl ?_
    refine Tr.gq rfl rfl hT1 (QS.cvt32toI rfl Try.underlying23 Try.underlying3) rfl ?_
    refine Tr.gq rfl rfl hT1 (QS.lss rfl rfl) rfl ?_
    refine Tr.q (QS.pickT rfl hT1 rfl) rfl ?_
    refine Tr.nil (Tr.thenN ?_)
    exact Tr.endX (Sub.cons rfl (Sub.dropN 5 (by kernel_rfl) rfl))
  · intro hF1
    refine Tr.gskip rfl rfl hF1 rfl ?_
    refine Tr.gskip rfl rfl hF1 rfl ?_
    refine Tr.gskip rfl rfl hF1 rfl ?_
    refine Tr.gskip rfl rfl hF1 rfl ?_
    refine Tr.q (QS.pickF rfl hF1 rfl) rfl ?_
    refine Tr.nil (Tr.thenN ?_)
    exact Tr.endX (Sub.cons rfl (Sub.dropN 5 (by kernel_rfl) rfl))
  refine Tr.nil ?_
  refine Tr.thenN ?_
  refine Tr.cond rfl (fun h2 => ?_) (fun h2 => ?_)
  · try simp only [bs] at h2
    refine Tr.skip ?_
    refine Tr.thenN ?_
    refine Tr.block ?_
    refine Tr.seq ?_
    obtain ⟨b, hb⟩ : ∃ b, nxtP rs x = some b := by
      cases hq : nxtP rs x with
      | none => rw [hq] at hlink; replace hlink : nextR l x.toNat = -1 := hlink; exfalso; have := h2.1; rw [hlink] at this; omega
      | some b => exact ⟨b, rfl⟩
    rw [hb] at hlink
    replace hlink : nextR l x.toNat = (b.toNat : Int) := hlink
    rw [hlink] at h2 ⊢
    have hlt : b < to_ := UInt32.lt_iff_toNat_lt.2 (by omega)
    have hfb : 0 ≤ findP l b := has_find (by rw [← hrs]; exact ((nxt_spec (a := x) hno).1 b hb).1)
    have hblt := b.toNat_lt
    have hge := nxtP_ge hb
    have hst := step_pos l to_ b hlt
    refine Tr.region ?_
    refine Tr.q (QS.move rfl) rfl ?_
    refine Tr.q (QS.move rfl) rfl ?_
    refine Tr.q (QS.move rfl) rfl ?_
    refine Tr.q (QS.cvt32toI rfl Try.underlying23 Try.underlying3) rfl ?_
    refine Tr.callRow rfl Try.call35 (fun w hw => bytesR_any l V b to_ w (hw.slF hV) hB (hD.mono hw.bg) hfb hlt) rfl (fun V3 => ?_)
    refine Tr.q (QS.move rfl) rfl ?_
    refine Tr.q (QS.cvtTo32 rfl Try.underlying3 Try.underlying23) rfl ?_
    refine Tr.q (QS.call rfl Try.call34 (fun w hw => (by have q := refDecode_any (winP l b to_) V3 b w (hw.row (by repeat (first | exact List.Mem.head _ | apply List.Mem.tail))); rw [dec_ref] at q; rw [u32_self]; exact q))) rfl ?_
    refine Tr.q (QS.move rfl) rfl ?_
    refine Tr.q (QS.extract rfl rfl) rfl ?_
    refine Tr.q (QS.extract rfl rfl) rfl ?_
    refine Tr.alloc Try.zeroValue36 rfl rfl (fun b4 => ?_)
    refine Tr.storeW rfl rfl Try.sizeOf36 (by repeat (first | exact Put.here _ | apply Put.there)) (by rfl) (by rfl) (by first | exact List.all_eq_true.1 rfl | exact Enc.one _ _ | exact Enc.one encIns _) rfl ?_
    refine Tr.q (QS.assign rfl) rfl ?_
    refine Tr.nil ?_
    refine Tr.thenN ?_
    refine Tr.seq ?_
    refine Tr.seq ?_
    refine Tr.region ?_
    refine Tr.q (QS.move rfl) rfl ?_
    refine Tr.q (QS.eql rfl rfl) rfl ?_
    refine Tr.nil ?_
    refine Tr.thenN ?_
    refine Tr.cond rfl (fun h5 => ?_) (fun h5 => ?_)
    · try simp only [bs] at h5
      refine Tr.seq ?_
      refine Tr.region ?_
      refine Tr.q (QS.move rfl) rfl ?_
      refine Tr.q (QS.lW rfl Try.isAgg36 Try.sizeOf36) rfl ?_
      refine Tr.lit1 (E := encIns) (decP (winP l b to_) b).1 rfl rfl Try.underlying26 Try.sizeOf36 Try.zeroValue36 (by rfl) (by rfl) rfl (fun V6 => ?_)
      refine Tr.append1 rfl rfl (by repeat (first | exact Del.here _ | apply Del.there)) (by repeat (first | exact Del.here _ | apply Del.there)) Try.underlying26 HLF.info36 (by rfl) (by rfl) (by (try simp only [List.length_cons, List.length_nil, List.length_append, List.length_take]); omega) (by unfold maxLen; (try simp only [List.length_cons, List.length_nil, List.length_append, List.length_take]); omega) rfl (fun V7 => ?_)
      refine Tr.q (QS.assign rfl) rfl ?_
      refine Tr.nil ?_
      refine Tr.thenN ?_
      refine Tr.seq ?_
      obtain ⟨d1, d2, d3⟩ := dec_size (b := winP l b to_) (addr := b) (by assumption)
      have dw := win_len l b to_
      obtain ⟨sz, hsz⟩ : ∃ sz, sz = (decP (winP l b to_) b).1.size := ⟨_, rfl⟩
      have hszb : 0 ≤ (b.toNat : Int) + (decP (winP l b to_) b).1.size ∧ (b.toNat : Int) + (decP (winP l b to_) b).1.size ≤ 4294967300 := by rw [← hsz] at d1 d2 ⊢; omega
      refine Tr.region ?_
      refine Tr.q (QS.move rfl) rfl ?_
      refine Tr.q (QS.move rfl) rfl ?_
      refine Tr.q (QS.fieldAddr (off := 8) (ft := 3) rfl Try.underlying36 rfl rfl Try.sizeOf3 (by decide)) rfl ?_
      refine Tr.q (QS.lV rfl Try.isAgg3) rfl ?_
      refine Tr.q (QS.addI rfl rfl (by omega)) rfl ?_
      refine Tr.q (QS.call rfl Try.call33 (fun w hw => nextR_any l V ((b.toNat : Int) + (decP (winP l b to_) b).1.size) w (hw.slF hV) hB hszb)) rfl ?_
      refine Tr.q (QS.assign rfl) rfl ?_
      refine Tr.nil ?_
      refine Tr.thenN ?_
      refine Tr.exit ?_
      refine Tr.thenE ?_
      refine Tr.inHit ?_
      refine Tr.thenN ?_
      have hok : okW l to_ b = true := decide_eq_true h5
      have hs1 := sz_ok h5
      have hx2 : ((b + szW l to_ b).toNat : Int) = (b.toNat : Int) + (decP (winP l b to_) b).1.size := by omega
      rw [← hx2]
      obtain ⟨f2, rfl⟩ : ∃ f2, f = f2 + 1 := ⟨f - 1, by omega⟩
      have hpf : (pre ++ [b]) ++ posF l rs to_ f2 (b + szW l to_ b) = posP l from_ to_ := by rw [← q6, posF_go hb hlt, List.append_assoc, List.singleton_append]
      have hpl : (pre ++ [b]).length = pre.length + 1 := by simp
      rw [show foundP l to_ pre ++ [(decP (winP l b to_) b).1] = foundP l to_ (pre ++ [b]) from (found_yes hok).symm, ← bad_yes (ps := pre) hok]
      apply Tr.again (b + szW l to_ b, pre ++ [b], f2, _, _)
      · exact rfl
      · exact (.cons (by first | rfl | exact lookI rfl (by omega) | exact lookI rfl (by simp) | exact lookB rfl (by simp)) (.cons (by first | rfl | exact lookI rfl (by omega) | exact lookI rfl (by simp) | exact lookB rfl (by simp)) (.cons (by first | rfl | exact lookI rfl (by omega) | exact lookI rfl (by simp) | exact lookB rfl (by simp)) Front.nil)))
      · exact SubX.dropN 34 (by kernel_rfl) rfl
      · exact (by repeat' (first | exact Pick.nil _ | exact Del.here _ | apply Pick.cons | apply Del.there))
      · exact ⟨hpf, by omega, by omega⟩
      · exact (by show 4294967296 - (b + szW l to_ b).toNat < m; omega)
    · try simp only [bs] at h5
      refine Tr.skip ?_
      refine Tr.thenN ?_
      refine Tr.seq ?_
      refine Tr.region ?_
      refine Tr.q (QS.move rfl) rfl ?_
      refine Tr.q (QS.lenRow rfl (by repeat (first | exact List.Mem.head _ | apply List.Mem.tail)) Try.underlying30) rfl ?_
      refine Tr.q (QS.assign rfl) rfl ?_
      refine Tr.nil ?_
      refine Tr.thenN ?_
      refine Tr.seq ?_
      refine Tr.seq ?_
      refine Tr.region ?_
      refine Tr.q (QS.move rfl) rfl ?_
      refine Tr.q (QS.gtr rfl rfl) rfl ?_
      refine Tr.q (QS.move rfl) rfl ?_
      apply Tr.andP
      · exact (rfl : _ = (10, 53, 63))
      · exact rfl
      · intro hT8; have hT8' := hT8
        try simp only [bs] at hT8'
        refine Tr.gq rfl rfl hT8 (QS.move rfl) rfl ?_
        refine Tr.gq rfl rfl hT8 (QS.move rfl) rfl ?_
        refine Tr.gq rfl rfl hT8 (QS.subI rfl rfl (by omega)) rfl ?_
        refine Tr.gq rfl rfl hT8 (QS.idxRow rfl rfl (by repeat (first | exact List.Mem.head _ | apply List.Mem.tail)) Try.underlying30 Try.sizeOf73 (by rfl) (by omega)) rfl ?_
        refine Tr.gq rfl rfl hT8 (QS.fieldAddr (off := 1) (ft := 23) rfl Try.underlying73 rfl rfl Try.sizeOf23 (by decide)) rfl ?_
        refine Tr.gq rfl rfl hT8 (QS.elRF rfl (by repeat (first | exact List.Mem.head _ | apply List.Mem.tail)) Try.isAgg23 (by omega) (by rfl)) rfl ?_
        refine Tr.gq rfl rfl hT8 (QS.cvt32toI rfl Try.underlying23 Try.underlying3) rfl ?_
        refine Tr.gq rfl rfl hT8 (QS.move rfl) rfl ?_
        refine Tr.gq rfl rfl hT8 (QS.eql rfl rfl) rfl ?_
        refine Tr.q (QS.pickT rfl hT8 rfl) rfl ?_
        refine Tr.nil (Tr.thenN ?_)
        exact Tr.endX (Sub.cons rfl (Sub.dropN 10 (by kernel_rfl) rfl))
      · intro hF8
        refine Tr.gskip rfl rfl hF8 rfl ?_
        refine Tr.gskip rfl rfl hF8 rfl ?_
        refine Tr.gskip rfl rfl hF8 rfl ?_
        refine Tr.gskip rfl rfl hF8 rfl ?_
        refine Tr.gskip rfl rfl hF8 rfl ?_
        refine Tr.gskip rfl rfl hF8 rfl ?_
        refine Tr.gskip rfl rfl hF8 rfl ?_
        refine Tr.gskip rfl rfl hF8 rfl ?_
        refine Tr.gskip rfl rfl hF8 rfl ?_
        refine Tr.q (QS.pickF rfl hF8 rfl) rfl ?_
        refine Tr.nil (Tr.thenN ?_)
        exact Tr.endX (Sub.cons rfl (Sub.dropN 10 (by kernel_rfl) rfl))
      refine Tr.nil ?_
      refine Tr.thenN ?_
      refine Tr.cond rfl (fun h9 => ?_) (fun h9 => ?_)
      · try simp only [bs] at h9
        refine Tr.region ?_
        refine Tr.q (QS.move rfl) rfl ?_
        refine Tr.q (QS.move rfl) rfl ?_
        refine Tr.q (QS.subI rfl rfl (by omega)) rfl ?_
        refine Tr.q (QS.move rfl) rfl ?_
        refine Tr.q (QS.addI rfl rfl (by omega)) rfl ?_
        refine Tr.q (QS.cvtTo32 rfl Try.underlying3 Try.underlying23) rfl ?_
        refine Tr.q (QS.idxRow rfl rfl (by repeat (first | exact List.Mem.head _ | apply List.Mem.tail)) Try.underlying30 Try.sizeOf73 (by rfl) (by omega)) rfl ?_
        refine Tr.q (QS.fieldAddr (off := 1) (ft := 23) rfl Try.underlying73 rfl rfl Try.sizeOf23 (by decide)) rfl ?_
        refine Tr.storeRow (⟨((mergeB (badP l to_ pre)).getD (((mergeB (badP l to_ pre)).length : Int) - 1).toNat default).lo, u32 ((b.toNat : Int) + 1)⟩) rfl rfl Try.sizeOf23 (by repeat (first | exact Put.here _ | apply Put.there)) (by omega) (by decide) (by rfl) rfl rfl rfl ?_
        refine Tr.nil ?_
        refine Tr.thenN ?_
        refine Tr.region ?_
        refine Tr.q (QS.move rfl) rfl ?_
        refine Tr.q (QS.move rfl) rfl ?_
        refine Tr.q (QS.addI rfl rfl (by omega)) rfl ?_
        refine Tr.q (QS.call rfl Try.call33 (fun w hw => nextR_any l V ((b.toNat : Int) + 1) w (hw.slF hV) hB (by omega))) rfl ?_
        refine Tr.q (QS.assign rfl) rfl ?_
        refine Tr.nil ?_
        refine Tr.inN ?_
        refine Tr.thenN ?_
        have hok : okW l to_ b = false := decide_eq_false h5
        have hs1 := sz_bad h5
        have hx2 : ((b + szW l to_ b).toNat : Int) = (b.toNat : Int) + 1 := by omega
        have hbb : badP l to_ (pre ++ [b]) = badP l to_ pre ++ [⟨b, b + 1⟩] := bad_no hok
        obtain ⟨f2, rfl⟩ : ∃ f2, f = f2 + 1 := ⟨f - 1, by omega⟩
        have hpf : (pre ++ [b]) ++ posF l rs to_ f2 (b + szW l to_ b) = posP l from_ to_ := by rw [← q6, posF_go hb hlt, List.append_assoc, List.singleton_append]
        have hpl : (pre ++ [b]).length = pre.length + 1 := by simp
        have hmm : (mergeB (badP l to_ pre)).set (((mergeB (badP l to_ pre)).length : Int) - 1).toNat ⟨((mergeB (badP l to_ pre)).getD (((mergeB (badP l to_ pre)).length : Int) - 1).toNat default).lo, u32 ((b.toNat : Int) + 1)⟩ = mergeB (badP l to_ (pre ++ [b])) := by
          rw [hbb, mergeB_snoc]
          unfold stepB
          have e1 : (((mergeB (badP l to_ pre)).length : Int) - 1).toNat = (mergeB (badP l to_ pre)).length - 1 := by omega
          rw [e1] at h9 ⊢
          rw [if_pos ⟨by omega, UInt32.toNat_inj.1 (show _ = b.toNat by omega)⟩, u32_succ hlt]
        rw [hmm, ← found_no (ps := pre) hok, ← hx2]
        apply Tr.again (b + szW l to_ b, pre ++ [b], f2, _, _)
        · exact rfl
        · exact (.cons (by first | rfl | exact lookI rfl (by omega) | exact lookI rfl (by simp) | exact lookB rfl (by simp)) (.cons (by first | rfl | exact lookI rfl (by omega) | exact lookI rfl (by simp) | exact lookB rfl (by simp)) (.cons (by first | rfl | exact lookI rfl (by omega) | exact lookI rfl (by simp) | exact lookB rfl (by simp)) Front.nil)))
        · exact SubX.dropN 42 (by kernel_rfl) rfl
        · exact (by repeat' (first | exact Pick.nil _ | exact Del.here _ | apply Pick.cons | apply Del.there))
        · exact ⟨hpf, by omega, by omega⟩
        · exact (by show 4294967296 - (b + szW l to_ b).toNat < m; omega)
      · try simp only [bs] at h9
        refine Tr.region ?_
        refine Tr.q (QS.move rfl) rfl ?_
        refine Tr.q (QS.move rfl) rfl ?_
        refine Tr.q (QS.cvtTo32 rfl Try.underlying3 Try.underlying23) rfl ?_
        refine Tr.q (QS.move rfl) rfl ?_
        refine Tr.q (QS.addI rfl rfl (by omega)) rfl ?_
        refine Tr.q (QS.cvtTo32 rfl Try.underlying3 Try.underlying23) rfl ?_
        refine Tr.q (QS.build (vs := [(0, _), (1, _)]) rfl rfl (HLF.built73_0_1 _ _)) rfl ?_
        refine Tr.lit1 (E := encRng) (⟨u32 (b.toNat : Int), u32 ((b.toNat : Int) + 1)⟩ : Rng) rfl rfl Try.underlying30 Try.sizeOf73 Try.zeroValue73 (by rfl) (by rfl) rfl (fun V10 => ?_)
        refine Tr.append1 rfl rfl (by repeat (first | exact Del.here _ | apply Del.there)) (by repeat (first | exact Del.here _ | apply Del.there)) Try.underlying30 HLF.info73 (by rfl) (by rfl) (by (try simp only [List.length_cons, List.length_nil, List.length_append, List.length_take]); omega) (by unfold maxLen; (try simp only [List.length_cons, List.length_nil, List.length_append, List.length_take]); omega) rfl (fun V11 => ?_)
        refine Tr.q (QS.assign rfl) rfl ?_
        refine Tr.nil ?_
        refine Tr.thenN ?_
        refine Tr.region ?_
        refine Tr.q (QS.move rfl) rfl ?_
        refine Tr.q (QS.move rfl) rfl ?_
        refine Tr.q (QS.addI rfl rfl (by omega)) rfl ?_
        refine Tr.q (QS.call rfl Try.call33 (fun w hw => nextR_any l V ((b.toNat : Int) + 1) w (hw.slF hV) hB (by omega))) rfl ?_
        refine Tr.q (QS.assign rfl) rfl ?_
        refine Tr.nil ?_
        refine Tr.inN ?_
        refine Tr.thenN ?_
        have hok : okW l to_ b = false := decide_eq_false h5
        have hs1 := sz_bad h5
        have hx2 : ((b + szW l to_ b).toNat : Int) = (b.toNat : Int) + 1 := by omega
        have hbb : badP l to_ (pre ++ [b]) = badP l to_ pre ++ [⟨b, b + 1⟩] := bad_no hok
        obtain ⟨f2, rfl⟩ : ∃ f2, f = f2 + 1 := ⟨f - 1, by omega⟩
        have hpf : (pre ++ [b]) ++ posF l rs to_ f2 (b + szW l to_ b) = posP l from_ to_ := by rw [← q6, posF_go hb hlt, List.append_assoc, List.singleton_append]
        have hpl : (pre ++ [b]).length = pre.length + 1 := by simp
        have hmm : mergeB (badP l to_ pre) ++ [(⟨u32 (b.toNat : Int), u32 ((b.toNat : Int) + 1)⟩ : Rng)] = mergeB (badP l to_ (pre ++ [b])) := by
          rw [hbb, mergeB_snoc]
          unfold stepB
          rw [if_neg (fun q => ?_), u32_succ hlt, u32_self]
          have e1 : (((mergeB (badP l to_ pre)).length : Int) - 1).toNat = (mergeB (badP l to_ pre)).length - 1 := by omega
          rw [e1] at h9
          have q3 : _ = b.toNat := congrArg UInt32.toNat q.2
          rcases h9 with h9 | h9
          · omega
          · exact h9 (by omega)
        rw [hmm, ← found_no (ps := pre) hok, ← hx2]
        apply Tr.again (b + szW l to_ b, pre ++ [b], f2, _, _)
        · exact rfl
        · exact (.cons (by first | rfl | exact lookI rfl (by omega) | exact lookI rfl (by simp) | exact lookB rfl (by simp)) (.cons (by first | rfl | exact lookI rfl (by omega) | exact lookI rfl (by simp) | exact lookB rfl (by simp)) (.cons (by first | rfl | exact lookI rfl (by omega) | exact lookI rfl (by simp) | exact lookB rfl (by simp)) Front.nil)))
        · exact SubX.dropN 44 (by kernel_rfl) rfl
        · exact (by repeat' (first | exact Pick.nil _ | exact Del.here _ | apply Pick.cons | apply Del.there))
        · exact ⟨hpf, by omega, by omega⟩
        · exact (by show 4294967296 - (b + szW l to_ b).toNat < m; omega)
  · try simp only [bs] at h2
    refine Tr.exit ?_
    refine Tr.thenE ?_
    refine Tr.thenE ?_
    refine Tr.inHit ?_
    refine Tr.thenN ?_
    refine Tr.seq ?_
    refine Tr.region ?_
    refine Tr.q (QS.move rfl) rfl ?_
    refine Tr.q (QS.move rfl) rfl ?_
    refine Tr.q (QS.assign rfl) rfl ?_
    refine Tr.q (QS.assign rfl) rfl ?_
    refine Tr.nil ?_
    refine Tr.thenN ?_
    refine Tr.ret ?_
    refine Tr.ret2 Try.results12 rfl rfl (fun w' hw => ?_)
    have hend : posF l rs to_ f x = [] := by
      cases hq : nxtP rs x with
      | none => exact posF_stop hq
      | some b =>
        refine posF_stop2 hq (fun hb => ?_)
        rw [hq] at hlink
        replace hlink : nextR l x.toNat = (b.toNat : Int) := hlink
        have := UInt32.lt_iff_toNat_lt.1 hb
        rw [hlink] at h2
        omega
    rw [hend, List.append_nil] at q6
    exact ⟨((Vf, foundP l to_ pre), (Vb, mergeB (badP l to_ pre))), rfl, hw.below (Bg.le.refl _), hw.ents (Bg.le.refl _) (by repeat' (first | exact Pick.nil _ | exact Del.here _ | apply Pick.cons | apply Del.there)), by rw [q6], by rw [q6]⟩
end Go.Proofs.Ytfnedefgepjbpaa
namespace Go.HL
open Go
theorem stepB_snoc (init : List Rng) (last r : Rng) : stepB (init ++ [last]) r = if last.hi = r.lo then init ++ [⟨last.lo, r.hi⟩] else init ++ [last] ++ [r] := by
  have e1 : (init ++ [last]).length - 1 = init.length := by simp
  have e2 : (init ++ [last]).getD init.length default = last := by simp [List.getD_eq_getElem?_getD]
  have e3 : ∀ x, (init ++ [last]).set init.length x = init ++ [x] := fun x => by simp [List.set_append]
  unfold stepB
  rw [e1, e2, e3]
  by_cases h : last.hi = r.lo
  · rw [if_pos ⟨by simp, h⟩, if_pos h]
  · rw [if_neg (fun q => h q.2), if_neg h]
theorem merge_step {out : List Rng} {r : Rng} (hn : Norm out) (hr : r.hi.toNat = r.lo.toNat + 1) (hl : ∀ x ∈ out, x.hi.toNat ≤ r.lo.toNat) :
    Norm (stepB out r) ∧ (∀ x ∈ stepB out r, x.hi.toNat ≤ r.hi.toNat) ∧ ∀ n, Has (stepB out r) n ↔ Has out n ∨ (r.lo.toNat ≤ n ∧ n < r.hi.toNat) := by
  rcases List.eq_nil_or_concat out with rfl | ⟨init, last, rfl⟩
  · have e : stepB [] r = [r] := by simp [stepB]
    rw [e]
    refine ⟨⟨by simp, fun x hx => by simp at hx; subst hx; omega⟩, fun x hx => by simp at hx; subst hx; exact Nat.le_refl _, fun n => ?_⟩
    simp [Has]
  · rw [List.concat_eq_append] at *
    have h1 := hl last (by simp)
    have hp := List.pairwise_append.1 hn.1
    have hlast := hn.2 last (by simp)
    rw [stepB_snoc]
    split
    · rename_i he
      have he' : last.hi.toNat = r.lo.toNat := congrArg UInt32.toNat he
      refine ⟨⟨List.pairwise_append.2 ⟨hp.1, by simp, fun x hx y hy => ?_⟩, fun x hx => ?_⟩, fun x hx => ?_, fun n => ?_⟩
      · simp at hy; subst hy; exact hp.2.2 x hx last (by simp)
      · rcases List.mem_append.1 hx with hx | hx
        · exact hn.2 x (by simp [hx])
        · simp at hx; subst hx; show last.lo.toNat < r.hi.toNat; omega
      · rcases List.mem_append.1 hx with hx | hx
        · have := hl x (by simp [hx]); omega
        · simp at hx; subst hx; exact Nat.le_refl _
      · simp only [Has, List.mem_append, List.mem_singleton]
        constructor
        · rintro ⟨x, hx | rfl, q1, q2⟩
          · exact .inl ⟨x, .inl hx, q1, q2⟩
          · have q1' : last.lo.toNat ≤ n := q1
            have q2' : n < r.hi.toNat := q2
            by_cases c : n < last.hi.toNat
            · exact .inl ⟨last, .inr rfl, q1', c⟩
            · exact .inr ⟨by omega, q2'⟩
        · rintro (⟨x, hx | rfl, q1, q2⟩ | ⟨q1, q2⟩)
          · exact ⟨x, .inl hx, q1, q2⟩
          · exact ⟨_, .inr rfl, q1, by show n < r.hi.toNat; omega⟩
          · exact ⟨_, .inr rfl, by show last.lo.toNat ≤ n; omega, q2⟩
    · rename_i he
      have he' : last.hi.toNat < r.lo.toNat := by
        have : last.hi.toNat ≠ r.lo.toNat := fun q => he (UInt32.toNat_inj.1 q)
        omega
      refine ⟨⟨List.pairwise_append.2 ⟨hn.1, by simp, fun x hx y hy => ?_⟩, fun x hx => ?_⟩, fun x hx => ?_, fun n => ?_⟩
      · simp at hy; subst hy
        rcases List.mem_append.1 hx with hx | hx
        · have := hp.2.2 x hx last (by simp); omega
        · simp at hx; subst hx; exact he'
      · rcases List.mem_append.1 hx with hx | hx
        · exact hn.2 x hx
        · simp at hx; subst hx; omega
      · rcases List.mem_append.1 hx with hx | hx
        · have := hl x hx; omega
        · simp at hx; subst hx; exact Nat.le_refl _
      · simp only [Has, List.mem_append, List.mem_singleton]
        constructor
        · rintro ⟨x, hx | rfl, q1, q2⟩
          · exact .inl ⟨x, hx, q1, q2⟩
          · exact .inr ⟨q1, q2⟩
        · rintro (⟨x, hx, q1, q2⟩ | ⟨q1, q2⟩)
          · exact ⟨x, .inl hx, q1, q2⟩
          · exact ⟨_, .inr rfl, q1, q2⟩
theorem merge_ok : ∀ (rs out : List Rng), Norm out → (∀ r ∈ rs, r.hi.toNat = r.lo.toNat + 1) → rs.Pairwise (fun x y => x.lo.toNat < y.lo.toNat) → (∀ x ∈ out, ∀ r ∈ rs, x.hi.toNat ≤ r.lo.toNat) →
    Norm (rs.foldl stepB out) ∧ ∀ n, Has (rs.foldl stepB out) n ↔ Has out n ∨ Has rs n
  | [], out, hn, _, _, _ => ⟨hn, fun n => by simp [Has]⟩
  | r :: t, out, hn, h1, h2, h3 => by
    have hp := List.pairwise_cons.1 h2
    have hr := h1 r (.head _)
    obtain ⟨k1, k2, k3⟩ := merge_step hn hr (fun x hx => h3 x hx r (.head _))
    obtain ⟨m1, m2⟩ := merge_ok t (stepB out r) k1 (fun x hx => h1 x (.tail _ hx)) hp.2 (fun x hx q hq => by
      have := k2 x hx
      have := hp.1 q hq
      omega)
    refine ⟨m1, fun n => ?_⟩
    show Has (t.foldl stepB (stepB out r)) n ↔ _
    rw [m2, k3]
    simp only [Has, List.mem_cons]
    constructor
    · rintro ((q | q) | ⟨x, hx, q⟩)
      · exact .inl q
      · exact .inr ⟨r, .inl rfl, q⟩
      · exact .inr ⟨x, .inr hx, q⟩
    · rintro (q | ⟨x, rfl | hx, q⟩)
      · exact .inl (.inl q)
      · exact .inl (.inr q)
      · exact .inr ⟨x, hx, q⟩
theorem merge_normal {rs : List Rng} (h1 : ∀ r ∈ rs, r.hi.toNat = r.lo.toNat + 1) (h2 : rs.Pairwise fun x y => x.lo.toNat < y.lo.toNat) : mergeB rs = normalP rs := by
  obtain ⟨k1, k2⟩ := merge_ok rs [] ⟨by simp, fun x hx => by cases hx⟩ h1 h2 (fun x hx => by cases hx)
  obtain ⟨m1, m2⟩ := normal_ok rs
  refine Norm.unique _ _ k1 m1 fun n => ?_
  rw [m2]
  show Has (rs.foldl stepB []) n ↔ _
  rw [k2]
  simp [Has]
theorem bad_normal (l : List SecV) (from_ to_ : UInt32) : mergeB (badP l to_ (posP l from_ to_)) = normalP (badP l to_ (posP l from_ to_)) := by
  obtain ⟨k1, k2⟩ := posF_spec (l := l) (to_ := to_) (normal_ok (l.map spaceP)).1 4294967296 from_
  have hto := to_.toNat_lt
  refine merge_normal (fun r hr => ?_) ?_
  · obtain ⟨p, hp, rfl⟩ := List.mem_map.1 hr
    have hlt := UInt32.lt_iff_toNat_lt.1 (k2 p (List.mem_filter.1 hp).1).2.2
    show (p + 1).toNat = p.toNat + 1
    rw [UInt32.toNat_add, show (1 : UInt32).toNat = 1 from rfl]; omega
  · unfold badP
    rw [List.pairwise_map]
    have := List.pairwise_map.1 k1
    exact this.filter _
end Go.HL
namespace Go.HL
open Go
def larg11 (l : List SecV) : Bool := decide (20 < l.length) || decide (20000 < totB l)
theorem totB_succ {l : List SecV} {k : Nat} (h : k < l.length) : totB (l.take (k + 1)) = totB (l.take k) + (l.getD k default).data.length := by
  unfold totB
  rw [take_succ h, List.map_append, List.sum_append]; simp
theorem totB_take (l : List SecV) (k : Nat) : totB (l.take k) ≤ totB l := by
  have : totB l = totB (l.take k) + totB (l.drop k) := by
    unfold totB
    rw [← List.sum_append, ← List.map_append, List.take_append_drop]
  omega
theorem totB_mem {l : List SecV} {s : SecV} (h : s ∈ l) : s.data.length ≤ totB l := by
  induction l with
  | nil => cases h
  | cons x t ih =>
    have e : totB (x :: t) = x.data.length + totB t := by simp [totB]
    rcases List.mem_cons.1 h with rfl | h
    · omega
    · have := ih h; omega
theorem larg11_no {l : List SecV} (h : larg11 l = false) : SecB l ∧ totB l ≤ 20000 := by
  simp only [larg11, Bool.or_eq_false_iff, decide_eq_false_iff_not] at h
  exact ⟨⟨by omega, fun s hs => by have := totB_mem hs; omega⟩, by omega⟩
end Go.HL
namespace Go.Proofs.Ytfnedefgepjbpaa
open Go Go.HL Go.RowKit
set_option maxRecDepth 100000 in
set_option maxHeartbeats 2000000 in
theorem large11_any (l : List SecV) (V : Value) (w : World) (hV : Sl (hp w) encSec l V) (hz : ∀ s ∈ l, s.data.length ≤ 140737488351232) :
    Calls Try.prog 9 #[V] w (fun e w' => e = .returned (.bool (larg11 l)) ∧ Ext w w') := by
  have hV' : Sl (Bg.of w).blk encSec l V := hV
  have hlen := hV.len_le
  refine enter Try.func9 rfl Try.ntmps9 rfl ?_
  refine Tr.seq ?_
  refine Tr.region ?_
  refine Tr.q (QS.assign rfl) rfl ?_
  refine Tr.nil ?_
  refine Tr.thenN ?_
  refine Tr.seq ?_
  refine Tr.seq ?_
  refine Tr.region ?_
  refine Tr.q (QS.move rfl) rfl ?_
  refine Tr.q (QS.len rfl (by assumption) Try.underlying22) rfl ?_
  refine Tr.q (QS.gtr rfl rfl) rfl ?_
  refine Tr.nil ?_
  refine Tr.thenN ?_
  refine Tr.cond rfl (fun h1 => ?_) (fun h1 => ?_)
  · try simp only [bs] at h1
    refine Tr.seq ?_
    refine Tr.region ?_
    refine Tr.q (QS.assign rfl) rfl ?_
    refine Tr.nil ?_
    refine Tr.thenN ?_
    refine Tr.ret ?_
    refine Tr.thenR ?_
    refine Tr.ret1 Try.results9 rfl (fun w' hw => ?_)
    exact ⟨by rw [larg11, decide_eq_true (show 20 < l.length by omega)]; rfl, hw.below (Bg.le.refl _)⟩
  · try simp only [bs] at h1
    refine Tr.skip ?_
    refine Tr.thenN ?_
    refine Tr.seq ?_
    refine Tr.region ?_
    refine Tr.q (QS.assign rfl) rfl ?_
    refine Tr.nil ?_
    refine Tr.thenN ?_
    refine Tr.seq ?_
    refine Tr.seq ?_
    refine Tr.region ?_
    refine Tr.q (QS.assign rfl) rfl ?_
    refine Tr.nil ?_
    refine Tr.thenN ?_
    refine Tr.block ?_
    refine Tr.loop (ι := Nat) (fun k => k ≤ l.length ∧ totB (l.take k) ≤ 20000) (fun _ => _) (fun k => []) (fun k => [(4, .int .i64 (k : Nat)), (3, .int .i64 ((totB (l.take k) : Nat) : Int))]) (fun k => l.length - k) 0 ⟨Nat.zero_le _, by simp [totB]⟩ (.cons (by first | rfl | exact lookI rfl (by omega) | exact lookI rfl (by simp) | exact lookB rfl (by simp)) (.cons (by first | rfl | exact lookI rfl (by omega) | exact lookI rfl (by simp) | exact lookB rfl (by simp)) Front.nil)) (by repeat' (first | exact Pick.nil _ | exact Del.here _ | apply Pick.cons | apply Del.there)) rfl (fun k hi m hm => ?_)
    replace hi : k ≤ l.length ∧ totB (l.take k) ≤ 20000 := hi
    replace hm : m = l.length - k := hm
    change Tr _ _ [] ([(4, .int .i64 (k : Nat)), (3, .int .i64 ((totB (l.take k) : Nat) : Int))] ++ _) _
    obtain ⟨hk1, hk2⟩ := hi
    have hbk : k < l.length → (l.getD k default).data.length ≤ 140737488351232 := fun q => hz _ (mem_getD q)
    have hts : k < l.length → totB (l.take (k + 1)) = totB (l.take k) + (l.getD k default).data.length := fun q => totB_succ q
    have htk := totB_take l (k + 1)
    refine Tr.seq ?_
    refine Tr.seq ?_
    refine Tr.region ?_
    refine Tr.q (QS.move rfl) rfl ?_
    refine Tr.q (QS.move rfl) rfl ?_
    refine Tr.q (QS.len rfl (by assumption) Try.underlying22) rfl ?_
    refine Tr.q (QS.lss rfl rfl) rfl ?_
    refine Tr.nil ?_
    refine Tr.thenN ?_
    refine Tr.cond rfl (fun h2 => ?_) (fun h2 => ?_)
    · try simp only [bs] at h2
      refine Tr.skip ?_
      refine Tr.thenN ?_
      refine Tr.seq ?_
      refine Tr.block ?_
      refine Tr.seq ?_
      refine Tr.region ?_
      refine Tr.q (QS.move rfl) rfl ?_
      refine Tr.q (QS.move rfl) rfl ?_
      refine Tr.q (QS.move rfl) rfl ?_
      refine Tr.q (QS.idxN rfl rfl (by assumption) Try.underlying22 Try.sizeOf59 (by rfl) (by omega)) rfl ?_
      refine Tr.q (QS.fieldAddr (off := 2) (ft := 54) rfl Try.underlying59 rfl rfl Try.sizeOf54 (by decide)) rfl ?_
      refine Tr.q (QS.elF rfl (by assumption) Try.isAgg54 (by omega) (by rfl)) rfl ?_
      refine Tr.q (QS.lenNil rfl Try.underlying54) rfl ?_
      refine Tr.q (QS.addI rfl rfl (by omega)) rfl ?_
      refine Tr.q (QS.assign rfl) rfl ?_
      refine Tr.nil ?_
      refine Tr.thenN ?_
      refine Tr.seq ?_
      refine Tr.region ?_
      refine Tr.q (QS.move rfl) rfl ?_
      refine Tr.q (QS.gtr rfl rfl) rfl ?_
      refine Tr.nil ?_
      refine Tr.thenN ?_
      refine Tr.cond rfl (fun h3 => ?_) (fun h3 => ?_)
      · try simp only [bs] at h3
        refine Tr.seq ?_
        refine Tr.region ?_
        refine Tr.q (QS.assign rfl) rfl ?_
        refine Tr.nil ?_
        refine Tr.thenN ?_
        refine Tr.ret ?_
        refine Tr.inR ?_
        refine Tr.thenR ?_
        refine Tr.thenR ?_
        refine Tr.inR ?_
        refine Tr.thenR ?_
        refine Tr.ret1 Try.results9 rfl (fun w' hw => ?_)
        exact ⟨by rw [larg11, decide_eq_true (show 20000 < totB l by omega), Bool.or_true], hw.below (Bg.le.refl _)⟩
      · try simp only [bs] at h3
        refine Tr.skip ?_
        refine Tr.inN ?_
        refine Tr.thenN ?_
        refine Tr.region ?_
        refine Tr.q (QS.move rfl) rfl ?_
        refine Tr.q (QS.addI rfl rfl (by omega)) rfl ?_
        refine Tr.q (QS.assign rfl) rfl ?_
        refine Tr.nil ?_
        refine Tr.thenN ?_
        apply Tr.again (k + 1)
        · exact rfl
        · exact (.cons (by first | rfl | exact lookI rfl (by omega) | exact lookI rfl (by simp) | exact lookB rfl (by simp)) (.cons (by first | rfl | exact lookI rfl (by omega) | exact lookI rfl (by simp) | exact lookB rfl (by simp)) Front.nil))
        · exact SubX.dropN 20 (by kernel_rfl) rfl
        · exact (by repeat' (first | exact Pick.nil _ | exact Del.here _ | apply Pick.cons | apply Del.there))
        · exact ⟨by omega, by omega⟩
        · exact (by (try dsimp only); omega)
    · try simp only [bs] at h2
      refine Tr.exit ?_
      refine Tr.thenE ?_
      refine Tr.thenE ?_
      refine Tr.inHit ?_
      refine Tr.thenN ?_
      refine Tr.seq ?_
      refine Tr.region ?_
      refine Tr.q (QS.assign rfl) rfl ?_
      refine Tr.nil ?_
      refine Tr.thenN ?_
      refine Tr.ret ?_
      refine Tr.ret1 Try.results9 rfl (fun w' hw => ?_)
      have hkl : k = l.length := by omega
      rw [hkl, List.take_length] at hk2
      exact ⟨by rw [larg11, decide_eq_false (show ¬ 20 < l.length by omega), decide_eq_false (show ¬ 20000 < totB l by omega)]; rfl, hw.below (Bg.le.refl _)⟩
end Go.Proofs.Ytfnedefgepjbpaa
namespace Go.HL
open Go
/-- In order, none overlapping another, none empty. -/
def Disj (l : List Rng) : Prop := l.Pairwise (fun x y => x.hi.toNat ≤ y.lo.toNat) ∧ ∀ x ∈ l, x.lo.toNat < x.hi.toNat
def spanP (l : List SecV) (to_ p : UInt32) : Rng := ⟨p, p + szW l to_ p⟩
theorem Disj.filter {l : List SecV} {to_ : UInt32} {ps : List UInt32} (h : Disj (ps.map (spanP l to_))) (p : UInt32 → Bool) : Disj ((ps.filter p).map (spanP l to_)) :=
  ⟨List.pairwise_map.2 ((List.pairwise_map.1 h.1).filter p), fun x hx => by
    obtain ⟨q, hq, rfl⟩ := List.mem_map.1 hx
    exact h.2 _ (List.mem_map.2 ⟨q, (List.mem_filter.1 hq).1, rfl⟩)⟩
end Go.HL
namespace Go.HL
section
variable {α : Type} [Inhabited α]
structure WO (lt : α → α → Bool) : Prop where
  irr : ∀ x, lt x x = false
  tr : ∀ x y z, lt x y = true → lt y z = true → lt x z = true
  ntr : ∀ x y z, lt x y = false → lt y z = false → lt x z = false
theorem WO.asym {lt : α → α → Bool} (h : WO lt) {x y : α} (e : lt x y = true) : lt y x = false := by
  cases e2 : lt y x
  · rfl
  · have := h.tr _ _ _ e e2; rw [h.irr] at this; cases this
/-- x < y ≤ z -/
theorem WO.lt_le {lt : α → α → Bool} (h : WO lt) {x y z : α} (e : lt x y = true) (e2 : lt z y = false) : lt x z = true := by
  cases e3 : lt x z
  · rw [h.ntr _ _ _ e3 e2] at e; cases e
  · rfl
/-- x ≤ y < z -/
theorem WO.le_lt {lt : α → α → Bool} (h : WO lt) {x y z : α} (e : lt y x = false) (e2 : lt y z = true) : lt x z = true := by
  cases e3 : lt x z
  · rw [h.ntr _ _ _ e e3] at e2; cases e2
  · rfl
def eqv (lt : α → α → Bool) (z x : α) : Bool := !lt z x && !lt x z
/-- The same elements; those that the order holds equal in their old order. -/
def Stab (lt : α → α → Bool) (l l' : List α) : Prop := l.Perm l' ∧ ∀ z, l.filter (eqv lt z) = l'.filter (eqv lt z)
theorem Stab.refl (lt : α → α → Bool) (l : List α) : Stab lt l l := ⟨.refl _, fun _ => rfl⟩
theorem Stab.trans {lt : α → α → Bool} {a b c : List α} (h : Stab lt a b) (k : Stab lt b c) : Stab lt a c := ⟨h.1.trans k.1, fun z => (h.2 z).trans (k.2 z)⟩
theorem Stab.len {lt : α → α → Bool} {a b : List α} (h : Stab lt a b) : b.length = a.length := h.1.length_eq.symm
theorem Stab.symm {lt : α → α → Bool} {a b : List α} (h : Stab lt a b) : Stab lt b a := ⟨h.1.symm, fun z => (h.2 z).symm⟩
theorem filter_nil_or {lt : α → α → Bool} (h : WO lt) {X Y : List α} (hc : ∀ x ∈ X, ∀ y ∈ Y, lt y x = true) (z : α) : X.filter (eqv lt z) = [] ∨ Y.filter (eqv lt z) = [] := by
  cases hX : X.filter (eqv lt z) with
  | nil => exact .inl rfl
  | cons x t =>
    refine .inr ?_
    rw [List.filter_eq_nil_iff]
    intro y hy he
    have hx : x ∈ X.filter (eqv lt z) := by rw [hX]; exact .head _
    obtain ⟨hx1, hx2⟩ := List.mem_filter.1 hx
    simp only [eqv, Bool.and_eq_true, Bool.not_eq_true'] at he hx2
    have := hc x hx1 y hy
    rw [h.ntr _ _ _ he.2 hx2.1] at this
    cases this
theorem Stab.swap {lt : α → α → Bool} (h : WO lt) (P X Y S : List α) (hc : ∀ x ∈ X, ∀ y ∈ Y, lt y x = true) : Stab lt (P ++ (X ++ (Y ++ S))) (P ++ (Y ++ (X ++ S))) := by
  refine ⟨List.Perm.append_left _ (by rw [← List.append_assoc, ← List.append_assoc]; exact List.perm_append_comm.append_right _), fun z => ?_⟩
  simp only [List.filter_append]
  rcases filter_nil_or h hc z with e | e <;> rw [e] <;> simp
/-- Sorted lists with the same elements, equal ones in the same order, are the same. -/
theorem stab_uniq {lt : α → α → Bool} (h : WO lt) : ∀ (l l' : List α), Stab lt l l' → l.Pairwise (fun x y => lt y x = false) → l'.Pairwise (fun x y => lt y x = false) → l = l'
  | [], l', s, _, _ => by have := s.len; simp at this; exact this.symm
  | x :: t, [], s, _, _ => by have := s.len; simp at this
  | x :: t, y :: t', s, h1, h2 => by
    rw [List.pairwise_cons] at h1 h2
    have hxy : lt x y = false := by
      have : x ∈ y :: t' := s.1.subset (.head _)
      rcases List.mem_cons.1 this with rfl | hm
      · exact h.irr _
      · exact h2.1 _ hm
    have hyx : lt y x = false := by
      have : y ∈ x :: t := s.1.symm.subset (.head _)
      rcases List.mem_cons.1 this with rfl | hm
      · exact h.irr _
      · exact h1.1 _ hm
    have ex : x = y := by
      have := s.2 x
      rw [List.filter_cons_of_pos (by simp [eqv, h.irr]), List.filter_cons_of_pos (by simp [eqv, hxy, hyx])] at this
      exact (List.cons.inj this).1
    subst ex
    have st : Stab lt t t' := ⟨(List.perm_cons x).1 s.1, fun z => by
      have := s.2 z
      simp only [List.filter_cons] at this
      split at this
      · exact (List.cons.inj this).2
      · exact this⟩
    rw [stab_uniq h t t' st h1.2 h2.2]
def mp (f : Nat → Nat) (l : List α) : List α := (List.range l.length).map fun k => l.getD (f k) default
theorem mp_len (f : Nat → Nat) (l : List α) : (mp f l).length = l.length := by simp [mp]
theorem mp_at {f : Nat → Nat} {l : List α} {k : Nat} (h : k < l.length) : (mp f l).getD k default = l.getD (f k) default := by
  simp [mp, List.getD_eq_getElem?_getD, h]
theorem ext_at {l l' : List α} (h : l.length = l'.length) (e : ∀ k, k < l.length → l.getD k default = l'.getD k default) : l = l' := by
  refine List.ext_getElem h fun k h1 h2 => ?_
  have := e k h1
  simpa [List.getD_eq_getElem?_getD, h1, h2] using this
theorem mp_id {f : Nat → Nat} {l : List α} (h : ∀ k, k < l.length → f k = k) : mp f l = l :=
  ext_at (mp_len _ _) fun k hk => by rw [mp_len] at hk; rw [mp_at hk, h k hk]
theorem mp_mp {f g k : Nat → Nat} {l : List α} (h : ∀ x, x < l.length → f x < l.length) (e : ∀ x, x < l.length → g (f x) = k x) : mp f (mp g l) = mp k l :=
  ext_at (by simp [mp_len]) fun x hx => by
    rw [mp_len, mp_len] at hx
    rw [mp_at (by rw [mp_len]; exact hx), mp_at (h x hx), mp_at hx, e x hx]
theorem mp_congr {f g : Nat → Nat} {l : List α} (e : ∀ x, x < l.length → f x = g x) : mp f l = mp g l :=
  ext_at (by simp [mp_len]) fun x hx => by rw [mp_len] at hx; rw [mp_at hx, mp_at hx, e x hx]
def swF (p q k : Nat) : Nat := if k = p then q else if k = q then p else k
def swR (a b n k : Nat) : Nat := if a ≤ k ∧ k < a + n then k - a + b else if b ≤ k ∧ k < b + n then k - b + a else k
def rotF (lo m hi k : Nat) : Nat := if lo ≤ k ∧ k < lo + (hi - m) then k + (m - lo) else if lo + (hi - m) ≤ k ∧ k < hi then k - (hi - m) else k
theorem swF_cases (p q k : Nat) : (k = p ∧ swF p q k = q) ∨ (k ≠ p ∧ k = q ∧ swF p q k = p) ∨ (k ≠ p ∧ k ≠ q ∧ swF p q k = k) := by simp only [swF]; grind
theorem swR_cases (a b n k : Nat) : (a ≤ k ∧ k < a + n ∧ swR a b n k = k - a + b) ∨ (¬ (a ≤ k ∧ k < a + n) ∧ b ≤ k ∧ k < b + n ∧ swR a b n k = k - b + a) ∨ (¬ (a ≤ k ∧ k < a + n) ∧ ¬ (b ≤ k ∧ k < b + n) ∧ swR a b n k = k) := by simp only [swR]; grind
theorem rotF_cases (lo m hi k : Nat) : (lo ≤ k ∧ k < lo + (hi - m) ∧ rotF lo m hi k = k + (m - lo)) ∨ (¬ (lo ≤ k ∧ k < lo + (hi - m)) ∧ lo + (hi - m) ≤ k ∧ k < hi ∧ rotF lo m hi k = k - (hi - m)) ∨ (¬ (lo ≤ k ∧ k < lo + (hi - m)) ∧ ¬ (lo + (hi - m) ≤ k ∧ k < hi) ∧ rotF lo m hi k = k) := by simp only [rotF]; grind
theorem mp_sw {l : List α} {p q : Nat} (hp : p < l.length) (hq : q < l.length) : (l.set p (l.getD q default)).set q (l.getD p default) = mp (swF p q) l :=
  ext_at (by simp [mp_len]) fun k hk => by
    have hk' : k < l.length := by simpa using hk
    rw [mp_at hk']
    simp only [List.getD_eq_getElem?_getD, List.getElem?_set, List.length_set, swF]
    grind
theorem swR_0 {a b : Nat} {l : List α} : mp (swR a b 0) l = l := mp_id fun k _ => by simp only [swR]; split <;> (try split) <;> omega
theorem swR_step {a b n i : Nat} {l : List α} (h1 : a + n ≤ b) (h2 : b + n ≤ l.length) (hi : i < n) : mp (swF (a + i) (b + i)) (mp (swR a b i) l) = mp (swR a b (i + 1)) l :=
  mp_mp (fun x hx => by simp only [swF]; split <;> (try split) <;> omega) fun x hx => by
    have h3 := swF_cases (a + i) (b + i) x
    have h4 := swR_cases a b i (swF (a + i) (b + i) x)
    have h5 := swR_cases a b (i + 1) x
    omega
theorem rotF_lt {lo m hi k n : Nat} (h1 : lo ≤ m) (h2 : m ≤ hi) (h3 : hi ≤ n) (h : k < n) : rotF lo m hi k < n := by simp only [rotF]; split <;> (try split) <;> omega
theorem rot_gt {m i j : Nat} {l : List α} (h1 : i ≤ m) (h2 : m + j ≤ l.length) (h : j < i) : mp (rotF (m - (i - j)) m (m + j)) (mp (swR (m - i) m j) l) = mp (rotF (m - i) m (m + j)) l :=
  mp_mp (fun x hx => rotF_lt (by omega) (by omega) h2 hx) fun x hx => by
    have h3 := rotF_cases (m - (i - j)) m (m + j) x
    have h4 := swR_cases (m - i) m j (rotF (m - (i - j)) m (m + j) x)
    have h5 := rotF_cases (m - i) m (m + j) x
    omega
theorem rot_lt {m i j : Nat} {l : List α} (h1 : i ≤ m) (h2 : m + j ≤ l.length) (h : i < j) : mp (rotF (m - i) m (m + (j - i))) (mp (swR (m - i) (m + j - i) i) l) = mp (rotF (m - i) m (m + j)) l :=
  mp_mp (fun x hx => rotF_lt (by omega) (by omega) (by omega) hx) fun x hx => by
    have h3 := rotF_cases (m - i) m (m + (j - i)) x
    have h4 := swR_cases (m - i) (m + j - i) i (rotF (m - i) m (m + (j - i)) x)
    have h5 := rotF_cases (m - i) m (m + j) x
    omega
theorem rot_eq {m i : Nat} {l : List α} (h1 : i ≤ m) : mp (swR (m - i) m i) l = mp (rotF (m - i) m (m + i)) l :=
  mp_congr fun x hx => by
    have h4 := swR_cases (m - i) m i x
    have h5 := rotF_cases (m - i) m (m + i) x
    omega
theorem rot_down {l : List α} {i j : Nat} (h : 0 < j) (hj : j ≤ i) (hi : i < l.length) : mp (swF j (j - 1)) (mp (rotF j i (i + 1)) l) = mp (rotF (j - 1) i (i + 1)) l :=
  mp_mp (fun x hx => by simp only [swF]; split <;> (try split) <;> omega) fun x hx => by
    have h3 := swF_cases j (j - 1) x
    have h4 := rotF_cases j i (i + 1) (swF j (j - 1) x)
    have h5 := rotF_cases (j - 1) i (i + 1) x
    omega
theorem rot_up {l : List α} {a k : Nat} (h : a ≤ k) (hk : k + 1 < l.length) : mp (swF k (k + 1)) (mp (rotF a (a + 1) (k + 1)) l) = mp (rotF a (a + 1) (k + 2)) l :=
  mp_mp (fun x hx => by simp only [swF]; split <;> (try split) <;> omega) fun x hx => by
    have h3 := swF_cases k (k + 1) x
    have h4 := rotF_cases a (a + 1) (k + 1) (swF k (k + 1) x)
    have h5 := rotF_cases a (a + 1) (k + 2) x
    omega
theorem rot_none {l : List α} {a m b : Nat} (h : a = m ∨ m = b) (h1 : a ≤ m) (h2 : m ≤ b) : mp (rotF a m b) l = l := mp_id fun k _ => by have := rotF_cases a m b k; omega
theorem rot_list {l : List α} {a m b : Nat} (h1 : a ≤ m) (h2 : m ≤ b) (h3 : b ≤ l.length) :
    mp (rotF a m b) l = l.take a ++ ((l.take b).drop m ++ ((l.take m).drop a ++ l.drop b)) := by
  refine ext_at (by simp [mp_len]; omega) fun k hk => ?_
  rw [mp_len] at hk
  rw [mp_at hk]
  simp only [List.getD_eq_getElem?_getD, List.getElem?_append, List.length_take, List.length_drop, List.getElem?_take, List.getElem?_drop, rotF]
  congr 1
  grind
theorem list_parts {l : List α} {a m b : Nat} (h1 : a ≤ m) (h2 : m ≤ b) (h3 : b ≤ l.length) :
    l = l.take a ++ ((l.take m).drop a ++ ((l.take b).drop m ++ l.drop b)) := by
  refine ext_at (by simp; omega) fun k hk => ?_
  simp only [List.getD_eq_getElem?_getD, List.getElem?_append, List.length_take, List.length_drop, List.getElem?_take, List.getElem?_drop]
  congr 1
  grind
theorem mem_win {l : List α} {a b : Nat} {x : α} (h : x ∈ (l.take b).drop a) : ∃ k, a ≤ k ∧ k < b ∧ k < l.length ∧ x = l.getD k default := by
  obtain ⟨i, hi⟩ := List.mem_iff_getElem?.1 h
  rw [List.getElem?_drop, List.getElem?_take] at hi
  split at hi
  · refine ⟨a + i, by omega, by omega, (List.getElem?_eq_some_iff.1 hi).1, by simp [List.getD_eq_getElem?_getD, hi]⟩
  · cases hi
theorem win_mem {l : List α} {a b k : Nat} (h1 : a ≤ k) (h2 : k < b) (h3 : k < l.length) : l.getD k default ∈ (l.take b).drop a := by
  refine List.mem_iff_getElem?.2 ⟨k - a, ?_⟩
  rw [List.getElem?_drop, List.getElem?_take, if_pos (by omega), show a + (k - a) = k by omega]
  simp [List.getD_eq_getElem?_getD, h3]
theorem Stab.rot {lt : α → α → Bool} (h : WO lt) {l : List α} {a m b : Nat} (h1 : a ≤ m) (h2 : m ≤ b) (h3 : b ≤ l.length)
    (hc : ∀ x y, a ≤ x → x < m → m ≤ y → y < b → lt (l.getD y default) (l.getD x default) = true) : Stab lt l (mp (rotF a m b) l) := by
  rw [rot_list h1 h2 h3]
  conv => lhs; rw [list_parts h1 h2 h3]
  refine Stab.swap h _ _ _ _ fun x hx y hy => ?_
  obtain ⟨i, a1, a2, a3, rfl⟩ := mem_win hx
  obtain ⟨j, b1, b2, b3, rfl⟩ := mem_win hy
  exact hc i j a1 a2 b1 b2
/-- Nothing outside [a, b) has changed. -/
def Fram (a b : Nat) (l l' : List α) : Prop := l'.length = l.length ∧ ∀ k, k < a ∨ b ≤ k → l'.getD k default = l.getD k default
theorem Fram.refl (a b : Nat) (l : List α) : Fram a b l l := ⟨rfl, fun _ _ => rfl⟩
theorem Fram.trans {a b : Nat} {l m n : List α} (h : Fram a b l m) (k : Fram a b m n) : Fram a b l n := ⟨k.1.trans h.1, fun x hx => (k.2 x hx).trans (h.2 x hx)⟩
theorem Fram.mono {a b c d : Nat} {l m : List α} (h : Fram a b l m) (h1 : c ≤ a) (h2 : b ≤ d) : Fram c d l m := ⟨h.1, fun x hx => h.2 x (by omega)⟩
theorem Fram.rot {a b s m e : Nat} {l : List α} (h1 : a ≤ s) (h2 : e ≤ b) (h3 : s ≤ m) (h4 : m ≤ e) : Fram a b l (mp (rotF s m e) l) :=
  ⟨mp_len _ _, fun k hk => by
    by_cases h : k < l.length
    · rw [mp_at h, show rotF s m e k = k by have := rotF_cases s m e k; omega]
    · have e1 := List.getElem?_eq_none (l := mp (rotF s m e) l) (i := k) (by rw [mp_len]; omega)
      have e2 := List.getElem?_eq_none (l := l) (i := k) (by omega)
      rw [List.getD_eq_getElem?_getD, List.getD_eq_getElem?_getD, e1, e2]⟩
theorem win_of {lt : α → α → Bool} {l l' : List α} {a b k : Nat} (s : Stab lt l l') (f : Fram a b l l') (hb : b ≤ l.length) (h1 : a ≤ k) (h2 : k < b) : ∃ j, a ≤ j ∧ j < b ∧ l'.getD k default = l.getD j default := by
  have hl := f.1
  have e1 : l'.take a = l.take a := ext_at (by simp [hl]) fun x hx => by
    have hx' : x < a := by simp at hx; omega
    have := f.2 x (.inl hx')
    simpa [List.getD_eq_getElem?_getD, List.getElem?_take, hx'] using this
  have e2 : l'.drop b = l.drop b := ext_at (by simp [hl]) fun x hx => by
    have := f.2 (b + x) (.inr (by omega))
    simpa [List.getD_eq_getElem?_getD, List.getElem?_drop] using this
  have p1 := s.1
  rw [list_parts (l := l) (a := a) (m := b) (b := b) (by omega) (Nat.le_refl _) hb, list_parts (l := l') (a := a) (m := b) (b := b) (by omega) (Nat.le_refl _) (by omega), e1, e2] at p1
  have p2 := (List.perm_append_left_iff _).1 p1
  have e3 : ∀ x : List α, (x.take b).drop b = [] := fun x => by simp
  rw [e3, e3, List.nil_append] at p2
  have p3 := (List.perm_append_right_iff _).1 p2
  obtain ⟨j, a1, a2, a3, a4⟩ := mem_win (p3.symm.subset (win_mem (l := l') h1 h2 (by omega)))
  exact ⟨j, a1, a2, a4⟩
/-- Sorted from a up to b. -/
def Srt (lt : α → α → Bool) (l : List α) (a b : Nat) : Prop := ∀ p q, a ≤ p → p < q → q < b → lt (l.getD q default) (l.getD p default) = false
theorem Srt.sub {lt : α → α → Bool} {l : List α} {a b c d : Nat} (h : Srt lt l a b) (h1 : a ≤ c) (h2 : d ≤ b) : Srt lt l c d := fun p q x y z => h p q (by omega) y (by omega)
theorem Srt.one {lt : α → α → Bool} {l : List α} {a b : Nat} (h : b ≤ a + 1) : Srt lt l a b := fun p q x y z => by omega
theorem Srt.fram {lt : α → α → Bool} {l l' : List α} {a b c d : Nat} (h : Srt lt l a b) (f : Fram c d l l') (hd : b ≤ c ∨ d ≤ a) : Srt lt l' a b := fun p q x y z => by
  rw [f.2 p (by omega), f.2 q (by omega)]; exact h p q x y z
theorem Srt.all {lt : α → α → Bool} {l : List α} (h : Srt lt l 0 l.length) : l.Pairwise fun x y => lt y x = false := by
  rw [List.pairwise_iff_getElem]
  intro i j hi hj hij
  have := h i j (Nat.zero_le _) hij hj
  simpa [List.getD_eq_getElem?_getD, hi, hj] using this
theorem Srt.le {lt : α → α → Bool} (h : WO lt) {l : List α} {a b p q : Nat} (s : Srt lt l a b) (h1 : a ≤ p) (h2 : p ≤ q) (h3 : q < b) : lt (l.getD q default) (l.getD p default) = false := by
  rcases Nat.eq_or_lt_of_le h2 with rfl | h2
  · exact h.irr _
  · exact s p q h1 h2 h3
theorem Srt.glue {lt : α → α → Bool} {l : List α} {a m b : Nat} (h1 : Srt lt l a m) (h2 : Srt lt l m b) (hc : ∀ p q, a ≤ p → p < m → m ≤ q → q < b → lt (l.getD q default) (l.getD p default) = false) : Srt lt l a b := fun p q x y z => by
  by_cases hq : q < m
  · exact h1 p q x y hq
  · by_cases hp : p < m
    · exact hc p q x hp (by omega) z
    · exact h2 p q (by omega) y z
/-- An element put in where it belongs, from behind. -/
theorem srt_ins {lt : α → α → Bool} (h : WO lt) {l : List α} {a i j : Nat} (hs : Srt lt l a i) (hi : i < l.length) (h1 : a ≤ j) (h2 : j ≤ i) (hA : ∀ q, j ≤ q → q < i → lt (l.getD i default) (l.getD q default) = true)
    (hB : j = a ∨ lt (l.getD i default) (l.getD (j - 1) default) = false) : Stab lt l (mp (rotF j i (i + 1)) l) ∧ Srt lt (mp (rotF j i (i + 1)) l) a (i + 1) := by
  refine ⟨Stab.rot h h2 (by omega) (by omega) fun x y a1 a2 a3 a4 => by rw [show y = i by omega]; exact hA x a1 a2, fun p q a1 a2 a3 => ?_⟩
  rw [mp_at (by omega), mp_at (by omega)]
  have hlow : ∀ p, a ≤ p → p < j → lt (l.getD i default) (l.getD p default) = false := fun p b1 b2 => by
    rcases hB with rfl | hB
    · omega
    · exact h.ntr _ _ _ hB (hs.le h b1 (by omega) (by omega))
  have fp : ∀ k, k ≤ i → rotF j i (i + 1) k = if k < j then k else if k = j then i else k - 1 := fun k hk => by simp only [rotF]; grind
  rw [fp p (by omega), fp q (by omega)]
  by_cases c1 : q < j
  · rw [if_pos c1, if_pos (by omega)]; exact hs _ _ a1 a2 (by omega)
  · rw [if_neg c1]
    by_cases c2 : q = j
    · rw [if_pos c2, if_pos (by omega)]; exact hlow p a1 (by omega)
    · rw [if_neg c2]
      by_cases c3 : p < j
      · rw [if_pos c3]; exact hs _ _ a1 (by omega) (by omega)
      · rw [if_neg c3]
        by_cases c4 : p = j
        · rw [if_pos c4]; exact h.asym (hA _ (by omega) (by omega))
        · rw [if_neg c4]; exact hs _ _ (by omega) (by omega) (by omega)
/-- The same, from in front. -/
theorem srt_ins' {lt : α → α → Bool} (h : WO lt) {l : List α} {a i b : Nat} (hs : Srt lt l (a + 1) b) (hb : b ≤ l.length) (h1 : a + 1 ≤ i) (h2 : i ≤ b) (hA : ∀ q, a + 1 ≤ q → q < i → lt (l.getD q default) (l.getD a default) = true)
    (hB : ∀ q, i ≤ q → q < b → lt (l.getD q default) (l.getD a default) = false) : Stab lt l (mp (rotF a (a + 1) i) l) ∧ Srt lt (mp (rotF a (a + 1) i) l) a b := by
  refine ⟨Stab.rot h (by omega) h1 (by omega) fun x y a1 a2 a3 a4 => by rw [show x = a by omega]; exact hA y a3 a4, fun p q a1 a2 a3 => ?_⟩
  rw [mp_at (by omega), mp_at (by omega)]
  have fp : ∀ k, a ≤ k → rotF a (a + 1) i k = if k + 1 < i then k + 1 else if k + 1 = i then a else k := fun k hk => by simp only [rotF]; grind
  rw [fp p (by omega), fp q (by omega)]
  by_cases c1 : q + 1 < i
  · rw [if_pos c1, if_pos (by omega)]; exact hs _ _ (by omega) (by omega) (by omega)
  · rw [if_neg c1]
    by_cases c2 : q + 1 = i
    · rw [if_pos c2, if_pos (by omega)]; exact h.asym (hA _ (by omega) (by omega))
    · rw [if_neg c2]
      by_cases c3 : p + 1 < i
      · rw [if_pos c3]; exact hs _ _ (by omega) (by omega) (by omega)
      · rw [if_neg c3]
        by_cases c4 : p + 1 = i
        · rw [if_pos c4]; exact hB _ (by omega) (by omega)
        · rw [if_neg c4]; exact hs _ _ (by omega) (by omega) (by omega)
/-- What the rotation leaves: two halves, each of two sorted parts; none of the right before one of the left. -/
structure Half (lt : α → α → Bool) (l cur : List α) (a s mid e b : Nat) : Prop where
  st : Stab lt l cur
  fr : Fram a b l cur
  cr : ∀ p q, a ≤ p → p < mid → mid ≤ q → q < b → lt (cur.getD q default) (cur.getD p default) = false
  s1 : Srt lt cur a s
  s2 : Srt lt cur s mid
  s3 : Srt lt cur mid e
  s4 : Srt lt cur e b
theorem half_rot {lt : α → α → Bool} (h : WO lt) {l : List α} {a m b s mid e : Nat} (h1 : Srt lt l a m) (h2 : Srt lt l m b) (hb : b ≤ l.length) (ha : a ≤ s) (hs : s ≤ m) (he : m ≤ e) (hbb : e ≤ b) (hm : mid = s + (e - m))
    (hd : s = m ∨ m = e ∨ lt (l.getD (e - 1) default) (l.getD s default) = true) (hg : s = a ∨ e = b ∨ lt (l.getD e default) (l.getD (s - 1) default) = false) : Half lt l (mp (rotF s m e) l) a s mid e b := by
  have c1 : ∀ x y, s ≤ x → x < m → m ≤ y → y < e → lt (l.getD y default) (l.getD x default) = true := fun x y a1 a2 a3 a4 => by
    rcases hd with hd | hd | hd
    · omega
    · omega
    · exact h.le_lt (h2.le h (by omega) (show y ≤ e - 1 by omega) (by omega)) (h.lt_le hd (h1.le h (by omega) a1 (by omega)))
  have c2 : ∀ x y, a ≤ x → x < s → e ≤ y → y < b → lt (l.getD y default) (l.getD x default) = false := fun x y a1 a2 a3 a4 => by
    rcases hg with hg | hg | hg
    · omega
    · omega
    · exact h.ntr _ _ _ (h2.le h (by omega) a3 (by omega)) (h.ntr _ _ _ hg (h1.le h a1 (by omega) (by omega)))
  have fp : ∀ k, rotF s m e k = if s ≤ k ∧ k < mid then k + (m - s) else if mid ≤ k ∧ k < e then k - (e - m) else k := fun k => by subst hm; rfl
  have fl : ∀ k, k < b → k < l.length := fun k hk => by omega
  refine ⟨Stab.rot h hs he (by omega) c1, Fram.rot ha hbb hs he, fun p q a1 a2 a3 a4 => ?_, fun p q a1 a2 a3 => ?_, fun p q a1 a2 a3 => ?_, fun p q a1 a2 a3 => ?_, fun p q a1 a2 a3 => ?_⟩
  · rw [mp_at (by omega), mp_at (by omega), fp, fp, if_neg (c := s ≤ q ∧ q < mid) (by omega)]
    by_cases d1 : q < e
    · rw [if_pos (c := mid ≤ q ∧ q < e) ⟨a3, d1⟩]
      by_cases d2 : p < s
      · rw [if_neg (by omega), if_neg (by omega)]; exact h1 _ _ a1 (by omega) (by omega)
      · rw [if_pos (by omega)]; exact h.asym (c1 _ _ (by omega) (by omega) (by omega) (by omega))
    · rw [if_neg (c := mid ≤ q ∧ q < e) (by omega)]
      by_cases d2 : p < s
      · rw [if_neg (by omega), if_neg (by omega)]; exact c2 _ _ a1 d2 (by omega) a4
      · rw [if_pos (by omega)]; exact h2 _ _ (by omega) (by omega) a4
  · rw [mp_at (by omega), mp_at (by omega), fp, fp, if_neg (by omega), if_neg (by omega), if_neg (by omega), if_neg (by omega)]; exact h1 _ _ a1 a2 (by omega)
  · rw [mp_at (by omega), mp_at (by omega), fp, fp, if_pos (by omega), if_pos (by omega)]; exact h2 _ _ (by omega) (by omega) (by omega)
  · rw [mp_at (by omega), mp_at (by omega), fp, fp, if_neg (by omega), if_pos (by omega), if_neg (by omega), if_pos (by omega)]; exact h1 _ _ (by omega) (by omega) (by omega)
  · rw [mp_at (by omega), mp_at (by omega), fp, fp, if_neg (by omega), if_neg (by omega), if_neg (by omega), if_neg (by omega)]; exact h2 _ _ (by omega) a2 a3
theorem Half.left {lt : α → α → Bool} {l c1 c2 : List α} {a s mid e b : Nat} (h : Half lt l c1 a s mid e b) (hb : b ≤ l.length) (hm : mid ≤ e) (hmb : e ≤ b) (st : Stab lt c1 c2) (fr : Fram a mid c1 c2) (so : Srt lt c2 a mid) : Half lt l c2 a mid mid e b := by
  have hl := h.fr.1
  refine ⟨h.st.trans st, h.fr.trans (fr.mono (Nat.le_refl _) (by omega)), fun p q a1 a2 a3 a4 => ?_, so, .one (by omega), h.s3.fram fr (.inr (Nat.le_refl _)), h.s4.fram fr (.inr hm)⟩
  obtain ⟨j, b1, b2, b3⟩ := win_of st fr (by omega) a1 a2
  rw [b3, fr.2 q (.inr a3)]
  exact h.cr _ _ b1 b2 a3 a4
theorem Half.left0 {lt : α → α → Bool} {l c1 : List α} {a s mid e b : Nat} (h : Half lt l c1 a s mid e b) (hn : ¬ (a < s ∧ s < mid)) (ha : a ≤ s) (hs : s ≤ mid) : Half lt l c1 a mid mid e b := by
  refine ⟨h.st, h.fr, h.cr, ?_, .one (by omega), h.s3, h.s4⟩
  by_cases c : a = s
  · rw [c]; exact h.s2
  · rw [show mid = s by omega]; exact h.s1
theorem Half.right {lt : α → α → Bool} {l c2 c3 : List α} {a mid e b : Nat} (h : Half lt l c2 a mid mid e b) (hb : b ≤ l.length) (ha : a ≤ mid) (hm : mid ≤ b) (st : Stab lt c2 c3) (fr : Fram mid b c2 c3) (so : Srt lt c3 mid b) : Stab lt l c3 ∧ Fram a b l c3 ∧ Srt lt c3 a b := by
  have hl := h.fr.1
  refine ⟨h.st.trans st, h.fr.trans (fr.mono ha (Nat.le_refl _)), (h.s1.fram fr (.inl (Nat.le_refl _))).glue so fun p q a1 a2 a3 a4 => ?_⟩
  obtain ⟨j, b1, b2, b3⟩ := win_of st fr (by omega) a3 a4
  rw [b3, fr.2 p (.inl a2)]
  exact h.cr _ _ a1 a2 b1 b2
theorem Half.right0 {lt : α → α → Bool} {l c2 : List α} {a mid e b : Nat} (h : Half lt l c2 a mid mid e b) (hn : ¬ (mid < e ∧ e < b)) (hm : mid ≤ e) (hb : e ≤ b) : Stab lt l c2 ∧ Fram a b l c2 ∧ Srt lt c2 a b := by
  refine ⟨h.st, h.fr, h.s1.glue ?_ h.cr⟩
  by_cases c : mid = e
  · rw [c]; exact h.s4
  · rw [show b = e by omega]; exact h.s3
/-- Each block of bs is sorted, up to n. -/
def Blk (lt : α → α → Bool) (l : List α) (bs n : Nat) : Prop := ∀ t p q, t * bs ≤ p → p < q → q < (t + 1) * bs → q < n → lt (l.getD q default) (l.getD p default) = false
theorem Blk.all {lt : α → α → Bool} {l : List α} {bs n : Nat} (h : Blk lt l bs n) (hn : n ≤ bs) : Srt lt l 0 n := fun p q a1 a2 a3 => h 0 p q (by omega) a2 (by omega) a3
theorem blk_ins {lt : α → α → Bool} {l l' : List α} {bs t0 b : Nat} (h : Blk lt l bs (t0 * bs)) (f : Fram (t0 * bs) b l l') (s : Srt lt l' (t0 * bs) b) (hb : b ≤ (t0 + 1) * bs) : Blk lt l' bs b := fun t p q a1 a2 a3 a4 => by
  by_cases c : q < t0 * bs
  · rw [f.2 p (by omega), f.2 q (by omega)]; exact h t p q a1 a2 a3 c
  · have e1 : t * bs < (t0 + 1) * bs := by omega
    have e2 : t0 * bs < (t + 1) * bs := by omega
    have e3 := Nat.lt_of_mul_lt_mul_right e1
    have e4 := Nat.lt_of_mul_lt_mul_right e2
    obtain rfl : t = t0 := by omega
    exact s p q a1 a2 a4
/-- Blocks of 2bs up to a, of bs from there. -/
def Mix (lt : α → α → Bool) (l : List α) (bs a n : Nat) : Prop := Blk lt l (2 * bs) a ∧ ∀ t p q, t * bs ≤ p → p < q → q < (t + 1) * bs → a ≤ p → q < n → lt (l.getD q default) (l.getD p default) = false
theorem mix_0 {lt : α → α → Bool} {l : List α} {bs n : Nat} (h : Blk lt l bs n) : Mix lt l bs 0 n := ⟨fun t p q a1 a2 a3 a4 => by omega, fun t p q a1 a2 a3 _ a5 => h t p q a1 a2 a3 a5⟩
theorem mix_left {lt : α → α → Bool} {l : List α} {bs n t0 m : Nat} (h : Mix lt l bs (t0 * (2 * bs)) n) (hm : m ≤ t0 * (2 * bs) + bs) (hn : m ≤ n) : Srt lt l (t0 * (2 * bs)) m := fun p q a1 a2 a3 => by
  have e : 2 * t0 * bs = t0 * (2 * bs) := by rw [Nat.mul_comm 2 t0, Nat.mul_assoc]
  refine h.2 (2 * t0) p q (by omega) a2 (by rw [Nat.add_mul]; omega) a1 (by omega)
theorem mix_right {lt : α → α → Bool} {l : List α} {bs n t0 b : Nat} (h : Mix lt l bs (t0 * (2 * bs)) n) (hm : b ≤ t0 * (2 * bs) + 2 * bs) (hn : b ≤ n) : Srt lt l (t0 * (2 * bs) + bs) b := fun p q a1 a2 a3 => by
  have e : 2 * t0 * bs = t0 * (2 * bs) := by rw [Nat.mul_comm 2 t0, Nat.mul_assoc]
  refine h.2 (2 * t0 + 1) p q (by rw [Nat.add_mul]; omega) a2 (by rw [Nat.add_mul, Nat.add_mul]; omega) (by omega) (by omega)
theorem mix_step {lt : α → α → Bool} {l l' : List α} {bs n t0 b : Nat} (h : Mix lt l bs (t0 * (2 * bs)) n) (f : Fram (t0 * (2 * bs)) b l l') (s : Srt lt l' (t0 * (2 * bs)) b) (hb : b ≤ t0 * (2 * bs) + 2 * bs) (hab : t0 * (2 * bs) ≤ b) : Mix lt l' bs b n :=
  ⟨blk_ins h.1 f s (by rw [Nat.add_mul]; omega), fun t p q a1 a2 a3 a4 a5 => by
    rw [f.2 p (by omega), f.2 q (by omega)]; exact h.2 t p q a1 a2 a3 (by omega) a5⟩
theorem mix_end {lt : α → α → Bool} {l : List α} {bs n t0 : Nat} (h : Mix lt l bs (t0 * (2 * bs)) n) (hn : n ≤ t0 * (2 * bs) + bs) : Blk lt l (2 * bs) n := fun t p q a1 a2 a3 a4 => by
  by_cases c : q < t0 * (2 * bs)
  · exact h.1 t p q a1 a2 a3 c
  · have e1 : t * (2 * bs) < (t0 + 1) * (2 * bs) := by rw [Nat.add_mul]; omega
    have e2 : t0 * (2 * bs) < (t + 1) * (2 * bs) := by omega
    have e3 := Nat.lt_of_mul_lt_mul_right e1
    have e4 := Nat.lt_of_mul_lt_mul_right e2
    obtain rfl : t = t0 := by omega
    exact mix_left h hn (Nat.le_refl _) p q a1 a2 a4
end
end Go.HL
