/- The law ImageBack. -/
import Derived.Test.YtfmhhakhbopfdaaWe
import Derived.Test.YtfmhhakhbopfdaaMu
set_option linter.unusedSimpArgs false
set_option linter.unusedVariables false
namespace Go.Proofs.Ytfmhhakhbopfdaa
open Go Go.HL Go.RowKit

set_option maxRecDepth 100000 in
set_option maxHeartbeats 2000000 in
theorem back_true (b : List UInt8) (V : Value) (n : UInt32) (width : Int) (s : ByteArray) (w : World) (hV : Sl (hp w) encU8 b V) :
    Calls Try.prog 7 #[V, .int .u32 n.toNat, .int .i64 width, .string s] w (fun e w' => e = .returned (.bool true) ∧ Ext w w') := by
  have hV' : Sl (Bg.of w).blk encU8 b V := hV
  refine enter Try.func7 rfl Try.ntmps7 rfl ?_
  refine Tr.seq ?_
  refine Tr.region ?_
  refine Tr.q (QS.assign rfl) rfl ?_
  refine Tr.nil ?_
  refine Tr.thenN ?_
  refine Tr.seq ?_
  refine Tr.seq ?_
  refine Tr.region ?_
  refine Tr.q (QS.move rfl) rfl ?_
  first | refine Tr.q (QS.len rfl (by assumption) Try.underlying22) rfl ?_ | refine Tr.q (QS.lenRow rfl (by repeat (first | exact List.Mem.head _ | apply List.Mem.tail)) Try.underlying22) rfl ?_ | refine Tr.q (QS.lenNil rfl Try.underlying22) rfl ?_
  refine Tr.q (QS.gtr rfl rfl) rfl ?_
  refine Tr.nil ?_
  refine Tr.thenN ?_
  refine Tr.cond rfl (fun h1 => ?_) (fun h1 => ?_)
  · try simp only [Bool.and_eq_true, Bool.or_eq_true, Bool.not_eq_true', Bool.not_eq_false', decide_eq_true_eq, decide_eq_false_iff_not, Bool.and_eq_false_iff, Bool.or_eq_false_iff, ne_eq, Decidable.not_not] at h1
    refine Tr.seq ?_
    refine Tr.region ?_
    refine Tr.q (QS.call rfl Try.call16 (fun w hw => example02_any w)) rfl ?_
    refine Tr.q (QS.assign rfl) rfl ?_
    refine Tr.nil ?_
    refine Tr.thenN ?_
    refine Tr.ret ?_
    refine Tr.thenR ?_
    refine Tr.ret1 Try.results7 rfl (fun w' hw => ?_)
    exact ⟨rfl, hw.below (Bg.le.refl _)⟩
  · try simp only [Bool.and_eq_true, Bool.or_eq_true, Bool.not_eq_true', Bool.not_eq_false', decide_eq_true_eq, decide_eq_false_iff_not, Bool.and_eq_false_iff, Bool.or_eq_false_iff, ne_eq, Decidable.not_not] at h1
    refine Tr.skip ?_
    refine Tr.thenN ?_
    refine Tr.seqJ (ι := Unit) (fun u => True) (fun _ => Bg.of w) (fun u => []) (fun u => []) ?_ (fun u hi => ?_)
    · skip
      refine Tr.seq ?_
      refine Tr.region ?_
      refine Tr.q (QS.move rfl) rfl ?_
      refine Tr.q (QS.eql rfl rfl) rfl ?_
      refine Tr.q (QS.move rfl) rfl ?_
      apply Tr.or (t := 23) (d := 26) 3
      · exact rfl
      · intro hF2; have hF2' := hF2
        try simp only [Bool.and_eq_true, Bool.or_eq_true, Bool.not_eq_true', Bool.not_eq_false', decide_eq_true_eq, decide_eq_false_iff_not, Bool.and_eq_false_iff, Bool.or_eq_false_iff, ne_eq, Decidable.not_not] at hF2'
        refine Tr.gq rfl rfl hF2 (QS.move rfl) rfl ?_
        refine Tr.gq rfl rfl hF2 (QS.eql rfl rfl) rfl ?_
        refine Tr.q (QS.pickF rfl hF2 rfl) rfl ?_
        refine Tr.nil (Tr.thenN ?_)
        first | exact Tr.end (Sub.cons rfl (Sub.dropN 3 (by kernel_rfl) rfl)) rfl rfl | exact Tr.endP (Sub.cons rfl (Sub.dropN 3 (by kernel_rfl) rfl)) rfl (by repeat' (first | exact Pick.nil _ | exact Del.here _ | apply Pick.cons | apply Del.there))
      · intro hT2
        refine Tr.gskip rfl rfl hT2 rfl ?_
        refine Tr.gskip rfl rfl hT2 rfl ?_
        refine Tr.q (QS.pickT rfl hT2 rfl) rfl ?_
        refine Tr.nil (Tr.thenN ?_)
        first | exact Tr.end (Sub.cons rfl (Sub.dropN 3 (by kernel_rfl) rfl)) rfl rfl | exact Tr.endP (Sub.cons rfl (Sub.dropN 3 (by kernel_rfl) rfl)) rfl (by repeat' (first | exact Pick.nil _ | exact Del.here _ | apply Pick.cons | apply Del.there))
      refine Tr.q (QS.move rfl) rfl ?_
      apply Tr.or (t := 27) (d := 30) 3
      · exact rfl
      · intro hF3; have hF3' := hF3
        try simp only [Bool.and_eq_true, Bool.or_eq_true, Bool.not_eq_true', Bool.not_eq_false', decide_eq_true_eq, decide_eq_false_iff_not, Bool.and_eq_false_iff, Bool.or_eq_false_iff, ne_eq, Decidable.not_not] at hF3'
        refine Tr.gq rfl rfl hF3 (QS.move rfl) rfl ?_
        refine Tr.gq rfl rfl hF3 (QS.eql rfl rfl) rfl ?_
        refine Tr.q (QS.pickF rfl hF3 rfl) rfl ?_
        refine Tr.nil (Tr.thenN ?_)
        first | exact Tr.end (Sub.cons rfl (Sub.dropN 3 (by kernel_rfl) rfl)) rfl rfl | exact Tr.endP (Sub.cons rfl (Sub.dropN 3 (by kernel_rfl) rfl)) rfl (by repeat' (first | exact Pick.nil _ | exact Del.here _ | apply Pick.cons | apply Del.there))
      · intro hT3
        refine Tr.gskip rfl rfl hT3 rfl ?_
        refine Tr.gskip rfl rfl hT3 rfl ?_
        refine Tr.q (QS.pickT rfl hT3 rfl) rfl ?_
        refine Tr.nil (Tr.thenN ?_)
        first | exact Tr.end (Sub.cons rfl (Sub.dropN 3 (by kernel_rfl) rfl)) rfl rfl | exact Tr.endP (Sub.cons rfl (Sub.dropN 3 (by kernel_rfl) rfl)) rfl (by repeat' (first | exact Pick.nil _ | exact Del.here _ | apply Pick.cons | apply Del.there))
      refine Tr.nil ?_
      refine Tr.thenN ?_
      refine Tr.cond rfl (fun h4 => ?_) (fun h4 => ?_)
      · try simp only [Bool.and_eq_true, Bool.or_eq_true, Bool.not_eq_true', Bool.not_eq_false', decide_eq_true_eq, decide_eq_false_iff_not, Bool.and_eq_false_iff, Bool.or_eq_false_iff, ne_eq, Decidable.not_not] at h4
        refine Tr.seq ?_
        refine Tr.region ?_
        refine Tr.q (QS.move rfl) rfl ?_
        refine Tr.q (QS.assign rfl) rfl ?_
        refine Tr.nil ?_
        refine Tr.thenN ?_
        refine Tr.seqJ (ι := UInt32) (fun m' => m' = (if width = 1 then n % 256 else n)) (fun _ => Bg.of w) (fun m' => []) (fun m' => [(9, .int .u32 m'.toNat)]) ?_ (fun m' hi => ?_)
        · skip
          refine Tr.seq ?_
          refine Tr.region ?_
          refine Tr.q (QS.move rfl) rfl ?_
          refine Tr.q (QS.eql rfl rfl) rfl ?_
          refine Tr.nil ?_
          refine Tr.thenN ?_
          refine Tr.cond rfl (fun h5 => ?_) (fun h5 => ?_)
          · try simp only [Bool.and_eq_true, Bool.or_eq_true, Bool.not_eq_true', Bool.not_eq_false', decide_eq_true_eq, decide_eq_false_iff_not, Bool.and_eq_false_iff, Bool.or_eq_false_iff, ne_eq, Decidable.not_not] at h5
            refine Tr.region ?_
            refine Tr.q (QS.move rfl) rfl ?_
            refine Tr.q (QS.rem32 (n := 256) rfl rfl (by first | decide | assumption)) rfl ?_
            refine Tr.q (QS.assign rfl) rfl ?_
            refine Tr.nil ?_
            refine Tr.thenN ?_
            apply Tr.joined (n % 256)
            · exact rfl
            · exact (.cons (by first | rfl | exact lookI rfl (by omega) | exact lookI rfl (by simp) | exact lookB rfl (by simp)) Front.nil)
            · exact SubX.dropN 5 (by kernel_rfl) rfl
            · exact (by repeat' (first | exact Pick.nil _ | exact Del.here _ | apply Pick.cons | apply Del.there))
            · exact (by rw [if_pos (by assumption)])
          · try simp only [Bool.and_eq_true, Bool.or_eq_true, Bool.not_eq_true', Bool.not_eq_false', decide_eq_true_eq, decide_eq_false_iff_not, Bool.and_eq_false_iff, Bool.or_eq_false_iff, ne_eq, Decidable.not_not] at h5
            refine Tr.skip ?_
            refine Tr.thenN ?_
            apply Tr.joined n
            · exact rfl
            · exact (.cons (by first | rfl | exact lookI rfl (by omega) | exact lookI rfl (by simp) | exact lookB rfl (by simp)) Front.nil)
            · exact SubX.dropN 2 (by kernel_rfl) rfl
            · exact (by repeat' (first | exact Pick.nil _ | exact Del.here _ | apply Pick.cons | apply Del.there))
            · exact (by rw [if_neg (by assumption)])
        · skip
          replace hi : m' = (if width = 1 then n % 256 else n) := hi
          change Tr _ _ [] ([(9, .int .u32 m'.toNat)] ++ _) _
          refine Tr.seqJ (ι := UInt32) (fun m'' => m'' = backP n width) (fun _ => Bg.of w) (fun m'' => []) (fun m'' => [(9, .int .u32 m''.toNat)]) ?_ (fun m'' hi => ?_)
          · skip
            refine Tr.seq ?_
            refine Tr.region ?_
            refine Tr.q (QS.move rfl) rfl ?_
            refine Tr.q (QS.eql rfl rfl) rfl ?_
            refine Tr.nil ?_
            refine Tr.thenN ?_
            refine Tr.cond rfl (fun h6 => ?_) (fun h6 => ?_)
            · try simp only [Bool.and_eq_true, Bool.or_eq_true, Bool.not_eq_true', Bool.not_eq_false', decide_eq_true_eq, decide_eq_false_iff_not, Bool.and_eq_false_iff, Bool.or_eq_false_iff, ne_eq, Decidable.not_not] at h6
              refine Tr.region ?_
              refine Tr.q (QS.move rfl) rfl ?_
              refine Tr.q (QS.rem32 (n := 65536) rfl rfl (by first | decide | assumption)) rfl ?_
              refine Tr.q (QS.assign rfl) rfl ?_
              refine Tr.nil ?_
              refine Tr.thenN ?_
              apply Tr.joined (n % 65536)
              · exact rfl
              · exact (.cons (by first | rfl | exact lookI rfl (by omega) | exact lookI rfl (by simp) | exact lookB rfl (by simp)) Front.nil)
              · exact SubX.dropN 5 (by kernel_rfl) rfl
              · exact (by repeat' (first | exact Pick.nil _ | exact Del.here _ | apply Pick.cons | apply Del.there))
              · exact (by simp_all [backP])
            · try simp only [Bool.and_eq_true, Bool.or_eq_true, Bool.not_eq_true', Bool.not_eq_false', decide_eq_true_eq, decide_eq_false_iff_not, Bool.and_eq_false_iff, Bool.or_eq_false_iff, ne_eq, Decidable.not_not] at h6
              refine Tr.skip ?_
              refine Tr.thenN ?_
              apply Tr.joined _
              · exact rfl
              · exact (.cons (by first | rfl | exact lookI rfl (by omega) | exact lookI rfl (by simp) | exact lookB rfl (by simp)) Front.nil)
              · exact SubX.dropN 2 (by kernel_rfl) rfl
              · exact (by repeat' (first | exact Pick.nil _ | exact Del.here _ | apply Pick.cons | apply Del.there))
              · exact (by subst hi; unfold backP; split <;> simp_all)
          · skip
            replace hi : m'' = backP n width := hi
            change Tr _ _ [] ([(9, .int .u32 m''.toNat)] ++ _) _
            refine Tr.seq ?_
            refine Tr.region ?_
            refine Tr.q (QS.move rfl) rfl ?_
            refine Tr.q (QS.move rfl) rfl ?_
            refine Tr.q (QS.move rfl) rfl ?_
            refine Tr.callRow rfl Try.call20 (fun w hw => put_any b V n width w (hw.slF hV) (by omega)) rfl (fun V7 => ?_)
            refine Tr.q (QS.move rfl) rfl ?_
            first | refine Tr.q (QS.len rfl (by assumption) Try.underlying22) rfl ?_ | refine Tr.q (QS.lenRow rfl (by repeat (first | exact List.Mem.head _ | apply List.Mem.tail)) Try.underlying22) rfl ?_ | refine Tr.q (QS.lenNil rfl Try.underlying22) rfl ?_
            refine Tr.q (QS.move rfl) rfl ?_
            refine Tr.q (QS.call rfl Try.call17 (fun w hw => get_any (putP b n width) _ b.length width w (hw.row (.head _)) (by omega))) rfl ?_
            refine Tr.q (QS.move rfl) rfl ?_
            refine Tr.q (QS.extract rfl rfl) rfl ?_
            refine Tr.q (QS.extract rfl rfl) rfl ?_
            refine Tr.q (QS.assign rfl) rfl ?_
            refine Tr.q (QS.assign rfl) rfl ?_
            refine Tr.nil ?_
            refine Tr.thenN ?_
            refine Tr.seq ?_
            refine Tr.region ?_
            refine Tr.q (QS.move rfl) rfl ?_
            refine Tr.q (QS.neq rfl rfl) rfl ?_
            refine Tr.q (QS.move rfl) rfl ?_
            apply Tr.or (t := 53) (d := 57) 4
            · exact rfl
            · intro hF8; have hF8' := hF8
              try simp only [Bool.and_eq_true, Bool.or_eq_true, Bool.not_eq_true', Bool.not_eq_false', decide_eq_true_eq, decide_eq_false_iff_not, Bool.and_eq_false_iff, Bool.or_eq_false_iff, ne_eq, Decidable.not_not] at hF8'
              refine Tr.gq rfl rfl hF8 (QS.move rfl) rfl ?_
              refine Tr.gq rfl rfl hF8 (QS.move rfl) rfl ?_
              refine Tr.gq rfl rfl hF8 (QS.neq32 rfl rfl) rfl ?_
              refine Tr.q (QS.pickF rfl hF8 rfl) rfl ?_
              refine Tr.nil (Tr.thenN ?_)
              first | exact Tr.end (Sub.cons rfl (Sub.dropN 4 (by kernel_rfl) rfl)) rfl rfl | exact Tr.endP (Sub.cons rfl (Sub.dropN 4 (by kernel_rfl) rfl)) rfl (by repeat' (first | exact Pick.nil _ | exact Del.here _ | apply Pick.cons | apply Del.there))
            · intro hT8
              refine Tr.gskip rfl rfl hT8 rfl ?_
              refine Tr.gskip rfl rfl hT8 rfl ?_
              refine Tr.gskip rfl rfl hT8 rfl ?_
              refine Tr.q (QS.pickT rfl hT8 rfl) rfl ?_
              refine Tr.nil (Tr.thenN ?_)
              first | exact Tr.end (Sub.cons rfl (Sub.dropN 4 (by kernel_rfl) rfl)) rfl rfl | exact Tr.endP (Sub.cons rfl (Sub.dropN 4 (by kernel_rfl) rfl)) rfl (by repeat' (first | exact Pick.nil _ | exact Del.here _ | apply Pick.cons | apply Del.there))
            refine Tr.nil ?_
            refine Tr.thenN ?_
            refine Tr.cond rfl (fun h9 => ?_) (fun h9 => ?_)
            · try simp only [Bool.and_eq_true, Bool.or_eq_true, Bool.not_eq_true', Bool.not_eq_false', decide_eq_true_eq, decide_eq_false_iff_not, Bool.and_eq_false_iff, Bool.or_eq_false_iff, ne_eq, Decidable.not_not] at h9
              refine Tr.seq ?_
              refine Tr.region ?_
              refine Tr.q (QS.assign rfl) rfl ?_
              refine Tr.nil ?_
              refine Tr.thenN ?_
              refine Tr.ret ?_
              refine Tr.thenR ?_
              refine Tr.ret1 Try.results7 rfl (fun w' hw => ?_)
              exfalso; have hg1 := congrArg Prod.fst (get_put b n width (by omega)); have hg2 := congrArg Prod.snd (get_put b n width (by omega)); simp_all
            · try simp only [Bool.and_eq_true, Bool.or_eq_true, Bool.not_eq_true', Bool.not_eq_false', decide_eq_true_eq, decide_eq_false_iff_not, Bool.and_eq_false_iff, Bool.or_eq_false_iff, ne_eq, Decidable.not_not] at h9
              refine Tr.skip ?_
              refine Tr.thenN ?_
              apply Tr.joined ()
              · exact rfl
              · exact Front.nil
              · exact SubX.dropN 27 (by kernel_rfl) rfl
              · exact (by repeat' (first | exact Pick.nil _ | exact Del.here _ | apply Pick.cons | apply Del.there))
              · exact trivial
      · try simp only [Bool.and_eq_true, Bool.or_eq_true, Bool.not_eq_true', Bool.not_eq_false', decide_eq_true_eq, decide_eq_false_iff_not, Bool.and_eq_false_iff, Bool.or_eq_false_iff, ne_eq, Decidable.not_not] at h4
        refine Tr.skip ?_
        refine Tr.thenN ?_
        apply Tr.joined ()
        · exact rfl
        · exact Front.nil
        · exact SubX.dropN 6 (by kernel_rfl) rfl
        · exact (by repeat' (first | exact Pick.nil _ | exact Del.here _ | apply Pick.cons | apply Del.there))
        · exact trivial
    · skip
      replace hi : True := hi
      change Tr _ _ [] ([] ++ _) _
      refine Tr.seq ?_
      refine Tr.region ?_
      refine Tr.q (QS.move rfl) rfl ?_
      refine Tr.q (QS.move rfl) rfl ?_
      refine Tr.callRowF (fun V => .tuple #[V, .int .i64 (putTextE s)]) rfl Try.call30 (fun w hw => putText_any b V s w (hw.slF hV) (by omega)) rfl (fun V10 => ?_)
      refine Tr.q (QS.move rfl) rfl ?_
      refine Tr.q (QS.extract rfl rfl) rfl ?_
      refine Tr.q (QS.extract rfl rfl) rfl ?_
      refine Tr.q (QS.assign rfl) rfl ?_
      refine Tr.q (QS.assign rfl) rfl ?_
      refine Tr.nil ?_
      refine Tr.thenN ?_
      refine Tr.seq ?_
      refine Tr.seq ?_
      refine Tr.region ?_
      refine Tr.q (QS.move rfl) rfl ?_
      refine Tr.q (QS.lenStr rfl Try.underlying9) rfl ?_
      refine Tr.q (QS.gtr rfl rfl) rfl ?_
      refine Tr.nil ?_
      refine Tr.thenN ?_
      refine Tr.cond rfl (fun h11 => ?_) (fun h11 => ?_)
      · try simp only [Bool.and_eq_true, Bool.or_eq_true, Bool.not_eq_true', Bool.not_eq_false', decide_eq_true_eq, decide_eq_false_iff_not, Bool.and_eq_false_iff, Bool.or_eq_false_iff, ne_eq, Decidable.not_not] at h11
        refine Tr.seq ?_
        refine Tr.region ?_
        refine Tr.q (QS.move rfl) rfl ?_
        refine Tr.q (QS.eql rfl rfl) rfl ?_
        refine Tr.q (QS.move rfl) rfl ?_
        apply Tr.and (t := 69) (d := 71) 2
        · exact rfl
        · intro hT12; have hT12' := hT12
          try simp only [Bool.and_eq_true, Bool.or_eq_true, Bool.not_eq_true', Bool.not_eq_false', decide_eq_true_eq, decide_eq_false_iff_not, Bool.and_eq_false_iff, Bool.or_eq_false_iff, ne_eq, Decidable.not_not] at hT12'
          refine Tr.gq rfl rfl hT12 (QS.call rfl Try.call16 (fun w hw => example02_any w)) rfl ?_
          refine Tr.q (QS.pickT rfl hT12 rfl) rfl ?_
          refine Tr.nil (Tr.thenN ?_)
          first | exact Tr.end (Sub.cons rfl (Sub.dropN 2 (by kernel_rfl) rfl)) rfl rfl | exact Tr.endP (Sub.cons rfl (Sub.dropN 2 (by kernel_rfl) rfl)) rfl (by repeat' (first | exact Pick.nil _ | exact Del.here _ | apply Pick.cons | apply Del.there))
        · intro hF12
          refine Tr.gskip rfl rfl hF12 rfl ?_
          refine Tr.q (QS.pickF rfl hF12 rfl) rfl ?_
          refine Tr.nil (Tr.thenN ?_)
          first | exact Tr.end (Sub.cons rfl (Sub.dropN 2 (by kernel_rfl) rfl)) rfl rfl | exact Tr.endP (Sub.cons rfl (Sub.dropN 2 (by kernel_rfl) rfl)) rfl (by repeat' (first | exact Pick.nil _ | exact Del.here _ | apply Pick.cons | apply Del.there))
        refine Tr.q (QS.assign rfl) rfl ?_
        refine Tr.nil ?_
        refine Tr.thenN ?_
        refine Tr.ret ?_
        refine Tr.thenR ?_
        refine Tr.ret1 Try.results7 rfl (fun w' hw => ?_)
        exact ⟨by have := (putTextP_big (b := b) (s := s) (by omega)).2; simp [this], hw.below (Bg.le.refl _)⟩
      · try simp only [Bool.and_eq_true, Bool.or_eq_true, Bool.not_eq_true', Bool.not_eq_false', decide_eq_true_eq, decide_eq_false_iff_not, Bool.and_eq_false_iff, Bool.or_eq_false_iff, ne_eq, Decidable.not_not] at h11
        refine Tr.skip ?_
        refine Tr.thenN ?_
        refine Tr.seq ?_
        refine Tr.region ?_
        refine Tr.q (QS.move rfl) rfl ?_
        refine Tr.q (QS.move rfl) rfl ?_
        first | refine Tr.q (QS.len rfl (by assumption) Try.underlying22) rfl ?_ | refine Tr.q (QS.lenRow rfl (by repeat (first | exact List.Mem.head _ | apply List.Mem.tail)) Try.underlying22) rfl ?_ | refine Tr.q (QS.lenNil rfl Try.underlying22) rfl ?_
        refine Tr.q (QS.call rfl Try.call32 (fun w hw => getText_any (putTextP b s) _ b.length w (hw.row (.head _)) (by omega))) rfl ?_
        refine Tr.q (QS.move rfl) rfl ?_
        refine Tr.q (QS.extract rfl rfl) rfl ?_
        refine Tr.q (QS.extract rfl rfl) rfl ?_
        refine Tr.q (QS.extract rfl rfl) rfl ?_
        refine Tr.q (QS.assign rfl) rfl ?_
        refine Tr.q (QS.assign rfl) rfl ?_
        refine Tr.q (QS.assign rfl) rfl ?_
        refine Tr.nil ?_
        refine Tr.thenN ?_
        refine Tr.seq ?_
        refine Tr.region ?_
        refine Tr.q (QS.move rfl) rfl ?_
        refine Tr.q (QS.eql rfl rfl) rfl ?_
        refine Tr.q (QS.move rfl) rfl ?_
        apply Tr.and (t := 82) (d := 85) 3
        · exact rfl
        · intro hT13; have hT13' := hT13
          try simp only [Bool.and_eq_true, Bool.or_eq_true, Bool.not_eq_true', Bool.not_eq_false', decide_eq_true_eq, decide_eq_false_iff_not, Bool.and_eq_false_iff, Bool.or_eq_false_iff, ne_eq, Decidable.not_not] at hT13'
          refine Tr.gq rfl rfl hT13 (QS.move rfl) rfl ?_
          refine Tr.gq rfl rfl hT13 (QS.eql rfl rfl) rfl ?_
          refine Tr.q (QS.pickT rfl hT13 rfl) rfl ?_
          refine Tr.nil (Tr.thenN ?_)
          first | exact Tr.end (Sub.cons rfl (Sub.dropN 3 (by kernel_rfl) rfl)) rfl rfl | exact Tr.endP (Sub.cons rfl (Sub.dropN 3 (by kernel_rfl) rfl)) rfl (by repeat' (first | exact Pick.nil _ | exact Del.here _ | apply Pick.cons | apply Del.there))
        · intro hF13
          refine Tr.gskip rfl rfl hF13 rfl ?_
          refine Tr.gskip rfl rfl hF13 rfl ?_
          refine Tr.q (QS.pickF rfl hF13 rfl) rfl ?_
          refine Tr.nil (Tr.thenN ?_)
          first | exact Tr.end (Sub.cons rfl (Sub.dropN 3 (by kernel_rfl) rfl)) rfl rfl | exact Tr.endP (Sub.cons rfl (Sub.dropN 3 (by kernel_rfl) rfl)) rfl (by repeat' (first | exact Pick.nil _ | exact Del.here _ | apply Pick.cons | apply Del.there))
        refine Tr.q (QS.move rfl) rfl ?_
        apply Tr.and (t := 86) (d := 90) 4
        · exact rfl
        · intro hT14; have hT14' := hT14
          try simp only [Bool.and_eq_true, Bool.or_eq_true, Bool.not_eq_true', Bool.not_eq_false', decide_eq_true_eq, decide_eq_false_iff_not, Bool.and_eq_false_iff, Bool.or_eq_false_iff, ne_eq, Decidable.not_not] at hT14'
          refine Tr.gq rfl rfl hT14 (QS.move rfl) rfl ?_
          refine Tr.gq rfl rfl hT14 (QS.move rfl) rfl ?_
          refine Tr.gq rfl rfl hT14 (QS.str_eql rfl rfl) rfl ?_
          refine Tr.q (QS.pickT rfl hT14 rfl) rfl ?_
          refine Tr.nil (Tr.thenN ?_)
          first | exact Tr.end (Sub.cons rfl (Sub.dropN 4 (by kernel_rfl) rfl)) rfl rfl | exact Tr.endP (Sub.cons rfl (Sub.dropN 4 (by kernel_rfl) rfl)) rfl (by repeat' (first | exact Pick.nil _ | exact Del.here _ | apply Pick.cons | apply Del.there))
        · intro hF14
          refine Tr.gskip rfl rfl hF14 rfl ?_
          refine Tr.gskip rfl rfl hF14 rfl ?_
          refine Tr.gskip rfl rfl hF14 rfl ?_
          refine Tr.q (QS.pickF rfl hF14 rfl) rfl ?_
          refine Tr.nil (Tr.thenN ?_)
          first | exact Tr.end (Sub.cons rfl (Sub.dropN 4 (by kernel_rfl) rfl)) rfl rfl | exact Tr.endP (Sub.cons rfl (Sub.dropN 4 (by kernel_rfl) rfl)) rfl (by repeat' (first | exact Pick.nil _ | exact Del.here _ | apply Pick.cons | apply Del.there))
        refine Tr.q (QS.move rfl) rfl ?_
        apply Tr.and (t := 91) (d := 96) 5
        · exact rfl
        · intro hT15; have hT15' := hT15
          try simp only [Bool.and_eq_true, Bool.or_eq_true, Bool.not_eq_true', Bool.not_eq_false', decide_eq_true_eq, decide_eq_false_iff_not, Bool.and_eq_false_iff, Bool.or_eq_false_iff, ne_eq, Decidable.not_not] at hT15'
          refine Tr.gq rfl rfl hT15 (QS.move rfl) rfl ?_
          refine Tr.gq rfl rfl hT15 (QS.move rfl) rfl ?_
          first | refine Tr.gq rfl rfl hT15 (QS.len rfl (by assumption) Try.underlying22) rfl ?_ | refine Tr.gq rfl rfl hT15 (QS.lenRow rfl (by repeat (first | exact List.Mem.head _ | apply List.Mem.tail)) Try.underlying22) rfl ?_ | refine Tr.gq rfl rfl hT15 (QS.lenNil rfl Try.underlying22) rfl ?_
          refine Tr.gq rfl rfl hT15 (QS.eql rfl rfl) rfl ?_
          refine Tr.q (QS.pickT rfl hT15 rfl) rfl ?_
          refine Tr.nil (Tr.thenN ?_)
          first | exact Tr.end (Sub.cons rfl (Sub.dropN 5 (by kernel_rfl) rfl)) rfl rfl | exact Tr.endP (Sub.cons rfl (Sub.dropN 5 (by kernel_rfl) rfl)) rfl (by repeat' (first | exact Pick.nil _ | exact Del.here _ | apply Pick.cons | apply Del.there))
        · intro hF15
          refine Tr.gskip rfl rfl hF15 rfl ?_
          refine Tr.gskip rfl rfl hF15 rfl ?_
          refine Tr.gskip rfl rfl hF15 rfl ?_
          refine Tr.gskip rfl rfl hF15 rfl ?_
          refine Tr.q (QS.pickF rfl hF15 rfl) rfl ?_
          refine Tr.nil (Tr.thenN ?_)
          first | exact Tr.end (Sub.cons rfl (Sub.dropN 5 (by kernel_rfl) rfl)) rfl rfl | exact Tr.endP (Sub.cons rfl (Sub.dropN 5 (by kernel_rfl) rfl)) rfl (by repeat' (first | exact Pick.nil _ | exact Del.here _ | apply Pick.cons | apply Del.there))
        refine Tr.q (QS.move rfl) rfl ?_
        apply Tr.and (t := 97) (d := 99) 2
        · exact rfl
        · intro hT16; have hT16' := hT16
          try simp only [Bool.and_eq_true, Bool.or_eq_true, Bool.not_eq_true', Bool.not_eq_false', decide_eq_true_eq, decide_eq_false_iff_not, Bool.and_eq_false_iff, Bool.or_eq_false_iff, ne_eq, Decidable.not_not] at hT16'
          refine Tr.gq rfl rfl hT16 (QS.call rfl Try.call16 (fun w hw => example02_any w)) rfl ?_
          refine Tr.q (QS.pickT rfl hT16 rfl) rfl ?_
          refine Tr.nil (Tr.thenN ?_)
          first | exact Tr.end (Sub.cons rfl (Sub.dropN 2 (by kernel_rfl) rfl)) rfl rfl | exact Tr.endP (Sub.cons rfl (Sub.dropN 2 (by kernel_rfl) rfl)) rfl (by repeat' (first | exact Pick.nil _ | exact Del.here _ | apply Pick.cons | apply Del.there))
        · intro hF16
          refine Tr.gskip rfl rfl hF16 rfl ?_
          refine Tr.q (QS.pickF rfl hF16 rfl) rfl ?_
          refine Tr.nil (Tr.thenN ?_)
          first | exact Tr.end (Sub.cons rfl (Sub.dropN 2 (by kernel_rfl) rfl)) rfl rfl | exact Tr.endP (Sub.cons rfl (Sub.dropN 2 (by kernel_rfl) rfl)) rfl (by repeat' (first | exact Pick.nil _ | exact Del.here _ | apply Pick.cons | apply Del.there))
        refine Tr.q (QS.assign rfl) rfl ?_
        refine Tr.nil ?_
        refine Tr.thenN ?_
        refine Tr.ret ?_
        refine Tr.ret1 Try.results7 rfl (fun w' hw => ?_)
        exact ⟨by have hp := (putTextP_ok (b := b) (s := s) (by omega)).2; have hg := getText_put b s (by omega); simp [hp, hg], hw.below (Bg.le.refl _)⟩

end Go.Proofs.Ytfmhhakhbopfdaa
