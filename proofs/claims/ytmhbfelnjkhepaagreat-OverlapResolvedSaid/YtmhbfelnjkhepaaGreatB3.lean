/- Own rules and walks, part 3. -/
import Derived.Test.YtmhbfelnjkhepaaGreatB2
set_option linter.unusedSimpArgs false
set_option linter.unusedVariables false
set_option linter.unusedSectionVars false
namespace Go.Proofs.YtmhbfelnjkhepaaGreat
open Go Go.HL Go.RowKit
def orP : List Int → Int
  | [] => 0
  | x :: t => if x ≠ 0 then x else orP t
theorem orP2 (p q : Int) : orP [p, q] = if p ≠ 0 then p else q := by simp only [orP]; split <;> (try split) <;> simp_all
set_option maxRecDepth 100000 in
set_option maxHeartbeats 2000000 in
theorem nanU_any (a : UInt32) (w : World) :
    Calls Tryz.prog 76 #[.int .u32 a.toNat] w (fun e w' => e = .returned (.bool false) ∧ Ext w w') := by
  refine enter Tryz.func76 rfl Tryz.ntmps76 rfl ?_
  refine Tr.seq ?_
  refine Tr.region ?_
  refine Tr.q (QS.assign rfl) rfl ?_
  refine Tr.nil ?_
  refine Tr.thenN ?_
  refine Tr.seq ?_
  refine Tr.region ?_
  refine Tr.q (QS.move rfl) rfl ?_
  refine Tr.q (QS.move rfl) rfl ?_
  refine Tr.q (QS.neq32 rfl rfl) rfl ?_
  refine Tr.q (QS.assign rfl) rfl ?_
  refine Tr.nil ?_
  refine Tr.thenN ?_
  refine Tr.ret ?_
  refine Tr.ret1 Tryz.results76 rfl (fun w' hw => ?_)
  exact ⟨by simp, hw.below (Bg.le.refl _)⟩
set_option maxRecDepth 100000 in
set_option maxHeartbeats 2000000 in
theorem cmpU_any (a b : UInt32) (w : World) :
    Calls Tryz.prog 45 #[.int .u32 a.toNat, .int .u32 b.toNat] w (fun e w' => e = .returned (.int .i64 (cmpU a b)) ∧ Ext w w') := by
  refine enter Tryz.func45 rfl Tryz.ntmps45 rfl ?_
  refine Tr.seq ?_
  refine Tr.region ?_
  refine Tr.q (QS.assign rfl) rfl ?_
  refine Tr.nil ?_
  refine Tr.thenN ?_
  refine Tr.seq ?_
  refine Tr.region ?_
  refine Tr.q (QS.move rfl) rfl ?_
  refine Tr.q (QS.call rfl Tryz.call76 (fun w hw => nanU_any a w)) rfl ?_
  refine Tr.q (QS.assign rfl) rfl ?_
  refine Tr.nil ?_
  refine Tr.thenN ?_
  refine Tr.seq ?_
  refine Tr.region ?_
  refine Tr.q (QS.move rfl) rfl ?_
  refine Tr.q (QS.call rfl Tryz.call76 (fun w hw => nanU_any b w)) rfl ?_
  refine Tr.q (QS.assign rfl) rfl ?_
  refine Tr.nil ?_
  refine Tr.thenN ?_
  refine Tr.seq ?_
  refine Tr.seq ?_
  refine Tr.region ?_
  refine Tr.q (QS.move rfl) rfl ?_
  refine Tr.nil ?_
  refine Tr.thenN ?_
  refine Tr.cond rfl (fun h1 => ?_) (fun h1 => ?_)
  · try simp only [bs] at h1
    first | contradiction | (exfalso; omega) | simp_all
  · try simp only [bs] at h1
    refine Tr.skip ?_
    refine Tr.thenN ?_
    refine Tr.seq ?_
    refine Tr.seq ?_
    refine Tr.region ?_
    refine Tr.q (QS.move rfl) rfl ?_
    refine Tr.nil ?_
    refine Tr.thenN ?_
    refine Tr.cond rfl (fun h2 => ?_) (fun h2 => ?_)
    · try simp only [bs] at h2
      first | contradiction | (exfalso; omega) | simp_all
    · try simp only [bs] at h2
      refine Tr.skip ?_
      refine Tr.thenN ?_
      refine Tr.seq ?_
      refine Tr.seq ?_
      refine Tr.region ?_
      refine Tr.q (QS.move rfl) rfl ?_
      refine Tr.q (QS.move rfl) rfl ?_
      refine Tr.q (QS.lss32 rfl rfl) rfl ?_
      refine Tr.nil ?_
      refine Tr.thenN ?_
      refine Tr.cond rfl (fun h3 => ?_) (fun h3 => ?_)
      · try simp only [bs] at h3
        refine Tr.seq ?_
        refine Tr.region ?_
        refine Tr.q (QS.assign rfl) rfl ?_
        refine Tr.nil ?_
        refine Tr.thenN ?_
        refine Tr.ret ?_
        refine Tr.thenR ?_
        refine Tr.ret1 Tryz.results45 rfl (fun w' hw => ?_)
        exact ⟨by rw [cmpU, if_pos (by assumption)], hw.below (Bg.le.refl _)⟩
      · try simp only [bs] at h3
        refine Tr.skip ?_
        refine Tr.thenN ?_
        refine Tr.seq ?_
        refine Tr.seq ?_
        refine Tr.region ?_
        refine Tr.q (QS.move rfl) rfl ?_
        refine Tr.q (QS.move rfl) rfl ?_
        refine Tr.q (QS.gtr32 rfl rfl) rfl ?_
        refine Tr.nil ?_
        refine Tr.thenN ?_
        refine Tr.cond rfl (fun h4 => ?_) (fun h4 => ?_)
        · try simp only [bs] at h4
          refine Tr.seq ?_
          refine Tr.region ?_
          refine Tr.q (QS.assign rfl) rfl ?_
          refine Tr.nil ?_
          refine Tr.thenN ?_
          refine Tr.ret ?_
          refine Tr.thenR ?_
          refine Tr.ret1 Tryz.results45 rfl (fun w' hw => ?_)
          exact ⟨by rw [cmpU, if_neg (by assumption), if_pos (by assumption)], hw.below (Bg.le.refl _)⟩
        · try simp only [bs] at h4
          refine Tr.skip ?_
          refine Tr.thenN ?_
          refine Tr.seq ?_
          refine Tr.region ?_
          refine Tr.q (QS.assign rfl) rfl ?_
          refine Tr.nil ?_
          refine Tr.thenN ?_
          refine Tr.ret ?_
          refine Tr.ret1 Tryz.results45 rfl (fun w' hw => ?_)
          exact ⟨by rw [cmpU, if_neg (by assumption), if_neg (by assumption)], hw.below (Bg.le.refl _)⟩
set_option maxRecDepth 100000 in
set_option maxHeartbeats 2000000 in
theorem nanI_any (a : Int) (w : World) :
    Calls Tryz.prog 73 #[.int .i64 a] w (fun e w' => e = .returned (.bool false) ∧ Ext w w') := by
  refine enter Tryz.func73 rfl Tryz.ntmps73 rfl ?_
  refine Tr.seq ?_
  refine Tr.region ?_
  refine Tr.q (QS.assign rfl) rfl ?_
  refine Tr.nil ?_
  refine Tr.thenN ?_
  refine Tr.seq ?_
  refine Tr.region ?_
  refine Tr.q (QS.move rfl) rfl ?_
  refine Tr.q (QS.move rfl) rfl ?_
  refine Tr.q (QS.neq rfl rfl) rfl ?_
  refine Tr.q (QS.assign rfl) rfl ?_
  refine Tr.nil ?_
  refine Tr.thenN ?_
  refine Tr.ret ?_
  refine Tr.ret1 Tryz.results73 rfl (fun w' hw => ?_)
  exact ⟨by simp, hw.below (Bg.le.refl _)⟩
set_option maxRecDepth 100000 in
set_option maxHeartbeats 2000000 in
theorem cmpI_any (a b : Int) (w : World) :
    Calls Tryz.prog 41 #[.int .i64 a, .int .i64 b] w (fun e w' => e = .returned (.int .i64 (cmpI a b)) ∧ Ext w w') := by
  refine enter Tryz.func41 rfl Tryz.ntmps41 rfl ?_
  refine Tr.seq ?_
  refine Tr.region ?_
  refine Tr.q (QS.assign rfl) rfl ?_
  refine Tr.nil ?_
  refine Tr.thenN ?_
  refine Tr.seq ?_
  refine Tr.region ?_
  refine Tr.q (QS.move rfl) rfl ?_
  refine Tr.q (QS.call rfl Tryz.call73 (fun w hw => nanI_any a w)) rfl ?_
  refine Tr.q (QS.assign rfl) rfl ?_
  refine Tr.nil ?_
  refine Tr.thenN ?_
  refine Tr.seq ?_
  refine Tr.region ?_
  refine Tr.q (QS.move rfl) rfl ?_
  refine Tr.q (QS.call rfl Tryz.call73 (fun w hw => nanI_any b w)) rfl ?_
  refine Tr.q (QS.assign rfl) rfl ?_
  refine Tr.nil ?_
  refine Tr.thenN ?_
  refine Tr.seq ?_
  refine Tr.seq ?_
  refine Tr.region ?_
  refine Tr.q (QS.move rfl) rfl ?_
  refine Tr.nil ?_
  refine Tr.thenN ?_
  refine Tr.cond rfl (fun h1 => ?_) (fun h1 => ?_)
  · try simp only [bs] at h1
    first | contradiction | (exfalso; omega) | simp_all
  · try simp only [bs] at h1
    refine Tr.skip ?_
    refine Tr.thenN ?_
    refine Tr.seq ?_
    refine Tr.seq ?_
    refine Tr.region ?_
    refine Tr.q (QS.move rfl) rfl ?_
    refine Tr.nil ?_
    refine Tr.thenN ?_
    refine Tr.cond rfl (fun h2 => ?_) (fun h2 => ?_)
    · try simp only [bs] at h2
      first | contradiction | (exfalso; omega) | simp_all
    · try simp only [bs] at h2
      refine Tr.skip ?_
      refine Tr.thenN ?_
      refine Tr.seq ?_
      refine Tr.seq ?_
      refine Tr.region ?_
      refine Tr.q (QS.move rfl) rfl ?_
      refine Tr.q (QS.move rfl) rfl ?_
      refine Tr.q (QS.lss rfl rfl) rfl ?_
      refine Tr.nil ?_
      refine Tr.thenN ?_
      refine Tr.cond rfl (fun h3 => ?_) (fun h3 => ?_)
      · try simp only [bs] at h3
        refine Tr.seq ?_
        refine Tr.region ?_
        refine Tr.q (QS.assign rfl) rfl ?_
        refine Tr.nil ?_
        refine Tr.thenN ?_
        refine Tr.ret ?_
        refine Tr.thenR ?_
        refine Tr.ret1 Tryz.results41 rfl (fun w' hw => ?_)
        exact ⟨by rw [cmpI, if_pos (by assumption)], hw.below (Bg.le.refl _)⟩
      · try simp only [bs] at h3
        refine Tr.skip ?_
        refine Tr.thenN ?_
        refine Tr.seq ?_
        refine Tr.seq ?_
        refine Tr.region ?_
        refine Tr.q (QS.move rfl) rfl ?_
        refine Tr.q (QS.move rfl) rfl ?_
        refine Tr.q (QS.gtr rfl rfl) rfl ?_
        refine Tr.nil ?_
        refine Tr.thenN ?_
        refine Tr.cond rfl (fun h4 => ?_) (fun h4 => ?_)
        · try simp only [bs] at h4
          refine Tr.seq ?_
          refine Tr.region ?_
          refine Tr.q (QS.assign rfl) rfl ?_
          refine Tr.nil ?_
          refine Tr.thenN ?_
          refine Tr.ret ?_
          refine Tr.thenR ?_
          refine Tr.ret1 Tryz.results41 rfl (fun w' hw => ?_)
          exact ⟨by rw [cmpI, if_neg (by assumption), if_pos (by assumption)], hw.below (Bg.le.refl _)⟩
        · try simp only [bs] at h4
          refine Tr.skip ?_
          refine Tr.thenN ?_
          refine Tr.seq ?_
          refine Tr.region ?_
          refine Tr.q (QS.assign rfl) rfl ?_
          refine Tr.nil ?_
          refine Tr.thenN ?_
          refine Tr.ret ?_
          refine Tr.ret1 Tryz.results41 rfl (fun w' hw => ?_)
          exact ⟨by rw [cmpI, if_neg (by assumption), if_neg (by assumption)], hw.below (Bg.le.refl _)⟩
set_option maxRecDepth 100000 in
set_option maxHeartbeats 2000000 in
theorem or_any (l : List Int) (V : Value) (w : World) (hV : Sl (hp w) encInt l V) :
    Calls Tryz.prog 54 #[V] w (fun e w' => e = .returned (.int .i64 (orP l)) ∧ Ext w w') := by
  have hV' : Sl (Bg.of w).blk encInt l V := hV
  have hlen := hV.len_le
  refine enter Tryz.func54 rfl Tryz.ntmps54 rfl ?_
  refine Tr.seq ?_
  refine Tr.region ?_
  refine Tr.q (QS.assign rfl) rfl ?_
  refine Tr.nil ?_
  refine Tr.thenN ?_
  refine Tr.seq ?_
  refine Tr.region ?_
  refine Tr.q (QS.assign rfl) rfl ?_
  refine Tr.nil ?_
  refine Tr.thenN ?_
  refine Tr.seq ?_
  refine Tr.seq ?_
  refine Tr.region ?_
  refine Tr.q (QS.move rfl) rfl ?_
  refine Tr.q (QS.len rfl (by assumption) Tryz.underlying104) rfl ?_
  refine Tr.q (QS.move rfl) rfl ?_
  refine Tr.nil ?_
  refine Tr.thenN ?_
  refine Tr.block ?_
  refine Tr.loop (ι := Nat) (fun k => k ≤ l.length ∧ orP (l.drop k) = orP l) (fun _ => _) (fun k => []) (fun k => [(8, .int .i64 (k : Nat))]) (fun k => l.length - k) 0 ⟨Nat.zero_le _, rfl⟩ (.cons (by first | rfl | exact lookI rfl (by omega) | exact lookI rfl (by simp) | exact lookB rfl (by simp)) Front.nil) (by repeat' (first | exact Pick.nil _ | exact Del.here _ | apply Pick.cons | apply Del.there)) rfl (fun k hi m hm => ?_)
  replace hi : k ≤ l.length ∧ orP (l.drop k) = orP l := hi
  replace hm : m = l.length - k := hm
  change Tr _ _ [] ([(8, .int .i64 (k : Nat))] ++ _) _
  obtain ⟨hk1, hk2⟩ := hi
  refine Tr.seq ?_
  refine Tr.region ?_
  refine Tr.q (QS.lss rfl rfl) rfl ?_
  refine Tr.nil ?_
  refine Tr.thenN ?_
  refine Tr.seq ?_
  refine Tr.cond rfl (fun h1 => ?_) (fun h1 => ?_)
  · try simp only [bs] at h1
    refine Tr.skip ?_
    refine Tr.thenN ?_
    refine Tr.seq ?_
    refine Tr.block ?_
    refine Tr.seq ?_
    refine Tr.region ?_
    refine Tr.q (QS.idxN rfl rfl (by assumption) Tryz.underlying104 Tryz.sizeOf3 (by rfl) (by omega)) rfl ?_
    refine Tr.q (QS.el1 rfl (by assumption) Tryz.isAgg3 (by omega) (by rfl)) rfl ?_
    refine Tr.q (QS.assign rfl) rfl ?_
    refine Tr.nil ?_
    refine Tr.thenN ?_
    refine Tr.seq ?_
    refine Tr.region ?_
    refine Tr.q (QS.move rfl) rfl ?_
    refine Tr.q (QS.move rfl) rfl ?_
    refine Tr.q (QS.neq rfl rfl) rfl ?_
    refine Tr.nil ?_
    refine Tr.thenN ?_
    refine Tr.cond rfl (fun h2 => ?_) (fun h2 => ?_)
    · try simp only [bs] at h2
      refine Tr.seq ?_
      refine Tr.region ?_
      refine Tr.q (QS.move rfl) rfl ?_
      refine Tr.q (QS.assign rfl) rfl ?_
      refine Tr.nil ?_
      refine Tr.thenN ?_
      refine Tr.ret ?_
      refine Tr.inR ?_
      refine Tr.thenR ?_
      refine Tr.thenR ?_
      refine Tr.inR ?_
      refine Tr.thenR ?_
      refine Tr.ret1 Tryz.results54 rfl (fun w' hw => ?_)
      exact ⟨by rw [← hk2, drop_cons (k := k) (by omega), orP, if_pos (by assumption)], hw.below (Bg.le.refl _)⟩
    · try simp only [bs] at h2
      refine Tr.skip ?_
      refine Tr.inN ?_
      refine Tr.thenN ?_
      refine Tr.region ?_
      refine Tr.q (QS.addI rfl rfl (by omega)) rfl ?_
      refine Tr.q (QS.move rfl) rfl ?_
      refine Tr.nil ?_
      refine Tr.thenN ?_
      apply Tr.again (k + 1)
      · exact rfl
      · exact (.cons (by first | rfl | exact lookI rfl (by omega) | exact lookI rfl (by simp) | exact lookB rfl (by simp)) Front.nil)
      · exact SubX.dropN 10 (by kernel_rfl) rfl
      · exact (by repeat' (first | exact Pick.nil _ | exact Del.here _ | apply Pick.cons | apply Del.there))
      · exact ⟨by omega, by rw [← hk2, drop_cons (k := k) (by omega), orP, if_neg (by simp_all)]⟩
      · exact (by (try dsimp only); omega)
  · try simp only [bs] at h1
    refine Tr.exit ?_
    refine Tr.thenE ?_
    refine Tr.thenE ?_
    refine Tr.inHit ?_
    refine Tr.thenN ?_
    refine Tr.seq ?_
    refine Tr.region ?_
    refine Tr.q (QS.move rfl) rfl ?_
    refine Tr.q (QS.assign rfl) rfl ?_
    refine Tr.nil ?_
    refine Tr.thenN ?_
    refine Tr.ret ?_
    refine Tr.ret1 Tryz.results54 rfl (fun w' hw => ?_)
    exact ⟨by rw [← hk2, List.drop_of_length_le (by omega)]; rfl, hw.below (Bg.le.refl _)⟩
set_option maxRecDepth 100000 in
set_option maxHeartbeats 2000000 in
theorem index_u32 (l : List UInt32) (V : Value) (a : UInt32) (w : World) (hV : Sl (hp w) encU32 l V) :
    Calls Tryz.prog 71 #[V, .int .u32 a.toNat] w (fun e w' => e = .returned (.int .i64 (idxP (fun x => decide (a = x)) 0 l)) ∧ Ext w w') := by
  have hV' : Sl (Bg.of w).blk encU32 l V := hV
  have hlen := hV.len_le
  refine enter Tryz.func71 rfl Tryz.ntmps71 rfl ?_
  refine Tr.seq ?_
  refine Tr.region ?_
  refine Tr.q (QS.assign rfl) rfl ?_
  refine Tr.nil ?_
  refine Tr.thenN ?_
  refine Tr.seq ?_
  refine Tr.seq ?_
  refine Tr.region ?_
  refine Tr.q (QS.move rfl) rfl ?_
  refine Tr.q (QS.len rfl (by assumption) Tryz.underlying23) rfl ?_
  refine Tr.q (QS.move rfl) rfl ?_
  refine Tr.nil ?_
  refine Tr.thenN ?_
  refine Tr.block ?_
  refine Tr.loop (ι := Nat) (fun k => k ≤ l.length ∧ idxP (fun x => decide (a = x)) k (l.drop k) = idxP (fun x => decide (a = x)) 0 l) (fun _ => _) (fun k => []) (fun k => [(8, .int .i64 (k : Nat))]) (fun k => l.length - k) 0 ⟨Nat.zero_le _, rfl⟩ (.cons (by first | rfl | exact lookI rfl (by omega) | exact lookI rfl (by simp) | exact lookB rfl (by simp)) Front.nil) (by repeat' (first | exact Pick.nil _ | exact Del.here _ | apply Pick.cons | apply Del.there)) rfl (fun k hi m hm => ?_)
  replace hi : k ≤ l.length ∧ idxP (fun x => decide (a = x)) k (l.drop k) = idxP (fun x => decide (a = x)) 0 l := hi
  replace hm : m = l.length - k := hm
  change Tr _ _ [] ([(8, .int .i64 (k : Nat))] ++ _) _
  obtain ⟨hk1, hk2⟩ := hi
  refine Tr.seq ?_
  refine Tr.region ?_
  refine Tr.q (QS.lss rfl rfl) rfl ?_
  refine Tr.nil ?_
  refine Tr.thenN ?_
  refine Tr.seq ?_
  refine Tr.cond rfl (fun h1 => ?_) (fun h1 => ?_)
  · try simp only [bs] at h1
    refine Tr.skip ?_
    refine Tr.thenN ?_
    refine Tr.seq ?_
    refine Tr.block ?_
    refine Tr.seq ?_
    refine Tr.region ?_
    refine Tr.q (QS.move rfl) rfl ?_
    refine Tr.q (QS.assign rfl) rfl ?_
    refine Tr.nil ?_
    refine Tr.thenN ?_
    refine Tr.seq ?_
    refine Tr.region ?_
    refine Tr.q (QS.move rfl) rfl ?_
    refine Tr.q (QS.move rfl) rfl ?_
    refine Tr.q (QS.move rfl) rfl ?_
    refine Tr.q (QS.idxN rfl rfl (by assumption) Tryz.underlying23 Tryz.sizeOf33 (by rfl) (by omega)) rfl ?_
    refine Tr.q (QS.el1 rfl (by assumption) Tryz.isAgg33 (by omega) (by rfl)) rfl ?_
    refine Tr.q (QS.eql32 rfl rfl) rfl ?_
    refine Tr.nil ?_
    refine Tr.thenN ?_
    refine Tr.cond rfl (fun h2 => ?_) (fun h2 => ?_)
    · try simp only [bs] at h2
      refine Tr.seq ?_
      refine Tr.region ?_
      refine Tr.q (QS.move rfl) rfl ?_
      refine Tr.q (QS.assign rfl) rfl ?_
      refine Tr.nil ?_
      refine Tr.thenN ?_
      refine Tr.ret ?_
      refine Tr.inR ?_
      refine Tr.thenR ?_
      refine Tr.thenR ?_
      refine Tr.inR ?_
      refine Tr.thenR ?_
      refine Tr.ret1 Tryz.results71 rfl (fun w' hw => ?_)
      exact ⟨by rw [← hk2, drop_cons (k := k) (by omega), idxP, if_pos (by simp_all)], hw.below (Bg.le.refl _)⟩
    · try simp only [bs] at h2
      refine Tr.skip ?_
      refine Tr.inN ?_
      refine Tr.thenN ?_
      refine Tr.region ?_
      refine Tr.q (QS.addI rfl rfl (by omega)) rfl ?_
      refine Tr.q (QS.move rfl) rfl ?_
      refine Tr.nil ?_
      refine Tr.thenN ?_
      apply Tr.again (k + 1)
      · exact rfl
      · exact (.cons (by first | rfl | exact lookI rfl (by omega) | exact lookI rfl (by simp) | exact lookB rfl (by simp)) Front.nil)
      · exact SubX.dropN 12 (by kernel_rfl) rfl
      · exact (by repeat' (first | exact Pick.nil _ | exact Del.here _ | apply Pick.cons | apply Del.there))
      · exact ⟨by omega, by rw [← hk2, drop_cons (k := k) (by omega), idxP, if_neg (by simp_all)]⟩
      · exact (by (try dsimp only); omega)
  · try simp only [bs] at h1
    refine Tr.exit ?_
    refine Tr.thenE ?_
    refine Tr.thenE ?_
    refine Tr.inHit ?_
    refine Tr.thenN ?_
    refine Tr.seq ?_
    refine Tr.region ?_
    refine Tr.q (QS.assign rfl) rfl ?_
    refine Tr.nil ?_
    refine Tr.thenN ?_
    refine Tr.ret ?_
    refine Tr.ret1 Tryz.results71 rfl (fun w' hw => ?_)
    exact ⟨by rw [← hk2, List.drop_of_length_le (by omega)]; rfl, hw.below (Bg.le.refl _)⟩
set_option maxRecDepth 100000 in
set_option maxHeartbeats 2000000 in
theorem contains_u32 (l : List UInt32) (V : Value) (a : UInt32) (w : World) (hV : Sl (hp w) encU32 l V) :
    Calls Tryz.prog 37 #[V, .int .u32 a.toNat] w (fun e w' => e = .returned (.bool (hasU l a)) ∧ Ext w w') := by
  have hV' : Sl (Bg.of w).blk encU32 l V := hV
  have hlen := hV.len_le
  refine enter Tryz.func37 rfl Tryz.ntmps37 rfl ?_
  refine Tr.seq ?_
  refine Tr.region ?_
  refine Tr.q (QS.assign rfl) rfl ?_
  refine Tr.nil ?_
  refine Tr.thenN ?_
  refine Tr.seq ?_
  refine Tr.region ?_
  refine Tr.q (QS.move rfl) rfl ?_
  refine Tr.q (QS.move rfl) rfl ?_
  refine Tr.q (QS.call rfl Tryz.call71 (fun w hw => index_u32 l V a w (hw.slF hV'))) rfl ?_
  refine Tr.q (QS.geq rfl rfl) rfl ?_
  refine Tr.q (QS.assign rfl) rfl ?_
  refine Tr.nil ?_
  refine Tr.thenN ?_
  refine Tr.ret ?_
  refine Tr.ret1 Tryz.results37 rfl (fun w' hw => ?_)
  exact ⟨by rw [idxP_any]; rfl, hw.below (Bg.le.refl _)⟩
set_option maxRecDepth 100000 in
set_option maxHeartbeats 2000000 in
theorem clone_u32 (l : List UInt32) (V : Value) (w : World) (hV : Sl (hp w) encU32 l V) (hb : l.length ≤ 1000000) :
    Calls Tryz.prog 49 #[V] w (fun e w' => ∃ V', e = .returned V' ∧ Ext w w' ∧ NewRow w w' 33 encU32 (l) V') := by
  have hV' : Sl (Bg.of w).blk encU32 l V := hV
  refine enter Tryz.func49 rfl Tryz.ntmps49 rfl ?_
  refine Tr.seq ?_
  refine Tr.region ?_
  refine Tr.q (QS.assign rfl) rfl ?_
  refine Tr.nil ?_
  refine Tr.thenN ?_
  refine Tr.seq ?_
  refine Tr.seq ?_
  refine Tr.region ?_
  refine Tr.q (QS.move rfl) rfl ?_
  refine Tr.q (QS.eqlNilS rfl (by assumption) Tryz.underlying23) rfl ?_
  refine Tr.nil ?_
  refine Tr.thenN ?_
  refine Tr.cond rfl (fun h1 => ?_) (fun h1 => ?_)
  · try simp only [bs] at h1
    refine Tr.seq ?_
    refine Tr.region ?_
    refine Tr.q (QS.assign rfl) rfl ?_
    refine Tr.nil ?_
    refine Tr.thenN ?_
    refine Tr.ret ?_
    refine Tr.thenR ?_
    refine Tr.ret1 Tryz.results49 rfl (fun w' hw => ?_)
    exact ⟨_, rfl, hw.below (Bg.le.refl _), newRow_nil (hV.isNil h1)⟩
  · try simp only [bs] at h1
    refine Tr.skip ?_
    refine Tr.thenN ?_
    refine Tr.seq ?_
    refine Tr.region ?_
    refine Tr.lit0 encU32 Tryz.underlying23 Tryz.sizeOf33 rfl (fun V2 => ?_)
    refine Tr.q (QS.move rfl) rfl ?_
    refine Tr.appendOf rfl rfl (by repeat (first | exact Del.here _ | apply Del.there)) (fun w hw => hw.slF (by assumption)) Tryz.underlying23 HLF.info33 (by rfl) (by rfl) (by (try simp only [List.length_cons, List.length_nil, List.length_append, List.length_take]); omega) (by unfold maxLen; (try simp only [List.length_cons, List.length_nil, List.length_append, List.length_take]); omega) rfl (fun V3 => ?_)
    refine Tr.q (QS.assign rfl) rfl ?_
    refine Tr.nil ?_
    refine Tr.thenN ?_
    refine Tr.ret ?_
    refine Tr.ret1 Tryz.results49 rfl (fun w' hw => ?_)
    exact ⟨_, rfl, hw.below (Bg.le.refl _), hw.new (.head _)⟩
set_option maxRecDepth 100000 in
set_option maxHeartbeats 2000000 in
theorem clone_ins (l : List Ins) (V : Value) (w : World) (hV : Sl (hp w) encIns l V) (hb : l.length ≤ 1000000) :
    Calls Tryz.prog 38 #[V] w (fun e w' => ∃ V', e = .returned V' ∧ Ext w w' ∧ NewRow w w' 35 encIns (l) V') := by
  have hV' : Sl (Bg.of w).blk encIns l V := hV
  refine enter Tryz.func38 rfl Tryz.ntmps38 rfl ?_
  refine Tr.seq ?_
  refine Tr.region ?_
  refine Tr.q (QS.assign rfl) rfl ?_
  refine Tr.nil ?_
  refine Tr.thenN ?_
  refine Tr.seq ?_
  refine Tr.seq ?_
  refine Tr.region ?_
  refine Tr.q (QS.move rfl) rfl ?_
  refine Tr.q (QS.eqlNilS rfl (by assumption) Tryz.underlying22) rfl ?_
  refine Tr.nil ?_
  refine Tr.thenN ?_
  refine Tr.cond rfl (fun h1 => ?_) (fun h1 => ?_)
  · try simp only [bs] at h1
    refine Tr.seq ?_
    refine Tr.region ?_
    refine Tr.q (QS.assign rfl) rfl ?_
    refine Tr.nil ?_
    refine Tr.thenN ?_
    refine Tr.ret ?_
    refine Tr.thenR ?_
    refine Tr.ret1 Tryz.results38 rfl (fun w' hw => ?_)
    exact ⟨_, rfl, hw.below (Bg.le.refl _), newRow_nil (hV.isNil h1)⟩
  · try simp only [bs] at h1
    refine Tr.skip ?_
    refine Tr.thenN ?_
    refine Tr.seq ?_
    refine Tr.region ?_
    refine Tr.lit0 encIns Tryz.underlying22 Tryz.sizeOf35 rfl (fun V2 => ?_)
    refine Tr.q (QS.move rfl) rfl ?_
    refine Tr.appendOf rfl rfl (by repeat (first | exact Del.here _ | apply Del.there)) (fun w hw => hw.slF (by assumption)) Tryz.underlying22 HLF.info35 (by rfl) (by rfl) (by (try simp only [List.length_cons, List.length_nil, List.length_append, List.length_take]); omega) (by unfold maxLen; (try simp only [List.length_cons, List.length_nil, List.length_append, List.length_take]); omega) rfl (fun V3 => ?_)
    refine Tr.q (QS.assign rfl) rfl ?_
    refine Tr.nil ?_
    refine Tr.thenN ?_
    refine Tr.ret ?_
    refine Tr.ret1 Tryz.results38 rfl (fun w' hw => ?_)
    exact ⟨_, rfl, hw.below (Bg.le.refl _), hw.new (.head _)⟩
set_option maxRecDepth 100000 in
set_option maxHeartbeats 2000000 in
theorem indexFunc_ins (l : List Ins) (V : Value) (g : FuncId) (cb : List Value) (w : World) (hV : Sl (hp w) encIns l V) (eg : ∀ args w, (callFunc g args).run Tryz.prog w = .ok (.enter g args) w) (p : Ins → Bool) (hp : ∀ x, x ∈ l → ∀ w', Ext w w' → Calls Tryz.prog g ([Value.agg (encIns.enc x).toArray] ++ cb).toArray w' fun e w'' => e = .returned (.bool (p x)) ∧ Ext w' w'') :
    Calls Tryz.prog 77 #[V, .func (.func g) #[] cb.toArray] w (fun e w' => e = .returned (.int .i64 (idxP p 0 l)) ∧ Ext w w') := by
  have hV' : Sl (Bg.of w).blk encIns l V := hV
  have hlen := hV.len_le
  refine enter Tryz.func77 rfl Tryz.ntmps77 rfl ?_
  refine Tr.seq ?_
  refine Tr.region ?_
  refine Tr.q (QS.assign rfl) rfl ?_
  refine Tr.nil ?_
  refine Tr.thenN ?_
  refine Tr.seq ?_
  refine Tr.seq ?_
  refine Tr.region ?_
  refine Tr.q (QS.move rfl) rfl ?_
  refine Tr.q (QS.len rfl (by assumption) Tryz.underlying22) rfl ?_
  refine Tr.q (QS.move rfl) rfl ?_
  refine Tr.nil ?_
  refine Tr.thenN ?_
  refine Tr.block ?_
  refine Tr.loop (ι := Nat) (fun k => k ≤ l.length ∧ idxP p k (l.drop k) = idxP p 0 l) (fun _ => _) (fun k => []) (fun k => [(8, .int .i64 (k : Nat))]) (fun k => l.length - k) 0 ⟨Nat.zero_le _, rfl⟩ (.cons (by first | rfl | exact lookI rfl (by omega) | exact lookI rfl (by simp) | exact lookB rfl (by simp)) Front.nil) (by repeat' (first | exact Pick.nil _ | exact Del.here _ | apply Pick.cons | apply Del.there)) rfl (fun k hi m hm => ?_)
  replace hi : k ≤ l.length ∧ idxP p k (l.drop k) = idxP p 0 l := hi
  replace hm : m = l.length - k := hm
  change Tr _ _ [] ([(8, .int .i64 (k : Nat))] ++ _) _
  obtain ⟨hk1, hk2⟩ := hi
  refine Tr.seq ?_
  refine Tr.region ?_
  refine Tr.q (QS.lss rfl rfl) rfl ?_
  refine Tr.nil ?_
  refine Tr.thenN ?_
  refine Tr.seq ?_
  refine Tr.cond rfl (fun h1 => ?_) (fun h1 => ?_)
  · try simp only [bs] at h1
    refine Tr.skip ?_
    refine Tr.thenN ?_
    refine Tr.seq ?_
    refine Tr.block ?_
    refine Tr.seq ?_
    refine Tr.region ?_
    refine Tr.q (QS.move rfl) rfl ?_
    refine Tr.q (QS.assign rfl) rfl ?_
    refine Tr.nil ?_
    refine Tr.thenN ?_
    refine Tr.seq ?_
    refine Tr.region ?_
    refine Tr.q (QS.move rfl) rfl ?_
    refine Tr.q (QS.move rfl) rfl ?_
    refine Tr.q (QS.move rfl) rfl ?_
    refine Tr.q (QS.idxN rfl rfl (by assumption) Tryz.underlying22 Tryz.sizeOf35 (by rfl) (by omega)) rfl ?_
    refine Tr.q (QS.elA rfl (by assumption) Tryz.isAgg35 Tryz.sizeOf35 (by rfl) (by omega)) rfl ?_
    refine Tr.q (QS.callV rfl rfl eg (fun w hw => hp _ (mem_getD (by omega)) w (hw.below (Bg.le.refl _)))) rfl ?_
    refine Tr.nil ?_
    refine Tr.thenN ?_
    refine Tr.cond rfl (fun h2 => ?_) (fun h2 => ?_)
    · try simp only [bs] at h2
      refine Tr.seq ?_
      refine Tr.region ?_
      refine Tr.q (QS.move rfl) rfl ?_
      refine Tr.q (QS.assign rfl) rfl ?_
      refine Tr.nil ?_
      refine Tr.thenN ?_
      refine Tr.ret ?_
      refine Tr.inR ?_
      refine Tr.thenR ?_
      refine Tr.thenR ?_
      refine Tr.inR ?_
      refine Tr.thenR ?_
      refine Tr.ret1 Tryz.results77 rfl (fun w' hw => ?_)
      exact ⟨by rw [← hk2, drop_cons (k := k) (by omega), idxP, if_pos (by assumption)], hw.below (Bg.le.refl _)⟩
    · try simp only [bs] at h2
      refine Tr.skip ?_
      refine Tr.inN ?_
      refine Tr.thenN ?_
      refine Tr.region ?_
      refine Tr.q (QS.addI rfl rfl (by omega)) rfl ?_
      refine Tr.q (QS.move rfl) rfl ?_
      refine Tr.nil ?_
      refine Tr.thenN ?_
      apply Tr.again (k + 1)
      · exact rfl
      · exact (.cons (by first | rfl | exact lookI rfl (by omega) | exact lookI rfl (by simp) | exact lookB rfl (by simp)) Front.nil)
      · exact SubX.dropN 12 (by kernel_rfl) rfl
      · exact (by repeat' (first | exact Pick.nil _ | exact Del.here _ | apply Pick.cons | apply Del.there))
      · exact ⟨by omega, by rw [← hk2, drop_cons (k := k) (by omega), idxP, if_neg (by simp_all)]⟩
      · exact (by (try dsimp only); omega)
  · try simp only [bs] at h1
    refine Tr.exit ?_
    refine Tr.thenE ?_
    refine Tr.thenE ?_
    refine Tr.inHit ?_
    refine Tr.thenN ?_
    refine Tr.seq ?_
    refine Tr.region ?_
    refine Tr.q (QS.assign rfl) rfl ?_
    refine Tr.nil ?_
    refine Tr.thenN ?_
    refine Tr.ret ?_
    refine Tr.ret1 Tryz.results77 rfl (fun w' hw => ?_)
    exact ⟨by rw [← hk2, List.drop_of_length_le (by omega)]; rfl, hw.below (Bg.le.refl _)⟩
set_option maxRecDepth 100000 in
set_option maxHeartbeats 2000000 in
theorem containsFunc_ins (l : List Ins) (V : Value) (g : FuncId) (cb : List Value) (w : World) (hV : Sl (hp w) encIns l V) (eg : ∀ args w, (callFunc g args).run Tryz.prog w = .ok (.enter g args) w) (p : Ins → Bool) (hp : ∀ x, x ∈ l → ∀ w', Ext w w' → Calls Tryz.prog g ([Value.agg (encIns.enc x).toArray] ++ cb).toArray w' fun e w'' => e = .returned (.bool (p x)) ∧ Ext w' w'') :
    Calls Tryz.prog 47 #[V, .func (.func g) #[] cb.toArray] w (fun e w' => e = .returned (.bool (l.any p)) ∧ Ext w w') := by
  have hV' : Sl (Bg.of w).blk encIns l V := hV
  refine enter Tryz.func47 rfl Tryz.ntmps47 rfl ?_
  refine Tr.seq ?_
  refine Tr.region ?_
  refine Tr.q (QS.assign rfl) rfl ?_
  refine Tr.nil ?_
  refine Tr.thenN ?_
  refine Tr.seq ?_
  refine Tr.region ?_
  refine Tr.q (QS.move rfl) rfl ?_
  refine Tr.q (QS.move rfl) rfl ?_
  refine Tr.q (QS.call rfl Tryz.call77 (fun w hw => indexFunc_ins l V g cb w (hw.slF hV') eg p (fun x hx w'' h => hp x hx w'' ((hw.below (Bg.le.refl _)).trans h)))) rfl ?_
  refine Tr.q (QS.geq rfl rfl) rfl ?_
  refine Tr.q (QS.assign rfl) rfl ?_
  refine Tr.nil ?_
  refine Tr.thenN ?_
  refine Tr.ret ?_
  refine Tr.ret1 Tryz.results47 rfl (fun w' hw => ?_)
  exact ⟨by rw [idxP_any], hw.below (Bg.le.refl _)⟩
set_option maxRecDepth 100000 in
set_option maxHeartbeats 2000000 in
theorem end_any (i : Ins) (w : World) (hI : InsOK i) :
    Calls Tryz.prog 58 #[.agg (encIns.enc i).toArray] w (fun e w' => e = .returned (.int .u64 (endI i)) ∧ Ext w w') := by
  have hl := len_rng i
  have ha := i.addr.toNat_lt
  refine enter Tryz.func58 rfl Tryz.ntmps58 rfl ?_
  refine Tr.seq ?_
  refine Tr.region ?_
  refine Tr.box rfl rfl rfl (fun b1 => ?_)
  refine Tr.q (QS.assign rfl) rfl ?_
  refine Tr.nil ?_
  refine Tr.thenN ?_
  refine Tr.seq ?_
  refine Tr.regionQ HLF.mixed (by kernel_rfl) ?_
  refine TrQ.q (QS.fieldAddr (off := 0) (ft := 33) rfl Tryz.underlying35 rfl rfl Tryz.sizeOf33 (by decide)) rfl ?_
  refine TrQ.q (QS.lV rfl Tryz.isAgg33) rfl ?_
  refine TrQ.q (QS.cvt32toU rfl Tryz.underlying33 Tryz.underlying81) rfl ?_
  refine TrQ.q (QS.lW rfl Tryz.isAgg35 Tryz.sizeOf35) rfl ?_
  refine TrQ.q (QS.call rfl Tryz.call51 (fun w hw => length_isa i w hI)) rfl ?_
  refine TrQ.q (QS.cvtIn rfl Tryz.underlying3 Tryz.underlying81 (IntWalk.u64_in _ (by omega))) rfl ?_
  refine TrQ.q (QS.addU rfl rfl (by omega)) rfl ?_
  refine TrQ.q (QS.assign rfl) rfl ?_
  refine TrQ.nil ?_
  refine Tr.thenN ?_
  refine Tr.ret ?_
  refine Tr.ret1 Tryz.results58 rfl (fun w' hw => ?_)
  exact ⟨rfl, hw.below (Bg.le.refl _)⟩
set_option maxRecDepth 100000 in
set_option maxHeartbeats 2000000 in
theorem conflict_any (a b : Ins) (w : World) (hI : InsOK a) (hJ : InsOK b) :
    Calls Tryz.prog 42 #[.agg (encIns.enc a).toArray, .agg (encIns.enc b).toArray] w (fun e w' => e = .returned (.bool (conflP a b)) ∧ Ext w w') := by
  refine enter Tryz.func42 rfl Tryz.ntmps42 rfl ?_
  refine Tr.seq ?_
  refine Tr.region ?_
  refine Tr.box rfl rfl rfl (fun b1 => ?_)
  refine Tr.box rfl rfl rfl (fun b2 => ?_)
  refine Tr.q (QS.assign rfl) rfl ?_
  refine Tr.nil ?_
  refine Tr.thenN ?_
  refine Tr.seq ?_
  refine Tr.regionQ HLF.mixed (by kernel_rfl) ?_
  refine TrQ.q (QS.fieldAddr (off := 0) (ft := 33) rfl Tryz.underlying35 rfl rfl Tryz.sizeOf33 (by decide)) rfl ?_
  refine TrQ.q (QS.lV rfl Tryz.isAgg33) rfl ?_
  refine TrQ.q (QS.fieldAddr (off := 0) (ft := 33) rfl Tryz.underlying35 rfl rfl Tryz.sizeOf33 (by decide)) rfl ?_
  refine TrQ.q (QS.lV rfl Tryz.isAgg33) rfl ?_
  refine TrQ.q (QS.neq32 rfl rfl) rfl ?_
  refine TrQ.q (QS.move rfl) rfl ?_
  apply TrQ.andP
  · exact (rfl : _ = (4, 10, 14))
  · exact rfl
  · intro hT3; have hT3' := hT3
    try simp only [bs] at hT3'
    refine TrQ.gq rfl rfl hT3 (QS.lW rfl Tryz.isAgg35 Tryz.sizeOf35) rfl ?_
    refine TrQ.gq rfl rfl hT3 (QS.call rfl Tryz.call51 (fun w hw => length_isa a w hI)) rfl ?_
    refine TrQ.gq rfl rfl hT3 (QS.gtr rfl rfl) rfl ?_
    refine TrQ.q (QS.pickT rfl hT3 rfl) rfl ?_
    exact TrQ.end (Sub.cons rfl (Sub.dropN 4 (by kernel_rfl) rfl))
  · intro hF3
    refine TrQ.gskip rfl rfl hF3 rfl ?_
    refine TrQ.gskip rfl rfl hF3 rfl ?_
    refine TrQ.gskip rfl rfl hF3 rfl ?_
    refine TrQ.q (QS.pickF rfl hF3 rfl) rfl ?_
    exact TrQ.end (Sub.cons rfl (Sub.dropN 4 (by kernel_rfl) rfl))
  refine TrQ.q (QS.move rfl) rfl ?_
  apply TrQ.andP
  · exact (rfl : _ = (4, 15, 19))
  · exact rfl
  · intro hT4; have hT4' := hT4
    try simp only [bs] at hT4'
    refine TrQ.gq rfl rfl hT4 (QS.lW rfl Tryz.isAgg35 Tryz.sizeOf35) rfl ?_
    refine TrQ.gq rfl rfl hT4 (QS.call rfl Tryz.call51 (fun w hw => length_isa b w hJ)) rfl ?_
    refine TrQ.gq rfl rfl hT4 (QS.gtr rfl rfl) rfl ?_
    refine TrQ.q (QS.pickT rfl hT4 rfl) rfl ?_
    exact TrQ.end (Sub.cons rfl (Sub.dropN 4 (by kernel_rfl) rfl))
  · intro hF4
    refine TrQ.gskip rfl rfl hF4 rfl ?_
    refine TrQ.gskip rfl rfl hF4 rfl ?_
    refine TrQ.gskip rfl rfl hF4 rfl ?_
    refine TrQ.q (QS.pickF rfl hF4 rfl) rfl ?_
    exact TrQ.end (Sub.cons rfl (Sub.dropN 4 (by kernel_rfl) rfl))
  refine TrQ.q (QS.move rfl) rfl ?_
  apply TrQ.andP
  · exact (rfl : _ = (13, 20, 33))
  · exact rfl
  · intro hT5; have hT5' := hT5
    try simp only [bs] at hT5'
    refine TrQ.gq rfl rfl hT5 (QS.fieldAddr (off := 0) (ft := 33) rfl Tryz.underlying35 rfl rfl Tryz.sizeOf33 (by decide)) rfl ?_
    refine TrQ.gq rfl rfl hT5 (QS.lV rfl Tryz.isAgg33) rfl ?_
    refine TrQ.gq rfl rfl hT5 (QS.fieldAddr (off := 0) (ft := 33) rfl Tryz.underlying35 rfl rfl Tryz.sizeOf33 (by decide)) rfl ?_
    refine TrQ.gq rfl rfl hT5 (QS.lV rfl Tryz.isAgg33) rfl ?_
    refine TrQ.gq rfl rfl hT5 (QS.max32 rfl rfl) rfl ?_
    refine TrQ.gq rfl rfl hT5 (QS.cvt32toU rfl Tryz.underlying33 Tryz.underlying81) rfl ?_
    refine TrQ.gq rfl rfl hT5 (QS.lW rfl Tryz.isAgg35 Tryz.sizeOf35) rfl ?_
    refine TrQ.gq rfl rfl hT5 (QS.call rfl Tryz.call58 (fun w hw => end_any a w hI)) rfl ?_
    refine TrQ.gq rfl rfl hT5 (QS.lW rfl Tryz.isAgg35 Tryz.sizeOf35) rfl ?_
    refine TrQ.gq rfl rfl hT5 (QS.call rfl Tryz.call58 (fun w hw => end_any b w hJ)) rfl ?_
    refine TrQ.gq rfl rfl hT5 (QS.min2 rfl rfl) rfl ?_
    refine TrQ.gq rfl rfl hT5 (QS.lss rfl rfl) rfl ?_
    refine TrQ.q (QS.pickT rfl hT5 rfl) rfl ?_
    exact TrQ.end (Sub.cons rfl (Sub.dropN 13 (by kernel_rfl) rfl))
  · intro hF5
    refine TrQ.gskip rfl rfl hF5 rfl ?_
    refine TrQ.gskip rfl rfl hF5 rfl ?_
    refine TrQ.gskip rfl rfl hF5 rfl ?_
    refine TrQ.gskip rfl rfl hF5 rfl ?_
    refine TrQ.gskip rfl rfl hF5 rfl ?_
    refine TrQ.gskip rfl rfl hF5 rfl ?_
    refine TrQ.gskip rfl rfl hF5 rfl ?_
    refine TrQ.gskip rfl rfl hF5 rfl ?_
    refine TrQ.gskip rfl rfl hF5 rfl ?_
    refine TrQ.gskip rfl rfl hF5 rfl ?_
    refine TrQ.gskip rfl rfl hF5 rfl ?_
    refine TrQ.gskip rfl rfl hF5 rfl ?_
    refine TrQ.q (QS.pickF rfl hF5 rfl) rfl ?_
    exact TrQ.end (Sub.cons rfl (Sub.dropN 13 (by kernel_rfl) rfl))
  refine TrQ.q (QS.assign rfl) rfl ?_
  refine TrQ.nil ?_
  refine Tr.thenN ?_
  refine Tr.ret ?_
  refine Tr.ret1 Tryz.results42 rfl (fun w' hw => ?_)
  exact ⟨rfl, hw.below (Bg.le.refl _)⟩
set_option maxRecDepth 100000 in
set_option maxHeartbeats 2000000 in
theorem conflicts1_any (a b : Rng) (w : World) :
    Calls Tryz.prog 53 #[.agg (encRng.enc a).toArray, .agg (encRng.enc b).toArray] w (fun e w' => e = .returned (.int .i64 (cmpPr a b)) ∧ Ext w w') := by
  refine enter Tryz.func53 rfl Tryz.ntmps53 rfl ?_
  refine Tr.seq ?_
  refine Tr.region ?_
  refine Tr.box rfl rfl rfl (fun b1 => ?_)
  refine Tr.box rfl rfl rfl (fun b2 => ?_)
  refine Tr.q (QS.assign rfl) rfl ?_
  refine Tr.nil ?_
  refine Tr.thenN ?_
  refine Tr.seq ?_
  refine Tr.regionT 0 10 HLF.mixed (by kernel_rfl) (panicThen panicBody) ?_
  refine TrQ.pureNil ?_
  refine TrQ.q (QS.idxArr rfl rfl Tryz.underlying58 Tryz.sizeOf33 (by omega)) rfl ?_
  refine TrQ.q (QS.lV rfl Tryz.isAgg33) rfl ?_
  refine TrQ.q (QS.idxArr rfl rfl Tryz.underlying58 Tryz.sizeOf33 (by omega)) rfl ?_
  refine TrQ.q (QS.lV rfl Tryz.isAgg33) rfl ?_
  refine TrQ.q (QS.call rfl Tryz.call45 (fun w hw => cmpU_any a.lo b.lo w)) rfl ?_
  refine TrQ.q (QS.idxArr rfl rfl Tryz.underlying58 Tryz.sizeOf33 (by omega)) rfl ?_
  refine TrQ.q (QS.lV rfl Tryz.isAgg33) rfl ?_
  refine TrQ.q (QS.idxArr rfl rfl Tryz.underlying58 Tryz.sizeOf33 (by omega)) rfl ?_
  refine TrQ.q (QS.lV rfl Tryz.isAgg33) rfl ?_
  refine TrQ.q (QS.call rfl Tryz.call45 (fun w hw => cmpU_any a.hi b.hi w)) rfl ?_
  refine TrQ.nil ?_
  refine Tr.litN (E := encInt) [cmpU a.lo b.lo, cmpU a.hi b.hi] (vs := [(0, _), (1, _)]) rfl rfl Tryz.underlying104 Tryz.sizeOf3 Tryz.zeroValue3 (by rfl) (by rfl) rfl (by first | kernel_rfl | rfl) rfl (fun V3 => ?_)
  refine Tr.q (QS.call rfl Tryz.call54 (fun w hw => or_any [cmpU a.lo b.lo, cmpU a.hi b.hi] _ w (hw.row (.head _)))) rfl ?_
  refine Tr.q (QS.assign rfl) rfl ?_
  refine Tr.nil ?_
  refine Tr.thenN ?_
  refine Tr.ret ?_
  refine Tr.ret1 Tryz.results53 rfl (fun w' hw => ?_)
  exact ⟨by rw [orP2, cmpPr], hw.below (Bg.le.refl _)⟩
set_option maxRecDepth 100000 in
set_option maxHeartbeats 2000000 in
theorem insertionSort_nil_pair (w : World) (g : FuncId) (cb : Array Value) :
    Calls Tryz.prog 105 #[.slice none 0 0, .int .i64 0, .int .i64 0, .func (.func g) #[] cb] w (fun e w' => e = .returned (.tuple #[]) ∧ Ext w w') := by
  refine enter Tryz.func105 rfl Tryz.ntmps105 rfl ?_
  refine Tr.seq ?_
  refine Tr.region ?_
  refine Tr.q (QS.move rfl) rfl ?_
  refine Tr.q (QS.addI rfl rfl (by omega)) rfl ?_
  refine Tr.q (QS.assign rfl) rfl ?_
  refine Tr.nil ?_
  refine Tr.thenN ?_
  refine Tr.block ?_
  refine Tr.loop (ι := Unit) (fun _u => True) (fun _ => _) (fun _u => []) (fun _u => [(8, .int .i64 1)]) (fun _u => 0) () trivial (.cons (by first | rfl | exact lookI rfl (by omega) | exact lookI rfl (by simp) | exact lookB rfl (by simp)) Front.nil) (by repeat' (first | exact Pick.nil _ | exact Del.here _ | apply Pick.cons | apply Del.there)) rfl (fun _u hi m hm => ?_)
  replace hi : True := hi
  replace hm : m = 0 := hm
  change Tr _ _ [] ([(8, .int .i64 1)] ++ _) _
  refine Tr.seq ?_
  refine Tr.seq ?_
  refine Tr.region ?_
  refine Tr.q (QS.move rfl) rfl ?_
  refine Tr.q (QS.move rfl) rfl ?_
  refine Tr.q (QS.lss rfl rfl) rfl ?_
  refine Tr.nil ?_
  refine Tr.thenN ?_
  refine Tr.cond rfl (fun h1 => ?_) (fun h1 => ?_)
  · try simp only [bs] at h1
    first | contradiction | (exfalso; omega) | simp_all
  · try simp only [bs] at h1
    refine Tr.exit ?_
    refine Tr.thenE ?_
    refine Tr.thenE ?_
    refine Tr.inHit ?_
    refine Tr.ret0n Tryz.results105 (fun w' hw => ?_)
    exact ⟨rfl, hw.below (Bg.le.refl _)⟩
set_option maxRecDepth 100000 in
set_option maxHeartbeats 2000000 in
theorem pdqsort_nil_pair (w : World) (g : FuncId) (cb : Array Value) :
    Calls Tryz.prog 83 #[.slice none 0 0, .int .i64 0, .int .i64 0, .int .i64 0, .func (.func g) #[] cb] w (fun e w' => e = .returned (.tuple #[]) ∧ Ext w w') := by
  refine enter Tryz.func83 rfl Tryz.ntmps83 rfl ?_
  refine Tr.seq ?_
  refine Tr.region ?_
  refine Tr.q (QS.assign rfl) rfl ?_
  refine Tr.nil ?_
  refine Tr.thenN ?_
  refine Tr.seq ?_
  refine Tr.region ?_
  refine Tr.q (QS.assign rfl) rfl ?_
  refine Tr.nil ?_
  refine Tr.thenN ?_
  refine Tr.block ?_
  refine Tr.loop (ι := Unit) (fun _u => True) (fun _ => _) (fun _u => []) (fun _u => []) (fun _u => 0) () trivial Front.nil (by repeat' (first | exact Pick.nil _ | exact Del.here _ | apply Pick.cons | apply Del.there)) rfl (fun _u hi m hm => ?_)
  replace hi : True := hi
  replace hm : m = 0 := hm
  change Tr _ _ [] ([] ++ _) _
  refine Tr.block ?_
  refine Tr.seq ?_
  refine Tr.region ?_
  refine Tr.q (QS.move rfl) rfl ?_
  refine Tr.q (QS.move rfl) rfl ?_
  refine Tr.q (QS.subI rfl rfl (by omega)) rfl ?_
  refine Tr.q (QS.assign rfl) rfl ?_
  refine Tr.nil ?_
  refine Tr.thenN ?_
  refine Tr.seq ?_
  refine Tr.seq ?_
  refine Tr.region ?_
  refine Tr.q (QS.move rfl) rfl ?_
  refine Tr.q (QS.leq rfl rfl) rfl ?_
  refine Tr.nil ?_
  refine Tr.thenN ?_
  refine Tr.cond rfl (fun h1 => ?_) (fun h1 => ?_)
  · try simp only [bs] at h1
    refine Tr.seq ?_
    refine Tr.region ?_
    refine Tr.q (QS.move rfl) rfl ?_
    refine Tr.q (QS.move rfl) rfl ?_
    refine Tr.q (QS.move rfl) rfl ?_
    refine Tr.q (QS.move rfl) rfl ?_
    refine Tr.q (QS.call rfl Tryz.call105 (fun w hw => insertionSort_nil_pair w g cb)) rfl ?_
    refine Tr.nil ?_
    refine Tr.thenN ?_
    refine Tr.ret ?_
    refine Tr.thenR ?_
    refine Tr.inR ?_
    refine Tr.thenR ?_
    refine Tr.inR ?_
    refine Tr.ret0 Tryz.results83 (fun w' hw => ?_)
    exact ⟨rfl, hw.below (Bg.le.refl _)⟩
  · try simp only [bs] at h1
    first | contradiction | (exfalso; omega) | simp_all
set_option maxRecDepth 100000 in
set_option maxHeartbeats 2000000 in
theorem sortFunc_nil_pair (w : World) (g : FuncId) (cb : Array Value) :
    Calls Tryz.prog 52 #[.slice none 0 0, .func (.func g) #[] cb] w (fun e w' => e = .returned (.tuple #[]) ∧ Ext w w') := by
  refine enter Tryz.func52 rfl Tryz.ntmps52 rfl ?_
  refine Tr.seq ?_
  refine Tr.region ?_
  refine Tr.q (QS.move rfl) rfl ?_
  refine Tr.q (QS.lenNil rfl Tryz.underlying41) rfl ?_
  refine Tr.q (QS.assign rfl) rfl ?_
  refine Tr.nil ?_
  refine Tr.thenN ?_
  refine Tr.region ?_
  refine Tr.q (QS.move rfl) rfl ?_
  refine Tr.q (QS.move rfl) rfl ?_
  refine Tr.q (QS.move rfl) rfl ?_
  refine Tr.q (QS.cvtIn rfl Tryz.underlying3 Tryz.underlying97 (IntWalk.u64_in _ (by omega))) rfl ?_
  refine Tr.q (QS.call rfl Tryz.call75 (fun w hw => (Go.Proofs.Any.bits_Len (Go.Proofs.SlLaysF0.n15.bits (P := Tryz.prog) (ρ := Tryz.sortPair_ren) { Tryz.sortPair with }) 0 w (by decide) (by decide)).mono (fun e w' h => ⟨h.1, by rw [h.2]; exact Ext.refl _⟩))) rfl ?_
  refine Tr.q (QS.move rfl) rfl ?_
  refine Tr.q (QS.call rfl Tryz.call83 (fun w hw => pdqsort_nil_pair w g cb)) rfl ?_
  refine Tr.nil ?_
  refine Tr.ret0n Tryz.results52 (fun w' hw => ?_)
  exact ⟨rfl, hw.below (Bg.le.refl _)⟩
set_option maxRecDepth 100000 in
set_option maxHeartbeats 2000000 in
theorem insertionSort_nil_ins (w : World) (g : FuncId) (cb : Array Value) :
    Calls Tryz.prog 92 #[.slice none 0 0, .int .i64 0, .int .i64 0, .func (.func g) #[] cb] w (fun e w' => e = .returned (.tuple #[]) ∧ Ext w w') := by
  refine enter Tryz.func92 rfl Tryz.ntmps92 rfl ?_
  refine Tr.seq ?_
  refine Tr.region ?_
  refine Tr.q (QS.move rfl) rfl ?_
  refine Tr.q (QS.addI rfl rfl (by omega)) rfl ?_
  refine Tr.q (QS.assign rfl) rfl ?_
  refine Tr.nil ?_
  refine Tr.thenN ?_
  refine Tr.block ?_
  refine Tr.loop (ι := Unit) (fun _u => True) (fun _ => _) (fun _u => []) (fun _u => [(8, .int .i64 1)]) (fun _u => 0) () trivial (.cons (by first | rfl | exact lookI rfl (by omega) | exact lookI rfl (by simp) | exact lookB rfl (by simp)) Front.nil) (by repeat' (first | exact Pick.nil _ | exact Del.here _ | apply Pick.cons | apply Del.there)) rfl (fun _u hi m hm => ?_)
  replace hi : True := hi
  replace hm : m = 0 := hm
  change Tr _ _ [] ([(8, .int .i64 1)] ++ _) _
  refine Tr.seq ?_
  refine Tr.seq ?_
  refine Tr.region ?_
  refine Tr.q (QS.move rfl) rfl ?_
  refine Tr.q (QS.move rfl) rfl ?_
  refine Tr.q (QS.lss rfl rfl) rfl ?_
  refine Tr.nil ?_
  refine Tr.thenN ?_
  refine Tr.cond rfl (fun h1 => ?_) (fun h1 => ?_)
  · try simp only [bs] at h1
    first | contradiction | (exfalso; omega) | simp_all
  · try simp only [bs] at h1
    refine Tr.exit ?_
    refine Tr.thenE ?_
    refine Tr.thenE ?_
    refine Tr.inHit ?_
    refine Tr.ret0n Tryz.results92 (fun w' hw => ?_)
    exact ⟨rfl, hw.below (Bg.le.refl _)⟩
set_option maxRecDepth 100000 in
set_option maxHeartbeats 2000000 in
theorem pdqsort_nil_ins (w : World) (g : FuncId) (cb : Array Value) :
    Calls Tryz.prog 74 #[.slice none 0 0, .int .i64 0, .int .i64 0, .int .i64 0, .func (.func g) #[] cb] w (fun e w' => e = .returned (.tuple #[]) ∧ Ext w w') := by
  refine enter Tryz.func74 rfl Tryz.ntmps74 rfl ?_
  refine Tr.seq ?_
  refine Tr.region ?_
  refine Tr.q (QS.assign rfl) rfl ?_
  refine Tr.nil ?_
  refine Tr.thenN ?_
  refine Tr.seq ?_
  refine Tr.region ?_
  refine Tr.q (QS.assign rfl) rfl ?_
  refine Tr.nil ?_
  refine Tr.thenN ?_
  refine Tr.block ?_
  refine Tr.loop (ι := Unit) (fun _u => True) (fun _ => _) (fun _u => []) (fun _u => []) (fun _u => 0) () trivial Front.nil (by repeat' (first | exact Pick.nil _ | exact Del.here _ | apply Pick.cons | apply Del.there)) rfl (fun _u hi m hm => ?_)
  replace hi : True := hi
  replace hm : m = 0 := hm
  change Tr _ _ [] ([] ++ _) _
  refine Tr.block ?_
  refine Tr.seq ?_
  refine Tr.region ?_
  refine Tr.q (QS.move rfl) rfl ?_
  refine Tr.q (QS.move rfl) rfl ?_
  refine Tr.q (QS.subI rfl rfl (by omega)) rfl ?_
  refine Tr.q (QS.assign rfl) rfl ?_
  refine Tr.nil ?_
  refine Tr.thenN ?_
  refine Tr.seq ?_
  refine Tr.seq ?_
  refine Tr.region ?_
  refine Tr.q (QS.move rfl) rfl ?_
  refine Tr.q (QS.leq rfl rfl) rfl ?_
  refine Tr.nil ?_
  refine Tr.thenN ?_
  refine Tr.cond rfl (fun h1 => ?_) (fun h1 => ?_)
  · try simp only [bs] at h1
    refine Tr.seq ?_
    refine Tr.region ?_
    refine Tr.q (QS.move rfl) rfl ?_
    refine Tr.q (QS.move rfl) rfl ?_
    refine Tr.q (QS.move rfl) rfl ?_
    refine Tr.q (QS.move rfl) rfl ?_
    refine Tr.q (QS.call rfl Tryz.call92 (fun w hw => insertionSort_nil_ins w g cb)) rfl ?_
    refine Tr.nil ?_
    refine Tr.thenN ?_
    refine Tr.ret ?_
    refine Tr.thenR ?_
    refine Tr.inR ?_
    refine Tr.thenR ?_
    refine Tr.inR ?_
    refine Tr.ret0 Tryz.results74 (fun w' hw => ?_)
    exact ⟨rfl, hw.below (Bg.le.refl _)⟩
  · try simp only [bs] at h1
    first | contradiction | (exfalso; omega) | simp_all
set_option maxRecDepth 100000 in
set_option maxHeartbeats 2000000 in
theorem sortFunc_nil_ins (w : World) (g : FuncId) (cb : Array Value) :
    Calls Tryz.prog 43 #[.slice none 0 0, .func (.func g) #[] cb] w (fun e w' => e = .returned (.tuple #[]) ∧ Ext w w') := by
  refine enter Tryz.func43 rfl Tryz.ntmps43 rfl ?_
  refine Tr.seq ?_
  refine Tr.region ?_
  refine Tr.q (QS.move rfl) rfl ?_
  refine Tr.q (QS.lenNil rfl Tryz.underlying22) rfl ?_
  refine Tr.q (QS.assign rfl) rfl ?_
  refine Tr.nil ?_
  refine Tr.thenN ?_
  refine Tr.region ?_
  refine Tr.q (QS.move rfl) rfl ?_
  refine Tr.q (QS.move rfl) rfl ?_
  refine Tr.q (QS.move rfl) rfl ?_
  refine Tr.q (QS.cvtIn rfl Tryz.underlying3 Tryz.underlying97 (IntWalk.u64_in _ (by omega))) rfl ?_
  refine Tr.q (QS.call rfl Tryz.call75 (fun w hw => (Go.Proofs.Any.bits_Len (Go.Proofs.SlLaysF0.n15.bits (P := Tryz.prog) (ρ := Tryz.sortIns_ren) { Tryz.sortIns with }) 0 w (by decide) (by decide)).mono (fun e w' h => ⟨h.1, by rw [h.2]; exact Ext.refl _⟩))) rfl ?_
  refine Tr.q (QS.move rfl) rfl ?_
  refine Tr.q (QS.call rfl Tryz.call74 (fun w hw => pdqsort_nil_ins w g cb)) rfl ?_
  refine Tr.nil ?_
  refine Tr.ret0n Tryz.results43 (fun w' hw => ?_)
  exact ⟨rfl, hw.below (Bg.le.refl _)⟩
set_option maxRecDepth 100000 in
set_option maxHeartbeats 4000000 in
theorem compact_pair (l : List Rng) (V : Value) (w : World) (hr : (rowE V 58 encRng l).holds w) (hl : l.length ≤ 1000000) :
    Calls Tryz.prog 55 #[V] w (fun e w' => ∃ V', e = .returned V' ∧ V'.ownBlock = V.ownBlock ∧ Mut w w' V ∧ (rowE V' 58 encRng (compactP l)).holds w') := by
  refine enterOwn (l := l) (E := encRng) (T := 58) hr Tryz.func55 rfl Tryz.ntmps55 rfl ?_
  refine Tr.seq ?_
  refine Tr.region ?_
  refine Tr.q (QS.assign rfl) rfl ?_
  refine Tr.nil ?_
  refine Tr.thenN ?_
  refine Tr.seq ?_
  refine Tr.seq ?_
  refine Tr.region ?_
  refine Tr.q (QS.move rfl) rfl ?_
  refine Tr.q (QS.lenRow rfl (by repeat (first | exact List.Mem.head _ | apply List.Mem.tail)) Tryz.underlying41) rfl ?_
  refine Tr.q (QS.lss rfl rfl) rfl ?_
  refine Tr.nil ?_
  refine Tr.thenN ?_
  refine Tr.cond rfl (fun h1 => ?_) (fun h1 => ?_)
  · try simp only [bs] at h1
    refine Tr.seq ?_
    refine Tr.region ?_
    refine Tr.q (QS.move rfl) rfl ?_
    refine Tr.q (QS.assign rfl) rfl ?_
    refine Tr.nil ?_
    refine Tr.thenN ?_
    refine Tr.ret ?_
    refine Tr.thenR ?_
    refine Tr.ret1 Tryz.results55 rfl (fun w' hw => ?_)
    have e : compactP l = l := by rw [← List.take_length (l := l)]; exact compact_same (Nat.le_refl _) (fun j a b => by omega)
    exact ⟨_, rfl, rfl, (HpOK.mutOwn hw (.head _) rfl).1, by rw [e]; exact (HpOK.mutOwn hw (.head _) rfl).2⟩
  · try simp only [bs] at h1
    refine Tr.skip ?_
    refine Tr.thenN ?_
    refine Tr.seq ?_
    refine Tr.seq ?_
    refine Tr.region ?_
    refine Tr.q (QS.assign rfl) rfl ?_
    refine Tr.nil ?_
    refine Tr.thenN ?_
    refine Tr.block ?_
    refine Tr.loop (ι := Nat) (fun k => 1 ≤ k ∧ k ≤ l.length ∧ ∀ j, 0 < j → j < k → l.getD j default ≠ l.getD (j - 1) default) (fun _ => _) (fun k => [rowE V 58 encRng l]) (fun k => [(3, .int .i64 (k : Nat))]) (fun k => l.length - k) 1 ⟨Nat.le_refl _, by omega, fun j a b => by omega⟩ (.cons (by first | rfl | exact lookI rfl (by omega) | exact lookI rfl (by simp) | exact lookB rfl (by simp)) Front.nil) (by repeat' (first | exact Pick.nil _ | exact Del.here _ | apply Pick.cons | apply Del.there)) rfl (fun k hi m hm => ?_)
    replace hi : 1 ≤ k ∧ k ≤ l.length ∧ ∀ j, 0 < j → j < k → l.getD j default ≠ l.getD (j - 1) default := hi
    replace hm : m = l.length - k := hm
    change Tr _ _ [rowE V 58 encRng l] ([(3, .int .i64 (k : Nat))] ++ _) _
    obtain ⟨hk1, hk2, hk3⟩ := hi
    have hj : ((k : Int) - 1).toNat = k - 1 := by omega
    refine Tr.seq ?_
    refine Tr.seq ?_
    refine Tr.region ?_
    refine Tr.q (QS.move rfl) rfl ?_
    refine Tr.q (QS.move rfl) rfl ?_
    refine Tr.q (QS.lenRow rfl (by repeat (first | exact List.Mem.head _ | apply List.Mem.tail)) Tryz.underlying41) rfl ?_
    refine Tr.q (QS.lss rfl rfl) rfl ?_
    refine Tr.nil ?_
    refine Tr.thenN ?_
    refine Tr.cond rfl (fun h2 => ?_) (fun h2 => ?_)
    · try simp only [bs] at h2
      refine Tr.skip ?_
      refine Tr.thenN ?_
      refine Tr.seq ?_
      refine Tr.block ?_
      refine Tr.seq ?_
      refine Tr.regionQ HLF.mixed (by kernel_rfl) ?_
      refine TrQ.q (QS.move rfl) rfl ?_
      refine TrQ.q (QS.move rfl) rfl ?_
      refine TrQ.q (QS.idxRowN rfl rfl (by repeat (first | exact List.Mem.head _ | apply List.Mem.tail)) Tryz.underlying41 Tryz.sizeOf58 (by rfl) (by omega)) rfl ?_
      refine TrQ.q (QS.elRA rfl (by repeat (first | exact List.Mem.head _ | apply List.Mem.tail)) Tryz.isAgg58 Tryz.sizeOf58 (by rfl) (by omega)) rfl ?_
      refine TrQ.q (QS.move rfl) rfl ?_
      refine TrQ.q (QS.move rfl) rfl ?_
      refine TrQ.q (QS.subI rfl rfl (by omega)) rfl ?_
      refine TrQ.q (QS.idxRow rfl rfl (by repeat (first | exact List.Mem.head _ | apply List.Mem.tail)) Tryz.underlying41 Tryz.sizeOf58 (by rfl) (by omega)) rfl ?_
      refine TrQ.q (QS.elRA rfl (by repeat (first | exact List.Mem.head _ | apply List.Mem.tail)) Tryz.isAgg58 Tryz.sizeOf58 (by rfl) (by omega)) rfl ?_
      refine TrQ.q (QS.eqlP rfl rfl Tryz.underlying58 Tryz.underlying33 Tryz.sizeOf33 Tryz.isAgg33 HLF.eqg58) rfl ?_
      refine TrQ.nil ?_
      refine Tr.thenN ?_
      refine Tr.cond rfl (fun h3 => ?_) (fun h3 => ?_)
      · try simp only [bs] at h3
        refine Tr.seq ?_
        refine Tr.region ?_
        refine Tr.q (QS.move rfl) rfl ?_
        refine Tr.q (QS.move rfl) rfl ?_
        refine Tr.q (QS.sliceFrom rfl (by repeat (first | exact List.Mem.head _ | apply List.Mem.tail)) rfl Tryz.underlying41 Tryz.sizeOf58 rfl (by omega)) rfl ?_
        refine Tr.q (QS.assign rfl) rfl ?_
        refine Tr.nil ?_
        refine Tr.thenN ?_
        refine Tr.seq ?_
        refine Tr.seq ?_
        refine Tr.region ?_
        refine Tr.q (QS.assign rfl) rfl ?_
        refine Tr.nil ?_
        refine Tr.thenN ?_
        refine Tr.block ?_
        refine Tr.loop (ι := Nat × Nat × List Rng) (fun ⟨wi, k2, cur⟩ => (1 ≤ k2 ∧ k + k2 ≤ l.length ∧ wi < k + k2) ∧ cur.length = l.length ∧ cur.take wi = compactP (l.take (k + k2)) ∧ ∀ j, k + k2 - 1 ≤ j → cur.getD j default = l.getD j default) (fun _ => _) (fun ⟨wi, k2, cur⟩ => [rowE V 58 encRng cur]) (fun ⟨wi, k2, cur⟩ => [(3, .int .i64 (wi : Nat)), (5, .int .i64 (k2 : Nat))]) (fun ⟨wi, k2, cur⟩ => l.length - (k + k2)) (k, 1, l) ⟨⟨Nat.le_refl _, by omega, by omega⟩, rfl, by rw [compact_snoc (by omega) (by omega), if_pos (by rw [← hj]; assumption), compact_same (by omega) hk3], fun j _ => rfl⟩ (.cons (by first | rfl | exact lookI rfl (by omega) | exact lookI rfl (by simp) | exact lookB rfl (by simp)) (.cons (by first | rfl | exact lookI rfl (by omega) | exact lookI rfl (by simp) | exact lookB rfl (by simp)) Front.nil)) (by repeat' (first | exact Pick.nil _ | exact Del.here _ | apply Pick.cons | apply Del.there)) rfl (fun i hi m hm => ?_)
        obtain ⟨wi, k2, cur⟩ := i
        replace hi : (1 ≤ k2 ∧ k + k2 ≤ l.length ∧ wi < k + k2) ∧ cur.length = l.length ∧ cur.take wi = compactP (l.take (k + k2)) ∧ ∀ j, k + k2 - 1 ≤ j → cur.getD j default = l.getD j default := hi
        replace hm : m = l.length - (k + k2) := hm
        change Tr _ _ [rowE V 58 encRng cur] ([(3, .int .i64 (wi : Nat)), (5, .int .i64 (k2 : Nat))] ++ _) _
        obtain ⟨⟨hq1, hq2, hq3⟩, hq4, hq5, hq6⟩ := hi
        have hA := hq6 (k + k2) (by omega)
        have hB := hq6 (k + k2 - 1) (by omega)
        have hi1 : k + (k2 : Int).toNat = k + k2 := rfl
        have hi2 : k + ((k2 : Int) - 1).toNat = k + k2 - 1 := by omega
        refine Tr.seq ?_
        refine Tr.seq ?_
        refine Tr.region ?_
        refine Tr.q (QS.move rfl) rfl ?_
        refine Tr.q (QS.move rfl) rfl ?_
        refine Tr.q (QS.lenResl rfl (by repeat (first | exact List.Mem.head _ | apply List.Mem.tail)) Tryz.underlying41) rfl ?_
        refine Tr.q (QS.lss rfl rfl) rfl ?_
        refine Tr.nil ?_
        refine Tr.thenN ?_
        refine Tr.cond rfl (fun h4 => ?_) (fun h4 => ?_)
        · try simp only [bs] at h4
          refine Tr.skip ?_
          refine Tr.thenN ?_
          refine Tr.seq ?_
          refine Tr.block ?_
          refine Tr.seq ?_
          refine Tr.regionQ HLF.mixed (by kernel_rfl) ?_
          refine TrQ.q (QS.move rfl) rfl ?_
          refine TrQ.q (QS.move rfl) rfl ?_
          refine TrQ.q (QS.idxResl rfl rfl (by repeat (first | exact List.Mem.head _ | apply List.Mem.tail)) Tryz.underlying41 Tryz.sizeOf58 rfl (by omega) (by omega)) rfl ?_
          refine TrQ.q (QS.elRA rfl (by repeat (first | exact List.Mem.head _ | apply List.Mem.tail)) Tryz.isAgg58 Tryz.sizeOf58 (by rfl) (by omega)) rfl ?_
          refine TrQ.q (QS.move rfl) rfl ?_
          refine TrQ.q (QS.move rfl) rfl ?_
          refine TrQ.q (QS.subI rfl rfl (by omega)) rfl ?_
          refine TrQ.q (QS.idxResl rfl rfl (by repeat (first | exact List.Mem.head _ | apply List.Mem.tail)) Tryz.underlying41 Tryz.sizeOf58 rfl (by omega) (by omega)) rfl ?_
          refine TrQ.q (QS.elRA rfl (by repeat (first | exact List.Mem.head _ | apply List.Mem.tail)) Tryz.isAgg58 Tryz.sizeOf58 (by rfl) (by omega)) rfl ?_
          refine TrQ.q (QS.neqP rfl rfl Tryz.underlying58 Tryz.underlying33 Tryz.sizeOf33 Tryz.isAgg33 HLF.eqg58) rfl ?_
          refine TrQ.nil ?_
          refine Tr.thenN ?_
          refine Tr.cond rfl (fun h5 => ?_) (fun h5 => ?_)
          · try simp only [bs] at h5
            refine Tr.seq ?_
            refine Tr.region ?_
            refine Tr.q (QS.move rfl) rfl ?_
            refine Tr.q (QS.move rfl) rfl ?_
            refine Tr.q (QS.move rfl) rfl ?_
            refine Tr.q (QS.move rfl) rfl ?_
            refine Tr.q (QS.idxResl rfl rfl (by repeat (first | exact List.Mem.head _ | apply List.Mem.tail)) Tryz.underlying41 Tryz.sizeOf58 rfl (by omega) (by omega)) rfl ?_
            refine Tr.q (QS.elRA rfl (by repeat (first | exact List.Mem.head _ | apply List.Mem.tail)) Tryz.isAgg58 Tryz.sizeOf58 (by rfl) (by omega)) rfl ?_
            refine Tr.q (QS.idxRowN rfl rfl (by repeat (first | exact List.Mem.head _ | apply List.Mem.tail)) Tryz.underlying41 Tryz.sizeOf58 (by rfl) (by omega)) rfl ?_
            refine Tr.storeEl (l := cur) (i := wi) (cur.getD (k + (k2 : Int).toNat) default) rfl rfl Tryz.sizeOf58 (by repeat (first | exact Put.here _ | apply Put.there)) (by (try simp only [List.length_set]); omega) (by rfl) rfl ?_
            have hls6 : (List.set cur (wi) (cur.getD (k + (k2 : Int).toNat) default)).length = (cur).length := List.length_set
            refine Tr.nil ?_
            refine Tr.thenN ?_
            refine Tr.region ?_
            refine Tr.q (QS.move rfl) rfl ?_
            refine Tr.q (QS.addI rfl rfl (by omega)) rfl ?_
            refine Tr.q (QS.assign rfl) rfl ?_
            refine Tr.nil ?_
            refine Tr.inN ?_
            refine Tr.thenN ?_
            refine Tr.region ?_
            refine Tr.q (QS.move rfl) rfl ?_
            refine Tr.q (QS.addI rfl rfl (by omega)) rfl ?_
            refine Tr.q (QS.assign rfl) rfl ?_
            refine Tr.nil ?_
            refine Tr.thenN ?_
            rw [hi1, hi2, hA, hB] at h5
            have hcs := compact_snoc (l := l) (k := k + k2) (by omega) (by omega)
            rw [if_neg h5, ← hq5] at hcs
            have hcm : (cur.set wi (cur.getD (k + (k2 : Int).toNat) default)).take (wi + 1) = compactP (l.take (k + (k2 + 1))) := by
              rw [show k + (k2 + 1) = k + k2 + 1 by omega, hcs, take_succ (by rw [List.length_set]; omega), hi1, hA]
              congr 1
              · rw [List.take_set_of_le (Nat.le_refl _)]
              · simp [List.getD_eq_getElem?_getD, show wi < cur.length by omega]
            apply Tr.again (wi + 1, k2 + 1, cur.set wi (cur.getD (k + (k2 : Int).toNat) default))
            · exact rfl
            · exact (.cons (by first | rfl | exact lookI rfl (by omega) | exact lookI rfl (by simp) | exact lookB rfl (by simp)) (.cons (by first | rfl | exact lookI rfl (by omega) | exact lookI rfl (by simp) | exact lookB rfl (by simp)) Front.nil))
            · exact SubX.dropN 29 (by kernel_rfl) rfl
            · exact (by repeat' (first | exact Pick.nil _ | exact Del.here _ | apply Pick.cons | apply Del.there))
            · exact ⟨⟨by omega, by omega, by omega⟩, by rw [List.length_set]; exact hq4, hcm, fun j a => by rw [List.getD_eq_getElem?_getD, List.getElem?_set_ne (by omega), ← List.getD_eq_getElem?_getD]; exact hq6 j (by omega)⟩
            · exact (by (try dsimp only); omega)
          · try simp only [bs] at h5
            refine Tr.skip ?_
            refine Tr.inN ?_
            refine Tr.thenN ?_
            refine Tr.region ?_
            refine Tr.q (QS.move rfl) rfl ?_
            refine Tr.q (QS.addI rfl rfl (by omega)) rfl ?_
            refine Tr.q (QS.assign rfl) rfl ?_
            refine Tr.nil ?_
            refine Tr.thenN ?_
            rw [hi1, hi2, hA, hB] at h5
            have hcs := compact_snoc (l := l) (k := k + k2) (by omega) (by omega)
            rw [if_pos h5, ← hq5] at hcs
            apply Tr.again (wi, k2 + 1, cur)
            · exact rfl
            · exact (.cons (by first | rfl | exact lookI rfl (by omega) | exact lookI rfl (by simp) | exact lookB rfl (by simp)) (.cons (by first | rfl | exact lookI rfl (by omega) | exact lookI rfl (by simp) | exact lookB rfl (by simp)) Front.nil))
            · exact SubX.dropN 19 (by kernel_rfl) rfl
            · exact (by repeat' (first | exact Pick.nil _ | exact Del.here _ | apply Pick.cons | apply Del.there))
            · exact ⟨⟨by omega, by omega, by omega⟩, hq4, by rw [show k + (k2 + 1) = k + k2 + 1 by omega, hcs], fun j a => hq6 j (by omega)⟩
            · exact (by (try dsimp only); omega)
        · try simp only [bs] at h4
          refine Tr.exit ?_
          refine Tr.thenE ?_
          refine Tr.thenE ?_
          refine Tr.inHit ?_
          refine Tr.thenN ?_
          refine Tr.seq ?_
          refine Tr.region ?_
          refine Tr.q (QS.move rfl) rfl ?_
          refine Tr.q (QS.move rfl) rfl ?_
          refine Tr.q (QS.sliceFrom rfl (by repeat (first | exact List.Mem.head _ | apply List.Mem.tail)) rfl Tryz.underlying41 Tryz.sizeOf58 rfl (by omega)) rfl ?_
          refine Tr.clearResl ⟨0, 0⟩ rfl (by repeat (first | exact Put.here _ | apply Put.there)) (by omega) Tryz.underlying41 Tryz.zeroValue58 rfl rfl rfl ?_
          refine Tr.nil ?_
          refine Tr.thenN ?_
          refine Tr.seq ?_
          refine Tr.region ?_
          refine Tr.q (QS.move rfl) rfl ?_
          refine Tr.q (QS.move rfl) rfl ?_
          refine Tr.q (QS.sliceTo rfl (by repeat (first | exact List.Mem.head _ | apply List.Mem.tail)) rfl Tryz.underlying41 Tryz.sizeOf58 rfl (by rw [List.length_append, List.length_take]; omega)) rfl ?_
          refine Tr.q (QS.assign rfl) rfl ?_
          refine Tr.nil ?_
          refine Tr.thenN ?_
          refine Tr.ret ?_
          refine Tr.inR ?_
          refine Tr.thenR ?_
          refine Tr.thenR ?_
          refine Tr.inR ?_
          refine Tr.thenR ?_
          refine Tr.ret1 Tryz.results55 rfl (fun w' hw => ?_)
          have hkn : k + k2 = l.length := by omega
          rw [hkn, List.take_length] at hq5
          have hm := HpOK.mutOwn hw (.head _) rfl
          have hh := rowE.resl0 (hw.ent _ (.head _)) (k := wi) (by rw [List.length_append, List.length_take]; omega)
          have e : (cur.take wi ++ List.replicate (cur.length - wi) (⟨0, 0⟩ : Rng)).take wi = compactP l := by rw [← hq5, List.take_append_of_le_length (by rw [List.length_take]; omega), List.take_take, Nat.min_self]
          exact ⟨_, rfl, hh.2, hm.1, by rw [← e]; exact hh.1⟩
      · try simp only [bs] at h3
        refine Tr.skip ?_
        refine Tr.inN ?_
        refine Tr.thenN ?_
        refine Tr.region ?_
        refine Tr.q (QS.move rfl) rfl ?_
        refine Tr.q (QS.addI rfl rfl (by omega)) rfl ?_
        refine Tr.q (QS.assign rfl) rfl ?_
        refine Tr.nil ?_
        refine Tr.thenN ?_
        have hk4 : ∀ j, 0 < j → j < k + 1 → l.getD j default ≠ l.getD (j - 1) default := fun j a b => by
          by_cases c : j = k
          · subst c; rw [← hj]; assumption
          · exact hk3 j a (by omega)
        apply Tr.again (k + 1)
        · exact rfl
        · exact (.cons (by first | rfl | exact lookI rfl (by omega) | exact lookI rfl (by simp) | exact lookB rfl (by simp)) Front.nil)
        · exact SubX.dropN 18 (by kernel_rfl) rfl
        · exact (by repeat' (first | exact Pick.nil _ | exact Del.here _ | apply Pick.cons | apply Del.there))
        · exact ⟨by omega, by omega, hk4⟩
        · exact (by (try dsimp only); omega)
    · try simp only [bs] at h2
      refine Tr.exit ?_
      refine Tr.thenE ?_
      refine Tr.thenE ?_
      refine Tr.inHit ?_
      refine Tr.thenN ?_
      refine Tr.seq ?_
      refine Tr.region ?_
      refine Tr.q (QS.move rfl) rfl ?_
      refine Tr.q (QS.assign rfl) rfl ?_
      refine Tr.nil ?_
      refine Tr.thenN ?_
      refine Tr.ret ?_
      refine Tr.ret1 Tryz.results55 rfl (fun w' hw => ?_)
      have e : compactP l = l := by rw [← List.take_length (l := l)]; exact compact_same (Nat.le_refl _) (fun j a b => hk3 j a (by omega))
      exact ⟨_, rfl, rfl, (HpOK.mutOwn hw (.head _) rfl).1, by rw [e]; exact (HpOK.mutOwn hw (.head _) rfl).2⟩
set_option maxRecDepth 100000 in
set_option maxHeartbeats 4000000 in
theorem conflicts_any (l : List Ins) (V : Value) (w : World) (hV : Sl (hp w) encIns l V) (hI : ∀ x ∈ l, InsOK x) (h40 : l.length ≤ 200) :
    Calls Tryz.prog 20 #[V] w (fun e w' => ∃ V', e = .returned V' ∧ Ext w w' ∧ NewRow w w' 58 encRng (confP l) V') := by
  have hV' : Sl (Bg.of w).blk encIns l V := hV
  refine enter Tryz.func20 rfl Tryz.ntmps20 rfl ?_
  refine Tr.seq ?_
  refine Tr.region ?_
  refine Tr.q (QS.assign rfl) rfl ?_
  refine Tr.nil ?_
  refine Tr.thenN ?_
  refine Tr.seq ?_
  refine Tr.region ?_
  refine Tr.q (QS.assign rfl) rfl ?_
  refine Tr.nil ?_
  refine Tr.thenN ?_
  refine Tr.seq ?_
  refine Tr.seq ?_
  refine Tr.region ?_
  refine Tr.q (QS.move rfl) rfl ?_
  refine Tr.q (QS.len rfl (by assumption) Tryz.underlying22) rfl ?_
  refine Tr.q (QS.move rfl) rfl ?_
  refine Tr.nil ?_
  refine Tr.thenN ?_
  refine Tr.block ?_
  refine Tr.ownNil 58 encRng ?_
  refine Tr.loop (ι := Nat × Value) (fun ⟨k, V'⟩ => k ≤ l.length) (fun _ => _) (fun ⟨k, V'⟩ => [rowE V' 58 encRng (outer pairR l k)]) (fun ⟨k, V'⟩ => [(10, .int .i64 (k : Nat)), (3, V')]) (fun ⟨k, V'⟩ => l.length - k) (0, _) (Nat.zero_le _) (.cons (by first | rfl | exact lookI rfl (by omega) | exact lookI rfl (by simp) | exact lookB rfl (by simp)) (.cons (by first | rfl | exact lookI rfl (by omega) | exact lookI rfl (by simp) | exact lookB rfl (by simp)) Front.nil)) (by repeat' (first | exact Pick.nil _ | exact Del.here _ | apply Pick.cons | apply Del.there)) rfl (fun i hi m hm => ?_)
  obtain ⟨k, V'⟩ := i
  replace hi : k ≤ l.length := hi
  replace hm : m = l.length - k := hm
  change Tr _ _ [rowE V' 58 encRng (outer pairR l k)] ([(10, .int .i64 (k : Nat)), (3, V')] ++ _) _
  have hoL := outer_le (f := pairR) h40 (k := k) hi
  refine Tr.seq ?_
  refine Tr.region ?_
  refine Tr.q (QS.lss rfl rfl) rfl ?_
  refine Tr.nil ?_
  refine Tr.thenN ?_
  refine Tr.seq ?_
  refine Tr.cond rfl (fun h1 => ?_) (fun h1 => ?_)
  · try simp only [bs] at h1
    refine Tr.skip ?_
    refine Tr.thenN ?_
    refine Tr.seq ?_
    refine Tr.block ?_
    refine Tr.seq ?_
    refine Tr.region ?_
    refine Tr.q (QS.move rfl) rfl ?_
    refine Tr.q (QS.idxN rfl rfl (by assumption) Tryz.underlying22 Tryz.sizeOf35 (by rfl) (by omega)) rfl ?_
    refine Tr.q (QS.elA rfl (by assumption) Tryz.isAgg35 Tryz.sizeOf35 (by rfl) (by omega)) rfl ?_
    refine Tr.alloc Tryz.zeroValue35 rfl rfl (fun b2 => ?_)
    refine Tr.q (QS.assign rfl) rfl ?_
    refine Tr.storeW rfl rfl Tryz.sizeOf35 (by repeat (first | exact Put.here _ | apply Put.there)) (by rfl) (by rfl) (by first | exact List.all_eq_true.1 rfl | exact Enc.one _ _ | exact Enc.one encIns _) rfl ?_
    refine Tr.nil ?_
    refine Tr.thenN ?_
    refine Tr.seq ?_
    obtain ⟨xs, hxs⟩ : ∃ xs, xs = l.take k := ⟨_, rfl⟩
    have hXs : Sl (Bg.of w).blk encIns xs (HL.resl V 0 k encIns.k) := by
      have q := Sl.resl hV' (l := 0) (h := k) (by omega) (by omega)
      rw [List.drop_zero] at q
      rw [hxs]; exact q
    have hxl : xs.length = k := by rw [hxs, List.length_take]; omega
    have hxI : ∀ j, j < xs.length → InsOK (xs.getD j default) := fun j hj => by
      have q : xs.getD j default ∈ l.take k := by rw [← hxs]; exact mem_getD hj
      exact hI _ (List.mem_of_mem_take q)
    have haI : InsOK (l.getD k default) := hI _ (mem_getD (by omega))
    refine Tr.region ?_
    refine Tr.q (QS.move rfl) rfl ?_
    refine Tr.q (QS.move rfl) rfl ?_
    refine Tr.q (QS.slice (lv := none) (hv := some (_, _)) rfl (by assumption) rfl rfl Tryz.underlying22 Tryz.sizeOf35 (by rfl) (by simp only [loOf, hiOf] <;> first | omega | assumption | (simp only [NatCast.natCast, Int.ofNat_eq_natCast]; omega)) (by simp only [loOf, hiOf] <;> first | omega | assumption | (simp only [NatCast.natCast, Int.ofNat_eq_natCast]; omega)) (by simp only [loOf, hiOf] <;> first | omega | assumption | (simp only [NatCast.natCast, Int.ofNat_eq_natCast]; omega))) rfl ?_
    refine Tr.q (QS.len rfl (by assumption) Tryz.underlying22) rfl ?_
    refine Tr.q (QS.move rfl) rfl ?_
    refine Tr.nil ?_
    refine Tr.thenN ?_
    refine Tr.block ?_
    have e0 : outer pairR l k ++ inner pairR (l.getD k default) (xs.take 0) = outer pairR l k := by simp [inner]
    rw [← e0]
    refine Tr.loop (ι := Nat × Value) (fun ⟨j, V2⟩ => j ≤ xs.length) (fun _ => _) (fun ⟨j, V2⟩ => [rowE V2 58 encRng (outer pairR l k ++ inner pairR (l.getD k default) (xs.take j)), cellE b2 (encIns.enc (l.getD k default)) 35]) (fun ⟨j, V2⟩ => [(19, .int .i64 (j : Nat)), (3, V2)]) (fun ⟨j, V2⟩ => xs.length - j) (0, _) (Nat.zero_le _) (.cons (by first | rfl | exact lookI rfl (by omega) | exact lookI rfl (by simp) | exact lookB rfl (by simp)) (.cons (by first | rfl | exact lookI rfl (by omega) | exact lookI rfl (by simp) | exact lookB rfl (by simp)) Front.nil)) (by repeat' (first | exact Pick.nil _ | exact Del.here _ | apply Pick.cons | apply Del.there)) rfl (fun i hi m hm => ?_)
    obtain ⟨j, V2⟩ := i
    replace hi : j ≤ xs.length := hi
    replace hm : m = xs.length - j := hm
    change Tr _ _ [rowE V2 58 encRng (outer pairR l k ++ inner pairR (l.getD k default) (xs.take j)), cellE b2 (encIns.enc (l.getD k default)) 35] ([(19, .int .i64 (j : Nat)), (3, V2)] ++ _) _
    have hin := inner_len pairR (l.getD k default) (xs.take j)
    rw [List.length_take] at hin
    have hadr1 := (l.getD k default).addr.toNat_lt
    have hadr2 := (xs.getD j default).addr.toNat_lt
    have her1 := endI_rng (l.getD k default)
    have her2 := endI_rng (xs.getD j default)
    refine Tr.seq ?_
    refine Tr.region ?_
    refine Tr.q (QS.lss rfl rfl) rfl ?_
    refine Tr.nil ?_
    refine Tr.thenN ?_
    refine Tr.seq ?_
    refine Tr.cond rfl (fun h3 => ?_) (fun h3 => ?_)
    · try simp only [bs] at h3
      refine Tr.skip ?_
      refine Tr.thenN ?_
      refine Tr.seq ?_
      refine Tr.block ?_
      refine Tr.seq ?_
      refine Tr.region ?_
      refine Tr.q (QS.idxN rfl rfl (by assumption) Tryz.underlying22 Tryz.sizeOf35 (by rfl) (by omega)) rfl ?_
      refine Tr.q (QS.elA rfl (by assumption) Tryz.isAgg35 Tryz.sizeOf35 (by rfl) (by omega)) rfl ?_
      refine Tr.alloc Tryz.zeroValue35 rfl rfl (fun b4 => ?_)
      refine Tr.storeW rfl rfl Tryz.sizeOf35 (by repeat (first | exact Put.here _ | apply Put.there)) (by rfl) (by rfl) (by first | exact List.all_eq_true.1 rfl | exact Enc.one _ _ | exact Enc.one encIns _) rfl ?_
      refine Tr.nil ?_
      refine Tr.thenN ?_
      refine Tr.seq ?_
      refine Tr.region ?_
      refine Tr.q (QS.lW rfl Tryz.isAgg35 Tryz.sizeOf35) rfl ?_
      refine Tr.q (QS.lW rfl Tryz.isAgg35 Tryz.sizeOf35) rfl ?_
      refine Tr.q (QS.call rfl Tryz.call42 (fun w hw => conflict_any (l.getD k default) (xs.getD j default) w haI (hxI j (by omega)))) rfl ?_
      refine Tr.nil ?_
      refine Tr.thenN ?_
      refine Tr.cond rfl (fun h5 => ?_) (fun h5 => ?_)
      · try simp only [bs] at h5
        refine Tr.region ?_
        refine Tr.q (QS.move rfl) rfl ?_
        refine Tr.q (QS.fieldAddr (off := 0) (ft := 33) rfl Tryz.underlying35 rfl rfl Tryz.sizeOf33 (by decide)) rfl ?_
        refine Tr.q (QS.lV rfl Tryz.isAgg33) rfl ?_
        refine Tr.q (QS.fieldAddr (off := 0) (ft := 33) rfl Tryz.underlying35 rfl rfl Tryz.sizeOf33 (by decide)) rfl ?_
        refine Tr.q (QS.lV rfl Tryz.isAgg33) rfl ?_
        refine Tr.q (QS.min32 rfl rfl) rfl ?_
        refine Tr.q (QS.fieldAddr (off := 0) (ft := 33) rfl Tryz.underlying35 rfl rfl Tryz.sizeOf33 (by decide)) rfl ?_
        refine Tr.q (QS.lV rfl Tryz.isAgg33) rfl ?_
        refine Tr.q (QS.fieldAddr (off := 0) (ft := 33) rfl Tryz.underlying35 rfl rfl Tryz.sizeOf33 (by decide)) rfl ?_
        refine Tr.q (QS.lV rfl Tryz.isAgg33) rfl ?_
        refine Tr.q (QS.max32 rfl rfl) rfl ?_
        refine Tr.q (QS.build (vs := [(0, _), (1, _)]) rfl rfl (HLF.built58_0_1 _ _)) rfl ?_
        refine Tr.lit1 (E := encRng) (pairR (l.getD k default) (xs.getD j default)) rfl rfl Tryz.underlying41 Tryz.sizeOf58 Tryz.zeroValue58 (by rfl) (by rfl) rfl (fun V6 => ?_)
        refine Tr.append1 rfl rfl (by repeat (first | exact Del.here _ | apply Del.there)) (by repeat (first | exact Del.here _ | apply Del.there)) Tryz.underlying41 HLF.info58 (by rfl) (by rfl) (by (try simp only [List.length_cons, List.length_nil, List.length_append, List.length_take]); omega) (by unfold maxLen; (try simp only [List.length_cons, List.length_nil, List.length_append, List.length_take]); omega) rfl (fun V7 => ?_)
        refine Tr.q (QS.assign rfl) rfl ?_
        refine Tr.nil ?_
        refine Tr.inN ?_
        refine Tr.thenN ?_
        refine Tr.region ?_
        refine Tr.q (QS.addI rfl rfl (by omega)) rfl ?_
        refine Tr.q (QS.move rfl) rfl ?_
        refine Tr.nil ?_
        refine Tr.thenN ?_
        rw [List.append_assoc, ← inner_yes (by omega) (by assumption)]
        apply Tr.again (j + 1, _)
        · exact rfl
        · exact (.cons (by first | rfl | exact lookI rfl (by omega) | exact lookI rfl (by simp) | exact lookB rfl (by simp)) (.cons (by first | rfl | exact lookI rfl (by omega) | exact lookI rfl (by simp) | exact lookB rfl (by simp)) Front.nil))
        · exact SubX.dropN 26 (by kernel_rfl) rfl
        · exact (by repeat' (first | exact Pick.nil _ | exact Del.here _ | apply Pick.cons | apply Del.there))
        · exact (by show j + 1 ≤ _; omega)
        · exact (by (try dsimp only); omega)
      · try simp only [bs] at h5
        refine Tr.skip ?_
        refine Tr.inN ?_
        refine Tr.thenN ?_
        refine Tr.region ?_
        refine Tr.q (QS.addI rfl rfl (by omega)) rfl ?_
        refine Tr.q (QS.move rfl) rfl ?_
        refine Tr.nil ?_
        refine Tr.thenN ?_
        rw [← inner_no (f := pairR) (a := (l.getD k default)) (by omega) (by assumption)]
        apply Tr.again (j + 1, _)
        · exact rfl
        · exact (.cons (by first | rfl | exact lookI rfl (by omega) | exact lookI rfl (by simp) | exact lookB rfl (by simp)) (.cons (by first | rfl | exact lookI rfl (by omega) | exact lookI rfl (by simp) | exact lookB rfl (by simp)) Front.nil))
        · exact SubX.dropN 11 (by kernel_rfl) rfl
        · exact (by repeat' (first | exact Pick.nil _ | exact Del.here _ | apply Pick.cons | apply Del.there))
        · exact (by show j + 1 ≤ _; omega)
        · exact (by (try dsimp only); omega)
    · try simp only [bs] at h3
      refine Tr.exit ?_
      refine Tr.thenE ?_
      refine Tr.thenE ?_
      refine Tr.inHit ?_
      refine Tr.inN ?_
      refine Tr.thenN ?_
      refine Tr.region ?_
      refine Tr.q (QS.addI rfl rfl (by omega)) rfl ?_
      refine Tr.q (QS.move rfl) rfl ?_
      refine Tr.nil ?_
      refine Tr.thenN ?_
      obtain rfl : j = xs.length := by omega
      rw [List.take_length, hxs, ← outer_succ]
      apply Tr.again (k + 1, _)
      · exact rfl
      · exact (.cons (by first | rfl | exact lookI rfl (by omega) | exact lookI rfl (by simp) | exact lookB rfl (by simp)) (.cons (by first | rfl | exact lookI rfl (by omega) | exact lookI rfl (by simp) | exact lookB rfl (by simp)) Front.nil))
      · exact SubX.dropN 18 (by kernel_rfl) rfl
      · exact (by repeat' (first | exact Pick.nil _ | exact Del.here _ | apply Pick.cons | apply Del.there))
      · exact (by show k + 1 ≤ _; omega)
      · exact (by (try dsimp only); omega)
  · try simp only [bs] at h1
    refine Tr.exit ?_
    refine Tr.thenE ?_
    refine Tr.thenE ?_
    refine Tr.inHit ?_
    refine Tr.thenN ?_
    refine Tr.seq ?_
    obtain rfl : k = l.length := by omega
    have hsl := sortP_length swo_cmpPr (outer pairR l l.length)
    refine Tr.region ?_
    refine Tr.q (QS.move rfl) rfl ?_
    refine Tr.callMut rfl Tryz.call52 (by repeat (first | exact Put.here _ | apply Put.there)) (fun w hw => sortFunc_any Tryz.sortPair encRng 58 Tryz.isAgg58 Tryz.sizeOf58 cmpPr swo_cmpPr 53 [] _ _ w Tryz.call53 (hw.ent _ (.head _)) (by omega) (fun x y w' _ => conflicts1_any x y w') (sortFunc_nil_pair w 53 #[])) rfl ?_
    refine Tr.nil ?_
    refine Tr.thenN ?_
    refine Tr.seq ?_
    refine Tr.region ?_
    refine Tr.q (QS.move rfl) rfl ?_
    refine Tr.callMutRow rfl Tryz.call55 (by repeat (first | exact Del.here _ | apply Del.there)) (fun w hw => compact_pair (sortP (Go.Proofs.ltOf cmpPr) (outer pairR l l.length)) _ w (hw.ent _ (.head _)) (by omega)) rfl (fun V8 hV8 => ?_)
    refine Tr.q (QS.assign rfl) rfl ?_
    refine Tr.nil ?_
    refine Tr.thenN ?_
    refine Tr.ret ?_
    refine Tr.ret1 Tryz.results20 rfl (fun w' hw => ?_)
    exact ⟨_, rfl, hw.below (Bg.le.refl _), hw.new (.head _)⟩
set_option maxRecDepth 100000 in
set_option maxHeartbeats 2000000 in
theorem clean_any (l : List Ins) (V : Value) (w : World) (hV : Sl (hp w) encIns l V) (hI : ∀ x ∈ l, InsOK x) (h40 : l.length ≤ 200) :
    Calls Tryz.prog 14 #[V] w (fun e w' => e = .returned (.bool (decide ((confP l).length = 0))) ∧ Ext w w') := by
  have hV' : Sl (Bg.of w).blk encIns l V := hV
  refine enter Tryz.func14 rfl Tryz.ntmps14 rfl ?_
  refine Tr.seq ?_
  refine Tr.region ?_
  refine Tr.q (QS.assign rfl) rfl ?_
  refine Tr.nil ?_
  refine Tr.thenN ?_
  refine Tr.seq ?_
  refine Tr.region ?_
  refine Tr.q (QS.move rfl) rfl ?_
  refine Tr.callRow rfl Tryz.call20 (fun w hw => conflicts_any l V w (hw.slF hV') hI h40) rfl (fun V1 => ?_)
  refine Tr.q (QS.lenRow rfl (by repeat (first | exact List.Mem.head _ | apply List.Mem.tail)) Tryz.underlying41) rfl ?_
  refine Tr.q (QS.eql rfl rfl) rfl ?_
  refine Tr.q (QS.assign rfl) rfl ?_
  refine Tr.nil ?_
  refine Tr.thenN ?_
  refine Tr.ret ?_
  refine Tr.ret1 Tryz.results14 rfl (fun w' hw => ?_)
  exact ⟨by congr 2; simp, hw.below (Bg.le.refl _)⟩
set_option maxRecDepth 100000 in
set_option maxHeartbeats 4000000 in
theorem shared_any (l : List Ins) (V : Value) (w : World) (hV : Sl (hp w) encIns l V) (hI : ∀ x ∈ l, InsOK x) (h40 : l.length ≤ 200) :
    Calls Tryz.prog 25 #[V] w (fun e w' => ∃ V', e = .returned V' ∧ Ext w w' ∧ NewRow w w' 80 encRng (sharP l) V') := by
  have hV' : Sl (Bg.of w).blk encIns l V := hV
  refine enter Tryz.func25 rfl Tryz.ntmps25 rfl ?_
  refine Tr.seq ?_
  refine Tr.region ?_
  refine Tr.q (QS.assign rfl) rfl ?_
  refine Tr.nil ?_
  refine Tr.thenN ?_
  refine Tr.seq ?_
  refine Tr.region ?_
  refine Tr.q (QS.assign rfl) rfl ?_
  refine Tr.nil ?_
  refine Tr.thenN ?_
  refine Tr.seq ?_
  refine Tr.seq ?_
  refine Tr.region ?_
  refine Tr.q (QS.move rfl) rfl ?_
  refine Tr.q (QS.len rfl (by assumption) Tryz.underlying22) rfl ?_
  refine Tr.q (QS.move rfl) rfl ?_
  refine Tr.nil ?_
  refine Tr.thenN ?_
  refine Tr.block ?_
  refine Tr.ownNil 80 encRng ?_
  refine Tr.loop (ι := Nat × Value) (fun ⟨k, V'⟩ => k ≤ l.length) (fun _ => _) (fun ⟨k, V'⟩ => [rowE V' 80 encRng (outer shareR l k)]) (fun ⟨k, V'⟩ => [(10, .int .i64 (k : Nat)), (3, V')]) (fun ⟨k, V'⟩ => l.length - k) (0, _) (Nat.zero_le _) (.cons (by first | rfl | exact lookI rfl (by omega) | exact lookI rfl (by simp) | exact lookB rfl (by simp)) (.cons (by first | rfl | exact lookI rfl (by omega) | exact lookI rfl (by simp) | exact lookB rfl (by simp)) Front.nil)) (by repeat' (first | exact Pick.nil _ | exact Del.here _ | apply Pick.cons | apply Del.there)) rfl (fun i hi m hm => ?_)
  obtain ⟨k, V'⟩ := i
  replace hi : k ≤ l.length := hi
  replace hm : m = l.length - k := hm
  change Tr _ _ [rowE V' 80 encRng (outer shareR l k)] ([(10, .int .i64 (k : Nat)), (3, V')] ++ _) _
  have hoL := outer_le (f := shareR) h40 (k := k) hi
  refine Tr.seq ?_
  refine Tr.region ?_
  refine Tr.q (QS.lss rfl rfl) rfl ?_
  refine Tr.nil ?_
  refine Tr.thenN ?_
  refine Tr.seq ?_
  refine Tr.cond rfl (fun h1 => ?_) (fun h1 => ?_)
  · try simp only [bs] at h1
    refine Tr.skip ?_
    refine Tr.thenN ?_
    refine Tr.seq ?_
    refine Tr.block ?_
    refine Tr.seq ?_
    refine Tr.region ?_
    refine Tr.q (QS.move rfl) rfl ?_
    refine Tr.q (QS.idxN rfl rfl (by assumption) Tryz.underlying22 Tryz.sizeOf35 (by rfl) (by omega)) rfl ?_
    refine Tr.q (QS.elA rfl (by assumption) Tryz.isAgg35 Tryz.sizeOf35 (by rfl) (by omega)) rfl ?_
    refine Tr.alloc Tryz.zeroValue35 rfl rfl (fun b2 => ?_)
    refine Tr.q (QS.assign rfl) rfl ?_
    refine Tr.storeW rfl rfl Tryz.sizeOf35 (by repeat (first | exact Put.here _ | apply Put.there)) (by rfl) (by rfl) (by first | exact List.all_eq_true.1 rfl | exact Enc.one _ _ | exact Enc.one encIns _) rfl ?_
    refine Tr.nil ?_
    refine Tr.thenN ?_
    refine Tr.seq ?_
    obtain ⟨xs, hxs⟩ : ∃ xs, xs = l.take k := ⟨_, rfl⟩
    have hXs : Sl (Bg.of w).blk encIns xs (HL.resl V 0 k encIns.k) := by
      have q := Sl.resl hV' (l := 0) (h := k) (by omega) (by omega)
      rw [List.drop_zero] at q
      rw [hxs]; exact q
    have hxl : xs.length = k := by rw [hxs, List.length_take]; omega
    have hxI : ∀ j, j < xs.length → InsOK (xs.getD j default) := fun j hj => by
      have q : xs.getD j default ∈ l.take k := by rw [← hxs]; exact mem_getD hj
      exact hI _ (List.mem_of_mem_take q)
    have haI : InsOK (l.getD k default) := hI _ (mem_getD (by omega))
    refine Tr.region ?_
    refine Tr.q (QS.move rfl) rfl ?_
    refine Tr.q (QS.move rfl) rfl ?_
    refine Tr.q (QS.slice (lv := none) (hv := some (_, _)) rfl (by assumption) rfl rfl Tryz.underlying22 Tryz.sizeOf35 (by rfl) (by simp only [loOf, hiOf] <;> first | omega | assumption | (simp only [NatCast.natCast, Int.ofNat_eq_natCast]; omega)) (by simp only [loOf, hiOf] <;> first | omega | assumption | (simp only [NatCast.natCast, Int.ofNat_eq_natCast]; omega)) (by simp only [loOf, hiOf] <;> first | omega | assumption | (simp only [NatCast.natCast, Int.ofNat_eq_natCast]; omega))) rfl ?_
    refine Tr.q (QS.len rfl (by assumption) Tryz.underlying22) rfl ?_
    refine Tr.q (QS.move rfl) rfl ?_
    refine Tr.nil ?_
    refine Tr.thenN ?_
    refine Tr.block ?_
    have e0 : outer shareR l k ++ inner shareR (l.getD k default) (xs.take 0) = outer shareR l k := by simp [inner]
    rw [← e0]
    refine Tr.loop (ι := Nat × Value) (fun ⟨j, V2⟩ => j ≤ xs.length) (fun _ => _) (fun ⟨j, V2⟩ => [rowE V2 80 encRng (outer shareR l k ++ inner shareR (l.getD k default) (xs.take j)), cellE b2 (encIns.enc (l.getD k default)) 35]) (fun ⟨j, V2⟩ => [(19, .int .i64 (j : Nat)), (3, V2)]) (fun ⟨j, V2⟩ => xs.length - j) (0, _) (Nat.zero_le _) (.cons (by first | rfl | exact lookI rfl (by omega) | exact lookI rfl (by simp) | exact lookB rfl (by simp)) (.cons (by first | rfl | exact lookI rfl (by omega) | exact lookI rfl (by simp) | exact lookB rfl (by simp)) Front.nil)) (by repeat' (first | exact Pick.nil _ | exact Del.here _ | apply Pick.cons | apply Del.there)) rfl (fun i hi m hm => ?_)
    obtain ⟨j, V2⟩ := i
    replace hi : j ≤ xs.length := hi
    replace hm : m = xs.length - j := hm
    change Tr _ _ [rowE V2 80 encRng (outer shareR l k ++ inner shareR (l.getD k default) (xs.take j)), cellE b2 (encIns.enc (l.getD k default)) 35] ([(19, .int .i64 (j : Nat)), (3, V2)] ++ _) _
    have hin := inner_len shareR (l.getD k default) (xs.take j)
    rw [List.length_take] at hin
    have hadr1 := (l.getD k default).addr.toNat_lt
    have hadr2 := (xs.getD j default).addr.toNat_lt
    have her1 := endI_rng (l.getD k default)
    have her2 := endI_rng (xs.getD j default)
    refine Tr.seq ?_
    refine Tr.region ?_
    refine Tr.q (QS.lss rfl rfl) rfl ?_
    refine Tr.nil ?_
    refine Tr.thenN ?_
    refine Tr.seq ?_
    refine Tr.cond rfl (fun h3 => ?_) (fun h3 => ?_)
    · try simp only [bs] at h3
      refine Tr.skip ?_
      refine Tr.thenN ?_
      refine Tr.seq ?_
      refine Tr.block ?_
      refine Tr.seq ?_
      refine Tr.region ?_
      refine Tr.q (QS.idxN rfl rfl (by assumption) Tryz.underlying22 Tryz.sizeOf35 (by rfl) (by omega)) rfl ?_
      refine Tr.q (QS.elA rfl (by assumption) Tryz.isAgg35 Tryz.sizeOf35 (by rfl) (by omega)) rfl ?_
      refine Tr.alloc Tryz.zeroValue35 rfl rfl (fun b4 => ?_)
      refine Tr.storeW rfl rfl Tryz.sizeOf35 (by repeat (first | exact Put.here _ | apply Put.there)) (by rfl) (by rfl) (by first | exact List.all_eq_true.1 rfl | exact Enc.one _ _ | exact Enc.one encIns _) rfl ?_
      refine Tr.nil ?_
      refine Tr.thenN ?_
      refine Tr.seq ?_
      refine Tr.region ?_
      refine Tr.q (QS.lW rfl Tryz.isAgg35 Tryz.sizeOf35) rfl ?_
      refine Tr.q (QS.lW rfl Tryz.isAgg35 Tryz.sizeOf35) rfl ?_
      refine Tr.q (QS.call rfl Tryz.call42 (fun w hw => conflict_any (l.getD k default) (xs.getD j default) w haI (hxI j (by omega)))) rfl ?_
      refine Tr.nil ?_
      refine Tr.thenN ?_
      refine Tr.cond rfl (fun h5 => ?_) (fun h5 => ?_)
      · try simp only [bs] at h5
        refine Tr.regionT 1 13 HLF.mixed (by kernel_rfl) (panicIn (panicThen (panicThen (panicIn (panicIn (panicThen (panicThen (panicIn (panicThen panicBody))))))))) ?_
        refine TrQ.pureMove rfl rfl ?_
        refine TrQ.pureNil ?_
        refine TrQ.q (QS.fieldAddr (off := 0) (ft := 33) rfl Tryz.underlying35 rfl rfl Tryz.sizeOf33 (by decide)) rfl ?_
        refine TrQ.q (QS.lV rfl Tryz.isAgg33) rfl ?_
        refine TrQ.q (QS.fieldAddr (off := 0) (ft := 33) rfl Tryz.underlying35 rfl rfl Tryz.sizeOf33 (by decide)) rfl ?_
        refine TrQ.q (QS.lV rfl Tryz.isAgg33) rfl ?_
        refine TrQ.q (QS.max32 rfl rfl) rfl ?_
        refine TrQ.q (QS.lW rfl Tryz.isAgg35 Tryz.sizeOf35) rfl ?_
        refine TrQ.q (QS.call rfl Tryz.call58 (fun w hw => end_any (l.getD k default) w haI)) rfl ?_
        refine TrQ.q (QS.lW rfl Tryz.isAgg35 Tryz.sizeOf35) rfl ?_
        refine TrQ.q (QS.call rfl Tryz.call58 (fun w hw => end_any (xs.getD j default) w (hxI j (by omega)))) rfl ?_
        refine TrQ.q (QS.min3 rfl rfl rfl) rfl ?_
        refine TrQ.q (QS.cvtTo32 rfl Tryz.underlying81 Tryz.underlying33) rfl ?_
        refine TrQ.q (QS.build (vs := [(0, _), (1, _)]) rfl rfl (HLF.built80_0_1 _ _)) rfl ?_
        refine TrQ.nil ?_
        refine Tr.lit1 (E := encRng) (shareR (l.getD k default) (xs.getD j default)) rfl rfl Tryz.underlying47 Tryz.sizeOf80 Tryz.zeroValue80 (by rfl) (by rfl) rfl (fun V6 => ?_)
        refine Tr.append1 rfl rfl (by repeat (first | exact Del.here _ | apply Del.there)) (by repeat (first | exact Del.here _ | apply Del.there)) Tryz.underlying47 HLF.info80 (by rfl) (by rfl) (by (try simp only [List.length_cons, List.length_nil, List.length_append, List.length_take]); omega) (by unfold maxLen; (try simp only [List.length_cons, List.length_nil, List.length_append, List.length_take]); omega) rfl (fun V7 => ?_)
        refine Tr.q (QS.assign rfl) rfl ?_
        refine Tr.nil ?_
        refine Tr.inN ?_
        refine Tr.thenN ?_
        refine Tr.region ?_
        refine Tr.q (QS.addI rfl rfl (by omega)) rfl ?_
        refine Tr.q (QS.move rfl) rfl ?_
        refine Tr.nil ?_
        refine Tr.thenN ?_
        rw [List.append_assoc, ← inner_yes (by omega) (by assumption)]
        apply Tr.again (j + 1, _)
        · exact rfl
        · exact (.cons (by first | rfl | exact lookI rfl (by omega) | exact lookI rfl (by simp) | exact lookB rfl (by simp)) (.cons (by first | rfl | exact lookI rfl (by omega) | exact lookI rfl (by simp) | exact lookB rfl (by simp)) Front.nil))
        · exact SubX.dropN 27 (by kernel_rfl) rfl
        · exact (by repeat' (first | exact Pick.nil _ | exact Del.here _ | apply Pick.cons | apply Del.there))
        · exact (by show j + 1 ≤ _; omega)
        · exact (by (try dsimp only); omega)
      · try simp only [bs] at h5
        refine Tr.skip ?_
        refine Tr.inN ?_
        refine Tr.thenN ?_
        refine Tr.region ?_
        refine Tr.q (QS.addI rfl rfl (by omega)) rfl ?_
        refine Tr.q (QS.move rfl) rfl ?_
        refine Tr.nil ?_
        refine Tr.thenN ?_
        rw [← inner_no (f := shareR) (a := (l.getD k default)) (by omega) (by assumption)]
        apply Tr.again (j + 1, _)
        · exact rfl
        · exact (.cons (by first | rfl | exact lookI rfl (by omega) | exact lookI rfl (by simp) | exact lookB rfl (by simp)) (.cons (by first | rfl | exact lookI rfl (by omega) | exact lookI rfl (by simp) | exact lookB rfl (by simp)) Front.nil))
        · exact SubX.dropN 11 (by kernel_rfl) rfl
        · exact (by repeat' (first | exact Pick.nil _ | exact Del.here _ | apply Pick.cons | apply Del.there))
        · exact (by show j + 1 ≤ _; omega)
        · exact (by (try dsimp only); omega)
    · try simp only [bs] at h3
      refine Tr.exit ?_
      refine Tr.thenE ?_
      refine Tr.thenE ?_
      refine Tr.inHit ?_
      refine Tr.inN ?_
      refine Tr.thenN ?_
      refine Tr.region ?_
      refine Tr.q (QS.addI rfl rfl (by omega)) rfl ?_
      refine Tr.q (QS.move rfl) rfl ?_
      refine Tr.nil ?_
      refine Tr.thenN ?_
      obtain rfl : j = xs.length := by omega
      rw [List.take_length, hxs, ← outer_succ]
      apply Tr.again (k + 1, _)
      · exact rfl
      · exact (.cons (by first | rfl | exact lookI rfl (by omega) | exact lookI rfl (by simp) | exact lookB rfl (by simp)) (.cons (by first | rfl | exact lookI rfl (by omega) | exact lookI rfl (by simp) | exact lookB rfl (by simp)) Front.nil))
      · exact SubX.dropN 18 (by kernel_rfl) rfl
      · exact (by repeat' (first | exact Pick.nil _ | exact Del.here _ | apply Pick.cons | apply Del.there))
      · exact (by show k + 1 ≤ _; omega)
      · exact (by (try dsimp only); omega)
  · try simp only [bs] at h1
    refine Tr.exit ?_
    refine Tr.thenE ?_
    refine Tr.thenE ?_
    refine Tr.inHit ?_
    refine Tr.thenN ?_
    refine Tr.seq ?_
    obtain rfl : k = l.length := by omega
    refine Tr.region ?_
    refine Tr.q (QS.move rfl) rfl ?_
    refine Tr.callRow rfl Tryz.call59 (fun w hw => normal_any (outer shareR l l.length) _ w (hw.row (.head _)) (by omega)) rfl (fun V8 => ?_)
    refine Tr.q (QS.assign rfl) rfl ?_
    refine Tr.nil ?_
    refine Tr.thenN ?_
    refine Tr.ret ?_
    refine Tr.ret1 Tryz.results25 rfl (fun w' hw => ?_)
    exact ⟨_, rfl, hw.below (Bg.le.refl _), hw.new (.head _)⟩
set_option maxRecDepth 100000 in
set_option maxHeartbeats 2000000 in
theorem counting1_any (a b : Ins) (w : World) :
    Calls Tryz.prog 69 #[.agg (encIns.enc a).toArray, .agg (encIns.enc b).toArray] w (fun e w' => e = .returned (.int .i64 (cmpA a b)) ∧ Ext w w') := by
  refine enter Tryz.func69 rfl Tryz.ntmps69 rfl ?_
  refine Tr.seq ?_
  refine Tr.region ?_
  refine Tr.box rfl rfl rfl (fun b1 => ?_)
  refine Tr.box rfl rfl rfl (fun b2 => ?_)
  refine Tr.q (QS.assign rfl) rfl ?_
  refine Tr.nil ?_
  refine Tr.thenN ?_
  refine Tr.seq ?_
  refine Tr.region ?_
  refine Tr.q (QS.fieldAddr (off := 0) (ft := 33) rfl Tryz.underlying35 rfl rfl Tryz.sizeOf33 (by decide)) rfl ?_
  refine Tr.q (QS.lV rfl Tryz.isAgg33) rfl ?_
  refine Tr.q (QS.fieldAddr (off := 0) (ft := 33) rfl Tryz.underlying35 rfl rfl Tryz.sizeOf33 (by decide)) rfl ?_
  refine Tr.q (QS.lV rfl Tryz.isAgg33) rfl ?_
  refine Tr.q (QS.call rfl Tryz.call45 (fun w hw => cmpU_any a.addr b.addr w)) rfl ?_
  refine Tr.q (QS.assign rfl) rfl ?_
  refine Tr.nil ?_
  refine Tr.thenN ?_
  refine Tr.ret ?_
  refine Tr.ret1 Tryz.results69 rfl (fun w' hw => ?_)
  exact ⟨rfl, hw.below (Bg.le.refl _)⟩
set_option maxRecDepth 100000 in
set_option maxHeartbeats 2000000 in
theorem resolve3_any (a b : Ins) (w : World) :
    Calls Tryz.prog 44 #[.agg (encIns.enc a).toArray, .agg (encIns.enc b).toArray] w (fun e w' => e = .returned (.int .i64 (cmpA a b)) ∧ Ext w w') := by
  refine enter Tryz.func44 rfl Tryz.ntmps44 rfl ?_
  refine Tr.seq ?_
  refine Tr.region ?_
  refine Tr.box rfl rfl rfl (fun b1 => ?_)
  refine Tr.box rfl rfl rfl (fun b2 => ?_)
  refine Tr.q (QS.assign rfl) rfl ?_
  refine Tr.nil ?_
  refine Tr.thenN ?_
  refine Tr.seq ?_
  refine Tr.region ?_
  refine Tr.q (QS.fieldAddr (off := 0) (ft := 33) rfl Tryz.underlying35 rfl rfl Tryz.sizeOf33 (by decide)) rfl ?_
  refine Tr.q (QS.lV rfl Tryz.isAgg33) rfl ?_
  refine Tr.q (QS.fieldAddr (off := 0) (ft := 33) rfl Tryz.underlying35 rfl rfl Tryz.sizeOf33 (by decide)) rfl ?_
  refine Tr.q (QS.lV rfl Tryz.isAgg33) rfl ?_
  refine Tr.q (QS.call rfl Tryz.call45 (fun w hw => cmpU_any a.addr b.addr w)) rfl ?_
  refine Tr.q (QS.assign rfl) rfl ?_
  refine Tr.nil ?_
  refine Tr.thenN ?_
  refine Tr.ret ?_
  refine Tr.ret1 Tryz.results44 rfl (fun w' hw => ?_)
  exact ⟨rfl, hw.below (Bg.le.refl _)⟩
set_option maxRecDepth 100000 in
set_option maxHeartbeats 2000000 in
theorem counting_any (l : List Ins) (V : Value) (w : World) (hV : Sl (hp w) encIns l V) (hI : ∀ x ∈ l, InsOK x) (h40 : l.length ≤ 200) :
    Calls Tryz.prog 34 #[V] w (fun e w' => ∃ V', e = .returned V' ∧ Ext w w' ∧ NewRow w w' 35 encIns (countP l) V') := by
  have hV' : Sl (Bg.of w).blk encIns l V := hV
  refine enter Tryz.func34 rfl Tryz.ntmps34 rfl ?_
  refine Tr.seq ?_
  refine Tr.region ?_
  refine Tr.q (QS.assign rfl) rfl ?_
  refine Tr.nil ?_
  refine Tr.thenN ?_
  refine Tr.seq ?_
  refine Tr.region ?_
  refine Tr.makeMap boolV rfl (fun b1 => ?_)
  refine Tr.q (QS.assign rfl) rfl ?_
  refine Tr.nil ?_
  refine Tr.thenN ?_
  refine Tr.seq ?_
  refine Tr.region ?_
  refine Tr.q (QS.assign rfl) rfl ?_
  refine Tr.nil ?_
  refine Tr.thenN ?_
  refine Tr.seq ?_
  refine Tr.seq ?_
  refine Tr.region ?_
  refine Tr.q (QS.move rfl) rfl ?_
  refine Tr.q (QS.len rfl (by assumption) Tryz.underlying22) rfl ?_
  refine Tr.q (QS.move rfl) rfl ?_
  refine Tr.nil ?_
  refine Tr.thenN ?_
  refine Tr.block ?_
  refine Tr.ownNil 35 encIns ?_
  refine Tr.loop (ι := Nat × Value) (fun ⟨k, V'⟩ => k ≤ l.length) (fun _ => _) (fun ⟨k, V'⟩ => [rowE V' 35 encIns (cntL (l.take k)), mapE b1 boolV (cntM (cntL (l.take k)))]) (fun ⟨k, V'⟩ => [(10, .int .i64 (k : Nat)), (4, V')]) (fun ⟨k, V'⟩ => l.length - k) (0, _) (Nat.zero_le _) (.cons (by first | rfl | exact lookI rfl (by omega) | exact lookI rfl (by simp) | exact lookB rfl (by simp)) (.cons (by first | rfl | exact lookI rfl (by omega) | exact lookI rfl (by simp) | exact lookB rfl (by simp)) Front.nil)) (by repeat' (first | exact Pick.nil _ | exact Del.here _ | apply Pick.cons | apply Del.there)) rfl (fun i hi m hm => ?_)
  obtain ⟨k, V'⟩ := i
  replace hi : k ≤ l.length := hi
  replace hm : m = l.length - k := hm
  change Tr _ _ [rowE V' 35 encIns (cntL (l.take k)), mapE b1 boolV (cntM (cntL (l.take k)))] ([(10, .int .i64 (k : Nat)), (4, V')] ++ _) _
  have hcl := cntL_len (l.take k)
  rw [List.length_take] at hcl
  have hIk : k < l.length → InsOK (l.getD k default) := fun q => hI _ (mem_getD q)
  refine Tr.seq ?_
  refine Tr.region ?_
  refine Tr.q (QS.lss rfl rfl) rfl ?_
  refine Tr.nil ?_
  refine Tr.thenN ?_
  refine Tr.seq ?_
  refine Tr.cond rfl (fun h2 => ?_) (fun h2 => ?_)
  · try simp only [bs] at h2
    refine Tr.skip ?_
    refine Tr.thenN ?_
    refine Tr.seq ?_
    refine Tr.block ?_
    refine Tr.seq ?_
    refine Tr.region ?_
    refine Tr.q (QS.idxN rfl rfl (by assumption) Tryz.underlying22 Tryz.sizeOf35 (by rfl) (by omega)) rfl ?_
    refine Tr.q (QS.elA rfl (by assumption) Tryz.isAgg35 Tryz.sizeOf35 (by rfl) (by omega)) rfl ?_
    refine Tr.alloc Tryz.zeroValue35 rfl rfl (fun b3 => ?_)
    refine Tr.storeW rfl rfl Tryz.sizeOf35 (by repeat (first | exact Put.here _ | apply Put.there)) (by rfl) (by rfl) (by first | exact List.all_eq_true.1 rfl | exact Enc.one _ _ | exact Enc.one encIns _) rfl ?_
    refine Tr.nil ?_
    refine Tr.thenN ?_
    refine Tr.seq ?_
    refine Tr.region ?_
    refine Tr.q (QS.move rfl) rfl ?_
    refine Tr.q (QS.fieldAddr (off := 0) (ft := 33) rfl Tryz.underlying35 rfl rfl Tryz.sizeOf33 (by decide)) rfl ?_
    refine Tr.q (QS.lV rfl Tryz.isAgg33) rfl ?_
    refine Tr.q (QS.lookT rfl rfl (by repeat (first | exact List.Mem.head _ | apply List.Mem.tail)) Tryz.underlying62 Tryz.underlying33 Tryz.zeroValue4) rfl ?_
    rw [cntM_get]
    refine Tr.q (QS.not rfl) rfl ?_
    refine Tr.q (QS.move rfl) rfl ?_
    apply Tr.andP
    · exact (rfl : _ = (3, 19, 22))
    · exact rfl
    · intro hT4; have hT4' := hT4
      try simp only [bs] at hT4'
      refine Tr.gq rfl rfl hT4 (QS.lW rfl Tryz.isAgg35 Tryz.sizeOf35) rfl ?_
      refine Tr.gq rfl rfl hT4 (QS.call rfl Tryz.call15 (fun w hw => valid_isa (l.getD k default) w (hIk (by omega)))) rfl ?_
      refine Tr.q (QS.pickT rfl hT4 rfl) rfl ?_
      refine Tr.nil (Tr.thenN ?_)
      exact Tr.endX (Sub.cons rfl (Sub.dropN 3 (by kernel_rfl) rfl))
    · intro hF4
      refine Tr.gskip rfl rfl hF4 rfl ?_
      refine Tr.gskip rfl rfl hF4 rfl ?_
      refine Tr.q (QS.pickF rfl hF4 rfl) rfl ?_
      refine Tr.nil (Tr.thenN ?_)
      exact Tr.endX (Sub.cons rfl (Sub.dropN 3 (by kernel_rfl) rfl))
    refine Tr.nil ?_
    refine Tr.thenN ?_
    refine Tr.cond rfl (fun h5 => ?_) (fun h5 => ?_)
    · try simp only [bs] at h5
      refine Tr.seq ?_
      refine Tr.region ?_
      refine Tr.q (QS.move rfl) rfl ?_
      refine Tr.q (QS.lW rfl Tryz.isAgg35 Tryz.sizeOf35) rfl ?_
      refine Tr.lit1 (E := encIns) _ rfl rfl Tryz.underlying22 Tryz.sizeOf35 Tryz.zeroValue35 (by rfl) (by rfl) rfl (fun V6 => ?_)
      refine Tr.append1 rfl rfl (by repeat (first | exact Del.here _ | apply Del.there)) (by repeat (first | exact Del.here _ | apply Del.there)) Tryz.underlying22 HLF.info35 (by rfl) (by rfl) (by (try simp only [List.length_cons, List.length_nil, List.length_append, List.length_take]); omega) (by unfold maxLen; (try simp only [List.length_cons, List.length_nil, List.length_append, List.length_take]); omega) rfl (fun V7 => ?_)
      refine Tr.q (QS.assign rfl) rfl ?_
      refine Tr.nil ?_
      refine Tr.thenN ?_
      refine Tr.region ?_
      refine Tr.q (QS.move rfl) rfl ?_
      refine Tr.q (QS.fieldAddr (off := 0) (ft := 33) rfl Tryz.underlying35 rfl rfl Tryz.sizeOf33 (by decide)) rfl ?_
      refine Tr.q (QS.lV rfl Tryz.isAgg33) rfl ?_
      refine Tr.mapUpdate _ rfl rfl rfl (by repeat (first | exact Put.here _ | apply Put.there)) Tryz.underlying62 Tryz.underlying33 rfl ?_
      refine Tr.nil ?_
      refine Tr.inN ?_
      refine Tr.thenN ?_
      refine Tr.region ?_
      refine Tr.q (QS.addI rfl rfl (by omega)) rfl ?_
      refine Tr.q (QS.move rfl) rfl ?_
      refine Tr.nil ?_
      refine Tr.thenN ?_
      have hst := cnt_succ (l := l) (k := k) (by omega)
      rw [cntStep, if_pos (by simp only [Bool.and_eq_true, Bool.not_eq_true', decide_eq_true_eq]; assumption)] at hst
      rw [cntM_put (by simp_all), ← hst]
      apply Tr.again (k + 1, _)
      · exact rfl
      · exact (.cons (by first | rfl | exact lookI rfl (by omega) | exact lookI rfl (by simp) | exact lookB rfl (by simp)) (.cons (by first | rfl | exact lookI rfl (by omega) | exact lookI rfl (by simp) | exact lookB rfl (by simp)) Front.nil))
      · exact SubX.dropN 23 (by kernel_rfl) rfl
      · exact (by repeat' (first | exact Pick.nil _ | exact Del.here _ | apply Pick.cons | apply Del.there))
      · exact (by show k + 1 ≤ _; omega)
      · exact (by (try dsimp only); omega)
    · try simp only [bs] at h5
      refine Tr.skip ?_
      refine Tr.inN ?_
      refine Tr.thenN ?_
      refine Tr.region ?_
      refine Tr.q (QS.addI rfl rfl (by omega)) rfl ?_
      refine Tr.q (QS.move rfl) rfl ?_
      refine Tr.nil ?_
      refine Tr.thenN ?_
      have hst := cnt_succ (l := l) (k := k) (by omega)
      rw [cntStep, if_neg (by rw [Bool.and_eq_true, Bool.not_eq_true', decide_eq_true_eq]; rintro ⟨q1, q2⟩; rcases h5 with q | q; (· rw [q1] at q; cases q); (· exact q q2))] at hst
      rw [← hst]
      apply Tr.again (k + 1, _)
      · exact rfl
      · exact (.cons (by first | rfl | exact lookI rfl (by omega) | exact lookI rfl (by simp) | exact lookB rfl (by simp)) (.cons (by first | rfl | exact lookI rfl (by omega) | exact lookI rfl (by simp) | exact lookB rfl (by simp)) Front.nil))
      · exact SubX.dropN 15 (by kernel_rfl) rfl
      · exact (by repeat' (first | exact Pick.nil _ | exact Del.here _ | apply Pick.cons | apply Del.there))
      · exact (by show k + 1 ≤ _; omega)
      · exact (by (try dsimp only); omega)
  · try simp only [bs] at h2
    refine Tr.exit ?_
    refine Tr.thenE ?_
    refine Tr.thenE ?_
    refine Tr.inHit ?_
    refine Tr.thenN ?_
    refine Tr.seq ?_
    obtain rfl : k = l.length := by omega
    rw [List.take_length] at *
    refine Tr.region ?_
    refine Tr.q (QS.move rfl) rfl ?_
    refine Tr.callMut rfl Tryz.call43 (by repeat (first | exact Put.here _ | apply Put.there)) (fun w hw => sortFunc_any Tryz.sortIns encIns 35 Tryz.isAgg35 Tryz.sizeOf35 cmpA swo_cmpA 69 [] _ _ w Tryz.call69 (hw.ent _ (.head _)) (by omega) (fun x y w' _ => counting1_any x y w') (sortFunc_nil_ins w 69 #[])) rfl ?_
    refine Tr.nil ?_
    refine Tr.thenN ?_
    refine Tr.seq ?_
    refine Tr.region ?_
    refine Tr.q (QS.move rfl) rfl ?_
    refine Tr.q (QS.assign rfl) rfl ?_
    refine Tr.nil ?_
    refine Tr.thenN ?_
    refine Tr.ret ?_
    refine Tr.ret1 Tryz.results34 rfl (fun w' hw => ?_)
    exact ⟨_, rfl, hw.below (Bg.le.refl _), hw.new (.head _)⟩
set_option maxRecDepth 100000 in
set_option maxHeartbeats 2000000 in
theorem targets_any (l : List Ins) (V : Value) (w : World) (hV : Sl (hp w) encIns l V) (hI : ∀ x ∈ l, InsOK x) (h40 : l.length ≤ 200) :
    Calls Tryz.prog 35 #[V] w (fun e w' => ∃ b, e = .returned (.map (some b)) ∧ Ext w w' ∧ NewEnts w w' [mapE b boolV (tgtM l)]) := by
  have hV' : Sl (Bg.of w).blk encIns l V := hV
  refine enter Tryz.func35 rfl Tryz.ntmps35 rfl ?_
  refine Tr.seq ?_
  refine Tr.region ?_
  refine Tr.q (QS.assign rfl) rfl ?_
  refine Tr.nil ?_
  refine Tr.thenN ?_
  refine Tr.seq ?_
  refine Tr.region ?_
  refine Tr.makeMap boolV rfl (fun b1 => ?_)
  refine Tr.q (QS.assign rfl) rfl ?_
  refine Tr.nil ?_
  refine Tr.thenN ?_
  refine Tr.seq ?_
  refine Tr.seq ?_
  refine Tr.region ?_
  refine Tr.q (QS.move rfl) rfl ?_
  refine Tr.q (QS.len rfl (by assumption) Tryz.underlying22) rfl ?_
  refine Tr.q (QS.move rfl) rfl ?_
  refine Tr.nil ?_
  refine Tr.thenN ?_
  refine Tr.block ?_
  refine Tr.loop (ι := Nat) (fun k => k ≤ l.length) (fun _ => _) (fun k => [mapE b1 boolV (tgtM (l.take k))]) (fun k => [(11, .int .i64 (k : Nat))]) (fun k => l.length - k) 0 (Nat.zero_le _) (.cons (by first | rfl | exact lookI rfl (by omega) | exact lookI rfl (by simp) | exact lookB rfl (by simp)) Front.nil) (by repeat' (first | exact Pick.nil _ | exact Del.here _ | apply Pick.cons | apply Del.there)) rfl (fun k hi m hm => ?_)
  replace hi : k ≤ l.length := hi
  replace hm : m = l.length - k := hm
  change Tr _ _ [mapE b1 boolV (tgtM (l.take k))] ([(11, .int .i64 (k : Nat))] ++ _) _
  refine Tr.seq ?_
  refine Tr.region ?_
  refine Tr.q (QS.lss rfl rfl) rfl ?_
  refine Tr.nil ?_
  refine Tr.thenN ?_
  refine Tr.seq ?_
  refine Tr.cond rfl (fun h2 => ?_) (fun h2 => ?_)
  · try simp only [bs] at h2
    refine Tr.skip ?_
    refine Tr.thenN ?_
    refine Tr.seq ?_
    refine Tr.block ?_
    refine Tr.seq ?_
    refine Tr.region ?_
    refine Tr.q (QS.idxN rfl rfl (by assumption) Tryz.underlying22 Tryz.sizeOf35 (by rfl) (by omega)) rfl ?_
    refine Tr.q (QS.elA rfl (by assumption) Tryz.isAgg35 Tryz.sizeOf35 (by rfl) (by omega)) rfl ?_
    refine Tr.alloc Tryz.zeroValue35 rfl rfl (fun b3 => ?_)
    refine Tr.storeW rfl rfl Tryz.sizeOf35 (by repeat (first | exact Put.here _ | apply Put.there)) (by rfl) (by rfl) (by first | exact List.all_eq_true.1 rfl | exact Enc.one _ _ | exact Enc.one encIns _) rfl ?_
    refine Tr.nil ?_
    refine Tr.thenN ?_
    refine Tr.seq ?_
    refine Tr.region ?_
    refine Tr.q (QS.lW rfl Tryz.isAgg35 Tryz.sizeOf35) rfl ?_
    refine Tr.q (QS.call rfl Tryz.call70 (fun w hw => target_isa (l.getD k default) w)) rfl ?_
    refine Tr.q (QS.move rfl) rfl ?_
    refine Tr.q (QS.extract rfl rfl) rfl ?_
    refine Tr.q (QS.extract rfl rfl) rfl ?_
    refine Tr.q (QS.assign rfl) rfl ?_
    refine Tr.q (QS.assign rfl) rfl ?_
    refine Tr.nil ?_
    refine Tr.thenN ?_
    refine Tr.seq ?_
    refine Tr.region ?_
    refine Tr.q (QS.move rfl) rfl ?_
    refine Tr.nil ?_
    refine Tr.thenN ?_
    refine Tr.cond rfl (fun h4 => ?_) (fun h4 => ?_)
    · try simp only [bs] at h4
      refine Tr.region ?_
      refine Tr.q (QS.move rfl) rfl ?_
      refine Tr.q (QS.move rfl) rfl ?_
      refine Tr.mapUpdate _ rfl rfl rfl (by repeat (first | exact Put.here _ | apply Put.there)) Tryz.underlying62 Tryz.underlying33 rfl ?_
      refine Tr.nil ?_
      refine Tr.inN ?_
      refine Tr.thenN ?_
      refine Tr.region ?_
      refine Tr.q (QS.addI rfl rfl (by omega)) rfl ?_
      refine Tr.q (QS.move rfl) rfl ?_
      refine Tr.nil ?_
      refine Tr.thenN ?_
      have hst := tgt_succ (l := l) (k := k) (by omega)
      rw [tgtStep, if_pos (by assumption)] at hst
      rw [← hst]
      apply Tr.again (k + 1)
      · exact rfl
      · exact (.cons (by first | rfl | exact lookI rfl (by omega) | exact lookI rfl (by simp) | exact lookB rfl (by simp)) Front.nil)
      · exact SubX.dropN 17 (by kernel_rfl) rfl
      · exact (by repeat' (first | exact Pick.nil _ | exact Del.here _ | apply Pick.cons | apply Del.there))
      · exact (by show k + 1 ≤ _; omega)
      · exact (by (try dsimp only); omega)
    · try simp only [bs] at h4
      refine Tr.skip ?_
      refine Tr.inN ?_
      refine Tr.thenN ?_
      refine Tr.region ?_
      refine Tr.q (QS.addI rfl rfl (by omega)) rfl ?_
      refine Tr.q (QS.move rfl) rfl ?_
      refine Tr.nil ?_
      refine Tr.thenN ?_
      have hst := tgt_succ (l := l) (k := k) (by omega)
      rw [tgtStep, if_neg (by simp_all)] at hst
      rw [← hst]
      apply Tr.again (k + 1)
      · exact rfl
      · exact (.cons (by first | rfl | exact lookI rfl (by omega) | exact lookI rfl (by simp) | exact lookB rfl (by simp)) Front.nil)
      · exact SubX.dropN 15 (by kernel_rfl) rfl
      · exact (by repeat' (first | exact Pick.nil _ | exact Del.here _ | apply Pick.cons | apply Del.there))
      · exact (by show k + 1 ≤ _; omega)
      · exact (by (try dsimp only); omega)
  · try simp only [bs] at h2
    refine Tr.exit ?_
    refine Tr.thenE ?_
    refine Tr.thenE ?_
    refine Tr.inHit ?_
    refine Tr.thenN ?_
    refine Tr.seq ?_
    refine Tr.region ?_
    refine Tr.q (QS.move rfl) rfl ?_
    refine Tr.q (QS.assign rfl) rfl ?_
    refine Tr.nil ?_
    refine Tr.thenN ?_
    refine Tr.ret ?_
    refine Tr.ret1 Tryz.results35 rfl (fun w' hw => ?_)
    obtain rfl : k = l.length := by omega
    rw [List.take_length] at hw
    exact ⟨_, rfl, hw.below (Bg.le.refl _), hw.ents (w := w) (Bg.le.refl _) (by repeat' (first | exact Pick.nil _ | exact Del.here _ | apply Pick.cons | apply Del.there))⟩
set_option maxRecDepth 100000 in
set_option maxHeartbeats 2000000 in
theorem resolve1_any (i : Ins) (ents : List UInt32) (tm : List (UInt32 × Bool)) (Vi Ve Vu Vb : Value) (bc bm bmap : Nat) (w : World) (hc : CellsIn (hp w) bc [Vi, Ve, Vu, Vb]) (hm : CellsIn (hp w) bm [.map (some bmap)]) (hM : MapIn (hp w) bmap boolV tm) (hE : Sl (hp w) encU32 ents Ve) :
    Calls Tryz.prog 36 #[.agg (encIns.enc i).toArray, .pointer (some ⟨bc, 0, none⟩), .pointer (some ⟨bm, 0, none⟩)] w (fun e w' => e = .returned (.int .i64 (grpP ents tm i)) ∧ Ext w w') := by
  have hc' : CellsIn (Bg.of w).blk bc [Vi, Ve, Vu, Vb] := hc
  have hm' : CellsIn (Bg.of w).blk bm [.map (some bmap)] := hm
  have hM' : MapIn (Bg.of w).blk bmap boolV tm := hM
  have hE' : Sl (Bg.of w).blk encU32 ents Ve := hE
  refine enter Tryz.func36 rfl Tryz.ntmps36 rfl ?_
  refine Tr.seq ?_
  refine Tr.region ?_
  refine Tr.box rfl rfl rfl (fun b1 => ?_)
  refine Tr.q (QS.assign rfl) rfl ?_
  refine Tr.nil ?_
  refine Tr.thenN ?_
  refine Tr.seq ?_
  refine Tr.block ?_
  refine Tr.seq ?_
  refine Tr.region ?_
  refine Tr.q (QS.fieldAddr (off := 1) (ft := 23) rfl Tryz.underlying28 rfl rfl Tryz.sizeOf23 (by decide)) rfl ?_
  refine Tr.q (QS.loadCF rfl (by assumption) Tryz.isAgg23 (by rfl)) rfl ?_
  refine Tr.q (QS.fieldAddr (off := 0) (ft := 33) rfl Tryz.underlying35 rfl rfl Tryz.sizeOf33 (by decide)) rfl ?_
  refine Tr.q (QS.lV rfl Tryz.isAgg33) rfl ?_
  refine Tr.q (QS.call rfl Tryz.call37 (fun w hw => contains_u32 ents Ve i.addr w (hw.slF hE'))) rfl ?_
  refine Tr.q (QS.assign rfl) rfl ?_
  refine Tr.nil ?_
  refine Tr.thenN ?_
  refine Tr.cond rfl (fun h2 => ?_) (fun h2 => ?_)
  · try simp only [bs] at h2
    refine Tr.seq ?_
    refine Tr.region ?_
    refine Tr.q (QS.assign rfl) rfl ?_
    refine Tr.nil ?_
    refine Tr.thenN ?_
    refine Tr.ret ?_
    refine Tr.inR ?_
    refine Tr.thenR ?_
    refine Tr.ret1 Tryz.results36 rfl (fun w' hw => ?_)
    exact ⟨by rw [grpP, if_pos (by assumption)], hw.below (Bg.le.refl _)⟩
  · try simp only [bs] at h2
    refine Tr.seq ?_
    refine Tr.region ?_
    refine Tr.q (QS.loadCF rfl (by assumption) Tryz.isAgg62 (by rfl)) rfl ?_
    refine Tr.q (QS.fieldAddr (off := 0) (ft := 33) rfl Tryz.underlying35 rfl rfl Tryz.sizeOf33 (by decide)) rfl ?_
    refine Tr.q (QS.lV rfl Tryz.isAgg33) rfl ?_
    refine Tr.q (QS.lookBT rfl rfl (by assumption) Tryz.underlying62 Tryz.underlying33 Tryz.zeroValue4) rfl ?_
    refine Tr.q (QS.assign rfl) rfl ?_
    refine Tr.nil ?_
    refine Tr.thenN ?_
    refine Tr.cond rfl (fun h3 => ?_) (fun h3 => ?_)
    · try simp only [bs] at h3
      refine Tr.seq ?_
      refine Tr.region ?_
      refine Tr.q (QS.assign rfl) rfl ?_
      refine Tr.nil ?_
      refine Tr.thenN ?_
      refine Tr.ret ?_
      refine Tr.inR ?_
      refine Tr.thenR ?_
      refine Tr.ret1 Tryz.results36 rfl (fun w' hw => ?_)
      exact ⟨by rw [grpP, if_neg (by simp_all), if_pos (by assumption)], hw.below (Bg.le.refl _)⟩
    · try simp only [bs] at h3
      refine Tr.skip ?_
      refine Tr.inN ?_
      refine Tr.thenN ?_
      refine Tr.seq ?_
      refine Tr.region ?_
      refine Tr.q (QS.assign rfl) rfl ?_
      refine Tr.nil ?_
      refine Tr.thenN ?_
      refine Tr.ret ?_
      refine Tr.ret1 Tryz.results36 rfl (fun w' hw => ?_)
      exact ⟨by rw [grpP, if_neg (by simp_all), if_neg (by simp_all)], hw.below (Bg.le.refl _)⟩
set_option maxRecDepth 100000 in
set_option maxHeartbeats 2000000 in
theorem resolve2_any (i j : Ins) (ents : List UInt32) (tm : List (UInt32 × Bool)) (Vi Ve Vu Vb : Value) (bc bm bmap : Nat) (bg : Nat) (w : World) (hc : CellsIn (hp w) bc [Vi, Ve, Vu, Vb]) (hm : CellsIn (hp w) bm [.map (some bmap)]) (hM : MapIn (hp w) bmap boolV tm) (hE : Sl (hp w) encU32 ents Ve) (hg : CellsIn (hp w) bg [.func (.func 36) #[] #[.pointer (some ⟨bc, 0, none⟩), .pointer (some ⟨bm, 0, none⟩)]]) :
    Calls Tryz.prog 40 #[.agg (encIns.enc i).toArray, .agg (encIns.enc j).toArray, .pointer (some ⟨bg, 0, none⟩)] w (fun e w' => e = .returned (.int .i64 (cmpG ents tm i j)) ∧ Ext w w') := by
  have hc' : CellsIn (Bg.of w).blk bc [Vi, Ve, Vu, Vb] := hc
  have hm' : CellsIn (Bg.of w).blk bm [.map (some bmap)] := hm
  have hM' : MapIn (Bg.of w).blk bmap boolV tm := hM
  have hE' : Sl (Bg.of w).blk encU32 ents Ve := hE
  have hg' : CellsIn (Bg.of w).blk bg [.func (.func 36) #[] #[.pointer (some ⟨bc, 0, none⟩), .pointer (some ⟨bm, 0, none⟩)]] := hg
  refine enter Tryz.func40 rfl Tryz.ntmps40 rfl ?_
  refine Tr.seq ?_
  refine Tr.region ?_
  refine Tr.box rfl rfl rfl (fun b1 => ?_)
  refine Tr.box rfl rfl rfl (fun b2 => ?_)
  refine Tr.q (QS.assign rfl) rfl ?_
  refine Tr.nil ?_
  refine Tr.thenN ?_
  refine Tr.seq ?_
  refine Tr.regionQ HLF.mixed (by kernel_rfl) ?_
  refine TrQ.q (QS.loadCF rfl (by assumption) Tryz.isAgg64 (by rfl)) rfl ?_
  refine TrQ.q (QS.lW rfl Tryz.isAgg35 Tryz.sizeOf35) rfl ?_
  refine TrQ.q (QS.callV rfl rfl Tryz.call36 (fun w hw => resolve1_any i ents tm Vi Ve Vu Vb bc bm bmap w (hc'.mono hw.bg) (hm'.mono hw.bg) (hM'.mono hw.bg) (hw.slF hE'))) rfl ?_
  refine TrQ.q (QS.loadCF rfl (by assumption) Tryz.isAgg64 (by rfl)) rfl ?_
  refine TrQ.q (QS.lW rfl Tryz.isAgg35 Tryz.sizeOf35) rfl ?_
  refine TrQ.q (QS.callV rfl rfl Tryz.call36 (fun w hw => resolve1_any j ents tm Vi Ve Vu Vb bc bm bmap w (hc'.mono hw.bg) (hm'.mono hw.bg) (hM'.mono hw.bg) (hw.slF hE'))) rfl ?_
  refine TrQ.q (QS.call rfl Tryz.call41 (fun w hw => cmpI_any (grpP ents tm i) (grpP ents tm j) w)) rfl ?_
  refine TrQ.q (QS.assign rfl) rfl ?_
  refine TrQ.nil ?_
  refine Tr.thenN ?_
  refine Tr.ret ?_
  refine Tr.ret1 Tryz.results40 rfl (fun w' hw => ?_)
  exact ⟨rfl, hw.below (Bg.le.refl _)⟩
set_option maxRecDepth 100000 in
set_option maxHeartbeats 2000000 in
theorem resolve41_any (i : Ins) (a : UInt32) (b : Nat) (w : World) (hc : Cell (hp w) b 0 (.int .u32 a.toNat)) :
    Calls Tryz.prog 48 #[.agg (encIns.enc i).toArray, .pointer (some ⟨b, 0, none⟩)] w (fun e w' => e = .returned (.bool (decide (i.addr = a))) ∧ Ext w w') := by
  have hc' : Cell (Bg.of w).blk b 0 (.int .u32 a.toNat) := hc
  refine enter Tryz.func48 rfl Tryz.ntmps48 rfl ?_
  refine Tr.seq ?_
  refine Tr.region ?_
  refine Tr.box rfl rfl rfl (fun b1 => ?_)
  refine Tr.q (QS.assign rfl) rfl ?_
  refine Tr.nil ?_
  refine Tr.thenN ?_
  refine Tr.seq ?_
  refine Tr.region ?_
  refine Tr.q (QS.fieldAddr (off := 0) (ft := 33) rfl Tryz.underlying35 rfl rfl Tryz.sizeOf33 (by decide)) rfl ?_
  refine Tr.q (QS.lV rfl Tryz.isAgg33) rfl ?_
  refine Tr.q (QS.loadC rfl (by assumption) Tryz.isAgg33) rfl ?_
  refine Tr.q (QS.eql32 rfl rfl) rfl ?_
  refine Tr.q (QS.assign rfl) rfl ?_
  refine Tr.nil ?_
  refine Tr.thenN ?_
  refine Tr.ret ?_
  refine Tr.ret1 Tryz.results48 rfl (fun w' hw => ?_)
  exact ⟨rfl, hw.below (Bg.le.refl _)⟩
set_option maxRecDepth 100000 in
set_option maxHeartbeats 2000000 in
theorem resolve4_any (a : UInt32) (l : List Ins) (V : Value) (b : Nat) (w : World) (hc : CellsIn (hp w) b [V]) (hV : Sl (hp w) encIns l V) :
    Calls Tryz.prog 46 #[.int .u32 a.toNat, .pointer (some ⟨b, 0, none⟩)] w (fun e w' => e = .returned (.bool (inK l a)) ∧ Ext w w') := by
  have hc' : CellsIn (Bg.of w).blk b [V] := hc
  have hV' : Sl (Bg.of w).blk encIns l V := hV
  refine enter Tryz.func46 rfl Tryz.ntmps46 rfl ?_
  refine Tr.seq ?_
  refine Tr.region ?_
  refine Tr.box rfl rfl rfl (fun b1 => ?_)
  refine Tr.q (QS.assign rfl) rfl ?_
  refine Tr.nil ?_
  refine Tr.thenN ?_
  refine Tr.seq ?_
  refine Tr.region ?_
  refine Tr.q (QS.loadCF rfl (by assumption) Tryz.isAgg22 (by rfl)) rfl ?_
  refine Tr.q (QS.makeFunc rfl rfl) rfl ?_
  refine Tr.q (QS.call rfl Tryz.call47 (fun w hw => containsFunc_ins l V _ _ w (hw.slF hV') Tryz.call48 (fun i => decide (i.addr = a)) (fun x hx w'' h => resolve41_any x a _ w'' (cellE.cell (hw.ent _ (by repeat (first | exact List.Mem.head _ | apply List.Mem.tail))) h rfl)))) rfl ?_
  refine Tr.q (QS.assign rfl) rfl ?_
  refine Tr.nil ?_
  refine Tr.thenN ?_
  refine Tr.ret ?_
  refine Tr.ret1 Tryz.results46 rfl (fun w' hw => ?_)
  exact ⟨rfl, hw.below (Bg.le.refl _)⟩
end Go.Proofs.YtmhbfelnjkhepaaGreat
namespace Go.Proofs.YtmhbfelnjkhepaaGreat
open Go Go.HL Go.RowKit
theorem ltCI_G (ents : List UInt32) (tm : List (UInt32 × Bool)) : ltCI (cmpG ents tm) = ltG (grpP ents tm) := by
  funext x y
  unfold ltCI cmpG ltG
  congr 1
  exact propext (cmpI_lt _ _)
set_option maxRecDepth 100000 in
set_option maxHeartbeats 8000000 in
theorem resolve_any (ins : List Ins) (ents unk bad : List UInt32) (Vi Ve Vu Vb : Value) (w : World) (hV : Sl (hp w) encIns ins Vi) (hE : Sl (hp w) encU32 ents Ve) (hU : Sl (hp w) encU32 unk Vu) (hB : Sl (hp w) encU32 bad Vb) (hI : ∀ x ∈ ins, InsOK x) (hn1 : ins.length ≤ 200) (hn2 : ents.length ≤ 200) (hn3 : unk.length ≤ 200) (hn4 : bad.length ≤ 200) :
    Calls Tryz.prog 12 #[.agg #[Vi, Ve, Vu, Vb]] w (fun e w' => ∃ i : Value × Value × Value × Value × Value, e = .returned (.tuple #[.agg #[i.1, i.2.1, i.2.2.1, i.2.2.2.1], i.2.2.2.2]) ∧ Ext w w' ∧ NewEnts w w' [rowE i.1 35 encIns (resP ins ents unk bad).kept, rowE i.2.1 33 encU32 (resP ins ents unk bad).ents, rowE i.2.2.1 33 encU32 (resP ins ents unk bad).unk, rowE i.2.2.2.1 33 encU32 (resP ins ents unk bad).bad, rowE i.2.2.2.2 33 encU32 (resP ins ents unk bad).rem]) := by
  have hV' : Sl (Bg.of w).blk encIns ins Vi := hV
  have hE' : Sl (Bg.of w).blk encU32 ents Ve := hE
  have hU' : Sl (Bg.of w).blk encU32 unk Vu := hU
  have hB' : Sl (Bg.of w).blk encU32 bad Vb := hB
  obtain ⟨lc, hlc⟩ : ∃ lc, lc = countP ins := ⟨_, rfl⟩
  obtain ⟨tm, htm⟩ : ∃ tm, tm = tgtM lc := ⟨_, rfl⟩
  have hcl := countP_len ins
  rw [← hlc] at hcl
  have hcI : ∀ x ∈ lc, InsOK x := fun x hx => hI _ (countP_sub (hlc ▸ hx))
  obtain ⟨w0, hw0⟩ : ∃ w0, w0 = w := ⟨_, rfl⟩
  subst hw0
  refine enter Tryz.func12 rfl Tryz.ntmps12 rfl ?_
  refine Tr.seq ?_
  refine Tr.region ?_
  refine Tr.box rfl rfl rfl (fun b1 => ?_)
  refine Tr.alloc Tryz.zeroValue28 rfl rfl (fun b2 => ?_)
  refine Tr.q (QS.assign rfl) rfl ?_
  refine Tr.nil ?_
  refine Tr.thenN ?_
  refine Tr.scope ?_
  refine Tr.seq ?_
  refine Tr.region ?_
  refine Tr.q (QS.fieldAddr (off := 0) (ft := 22) rfl Tryz.underlying28 rfl rfl Tryz.sizeOf22 (by decide)) rfl ?_
  refine Tr.q (QS.lV rfl Tryz.isAgg22) rfl ?_
  refine Tr.callRow rfl Tryz.call34 (fun w hw => (by rw [hlc]; exact counting_any ins Vi w (hw.slF hV') hI hn1 : Calls Tryz.prog 34 #[Vi] w (fun e w' => ∃ V', e = .returned V' ∧ Ext w w' ∧ NewRow w w' 35 encIns (lc) V'))) rfl (fun V3 => ?_)
  refine Tr.q (QS.assign rfl) rfl ?_
  refine Tr.nil ?_
  refine Tr.thenN ?_
  refine Tr.seq ?_
  skip
  refine Tr.region ?_
  refine Tr.q (QS.move rfl) rfl ?_
  refine Tr.callEnts (fun b : Nat => .map (some b)) (fun b => [mapE b boolV tm]) (ok := fun _ => True) rfl Tryz.call35 (fun w hw => (targets_any lc _ w (hw.row (by repeat (first | exact List.Mem.head _ | apply List.Mem.tail))) hcI (by omega)).mono fun e w' ⟨b, q1, q2, q3⟩ => ⟨b, q1, q2, by rw [htm]; exact q3, trivial⟩) rfl (fun bmap _ => ?_)
  refine Tr.alloc Tryz.zeroValue62 rfl rfl (fun b4 => ?_)
  refine Tr.storeW rfl rfl Tryz.sizeOf62 (by repeat (first | exact Put.here _ | apply Put.there)) (by rfl) (by rfl) (by first | exact List.all_eq_true.1 rfl | exact Enc.one _ _) rfl ?_
  refine Tr.nil ?_
  refine Tr.thenN ?_
  refine Tr.seq ?_
  refine Tr.region ?_
  refine Tr.q (QS.makeFunc rfl rfl) rfl ?_
  refine Tr.alloc Tryz.zeroValue64 rfl rfl (fun b5 => ?_)
  refine Tr.storeW rfl rfl Tryz.sizeOf64 (by repeat (first | exact Put.here _ | apply Put.there)) (by rfl) (by rfl) (by first | exact List.all_eq_true.1 rfl | exact Enc.one _ _) rfl ?_
  refine Tr.nil ?_
  refine Tr.thenN ?_
  refine Tr.seq ?_
  refine Tr.region ?_
  refine Tr.q (QS.move rfl) rfl ?_
  refine Tr.callRow rfl Tryz.call38 (fun w hw => clone_ins lc _ w (hw.row (by repeat (first | exact List.Mem.head _ | apply List.Mem.tail))) (by omega)) rfl (fun V6 => ?_)
  refine Tr.q (QS.assign rfl) rfl ?_
  refine Tr.nil ?_
  refine Tr.thenN ?_
  refine Tr.seq ?_
  refine Tr.region ?_
  refine Tr.q (QS.move rfl) rfl ?_
  refine Tr.q (QS.makeFunc rfl rfl) rfl ?_
  refine Tr.callMutR (fun c => c = ordOf (grpP ents tm) lc) rfl Tryz.call39 (fun w hw => (sortStable_ins lc _ 40 [.pointer (some ⟨b5, 0, none⟩)] (cmpG ents tm) (fun w' => ∃ l', HpOK (Bg.of w0) (rowE V6 35 encIns l' :: [cellE b5 [.func (.func 36) #[] #[.pointer (some ⟨b1, 0, none⟩), .pointer (some ⟨b4, 0, none⟩)]] 64, cellE b4 [.map (some bmap)] 62, mapE bmap boolV tm, rowE V3 35 encIns lc, cellE b2 [.slice none 0 0, .slice none 0 0, .slice none 0 0, .slice none 0 0] 28, cellE b1 [Vi, Ve, Vu, Vb] 28]) w') (fun w w' l' ⟨l0, h⟩ m r => ⟨l', HpOK.mut h (.here _) m r⟩) Tryz.call40 (fun x y w' ⟨l0, h⟩ => resolve2_any x y ents tm Vi Ve Vu Vb b1 b4 bmap b5 w' (cellE.cellsIn (h.ent _ (by repeat (first | exact List.Mem.head _ | apply List.Mem.tail))) (Ext.refl _)) (cellE.cellsIn (h.ent _ (by repeat (first | exact List.Mem.head _ | apply List.Mem.tail))) (Ext.refl _)) (mapE.in_ (h.ent _ (by repeat (first | exact List.Mem.head _ | apply List.Mem.tail)))) (h.slF hE') (cellE.cellsIn (h.ent _ (by repeat (first | exact List.Mem.head _ | apply List.Mem.tail))) (Ext.refl _))) (by rw [ltCI_G]; exact wo_ltG _) w ⟨lc, hw⟩ (hw.ent _ (.head _)) (by omega)).mono fun e w' ⟨q1, c, ⟨q2, q3, q4⟩, q5, q6⟩ => ⟨q1, c, by rw [ltCI_G] at q2 q4; exact ord_of (grp_range ents tm) q2 (Srt.all (by rw [q2.len]; exact q4)), q5, q6⟩) rfl (fun c2 hc2 => ?_)
  refine Tr.nil ?_
  refine Tr.thenN ?_
  refine Tr.seq ?_
  subst hc2
  refine Tr.region ?_
  refine Tr.alloc Tryz.zeroValue22 rfl rfl (fun b7 => ?_)
  refine Tr.nil ?_
  refine Tr.thenN ?_
  refine Tr.seq ?_
  refine Tr.label ?_
  refine Tr.thenN ?_
  refine Tr.seq ?_
  refine Tr.seq ?_
  refine Tr.region ?_
  refine Tr.q (QS.move rfl) rfl ?_
  refine Tr.q (QS.lenRow rfl (by repeat (first | exact List.Mem.head _ | apply List.Mem.tail)) Tryz.underlying22) rfl ?_
  refine Tr.q (QS.move rfl) rfl ?_
  refine Tr.nil ?_
  refine Tr.thenN ?_
  refine Tr.block ?_
  refine Tr.ownNil 35 encIns ?_
  refine Tr.loop (ι := Nat × Value) (fun ⟨k, Vk⟩ => k ≤ (ordOf (grpP ents tm) lc).length) (fun _ => _) (fun ⟨k, Vk⟩ => [cellE b7 [Vk] 22, rowE Vk 35 encIns (keepF ((ordOf (grpP ents tm) lc).take k)), rowE V6 35 encIns (ordOf (grpP ents tm) lc), cellE b5 [.func (.func 36) #[] #[.pointer (some ⟨b1, 0, none⟩), .pointer (some ⟨b4, 0, none⟩)]] 64, cellE b4 [.map (some bmap)] 62, mapE bmap boolV tm, rowE V3 35 encIns lc, cellE b2 [.slice none 0 0, .slice none 0 0, .slice none 0 0, .slice none 0 0] 28, cellE b1 [Vi, Ve, Vu, Vb] 28]) (fun ⟨k, Vk⟩ => [(35, .int .i64 (k : Nat))]) (fun ⟨k, Vk⟩ => (ordOf (grpP ents tm) lc).length - k) (0, _) (Nat.zero_le _) (.cons (by first | rfl | exact lookI rfl (by omega) | exact lookI rfl (by simp) | exact lookB rfl (by simp)) Front.nil) (by repeat' (first | exact Pick.nil _ | exact Del.here _ | apply Pick.cons | apply Del.there)) rfl (fun i hi m hm => ?_)
  obtain ⟨k, Vk⟩ := i
  replace hi : k ≤ (ordOf (grpP ents tm) lc).length := hi
  replace hm : m = (ordOf (grpP ents tm) lc).length - k := hm
  change Tr _ _ [cellE b7 [Vk] 22, rowE Vk 35 encIns (keepF ((ordOf (grpP ents tm) lc).take k)), rowE V6 35 encIns (ordOf (grpP ents tm) lc), cellE b5 [.func (.func 36) #[] #[.pointer (some ⟨b1, 0, none⟩), .pointer (some ⟨b4, 0, none⟩)]] 64, cellE b4 [.map (some bmap)] 62, mapE bmap boolV tm, rowE V3 35 encIns lc, cellE b2 [.slice none 0 0, .slice none 0 0, .slice none 0 0, .slice none 0 0] 28, cellE b1 [Vi, Ve, Vu, Vb] 28] ([(35, .int .i64 (k : Nat))] ++ _) _
  have hol := ord_len (grp_range ents tm) lc
  have hkl := keepF_len ((ordOf (grpP ents tm) lc).take k)
  rw [List.length_take] at hkl
  have hoI : ∀ x ∈ ordOf (grpP ents tm) lc, InsOK x := fun x hx => hcI x (ord_sub hx)
  obtain ⟨kq, hkq⟩ : ∃ kq, kq = keepF ((ordOf (grpP ents tm) lc).take k) := ⟨_, rfl⟩
  have hqI : ∀ x ∈ kq, InsOK x := fun x hx => by
    rw [hkq] at hx
    exact hoI x (List.mem_of_mem_take (keep_sub hx))
  rw [← hkq] at hkl ⊢
  refine Tr.seq ?_
  refine Tr.region ?_
  refine Tr.q (QS.lss rfl rfl) rfl ?_
  refine Tr.nil ?_
  refine Tr.thenN ?_
  refine Tr.seq ?_
  refine Tr.cond rfl (fun h8 => ?_) (fun h8 => ?_)
  · try simp only [bs] at h8
    refine Tr.skip ?_
    refine Tr.thenN ?_
    refine Tr.seq ?_
    refine Tr.block ?_
    refine Tr.seq ?_
    refine Tr.region ?_
    refine Tr.q (QS.idxRowN rfl rfl (by repeat (first | exact List.Mem.head _ | apply List.Mem.tail)) Tryz.underlying22 Tryz.sizeOf35 (by rfl) (by omega)) rfl ?_
    refine Tr.q (QS.elRA rfl (by repeat (first | exact List.Mem.head _ | apply List.Mem.tail)) Tryz.isAgg35 Tryz.sizeOf35 (by rfl) (by omega)) rfl ?_
    refine Tr.alloc Tryz.zeroValue35 rfl rfl (fun b9 => ?_)
    refine Tr.storeW rfl rfl Tryz.sizeOf35 (by repeat (first | exact Put.here _ | apply Put.there)) (by rfl) (by rfl) (by first | exact List.all_eq_true.1 rfl | exact Enc.one _ _ | exact Enc.one encIns _) rfl ?_
    refine Tr.nil ?_
    refine Tr.thenN ?_
    refine Tr.seq ?_
    refine Tr.seq ?_
    refine Tr.region ?_
    refine Tr.q (QS.lV rfl Tryz.isAgg22) rfl ?_
    refine Tr.q (QS.lenRow rfl (by repeat (first | exact List.Mem.head _ | apply List.Mem.tail)) Tryz.underlying22) rfl ?_
    refine Tr.q (QS.move rfl) rfl ?_
    refine Tr.nil ?_
    refine Tr.thenN ?_
    refine Tr.block ?_
    refine Tr.loop (ι := Nat) (fun j => j ≤ kq.length ∧ (kq.take j).any (conflP ((ordOf (grpP ents tm) lc).getD k default)) = false) (fun _ => _) (fun j => [cellE b9 (encIns.enc ((ordOf (grpP ents tm) lc).getD k default)) 35, cellE b7 [Vk] 22, rowE Vk 35 encIns kq, rowE V6 35 encIns (ordOf (grpP ents tm) lc), cellE b5 [.func (.func 36) #[] #[.pointer (some ⟨b1, 0, none⟩), .pointer (some ⟨b4, 0, none⟩)]] 64, cellE b4 [.map (some bmap)] 62, mapE bmap boolV tm, rowE V3 35 encIns lc, cellE b2 [.slice none 0 0, .slice none 0 0, .slice none 0 0, .slice none 0 0] 28, cellE b1 [Vi, Ve, Vu, Vb] 28]) (fun j => [(41, .int .i64 (j : Nat))]) (fun j => kq.length - j) 0 ⟨Nat.zero_le _, rfl⟩ (.cons (by first | rfl | exact lookI rfl (by omega) | exact lookI rfl (by simp) | exact lookB rfl (by simp)) Front.nil) (by repeat' (first | exact Pick.nil _ | exact Del.here _ | apply Pick.cons | apply Del.there)) rfl (fun j hi m hm => ?_)
    replace hi : j ≤ kq.length ∧ (kq.take j).any (conflP ((ordOf (grpP ents tm) lc).getD k default)) = false := hi
    replace hm : m = kq.length - j := hm
    change Tr _ _ [cellE b9 (encIns.enc ((ordOf (grpP ents tm) lc).getD k default)) 35, cellE b7 [Vk] 22, rowE Vk 35 encIns kq, rowE V6 35 encIns (ordOf (grpP ents tm) lc), cellE b5 [.func (.func 36) #[] #[.pointer (some ⟨b1, 0, none⟩), .pointer (some ⟨b4, 0, none⟩)]] 64, cellE b4 [.map (some bmap)] 62, mapE bmap boolV tm, rowE V3 35 encIns lc, cellE b2 [.slice none 0 0, .slice none 0 0, .slice none 0 0, .slice none 0 0] 28, cellE b1 [Vi, Ve, Vu, Vb] 28] ([(41, .int .i64 (j : Nat))] ++ _) _
    obtain ⟨hj1, hj2⟩ := hi
    refine Tr.seq ?_
    refine Tr.region ?_
    refine Tr.q (QS.lss rfl rfl) rfl ?_
    refine Tr.nil ?_
    refine Tr.thenN ?_
    refine Tr.seq ?_
    refine Tr.cond rfl (fun h10 => ?_) (fun h10 => ?_)
    · try simp only [bs] at h10
      refine Tr.skip ?_
      refine Tr.thenN ?_
      refine Tr.seq ?_
      refine Tr.block ?_
      refine Tr.seq ?_
      refine Tr.region ?_
      refine Tr.q (QS.idxRowN rfl rfl (by repeat (first | exact List.Mem.head _ | apply List.Mem.tail)) Tryz.underlying22 Tryz.sizeOf35 (by rfl) (by omega)) rfl ?_
      refine Tr.q (QS.elRA rfl (by repeat (first | exact List.Mem.head _ | apply List.Mem.tail)) Tryz.isAgg35 Tryz.sizeOf35 (by rfl) (by omega)) rfl ?_
      refine Tr.alloc Tryz.zeroValue35 rfl rfl (fun b11 => ?_)
      refine Tr.storeW rfl rfl Tryz.sizeOf35 (by repeat (first | exact Put.here _ | apply Put.there)) (by rfl) (by rfl) (by first | exact List.all_eq_true.1 rfl | exact Enc.one _ _ | exact Enc.one encIns _) rfl ?_
      refine Tr.nil ?_
      refine Tr.thenN ?_
      refine Tr.seq ?_
      refine Tr.region ?_
      refine Tr.q (QS.lW rfl Tryz.isAgg35 Tryz.sizeOf35) rfl ?_
      refine Tr.q (QS.lW rfl Tryz.isAgg35 Tryz.sizeOf35) rfl ?_
      refine Tr.q (QS.call rfl Tryz.call42 (fun w hw => conflict_any ((ordOf (grpP ents tm) lc).getD k default) (kq.getD j default) w (hoI _ (mem_getD (by omega))) (hqI _ (mem_getD (by omega))))) rfl ?_
      refine Tr.nil ?_
      refine Tr.thenN ?_
      refine Tr.cond rfl (fun h12 => ?_) (fun h12 => ?_)
      · try simp only [bs] at h12
        refine Tr.exit ?_
        refine Tr.inMiss rfl ?_
        refine Tr.thenE ?_
        refine Tr.thenE ?_
        refine Tr.inMiss rfl ?_
        refine Tr.thenE ?_
        refine Tr.inHit ?_
        refine Tr.thenN ?_
        skip
        refine Tr.region ?_
        refine Tr.q (QS.addI rfl rfl (by omega)) rfl ?_
        refine Tr.q (QS.move rfl) rfl ?_
        refine Tr.nil ?_
        refine Tr.thenN ?_
        have hst := keep_succ (l := ordOf (grpP ents tm) lc) (k := k) (by omega)
        rw [← hkq, keepStep, if_pos (List.any_eq_true.2 ⟨_, mem_getD (k := j) (by omega), by assumption⟩)] at hst
        rw [← hst]
        apply Tr.again (k + 1, _)
        · exact rfl
        · exact (.cons (by first | rfl | exact lookI rfl (by omega) | exact lookI rfl (by simp) | exact lookB rfl (by simp)) Front.nil)
        · exact SubX.dropN 18 (by kernel_rfl) rfl
        · exact (by repeat' (first | exact Pick.nil _ | exact Del.here _ | apply Pick.cons | apply Del.there))
        · exact (by show k + 1 ≤ _; omega)
        · exact (by (try dsimp only); omega)
      · try simp only [bs] at h12
        refine Tr.skip ?_
        refine Tr.inN ?_
        refine Tr.thenN ?_
        refine Tr.region ?_
        refine Tr.q (QS.addI rfl rfl (by omega)) rfl ?_
        refine Tr.q (QS.move rfl) rfl ?_
        refine Tr.nil ?_
        refine Tr.thenN ?_
        apply Tr.again (j + 1)
        · exact rfl
        · exact (.cons (by first | rfl | exact lookI rfl (by omega) | exact lookI rfl (by simp) | exact lookB rfl (by simp)) Front.nil)
        · exact SubX.dropN 10 (by kernel_rfl) rfl
        · exact (by repeat' (first | exact Pick.nil _ | exact Del.here _ | apply Pick.cons | apply Del.there))
        · exact ⟨by omega, by rw [any_take_succ (by omega), hj2, Bool.false_or]; assumption⟩
        · exact (by (try dsimp only); omega)
    · try simp only [bs] at h10
      refine Tr.exit ?_
      refine Tr.thenE ?_
      refine Tr.thenE ?_
      refine Tr.inHit ?_
      refine Tr.thenN ?_
      refine Tr.region ?_
      refine Tr.q (QS.lV rfl Tryz.isAgg22) rfl ?_
      refine Tr.q (QS.lW rfl Tryz.isAgg35 Tryz.sizeOf35) rfl ?_
      refine Tr.lit1 (E := encIns) _ rfl rfl Tryz.underlying22 Tryz.sizeOf35 Tryz.zeroValue35 (by rfl) (by rfl) rfl (fun V13 => ?_)
      refine Tr.append1 rfl rfl (by repeat (first | exact Del.here _ | apply Del.there)) (by repeat (first | exact Del.here _ | apply Del.there)) Tryz.underlying22 HLF.info35 (by rfl) (by rfl) (by (try simp only [List.length_cons, List.length_nil, List.length_append, List.length_take]); omega) (by unfold maxLen; (try simp only [List.length_cons, List.length_nil, List.length_append, List.length_take]); omega) rfl (fun V14 => ?_)
      refine Tr.rowShape (.head _) (fun pz qz hpv => ?_)
      subst hpv
      refine Tr.storeW rfl rfl Tryz.sizeOf22 (by repeat (first | exact Put.here _ | apply Put.there)) (by rfl) (by rfl) (by first | exact List.all_eq_true.1 rfl | exact Enc.one _ _) rfl ?_
      refine Tr.nil ?_
      refine Tr.inN ?_
      refine Tr.thenN ?_
      skip
      refine Tr.region ?_
      refine Tr.q (QS.addI rfl rfl (by omega)) rfl ?_
      refine Tr.q (QS.move rfl) rfl ?_
      refine Tr.nil ?_
      refine Tr.thenN ?_
      obtain rfl : j = kq.length := by omega
      rw [List.take_length] at hj2
      have hst := keep_succ (l := ordOf (grpP ents tm) lc) (k := k) (by omega)
      rw [← hkq, keepStep, if_neg (by rw [hj2]; simp)] at hst
      rw [← hst]
      apply Tr.again (k + 1, _)
      · exact rfl
      · exact (.cons (by first | rfl | exact lookI rfl (by omega) | exact lookI rfl (by simp) | exact lookB rfl (by simp)) Front.nil)
      · exact SubX.dropN 16 (by kernel_rfl) rfl
      · exact (by repeat' (first | exact Pick.nil _ | exact Del.here _ | apply Pick.cons | apply Del.there))
      · exact (by show k + 1 ≤ _; omega)
      · exact (by (try dsimp only); omega)
  · try simp only [bs] at h8
    refine Tr.exit ?_
    refine Tr.thenE ?_
    refine Tr.thenE ?_
    refine Tr.inHit ?_
    refine Tr.thenN ?_
    refine Tr.seq ?_
    obtain rfl : k = (ordOf (grpP ents tm) lc).length := by omega
    rw [List.take_length] at *
    subst hkq
    have hkl := keepF_len (ordOf (grpP ents tm) lc)
    have hol := ord_len (grp_range ents tm) lc
    refine Tr.region ?_
    refine Tr.q (QS.lV rfl Tryz.isAgg22) rfl ?_
    refine Tr.callMut rfl Tryz.call43 (by repeat (first | exact Put.here _ | apply Put.there)) (fun w hw => sortFunc_any Tryz.sortIns encIns 35 Tryz.isAgg35 Tryz.sizeOf35 cmpA swo_cmpA 44 [] (keepF (ordOf (grpP ents tm) lc)) _ w Tryz.call44 (hw.ent _ (by repeat (first | exact List.Mem.head _ | apply List.Mem.tail))) (by omega) (fun x y w' _ => resolve3_any x y w') (sortFunc_nil_ins w 44 #[])) rfl ?_
    refine Tr.nil ?_
    refine Tr.thenN ?_
    refine Tr.seq ?_
    obtain ⟨kp, hkp⟩ : ∃ kp, kp = sortP (Go.Proofs.ltOf cmpA) (keepF (ordOf (grpP ents tm) lc)) := ⟨_, rfl⟩
    rw [← hkp]
    refine Tr.region ?_
    refine Tr.q (QS.makeFunc rfl rfl) rfl ?_
    refine Tr.q (QS.assign rfl) rfl ?_
    refine Tr.nil ?_
    refine Tr.thenN ?_
    refine Tr.seq ?_
    refine Tr.region ?_
    refine Tr.q (QS.assign rfl) rfl ?_
    refine Tr.nil ?_
    refine Tr.thenN ?_
    refine Tr.seq ?_
    refine Tr.seq ?_
    refine Tr.region ?_
    refine Tr.q (QS.move rfl) rfl ?_
    refine Tr.q (QS.lenRow rfl (by repeat (first | exact List.Mem.head _ | apply List.Mem.tail)) Tryz.underlying22) rfl ?_
    refine Tr.q (QS.move rfl) rfl ?_
    refine Tr.nil ?_
    refine Tr.thenN ?_
    refine Tr.block ?_
    refine Tr.ownNil 33 encU32 ?_
    refine Tr.loop (ι := Nat × Value) (fun ⟨k, Vr⟩ => k ≤ lc.length) (fun _ => _) (fun ⟨k, Vr⟩ => [rowE Vr 33 encU32 (remP (lc.take k) kp), cellE b7 [Vk] 22, rowE Vk 35 encIns kp, rowE V6 35 encIns (ordOf (grpP ents tm) lc), cellE b5 [.func (.func 36) #[] #[.pointer (some ⟨b1, 0, none⟩), .pointer (some ⟨b4, 0, none⟩)]] 64, cellE b4 [.map (some bmap)] 62, mapE bmap boolV tm, rowE V3 35 encIns lc, cellE b2 [.slice none 0 0, .slice none 0 0, .slice none 0 0, .slice none 0 0] 28, cellE b1 [Vi, Ve, Vu, Vb] 28]) (fun ⟨k, Vr⟩ => [(59, .int .i64 (k : Nat)), (14, Vr)]) (fun ⟨k, Vr⟩ => lc.length - k) (0, _) (Nat.zero_le _) (.cons (by first | rfl | exact lookI rfl (by omega) | exact lookI rfl (by simp) | exact lookB rfl (by simp)) (.cons (by first | rfl | exact lookI rfl (by omega) | exact lookI rfl (by simp) | exact lookB rfl (by simp)) Front.nil)) (by repeat' (first | exact Pick.nil _ | exact Del.here _ | apply Pick.cons | apply Del.there)) rfl (fun i hi m hm => ?_)
    obtain ⟨k, Vr⟩ := i
    replace hi : k ≤ lc.length := hi
    replace hm : m = lc.length - k := hm
    change Tr _ _ [rowE Vr 33 encU32 (remP (lc.take k) kp), cellE b7 [Vk] 22, rowE Vk 35 encIns kp, rowE V6 35 encIns (ordOf (grpP ents tm) lc), cellE b5 [.func (.func 36) #[] #[.pointer (some ⟨b1, 0, none⟩), .pointer (some ⟨b4, 0, none⟩)]] 64, cellE b4 [.map (some bmap)] 62, mapE bmap boolV tm, rowE V3 35 encIns lc, cellE b2 [.slice none 0 0, .slice none 0 0, .slice none 0 0, .slice none 0 0] 28, cellE b1 [Vi, Ve, Vu, Vb] 28] ([(59, .int .i64 (k : Nat)), (14, Vr)] ++ _) _
    have hrl := rem_len (lc.take k) kp
    rw [List.length_take] at hrl
    refine Tr.seq ?_
    refine Tr.region ?_
    refine Tr.q (QS.lss rfl rfl) rfl ?_
    refine Tr.nil ?_
    refine Tr.thenN ?_
    refine Tr.seq ?_
    refine Tr.cond rfl (fun h15 => ?_) (fun h15 => ?_)
    · try simp only [bs] at h15
      refine Tr.skip ?_
      refine Tr.thenN ?_
      refine Tr.seq ?_
      refine Tr.block ?_
      refine Tr.seq ?_
      refine Tr.region ?_
      refine Tr.q (QS.idxRowN rfl rfl (by repeat (first | exact List.Mem.head _ | apply List.Mem.tail)) Tryz.underlying22 Tryz.sizeOf35 (by rfl) (by omega)) rfl ?_
      refine Tr.q (QS.elRA rfl (by repeat (first | exact List.Mem.head _ | apply List.Mem.tail)) Tryz.isAgg35 Tryz.sizeOf35 (by rfl) (by omega)) rfl ?_
      refine Tr.alloc Tryz.zeroValue35 rfl rfl (fun b16 => ?_)
      refine Tr.storeW rfl rfl Tryz.sizeOf35 (by repeat (first | exact Put.here _ | apply Put.there)) (by rfl) (by rfl) (by first | exact List.all_eq_true.1 rfl | exact Enc.one _ _ | exact Enc.one encIns _) rfl ?_
      refine Tr.nil ?_
      refine Tr.thenN ?_
      refine Tr.seq ?_
      refine Tr.region ?_
      refine Tr.q (QS.move rfl) rfl ?_
      refine Tr.q (QS.fieldAddr (off := 0) (ft := 33) rfl Tryz.underlying35 rfl rfl Tryz.sizeOf33 (by decide)) rfl ?_
      refine Tr.q (QS.lV rfl Tryz.isAgg33) rfl ?_
      refine Tr.q (QS.callV rfl rfl Tryz.call46 (fun w hw => resolve4_any (lc.getD k default).addr kp Vk b7 w (cellE.cellsIn (hw.ent _ (by repeat (first | exact List.Mem.head _ | apply List.Mem.tail))) (Ext.refl _)) (hw.row (by repeat (first | exact List.Mem.head _ | apply List.Mem.tail))))) rfl ?_
      refine Tr.q (QS.not rfl) rfl ?_
      refine Tr.nil ?_
      refine Tr.thenN ?_
      refine Tr.cond rfl (fun h17 => ?_) (fun h17 => ?_)
      · try simp only [bs] at h17
        refine Tr.region ?_
        refine Tr.q (QS.move rfl) rfl ?_
        refine Tr.q (QS.fieldAddr (off := 0) (ft := 33) rfl Tryz.underlying35 rfl rfl Tryz.sizeOf33 (by decide)) rfl ?_
        refine Tr.q (QS.lV rfl Tryz.isAgg33) rfl ?_
        refine Tr.lit1 (E := encU32) _ rfl rfl Tryz.underlying23 Tryz.sizeOf33 Tryz.zeroValue33 (by rfl) (by rfl) rfl (fun V18 => ?_)
        refine Tr.append1 rfl rfl (by repeat (first | exact Del.here _ | apply Del.there)) (by repeat (first | exact Del.here _ | apply Del.there)) Tryz.underlying23 HLF.info33 (by rfl) (by rfl) (by (try simp only [List.length_cons, List.length_nil, List.length_append, List.length_take]); omega) (by unfold maxLen; (try simp only [List.length_cons, List.length_nil, List.length_append, List.length_take]); omega) rfl (fun V19 => ?_)
        refine Tr.q (QS.assign rfl) rfl ?_
        refine Tr.nil ?_
        refine Tr.inN ?_
        refine Tr.thenN ?_
        refine Tr.region ?_
        refine Tr.q (QS.addI rfl rfl (by omega)) rfl ?_
        refine Tr.q (QS.move rfl) rfl ?_
        refine Tr.nil ?_
        refine Tr.thenN ?_
        rw [← rem_yes (by omega) (by simp_all)]
        apply Tr.again (k + 1, _)
        · exact rfl
        · exact (.cons (by first | rfl | exact lookI rfl (by omega) | exact lookI rfl (by simp) | exact lookB rfl (by simp)) (.cons (by first | rfl | exact lookI rfl (by omega) | exact lookI rfl (by simp) | exact lookB rfl (by simp)) Front.nil))
        · exact SubX.dropN 19 (by kernel_rfl) rfl
        · exact (by repeat' (first | exact Pick.nil _ | exact Del.here _ | apply Pick.cons | apply Del.there))
        · exact (by show k + 1 ≤ _; omega)
        · exact (by (try dsimp only); omega)
      · try simp only [bs] at h17
        refine Tr.skip ?_
        refine Tr.inN ?_
        refine Tr.thenN ?_
        refine Tr.region ?_
        refine Tr.q (QS.addI rfl rfl (by omega)) rfl ?_
        refine Tr.q (QS.move rfl) rfl ?_
        refine Tr.nil ?_
        refine Tr.thenN ?_
        rw [← rem_no (by omega) (by simp_all)]
        apply Tr.again (k + 1, _)
        · exact rfl
        · exact (.cons (by first | rfl | exact lookI rfl (by omega) | exact lookI rfl (by simp) | exact lookB rfl (by simp)) (.cons (by first | rfl | exact lookI rfl (by omega) | exact lookI rfl (by simp) | exact lookB rfl (by simp)) Front.nil))
        · exact SubX.dropN 13 (by kernel_rfl) rfl
        · exact (by repeat' (first | exact Pick.nil _ | exact Del.here _ | apply Pick.cons | apply Del.there))
        · exact (by show k + 1 ≤ _; omega)
        · exact (by (try dsimp only); omega)
    · try simp only [bs] at h15
      refine Tr.exit ?_
      refine Tr.thenE ?_
      refine Tr.thenE ?_
      refine Tr.inHit ?_
      refine Tr.thenN ?_
      obtain rfl : k = lc.length := by omega
      rw [List.take_length] at *
      refine Tr.rowShape (V := Vk) (by repeat (first | exact List.Mem.head _ | apply List.Mem.tail)) (fun pa1 pc1 hpv => ?_)
      subst hpv
      refine Tr.seqJ (ι := Nat × Option Addr × Nat) (fun ⟨b17, pb, cb⟩ => True) (fun _ => Bg.of w0) (fun ⟨b17, pb, cb⟩ => [cellE b17 [(.slice pa1 kp.length pc1), .slice none 0 0, .slice none 0 0, (.slice pb bad.length cb)] 28, rowE (.slice pb bad.length cb) 33 encU32 bad, rowE Vr 33 encU32 (remP lc kp), cellE b7 [(.slice pa1 kp.length pc1)] 22, rowE (.slice pa1 kp.length pc1) 35 encIns kp, rowE V6 35 encIns (ordOf (grpP ents tm) lc), cellE b5 [.func (.func 36) #[] #[.pointer (some ⟨b1, 0, none⟩), .pointer (some ⟨b4, 0, none⟩)]] 64, cellE b4 [.map (some bmap)] 62, mapE bmap boolV tm, rowE V3 35 encIns lc, cellE b2 [.slice none 0 0, .slice none 0 0, .slice none 0 0, .slice none 0 0] 28, cellE b1 [Vi, Ve, Vu, Vb] 28]) (fun ⟨b17, pb, cb⟩ => [(17, .pointer (some ⟨b17, 0, none⟩))]) ?_ (fun i hi => ?_)
      · skip
        skip
        refine Tr.regionH ([rowE Vr 33 encU32 (remP lc kp), cellE b7 [(.slice pa1 kp.length pc1)] 22, rowE (.slice pa1 kp.length pc1) 35 encIns kp, rowE V6 35 encIns (ordOf (grpP ents tm) lc), cellE b5 [.func (.func 36) #[] #[.pointer (some ⟨b1, 0, none⟩), .pointer (some ⟨b4, 0, none⟩)]] 64, cellE b4 [.map (some bmap)] 62, mapE bmap boolV tm, rowE V3 35 encIns lc, cellE b2 [.slice none 0 0, .slice none 0 0, .slice none 0 0, .slice none 0 0] 28, cellE b1 [Vi, Ve, Vu, Vb] 28]) 7 rfl HLF.mixed ?_
        refine Tr.hT 0 rfl (by kernel_rfl) (panicThen (panicScope panicBody)) (QS.lV rfl Tryz.isAgg22) ?_
        refine Tr.hT 1 rfl (by kernel_rfl) (panicThen (panicScope panicBody)) (QS.fieldAddr (off := 3) (ft := 23) rfl Tryz.underlying28 rfl rfl Tryz.sizeOf23 (by decide)) ?_
        refine Tr.hT 2 rfl (by kernel_rfl) (panicThen (panicScope panicBody)) (QS.lV rfl Tryz.isAgg23) ?_
        refine Tr.hAll [3, 5] (by kernel_rfl) (by simp) (fun iq hq => ?_)
        rcases List.mem_cons.1 hq with rfl | hq
        · skip
          refine Tr.hOp rfl ?_
          refine Tr.callRow rfl Tryz.call49 (fun w hw => clone_u32 bad Vb w (hw.slF hB') (by omega)) rfl (fun V20 => ?_)
          refine Tr.rowShape (.head _) (fun pb cb hpv => ?_)
          subst hpv
          refine Tr.hN ?_
          refine Tr.hT 4 rfl (by kernel_rfl) (panicThen (panicScope panicBody)) (QS.build (vs := [(0, _), (3, _)]) rfl rfl rfl) ?_
          refine Tr.hAll [5] (by kernel_rfl) (by simp) (fun iq hq => ?_)
          obtain rfl := List.mem_singleton.1 hq
          refine Tr.hOp rfl ?_
          refine Tr.alloc Tryz.zeroValue28 rfl rfl (fun b21 => ?_)
          refine Tr.hN ?_
          refine Tr.hAll [6] (by kernel_rfl) (by simp) (fun iq hq => ?_)
          obtain rfl := List.mem_singleton.1 hq
          refine Tr.hOp rfl ?_
          refine Tr.storeW rfl rfl Tryz.sizeOf28 (by repeat (first | exact Put.here _ | apply Put.there)) (by rfl) (by rfl) (by first | exact List.all_eq_true.1 rfl | exact Enc.one _ _ | (intro u hu; simp [Value.cells] at hu; simp_all [Value.oneCell'])) rfl ?_
          refine Tr.hN ?_
          refine Tr.hDone (by kernel_rfl) ?_
          refine Tr.thenN ?_
          apply Tr.joined (_, _, _)
          · exact rfl
          · exact (.cons (by first | rfl | exact lookI rfl (by omega) | exact lookI rfl (by simp) | exact lookB rfl (by simp)) Front.nil)
          · exact SubX.dropN 6 (by kernel_rfl) rfl
          · exact (by repeat' (first | exact Pick.nil _ | exact Del.here _ | apply Pick.cons | apply Del.there))
          · exact trivial
        obtain rfl := List.mem_singleton.1 hq
        refine Tr.hOp rfl ?_
        refine Tr.alloc Tryz.zeroValue28 rfl rfl (fun b22 => ?_)
        refine Tr.hN ?_
        refine Tr.hAll [3] (by kernel_rfl) (by simp) (fun iq hq => ?_)
        obtain rfl := List.mem_singleton.1 hq
        refine Tr.hOp rfl ?_
        refine Tr.callRow rfl Tryz.call49 (fun w hw => clone_u32 bad Vb w (hw.slF hB') (by omega)) rfl (fun V23 => ?_)
        refine Tr.rowShape (.head _) (fun pb cb hpv => ?_)
        subst hpv
        refine Tr.hN ?_
        refine Tr.hT 4 rfl (by kernel_rfl) (panicThen (panicScope panicBody)) (QS.build (vs := [(0, _), (3, _)]) rfl rfl rfl) ?_
        refine Tr.hAll [6] (by kernel_rfl) (by simp) (fun iq hq => ?_)
        obtain rfl := List.mem_singleton.1 hq
        refine Tr.hOp rfl ?_
        refine Tr.storeW rfl rfl Tryz.sizeOf28 (by repeat (first | exact Put.here _ | apply Put.there)) (by rfl) (by rfl) (by first | exact List.all_eq_true.1 rfl | exact Enc.one _ _ | (intro u hu; simp [Value.cells] at hu; simp_all [Value.oneCell'])) rfl ?_
        refine Tr.hN ?_
        refine Tr.hDone (by kernel_rfl) ?_
        refine Tr.thenN ?_
        apply Tr.joined (_, _, _)
        · exact rfl
        · exact (.cons (by first | rfl | exact lookI rfl (by omega) | exact lookI rfl (by simp) | exact lookB rfl (by simp)) Front.nil)
        · exact SubX.dropN 6 (by kernel_rfl) rfl
        · exact (by repeat' (first | exact Pick.nil _ | exact Del.here _ | apply Pick.cons | apply Del.there))
        · exact trivial
      · obtain ⟨b17, pb, cb⟩ := i
        replace hi : True := hi
        change Tr _ _ [cellE b17 [(.slice pa1 kp.length pc1), .slice none 0 0, .slice none 0 0, (.slice pb bad.length cb)] 28, rowE (.slice pb bad.length cb) 33 encU32 bad, rowE Vr 33 encU32 (remP lc kp), cellE b7 [(.slice pa1 kp.length pc1)] 22, rowE (.slice pa1 kp.length pc1) 35 encIns kp, rowE V6 35 encIns (ordOf (grpP ents tm) lc), cellE b5 [.func (.func 36) #[] #[.pointer (some ⟨b1, 0, none⟩), .pointer (some ⟨b4, 0, none⟩)]] 64, cellE b4 [.map (some bmap)] 62, mapE bmap boolV tm, rowE V3 35 encIns lc, cellE b2 [.slice none 0 0, .slice none 0 0, .slice none 0 0, .slice none 0 0] 28, cellE b1 [Vi, Ve, Vu, Vb] 28] ([(17, .pointer (some ⟨b17, 0, none⟩))] ++ _) _
        refine Tr.seq ?_
        refine Tr.seq ?_
        skip
        refine Tr.region ?_
        refine Tr.q (QS.fieldAddr (off := 1) (ft := 23) rfl Tryz.underlying28 rfl rfl Tryz.sizeOf23 (by decide)) rfl ?_
        refine Tr.q (QS.lV rfl Tryz.isAgg23) rfl ?_
        refine Tr.q (QS.len rfl (by assumption) Tryz.underlying23) rfl ?_
        refine Tr.q (QS.move rfl) rfl ?_
        refine Tr.nil ?_
        refine Tr.thenN ?_
        refine Tr.block ?_
        refine Tr.ownNil 33 encU32 ?_
        refine Tr.loop (ι := Nat × Value) (fun ⟨k, Ve2⟩ => k ≤ ents.length) (fun _ => _) (fun ⟨k, Ve2⟩ => [cellE b17 [(.slice pa1 kp.length pc1), Ve2, .slice none 0 0, (.slice pb bad.length cb)] 28, rowE Ve2 33 encU32 ((ents.take k).filter (inK kp)), rowE (.slice pb bad.length cb) 33 encU32 bad, rowE Vr 33 encU32 (remP lc kp), cellE b7 [(.slice pa1 kp.length pc1)] 22, rowE (.slice pa1 kp.length pc1) 35 encIns kp, rowE V6 35 encIns (ordOf (grpP ents tm) lc), cellE b5 [.func (.func 36) #[] #[.pointer (some ⟨b1, 0, none⟩), .pointer (some ⟨b4, 0, none⟩)]] 64, cellE b4 [.map (some bmap)] 62, mapE bmap boolV tm, rowE V3 35 encIns lc, cellE b2 [.slice none 0 0, .slice none 0 0, .slice none 0 0, .slice none 0 0] 28, cellE b1 [Vi, Ve, Vu, Vb] 28]) (fun ⟨k, Ve2⟩ => [(82, .int .i64 (k : Nat))]) (fun ⟨k, Ve2⟩ => ents.length - k) (0, _) (Nat.zero_le _) (.cons (by first | rfl | exact lookI rfl (by omega) | exact lookI rfl (by simp) | exact lookB rfl (by simp)) Front.nil) (by repeat' (first | exact Pick.nil _ | exact Del.here _ | apply Pick.cons | apply Del.there)) rfl (fun i hi m hm => ?_)
        obtain ⟨k, Ve2⟩ := i
        replace hi : k ≤ ents.length := hi
        replace hm : m = ents.length - k := hm
        change Tr _ _ [cellE b17 [(.slice pa1 kp.length pc1), Ve2, .slice none 0 0, (.slice pb bad.length cb)] 28, rowE Ve2 33 encU32 ((ents.take k).filter (inK kp)), rowE (.slice pb bad.length cb) 33 encU32 bad, rowE Vr 33 encU32 (remP lc kp), cellE b7 [(.slice pa1 kp.length pc1)] 22, rowE (.slice pa1 kp.length pc1) 35 encIns kp, rowE V6 35 encIns (ordOf (grpP ents tm) lc), cellE b5 [.func (.func 36) #[] #[.pointer (some ⟨b1, 0, none⟩), .pointer (some ⟨b4, 0, none⟩)]] 64, cellE b4 [.map (some bmap)] 62, mapE bmap boolV tm, rowE V3 35 encIns lc, cellE b2 [.slice none 0 0, .slice none 0 0, .slice none 0 0, .slice none 0 0] 28, cellE b1 [Vi, Ve, Vu, Vb] 28] ([(82, .int .i64 (k : Nat))] ++ _) _
        have hfl := List.length_filter_le (inK kp) (ents.take k)
        rw [List.length_take] at hfl
        refine Tr.seq ?_
        refine Tr.region ?_
        refine Tr.q (QS.lss rfl rfl) rfl ?_
        refine Tr.nil ?_
        refine Tr.thenN ?_
        refine Tr.seq ?_
        refine Tr.cond rfl (fun h24 => ?_) (fun h24 => ?_)
        · try simp only [bs] at h24
          refine Tr.skip ?_
          refine Tr.thenN ?_
          refine Tr.seq ?_
          refine Tr.block ?_
          refine Tr.seq ?_
          refine Tr.region ?_
          refine Tr.q (QS.idxN rfl rfl (by assumption) Tryz.underlying23 Tryz.sizeOf33 (by rfl) (by omega)) rfl ?_
          refine Tr.q (QS.el1 rfl (by assumption) Tryz.isAgg33 (by omega) (by rfl)) rfl ?_
          refine Tr.q (QS.assign rfl) rfl ?_
          refine Tr.nil ?_
          refine Tr.thenN ?_
          refine Tr.seq ?_
          refine Tr.region ?_
          refine Tr.q (QS.move rfl) rfl ?_
          refine Tr.q (QS.move rfl) rfl ?_
          refine Tr.q (QS.callV rfl rfl Tryz.call46 (fun w hw => resolve4_any (ents.getD k default) kp _ b7 w (cellE.cellsIn (hw.ent _ (by repeat (first | exact List.Mem.head _ | apply List.Mem.tail))) (Ext.refl _)) (hw.row (by repeat (first | exact List.Mem.head _ | apply List.Mem.tail))))) rfl ?_
          refine Tr.nil ?_
          refine Tr.thenN ?_
          refine Tr.cond rfl (fun h25 => ?_) (fun h25 => ?_)
          · try simp only [bs] at h25
            refine Tr.region ?_
            refine Tr.q (QS.fieldAddr (off := 1) (ft := 23) rfl Tryz.underlying28 rfl rfl Tryz.sizeOf23 (by decide)) rfl ?_
            refine Tr.q (QS.lV rfl Tryz.isAgg23) rfl ?_
            refine Tr.q (QS.move rfl) rfl ?_
            refine Tr.lit1 (E := encU32) _ rfl rfl Tryz.underlying23 Tryz.sizeOf33 Tryz.zeroValue33 (by rfl) (by rfl) rfl (fun V26 => ?_)
            refine Tr.append1 rfl rfl (by repeat (first | exact Del.here _ | apply Del.there)) (by repeat (first | exact Del.here _ | apply Del.there)) Tryz.underlying23 HLF.info33 (by rfl) (by rfl) (by (try simp only [List.length_cons, List.length_nil, List.length_append, List.length_take]); omega) (by unfold maxLen; (try simp only [List.length_cons, List.length_nil, List.length_append, List.length_take]); omega) rfl (fun V27 => ?_)
            refine Tr.rowShape (.head _) (fun pz qz hpv => ?_)
            subst hpv
            refine Tr.q (QS.fieldAddr (off := 1) (ft := 23) rfl Tryz.underlying28 rfl rfl Tryz.sizeOf23 (by decide)) rfl ?_
            refine Tr.storeV (cs' := [_, _, _, _]) rfl rfl Tryz.sizeOf23 (by repeat (first | exact Put.here _ | apply Put.there)) rfl (by rfl) (by first | exact Nat.le_of_ble_eq_true rfl | simp) (by first | exact List.all_eq_true.1 rfl | (intro u hu; simp [Value.cells] at hu; simp_all [Value.oneCell'])) rfl ?_
            refine Tr.nil ?_
            refine Tr.inN ?_
            refine Tr.thenN ?_
            refine Tr.region ?_
            refine Tr.q (QS.addI rfl rfl (by omega)) rfl ?_
            refine Tr.q (QS.move rfl) rfl ?_
            refine Tr.nil ?_
            refine Tr.thenN ?_
            rw [← filter_take_pos (by omega) (by assumption)]
            apply Tr.again (k + 1, _)
            · exact rfl
            · exact (.cons (by first | rfl | exact lookI rfl (by omega) | exact lookI rfl (by simp) | exact lookB rfl (by simp)) Front.nil)
            · exact SubX.dropN 16 (by kernel_rfl) rfl
            · exact (by repeat' (first | exact Pick.nil _ | exact Del.here _ | apply Pick.cons | apply Del.there))
            · exact (by show k + 1 ≤ _; omega)
            · exact (by (try dsimp only); omega)
          · try simp only [bs] at h25
            refine Tr.skip ?_
            refine Tr.inN ?_
            refine Tr.thenN ?_
            refine Tr.region ?_
            refine Tr.q (QS.addI rfl rfl (by omega)) rfl ?_
            refine Tr.q (QS.move rfl) rfl ?_
            refine Tr.nil ?_
            refine Tr.thenN ?_
            rw [← filter_take_neg (p := inK kp) (by omega) (by assumption)]
            apply Tr.again (k + 1, _)
            · exact rfl
            · exact (.cons (by first | rfl | exact lookI rfl (by omega) | exact lookI rfl (by simp) | exact lookB rfl (by simp)) Front.nil)
            · exact SubX.dropN 10 (by kernel_rfl) rfl
            · exact (by repeat' (first | exact Pick.nil _ | exact Del.here _ | apply Pick.cons | apply Del.there))
            · exact (by show k + 1 ≤ _; omega)
            · exact (by (try dsimp only); omega)
        · try simp only [bs] at h24
          refine Tr.exit ?_
          refine Tr.thenE ?_
          refine Tr.thenE ?_
          refine Tr.inHit ?_
          refine Tr.thenN ?_
          refine Tr.seq ?_
          refine Tr.seq ?_
          obtain rfl : k = ents.length := by omega
          rw [List.take_length] at *
          refine Tr.rowShape (V := Ve2) (by repeat (first | exact List.Mem.head _ | apply List.Mem.tail)) (fun pa3 pc3 hpv => ?_)
          subst hpv
          refine Tr.region ?_
          refine Tr.q (QS.fieldAddr (off := 2) (ft := 23) rfl Tryz.underlying28 rfl rfl Tryz.sizeOf23 (by decide)) rfl ?_
          refine Tr.q (QS.lV rfl Tryz.isAgg23) rfl ?_
          refine Tr.q (QS.len rfl (by assumption) Tryz.underlying23) rfl ?_
          refine Tr.q (QS.move rfl) rfl ?_
          refine Tr.nil ?_
          refine Tr.thenN ?_
          refine Tr.block ?_
          refine Tr.ownNil 33 encU32 ?_
          refine Tr.loop (ι := Nat × Value) (fun ⟨k, Vu2⟩ => k ≤ unk.length) (fun _ => _) (fun ⟨k, Vu2⟩ => [cellE b17 [(.slice pa1 kp.length pc1), (.slice pa3 (ents.filter (inK kp)).length pc3), Vu2, (.slice pb bad.length cb)] 28, rowE Vu2 33 encU32 ((unk.take k).filter (inK kp)), rowE (.slice pa3 (ents.filter (inK kp)).length pc3) 33 encU32 (ents.filter (inK kp)), rowE (.slice pb bad.length cb) 33 encU32 bad, rowE Vr 33 encU32 (remP lc kp), cellE b7 [(.slice pa1 kp.length pc1)] 22, rowE (.slice pa1 kp.length pc1) 35 encIns kp, rowE V6 35 encIns (ordOf (grpP ents tm) lc), cellE b5 [.func (.func 36) #[] #[.pointer (some ⟨b1, 0, none⟩), .pointer (some ⟨b4, 0, none⟩)]] 64, cellE b4 [.map (some bmap)] 62, mapE bmap boolV tm, rowE V3 35 encIns lc, cellE b2 [.slice none 0 0, .slice none 0 0, .slice none 0 0, .slice none 0 0] 28, cellE b1 [Vi, Ve, Vu, Vb] 28]) (fun ⟨k, Vu2⟩ => [(99, .int .i64 (k : Nat))]) (fun ⟨k, Vu2⟩ => unk.length - k) (0, _) (Nat.zero_le _) (.cons (by first | rfl | exact lookI rfl (by omega) | exact lookI rfl (by simp) | exact lookB rfl (by simp)) Front.nil) (by repeat' (first | exact Pick.nil _ | exact Del.here _ | apply Pick.cons | apply Del.there)) rfl (fun i hi m hm => ?_)
          obtain ⟨k, Vu2⟩ := i
          replace hi : k ≤ unk.length := hi
          replace hm : m = unk.length - k := hm
          change Tr _ _ [cellE b17 [(.slice pa1 kp.length pc1), (.slice pa3 (ents.filter (inK kp)).length pc3), Vu2, (.slice pb bad.length cb)] 28, rowE Vu2 33 encU32 ((unk.take k).filter (inK kp)), rowE (.slice pa3 (ents.filter (inK kp)).length pc3) 33 encU32 (ents.filter (inK kp)), rowE (.slice pb bad.length cb) 33 encU32 bad, rowE Vr 33 encU32 (remP lc kp), cellE b7 [(.slice pa1 kp.length pc1)] 22, rowE (.slice pa1 kp.length pc1) 35 encIns kp, rowE V6 35 encIns (ordOf (grpP ents tm) lc), cellE b5 [.func (.func 36) #[] #[.pointer (some ⟨b1, 0, none⟩), .pointer (some ⟨b4, 0, none⟩)]] 64, cellE b4 [.map (some bmap)] 62, mapE bmap boolV tm, rowE V3 35 encIns lc, cellE b2 [.slice none 0 0, .slice none 0 0, .slice none 0 0, .slice none 0 0] 28, cellE b1 [Vi, Ve, Vu, Vb] 28] ([(99, .int .i64 (k : Nat))] ++ _) _
          have hfl := List.length_filter_le (inK kp) (unk.take k)
          rw [List.length_take] at hfl
          refine Tr.seq ?_
          refine Tr.region ?_
          refine Tr.q (QS.lss rfl rfl) rfl ?_
          refine Tr.nil ?_
          refine Tr.thenN ?_
          refine Tr.seq ?_
          refine Tr.cond rfl (fun h28 => ?_) (fun h28 => ?_)
          · try simp only [bs] at h28
            refine Tr.skip ?_
            refine Tr.thenN ?_
            refine Tr.seq ?_
            refine Tr.block ?_
            refine Tr.seq ?_
            refine Tr.region ?_
            refine Tr.q (QS.idxN rfl rfl (by assumption) Tryz.underlying23 Tryz.sizeOf33 (by rfl) (by omega)) rfl ?_
            refine Tr.q (QS.el1 rfl (by assumption) Tryz.isAgg33 (by omega) (by rfl)) rfl ?_
            refine Tr.q (QS.assign rfl) rfl ?_
            refine Tr.nil ?_
            refine Tr.thenN ?_
            refine Tr.seq ?_
            refine Tr.region ?_
            refine Tr.q (QS.move rfl) rfl ?_
            refine Tr.q (QS.move rfl) rfl ?_
            refine Tr.q (QS.callV rfl rfl Tryz.call46 (fun w hw => resolve4_any (unk.getD k default) kp _ b7 w (cellE.cellsIn (hw.ent _ (by repeat (first | exact List.Mem.head _ | apply List.Mem.tail))) (Ext.refl _)) (hw.row (by repeat (first | exact List.Mem.head _ | apply List.Mem.tail))))) rfl ?_
            refine Tr.nil ?_
            refine Tr.thenN ?_
            refine Tr.cond rfl (fun h29 => ?_) (fun h29 => ?_)
            · try simp only [bs] at h29
              refine Tr.region ?_
              refine Tr.q (QS.fieldAddr (off := 2) (ft := 23) rfl Tryz.underlying28 rfl rfl Tryz.sizeOf23 (by decide)) rfl ?_
              refine Tr.q (QS.lV rfl Tryz.isAgg23) rfl ?_
              refine Tr.q (QS.move rfl) rfl ?_
              refine Tr.lit1 (E := encU32) _ rfl rfl Tryz.underlying23 Tryz.sizeOf33 Tryz.zeroValue33 (by rfl) (by rfl) rfl (fun V30 => ?_)
              refine Tr.append1 rfl rfl (by repeat (first | exact Del.here _ | apply Del.there)) (by repeat (first | exact Del.here _ | apply Del.there)) Tryz.underlying23 HLF.info33 (by rfl) (by rfl) (by (try simp only [List.length_cons, List.length_nil, List.length_append, List.length_take]); omega) (by unfold maxLen; (try simp only [List.length_cons, List.length_nil, List.length_append, List.length_take]); omega) rfl (fun V31 => ?_)
              refine Tr.rowShape (.head _) (fun pz qz hpv => ?_)
              subst hpv
              refine Tr.q (QS.fieldAddr (off := 2) (ft := 23) rfl Tryz.underlying28 rfl rfl Tryz.sizeOf23 (by decide)) rfl ?_
              refine Tr.storeV (cs' := [_, _, _, _]) rfl rfl Tryz.sizeOf23 (by repeat (first | exact Put.here _ | apply Put.there)) rfl (by rfl) (by first | exact Nat.le_of_ble_eq_true rfl | simp) (by first | exact List.all_eq_true.1 rfl | (intro u hu; simp [Value.cells] at hu; simp_all [Value.oneCell'])) rfl ?_
              refine Tr.nil ?_
              refine Tr.inN ?_
              refine Tr.thenN ?_
              refine Tr.region ?_
              refine Tr.q (QS.addI rfl rfl (by omega)) rfl ?_
              refine Tr.q (QS.move rfl) rfl ?_
              refine Tr.nil ?_
              refine Tr.thenN ?_
              rw [← filter_take_pos (by omega) (by assumption)]
              apply Tr.again (k + 1, _)
              · exact rfl
              · exact (.cons (by first | rfl | exact lookI rfl (by omega) | exact lookI rfl (by simp) | exact lookB rfl (by simp)) Front.nil)
              · exact SubX.dropN 16 (by kernel_rfl) rfl
              · exact (by repeat' (first | exact Pick.nil _ | exact Del.here _ | apply Pick.cons | apply Del.there))
              · exact (by show k + 1 ≤ _; omega)
              · exact (by (try dsimp only); omega)
            · try simp only [bs] at h29
              refine Tr.skip ?_
              refine Tr.inN ?_
              refine Tr.thenN ?_
              refine Tr.region ?_
              refine Tr.q (QS.addI rfl rfl (by omega)) rfl ?_
              refine Tr.q (QS.move rfl) rfl ?_
              refine Tr.nil ?_
              refine Tr.thenN ?_
              rw [← filter_take_neg (p := inK kp) (by omega) (by assumption)]
              apply Tr.again (k + 1, _)
              · exact rfl
              · exact (.cons (by first | rfl | exact lookI rfl (by omega) | exact lookI rfl (by simp) | exact lookB rfl (by simp)) Front.nil)
              · exact SubX.dropN 10 (by kernel_rfl) rfl
              · exact (by repeat' (first | exact Pick.nil _ | exact Del.here _ | apply Pick.cons | apply Del.there))
              · exact (by show k + 1 ≤ _; omega)
              · exact (by (try dsimp only); omega)
          · try simp only [bs] at h28
            refine Tr.exit ?_
            refine Tr.thenE ?_
            refine Tr.thenE ?_
            refine Tr.inHit ?_
            refine Tr.thenN ?_
            refine Tr.seq ?_
            obtain rfl : k = unk.length := by omega
            rw [List.take_length] at *
            refine Tr.rowShape (V := Vu2) (by repeat (first | exact List.Mem.head _ | apply List.Mem.tail)) (fun pa4 pc4 hpv => ?_)
            subst hpv
            refine Tr.region ?_
            refine Tr.q (QS.lW rfl Tryz.isAgg28 Tryz.sizeOf28) rfl ?_
            refine Tr.q (QS.move rfl) rfl ?_
            refine Tr.storeW rfl rfl Tryz.sizeOf28 (by repeat (first | exact Put.here _ | apply Put.there)) (by rfl) (by rfl) (by first | exact List.all_eq_true.1 rfl | exact Enc.one _ _ | (intro u hu; simp [Value.cells] at hu; simp_all [Value.oneCell'])) rfl ?_
            refine Tr.q (QS.assign rfl) rfl ?_
            refine Tr.nil ?_
            refine Tr.thenN ?_
            refine Tr.ret ?_
            refine Tr.scopeR ?_
            refine Tr.retC2 Tryz.results12 rfl rfl (by repeat (first | exact List.Mem.head _ | apply List.Mem.tail)) Tryz.isAgg28 Tryz.sizeOf28 (by rfl) (fun w' hw => ?_)
            subst hkp htm hlc
            exact ⟨(_, _, _, _, _), rfl, hw.below (Bg.le.refl _), hw.ents (w := w0) (Bg.le.refl _) (by repeat' (first | exact Pick.nil _ | exact Del.here _ | apply Pick.cons | apply Del.there))⟩
end Go.Proofs.YtmhbfelnjkhepaaGreat
namespace Go.HL
open Go Go.Sort
open Go.Proofs (ltOf)
section
variable {α : Type} [DecidableEq α] [Inhabited α]
/-- How many at the front satisfy p. -/
def idxW (p : α → Bool) (l : List α) : Nat := (l.takeWhile p).length
theorem idxW_le (p : α → Bool) (l : List α) : idxW p l ≤ l.length := by
  unfold idxW
  exact List.Sublist.length_le (List.takeWhile_sublist _)
theorem idxW_lt {p : α → Bool} : ∀ {l : List α} {j : Nat}, j < idxW p l → p (l.getD j default) = true
  | [], j, h => by simp [idxW] at h
  | x :: t, j, h => by
    unfold idxW at h
    rw [List.takeWhile_cons] at h
    split at h
    · rename_i hx
      cases j with
      | zero => exact hx
      | succ j => simpa [List.getD_eq_getElem?_getD] using idxW_lt (p := p) (l := t) (j := j) (by unfold idxW; simpa using h)
    · simp at h
theorem idxW_stop {p : α → Bool} : ∀ {l : List α}, idxW p l < l.length → p (l.getD (idxW p l) default) = false
  | [], h => by simp at h
  | x :: t, h => by
    unfold idxW at h ⊢
    rw [List.takeWhile_cons] at h ⊢
    split at h
    · rename_i hx
      rw [if_pos hx]
      have ih := idxW_stop (p := p) (l := t) (by unfold idxW; simpa using h)
      unfold idxW at ih
      simpa [List.getD_eq_getElem?_getD] using ih
    · rename_i hx; rw [if_neg hx]; simpa using hx
def insR (lt : α → α → Bool) (l : List α) (x : α) : List α :=
  if idxW (fun y => lt y x) l < l.length ∧ l.getD (idxW (fun y => lt y x) l) default = x then l else l.take (idxW (fun y => lt y x) l) ++ [x] ++ l.drop (idxW (fun y => lt y x) l)
/-- A strict order in which any two differ or are the same. -/
structure LO (lt : α → α → Bool) : Prop where
  irr : ∀ x, lt x x = false
  tr : ∀ x y z, lt x y = true → lt y z = true → lt x z = true
  tri : ∀ x y, lt x y = false → lt y x = false → x = y
theorem insR_mem {lt : α → α → Bool} {l : List α} {x y : α} : y ∈ insR lt l x ↔ y ∈ l ∨ y = x := by
  unfold insR
  split
  · rename_i h
    refine ⟨.inl, fun h2 => ?_⟩
    rcases h2 with h2 | rfl
    · exact h2
    · rw [← h.2]; exact mem_getD h.1
  · rw [List.mem_append, List.mem_append, List.mem_singleton]
    constructor
    · rintro ((h | h) | h)
      · exact .inl (List.mem_of_mem_take h)
      · exact .inr h
      · exact .inl (List.mem_of_mem_drop h)
    · rintro (h | h)
      · rw [← List.take_append_drop (idxW (fun y => lt y x) l) l] at h
        rcases List.mem_append.1 h with h | h
        · exact .inl (.inl h)
        · exact .inr h
      · exact .inl (.inr h)
theorem pair_get {R : α → α → Prop} {l : List α} (h : l.Pairwise R) {i j : Nat} (hi : i < j) (hj : j < l.length) : R (l.getD i default) (l.getD j default) := by
  have := List.pairwise_iff_getElem.1 h i j (by omega) hj hi
  rw [List.getD_eq_getElem?_getD, List.getD_eq_getElem?_getD, List.getElem?_eq_getElem (by omega), List.getElem?_eq_getElem hj]
  exact this
theorem insR_sorted {lt : α → α → Bool} (hO : LO lt) {l : List α} {x : α} (h : l.Pairwise fun a b => lt a b = true) : (insR lt l x).Pairwise fun a b => lt a b = true := by
  unfold insR
  split
  · exact h
  · rename_i hne
    have hp := h
    have h1 : ∀ a ∈ l.take (idxW (fun y => lt y x) l), lt a x = true := fun a ha => by
      obtain ⟨j, hj, rfl⟩ := List.mem_take_iff_getElem.1 ha
      have := idxW_lt (p := fun y => lt y x) (l := l) (j := j) (by omega)
      rw [List.getD_eq_getElem?_getD, List.getElem?_eq_getElem (by omega)] at this
      exact this
    have h2 : ∀ b ∈ l.drop (idxW (fun y => lt y x) l), lt x b = true := fun b hb => by
      obtain ⟨j, hj, rfl⟩ := List.mem_drop_iff_getElem.1 hb
      have hlt : idxW (fun y => lt y x) l < l.length := by omega
      have hs := idxW_stop (p := fun y => lt y x) hlt
      have hx : lt x (l.getD (idxW (fun y => lt y x) l) default) = true := by
        cases c : lt x (l.getD (idxW (fun y => lt y x) l) default)
        · exact absurd ⟨hlt, hO.tri _ _ hs c⟩ hne
        · rfl
      have e : l[idxW (fun y => lt y x) l + j] = l.getD (idxW (fun y => lt y x) l + j) default := by rw [List.getD_eq_getElem?_getD, List.getElem?_eq_getElem (by omega)]; rfl
      rw [e]
      by_cases c : j = 0
      · subst c; exact hx
      · exact hO.tr _ _ _ hx (pair_get hp (by omega) (by omega))
    rw [List.append_assoc]
    refine List.pairwise_append.2 ⟨h.sublist (List.take_sublist _ _), List.pairwise_append.2 ⟨by simp, h.sublist (List.drop_sublist _ _), fun a ha b hb => ?_⟩, fun a ha b hb => ?_⟩
    · simp at ha; subst ha; exact h2 b hb
    · rcases List.mem_append.1 hb with hb | hb
      · simp at hb; subst hb; exact h1 a ha
      · exact hO.tr _ _ _ (h1 a ha) (h2 b hb)
/-- Strictly ascending lists with the same elements are the same. -/
theorem so_uniq {lt : α → α → Bool} (irr : ∀ x, lt x x = false) (tr : ∀ x y z, lt x y = true → lt y z = true → lt x z = true) : ∀ (l m : List α), l.Pairwise (fun a b => lt a b = true) → m.Pairwise (fun a b => lt a b = true) → (∀ x, x ∈ l ↔ x ∈ m) → l = m
  | [], [], _, _, _ => rfl
  | [], y :: m, _, _, h => absurd ((h y).2 (.head _)) (by simp)
  | x :: l, [], _, _, h => absurd ((h x).1 (.head _)) (by simp)
  | x :: l, y :: m, h1, h2, h => by
    have p1 := List.pairwise_cons.1 h1
    have p2 := List.pairwise_cons.1 h2
    have e : x = y := by
      rcases List.mem_cons.1 ((h x).1 (.head _)) with e | hx
      · exact e
      · rcases List.mem_cons.1 ((h y).2 (.head _)) with e | hy
        · exact e.symm
        · have := tr _ _ _ (p2.1 x hx) (p1.1 y hy)
          rw [irr] at this; cases this
    subst e
    have : l = m := so_uniq irr tr l m p1.2 p2.2 fun z => by
      constructor
      · intro hz
        rcases List.mem_cons.1 ((h z).1 (.tail _ hz)) with e | hm
        · subst e; have := p1.1 z hz; rw [irr] at this; cases this
        · exact hm
      · intro hz
        rcases List.mem_cons.1 ((h z).2 (.tail _ hz)) with e | hm
        · subst e; have := p2.1 z hz; rw [irr] at this; cases this
        · exact hm
    rw [this]
theorem lo_uniq {lt : α → α → Bool} (hO : LO lt) (l m : List α) (h1 : l.Pairwise fun a b => lt a b = true) (h2 : m.Pairwise fun a b => lt a b = true) (h : ∀ x, x ∈ l ↔ x ∈ m) : l = m := so_uniq hO.irr hO.tr l m h1 h2 h
theorem compact_mem {lt : α → α → Bool} : ∀ (x : α) (l : List α) (y : α), y ∈ x :: compF x l ↔ y ∈ x :: l
  | x, [], y => by simp [compF]
  | x, z :: t, y => by
    unfold compF
    split
    · rename_i e
      subst e
      rw [compact_mem (lt := lt) z t y]; simp
    · rw [List.mem_cons, compact_mem (lt := lt) z t y]; simp
/-- A sorted list without repeats. -/
theorem compact_lo {lt : α → α → Bool} (hO : LO lt) {l : List α} (h : l.Pairwise fun a b => lt b a = false) : (compactP l).Pairwise (fun a b => lt a b = true) ∧ ∀ y, y ∈ compactP l ↔ y ∈ l := by
  have key : ∀ (t : List α) (x : α), (x :: t).Pairwise (fun a b => lt b a = false) → (x :: compF x t).Pairwise (fun a b => lt a b = true) := by
    intro t
    induction t with
    | nil => intro x _; simp [compF]
    | cons z t ih =>
      intro x hx
      have hp := List.pairwise_cons.1 hx
      have hp2 := List.pairwise_cons.1 hp.2
      unfold compF
      split
      · rename_i e; subst e; exact ih z hp.2
      · rename_i hne
        refine List.pairwise_cons.2 ⟨fun y hy => ?_, ih z hp.2⟩
        have hxz : lt x z = true := by
          cases c : lt x z
          · exact absurd (hO.tri _ _ (hp.1 z (.head _)) c) hne
          · rfl
        have hy' := (compact_mem (lt := lt) z t y).1 hy
        rcases List.mem_cons.1 hy' with e | hy'
        · subst e; exact hxz
        · cases c : lt z y
          · have := hO.tri _ _ c (hp2.1 y hy')
            rw [← this]; exact hxz
          · exact hO.tr _ _ _ hxz c
  cases l with
  | nil => exact ⟨by simp [compactP], fun y => by simp [compactP]⟩
  | cons x t => exact ⟨key t x h, fun y => compact_mem (lt := lt) x t y⟩
end
def ltB (x y : Rng) : Bool := decide (x.lo < y.lo) || (decide (x.lo = y.lo) && decide (x.hi < y.hi))
theorem ltB_iff {x y : Rng} : ltB x y = true ↔ ltPr x y := by
  unfold ltB ltPr
  simp only [Bool.or_eq_true, Bool.and_eq_true, decide_eq_true_eq, UInt32.lt_iff_toNat_lt, ← UInt32.toNat_inj]
theorem ltB_eq (x y : Rng) : ltOf cmpPr x y = ltB x y := by
  rw [Bool.eq_iff_iff, ltOf_cmpPr, ltB_iff]
theorem lo_ltB : LO ltB where
  irr x := by
    cases h : ltB x x
    · rfl
    · have := ltB_iff.1 h; unfold ltPr at this; omega
  tr x y z h1 h2 := by rw [ltB_iff] at *; unfold ltPr at *; omega
  tri x y h1 h2 := by
    have n1 : ¬ ltPr x y := fun q => by rw [ltB_iff.2 q] at h1; cases h1
    have n2 : ¬ ltPr y x := fun q => by rw [ltB_iff.2 q] at h2; cases h2
    unfold ltPr at *
    exact rng_ext (UInt32.toNat_inj.1 (by omega)) (UInt32.toNat_inj.1 (by omega))
def ltU (x y : UInt32) : Bool := decide (x < y)
theorem lo_ltU : LO ltU where
  irr x := by simp [ltU]
  tr x y z h1 h2 := by simp only [ltU, decide_eq_true_eq, UInt32.lt_iff_toNat_lt] at *; omega
  tri x y h1 h2 := by
    simp only [ltU, decide_eq_false_iff_not, UInt32.lt_iff_toNat_lt] at *
    exact UInt32.toNat_inj.1 (by omega)
def insU (l : List UInt32) (x : UInt32) : List UInt32 := insR ltU l x
def rconfP (a b : Ins) : Bool := (((decide (a.addr ≠ b.addr) && decide (errP a = 0)) && decide (errP b = 0)) && decide ((a.addr.toNat : Int) < endI b)) && decide ((b.addr.toNat : Int) < endI a)
def ovP (a b : Ins) : Bool := decide (a.addr < b.addr) && rconfP a b
theorem len_pos {i : Ins} : 0 < lengthPI i ↔ errP i = 0 := by
  unfold lengthPI
  split
  · rename_i h
    have := (enc_facts0 i)
    constructor
    · intro _; exact h
    · intro _
      unfold sizeP
      repeat' split
      all_goals omega
  · rename_i h; constructor
    · intro q; omega
    · intro q; exact absurd q h
where enc_facts0 (i : Ins) : True := trivial
theorem conf_iff {a b : Ins} : conflP a b = true ↔ a.addr.toNat ≠ b.addr.toNat ∧ errP a = 0 ∧ errP b = 0 ∧ (a.addr.toNat : Int) < endI b ∧ (b.addr.toNat : Int) < endI a := by
  have e : a.addr ≠ b.addr ↔ a.addr.toNat ≠ b.addr.toNat := by rw [Ne, Ne, UInt32.toNat_inj]
  unfold conflP
  simp only [Bool.and_eq_true, decide_eq_true_eq, len_pos, mxU_val, e]
  have h1 := len_rng a
  have h2 := len_rng b
  unfold endI
  constructor
  · rintro ⟨⟨⟨q1, q2⟩, q3⟩, q4⟩; refine ⟨q1, q2, q3, ?_, ?_⟩ <;> omega
  · rintro ⟨q1, q2, q3, q4, q5⟩
    have p1 := len_pos.2 q2
    have p2 := len_pos.2 q3
    exact ⟨⟨⟨q1, q2⟩, q3⟩, by omega⟩
theorem rconf_eq (a b : Ins) : rconfP a b = conflP a b := by
  rw [Bool.eq_iff_iff, conf_iff]
  have e : a.addr ≠ b.addr ↔ a.addr.toNat ≠ b.addr.toNat := by rw [Ne, Ne, UInt32.toNat_inj]
  unfold rconfP
  simp only [Bool.and_eq_true, decide_eq_true_eq, e]
  exact ⟨fun ⟨⟨⟨⟨q1, q2⟩, q3⟩, q4⟩, q5⟩ => ⟨q1, q2, q3, q4, q5⟩, fun ⟨q1, q2, q3, q4, q5⟩ => ⟨⟨⟨⟨q1, q2⟩, q3⟩, q4⟩, q5⟩⟩
theorem conf_sym (a b : Ins) : conflP a b = conflP b a := by
  rw [Bool.eq_iff_iff, conf_iff, conf_iff]
  exact ⟨fun ⟨q1, q2, q3, q4, q5⟩ => ⟨Ne.symm q1, q3, q2, q5, q4⟩, fun ⟨q1, q2, q3, q4, q5⟩ => ⟨Ne.symm q1, q3, q2, q5, q4⟩⟩
def rin (a : Ins) (out : List Rng) (b : Ins) : List Rng := if ovP a b = true then insR ltB out ⟨a.addr, b.addr⟩ else out
def rout (l : List Ins) (out : List Rng) (a : Ins) : List Rng := l.foldl (rin a) out
def rconfL (l : List Ins) : List Rng := l.foldl (rout l) []
theorem rin_ok {a : Ins} : ∀ (xs : List Ins) (out : List Rng), out.Pairwise (fun x y => ltB x y = true) → (xs.foldl (rin a) out).Pairwise (fun x y => ltB x y = true) ∧ ∀ p, p ∈ xs.foldl (rin a) out ↔ p ∈ out ∨ ∃ b ∈ xs, ovP a b = true ∧ p = ⟨a.addr, b.addr⟩
  | [], out, h => ⟨h, fun p => by simp⟩
  | b :: t, out, h => by
    by_cases c : ovP a b = true
    · have e : rin a out b = insR ltB out ⟨a.addr, b.addr⟩ := by rw [rin, if_pos c]
      obtain ⟨h1, h2⟩ := rin_ok t (rin a out b) (by rw [e]; exact insR_sorted lo_ltB h)
      refine ⟨h1, fun p => ?_⟩
      rw [List.foldl_cons, h2, e, insR_mem]
      constructor
      · rintro ((q | q) | ⟨x, hx, q⟩)
        · exact .inl q
        · exact .inr ⟨b, .head _, c, q⟩
        · exact .inr ⟨x, .tail _ hx, q⟩
      · rintro (q | ⟨x, hx, q1, q2⟩)
        · exact .inl (.inl q)
        · rcases List.mem_cons.1 hx with rfl | hx
          · exact .inl (.inr q2)
          · exact .inr ⟨x, hx, q1, q2⟩
    · have e : rin a out b = out := by rw [rin, if_neg c]
      obtain ⟨h1, h2⟩ := rin_ok t (rin a out b) (by rw [e]; exact h)
      refine ⟨h1, fun p => ?_⟩
      rw [List.foldl_cons, h2, e]
      constructor
      · rintro (q | ⟨x, hx, q⟩)
        · exact .inl q
        · exact .inr ⟨x, .tail _ hx, q⟩
      · rintro (q | ⟨x, hx, q1, q2⟩)
        · exact .inl q
        · rcases List.mem_cons.1 hx with rfl | hx
          · exact absurd q1 c
          · exact .inr ⟨x, hx, q1, q2⟩
theorem rout_ok {l : List Ins} : ∀ (xs : List Ins) (out : List Rng), out.Pairwise (fun x y => ltB x y = true) → (xs.foldl (rout l) out).Pairwise (fun x y => ltB x y = true) ∧ ∀ p, p ∈ xs.foldl (rout l) out ↔ p ∈ out ∨ ∃ a ∈ xs, ∃ b ∈ l, ovP a b = true ∧ p = ⟨a.addr, b.addr⟩
  | [], out, h => ⟨h, fun p => by simp⟩
  | a :: t, out, h => by
    obtain ⟨k1, k2⟩ := rin_ok (a := a) l out h
    obtain ⟨h1, h2⟩ := rout_ok t (rout l out a) k1
    refine ⟨h1, fun p => ?_⟩
    rw [List.foldl_cons, h2]
    show (p ∈ l.foldl (rin a) out ∨ _) ↔ _
    rw [k2]
    constructor
    · rintro ((q | ⟨b, hb, q⟩) | ⟨x, hx, q⟩)
      · exact .inl q
      · exact .inr ⟨a, .head _, b, hb, q⟩
      · exact .inr ⟨x, .tail _ hx, q⟩
    · rintro (q | ⟨x, hx, q⟩)
      · exact .inl (.inl q)
      · rcases List.mem_cons.1 hx with rfl | hx
        · exact .inl (.inr q)
        · exact .inr ⟨x, hx, q⟩
theorem rconf_ok (l : List Ins) : (rconfL l).Pairwise (fun x y => ltB x y = true) ∧ ∀ p, p ∈ rconfL l ↔ ∃ a ∈ l, ∃ b ∈ l, ovP a b = true ∧ p = ⟨a.addr, b.addr⟩ := by
  obtain ⟨h1, h2⟩ := rout_ok (l := l) l [] (by simp)
  exact ⟨h1, fun p => by unfold rconfL; rw [h2]; simp⟩
/-- What stands in the program's list of pairs, before it is sorted. -/
theorem outer_mem {f : Ins → Ins → Rng} {l : List Ins} {p : Rng} : p ∈ outer f l l.length ↔ ∃ i j, j < i ∧ i < l.length ∧ conflP (l.getD i default) (l.getD j default) = true ∧ p = f (l.getD i default) (l.getD j default) := by
  unfold outer inner
  simp only [List.mem_flatMap, List.mem_range, List.mem_map, List.mem_filter]
  constructor
  · rintro ⟨i, hi, b, ⟨hb, hc⟩, rfl⟩
    obtain ⟨j, hj, rfl⟩ := List.mem_take_iff_getElem.1 hb
    have e : l[j] = l.getD j default := by rw [List.getD_eq_getElem?_getD, List.getElem?_eq_getElem (by omega)]; rfl
    rw [e] at hc ⊢
    exact ⟨i, j, by omega, hi, hc, rfl⟩
  · rintro ⟨i, j, hj, hi, hc, rfl⟩
    refine ⟨i, hi, _, ⟨?_, hc⟩, rfl⟩
    rw [List.mem_take_iff_getElem]
    exact ⟨j, by omega, by rw [List.getD_eq_getElem?_getD, List.getElem?_eq_getElem (by omega)]; rfl⟩
theorem cond_pair {a b : Ins} (h : conflP a b = true) : (a.addr < b.addr ∧ pairR a b = ⟨a.addr, b.addr⟩ ∧ shareR a b = ⟨b.addr, u32 (min (min (endI a) (endI b)) 4294967295)⟩) ∨ (b.addr < a.addr ∧ pairR a b = ⟨b.addr, a.addr⟩ ∧ shareR a b = ⟨a.addr, u32 (min (min (endI a) (endI b)) 4294967295)⟩) := by
  have hne := (conf_iff.1 h).1
  by_cases c : a.addr < b.addr
  · have c' := UInt32.lt_iff_toNat_lt.1 c
    refine .inl ⟨c, rng_ext (UInt32.toNat_inj.1 ?_) (UInt32.toNat_inj.1 ?_), rng_ext (UInt32.toNat_inj.1 ?_) rfl⟩
    · show (mnU _ _).toNat = _; rw [mnU_val]; show _ = a.addr.toNat; omega
    · show (mxU _ _).toNat = _; rw [mxU_val]; show _ = b.addr.toNat; omega
    · show (mxU _ _).toNat = _; rw [mxU_val]; show _ = b.addr.toNat; omega
  · have c' : b.addr < a.addr := by rw [UInt32.lt_iff_toNat_lt] at c ⊢; omega
    have c2 := UInt32.lt_iff_toNat_lt.1 c'
    refine .inr ⟨c', rng_ext (UInt32.toNat_inj.1 ?_) (UInt32.toNat_inj.1 ?_), rng_ext (UInt32.toNat_inj.1 ?_) rfl⟩
    · show (mnU _ _).toNat = _; rw [mnU_val]; show _ = b.addr.toNat; omega
    · show (mxU _ _).toNat = _; rw [mxU_val]; show _ = a.addr.toNat; omega
    · show (mxU _ _).toNat = _; rw [mxU_val]; show _ = a.addr.toNat; omega
theorem mem_idx {l : List Ins} {x : Ins} (h : x ∈ l) : ∃ i, i < l.length ∧ l.getD i default = x := by
  obtain ⟨i, hi, e⟩ := List.mem_iff_getElem.1 h
  exact ⟨i, hi, by rw [List.getD_eq_getElem?_getD, List.getElem?_eq_getElem hi]; exact e⟩
theorem conf_pairs {l : List Ins} {p : Rng} : p ∈ outer pairR l l.length ↔ ∃ a ∈ l, ∃ b ∈ l, ovP a b = true ∧ p = ⟨a.addr, b.addr⟩ := by
  rw [outer_mem]
  constructor
  · rintro ⟨i, j, hj, hi, hc, rfl⟩
    rcases cond_pair hc with ⟨h1, h2, _⟩ | ⟨h1, h2, _⟩
    · exact ⟨_, mem_getD hi, _, mem_getD (k := j) (by omega), by rw [ovP, decide_eq_true h1, rconf_eq, hc]; rfl, h2⟩
    · exact ⟨_, mem_getD (k := j) (by omega), _, mem_getD hi, by rw [ovP, decide_eq_true h1, rconf_eq, conf_sym, hc]; rfl, h2⟩
  · rintro ⟨a, ha, b, hb, hc, rfl⟩
    rw [ovP, Bool.and_eq_true, decide_eq_true_eq, rconf_eq] at hc
    obtain ⟨i, hi, rfl⟩ := mem_idx ha
    obtain ⟨j, hj, rfl⟩ := mem_idx hb
    have hlt := UInt32.lt_iff_toNat_lt.1 hc.1
    rcases Nat.lt_trichotomy i j with q | q | q
    · refine ⟨j, i, q, hj, by rw [conf_sym]; exact hc.2, ?_⟩
      rcases cond_pair (by rw [conf_sym]; exact hc.2 : conflP (l.getD j default) (l.getD i default) = true) with ⟨h1, _⟩ | ⟨_, h2, _⟩
      · rw [UInt32.lt_iff_toNat_lt] at h1; omega
      · exact h2.symm
    · subst q; omega
    · refine ⟨i, j, q, hi, hc.2, ?_⟩
      rcases cond_pair hc.2 with ⟨_, h2, _⟩ | ⟨h1, _⟩
      · exact h2.symm
      · rw [UInt32.lt_iff_toNat_lt] at h1; omega
theorem conf_mem (l : List Ins) : (confP l).Pairwise (fun x y => ltB x y = true) ∧ ∀ p, p ∈ confP l ↔ ∃ a ∈ l, ∃ b ∈ l, ovP a b = true ∧ p = ⟨a.addr, b.addr⟩ := by
  have hs := sortP_sorted swo_cmpPr (outer pairR l l.length)
  have hp := sortP_perm swo_cmpPr (outer pairR l l.length)
  obtain ⟨h1, h2⟩ := compact_lo lo_ltB (l := sortP (ltOf cmpPr) (outer pairR l l.length)) (hs.imp fun {a b} h => by rw [← ltB_eq]; exact h)
  exact ⟨h1, fun p => by unfold confP; rw [h2, hp.mem_iff, conf_pairs]⟩
theorem conf_ref (l : List Ins) : confP l = rconfL l := by
  obtain ⟨h1, h2⟩ := conf_mem l
  obtain ⟨k1, k2⟩ := rconf_ok l
  exact lo_uniq lo_ltB _ _ h1 k1 fun p => by rw [h2, k2]
def rsin (a : Ins) (xs : List Ins) : List Rng := (xs.filter (ovP a)).map fun b => ⟨b.addr, u32 (min (min (endI a) (endI b)) 4294967295)⟩
def rshL (l : List Ins) (k : Nat) : List Rng := (List.range k).flatMap fun i => rsin (l.getD i default) l
theorem rsh_mem {l : List Ins} {p : Rng} : p ∈ rshL l l.length ↔ ∃ a ∈ l, ∃ b ∈ l, ovP a b = true ∧ p = ⟨b.addr, u32 (min (min (endI a) (endI b)) 4294967295)⟩ := by
  unfold rshL rsin
  simp only [List.mem_flatMap, List.mem_range, List.mem_map, List.mem_filter]
  constructor
  · rintro ⟨i, hi, b, ⟨hb, hc⟩, rfl⟩
    exact ⟨_, mem_getD hi, b, hb, hc, rfl⟩
  · rintro ⟨a, ha, b, hb, hc, rfl⟩
    obtain ⟨i, hi, rfl⟩ := mem_idx ha
    exact ⟨i, hi, b, ⟨hb, hc⟩, rfl⟩
theorem share_mem {l : List Ins} {p : Rng} : p ∈ outer shareR l l.length ↔ ∃ a ∈ l, ∃ b ∈ l, ovP a b = true ∧ p = ⟨b.addr, u32 (min (min (endI a) (endI b)) 4294967295)⟩ := by
  rw [outer_mem]
  constructor
  · rintro ⟨i, j, hj, hi, hc, rfl⟩
    rcases cond_pair hc with ⟨h1, _, h2⟩ | ⟨h1, _, h2⟩
    · exact ⟨_, mem_getD hi, _, mem_getD (k := j) (by omega), by rw [ovP, decide_eq_true h1, rconf_eq, hc]; rfl, h2⟩
    · exact ⟨_, mem_getD (k := j) (by omega), _, mem_getD hi, by rw [ovP, decide_eq_true h1, rconf_eq, conf_sym, hc]; rfl, by rw [h2, show min (endI (l.getD i default)) (endI (l.getD j default)) = min (endI (l.getD j default)) (endI (l.getD i default)) by omega]⟩
  · rintro ⟨a, ha, b, hb, hc, rfl⟩
    rw [ovP, Bool.and_eq_true, decide_eq_true_eq, rconf_eq] at hc
    obtain ⟨i, hi, rfl⟩ := mem_idx ha
    obtain ⟨j, hj, rfl⟩ := mem_idx hb
    have hlt := UInt32.lt_iff_toNat_lt.1 hc.1
    rcases Nat.lt_trichotomy i j with q | q | q
    · refine ⟨j, i, q, hj, by rw [conf_sym]; exact hc.2, ?_⟩
      rcases cond_pair (by rw [conf_sym]; exact hc.2 : conflP (l.getD j default) (l.getD i default) = true) with ⟨h1, _⟩ | ⟨_, _, h2⟩
      · rw [UInt32.lt_iff_toNat_lt] at h1; omega
      · rw [h2, show min (endI (l.getD j default)) (endI (l.getD i default)) = min (endI (l.getD i default)) (endI (l.getD j default)) by omega]
    · subst q; omega
    · refine ⟨i, j, q, hi, hc.2, ?_⟩
      rcases cond_pair hc.2 with ⟨_, _, h2⟩ | ⟨h1, _⟩
      · exact h2.symm
      · rw [UInt32.lt_iff_toNat_lt] at h1; omega
theorem share_ref (l : List Ins) : sharP l = normalP (rshL l l.length) := by
  obtain ⟨h1, h2⟩ := normal_ok (outer shareR l l.length)
  obtain ⟨k1, k2⟩ := normal_ok (rshL l l.length)
  refine Norm.unique _ _ h1 k1 fun n => ?_
  rw [show sharP l = normalP (outer shareR l l.length) from rfl, h2, k2]
  unfold Has
  constructor
  · rintro ⟨r, hr, q⟩; exact ⟨r, rsh_mem.2 (share_mem.1 hr), q⟩
  · rintro ⟨r, hr, q⟩; exact ⟨r, share_mem.2 (rsh_mem.1 hr), q⟩
end Go.HL
namespace Go.HL
open Go Go.Sort
open Go.Proofs (ltOf)
def ltA (x y : Ins) : Bool := decide (x.addr < y.addr)
theorem ltA_irr (x : Ins) : ltA x x = false := by simp [ltA]
theorem ltA_tr (x y z : Ins) (h1 : ltA x y = true) (h2 : ltA y z = true) : ltA x z = true := by
  simp only [ltA, decide_eq_true_eq, UInt32.lt_iff_toNat_lt] at *; omega
def kA (x : Ins) (out : List Ins) : Nat := idxW (fun y => ltA y x) out
def putA (out : List Ins) (x : Ins) : List Ins := out.take (kA x out) ++ ([x] ++ out.drop (kA x out))
def fstP (l : List Ins) (i : Nat) : Bool := !(l.take i).any fun y => decide (y.addr = (l.getD i default).addr) && decide (errP y = 0)
def cokP (out : List Ins) (x : Ins) : Bool := decide (kA x out = out.length) || decide ((out.getD (kA x out) default).addr ≠ x.addr)
def rcntS (l : List Ins) (out : List Ins) (i : Nat) : List Ins := if ((decide (errP (l.getD i default) = 0) && cokP out (l.getD i default)) && fstP l i) = true then putA out (l.getD i default) else out
def rcntK (l : List Ins) (k : Nat) : List Ins := (List.range k).foldl (rcntS l) []
def rcntL (l : List Ins) : List Ins := rcntK l l.length
theorem rcnt_succ (l : List Ins) (k : Nat) : rcntK l (k + 1) = rcntS l (rcntK l k) k := by
  unfold rcntK; rw [List.range_succ, List.foldl_append]; rfl
theorem putA_mem {out : List Ins} {x y : Ins} : y ∈ putA out x ↔ y ∈ out ∨ y = x := by
  unfold putA
  have e : y ∈ out ↔ y ∈ out.take (kA x out) ∨ y ∈ out.drop (kA x out) := by rw [← List.mem_append, List.take_append_drop]
  rw [e]; simp only [List.mem_append, List.mem_singleton]
  constructor
  · rintro (h | h | h)
    · exact .inl (.inl h)
    · exact .inr h
    · exact .inl (.inr h)
  · rintro ((h | h) | h)
    · exact .inl h
    · exact .inr (.inr h)
    · exact .inr (.inl h)
theorem putA_sorted {out : List Ins} {x : Ins} (h : out.Pairwise fun a b => ltA a b = true) (hn : ∀ y ∈ out, y.addr ≠ x.addr) : (putA out x).Pairwise fun a b => ltA a b = true := by
  have hp := h
  have h1 : ∀ a ∈ out.take (kA x out), ltA a x = true := fun a ha => by
    obtain ⟨j, hj, rfl⟩ := List.mem_take_iff_getElem.1 ha
    have := idxW_lt (p := fun y => ltA y x) (l := out) (j := j) (by unfold kA at hj; omega)
    rw [List.getD_eq_getElem?_getD, List.getElem?_eq_getElem (by omega)] at this
    exact this
  have h2 : ∀ b ∈ out.drop (kA x out), ltA x b = true := fun b hb => by
    obtain ⟨j, hj, rfl⟩ := List.mem_drop_iff_getElem.1 hb
    have hlt : idxW (fun y => ltA y x) out < out.length := by unfold kA at hj; omega
    have hs := idxW_stop (p := fun y => ltA y x) hlt
    have hx : ltA x (out.getD (kA x out) default) = true := by
      have hne := hn _ (mem_getD hlt)
      have h3 : (out.getD (kA x out) default).addr.toNat ≠ x.addr.toNat := fun q => hne (UInt32.toNat_inj.1 q)
      have h4 : ¬ (out.getD (kA x out) default).addr.toNat < x.addr.toNat := by
        have q := of_decide_eq_false hs
        rw [UInt32.lt_iff_toNat_lt] at q; exact q
      unfold ltA
      rw [decide_eq_true_eq, UInt32.lt_iff_toNat_lt]; omega
    have e : out[kA x out + j] = out.getD (kA x out + j) default := by rw [List.getD_eq_getElem?_getD, List.getElem?_eq_getElem (by omega)]; rfl
    rw [e]
    by_cases c : j = 0
    · subst c; exact hx
    · exact ltA_tr _ _ _ hx (pair_get hp (by omega) (by omega))
  unfold putA
  refine List.pairwise_append.2 ⟨h.sublist (List.take_sublist _ _), List.pairwise_append.2 ⟨by simp, h.sublist (List.drop_sublist _ _), fun a ha b hb => ?_⟩, fun a ha b hb => ?_⟩
  · simp at ha; subst ha; exact h2 b hb
  · rcases List.mem_append.1 hb with hb | hb
    · simp at hb; subst hb; exact h1 a ha
    · exact ltA_tr _ _ _ (h1 a ha) (h2 b hb)
theorem inK_iff {l : List Ins} {a : UInt32} : inK l a = true ↔ ∃ x ∈ l, x.addr = a := by
  unfold inK; rw [List.any_eq_true]; simp
theorem inK_snoc (l : List Ins) (x : Ins) (a : UInt32) : inK (l ++ [x]) a = (inK l a || decide (x.addr = a)) := by
  unfold inK; rw [List.any_append]; simp
/-- What counts: each valid instruction that is the first at its address. -/
theorem cnt_addr : ∀ (xs out : List Ins) (a : UInt32), inK (xs.foldl cntStep out) a = (inK out a || xs.any fun y => decide (y.addr = a) && decide (errP y = 0))
  | [], out, a => by simp
  | x :: t, out, a => by
    rw [List.foldl_cons, cnt_addr t, List.any_cons]
    unfold cntStep
    split
    · rename_i h
      simp only [Bool.and_eq_true, Bool.not_eq_true', decide_eq_true_eq] at h
      rw [inK_snoc, h.2]; simp [Bool.or_assoc]
    · rename_i h
      simp only [Bool.and_eq_true, Bool.not_eq_true', decide_eq_true_eq] at h
      by_cases e : x.addr = a
      · subst e
        by_cases c : errP x = 0
        · have : inK out x.addr = true := by
            cases q : inK out x.addr
            · exact absurd ⟨q, c⟩ h
            · rfl
          rw [this]; simp
        · simp [c]
      · simp [e]
theorem first_iff {l : List Ins} {k : Nat} : fstP l k = !inK (cntL (l.take k)) (l.getD k default).addr := by
  unfold cntL; rw [cnt_addr]; simp [fstP, inK]
theorem rcnt_ok (l : List Ins) : ∀ k, k ≤ l.length → (rcntK l k).Pairwise (fun a b => ltA a b = true) ∧ ∀ x, x ∈ rcntK l k ↔ x ∈ cntL (l.take k)
  | 0, _ => by simp [rcntK, cntL]
  | k + 1, hk => by
    obtain ⟨h1, h2⟩ := rcnt_ok l k (by omega)
    rw [rcnt_succ, cnt_succ (by omega)]
    unfold rcntS cntStep
    rw [first_iff]
    by_cases c1 : errP (l.getD k default) = 0
    · by_cases c2 : inK (cntL (l.take k)) (l.getD k default).addr = true
      · rw [c2]
        simp only [Bool.not_true, Bool.and_false, Bool.false_and, Bool.false_eq_true, if_false]
        exact ⟨h1, h2⟩
      · have c2' : inK (cntL (l.take k)) (l.getD k default).addr = false := by simpa using c2
        have hn : ∀ y ∈ rcntK l k, y.addr ≠ (l.getD k default).addr := fun y hy q => c2 (inK_iff.2 ⟨y, (h2 y).1 hy, q⟩)
        have c3 : cokP (rcntK l k) (l.getD k default) = true := by
          unfold cokP
          by_cases e : kA (l.getD k default) (rcntK l k) = (rcntK l k).length
          · rw [decide_eq_true e, Bool.true_or]
          · have hle := idxW_le (fun y => ltA y (l.getD k default)) (rcntK l k)
            have := hn _ (mem_getD (k := kA (l.getD k default) (rcntK l k)) (by unfold kA at e ⊢; omega))
            rw [decide_eq_true this, Bool.or_true]
        rw [c2', c1, c3]
        simp only [decide_true, Bool.and_self, Bool.not_false, if_true]
        refine ⟨putA_sorted h1 hn, fun x => ?_⟩
        rw [putA_mem, h2, List.mem_append, List.mem_singleton]
    · rw [decide_eq_false c1]
      simp only [Bool.false_and, Bool.and_false, Bool.false_eq_true, if_false]
      exact ⟨h1, h2⟩
/-- No two at one address. -/
def dist (l : List Ins) : Prop := l.Pairwise fun a b => a.addr ≠ b.addr
theorem cnt_dist : ∀ (xs out : List Ins), dist out → dist (xs.foldl cntStep out)
  | [], out, h => h
  | x :: t, out, h => by
    rw [List.foldl_cons]
    apply cnt_dist
    unfold cntStep
    split
    · rename_i c
      simp only [Bool.and_eq_true, Bool.not_eq_true', decide_eq_true_eq] at c
      refine List.pairwise_append.2 ⟨h, by simp, fun a ha b hb => ?_⟩
      simp at hb; subst hb
      intro q
      have := inK_iff.2 ⟨a, ha, q⟩
      rw [c.1] at this; cases this
    · exact h
theorem dist_perm {l m : List Ins} (h : l.Perm m) (hd : dist l) : dist m := (h.pairwise_iff fun {a b} q => Ne.symm q).1 hd
/-- Sorted by addresses. -/
theorem sortA_ok {l : List Ins} (hd : dist l) : (sortP (ltOf cmpA) l).Pairwise (fun a b => ltA a b = true) ∧ ∀ x, x ∈ sortP (ltOf cmpA) l ↔ x ∈ l := by
  have hp := sortP_perm swo_cmpA l
  have hs := sortP_sorted swo_cmpA l
  have hd' := dist_perm hp.symm hd
  refine ⟨?_, fun x => hp.mem_iff⟩
  refine (hs.and hd').imp fun {a b} ⟨h1, h2⟩ => ?_
  rw [ltOf_cmpA] at h1
  simp only [ltA, decide_eq_true_eq, decide_eq_false_iff_not, UInt32.lt_iff_toNat_lt] at *
  have : a.addr.toNat ≠ b.addr.toNat := fun q => h2 (UInt32.toNat_inj.1 q)
  omega
theorem count_ok (l : List Ins) : (countP l).Pairwise (fun a b => ltA a b = true) ∧ ∀ x, x ∈ countP l ↔ x ∈ cntL l := sortA_ok (cnt_dist l [] .nil)
theorem cnt_ref (l : List Ins) : countP l = rcntL l := by
  obtain ⟨h1, h2⟩ := count_ok l
  obtain ⟨k1, k2⟩ := rcnt_ok l l.length (Nat.le_refl _)
  rw [List.take_length] at k2
  exact so_uniq ltA_irr ltA_tr _ _ h1 k1 fun x => by rw [h2]; exact (k2 x).symm
theorem sorted_dist {l : List Ins} (h : l.Pairwise fun a b => ltA a b = true) : dist l := h.imp fun {a b} q e => by
  simp only [ltA, decide_eq_true_eq, UInt32.lt_iff_toNat_lt] at q; rw [e] at q; omega
theorem count_dist (l : List Ins) : dist (countP l) := sorted_dist (count_ok l).1
theorem count_valid {l : List Ins} {x : Ins} (h : x ∈ countP l) : errP x = 0 := by
  have h1 := ((count_ok l).2 x).1 h
  have : ∀ (xs out : List Ins), (∀ y ∈ out, errP y = 0) → ∀ y ∈ xs.foldl cntStep out, errP y = 0 := by
    intro xs
    induction xs with
    | nil => intro out h; exact h
    | cons z t ih =>
      intro out h
      refine ih _ ?_
      unfold cntStep
      split
      · rename_i c
        simp only [Bool.and_eq_true, Bool.not_eq_true', decide_eq_true_eq] at c
        intro y hy
        rcases List.mem_append.1 hy with hy | hy
        · exact h y hy
        · simp at hy; subst hy; exact c.2
      · exact h
  exact this l [] (by simp) x h1
/-- All of a list without repeated addresses and without invalid ones count. -/
theorem cnt_self : ∀ (xs out : List Ins), dist (out ++ xs) → (∀ y ∈ xs, errP y = 0) → xs.foldl cntStep out = out ++ xs
  | [], out, _, _ => by simp
  | x :: t, out, hd, hv => by
    have hn : inK out x.addr = false := by
      cases c : inK out x.addr
      · rfl
      · obtain ⟨y, hy, e⟩ := inK_iff.1 c
        exact absurd e ((List.pairwise_append.1 hd).2.2 y hy x (.head _))
    have e : cntStep out x = out ++ [x] := by unfold cntStep; rw [hn, hv x (.head _)]; simp
    rw [List.foldl_cons, e, cnt_self t (out ++ [x]) (by rw [List.append_assoc]; exact hd) (fun y hy => hv y (.tail _ hy)), List.append_assoc]; rfl
theorem count_self {l : List Ins} (hd : dist l) (hv : ∀ y ∈ l, errP y = 0) : countP l = sortP (ltOf cmpA) l := by
  unfold countP cntL; rw [cnt_self l [] hd hv]; rfl
def gR (ents : List UInt32) (l : List Ins) (a : UInt32) : Int := if hasU ents a = true then 0 else if (l.any fun x => (targetP x).2 && decide ((targetP x).1 = a)) = true then 1 else 2
theorem tgt_get : ∀ (xs : List Ins) (m : List (UInt32 × Bool)) (a : UInt32), (mget (xs.foldl tgtStep m) a).getD false = ((mget m a).getD false || xs.any fun x => (targetP x).2 && decide ((targetP x).1 = a))
  | [], m, a => by simp
  | x :: t, m, a => by
    rw [List.foldl_cons, tgt_get t, List.any_cons]
    unfold tgtStep
    split
    · rename_i h
      rw [mget_put, h]
      by_cases e : a = (targetP x).1
      · rw [if_pos e]; simp [e]
      · rw [if_neg e]
        have : ¬ (targetP x).1 = a := fun q => e q.symm
        simp [this]
    · rename_i h
      have h' : (targetP x).2 = false := by simpa using h
      simp [h']
theorem grp_ref (ents : List UInt32) (l : List Ins) (i : Ins) : grpP ents (tgtM l) i = gR ents l i.addr := by
  unfold grpP gR tgtM
  rw [tgt_get]; simp [mget]
def freeR (kept : List Ins) (i : Ins) : Bool := !kept.any fun x => conflP x i
abbrev RS := List Ins × List UInt32
def rres1 (s : RS) (x : Ins) : RS := if freeR s.1 x = true then (s.1 ++ [x], s.2) else (s.1, insU s.2 x.addr)
def rresS (ents : List UInt32) (l : List Ins) (g : Int) (s : RS) (x : Ins) : RS := if gR ents l x.addr ≠ g then s else rres1 s x
def rresG (ents : List UInt32) (l : List Ins) (g : Int) (s : RS) (k : Nat) : RS := (l.take k).foldl (rresS ents l g) s
def rres3 (ents : List UInt32) (l : List Ins) : Nat → RS
  | 0 => ([], [])
  | g + 1 => rresG ents l (g : Int) (rres3 ents l g) l.length
theorem rresG_filter (ents : List UInt32) (l : List Ins) (g : Int) : ∀ (xs : List Ins) (s : RS), xs.foldl (rresS ents l g) s = (xs.filter fun x => decide (gR ents l x.addr = g)).foldl rres1 s
  | [], s => rfl
  | x :: t, s => by
    rw [List.foldl_cons, rresG_filter ents l g t, List.filter_cons]
    unfold rresS
    by_cases h : gR ents l x.addr = g
    · rw [if_neg (by simpa using h), if_pos (by simpa using h)]; rfl
    · rw [if_pos h, if_neg (by simpa using h)]
theorem rres_ord (ents : List UInt32) (l : List Ins) : rres3 ents l 3 = (ordOf (grpP ents (tgtM l)) l).foldl rres1 ([], []) := by
  have e : (fun i => grpP ents (tgtM l) i) = fun i => gR ents l i.addr := by funext i; exact grp_ref ents l i
  unfold rres3 rres3 rres3 rres3 rresG ordOf
  rw [List.take_length, rresG_filter, rresG_filter, rresG_filter, List.foldl_append, List.foldl_append]
  simp only [grp_ref]
  rfl
theorem free_keep (kept : List Ins) (x : Ins) : freeR kept x = !kept.any (conflP x) := by
  unfold freeR
  congr 1
  congr 1
  funext y; exact conf_sym _ _
theorem rres_keep : ∀ (xs : List Ins) (s : RS), (xs.foldl rres1 s).1 = xs.foldl keepStep s.1
  | [], s => rfl
  | x :: t, s => by
    rw [List.foldl_cons, List.foldl_cons, rres_keep t]
    congr 1
    unfold rres1 keepStep
    rw [free_keep]
    by_cases h : s.1.any (conflP x) = true
    · rw [if_pos h]; simp [h]
    · rw [if_neg h]; simp only [Bool.not_eq_true] at h; simp [h]
theorem insU_mem {l : List UInt32} {x y : UInt32} : y ∈ insU l x ↔ y ∈ l ∨ y = x := insR_mem
theorem rres_rem : ∀ (xs pre : List Ins) (s : RS), dist (pre ++ xs) → (∀ x ∈ s.1, x ∈ pre) → s.2.Pairwise (fun a b => ltU a b = true) → (∀ a, a ∈ s.2 ↔ inK pre a = true ∧ inK s.1 a = false) →
    (xs.foldl rres1 s).2.Pairwise (fun a b => ltU a b = true) ∧ ∀ a, a ∈ (xs.foldl rres1 s).2 ↔ inK (pre ++ xs) a = true ∧ inK (xs.foldl rres1 s).1 a = false
  | [], pre, s, _, _, h1, h2 => by simpa using ⟨h1, h2⟩
  | x :: t, pre, s, hd, hs, h1, h2 => by
    have hx : ∀ y ∈ pre, y.addr ≠ x.addr := fun y hy => (List.pairwise_append.1 hd).2.2 y hy x (.head _)
    have hpx : inK pre x.addr = false := by
      cases c : inK pre x.addr
      · rfl
      · obtain ⟨y, hy, e⟩ := inK_iff.1 c; exact absurd e (hx y hy)
    have hsx : inK s.1 x.addr = false := by
      cases c : inK s.1 x.addr
      · rfl
      · obtain ⟨y, hy, e⟩ := inK_iff.1 c; exact absurd e (hx y (hs y hy))
    rw [List.foldl_cons, show pre ++ x :: t = (pre ++ [x]) ++ t by simp]
    refine rres_rem t (pre ++ [x]) (rres1 s x) (by rw [List.append_assoc]; exact hd) ?_ ?_ ?_
    · intro y hy
      unfold rres1 at hy
      split at hy
      · rcases List.mem_append.1 hy with hy | hy
        · exact List.mem_append_left _ (hs y hy)
        · exact List.mem_append_right _ hy
      · exact List.mem_append_left _ (hs y hy)
    · unfold rres1
      split
      · exact h1
      · exact insR_sorted lo_ltU h1
    · intro a
      unfold rres1
      split
      · show a ∈ s.2 ↔ _
        rw [inK_snoc, show (s.1 ++ [x], s.2).1 = s.1 ++ [x] from rfl, inK_snoc, h2]
        by_cases e : x.addr = a
        · subst e; rw [hpx]; simp
        · simp [e]
      · show a ∈ insU s.2 x.addr ↔ _
        rw [insU_mem, inK_snoc, h2]
        by_cases e : x.addr = a
        · subst e; rw [hpx, hsx]; simp
        · have : ¬ a = x.addr := fun q => e q.symm
          simp [e, this]
theorem map_addr_sorted {l : List Ins} (h : l.Pairwise fun a b => ltA a b = true) : (l.map (·.addr)).Pairwise fun a b => ltU a b = true := by
  rw [List.pairwise_map]; exact h
theorem rem_ref {l kept : List Ins} (hs : l.Pairwise fun a b => ltA a b = true) {r : List UInt32} (h1 : r.Pairwise fun a b => ltU a b = true) (h2 : ∀ a, a ∈ r ↔ inK l a = true ∧ inK kept a = false) : remP l kept = r := by
  refine lo_uniq lo_ltU _ _ ?_ h1 fun a => ?_
  · unfold remP
    exact map_addr_sorted (hs.sublist List.filter_sublist)
  · rw [h2]
    unfold remP
    simp only [List.mem_map, List.mem_filter]
    constructor
    · rintro ⟨x, ⟨hx, hk⟩, rfl⟩; exact ⟨inK_iff.2 ⟨x, hx, rfl⟩, by simpa using hk⟩
    · rintro ⟨h, hk⟩
      obtain ⟨x, hx, rfl⟩ := inK_iff.1 h
      exact ⟨x, ⟨hx, by rw [hk]; rfl⟩, rfl⟩
def atS (kept : List Ins) (a : UInt32) : List UInt32 := (kept.filter fun x => decide (x.addr = a)).map fun _ => a
def atR (l : List UInt32) (kept : List Ins) (k : Nat) : List UInt32 := (l.take k).flatMap (atS kept)
theorem atS_dist {a : UInt32} : ∀ {kept : List Ins}, dist kept → atS kept a = if inK kept a = true then [a] else []
  | [], _ => rfl
  | x :: t, hd => by
    have hp := List.pairwise_cons.1 hd
    have ih := atS_dist (a := a) hp.2
    unfold atS at ih ⊢
    rw [List.filter_cons]
    by_cases e : x.addr = a
    · subst e
      have h0 : inK t x.addr = false := by
        cases c : inK t x.addr
        · rfl
        · obtain ⟨y, hy, q⟩ := inK_iff.1 c; exact absurd q.symm (hp.1 y hy)
      rw [h0, if_neg (by simp)] at ih
      rw [if_pos (by simp), List.map_cons, ih, if_pos (by simp [inK])]
    · rw [if_neg (by simpa using e), ih]
      have : inK (x :: t) a = inK t a := by simp [inK, e]
      rw [this]
theorem at_ref {kept : List Ins} (hd : dist kept) : ∀ (l : List UInt32), l.flatMap (atS kept) = l.filter (inK kept)
  | [] => rfl
  | a :: t => by
    rw [List.flatMap_cons, at_ref hd t, atS_dist hd, List.filter_cons]
    split <;> rfl
def rresP (ins : List Ins) (ents unk bad : List UInt32) : ResV :=
  let l := rcntL ins
  let kept := rcntL (rres3 ents l 3).1
  ⟨kept, atR ents kept ents.length, atR unk kept unk.length, bad, (rres3 ents l 3).2⟩
theorem ord_dist {g : Ins → Int} (hg : ∀ i, g i = 0 ∨ g i = 1 ∨ g i = 2) {l : List Ins} (h : dist l) : dist (ordOf g l) := dist_perm (ord_stab hg l).1.1 h
theorem keep_dist : ∀ (xs out : List Ins), dist (out ++ xs) → dist (xs.foldl keepStep out)
  | [], out, h => by simpa using h
  | x :: t, out, h => by
    rw [List.foldl_cons]
    unfold keepStep
    split
    · refine keep_dist t out (h.sublist ?_)
      exact (List.Sublist.refl out).append (List.sublist_cons_self x t)
    · exact keep_dist t (out ++ [x]) (by rw [List.append_assoc]; exact h)
theorem res_ref (ins : List Ins) (ents unk bad : List UInt32) : resP ins ents unk bad = rresP ins ents unk bad := by
  have hc := cnt_ref ins
  obtain ⟨l, hl⟩ : ∃ l, l = countP ins := ⟨_, rfl⟩
  have hls := (count_ok ins).1
  have hdl := count_dist ins
  have hvl : ∀ x ∈ countP ins, errP x = 0 := fun x hx => count_valid hx
  rw [← hl] at hls hdl hvl hc
  have hod := ord_dist (grp_range ents (tgtM l)) hdl
  have hkd : dist (keepF (ordOf (grpP ents (tgtM l)) l)) := keep_dist _ [] hod
  have hkv : ∀ x ∈ keepF (ordOf (grpP ents (tgtM l)) l), errP x = 0 := fun x hx => hvl x (ord_sub (keep_sub hx))
  have e1 : (rres3 ents l 3).1 = keepF (ordOf (grpP ents (tgtM l)) l) := by rw [rres_ord, rres_keep]; rfl
  have e2 : rcntL (rres3 ents l 3).1 = sortP (ltOf cmpA) (keepF (ordOf (grpP ents (tgtM l)) l)) := by
    rw [e1, ← cnt_ref, count_self hkd hkv]
  obtain ⟨hks, hkm⟩ := sortA_ok hkd
  have hks' := sorted_dist hks
  obtain ⟨r1, r2⟩ := rres_rem (ordOf (grpP ents (tgtM l)) l) [] ([], []) (by simpa using hod) (by simp) .nil (by simp [inK])
  rw [← rres_ord] at r1 r2
  have hin : ∀ a, inK (sortP (ltOf cmpA) (keepF (ordOf (grpP ents (tgtM l)) l))) a = inK (rres3 ents l 3).1 a := fun a => by
    rw [Bool.eq_iff_iff, inK_iff, inK_iff, e1]
    exact ⟨fun ⟨x, hx, q⟩ => ⟨x, (hkm x).1 hx, q⟩, fun ⟨x, hx, q⟩ => ⟨x, (hkm x).2 hx, q⟩⟩
  have hio : ∀ a, inK (ordOf (grpP ents (tgtM l)) l) a = inK l a := fun a => by
    have hp := (ord_stab (grp_range ents (tgtM l)) l).1.1
    rw [Bool.eq_iff_iff, inK_iff, inK_iff]
    exact ⟨fun ⟨x, hx, q⟩ => ⟨x, hp.mem_iff.2 hx, q⟩, fun ⟨x, hx, q⟩ => ⟨x, hp.mem_iff.1 hx, q⟩⟩
  have hrem : remP l (sortP (ltOf cmpA) (keepF (ordOf (grpP ents (tgtM l)) l))) = (rres3 ents l 3).2 := rem_ref hls r1 fun a => by
    rw [r2, hin, List.nil_append, hio]
  unfold resP rresP
  simp only
  rw [← hl, ← hc, e2, hrem]
  unfold atR
  rw [List.take_length, List.take_length, at_ref hks', at_ref hks']
def coversP (i : Ins) (a : UInt32) : Bool := decide (i.addr ≤ a) && decide ((a.toNat : Int) < endI i)
def clashP (a b : Ins) : Bool := decide (a.addr ≠ b.addr) && ((coversP a b.addr && decide (0 < lengthPI b)) || (coversP b a.addr && decide (0 < lengthPI a)))
theorem covers_iff {i : Ins} {a : UInt32} : coversP i a = true ↔ i.addr.toNat ≤ a.toNat ∧ (a.toNat : Int) < endI i := by
  unfold coversP
  simp only [Bool.and_eq_true, decide_eq_true_eq, UInt32.le_iff_toNat_le]
theorem clash_eq (a b : Ins) : clashP a b = conflP a b := by
  rw [Bool.eq_iff_iff, conf_iff]
  have e : a.addr ≠ b.addr ↔ a.addr.toNat ≠ b.addr.toNat := by rw [Ne, Ne, UInt32.toNat_inj]
  have h1 := len_rng a
  have h2 := len_rng b
  have p1 := @len_pos a
  have p2 := @len_pos b
  unfold clashP
  simp only [Bool.and_eq_true, Bool.or_eq_true, decide_eq_true_eq, covers_iff, e, ← p1, ← p2]
  unfold endI
  omega
def threeL : List Ins := [⟨4096, 5, 5, 1, 0, 0, 0, 0, 0⟩, ⟨4097, 0, 1, 0, 0, 0, 0, 0, 0⟩, ⟨4099, 0, 1, 0, 0, 0, 0, 0, 0⟩]
def threeJ : List Ins := [⟨4096, 5, 5, 1, 0, 0, 0, 0, 0⟩, ⟨4097, 0, 1, 0, 0, 0, 0, 0, 0⟩, ⟨4099, 4097, 20, 1, 0, 0, 0, 0, 0⟩]
theorem ex_conf : confP threeL = [⟨4096, 4097⟩] := by rw [conf_ref]; decide
theorem ex_conf0 : confP [] = [] := by rw [conf_ref]; decide
theorem ex_shar : sharP threeL = [⟨4097, 4098⟩] := by
  rw [share_ref, show rshL threeL threeL.length = [⟨4097, 4098⟩] by decide]
  exact normal_id (norm_single.2 (by decide))
def k1L : List Ins := [⟨4096, 5, 5, 1, 0, 0, 0, 0, 0⟩, ⟨4099, 0, 1, 0, 0, 0, 0, 0, 0⟩]
def k2L : List Ins := [⟨4097, 0, 1, 0, 0, 0, 0, 0, 0⟩, ⟨4099, 0, 1, 0, 0, 0, 0, 0, 0⟩]
def k3L : List Ins := [⟨4097, 0, 1, 0, 0, 0, 0, 0, 0⟩, ⟨4099, 4097, 20, 1, 0, 0, 0, 0, 0⟩]
theorem ex_res1 : (resP threeL [] [] []).kept = k1L ∧ (resP threeL [] [] []).rem = [4097] := by rw [res_ref]; decide
theorem ex_res2 : (resP threeL [4097] [] []).kept = k2L ∧ (resP threeL [4097] [] []).ents = [4097] ∧ (resP threeL [4097] [] []).rem = [4096] := by rw [res_ref]; decide
theorem ex_res3 : (resP threeJ [] [] []).kept = k3L := by rw [res_ref]; decide
end Go.HL
namespace Go.Proofs.YtmhbfelnjkhepaaGreat
open Go Go.HL Go.RowKit
theorem rngEqEnc : EqEnc encRng [.int .u32, .int .u32] [0, 1] := by
  intro x y
  refine ⟨fun j o e ho he => ?_, ?_⟩
  · rcases j with _ | _ | j <;> simp at ho he <;> subst ho <;> subst he <;> rfl
  · obtain ⟨a0, a1⟩ := x
    obtain ⟨c0, c1⟩ := y
    rw [Bool.eq_iff_iff]
    simp [eqAt, encRng]
    simp only [← UInt32.toNat_inj]
    omega
theorem threeL_ok : ∀ x ∈ threeL, InsOK x := by
  intro x hx
  simp only [threeL, List.mem_cons, List.not_mem_nil, or_false] at hx
  rcases hx with rfl | rfl | rfl <;> constructor <;> exact ⟨by decide, by decide⟩
theorem threeJ_ok : ∀ x ∈ threeJ, InsOK x := by
  intro x hx
  simp only [threeJ, List.mem_cons, List.not_mem_nil, or_false] at hx
  rcases hx with rfl | rfl | rfl <;> constructor <;> exact ⟨by decide, by decide⟩
set_option maxRecDepth 100000 in
set_option maxHeartbeats 2000000 in
theorem samePairs_any (a b : List Rng) (V W : Value) (w : World) (hV : Sl (hp w) encRng a V) (hW : Sl (hp w) encRng b W) :
    Calls Tryz.prog 21 #[V, W] w (fun e w' => e = .returned (.bool (decide (a = b))) ∧ Ext w w') := by
  have hV' : Sl (Bg.of w).blk encRng a V := hV
  have hW' : Sl (Bg.of w).blk encRng b W := hW
  have hl1 := hV.len_le
  have hl2 := hW.len_le
  refine enter Tryz.func21 rfl Tryz.ntmps21 rfl ?_
  refine Tr.seq ?_
  refine Tr.region ?_
  refine Tr.q (QS.assign rfl) rfl ?_
  refine Tr.nil ?_
  refine Tr.thenN ?_
  refine Tr.seq ?_
  refine Tr.seq ?_
  refine Tr.region ?_
  refine Tr.q (QS.move rfl) rfl ?_
  refine Tr.q (QS.len rfl (by assumption) Tryz.underlying41) rfl ?_
  refine Tr.q (QS.move rfl) rfl ?_
  refine Tr.q (QS.len rfl (by assumption) Tryz.underlying41) rfl ?_
  refine Tr.q (QS.neq rfl rfl) rfl ?_
  refine Tr.nil ?_
  refine Tr.thenN ?_
  refine Tr.cond rfl (fun h1 => ?_) (fun h1 => ?_)
  · try simp only [bs] at h1
    refine Tr.seq ?_
    refine Tr.region ?_
    refine Tr.q (QS.assign rfl) rfl ?_
    refine Tr.nil ?_
    refine Tr.thenN ?_
    refine Tr.ret ?_
    refine Tr.thenR ?_
    refine Tr.ret1 Tryz.results21 rfl (fun w' hw => ?_)
    exact ⟨by rw [decide_eq_false (fun e => by subst e; omega)], hw.below (Bg.le.refl _)⟩
  · try simp only [bs] at h1
    refine Tr.skip ?_
    refine Tr.thenN ?_
    refine Tr.seq ?_
    refine Tr.seq ?_
    refine Tr.region ?_
    refine Tr.q (QS.assign rfl) rfl ?_
    refine Tr.nil ?_
    refine Tr.thenN ?_
    refine Tr.block ?_
    refine Tr.loop (ι := Nat) (fun k => k ≤ a.length ∧ a.take k = b.take k) (fun _ => _) (fun k => []) (fun k => [(5, .int .i64 (k : Nat))]) (fun k => a.length - k) 0 ⟨by omega, rfl⟩ (.cons (by first | rfl | exact lookI rfl (by omega) | exact lookI rfl (by simp) | exact lookB rfl (by simp)) Front.nil) (by repeat' (first | exact Pick.nil _ | exact Del.here _ | apply Pick.cons | apply Del.there)) rfl (fun k hi m hm => ?_)
    replace hi : k ≤ a.length ∧ a.take k = b.take k := hi
    replace hm : m = a.length - k := hm
    change Tr _ _ [] ([(5, .int .i64 (k : Nat))] ++ _) _
    obtain ⟨hk1, hk3⟩ := hi
    refine Tr.seq ?_
    refine Tr.seq ?_
    refine Tr.region ?_
    refine Tr.q (QS.move rfl) rfl ?_
    refine Tr.q (QS.move rfl) rfl ?_
    refine Tr.q (QS.len rfl (by assumption) Tryz.underlying41) rfl ?_
    refine Tr.q (QS.lss rfl rfl) rfl ?_
    refine Tr.nil ?_
    refine Tr.thenN ?_
    refine Tr.cond rfl (fun h2 => ?_) (fun h2 => ?_)
    · try simp only [bs] at h2
      refine Tr.skip ?_
      refine Tr.thenN ?_
      refine Tr.seq ?_
      refine Tr.block ?_
      refine Tr.seq ?_
      refine Tr.regionQ HLF.mixed (by kernel_rfl) ?_
      refine TrQ.q (QS.move rfl) rfl ?_
      refine TrQ.q (QS.move rfl) rfl ?_
      refine TrQ.q (QS.idxN rfl rfl (by assumption) Tryz.underlying41 Tryz.sizeOf58 (by rfl) (by omega)) rfl ?_
      refine TrQ.q (QS.elA rfl (by assumption) Tryz.isAgg58 Tryz.sizeOf58 (by rfl) (by omega)) rfl ?_
      refine TrQ.q (QS.move rfl) rfl ?_
      refine TrQ.q (QS.move rfl) rfl ?_
      refine TrQ.q (QS.idxN rfl rfl (by assumption) Tryz.underlying41 Tryz.sizeOf58 (by rfl) (by omega)) rfl ?_
      refine TrQ.q (QS.elA rfl (by assumption) Tryz.isAgg58 Tryz.sizeOf58 (by rfl) (by omega)) rfl ?_
      refine TrQ.q (QS.neqP rfl rfl Tryz.underlying58 Tryz.underlying33 Tryz.sizeOf33 Tryz.isAgg33 HLF.eqg58) rfl ?_
      refine TrQ.nil ?_
      refine Tr.thenN ?_
      refine Tr.cond rfl (fun h3 => ?_) (fun h3 => ?_)
      · try simp only [bs] at h3
        refine Tr.seq ?_
        refine Tr.region ?_
        refine Tr.q (QS.assign rfl) rfl ?_
        refine Tr.nil ?_
        refine Tr.thenN ?_
        refine Tr.ret ?_
        refine Tr.inR ?_
        refine Tr.thenR ?_
        refine Tr.thenR ?_
        refine Tr.inR ?_
        refine Tr.thenR ?_
        refine Tr.ret1 Tryz.results21 rfl (fun w' hw => ?_)
        exact ⟨by rw [decide_eq_false (fun e => by subst e; simp_all)], hw.below (Bg.le.refl _)⟩
      · try simp only [bs] at h3
        refine Tr.skip ?_
        refine Tr.inN ?_
        refine Tr.thenN ?_
        refine Tr.region ?_
        refine Tr.q (QS.move rfl) rfl ?_
        refine Tr.q (QS.addI rfl rfl (by omega)) rfl ?_
        refine Tr.q (QS.assign rfl) rfl ?_
        refine Tr.nil ?_
        refine Tr.thenN ?_
        apply Tr.again (k + 1)
        · exact rfl
        · exact (.cons (by first | rfl | exact lookI rfl (by omega) | exact lookI rfl (by simp) | exact lookB rfl (by simp)) Front.nil)
        · exact SubX.dropN 17 (by kernel_rfl) rfl
        · exact (by repeat' (first | exact Pick.nil _ | exact Del.here _ | apply Pick.cons | apply Del.there))
        · exact ⟨by omega, by rw [take_succ (by omega), take_succ (by omega), hk3]; congr 2⟩
        · exact (by (try dsimp only); omega)
    · try simp only [bs] at h2
      refine Tr.exit ?_
      refine Tr.thenE ?_
      refine Tr.thenE ?_
      refine Tr.inHit ?_
      refine Tr.thenN ?_
      refine Tr.seq ?_
      refine Tr.region ?_
      refine Tr.q (QS.assign rfl) rfl ?_
      refine Tr.nil ?_
      refine Tr.thenN ?_
      refine Tr.ret ?_
      refine Tr.ret1 Tryz.results21 rfl (fun w' hw => ?_)
      exact ⟨by rw [decide_eq_true (show a = b by rw [← List.take_of_length_le (show a.length ≤ k by omega), hk3, List.take_of_length_le (by omega)])], hw.below (Bg.le.refl _)⟩
set_option maxRecDepth 100000 in
set_option maxHeartbeats 2000000 in
theorem words_any (a b : List UInt32) (V W : Value) (w : World) (hV : Sl (hp w) encU32 a V) (hW : Sl (hp w) encU32 b W) :
    Calls Tryz.prog 30 #[V, W] w (fun e w' => e = .returned (.bool (decide (a = b))) ∧ Ext w w') := by
  have hV' : Sl (Bg.of w).blk encU32 a V := hV
  have hW' : Sl (Bg.of w).blk encU32 b W := hW
  have hl1 := hV.len_le
  have hl2 := hW.len_le
  refine enter Tryz.func30 rfl Tryz.ntmps30 rfl ?_
  refine Tr.seq ?_
  refine Tr.region ?_
  refine Tr.q (QS.assign rfl) rfl ?_
  refine Tr.nil ?_
  refine Tr.thenN ?_
  refine Tr.seq ?_
  refine Tr.seq ?_
  refine Tr.region ?_
  refine Tr.q (QS.move rfl) rfl ?_
  refine Tr.q (QS.len rfl (by assumption) Tryz.underlying23) rfl ?_
  refine Tr.q (QS.move rfl) rfl ?_
  refine Tr.q (QS.len rfl (by assumption) Tryz.underlying23) rfl ?_
  refine Tr.q (QS.neq rfl rfl) rfl ?_
  refine Tr.nil ?_
  refine Tr.thenN ?_
  refine Tr.cond rfl (fun h1 => ?_) (fun h1 => ?_)
  · try simp only [bs] at h1
    refine Tr.seq ?_
    refine Tr.region ?_
    refine Tr.q (QS.assign rfl) rfl ?_
    refine Tr.nil ?_
    refine Tr.thenN ?_
    refine Tr.ret ?_
    refine Tr.thenR ?_
    refine Tr.ret1 Tryz.results30 rfl (fun w' hw => ?_)
    exact ⟨by rw [decide_eq_false (fun e => by subst e; omega)], hw.below (Bg.le.refl _)⟩
  · try simp only [bs] at h1
    refine Tr.skip ?_
    refine Tr.thenN ?_
    refine Tr.seq ?_
    refine Tr.seq ?_
    refine Tr.region ?_
    refine Tr.q (QS.assign rfl) rfl ?_
    refine Tr.nil ?_
    refine Tr.thenN ?_
    refine Tr.block ?_
    refine Tr.loop (ι := Nat) (fun k => k ≤ a.length ∧ a.take k = b.take k) (fun _ => _) (fun k => []) (fun k => [(5, .int .i64 (k : Nat))]) (fun k => a.length - k) 0 ⟨by omega, rfl⟩ (.cons (by first | rfl | exact lookI rfl (by omega) | exact lookI rfl (by simp) | exact lookB rfl (by simp)) Front.nil) (by repeat' (first | exact Pick.nil _ | exact Del.here _ | apply Pick.cons | apply Del.there)) rfl (fun k hi m hm => ?_)
    replace hi : k ≤ a.length ∧ a.take k = b.take k := hi
    replace hm : m = a.length - k := hm
    change Tr _ _ [] ([(5, .int .i64 (k : Nat))] ++ _) _
    obtain ⟨hk1, hk3⟩ := hi
    refine Tr.seq ?_
    refine Tr.seq ?_
    refine Tr.region ?_
    refine Tr.q (QS.move rfl) rfl ?_
    refine Tr.q (QS.move rfl) rfl ?_
    refine Tr.q (QS.len rfl (by assumption) Tryz.underlying23) rfl ?_
    refine Tr.q (QS.lss rfl rfl) rfl ?_
    refine Tr.nil ?_
    refine Tr.thenN ?_
    refine Tr.cond rfl (fun h2 => ?_) (fun h2 => ?_)
    · try simp only [bs] at h2
      refine Tr.skip ?_
      refine Tr.thenN ?_
      refine Tr.seq ?_
      refine Tr.block ?_
      refine Tr.seq ?_
      refine Tr.regionQ HLF.mixed (by kernel_rfl) ?_
      refine TrQ.q (QS.move rfl) rfl ?_
      refine TrQ.q (QS.move rfl) rfl ?_
      refine TrQ.q (QS.idxN rfl rfl (by assumption) Tryz.underlying23 Tryz.sizeOf33 (by rfl) (by omega)) rfl ?_
      refine TrQ.q (QS.el1 rfl (by assumption) Tryz.isAgg33 (by omega) (by rfl)) rfl ?_
      refine TrQ.q (QS.move rfl) rfl ?_
      refine TrQ.q (QS.move rfl) rfl ?_
      refine TrQ.q (QS.idxN rfl rfl (by assumption) Tryz.underlying23 Tryz.sizeOf33 (by rfl) (by omega)) rfl ?_
      refine TrQ.q (QS.el1 rfl (by assumption) Tryz.isAgg33 (by omega) (by rfl)) rfl ?_
      refine TrQ.q (QS.neq32 rfl rfl) rfl ?_
      refine TrQ.nil ?_
      refine Tr.thenN ?_
      refine Tr.cond rfl (fun h3 => ?_) (fun h3 => ?_)
      · try simp only [bs] at h3
        refine Tr.seq ?_
        refine Tr.region ?_
        refine Tr.q (QS.assign rfl) rfl ?_
        refine Tr.nil ?_
        refine Tr.thenN ?_
        refine Tr.ret ?_
        refine Tr.inR ?_
        refine Tr.thenR ?_
        refine Tr.thenR ?_
        refine Tr.inR ?_
        refine Tr.thenR ?_
        refine Tr.ret1 Tryz.results30 rfl (fun w' hw => ?_)
        exact ⟨by rw [decide_eq_false (fun e => by subst e; simp_all)], hw.below (Bg.le.refl _)⟩
      · try simp only [bs] at h3
        refine Tr.skip ?_
        refine Tr.inN ?_
        refine Tr.thenN ?_
        refine Tr.region ?_
        refine Tr.q (QS.move rfl) rfl ?_
        refine Tr.q (QS.addI rfl rfl (by omega)) rfl ?_
        refine Tr.q (QS.assign rfl) rfl ?_
        refine Tr.nil ?_
        refine Tr.thenN ?_
        apply Tr.again (k + 1)
        · exact rfl
        · exact (.cons (by first | rfl | exact lookI rfl (by omega) | exact lookI rfl (by simp) | exact lookB rfl (by simp)) Front.nil)
        · exact SubX.dropN 17 (by kernel_rfl) rfl
        · exact (by repeat' (first | exact Pick.nil _ | exact Del.here _ | apply Pick.cons | apply Del.there))
        · exact ⟨by omega, by rw [take_succ (by omega), take_succ (by omega), hk3]; congr 2⟩
        · exact (by (try dsimp only); omega)
    · try simp only [bs] at h2
      refine Tr.exit ?_
      refine Tr.thenE ?_
      refine Tr.thenE ?_
      refine Tr.inHit ?_
      refine Tr.thenN ?_
      refine Tr.seq ?_
      refine Tr.region ?_
      refine Tr.q (QS.assign rfl) rfl ?_
      refine Tr.nil ?_
      refine Tr.thenN ?_
      refine Tr.ret ?_
      refine Tr.ret1 Tryz.results30 rfl (fun w' hw => ?_)
      exact ⟨by rw [decide_eq_true (show a = b by rw [← List.take_of_length_le (show a.length ≤ k by omega), hk3, List.take_of_length_le (by omega)])], hw.below (Bg.le.refl _)⟩
set_option maxRecDepth 100000 in
set_option maxHeartbeats 2000000 in
theorem sameRanges_any (a b : List Rng) (V W : Value) (w : World) (hV : Sl (hp w) encRng a V) (hW : Sl (hp w) encRng b W) :
    Calls Tryz.prog 23 #[V, W] w (fun e w' => e = .returned (.bool (decide (a = b))) ∧ Ext w w') := by
  have hV' : Sl (Bg.of w).blk encRng a V := hV
  have hW' : Sl (Bg.of w).blk encRng b W := hW
  have hl1 := hV.len_le
  have hl2 := hW.len_le
  refine enter Tryz.func23 rfl Tryz.ntmps23 rfl ?_
  refine Tr.seq ?_
  refine Tr.region ?_
  refine Tr.q (QS.assign rfl) rfl ?_
  refine Tr.nil ?_
  refine Tr.thenN ?_
  refine Tr.seq ?_
  refine Tr.seq ?_
  refine Tr.region ?_
  refine Tr.q (QS.move rfl) rfl ?_
  refine Tr.q (QS.len rfl (by assumption) Tryz.underlying45) rfl ?_
  refine Tr.q (QS.move rfl) rfl ?_
  refine Tr.q (QS.len rfl (by assumption) Tryz.underlying45) rfl ?_
  refine Tr.q (QS.neq rfl rfl) rfl ?_
  refine Tr.nil ?_
  refine Tr.thenN ?_
  refine Tr.cond rfl (fun h1 => ?_) (fun h1 => ?_)
  · try simp only [bs] at h1
    refine Tr.seq ?_
    refine Tr.region ?_
    refine Tr.q (QS.assign rfl) rfl ?_
    refine Tr.nil ?_
    refine Tr.thenN ?_
    refine Tr.ret ?_
    refine Tr.thenR ?_
    refine Tr.ret1 Tryz.results23 rfl (fun w' hw => ?_)
    exact ⟨by rw [decide_eq_false (fun e => by subst e; omega)], hw.below (Bg.le.refl _)⟩
  · try simp only [bs] at h1
    refine Tr.skip ?_
    refine Tr.thenN ?_
    refine Tr.seq ?_
    refine Tr.seq ?_
    refine Tr.region ?_
    refine Tr.q (QS.assign rfl) rfl ?_
    refine Tr.nil ?_
    refine Tr.thenN ?_
    refine Tr.block ?_
    refine Tr.loop (ι := Nat) (fun k => k ≤ a.length ∧ a.take k = b.take k) (fun _ => _) (fun k => []) (fun k => [(5, .int .i64 (k : Nat))]) (fun k => a.length - k) 0 ⟨by omega, rfl⟩ (.cons (by first | rfl | exact lookI rfl (by omega) | exact lookI rfl (by simp) | exact lookB rfl (by simp)) Front.nil) (by repeat' (first | exact Pick.nil _ | exact Del.here _ | apply Pick.cons | apply Del.there)) rfl (fun k hi m hm => ?_)
    replace hi : k ≤ a.length ∧ a.take k = b.take k := hi
    replace hm : m = a.length - k := hm
    change Tr _ _ [] ([(5, .int .i64 (k : Nat))] ++ _) _
    obtain ⟨hk1, hk3⟩ := hi
    refine Tr.seq ?_
    refine Tr.seq ?_
    refine Tr.region ?_
    refine Tr.q (QS.move rfl) rfl ?_
    refine Tr.q (QS.move rfl) rfl ?_
    refine Tr.q (QS.len rfl (by assumption) Tryz.underlying45) rfl ?_
    refine Tr.q (QS.lss rfl rfl) rfl ?_
    refine Tr.nil ?_
    refine Tr.thenN ?_
    refine Tr.cond rfl (fun h2 => ?_) (fun h2 => ?_)
    · try simp only [bs] at h2
      refine Tr.skip ?_
      refine Tr.thenN ?_
      refine Tr.seq ?_
      refine Tr.block ?_
      refine Tr.seq ?_
      refine Tr.regionQ HLF.mixed (by kernel_rfl) ?_
      refine TrQ.q (QS.move rfl) rfl ?_
      refine TrQ.q (QS.move rfl) rfl ?_
      refine TrQ.q (QS.idxN rfl rfl (by assumption) Tryz.underlying45 Tryz.sizeOf60 (by rfl) (by omega)) rfl ?_
      refine TrQ.q (QS.elA rfl (by assumption) Tryz.isAgg60 Tryz.sizeOf60 (by rfl) (by omega)) rfl ?_
      refine TrQ.q (QS.move rfl) rfl ?_
      refine TrQ.q (QS.move rfl) rfl ?_
      refine TrQ.q (QS.idxN rfl rfl (by assumption) Tryz.underlying45 Tryz.sizeOf60 (by rfl) (by omega)) rfl ?_
      refine TrQ.q (QS.elA rfl (by assumption) Tryz.isAgg60 Tryz.sizeOf60 (by rfl) (by omega)) rfl ?_
      refine TrQ.q (QS.neqE rfl rfl rngEqEnc Tryz.underlying60 (HLF.words60 _ Tryz.underlying60) rfl HLF.held60 HLF.eqg60) rfl ?_
      refine TrQ.nil ?_
      refine Tr.thenN ?_
      refine Tr.cond rfl (fun h3 => ?_) (fun h3 => ?_)
      · try simp only [bs] at h3
        refine Tr.seq ?_
        refine Tr.region ?_
        refine Tr.q (QS.assign rfl) rfl ?_
        refine Tr.nil ?_
        refine Tr.thenN ?_
        refine Tr.ret ?_
        refine Tr.inR ?_
        refine Tr.thenR ?_
        refine Tr.thenR ?_
        refine Tr.inR ?_
        refine Tr.thenR ?_
        refine Tr.ret1 Tryz.results23 rfl (fun w' hw => ?_)
        exact ⟨by rw [decide_eq_false (fun e => by subst e; simp_all)], hw.below (Bg.le.refl _)⟩
      · try simp only [bs] at h3
        refine Tr.skip ?_
        refine Tr.inN ?_
        refine Tr.thenN ?_
        refine Tr.region ?_
        refine Tr.q (QS.move rfl) rfl ?_
        refine Tr.q (QS.addI rfl rfl (by omega)) rfl ?_
        refine Tr.q (QS.assign rfl) rfl ?_
        refine Tr.nil ?_
        refine Tr.thenN ?_
        apply Tr.again (k + 1)
        · exact rfl
        · exact (.cons (by first | rfl | exact lookI rfl (by omega) | exact lookI rfl (by simp) | exact lookB rfl (by simp)) Front.nil)
        · exact SubX.dropN 17 (by kernel_rfl) rfl
        · exact (by repeat' (first | exact Pick.nil _ | exact Del.here _ | apply Pick.cons | apply Del.there))
        · exact ⟨by omega, by rw [take_succ (by omega), take_succ (by omega), hk3]; congr 2⟩
        · exact (by (try dsimp only); omega)
    · try simp only [bs] at h2
      refine Tr.exit ?_
      refine Tr.thenE ?_
      refine Tr.thenE ?_
      refine Tr.inHit ?_
      refine Tr.thenN ?_
      refine Tr.seq ?_
      refine Tr.region ?_
      refine Tr.q (QS.assign rfl) rfl ?_
      refine Tr.nil ?_
      refine Tr.thenN ?_
      refine Tr.ret ?_
      refine Tr.ret1 Tryz.results23 rfl (fun w' hw => ?_)
      exact ⟨by rw [decide_eq_true (show a = b by rw [← List.take_of_length_le (show a.length ≤ k by omega), hk3, List.take_of_length_le (by omega)])], hw.below (Bg.le.refl _)⟩
set_option maxRecDepth 100000 in
set_option maxHeartbeats 2000000 in
theorem ranges_any (l : List Rng) (V : Value) (w : World) (hV : Sl (hp w) encRng l V) (hn : l.length ≤ 1000000) :
    Calls Tryz.prog 24 #[V] w (fun e w' => ∃ V', e = .returned V' ∧ Ext w w' ∧ NewRow w w' 60 encRng (l) V') := by
  have hV' : Sl (Bg.of w).blk encRng l V := hV
  refine enter Tryz.func24 rfl Tryz.ntmps24 rfl ?_
  refine Tr.seq ?_
  refine Tr.region ?_
  refine Tr.q (QS.assign rfl) rfl ?_
  refine Tr.nil ?_
  refine Tr.thenN ?_
  refine Tr.seq ?_
  refine Tr.region ?_
  refine Tr.q (QS.assign rfl) rfl ?_
  refine Tr.nil ?_
  refine Tr.thenN ?_
  refine Tr.seq ?_
  refine Tr.seq ?_
  refine Tr.region ?_
  refine Tr.q (QS.assign rfl) rfl ?_
  refine Tr.nil ?_
  refine Tr.thenN ?_
  refine Tr.block ?_
  refine Tr.ownNil 60 encRng ?_
  refine Tr.loop (ι := Nat × Value) (fun ⟨k, V'⟩ => k ≤ l.length) (fun _ => _) (fun ⟨k, V'⟩ => [rowE V' 60 encRng (l.take k)]) (fun ⟨k, V'⟩ => [(4, .int .i64 (k : Nat)), (3, V')]) (fun ⟨k, V'⟩ => l.length - k) (0, _) (Nat.zero_le _) (.cons (by first | rfl | exact lookI rfl (by omega) | exact lookI rfl (by simp) | exact lookB rfl (by simp)) (.cons (by first | rfl | exact lookI rfl (by omega) | exact lookI rfl (by simp) | exact lookB rfl (by simp)) Front.nil)) (by repeat' (first | exact Pick.nil _ | exact Del.here _ | apply Pick.cons | apply Del.there)) rfl (fun i hi m hm => ?_)
  obtain ⟨k, V'⟩ := i
  replace hi : k ≤ l.length := hi
  replace hm : m = l.length - k := hm
  change Tr _ _ [rowE V' 60 encRng (l.take k)] ([(4, .int .i64 (k : Nat)), (3, V')] ++ _) _
  refine Tr.seq ?_
  refine Tr.seq ?_
  refine Tr.region ?_
  refine Tr.q (QS.move rfl) rfl ?_
  refine Tr.q (QS.move rfl) rfl ?_
  refine Tr.q (QS.len rfl (by assumption) Tryz.underlying47) rfl ?_
  refine Tr.q (QS.lss rfl rfl) rfl ?_
  refine Tr.nil ?_
  refine Tr.thenN ?_
  refine Tr.cond rfl (fun h1 => ?_) (fun h1 => ?_)
  · try simp only [bs] at h1
    refine Tr.skip ?_
    refine Tr.thenN ?_
    refine Tr.seq ?_
    refine Tr.block ?_
    refine Tr.regionT 1 12 HLF.mixed (by kernel_rfl) (panicIn (panicThen (panicThen (panicIn (panicThen panicBody))))) ?_
    refine TrQ.pureMove rfl rfl ?_
    refine TrQ.pureNil ?_
    refine TrQ.q (QS.move rfl) rfl ?_
    refine TrQ.q (QS.move rfl) rfl ?_
    refine TrQ.q (QS.idxN rfl rfl (by assumption) Tryz.underlying47 Tryz.sizeOf80 (by rfl) (by omega)) rfl ?_
    refine TrQ.q (QS.fieldAddr (off := 0) (ft := 33) rfl Tryz.underlying80 rfl rfl Tryz.sizeOf33 (by decide)) rfl ?_
    refine TrQ.q (QS.elF rfl (by assumption) Tryz.isAgg33 (by omega) (by rfl)) rfl ?_
    refine TrQ.q (QS.move rfl) rfl ?_
    refine TrQ.q (QS.move rfl) rfl ?_
    refine TrQ.q (QS.idxN rfl rfl (by assumption) Tryz.underlying47 Tryz.sizeOf80 (by rfl) (by omega)) rfl ?_
    refine TrQ.q (QS.fieldAddr (off := 1) (ft := 33) rfl Tryz.underlying80 rfl rfl Tryz.sizeOf33 (by decide)) rfl ?_
    refine TrQ.q (QS.elF rfl (by assumption) Tryz.isAgg33 (by omega) (by rfl)) rfl ?_
    refine TrQ.q (QS.build (vs := [(0, _), (1, _)]) rfl rfl (HLF.built60_0_1 _ _)) rfl ?_
    refine TrQ.nil ?_
    refine Tr.lit1 (E := encRng) (⟨(l.getD k default).lo, (l.getD k default).hi⟩ : Rng) rfl rfl Tryz.underlying45 Tryz.sizeOf60 Tryz.zeroValue60 (by rfl) (by rfl) rfl (fun V2 => ?_)
    refine Tr.append1 rfl rfl (by repeat (first | exact Del.here _ | apply Del.there)) (by repeat (first | exact Del.here _ | apply Del.there)) Tryz.underlying45 HLF.info60 (by rfl) (by rfl) (by (try simp only [List.length_cons, List.length_nil, List.length_append, List.length_take]); omega) (by unfold maxLen; (try simp only [List.length_cons, List.length_nil, List.length_append, List.length_take]); omega) rfl (fun V3 => ?_)
    refine Tr.q (QS.assign rfl) rfl ?_
    refine Tr.nil ?_
    refine Tr.inN ?_
    refine Tr.thenN ?_
    refine Tr.region ?_
    refine Tr.q (QS.move rfl) rfl ?_
    refine Tr.q (QS.addI rfl rfl (by omega)) rfl ?_
    refine Tr.q (QS.assign rfl) rfl ?_
    refine Tr.nil ?_
    refine Tr.thenN ?_
    rw [show ([⟨(l.getD k default).lo, (l.getD k default).hi⟩] : List Rng) = [l.getD k default] from rfl, ← take_succ (by omega)]
    apply Tr.again (k + 1, _)
    · exact rfl
    · exact (.cons (by first | rfl | exact lookI rfl (by omega) | exact lookI rfl (by simp) | exact lookB rfl (by simp)) (.cons (by first | rfl | exact lookI rfl (by omega) | exact lookI rfl (by simp) | exact lookB rfl (by simp)) Front.nil))
    · exact SubX.dropN 24 (by kernel_rfl) rfl
    · exact (by repeat' (first | exact Pick.nil _ | exact Del.here _ | apply Pick.cons | apply Del.there))
    · exact (by show k + 1 ≤ _; omega)
    · exact (by (try dsimp only); omega)
  · try simp only [bs] at h1
    refine Tr.exit ?_
    refine Tr.thenE ?_
    refine Tr.thenE ?_
    refine Tr.inHit ?_
    refine Tr.thenN ?_
    refine Tr.seq ?_
    refine Tr.region ?_
    refine Tr.q (QS.move rfl) rfl ?_
    refine Tr.q (QS.assign rfl) rfl ?_
    refine Tr.nil ?_
    refine Tr.thenN ?_
    refine Tr.ret ?_
    refine Tr.ret1 Tryz.results24 rfl (fun w' hw => ?_)
    obtain rfl : k = l.length := by omega
    rw [List.take_length] at *
    exact ⟨_, rfl, hw.below (Bg.le.refl _), hw.new (.head _)⟩
set_option maxRecDepth 100000 in
set_option maxHeartbeats 2000000 in
theorem three_any (w : World) :
    Calls Tryz.prog 33 #[] w (fun e w' => ∃ V', e = .returned V' ∧ Ext w w' ∧ NewRow w w' 35 encIns (threeL) V') := by
  refine enter Tryz.func33 rfl Tryz.ntmps33 rfl ?_
  refine Tr.seq ?_
  refine Tr.region ?_
  refine Tr.q (QS.assign rfl) rfl ?_
  refine Tr.nil ?_
  refine Tr.thenN ?_
  refine Tr.seq ?_
  refine Tr.region ?_
  refine Tr.q (QS.build (vs := [(0, _), (2, _), (3, _), (1, _)]) rfl rfl (HLF.built35_0_2_3_1 _ _ _ _)) rfl ?_
  refine Tr.q (QS.build (vs := [(0, _), (2, _)]) rfl rfl (HLF.built35_0_2 _ _)) rfl ?_
  refine Tr.q (QS.build (vs := [(0, _), (2, _)]) rfl rfl (HLF.built35_0_2 _ _)) rfl ?_
  refine Tr.litN (E := encIns) threeL (vs := [(0, _), (1, _), (2, _)]) rfl rfl Tryz.underlying22 Tryz.sizeOf35 Tryz.zeroValue35 (by rfl) (by rfl) rfl (by first | kernel_rfl | rfl) rfl (fun V1 => ?_)
  refine Tr.q (QS.assign rfl) rfl ?_
  refine Tr.nil ?_
  refine Tr.thenN ?_
  refine Tr.ret ?_
  refine Tr.ret1 Tryz.results33 rfl (fun w' hw => ?_)
  exact ⟨_, rfl, hw.below (Bg.le.refl _), hw.new (.head _)⟩
set_option maxRecDepth 100000 in
set_option maxHeartbeats 2000000 in
theorem covers_any (i : Ins) (a : UInt32) (w : World) (hI : InsOK i) :
    Calls Tryz.prog 31 #[.agg (encIns.enc i).toArray, .int .u32 a.toNat] w (fun e w' => e = .returned (.bool (coversP i a)) ∧ Ext w w') := by
  have hl := len_rng i
  have ha := i.addr.toNat_lt
  have hb := a.toNat_lt
  refine enter Tryz.func31 rfl Tryz.ntmps31 rfl ?_
  refine Tr.seq ?_
  refine Tr.region ?_
  refine Tr.box rfl rfl rfl (fun b1 => ?_)
  refine Tr.q (QS.assign rfl) rfl ?_
  refine Tr.nil ?_
  refine Tr.thenN ?_
  refine Tr.seq ?_
  refine Tr.regionQ HLF.mixed (by kernel_rfl) ?_
  refine TrQ.q (QS.move rfl) rfl ?_
  refine TrQ.q (QS.fieldAddr (off := 0) (ft := 33) rfl Tryz.underlying35 rfl rfl Tryz.sizeOf33 (by decide)) rfl ?_
  refine TrQ.q (QS.lV rfl Tryz.isAgg33) rfl ?_
  refine TrQ.q (QS.geq32 rfl rfl) rfl ?_
  refine TrQ.q (QS.move rfl) rfl ?_
  apply TrQ.andP
  · exact (rfl : _ = (11, 9, 20))
  · exact rfl
  · intro hT2; have hT2' := hT2
    try simp only [bs] at hT2'
    refine TrQ.gq rfl rfl hT2 (QS.move rfl) rfl ?_
    refine TrQ.gq rfl rfl hT2 (QS.cvt32toU rfl Tryz.underlying33 Tryz.underlying81) rfl ?_
    refine TrQ.gq rfl rfl hT2 (QS.fieldAddr (off := 0) (ft := 33) rfl Tryz.underlying35 rfl rfl Tryz.sizeOf33 (by decide)) rfl ?_
    refine TrQ.gq rfl rfl hT2 (QS.lV rfl Tryz.isAgg33) rfl ?_
    refine TrQ.gq rfl rfl hT2 (QS.cvt32toU rfl Tryz.underlying33 Tryz.underlying81) rfl ?_
    refine TrQ.gq rfl rfl hT2 (QS.lW rfl Tryz.isAgg35 Tryz.sizeOf35) rfl ?_
    refine TrQ.gq rfl rfl hT2 (QS.call rfl Tryz.call51 (fun w hw => length_isa i w hI)) rfl ?_
    refine TrQ.gq rfl rfl hT2 (QS.cvtIn rfl Tryz.underlying3 Tryz.underlying81 (IntWalk.u64_in _ (by omega))) rfl ?_
    refine TrQ.gq rfl rfl hT2 (QS.addU rfl rfl (by omega)) rfl ?_
    refine TrQ.gq rfl rfl hT2 (QS.lss rfl rfl) rfl ?_
    refine TrQ.q (QS.pickT rfl hT2 rfl) rfl ?_
    exact TrQ.end (Sub.cons rfl (Sub.dropN 11 (by kernel_rfl) rfl))
  · intro hF2
    refine TrQ.gskip rfl rfl hF2 rfl ?_
    refine TrQ.gskip rfl rfl hF2 rfl ?_
    refine TrQ.gskip rfl rfl hF2 rfl ?_
    refine TrQ.gskip rfl rfl hF2 rfl ?_
    refine TrQ.gskip rfl rfl hF2 rfl ?_
    refine TrQ.gskip rfl rfl hF2 rfl ?_
    refine TrQ.gskip rfl rfl hF2 rfl ?_
    refine TrQ.gskip rfl rfl hF2 rfl ?_
    refine TrQ.gskip rfl rfl hF2 rfl ?_
    refine TrQ.gskip rfl rfl hF2 rfl ?_
    refine TrQ.q (QS.pickF rfl hF2 rfl) rfl ?_
    exact TrQ.end (Sub.cons rfl (Sub.dropN 11 (by kernel_rfl) rfl))
  refine TrQ.q (QS.assign rfl) rfl ?_
  refine TrQ.nil ?_
  refine Tr.thenN ?_
  refine Tr.ret ?_
  refine Tr.ret1 Tryz.results31 rfl (fun w' hw => ?_)
  exact ⟨rfl, hw.below (Bg.le.refl _)⟩
set_option maxRecDepth 100000 in
set_option maxHeartbeats 2000000 in
theorem clash_any (a b : Ins) (w : World) (hI : InsOK a) (hJ : InsOK b) :
    Calls Tryz.prog 19 #[.agg (encIns.enc a).toArray, .agg (encIns.enc b).toArray] w (fun e w' => e = .returned (.bool (clashP a b)) ∧ Ext w w') := by
  refine enter Tryz.func19 rfl Tryz.ntmps19 rfl ?_
  refine Tr.seq ?_
  refine Tr.region ?_
  refine Tr.box rfl rfl rfl (fun b1 => ?_)
  refine Tr.box rfl rfl rfl (fun b2 => ?_)
  refine Tr.q (QS.assign rfl) rfl ?_
  refine Tr.nil ?_
  refine Tr.thenN ?_
  refine Tr.seq ?_
  refine Tr.region ?_
  refine Tr.q (QS.fieldAddr (off := 0) (ft := 33) rfl Tryz.underlying35 rfl rfl Tryz.sizeOf33 (by decide)) rfl ?_
  refine Tr.q (QS.lV rfl Tryz.isAgg33) rfl ?_
  refine Tr.q (QS.fieldAddr (off := 0) (ft := 33) rfl Tryz.underlying35 rfl rfl Tryz.sizeOf33 (by decide)) rfl ?_
  refine Tr.q (QS.lV rfl Tryz.isAgg33) rfl ?_
  refine Tr.q (QS.neq32 rfl rfl) rfl ?_
  refine Tr.q (QS.move rfl) rfl ?_
  apply Tr.andP
  · exact (rfl : _ = (21, 10, 31))
  · exact rfl
  · intro hT3; have hT3' := hT3
    try simp only [bs] at hT3'
    refine Tr.gq rfl rfl hT3 (QS.lW rfl Tryz.isAgg35 Tryz.sizeOf35) rfl ?_
    refine Tr.gq rfl rfl hT3 (QS.fieldAddr (off := 0) (ft := 33) rfl Tryz.underlying35 rfl rfl Tryz.sizeOf33 (by decide)) rfl ?_
    refine Tr.gq rfl rfl hT3 (QS.lV rfl Tryz.isAgg33) rfl ?_
    refine Tr.gq rfl rfl hT3 (QS.call rfl Tryz.call31 (fun w hw => covers_any a b.addr w hI)) rfl ?_
    refine Tr.gq rfl rfl hT3 (QS.move rfl) rfl ?_
    apply Tr.andP
    · exact (rfl : _ = (4, 15, 19))
    · exact rfl
    · intro hT4; have hT4' := hT4
      try simp only [bs] at hT4'
      refine Tr.gq rfl rfl hT4 (QS.lW rfl Tryz.isAgg35 Tryz.sizeOf35) rfl ?_
      refine Tr.gq rfl rfl hT4 (QS.call rfl Tryz.call51 (fun w hw => length_isa b w hJ)) rfl ?_
      refine Tr.gq rfl rfl hT4 (QS.gtr rfl rfl) rfl ?_
      refine Tr.gq rfl rfl hT3 (QS.pickT rfl hT4 rfl) rfl ?_
      refine Tr.nil (Tr.thenN ?_)
      exact Tr.endX (Sub.cons rfl (Sub.dropN 4 (by kernel_rfl) rfl))
    · intro hF4
      refine Tr.gskip rfl rfl hF4 rfl ?_
      refine Tr.gskip rfl rfl hF4 rfl ?_
      refine Tr.gskip rfl rfl hF4 rfl ?_
      refine Tr.gq rfl rfl hT3 (QS.pickF rfl hF4 rfl) rfl ?_
      refine Tr.nil (Tr.thenN ?_)
      exact Tr.endX (Sub.cons rfl (Sub.dropN 4 (by kernel_rfl) rfl))
    refine Tr.gq rfl rfl hT3 (QS.move rfl) rfl ?_
    apply Tr.orP
    · exact (rfl : _ = (10, 20, 30))
    · exact rfl
    · intro hF5; have hF5' := hF5
      try simp only [bs] at hF5'
      refine Tr.gq rfl rfl hF5 (QS.lW rfl Tryz.isAgg35 Tryz.sizeOf35) rfl ?_
      refine Tr.gq rfl rfl hF5 (QS.fieldAddr (off := 0) (ft := 33) rfl Tryz.underlying35 rfl rfl Tryz.sizeOf33 (by decide)) rfl ?_
      refine Tr.gq rfl rfl hF5 (QS.lV rfl Tryz.isAgg33) rfl ?_
      refine Tr.gq rfl rfl hF5 (QS.call rfl Tryz.call31 (fun w hw => covers_any b a.addr w hJ)) rfl ?_
      refine Tr.gq rfl rfl hF5 (QS.move rfl) rfl ?_
      apply Tr.andP
      · exact (rfl : _ = (4, 25, 29))
      · exact rfl
      · intro hT6; have hT6' := hT6
        try simp only [bs] at hT6'
        refine Tr.gq rfl rfl hT6 (QS.lW rfl Tryz.isAgg35 Tryz.sizeOf35) rfl ?_
        refine Tr.gq rfl rfl hT6 (QS.call rfl Tryz.call51 (fun w hw => length_isa a w hI)) rfl ?_
        refine Tr.gq rfl rfl hT6 (QS.gtr rfl rfl) rfl ?_
        refine Tr.gq rfl rfl hF5 (QS.pickT rfl hT6 rfl) rfl ?_
        refine Tr.nil (Tr.thenN ?_)
        exact Tr.endX (Sub.cons rfl (Sub.dropN 4 (by kernel_rfl) rfl))
      · intro hF6
        refine Tr.gskip rfl rfl hF6 rfl ?_
        refine Tr.gskip rfl rfl hF6 rfl ?_
        refine Tr.gskip rfl rfl hF6 rfl ?_
        refine Tr.gq rfl rfl hF5 (QS.pickF rfl hF6 rfl) rfl ?_
        refine Tr.nil (Tr.thenN ?_)
        exact Tr.endX (Sub.cons rfl (Sub.dropN 4 (by kernel_rfl) rfl))
      refine Tr.gq rfl rfl hT3 (QS.pickF rfl hF5 rfl) rfl ?_
      refine Tr.nil (Tr.thenN ?_)
      exact Tr.endX (Sub.cons rfl (Sub.dropN 7 (by kernel_rfl) rfl))
    · intro hT5
      refine Tr.gskip rfl rfl hT5 rfl ?_
      refine Tr.gskip rfl rfl hT5 rfl ?_
      refine Tr.gskip rfl rfl hT5 rfl ?_
      refine Tr.gskip rfl rfl hT5 rfl ?_
      refine Tr.gskip rfl rfl hT5 rfl ?_
      refine Tr.gskipU rfl rfl rfl ?_
      refine Tr.gskipU rfl rfl rfl ?_
      refine Tr.gskipU rfl rfl rfl ?_
      refine Tr.gskip rfl rfl hT5 rfl ?_
      refine Tr.gq rfl rfl hT3 (QS.pickT rfl hT5 rfl) rfl ?_
      refine Tr.nil (Tr.thenN ?_)
      exact Tr.endX (Sub.cons rfl (Sub.dropN 10 (by kernel_rfl) rfl))
    refine Tr.q (QS.pickT rfl hT3 rfl) rfl ?_
    refine Tr.nil (Tr.thenN ?_)
    exact Tr.endX (Sub.cons rfl (Sub.dropN 9 (by kernel_rfl) rfl))
  · intro hF3
    refine Tr.gskip rfl rfl hF3 rfl ?_
    refine Tr.gskip rfl rfl hF3 rfl ?_
    refine Tr.gskip rfl rfl hF3 rfl ?_
    refine Tr.gskip rfl rfl hF3 rfl ?_
    refine Tr.gskip rfl rfl hF3 rfl ?_
    refine Tr.gskipU rfl rfl rfl ?_
    refine Tr.gskipU rfl rfl rfl ?_
    refine Tr.gskipU rfl rfl rfl ?_
    refine Tr.gskip rfl rfl hF3 rfl ?_
    refine Tr.gskip rfl rfl hF3 rfl ?_
    refine Tr.gskipU rfl rfl rfl ?_
    refine Tr.gskipU rfl rfl rfl ?_
    refine Tr.gskipU rfl rfl rfl ?_
    refine Tr.gskipU rfl rfl rfl ?_
    refine Tr.gskipU rfl rfl rfl ?_
    refine Tr.gskipU rfl rfl rfl ?_
    refine Tr.gskipU rfl rfl rfl ?_
    refine Tr.gskipU rfl rfl rfl ?_
    refine Tr.gskipU rfl rfl rfl ?_
    refine Tr.gskip rfl rfl hF3 rfl ?_
    refine Tr.q (QS.pickF rfl hF3 rfl) rfl ?_
    refine Tr.nil (Tr.thenN ?_)
    exact Tr.endX (Sub.cons rfl (Sub.dropN 21 (by kernel_rfl) rfl))
  refine Tr.q (QS.assign rfl) rfl ?_
  refine Tr.nil ?_
  refine Tr.thenN ?_
  refine Tr.ret ?_
  refine Tr.ret1 Tryz.results19 rfl (fun w' hw => ?_)
  exact ⟨rfl, hw.below (Bg.le.refl _)⟩
set_option maxRecDepth 100000 in
set_option maxHeartbeats 8000000 in
theorem example13_any (w : World) :
    Calls Tryz.prog 11 #[] w (fun e w' => e = .returned (.bool true) ∧ Ext w w') := by
  have h3l : threeL.length = 3 := rfl
  have hk1l : k1L.length = 2 := rfl
  have hk2l : k2L.length = 2 := rfl
  have hk3l : k3L.length = 2 := rfl
  refine enter Tryz.func11 rfl Tryz.ntmps11 rfl ?_
  refine Tr.seq ?_
  refine Tr.region ?_
  refine Tr.q (QS.assign rfl) rfl ?_
  refine Tr.nil ?_
  refine Tr.thenN ?_
  refine Tr.seq ?_
  refine Tr.region ?_
  refine Tr.callRow rfl Tryz.call33 (fun w hw => three_any w) rfl (fun V1 => ?_)
  refine Tr.rowShape (.head _) (fun pa pc hpv => ?_)
  subst hpv
  refine Tr.q (QS.assign rfl) rfl ?_
  refine Tr.nil ?_
  refine Tr.thenN ?_
  refine Tr.seq ?_
  refine Tr.region ?_
  refine Tr.q (QS.move rfl) rfl ?_
  refine Tr.callRow rfl Tryz.call20 (fun w hw => (by rw [← ex_conf]; exact conflicts_any threeL _ w (hw.row (by repeat (first | exact List.Mem.head _ | apply List.Mem.tail))) threeL_ok (by decide) : Calls Tryz.prog 20 #[_] w (fun e w' => ∃ V', e = .returned V' ∧ Ext w w' ∧ NewRow w w' 58 encRng ([⟨4096, 4097⟩]) V'))) rfl (fun V2 => ?_)
  refine Tr.q (QS.assign rfl) rfl ?_
  refine Tr.nil ?_
  refine Tr.thenN ?_
  refine Tr.seq ?_
  refine Tr.region ?_
  refine Tr.q (QS.move rfl) rfl ?_
  refine Tr.q (QS.build (vs := [(0, _)]) rfl rfl rfl) rfl ?_
  refine Tr.callEnts (fun i : Value × Value × Value × Value × Value => .tuple #[.agg #[i.1, i.2.1, i.2.2.1, i.2.2.2.1], i.2.2.2.2]) (fun i => [rowE i.1 35 encIns (resP threeL [] [] []).kept, rowE i.2.1 33 encU32 (resP threeL [] [] []).ents, rowE i.2.2.1 33 encU32 (resP threeL [] [] []).unk, rowE i.2.2.2.1 33 encU32 (resP threeL [] [] []).bad, rowE i.2.2.2.2 33 encU32 (resP threeL [] [] []).rem]) (ok := fun _ => True) rfl Tryz.call12 (fun w hw => (resolve_any threeL [] [] [] _ _ _ _ w (hw.row (by repeat (first | exact List.Mem.head _ | apply List.Mem.tail))) (Sl.nil _ _) (Sl.nil _ _) (Sl.nil _ _) threeL_ok (by decide) (by decide) (by decide) (by decide)).mono fun e w' ⟨i, q1, q2, q3⟩ => ⟨i, q1, q2, q3, trivial⟩) rfl (fun i1 _ => ?_)
  obtain ⟨Vk1, Ve1, Vu1, Vb1, Vr1⟩ := i1
  refine Tr.rowShape (V := Vk1) (by repeat (first | exact List.Mem.head _ | apply List.Mem.tail)) (fun pk1 ck1 hpv => ?_)
  subst hpv
  refine Tr.rowShape (V := Ve1) (by repeat (first | exact List.Mem.head _ | apply List.Mem.tail)) (fun pe1 ce1 hpv => ?_)
  subst hpv
  refine Tr.rowShape (V := Vu1) (by repeat (first | exact List.Mem.head _ | apply List.Mem.tail)) (fun pu1 cu1 hpv => ?_)
  subst hpv
  refine Tr.rowShape (V := Vb1) (by repeat (first | exact List.Mem.head _ | apply List.Mem.tail)) (fun pb1 cb1 hpv => ?_)
  subst hpv
  refine Tr.rowShape (V := Vr1) (by repeat (first | exact List.Mem.head _ | apply List.Mem.tail)) (fun pr1 cr1 hpv => ?_)
  subst hpv
  simp only [ex_res1.1, ex_res1.2]
  refine Tr.q (QS.move rfl) rfl ?_
  refine Tr.q (QS.extract rfl rfl) rfl ?_
  refine Tr.q (QS.extract rfl rfl) rfl ?_
  refine Tr.alloc Tryz.zeroValue28 rfl rfl (fun b3 => ?_)
  refine Tr.storeW rfl rfl Tryz.sizeOf28 (by repeat (first | exact Put.here _ | apply Put.there)) (by rfl) (by rfl) (by first | exact List.all_eq_true.1 rfl | exact Enc.one _ _ | (intro u hu; simp [Value.cells] at hu; simp_all [Value.oneCell'])) rfl ?_
  refine Tr.q (QS.assign rfl) rfl ?_
  refine Tr.nil ?_
  refine Tr.thenN ?_
  refine Tr.seq ?_
  refine Tr.region ?_
  refine Tr.q (QS.move rfl) rfl ?_
  refine Tr.lit1 (E := encU32) (4097 : UInt32) rfl rfl Tryz.underlying23 Tryz.sizeOf33 Tryz.zeroValue33 (by rfl) (by rfl) rfl (fun V4 => ?_)
  refine Tr.rowShape (.head _) (fun pd pf hpv => ?_)
  subst hpv
  refine Tr.q (QS.build (vs := [(0, _), (1, _)]) rfl rfl rfl) rfl ?_
  refine Tr.callEnts (fun i : Value × Value × Value × Value × Value => .tuple #[.agg #[i.1, i.2.1, i.2.2.1, i.2.2.2.1], i.2.2.2.2]) (fun i => [rowE i.1 35 encIns (resP threeL [4097] [] []).kept, rowE i.2.1 33 encU32 (resP threeL [4097] [] []).ents, rowE i.2.2.1 33 encU32 (resP threeL [4097] [] []).unk, rowE i.2.2.2.1 33 encU32 (resP threeL [4097] [] []).bad, rowE i.2.2.2.2 33 encU32 (resP threeL [4097] [] []).rem]) (ok := fun _ => True) rfl Tryz.call12 (fun w hw => (resolve_any threeL [4097] [] [] _ _ _ _ w (hw.row (by repeat (first | exact List.Mem.head _ | apply List.Mem.tail))) (hw.row (by repeat (first | exact List.Mem.head _ | apply List.Mem.tail))) (Sl.nil _ _) (Sl.nil _ _) threeL_ok (by decide) (by decide) (by decide) (by decide)).mono fun e w' ⟨i, q1, q2, q3⟩ => ⟨i, q1, q2, q3, trivial⟩) rfl (fun i2 _ => ?_)
  obtain ⟨Vk2, Ve2, Vu2, Vb2, Vr2⟩ := i2
  refine Tr.rowShape (V := Vk2) (by repeat (first | exact List.Mem.head _ | apply List.Mem.tail)) (fun pk2 ck2 hpv => ?_)
  subst hpv
  refine Tr.rowShape (V := Ve2) (by repeat (first | exact List.Mem.head _ | apply List.Mem.tail)) (fun pe2 ce2 hpv => ?_)
  subst hpv
  refine Tr.rowShape (V := Vu2) (by repeat (first | exact List.Mem.head _ | apply List.Mem.tail)) (fun pu2 cu2 hpv => ?_)
  subst hpv
  refine Tr.rowShape (V := Vb2) (by repeat (first | exact List.Mem.head _ | apply List.Mem.tail)) (fun pb2 cb2 hpv => ?_)
  subst hpv
  refine Tr.rowShape (V := Vr2) (by repeat (first | exact List.Mem.head _ | apply List.Mem.tail)) (fun pr2 cr2 hpv => ?_)
  subst hpv
  simp only [ex_res2.1, ex_res2.2.1, ex_res2.2.2]
  refine Tr.q (QS.move rfl) rfl ?_
  refine Tr.q (QS.extract rfl rfl) rfl ?_
  refine Tr.q (QS.extract rfl rfl) rfl ?_
  refine Tr.alloc Tryz.zeroValue28 rfl rfl (fun b5 => ?_)
  refine Tr.storeW rfl rfl Tryz.sizeOf28 (by repeat (first | exact Put.here _ | apply Put.there)) (by rfl) (by rfl) (by first | exact List.all_eq_true.1 rfl | exact Enc.one _ _ | (intro u hu; simp [Value.cells] at hu; simp_all [Value.oneCell'])) rfl ?_
  refine Tr.q (QS.assign rfl) rfl ?_
  refine Tr.nil ?_
  refine Tr.thenN ?_
  refine Tr.seq ?_
  refine Tr.region ?_
  refine Tr.q (QS.move rfl) rfl ?_
  refine Tr.q (QS.build (vs := [(0, _), (2, _), (3, _), (1, _)]) rfl rfl (HLF.built35_0_2_3_1 _ _ _ _)) rfl ?_
  refine Tr.q (QS.idxRow rfl rfl (by repeat (first | exact List.Mem.head _ | apply List.Mem.tail)) Tryz.underlying22 Tryz.sizeOf35 (by rfl) (by omega)) rfl ?_
  refine Tr.storeEl (l := threeL) (i := 2) ((⟨4099, 4097, 20, 1, 0, 0, 0, 0, 0⟩ : Ins)) rfl rfl Tryz.sizeOf35 (by repeat (first | exact Put.here _ | apply Put.there)) (by (try simp only [List.length_set]); omega) (by rfl) rfl ?_
  have hls6 : (List.set threeL (2) ((⟨4099, 4097, 20, 1, 0, 0, 0, 0, 0⟩ : Ins))).length = (threeL).length := List.length_set
  rw [show threeL.set 2 (⟨4099, 4097, 20, 1, 0, 0, 0, 0, 0⟩ : Ins) = threeJ from rfl]
  refine Tr.nil ?_
  refine Tr.thenN ?_
  refine Tr.seq ?_
  refine Tr.region ?_
  refine Tr.q (QS.move rfl) rfl ?_
  refine Tr.q (QS.build (vs := [(0, _)]) rfl rfl rfl) rfl ?_
  refine Tr.callEnts (fun i : Value × Value × Value × Value × Value => .tuple #[.agg #[i.1, i.2.1, i.2.2.1, i.2.2.2.1], i.2.2.2.2]) (fun i => [rowE i.1 35 encIns (resP threeJ [] [] []).kept, rowE i.2.1 33 encU32 (resP threeJ [] [] []).ents, rowE i.2.2.1 33 encU32 (resP threeJ [] [] []).unk, rowE i.2.2.2.1 33 encU32 (resP threeJ [] [] []).bad, rowE i.2.2.2.2 33 encU32 (resP threeJ [] [] []).rem]) (ok := fun _ => True) rfl Tryz.call12 (fun w hw => (resolve_any threeJ [] [] [] _ _ _ _ w (hw.row (by repeat (first | exact List.Mem.head _ | apply List.Mem.tail))) (Sl.nil _ _) (Sl.nil _ _) (Sl.nil _ _) threeJ_ok (by decide) (by decide) (by decide) (by decide)).mono fun e w' ⟨i, q1, q2, q3⟩ => ⟨i, q1, q2, q3, trivial⟩) rfl (fun i3 _ => ?_)
  obtain ⟨Vk3, Ve3, Vu3, Vb3, Vr3⟩ := i3
  refine Tr.rowShape (V := Vk3) (by repeat (first | exact List.Mem.head _ | apply List.Mem.tail)) (fun pk3 ck3 hpv => ?_)
  subst hpv
  refine Tr.rowShape (V := Ve3) (by repeat (first | exact List.Mem.head _ | apply List.Mem.tail)) (fun pe3 ce3 hpv => ?_)
  subst hpv
  refine Tr.rowShape (V := Vu3) (by repeat (first | exact List.Mem.head _ | apply List.Mem.tail)) (fun pu3 cu3 hpv => ?_)
  subst hpv
  refine Tr.rowShape (V := Vb3) (by repeat (first | exact List.Mem.head _ | apply List.Mem.tail)) (fun pb3 cb3 hpv => ?_)
  subst hpv
  refine Tr.rowShape (V := Vr3) (by repeat (first | exact List.Mem.head _ | apply List.Mem.tail)) (fun pr3 cr3 hpv => ?_)
  subst hpv
  simp only [ex_res3]
  refine Tr.q (QS.move rfl) rfl ?_
  refine Tr.q (QS.extract rfl rfl) rfl ?_
  refine Tr.q (QS.extract rfl rfl) rfl ?_
  refine Tr.alloc Tryz.zeroValue28 rfl rfl (fun b7 => ?_)
  refine Tr.storeW rfl rfl Tryz.sizeOf28 (by repeat (first | exact Put.here _ | apply Put.there)) (by rfl) (by rfl) (by first | exact List.all_eq_true.1 rfl | exact Enc.one _ _ | (intro u hu; simp [Value.cells] at hu; simp_all [Value.oneCell'])) rfl ?_
  refine Tr.q (QS.assign rfl) rfl ?_
  refine Tr.nil ?_
  refine Tr.thenN ?_
  refine Tr.seq ?_
  refine Tr.region ?_
  refine Tr.q (QS.move rfl) rfl ?_
  refine Tr.q (QS.build (vs := [(0, _), (1, _)]) rfl rfl (HLF.built58_0_1 _ _)) rfl ?_
  refine Tr.lit1 (E := encRng) (⟨4096, 4097⟩ : Rng) rfl rfl Tryz.underlying41 Tryz.sizeOf58 Tryz.zeroValue58 (by rfl) (by rfl) rfl (fun V8 => ?_)
  refine Tr.q (QS.call rfl Tryz.call21 (fun w hw => samePairs_any ([⟨4096, 4097⟩] : List Rng) [⟨4096, 4097⟩] _ _ w (hw.row (by repeat (first | exact List.Mem.head _ | apply List.Mem.tail))) (hw.row (by repeat (first | exact List.Mem.head _ | apply List.Mem.tail))))) rfl ?_
  refine Tr.q (QS.move rfl) rfl ?_
  refine Tr.gdo rfl rfl rfl ?_
  refine Tr.callRow rfl Tryz.call33 (fun w hw => three_any w) rfl (fun V9 => ?_)
  refine Tr.gq rfl rfl rfl (QS.call rfl Tryz.call14 (fun w hw => (by have q := clean_any threeL _ w (hw.row (by repeat (first | exact List.Mem.head _ | apply List.Mem.tail))) threeL_ok (by decide); rw [ex_conf] at q; exact q : Calls Tryz.prog 14 #[_] w (fun e w' => e = .returned (.bool false) ∧ Ext w w')))) rfl ?_
  refine Tr.gq rfl rfl rfl (QS.not rfl) rfl ?_
  refine Tr.q (QS.pick rfl rfl rfl) rfl ?_
  refine Tr.q (QS.move rfl) rfl ?_
  refine Tr.gq rfl rfl rfl (QS.call rfl Tryz.call14 (fun w hw => (by have q := clean_any [] (.slice none 0 0) w (Sl.nil _ _) (by simp) (by decide); rw [ex_conf0] at q; exact q : Calls Tryz.prog 14 #[.slice none 0 0] w (fun e w' => e = .returned (.bool true) ∧ Ext w w')))) rfl ?_
  refine Tr.q (QS.pick rfl rfl rfl) rfl ?_
  refine Tr.q (QS.move rfl) rfl ?_
  refine Tr.gdo rfl rfl rfl ?_
  refine Tr.callRow rfl Tryz.call33 (fun w hw => three_any w) rfl (fun V10 => ?_)
  refine Tr.gdo rfl rfl rfl ?_
  refine Tr.callRow rfl Tryz.call25 (fun w hw => (by rw [← ex_shar]; exact shared_any threeL _ w (hw.row (by repeat (first | exact List.Mem.head _ | apply List.Mem.tail))) threeL_ok (by decide) : Calls Tryz.prog 25 #[_] w (fun e w' => ∃ V', e = .returned V' ∧ Ext w w' ∧ NewRow w w' 80 encRng ([⟨4097, 4098⟩]) V'))) rfl (fun V11 => ?_)
  refine Tr.gdo rfl rfl rfl ?_
  refine Tr.callRow rfl Tryz.call24 (fun w hw => ranges_any ([⟨4097, 4098⟩] : List Rng) _ w (hw.row (by repeat (first | exact List.Mem.head _ | apply List.Mem.tail))) (by decide)) rfl (fun V12 => ?_)
  refine Tr.gq rfl rfl rfl (QS.build (vs := [(0, _), (1, _)]) rfl rfl (HLF.built60_0_1 _ _)) rfl ?_
  refine Tr.gdo rfl rfl rfl ?_
  refine Tr.lit1 (E := encRng) (⟨4097, 4098⟩ : Rng) rfl rfl Tryz.underlying45 Tryz.sizeOf60 Tryz.zeroValue60 (by rfl) (by rfl) rfl (fun V13 => ?_)
  refine Tr.gq rfl rfl rfl (QS.call rfl Tryz.call23 (fun w hw => sameRanges_any ([⟨4097, 4098⟩] : List Rng) [⟨4097, 4098⟩] _ _ w (hw.row (by repeat (first | exact List.Mem.head _ | apply List.Mem.tail))) (hw.row (by repeat (first | exact List.Mem.head _ | apply List.Mem.tail))))) rfl ?_
  refine Tr.q (QS.pick rfl rfl rfl) rfl ?_
  refine Tr.q (QS.move rfl) rfl ?_
  refine Tr.gq rfl rfl rfl (QS.fieldAddr (off := 0) (ft := 22) rfl Tryz.underlying28 rfl rfl Tryz.sizeOf22 (by decide)) rfl ?_
  refine Tr.gq rfl rfl rfl (QS.lV rfl Tryz.isAgg22) rfl ?_
  refine Tr.gq rfl rfl rfl (QS.lenRow rfl (by repeat (first | exact List.Mem.head _ | apply List.Mem.tail)) Tryz.underlying22) rfl ?_
  refine Tr.gq rfl rfl rfl (QS.eql rfl rfl) rfl ?_
  refine Tr.q (QS.pick rfl rfl rfl) rfl ?_
  refine Tr.q (QS.move rfl) rfl ?_
  refine Tr.gq rfl rfl rfl (QS.fieldAddr (off := 0) (ft := 22) rfl Tryz.underlying28 rfl rfl Tryz.sizeOf22 (by decide)) rfl ?_
  refine Tr.gq rfl rfl rfl (QS.lV rfl Tryz.isAgg22) rfl ?_
  refine Tr.gq rfl rfl rfl (QS.idxRow rfl rfl (by repeat (first | exact List.Mem.head _ | apply List.Mem.tail)) Tryz.underlying22 Tryz.sizeOf35 (by rfl) (by omega)) rfl ?_
  refine Tr.gq rfl rfl rfl (QS.fieldAddr (off := 0) (ft := 33) rfl Tryz.underlying35 rfl rfl Tryz.sizeOf33 (by decide)) rfl ?_
  refine Tr.gq rfl rfl rfl (QS.elRF rfl (by repeat (first | exact List.Mem.head _ | apply List.Mem.tail)) Tryz.isAgg33 (by omega) (by rfl)) rfl ?_
  refine Tr.gq rfl rfl rfl (QS.eql32 (n := 4096) rfl rfl) rfl ?_
  refine Tr.q (QS.pick rfl rfl rfl) rfl ?_
  refine Tr.q (QS.move rfl) rfl ?_
  refine Tr.gq rfl rfl rfl (QS.move rfl) rfl ?_
  refine Tr.gdo rfl rfl rfl ?_
  refine Tr.lit1 (E := encU32) (4097 : UInt32) rfl rfl Tryz.underlying23 Tryz.sizeOf33 Tryz.zeroValue33 (by rfl) (by rfl) rfl (fun V14 => ?_)
  refine Tr.gq rfl rfl rfl (QS.call rfl Tryz.call30 (fun w hw => words_any [4097] [4097] _ _ w (hw.row (by repeat (first | exact List.Mem.head _ | apply List.Mem.tail))) (hw.row (by repeat (first | exact List.Mem.head _ | apply List.Mem.tail))))) rfl ?_
  refine Tr.q (QS.pick rfl rfl rfl) rfl ?_
  refine Tr.q (QS.move rfl) rfl ?_
  refine Tr.gq rfl rfl rfl (QS.fieldAddr (off := 0) (ft := 22) rfl Tryz.underlying28 rfl rfl Tryz.sizeOf22 (by decide)) rfl ?_
  refine Tr.gq rfl rfl rfl (QS.lV rfl Tryz.isAgg22) rfl ?_
  refine Tr.gq rfl rfl rfl (QS.lenRow rfl (by repeat (first | exact List.Mem.head _ | apply List.Mem.tail)) Tryz.underlying22) rfl ?_
  refine Tr.gq rfl rfl rfl (QS.eql rfl rfl) rfl ?_
  refine Tr.q (QS.pick rfl rfl rfl) rfl ?_
  refine Tr.q (QS.move rfl) rfl ?_
  refine Tr.gq rfl rfl rfl (QS.fieldAddr (off := 0) (ft := 22) rfl Tryz.underlying28 rfl rfl Tryz.sizeOf22 (by decide)) rfl ?_
  refine Tr.gq rfl rfl rfl (QS.lV rfl Tryz.isAgg22) rfl ?_
  refine Tr.gq rfl rfl rfl (QS.idxRow rfl rfl (by repeat (first | exact List.Mem.head _ | apply List.Mem.tail)) Tryz.underlying22 Tryz.sizeOf35 (by rfl) (by omega)) rfl ?_
  refine Tr.gq rfl rfl rfl (QS.fieldAddr (off := 0) (ft := 33) rfl Tryz.underlying35 rfl rfl Tryz.sizeOf33 (by decide)) rfl ?_
  refine Tr.gq rfl rfl rfl (QS.elRF rfl (by repeat (first | exact List.Mem.head _ | apply List.Mem.tail)) Tryz.isAgg33 (by omega) (by rfl)) rfl ?_
  refine Tr.gq rfl rfl rfl (QS.eql32 (n := 4097) rfl rfl) rfl ?_
  refine Tr.q (QS.pick rfl rfl rfl) rfl ?_
  refine Tr.q (QS.move rfl) rfl ?_
  refine Tr.gq rfl rfl rfl (QS.fieldAddr (off := 1) (ft := 23) rfl Tryz.underlying28 rfl rfl Tryz.sizeOf23 (by decide)) rfl ?_
  refine Tr.gq rfl rfl rfl (QS.lV rfl Tryz.isAgg23) rfl ?_
  refine Tr.gdo rfl rfl rfl ?_
  refine Tr.lit1 (E := encU32) (4097 : UInt32) rfl rfl Tryz.underlying23 Tryz.sizeOf33 Tryz.zeroValue33 (by rfl) (by rfl) rfl (fun V15 => ?_)
  refine Tr.gq rfl rfl rfl (QS.call rfl Tryz.call30 (fun w hw => words_any [4097] [4097] _ _ w (hw.row (by repeat (first | exact List.Mem.head _ | apply List.Mem.tail))) (hw.row (by repeat (first | exact List.Mem.head _ | apply List.Mem.tail))))) rfl ?_
  refine Tr.q (QS.pick rfl rfl rfl) rfl ?_
  refine Tr.q (QS.move rfl) rfl ?_
  refine Tr.gq rfl rfl rfl (QS.move rfl) rfl ?_
  refine Tr.gdo rfl rfl rfl ?_
  refine Tr.lit1 (E := encU32) (4096 : UInt32) rfl rfl Tryz.underlying23 Tryz.sizeOf33 Tryz.zeroValue33 (by rfl) (by rfl) rfl (fun V16 => ?_)
  refine Tr.gq rfl rfl rfl (QS.call rfl Tryz.call30 (fun w hw => words_any [4096] [4096] _ _ w (hw.row (by repeat (first | exact List.Mem.head _ | apply List.Mem.tail))) (hw.row (by repeat (first | exact List.Mem.head _ | apply List.Mem.tail))))) rfl ?_
  refine Tr.q (QS.pick rfl rfl rfl) rfl ?_
  refine Tr.q (QS.move rfl) rfl ?_
  refine Tr.gq rfl rfl rfl (QS.fieldAddr (off := 0) (ft := 22) rfl Tryz.underlying28 rfl rfl Tryz.sizeOf22 (by decide)) rfl ?_
  refine Tr.gq rfl rfl rfl (QS.lV rfl Tryz.isAgg22) rfl ?_
  refine Tr.gq rfl rfl rfl (QS.lenRow rfl (by repeat (first | exact List.Mem.head _ | apply List.Mem.tail)) Tryz.underlying22) rfl ?_
  refine Tr.gq rfl rfl rfl (QS.eql rfl rfl) rfl ?_
  refine Tr.q (QS.pick rfl rfl rfl) rfl ?_
  refine Tr.q (QS.move rfl) rfl ?_
  refine Tr.gq rfl rfl rfl (QS.fieldAddr (off := 0) (ft := 22) rfl Tryz.underlying28 rfl rfl Tryz.sizeOf22 (by decide)) rfl ?_
  refine Tr.gq rfl rfl rfl (QS.lV rfl Tryz.isAgg22) rfl ?_
  refine Tr.gq rfl rfl rfl (QS.idxRow rfl rfl (by repeat (first | exact List.Mem.head _ | apply List.Mem.tail)) Tryz.underlying22 Tryz.sizeOf35 (by rfl) (by omega)) rfl ?_
  refine Tr.gq rfl rfl rfl (QS.fieldAddr (off := 0) (ft := 33) rfl Tryz.underlying35 rfl rfl Tryz.sizeOf33 (by decide)) rfl ?_
  refine Tr.gq rfl rfl rfl (QS.elRF rfl (by repeat (first | exact List.Mem.head _ | apply List.Mem.tail)) Tryz.isAgg33 (by omega) (by rfl)) rfl ?_
  refine Tr.gq rfl rfl rfl (QS.eql32 (n := 4097) rfl rfl) rfl ?_
  refine Tr.q (QS.pick rfl rfl rfl) rfl ?_
  refine Tr.q (QS.assign rfl) rfl ?_
  refine Tr.nil ?_
  refine Tr.thenN ?_
  refine Tr.ret ?_
  refine Tr.ret1 Tryz.results11 rfl (fun w' hw => ?_)
  exact ⟨by rfl, hw.below (Bg.le.refl _)⟩
end Go.Proofs.YtmhbfelnjkhepaaGreat
namespace Go.HL
open Go Go.Sort
def SA (l : List UInt32) : Prop := l.Pairwise fun x y => x.toNat < y.toNat
theorem SA.nodup {l : List UInt32} (h : SA l) : l.Nodup := h.imp fun {a b} q e => by rw [e] at q; omega
theorem SA.lt {l : List UInt32} (h : SA l) {i j : Nat} (hij : i < j) (hj : j < l.length) : (l.getD i default).toNat < (l.getD j default).toNat := by
  have := List.pairwise_iff_getElem.1 h i j (by omega) hj hij
  simpa [List.getD_eq_getElem?_getD, hj, show i < l.length by omega] using this
/-- No cut lies inside a gap. -/
theorem SA.out {l : List UInt32} (h : SA l) {i : Nat} (hi : i + 1 < l.length) {x : UInt32} (hx : x ∈ l) : x.toNat ≤ (l.getD i default).toNat ∨ (l.getD (i + 1) default).toNat ≤ x.toNat := by
  obtain ⟨j, hj, rfl⟩ := List.mem_iff_getElem.1 hx
  have e : l[j] = l.getD j default := by simp [List.getD_eq_getElem?_getD, hj]
  rw [e]
  rcases Nat.lt_trichotomy j i with h1 | rfl | h1
  · exact .inl (Nat.le_of_lt (h.lt h1 (by omega)))
  · exact .inl (Nat.le_refl _)
  · rcases Nat.lt_or_ge (i + 1) j with h2 | h2
    · exact .inr (Nat.le_of_lt (h.lt h2 hj))
    · rw [show j = i + 1 by omega]; exact .inr (Nat.le_refl _)
end Go.HL
namespace Go.Proofs.YtmhbfelnjkhepaaGreat
open Go Go.HL Go.RowKit
set_option maxRecDepth 100000 in
set_option maxHeartbeats 2000000 in
theorem has12_any (l : List UInt32) (V : Value) (a : UInt32) (w : World) (hV : Sl (hp w) encU32 l V) :
    Calls Tryz.prog 17 #[V, .int .u32 a.toNat] w (fun e w' => e = .returned (.bool (hasU l a)) ∧ Ext w w') := by
  have hV' : Sl (Bg.of w).blk encU32 l V := hV
  have hlen := hV.len_le
  refine enter Tryz.func17 rfl Tryz.ntmps17 rfl ?_
  refine Tr.seq ?_
  refine Tr.region ?_
  refine Tr.q (QS.assign rfl) rfl ?_
  refine Tr.nil ?_
  refine Tr.thenN ?_
  refine Tr.seq ?_
  refine Tr.seq ?_
  refine Tr.region ?_
  refine Tr.q (QS.assign rfl) rfl ?_
  refine Tr.nil ?_
  refine Tr.thenN ?_
  refine Tr.block ?_
  refine Tr.loop (ι := Nat) (fun k => k ≤ l.length ∧ (l.take k).any (fun x => decide (a = x)) = false) (fun _ => _) (fun k => []) (fun k => [(5, .int .i64 (k : Nat))]) (fun k => l.length - k) 0 ⟨Nat.zero_le _, rfl⟩ (.cons (by first | rfl | exact lookI rfl (by omega) | exact lookI rfl (by simp) | exact lookB rfl (by simp)) Front.nil) (by repeat' (first | exact Pick.nil _ | exact Del.here _ | apply Pick.cons | apply Del.there)) rfl (fun k hi m hm => ?_)
  replace hi : k ≤ l.length ∧ (l.take k).any (fun x => decide (a = x)) = false := hi
  replace hm : m = l.length - k := hm
  change Tr _ _ [] ([(5, .int .i64 (k : Nat))] ++ _) _
  obtain ⟨hk1, hk2⟩ := hi
  refine Tr.seq ?_
  refine Tr.seq ?_
  refine Tr.region ?_
  refine Tr.q (QS.move rfl) rfl ?_
  refine Tr.q (QS.move rfl) rfl ?_
  refine Tr.q (QS.len rfl (by assumption) Tryz.underlying23) rfl ?_
  refine Tr.q (QS.lss rfl rfl) rfl ?_
  refine Tr.nil ?_
  refine Tr.thenN ?_
  refine Tr.cond rfl (fun h1 => ?_) (fun h1 => ?_)
  · try simp only [bs] at h1
    refine Tr.skip ?_
    refine Tr.thenN ?_
    refine Tr.seq ?_
    refine Tr.block ?_
    refine Tr.seq ?_
    refine Tr.region ?_
    refine Tr.q (QS.move rfl) rfl ?_
    refine Tr.q (QS.move rfl) rfl ?_
    refine Tr.q (QS.idxN rfl rfl (by assumption) Tryz.underlying23 Tryz.sizeOf33 (by rfl) (by omega)) rfl ?_
    refine Tr.q (QS.el1 rfl (by assumption) Tryz.isAgg33 (by omega) (by rfl)) rfl ?_
    refine Tr.q (QS.move rfl) rfl ?_
    refine Tr.q (QS.eql32 rfl rfl) rfl ?_
    refine Tr.nil ?_
    refine Tr.thenN ?_
    refine Tr.cond rfl (fun h2 => ?_) (fun h2 => ?_)
    · try simp only [bs] at h2
      refine Tr.seq ?_
      refine Tr.region ?_
      refine Tr.q (QS.assign rfl) rfl ?_
      refine Tr.nil ?_
      refine Tr.thenN ?_
      refine Tr.ret ?_
      refine Tr.inR ?_
      refine Tr.thenR ?_
      refine Tr.thenR ?_
      refine Tr.inR ?_
      refine Tr.thenR ?_
      refine Tr.ret1 Tryz.results17 rfl (fun w' hw => ?_)
      exact ⟨by rw [hasU, List.any_eq_true.2 ⟨_, mem_getD (k := k) (by omega), by simp_all⟩], hw.below (Bg.le.refl _)⟩
    · try simp only [bs] at h2
      refine Tr.skip ?_
      refine Tr.inN ?_
      refine Tr.thenN ?_
      refine Tr.region ?_
      refine Tr.q (QS.move rfl) rfl ?_
      refine Tr.q (QS.addI rfl rfl (by omega)) rfl ?_
      refine Tr.q (QS.assign rfl) rfl ?_
      refine Tr.nil ?_
      refine Tr.thenN ?_
      apply Tr.again (k + 1)
      · exact rfl
      · exact (.cons (by first | rfl | exact lookI rfl (by omega) | exact lookI rfl (by simp) | exact lookB rfl (by simp)) Front.nil)
      · exact SubX.dropN 14 (by kernel_rfl) rfl
      · exact (by repeat' (first | exact Pick.nil _ | exact Del.here _ | apply Pick.cons | apply Del.there))
      · exact ⟨by omega, by rw [any_take_succ (by omega), hk2, Bool.false_or]; exact decide_eq_false (fun e => by simp_all)⟩
      · exact (by (try dsimp only); omega)
  · try simp only [bs] at h1
    refine Tr.exit ?_
    refine Tr.thenE ?_
    refine Tr.thenE ?_
    refine Tr.inHit ?_
    refine Tr.thenN ?_
    refine Tr.seq ?_
    refine Tr.region ?_
    refine Tr.q (QS.assign rfl) rfl ?_
    refine Tr.nil ?_
    refine Tr.thenN ?_
    refine Tr.ret ?_
    refine Tr.ret1 Tryz.results17 rfl (fun w' hw => ?_)
    exact ⟨by rw [hasU, ← hk2, List.take_of_length_le (by omega)], hw.below (Bg.le.refl _)⟩
end Go.Proofs.YtmhbfelnjkhepaaGreat
namespace Go.HL
open Go Go.Sort
open Go.Proofs (ltOf)
def smallP (ins : List Ins) (ents unk bad : List UInt32) : Bool := ((decide ((ins.length : Int) ≤ 40) && decide ((ents.length : Int) ≤ 40)) && decide ((unk.length : Int) ≤ 40)) && decide ((bad.length : Int) ≤ 40)
theorem small_iff {ins : List Ins} {ents unk bad : List UInt32} : smallP ins ents unk bad = true ↔ ins.length ≤ 40 ∧ ents.length ≤ 40 ∧ unk.length ≤ 40 ∧ bad.length ≤ 40 := by
  unfold smallP
  simp only [Bool.and_eq_true, decide_eq_true_eq]
  omega
theorem keep_spec : ∀ (xs out : List Ins), (∀ x ∈ out, x ∈ xs.foldl keepStep out) ∧ (∀ x ∈ xs, x ∈ xs.foldl keepStep out ∨ ∃ y ∈ xs.foldl keepStep out, conflP x y = true) ∧
    ((∀ a ∈ out, ∀ b ∈ out, conflP a b = false) → ∀ a ∈ xs.foldl keepStep out, ∀ b ∈ xs.foldl keepStep out, conflP a b = false)
  | [], out => ⟨fun x h => h, fun x h => by simp at h, fun h => h⟩
  | x :: t, out => by
    obtain ⟨h1, h2, h3⟩ := keep_spec t (keepStep out x)
    rw [List.foldl_cons]
    by_cases c : out.any (conflP x) = true
    · have e : keepStep out x = out := by rw [keepStep, if_pos c]
      rw [e] at h1 h2 h3 ⊢
      refine ⟨h1, fun z hz => ?_, h3⟩
      rcases List.mem_cons.1 hz with rfl | hz
      · obtain ⟨y, hy, q⟩ := List.any_eq_true.1 c
        exact .inr ⟨y, h1 y hy, q⟩
      · exact h2 z hz
    · have e : keepStep out x = out ++ [x] := by rw [keepStep, if_neg c]
      rw [e] at h1 h2 h3 ⊢
      refine ⟨fun z hz => h1 z (List.mem_append_left _ hz), fun z hz => ?_, fun h => h3 ?_⟩
      · rcases List.mem_cons.1 hz with rfl | hz
        · exact .inl (h1 z (by simp))
        · exact h2 z hz
      · have hx : ∀ y ∈ out, conflP x y = false := fun y hy => by
          cases q : conflP x y
          · rfl
          · exact absurd (List.any_eq_true.2 ⟨y, hy, q⟩) c
        intro a ha b hb
        rcases List.mem_append.1 ha with qa | qa <;> rcases List.mem_append.1 hb with qb | qb
        · exact h a qa b qb
        · rw [List.mem_singleton.1 qb, conf_sym]; exact hx a qa
        · rw [List.mem_singleton.1 qa]; exact hx b qb
        · rw [List.mem_singleton.1 qa, List.mem_singleton.1 qb]
          cases q : conflP x x
          · rfl
          · exact absurd rfl (conf_iff.1 q).1
theorem res_kept_mem {ins : List Ins} {ents unk bad : List UInt32} {x : Ins} : x ∈ (resP ins ents unk bad).kept ↔ x ∈ keepF (ordOf (grpP ents (tgtM (countP ins))) (countP ins)) :=
  (sortP_perm swo_cmpA _).mem_iff
theorem res_dist (ins : List Ins) (ents : List UInt32) : dist (keepF (ordOf (grpP ents (tgtM (countP ins))) (countP ins))) :=
  keep_dist _ [] (by simpa using ord_dist (grp_range ents (tgtM (countP ins))) (count_dist ins))
theorem res_sorted (ins : List Ins) (ents unk bad : List UInt32) : (resP ins ents unk bad).kept.Pairwise fun a b => ltA a b = true := (sortA_ok (res_dist ins ents)).1
theorem res_in {ins : List Ins} {ents unk bad : List UInt32} {x : Ins} (h : x ∈ (resP ins ents unk bad).kept) : x ∈ countP ins := ord_sub (keep_sub (res_kept_mem.1 h))
theorem res_clean (ins : List Ins) (ents unk bad : List UInt32) : ∀ a ∈ (resP ins ents unk bad).kept, ∀ b ∈ (resP ins ents unk bad).kept, conflP a b = false := fun a ha b hb =>
  (keep_spec (ordOf (grpP ents (tgtM (countP ins))) (countP ins)) []).2.2 (by simp) a (res_kept_mem.1 ha) b (res_kept_mem.1 hb)
theorem conf_nil {l : List Ins} (h : ∀ a ∈ l, ∀ b ∈ l, conflP a b = false) : confP l = [] := by
  apply List.eq_nil_iff_forall_not_mem.2
  intro p hp
  obtain ⟨a, ha, b, hb, hc, _⟩ := ((conf_mem l).2 p).1 hp
  rw [ovP, rconf_eq, h a ha b hb] at hc
  simp at hc
theorem ord_mem {g : Ins → Int} (hg : ∀ i, g i = 0 ∨ g i = 1 ∨ g i = 2) {l : List Ins} {x : Ins} : x ∈ ordOf g l ↔ x ∈ l := (ord_stab hg l).1.1.mem_iff.symm
theorem count_addr {ins : List Ins} {x : Ins} (hx : x ∈ ins) (hv : errP x = 0) : inK (countP ins) x.addr = true := by
  have : inK (cntL ins) x.addr = true := by
    unfold cntL
    rw [cnt_addr, Bool.or_eq_true]
    exact .inr (List.any_eq_true.2 ⟨x, hx, by simp [hv]⟩)
  obtain ⟨y, hy, e⟩ := inK_iff.1 this
  exact inK_iff.2 ⟨y, ((count_ok ins).2 y).2 hy, e⟩
theorem rem_iff {ins : List Ins} {ents unk bad : List UInt32} {a : UInt32} : a ∈ (resP ins ents unk bad).rem ↔ (∃ x ∈ countP ins, x.addr = a) ∧ inK (resP ins ents unk bad).kept a = false := by
  show a ∈ remP (countP ins) (resP ins ents unk bad).kept ↔ _
  unfold remP
  simp only [List.mem_map, List.mem_filter]
  constructor
  · rintro ⟨x, ⟨hx, hk⟩, rfl⟩; exact ⟨⟨x, hx, rfl⟩, by simpa using hk⟩
  · rintro ⟨⟨x, hx, rfl⟩, hk⟩; exact ⟨x, ⟨hx, by rw [hk]; rfl⟩, rfl⟩
theorem hasU_iff {l : List UInt32} {a : UInt32} : hasU l a = true ↔ a ∈ l := by
  unfold hasU; rw [List.any_eq_true]; simp
theorem resolved_law (ins : List Ins) (ents unk bad : List UInt32) :
    (confP (resP ins ents unk bad).kept).length = 0 ∧
    (∀ i, 0 < i → i < (resP ins ents unk bad).kept.length → ((resP ins ents unk bad).kept.getD (i - 1) default).addr < ((resP ins ents unk bad).kept.getD i default).addr) ∧
    (∀ i, i < (resP ins ents unk bad).kept.length → errP ((resP ins ents unk bad).kept.getD i default) = 0 ∧ (ins.any fun x => decide (x = (resP ins ents unk bad).kept.getD i default)) = true ∧ hasU (resP ins ents unk bad).rem ((resP ins ents unk bad).kept.getD i default).addr = false) ∧
    (∀ i, i < ins.length → errP (ins.getD i default) = 0 → inK (resP ins ents unk bad).kept (ins.getD i default).addr = false → hasU (resP ins ents unk bad).rem (ins.getD i default).addr = true) ∧
    (∀ i, i < (resP ins ents unk bad).rem.length → (ins.any fun c => (resP ins ents unk bad).kept.any fun d => (decide (c.addr = (resP ins ents unk bad).rem.getD i default) && decide (errP c = 0)) && clashP c d) = true) := by
  refine ⟨by rw [conf_nil (res_clean ins ents unk bad)]; rfl, fun i h0 hi => ?_, fun i hi => ⟨?_, ?_, ?_⟩, fun i hi hv hk => ?_, fun i hi => ?_⟩
  · have := pair_get (res_sorted ins ents unk bad) (i := i - 1) (j := i) (by omega) hi
    exact of_decide_eq_true this
  · exact count_valid (res_in (mem_getD hi))
  · exact List.any_eq_true.2 ⟨_, countP_sub (res_in (mem_getD hi)), by simp⟩
  · cases q : hasU (resP ins ents unk bad).rem ((resP ins ents unk bad).kept.getD i default).addr
    · rfl
    · have := (rem_iff.1 (hasU_iff.1 q)).2
      rw [inK_iff.2 ⟨_, mem_getD hi, rfl⟩] at this; cases this
  · exact hasU_iff.2 (rem_iff.2 ⟨inK_iff.1 (count_addr (mem_getD hi) hv), hk⟩)
  · obtain ⟨⟨x, hx, e⟩, hk⟩ := rem_iff.1 (mem_getD hi)
    have hg := grp_range ents (tgtM (countP ins))
    rcases (keep_spec (ordOf (grpP ents (tgtM (countP ins))) (countP ins)) []).2.1 x ((ord_mem hg).2 hx) with h | ⟨y, hy, h⟩
    · rw [← e, inK_iff.2 ⟨x, res_kept_mem.2 h, rfl⟩] at hk; cases hk
    · exact List.any_eq_true.2 ⟨x, countP_sub hx, List.any_eq_true.2 ⟨y, res_kept_mem.2 hy, by rw [clash_eq, h, decide_eq_true e, decide_eq_true (count_valid hx)]; rfl⟩⟩
end Go.HL
namespace Go.HL
open Go Go.Sort
theorem res_len (ins : List Ins) (ents unk bad : List UInt32) : (resP ins ents unk bad).kept.length ≤ (countP ins).length := by
  show (sortP (Go.Proofs.ltOf cmpA) _).length ≤ _
  rw [sortP_length swo_cmpA]
  have h1 := keepF_len (ordOf (grpP ents (tgtM (countP ins))) (countP ins))
  rw [ord_len (grp_range ents (tgtM (countP ins)))] at h1
  exact h1
end Go.HL
namespace Go.HL
open Go Go.Sort
end Go.HL
