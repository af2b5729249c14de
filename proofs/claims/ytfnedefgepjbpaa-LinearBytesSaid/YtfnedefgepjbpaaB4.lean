/- Own rules and walks, part 4. -/
import Derived.Test.YtfnedefgepjbpaaB3
set_option linter.unusedSimpArgs false
set_option linter.unusedVariables false
set_option linter.unusedSectionVars false
namespace Go.Proofs.Ytfnedefgepjbpaa
open Go Go.HL Go.RowKit
def ltC (cmp : SecV → SecV → Int) (x y : SecV) : Bool := decide (cmp x y < 0)
def srtP (cmp : SecV → SecV → Int) (V : Value) (l : List SecV) (a b : Nat) (w : World) : Ending → World → Prop := fun e w' => e = .returned (.tuple #[]) ∧ ∃ l', (Stab (ltC cmp) l l' ∧ Fram a b l l' ∧ Srt (ltC cmp) l' a b) ∧ Mut w w' V ∧ (rowE V 59 encSec l').holds w'
def SymFor (g : FuncId) (cmp : SecV → SecV → Int) (V : Value) (n : Nat) : Prop := ∀ (l : List SecV) (a md b : Nat) (ai mdi bi : Int) (w : World), ai = ((a : Nat) : Int) → mdi = ((md : Nat) : Int) → bi = ((b : Nat) : Int) → b - a ≤ n → a < md → md < b → b ≤ l.length → l.length ≤ 1000000 → Srt (ltC cmp) l a md → Srt (ltC cmp) l md b → (rowE V 59 encSec l).holds w → Calls Try.prog 114 #[V, .int .i64 ai, .int .i64 mdi, .int .i64 bi, .func (.func g) #[] #[]] w (srtP cmp V l a b w)
set_option maxRecDepth 100000 in
set_option maxHeartbeats 2000000 in
theorem insertion_sec (l : List SecV) (V : Value) (a : Nat) (b : Nat) (ai : Int) (bi : Int) (ea : ai = ((a : Nat) : Int)) (eb : bi = ((b : Nat) : Int)) (g : FuncId) (cmp : SecV → SecV → Int) (eg : ∀ args w, (callFunc g args).run Try.prog w = .ok (.enter g args) w) (hc : ∀ x y w', Calls Try.prog g ([Value.agg (encSec.enc x).toArray, Value.agg (encSec.enc y).toArray] ++ []).toArray w' fun e w'' => e = .returned (.int .i64 (cmp x y)) ∧ Ext w' w'') (hO : WO (ltC cmp)) (w : World) (hr : (rowE V 59 encSec l).holds w) (hl : l.length ≤ 1000000) (hab : a ≤ b) (hb : b ≤ l.length) :
    Calls Try.prog 113 #[V, .int .i64 ai, .int .i64 bi, .func (.func g) #[] #[]] w (srtP cmp V l a b w) := by
  subst ea eb
  refine enterOwn (l := l) (E := encSec) (T := 59) hr Try.func113 rfl Try.ntmps113 rfl ?_
  refine Tr.seq ?_
  refine Tr.region ?_
  refine Tr.q (QS.move rfl) rfl ?_
  refine Tr.q (QS.addI rfl rfl (by omega)) rfl ?_
  refine Tr.q (QS.assign rfl) rfl ?_
  refine Tr.nil ?_
  refine Tr.thenN ?_
  refine Tr.block ?_
  refine Tr.loop (ι := Nat × List SecV) (fun ⟨i, cur⟩ => a + 1 ≤ i ∧ (i ≤ b ∨ i = a + 1) ∧ Stab (ltC cmp) l cur ∧ Fram a b l cur ∧ Srt (ltC cmp) cur a i) (fun _ => _) (fun ⟨i, cur⟩ => [rowE V 59 encSec cur]) (fun ⟨i, cur⟩ => [(8, .int .i64 (i : Nat))]) (fun ⟨i, cur⟩ => b - i) (a + 1, l) ⟨Nat.le_refl _, .inr rfl, .refl _ _, .refl _ _ _, .one (Nat.le_refl _)⟩ (.cons (by first | rfl | exact lookI rfl (by omega) | exact lookI rfl (by simp) | exact lookB rfl (by simp)) Front.nil) (by repeat' (first | exact Pick.nil _ | exact Del.here _ | apply Pick.cons | apply Del.there)) rfl (fun i hi m hm => ?_)
  obtain ⟨i, cur⟩ := i
  replace hi : a + 1 ≤ i ∧ (i ≤ b ∨ i = a + 1) ∧ Stab (ltC cmp) l cur ∧ Fram a b l cur ∧ Srt (ltC cmp) cur a i := hi
  replace hm : m = b - i := hm
  change Tr _ _ [rowE V 59 encSec cur] ([(8, .int .i64 (i : Nat))] ++ _) _
  obtain ⟨hi1, hi2, hi3, hi4, hi5⟩ := hi
  have hcl : cur.length = l.length := hi4.1
  refine Tr.seq ?_
  refine Tr.seq ?_
  refine Tr.region ?_
  refine Tr.q (QS.move rfl) rfl ?_
  refine Tr.q (QS.move rfl) rfl ?_
  refine Tr.q (QS.lss rfl rfl) rfl ?_
  refine Tr.nil ?_
  refine Tr.thenN ?_
  refine Tr.cond rfl (fun h1 => ?_) (fun h1 => ?_)
  · try simp only [bs] at h1
    refine Tr.skip ?_
    refine Tr.thenN ?_
    refine Tr.seq ?_
    refine Tr.block ?_
    refine Tr.seq ?_
    refine Tr.region ?_
    refine Tr.q (QS.move rfl) rfl ?_
    refine Tr.q (QS.assign rfl) rfl ?_
    refine Tr.nil ?_
    refine Tr.thenN ?_
    refine Tr.block ?_
    have e0 : mp (rotF i i (i + 1)) cur = cur := rot_none (.inl rfl) (Nat.le_refl _) (by omega)
    refine Tr.rowEq e0.symm ?_
    refine Tr.loop (ι := Nat) (fun j => a ≤ j ∧ j ≤ i ∧ ∀ q, j ≤ q → q < i → ltC cmp (cur.getD i default) (cur.getD q default) = true) (fun _ => _) (fun j => [rowE V 59 encSec (mp (rotF j i (i + 1)) cur)]) (fun j => [(9, .int .i64 (j : Nat))]) (fun j => j) i ⟨by omega, Nat.le_refl _, fun q x y => by omega⟩ (.cons (by first | rfl | exact lookI rfl (by omega) | exact lookI rfl (by simp) | exact lookB rfl (by simp)) Front.nil) (by repeat' (first | exact Pick.nil _ | exact Del.here _ | apply Pick.cons | apply Del.there)) rfl (fun j hi m hm => ?_)
    replace hi : a ≤ j ∧ j ≤ i ∧ ∀ q, j ≤ q → q < i → ltC cmp (cur.getD i default) (cur.getD q default) = true := hi
    replace hm : m = j := hm
    change Tr _ _ [rowE V 59 encSec (mp (rotF j i (i + 1)) cur)] ([(9, .int .i64 (j : Nat))] ++ _) _
    obtain ⟨hj1, hj2, hj3⟩ := hi
    have hml : (mp (rotF j i (i + 1)) cur).length = l.length := by rw [mp_len]; exact hcl
    have ej : ((j : Int) - 1).toNat = j - 1 := by omega
    have ev : (mp (rotF j i (i + 1)) cur).getD j default = cur.getD i default := by rw [mp_at (by omega)]; congr 1; have := rotF_cases j i (i + 1) j; omega
    have ew : 0 < j → (mp (rotF j i (i + 1)) cur).getD (j - 1) default = cur.getD (j - 1) default := fun q => by rw [mp_at (by omega)]; congr 1; have := rotF_cases j i (i + 1) (j - 1); omega
    refine Tr.seq ?_
    refine Tr.seq ?_
    refine Tr.regionQ HLF.mixed (by kernel_rfl) ?_
    refine TrQ.q (QS.move rfl) rfl ?_
    refine TrQ.q (QS.move rfl) rfl ?_
    refine TrQ.q (QS.gtr rfl rfl) rfl ?_
    refine TrQ.q (QS.move rfl) rfl ?_
    apply TrQ.andP
    · exact (rfl : _ = (13, 21, 34))
    · exact rfl
    · intro hT2; have hT2' := hT2
      try simp only [bs] at hT2'
      refine TrQ.gq rfl rfl hT2 (QS.move rfl) rfl ?_
      refine TrQ.gq rfl rfl hT2 (QS.move rfl) rfl ?_
      refine TrQ.gq rfl rfl hT2 (QS.move rfl) rfl ?_
      refine TrQ.gq rfl rfl hT2 (QS.idxRowN rfl rfl (by repeat (first | exact List.Mem.head _ | apply List.Mem.tail)) Try.underlying22 Try.sizeOf59 (by rfl) (by omega)) rfl ?_
      refine TrQ.gq rfl rfl hT2 (QS.elRA rfl (by repeat (first | exact List.Mem.head _ | apply List.Mem.tail)) Try.isAgg59 Try.sizeOf59 (by rfl) (by omega)) rfl ?_
      refine TrQ.gq rfl rfl hT2 (QS.move rfl) rfl ?_
      refine TrQ.gq rfl rfl hT2 (QS.move rfl) rfl ?_
      refine TrQ.gq rfl rfl hT2 (QS.subI rfl rfl (by omega)) rfl ?_
      refine TrQ.gq rfl rfl hT2 (QS.idxRow rfl rfl (by repeat (first | exact List.Mem.head _ | apply List.Mem.tail)) Try.underlying22 Try.sizeOf59 (by rfl) (by omega)) rfl ?_
      refine TrQ.gq rfl rfl hT2 (QS.elRA rfl (by repeat (first | exact List.Mem.head _ | apply List.Mem.tail)) Try.isAgg59 Try.sizeOf59 (by rfl) (by omega)) rfl ?_
      refine TrQ.gq rfl rfl hT2 (QS.callV rfl rfl eg (fun w hw => hc _ _ w)) rfl ?_
      refine TrQ.gq rfl rfl hT2 (QS.lss rfl rfl) rfl ?_
      refine TrQ.q (QS.pickT rfl hT2 rfl) rfl ?_
      exact TrQ.end (Sub.cons rfl (Sub.dropN 13 (by kernel_rfl) rfl))
    · intro hF2
      refine TrQ.gskip rfl rfl hF2 rfl ?_
      refine TrQ.gskip rfl rfl hF2 rfl ?_
      refine TrQ.gskip rfl rfl hF2 rfl ?_
      refine TrQ.gskip rfl rfl hF2 rfl ?_
      refine TrQ.gskip rfl rfl hF2 rfl ?_
      refine TrQ.gskip rfl rfl hF2 rfl ?_
      refine TrQ.gskip rfl rfl hF2 rfl ?_
      refine TrQ.gskip rfl rfl hF2 rfl ?_
      refine TrQ.gskip rfl rfl hF2 rfl ?_
      refine TrQ.gskip rfl rfl hF2 rfl ?_
      refine TrQ.gskip rfl rfl hF2 rfl ?_
      refine TrQ.gskip rfl rfl hF2 rfl ?_
      refine TrQ.q (QS.pickF rfl hF2 rfl) rfl ?_
      exact TrQ.end (Sub.cons rfl (Sub.dropN 13 (by kernel_rfl) rfl))
    refine TrQ.nil ?_
    refine Tr.thenN ?_
    refine Tr.cond rfl (fun h3 => ?_) (fun h3 => ?_)
    · try simp only [bs] at h3
      refine Tr.skip ?_
      refine Tr.thenN ?_
      refine Tr.seq ?_
      refine Tr.block ?_
      refine Tr.regionT 5 15 HLF.mixed (by kernel_rfl) (panicIn (panicThen (panicThen (panicIn (panicIn (panicThen (panicThen (panicIn panicBody)))))))) ?_
      refine TrQ.pureMove rfl rfl ?_
      refine TrQ.pureMove rfl rfl ?_
      refine TrQ.pureMove rfl rfl ?_
      refine TrQ.pureMove rfl rfl ?_
      refine TrQ.pureQ (fun _ => QS.subI rfl rfl (by omega)) (by rfl) rfl ?_
      refine TrQ.pureNil ?_
      refine TrQ.q (QS.move rfl) rfl ?_
      refine TrQ.q (QS.move rfl) rfl ?_
      refine TrQ.q (QS.subI rfl rfl (by omega)) rfl ?_
      refine TrQ.q (QS.idxRow rfl rfl (by repeat (first | exact List.Mem.head _ | apply List.Mem.tail)) Try.underlying22 Try.sizeOf59 (by rfl) (by omega)) rfl ?_
      refine TrQ.q (QS.elRA rfl (by repeat (first | exact List.Mem.head _ | apply List.Mem.tail)) Try.isAgg59 Try.sizeOf59 (by rfl) (by omega)) rfl ?_
      refine TrQ.q (QS.move rfl) rfl ?_
      refine TrQ.q (QS.move rfl) rfl ?_
      refine TrQ.q (QS.idxRowN rfl rfl (by repeat (first | exact List.Mem.head _ | apply List.Mem.tail)) Try.underlying22 Try.sizeOf59 (by rfl) (by omega)) rfl ?_
      refine TrQ.q (QS.elRA rfl (by repeat (first | exact List.Mem.head _ | apply List.Mem.tail)) Try.isAgg59 Try.sizeOf59 (by rfl) (by omega)) rfl ?_
      refine TrQ.q (QS.idxRowN rfl rfl (by repeat (first | exact List.Mem.head _ | apply List.Mem.tail)) Try.underlying22 Try.sizeOf59 (by rfl) (by omega)) rfl ?_
      refine TrQ.nil ?_
      refine Tr.storeEl (l := (mp (rotF j i (i + 1)) cur)) (i := j) ((mp (rotF j i (i + 1)) cur).getD (((j : Int) - 1).toNat) default) rfl rfl Try.sizeOf59 (by repeat (first | exact Put.here _ | apply Put.there)) (by (try simp only [List.length_set]); omega) (by rfl) rfl ?_
      have hls4 : (List.set (mp (rotF j i (i + 1)) cur) (j) ((mp (rotF j i (i + 1)) cur).getD (((j : Int) - 1).toNat) default)).length = ((mp (rotF j i (i + 1)) cur)).length := List.length_set
      refine Tr.q (QS.idxRow rfl rfl (by repeat (first | exact List.Mem.head _ | apply List.Mem.tail)) Try.underlying22 Try.sizeOf59 (by rfl) (by omega)) rfl ?_
      refine Tr.storeEl (l := ((mp (rotF j i (i + 1)) cur).set (j) ((mp (rotF j i (i + 1)) cur).getD (((j : Int) - 1).toNat) default))) (i := ((j : Int) - 1).toNat) ((mp (rotF j i (i + 1)) cur).getD (j) default) rfl rfl Try.sizeOf59 (by repeat (first | exact Put.here _ | apply Put.there)) (by (try simp only [List.length_set]); omega) (by rfl) rfl ?_
      have hls5 : (List.set ((mp (rotF j i (i + 1)) cur).set (j) ((mp (rotF j i (i + 1)) cur).getD (((j : Int) - 1).toNat) default)) (((j : Int) - 1).toNat) ((mp (rotF j i (i + 1)) cur).getD (j) default)).length = (((mp (rotF j i (i + 1)) cur).set (j) ((mp (rotF j i (i + 1)) cur).getD (((j : Int) - 1).toNat) default))).length := List.length_set
      refine Tr.nil ?_
      refine Tr.inN ?_
      refine Tr.thenN ?_
      refine Tr.region ?_
      refine Tr.q (QS.move rfl) rfl ?_
      refine Tr.q (QS.subI rfl rfl (by omega)) rfl ?_
      refine Tr.q (QS.assign rfl) rfl ?_
      refine Tr.nil ?_
      refine Tr.thenN ?_
      have hsw := mp_sw (l := (mp (rotF j i (i + 1)) cur)) (p := j) (q := j - 1) (by omega) (by omega)
      rw [rot_down (by omega) hj2 (by omega)] at hsw
      have hlt : ltC cmp (cur.getD i default) (cur.getD (j - 1) default) = true := by
        rw [← ev, ← ew (by omega), ← ej]
        simpa [ltC] using h3.2
      have hj3' : ∀ q, j - 1 ≤ q → q < i → ltC cmp (cur.getD i default) (cur.getD q default) = true := fun q x y => by
        by_cases c : q = j - 1
        · rw [c]; exact hlt
        · exact hj3 q (by omega) y
      rw [ej, hsw]
      apply Tr.again (j - 1)
      · exact rfl
      · exact (.cons (by first | rfl | exact lookI rfl (by omega) | exact lookI rfl (by simp) | exact lookB rfl (by simp)) Front.nil)
      · exact SubX.dropN 25 (by kernel_rfl) rfl
      · exact (by repeat' (first | exact Pick.nil _ | exact Del.here _ | apply Pick.cons | apply Del.there))
      · exact ⟨by omega, by omega, hj3'⟩
      · exact (by (try dsimp only); omega)
    · try simp only [bs] at h3
      refine Tr.exit ?_
      refine Tr.thenE ?_
      refine Tr.thenE ?_
      refine Tr.inHit ?_
      refine Tr.inN ?_
      refine Tr.thenN ?_
      refine Tr.region ?_
      refine Tr.q (QS.move rfl) rfl ?_
      refine Tr.q (QS.addI rfl rfl (by omega)) rfl ?_
      refine Tr.q (QS.assign rfl) rfl ?_
      refine Tr.nil ?_
      refine Tr.thenN ?_
      have hB : j = a ∨ ltC cmp (cur.getD i default) (cur.getD (j - 1) default) = false := by
        rcases h3 with h3 | h3
        · exact .inl (by omega)
        · by_cases q : j = a
          · exact .inl q
          · refine .inr ?_
            rw [← ev, ← ew (by omega), ← ej]
            simpa [ltC] using h3
      have hin := srt_ins hO hi5 (by omega) hj1 hj2 hj3 hB
      have hfr : Fram a b l (mp (rotF j i (i + 1)) cur) := hi4.trans (Fram.rot hj1 (by omega) hj2 (by omega))
      apply Tr.again (i + 1, _)
      · exact rfl
      · exact (.cons (by first | rfl | exact lookI rfl (by omega) | exact lookI rfl (by simp) | exact lookB rfl (by simp)) Front.nil)
      · exact SubX.dropN 15 (by kernel_rfl) rfl
      · exact (by repeat' (first | exact Pick.nil _ | exact Del.here _ | apply Pick.cons | apply Del.there))
      · exact ⟨by omega, by omega, hi3.trans hin.1, hfr, hin.2⟩
      · exact (by (try dsimp only); omega)
  · try simp only [bs] at h1
    refine Tr.exit ?_
    refine Tr.thenE ?_
    refine Tr.thenE ?_
    refine Tr.inHit ?_
    refine Tr.ret0n Try.results113 (fun w' hw => ?_)
    exact ⟨rfl, _, ⟨hi3, hi4, hi5.sub (Nat.le_refl _) (by omega)⟩, HpOK.mutOwn hw (.head _) rfl⟩
set_option maxRecDepth 100000 in
set_option maxHeartbeats 2000000 in
theorem swapRange_sec (l : List SecV) (V : Value) (a : Nat) (b : Nat) (n : Nat) (ai : Int) (bi : Int) (ni : Int) (ea : ai = ((a : Nat) : Int)) (eb : bi = ((b : Nat) : Int)) (en : ni = ((n : Nat) : Int)) (cv : Value) (w : World) (hr : (rowE V 59 encSec l).holds w) (hl : l.length ≤ 1000000) (hab : a + n ≤ b) (hb : b + n ≤ l.length) :
    Calls Try.prog 122 #[V, .int .i64 ai, .int .i64 bi, .int .i64 ni, cv] w (fun e w' => e = .returned (.tuple #[]) ∧ Mut w w' V ∧ (rowE V 59 encSec (mp (swR a b n) l)).holds w') := by
  subst ea eb en
  refine enterOwn (l := l) (E := encSec) (T := 59) hr Try.func122 rfl Try.ntmps122 rfl ?_
  refine Tr.seq ?_
  refine Tr.region ?_
  refine Tr.q (QS.assign rfl) rfl ?_
  refine Tr.nil ?_
  refine Tr.thenN ?_
  refine Tr.block ?_
  have e0 : mp (swR a b 0) l = l := swR_0
  refine Tr.rowEq e0.symm ?_
  refine Tr.loop (ι := Nat) (fun i => i ≤ n) (fun _ => _) (fun i => [rowE V 59 encSec (mp (swR a b i) l)]) (fun i => [(10, .int .i64 (i : Nat))]) (fun i => n - i) 0 (Nat.zero_le _) (.cons (by first | rfl | exact lookI rfl (by omega) | exact lookI rfl (by simp) | exact lookB rfl (by simp)) Front.nil) (by repeat' (first | exact Pick.nil _ | exact Del.here _ | apply Pick.cons | apply Del.there)) rfl (fun i hi m hm => ?_)
  replace hi : i ≤ n := hi
  replace hm : m = n - i := hm
  change Tr _ _ [rowE V 59 encSec (mp (swR a b i) l)] ([(10, .int .i64 (i : Nat))] ++ _) _
  have hml : (mp (swR a b i) l).length = l.length := mp_len _ _
  refine Tr.seq ?_
  refine Tr.seq ?_
  refine Tr.region ?_
  refine Tr.q (QS.move rfl) rfl ?_
  refine Tr.q (QS.move rfl) rfl ?_
  refine Tr.q (QS.lss rfl rfl) rfl ?_
  refine Tr.nil ?_
  refine Tr.thenN ?_
  refine Tr.cond rfl (fun h1 => ?_) (fun h1 => ?_)
  · try simp only [bs] at h1
    refine Tr.skip ?_
    refine Tr.thenN ?_
    refine Tr.seq ?_
    refine Tr.block ?_
    refine Tr.regionT 8 21 HLF.mixed (by kernel_rfl) (panicIn (panicThen (panicThen (panicIn panicBody)))) ?_
    refine TrQ.pureMove rfl rfl ?_
    refine TrQ.pureMove rfl rfl ?_
    refine TrQ.pureMove rfl rfl ?_
    refine TrQ.pureQ (fun _ => QS.addI rfl rfl (by omega)) (by rfl) rfl ?_
    refine TrQ.pureMove rfl rfl ?_
    refine TrQ.pureMove rfl rfl ?_
    refine TrQ.pureMove rfl rfl ?_
    refine TrQ.pureQ (fun _ => QS.addI rfl rfl (by omega)) (by rfl) rfl ?_
    refine TrQ.pureNil ?_
    refine TrQ.q (QS.move rfl) rfl ?_
    refine TrQ.q (QS.move rfl) rfl ?_
    refine TrQ.q (QS.move rfl) rfl ?_
    refine TrQ.q (QS.addI rfl rfl (by omega)) rfl ?_
    refine TrQ.q (QS.idxRowN rfl rfl (by repeat (first | exact List.Mem.head _ | apply List.Mem.tail)) Try.underlying22 Try.sizeOf59 (by rfl) (by omega)) rfl ?_
    refine TrQ.q (QS.elRA rfl (by repeat (first | exact List.Mem.head _ | apply List.Mem.tail)) Try.isAgg59 Try.sizeOf59 (by rfl) (by omega)) rfl ?_
    refine TrQ.q (QS.move rfl) rfl ?_
    refine TrQ.q (QS.move rfl) rfl ?_
    refine TrQ.q (QS.move rfl) rfl ?_
    refine TrQ.q (QS.addI rfl rfl (by omega)) rfl ?_
    refine TrQ.q (QS.idxRowN rfl rfl (by repeat (first | exact List.Mem.head _ | apply List.Mem.tail)) Try.underlying22 Try.sizeOf59 (by rfl) (by omega)) rfl ?_
    refine TrQ.q (QS.elRA rfl (by repeat (first | exact List.Mem.head _ | apply List.Mem.tail)) Try.isAgg59 Try.sizeOf59 (by rfl) (by omega)) rfl ?_
    refine TrQ.q (QS.idxRowN rfl rfl (by repeat (first | exact List.Mem.head _ | apply List.Mem.tail)) Try.underlying22 Try.sizeOf59 (by rfl) (by omega)) rfl ?_
    refine TrQ.nil ?_
    refine Tr.storeEl (l := (mp (swR a b i) l)) (i := a + i) ((mp (swR a b i) l).getD (b + i) default) rfl rfl Try.sizeOf59 (by repeat (first | exact Put.here _ | apply Put.there)) (by (try simp only [List.length_set]); omega) (by rfl) rfl ?_
    have hls2 : (List.set (mp (swR a b i) l) (a + i) ((mp (swR a b i) l).getD (b + i) default)).length = ((mp (swR a b i) l)).length := List.length_set
    refine Tr.q (QS.idxRowN rfl rfl (by repeat (first | exact List.Mem.head _ | apply List.Mem.tail)) Try.underlying22 Try.sizeOf59 (by rfl) (by omega)) rfl ?_
    refine Tr.storeEl (l := ((mp (swR a b i) l).set (a + i) ((mp (swR a b i) l).getD (b + i) default))) (i := b + i) ((mp (swR a b i) l).getD (a + i) default) rfl rfl Try.sizeOf59 (by repeat (first | exact Put.here _ | apply Put.there)) (by (try simp only [List.length_set]); omega) (by rfl) rfl ?_
    have hls3 : (List.set ((mp (swR a b i) l).set (a + i) ((mp (swR a b i) l).getD (b + i) default)) (b + i) ((mp (swR a b i) l).getD (a + i) default)).length = (((mp (swR a b i) l).set (a + i) ((mp (swR a b i) l).getD (b + i) default))).length := List.length_set
    refine Tr.nil ?_
    refine Tr.inN ?_
    refine Tr.thenN ?_
    refine Tr.region ?_
    refine Tr.q (QS.move rfl) rfl ?_
    refine Tr.q (QS.addI rfl rfl (by omega)) rfl ?_
    refine Tr.q (QS.assign rfl) rfl ?_
    refine Tr.nil ?_
    refine Tr.thenN ?_
    have hsw := mp_sw (l := (mp (swR a b i) l)) (p := a + i) (q := b + i) (by omega) (by omega)
    rw [swR_step hab hb (by omega)] at hsw
    rw [hsw]
    apply Tr.again (i + 1)
    · exact rfl
    · exact (.cons (by first | rfl | exact lookI rfl (by omega) | exact lookI rfl (by simp) | exact lookB rfl (by simp)) Front.nil)
    · exact SubX.dropN 29 (by kernel_rfl) rfl
    · exact (by repeat' (first | exact Pick.nil _ | exact Del.here _ | apply Pick.cons | apply Del.there))
    · exact (by show i + 1 ≤ n; omega)
    · exact (by (try dsimp only); omega)
  · try simp only [bs] at h1
    refine Tr.exit ?_
    refine Tr.thenE ?_
    refine Tr.thenE ?_
    refine Tr.inHit ?_
    refine Tr.ret0n Try.results122 (fun w' hw => ?_)
    obtain rfl : i = n := by omega
    exact ⟨rfl, HpOK.mutOwn hw (.head _) rfl⟩
set_option maxRecDepth 100000 in
set_option maxHeartbeats 2000000 in
theorem rotate_sec (l : List SecV) (V : Value) (a : Nat) (md : Nat) (b : Nat) (ai : Int) (mdi : Int) (bi : Int) (ea : ai = ((a : Nat) : Int)) (emd : mdi = ((md : Nat) : Int)) (eb : bi = ((b : Nat) : Int)) (cv : Value) (w : World) (hr : (rowE V 59 encSec l).holds w) (hl : l.length ≤ 1000000) (ham : a < md) (hmb : md < b) (hb : b ≤ l.length) :
    Calls Try.prog 120 #[V, .int .i64 ai, .int .i64 mdi, .int .i64 bi, cv] w (fun e w' => e = .returned (.tuple #[]) ∧ Mut w w' V ∧ (rowE V 59 encSec (mp (rotF a md b) l)).holds w') := by
  subst ea emd eb
  refine enterOwn (l := l) (E := encSec) (T := 59) hr Try.func120 rfl Try.ntmps120 rfl ?_
  refine Tr.seq ?_
  refine Tr.region ?_
  refine Tr.q (QS.move rfl) rfl ?_
  refine Tr.q (QS.move rfl) rfl ?_
  refine Tr.q (QS.subI rfl rfl (by omega)) rfl ?_
  refine Tr.q (QS.assign rfl) rfl ?_
  refine Tr.nil ?_
  refine Tr.thenN ?_
  refine Tr.seq ?_
  refine Tr.region ?_
  refine Tr.q (QS.move rfl) rfl ?_
  refine Tr.q (QS.move rfl) rfl ?_
  refine Tr.q (QS.subI rfl rfl (by omega)) rfl ?_
  refine Tr.q (QS.assign rfl) rfl ?_
  refine Tr.nil ?_
  refine Tr.thenN ?_
  refine Tr.seq ?_
  refine Tr.block ?_
  refine Tr.loop (ι := Nat × Nat × List SecV) (fun ⟨i, j, cur⟩ => 0 < i ∧ 0 < j ∧ i ≤ md ∧ md + j ≤ l.length ∧ cur.length = l.length ∧ mp (rotF (md - i) md (md + j)) cur = mp (rotF a md b) l) (fun _ => _) (fun ⟨i, j, cur⟩ => [rowE V 59 encSec cur]) (fun ⟨i, j, cur⟩ => [(10, .int .i64 (i : Nat)), (11, .int .i64 (j : Nat))]) (fun ⟨i, j, cur⟩ => i + j) (md - a, b - md, l) ⟨by omega, by omega, by omega, by omega, rfl, by rw [show md - (md - a) = a by omega, show md + (b - md) = b by omega]⟩ (.cons (by first | rfl | exact lookI rfl (by omega) | exact lookI rfl (by simp) | exact lookB rfl (by simp)) (.cons (by first | rfl | exact lookI rfl (by omega) | exact lookI rfl (by simp) | exact lookB rfl (by simp)) Front.nil)) (by repeat' (first | exact Pick.nil _ | exact Del.here _ | apply Pick.cons | apply Del.there)) rfl (fun i hi m hm => ?_)
  obtain ⟨i, j, cur⟩ := i
  replace hi : 0 < i ∧ 0 < j ∧ i ≤ md ∧ md + j ≤ l.length ∧ cur.length = l.length ∧ mp (rotF (md - i) md (md + j)) cur = mp (rotF a md b) l := hi
  replace hm : m = i + j := hm
  change Tr _ _ [rowE V 59 encSec cur] ([(10, .int .i64 (i : Nat)), (11, .int .i64 (j : Nat))] ++ _) _
  obtain ⟨hi1, hi2, hi3, hi4, hi5, hi6⟩ := hi
  refine Tr.seq ?_
  refine Tr.seq ?_
  refine Tr.region ?_
  refine Tr.q (QS.move rfl) rfl ?_
  refine Tr.q (QS.move rfl) rfl ?_
  refine Tr.q (QS.neq rfl rfl) rfl ?_
  refine Tr.nil ?_
  refine Tr.thenN ?_
  refine Tr.cond rfl (fun h1 => ?_) (fun h1 => ?_)
  · try simp only [bs] at h1
    refine Tr.skip ?_
    refine Tr.thenN ?_
    refine Tr.block ?_
    refine Tr.seq ?_
    refine Tr.region ?_
    refine Tr.q (QS.move rfl) rfl ?_
    refine Tr.q (QS.move rfl) rfl ?_
    refine Tr.q (QS.gtr rfl rfl) rfl ?_
    refine Tr.nil ?_
    refine Tr.thenN ?_
    refine Tr.cond rfl (fun h2 => ?_) (fun h2 => ?_)
    · try simp only [bs] at h2
      refine Tr.seq ?_
      refine Tr.region ?_
      refine Tr.q (QS.move rfl) rfl ?_
      refine Tr.q (QS.move rfl) rfl ?_
      refine Tr.q (QS.move rfl) rfl ?_
      refine Tr.q (QS.subI rfl rfl (by omega)) rfl ?_
      refine Tr.q (QS.move rfl) rfl ?_
      refine Tr.q (QS.move rfl) rfl ?_
      refine Tr.q (QS.move rfl) rfl ?_
      refine Tr.callMut rfl Try.call122 (by repeat (first | exact Put.here _ | apply Put.there)) (fun w hw => swapRange_sec cur V (md - i) md j _ _ _ (by omega) (by omega) (by omega) cv w (hw.ent _ (.head _)) (by omega) (by omega) (by omega)) rfl ?_
      refine Tr.nil ?_
      refine Tr.thenN ?_
      refine Tr.region ?_
      refine Tr.q (QS.move rfl) rfl ?_
      refine Tr.q (QS.move rfl) rfl ?_
      refine Tr.q (QS.subI rfl rfl (by omega)) rfl ?_
      refine Tr.q (QS.assign rfl) rfl ?_
      refine Tr.nil ?_
      refine Tr.inN ?_
      refine Tr.thenN ?_
      have hn := (rot_gt (l := cur) (m := md) (i := i) (j := j) hi3 (by omega) (by omega)).trans hi6
      apply Tr.again (i - j, j, _)
      · exact rfl
      · exact (.cons (by first | rfl | exact lookI rfl (by omega) | exact lookI rfl (by simp) | exact lookB rfl (by simp)) (.cons (by first | rfl | exact lookI rfl (by omega) | exact lookI rfl (by simp) | exact lookB rfl (by simp)) Front.nil))
      · exact SubX.dropN 20 (by kernel_rfl) rfl
      · exact (by repeat' (first | exact Pick.nil _ | exact Del.here _ | apply Pick.cons | apply Del.there))
      · exact ⟨by omega, hi2, by omega, hi4, by rw [mp_len]; exact hi5, hn⟩
      · exact (by (try dsimp only); omega)
    · try simp only [bs] at h2
      refine Tr.seq ?_
      refine Tr.region ?_
      refine Tr.q (QS.move rfl) rfl ?_
      refine Tr.q (QS.move rfl) rfl ?_
      refine Tr.q (QS.move rfl) rfl ?_
      refine Tr.q (QS.subI rfl rfl (by omega)) rfl ?_
      refine Tr.q (QS.move rfl) rfl ?_
      refine Tr.q (QS.move rfl) rfl ?_
      refine Tr.q (QS.addI rfl rfl (by omega)) rfl ?_
      refine Tr.q (QS.move rfl) rfl ?_
      refine Tr.q (QS.subI rfl rfl (by omega)) rfl ?_
      refine Tr.q (QS.move rfl) rfl ?_
      refine Tr.q (QS.move rfl) rfl ?_
      refine Tr.callMut rfl Try.call122 (by repeat (first | exact Put.here _ | apply Put.there)) (fun w hw => swapRange_sec cur V (md - i) (md + j - i) i _ _ _ (by omega) (by omega) (by omega) cv w (hw.ent _ (.head _)) (by omega) (by omega) (by omega)) rfl ?_
      refine Tr.nil ?_
      refine Tr.thenN ?_
      refine Tr.region ?_
      refine Tr.q (QS.move rfl) rfl ?_
      refine Tr.q (QS.move rfl) rfl ?_
      refine Tr.q (QS.subI rfl rfl (by omega)) rfl ?_
      refine Tr.q (QS.assign rfl) rfl ?_
      refine Tr.nil ?_
      refine Tr.inN ?_
      refine Tr.thenN ?_
      have hn := (rot_lt (l := cur) (m := md) (i := i) (j := j) hi3 (by omega) (by omega)).trans hi6
      apply Tr.again (i, j - i, _)
      · exact rfl
      · exact (.cons (by first | rfl | exact lookI rfl (by omega) | exact lookI rfl (by simp) | exact lookB rfl (by simp)) (.cons (by first | rfl | exact lookI rfl (by omega) | exact lookI rfl (by simp) | exact lookB rfl (by simp)) Front.nil))
      · exact SubX.dropN 24 (by kernel_rfl) rfl
      · exact (by repeat' (first | exact Pick.nil _ | exact Del.here _ | apply Pick.cons | apply Del.there))
      · exact ⟨hi1, by omega, hi3, by omega, by rw [mp_len]; exact hi5, hn⟩
      · exact (by (try dsimp only); omega)
  · try simp only [bs] at h1
    refine Tr.exit ?_
    refine Tr.thenE ?_
    refine Tr.thenE ?_
    refine Tr.inHit ?_
    refine Tr.thenN ?_
    refine Tr.region ?_
    refine Tr.q (QS.move rfl) rfl ?_
    refine Tr.q (QS.move rfl) rfl ?_
    refine Tr.q (QS.move rfl) rfl ?_
    refine Tr.q (QS.subI rfl rfl (by omega)) rfl ?_
    refine Tr.q (QS.move rfl) rfl ?_
    refine Tr.q (QS.move rfl) rfl ?_
    refine Tr.q (QS.move rfl) rfl ?_
    refine Tr.callMut rfl Try.call122 (by repeat (first | exact Put.here _ | apply Put.there)) (fun w hw => swapRange_sec cur V (md - i) md i _ _ _ (by omega) (by omega) (by omega) cv w (hw.ent _ (.head _)) (by omega) (by omega) (by omega)) rfl ?_
    refine Tr.nil ?_
    refine Tr.ret0n Try.results120 (fun w' hw => ?_)
    obtain rfl : j = i := by omega
    rw [rot_eq hi3, hi6] at hw
    exact ⟨rfl, HpOK.mutOwn hw (.head _) rfl⟩
set_option maxRecDepth 100000 in
set_option maxHeartbeats 8000000 in
theorem sym_step (l : List SecV) (V : Value) (a : Nat) (md : Nat) (b : Nat) (ai : Int) (mdi : Int) (bi : Int) (ea : ai = ((a : Nat) : Int)) (emd : mdi = ((md : Nat) : Int)) (eb : bi = ((b : Nat) : Int)) (g : FuncId) (cmp : SecV → SecV → Int) (eg : ∀ args w, (callFunc g args).run Try.prog w = .ok (.enter g args) w) (hc : ∀ x y w', Calls Try.prog g ([Value.agg (encSec.enc x).toArray, Value.agg (encSec.enc y).toArray] ++ []).toArray w' fun e w'' => e = .returned (.int .i64 (cmp x y)) ∧ Ext w' w'') (hO : WO (ltC cmp)) (w : World) (hr : (rowE V 59 encSec l).holds w) (hl : l.length ≤ 1000000) (ih : ∀ n, n < b - a → SymFor g cmp V n) (ham : a < md) (hmb : md < b) (hb : b ≤ l.length) (h1s : Srt (ltC cmp) l a md) (h2s : Srt (ltC cmp) l md b) :
    Calls Try.prog 114 #[V, .int .i64 ai, .int .i64 mdi, .int .i64 bi, .func (.func g) #[] #[]] w (srtP cmp V l a b w) := by
  subst ea emd eb
  refine enterOwn (l := l) (E := encSec) (T := 59) hr Try.func114 rfl Try.ntmps114 rfl ?_
  refine Tr.seq ?_
  refine Tr.seq ?_
  refine Tr.region ?_
  refine Tr.q (QS.move rfl) rfl ?_
  refine Tr.q (QS.move rfl) rfl ?_
  refine Tr.q (QS.subI rfl rfl (by omega)) rfl ?_
  refine Tr.q (QS.eql rfl rfl) rfl ?_
  refine Tr.nil ?_
  refine Tr.thenN ?_
  refine Tr.cond rfl (fun h1 => ?_) (fun h1 => ?_)
  · try simp only [bs] at h1
    refine Tr.seq ?_
    refine Tr.region ?_
    refine Tr.q (QS.move rfl) rfl ?_
    refine Tr.q (QS.assign rfl) rfl ?_
    refine Tr.nil ?_
    refine Tr.thenN ?_
    refine Tr.seq ?_
    refine Tr.region ?_
    refine Tr.q (QS.move rfl) rfl ?_
    refine Tr.q (QS.assign rfl) rfl ?_
    refine Tr.nil ?_
    refine Tr.thenN ?_
    refine Tr.seq ?_
    refine Tr.block ?_
    refine Tr.loop (ι := Nat × Nat) (fun ⟨i, j⟩ => md ≤ i ∧ i ≤ j ∧ j ≤ b ∧ (∀ q, md ≤ q → q < i → ltC cmp (l.getD q default) (l.getD a default) = true) ∧ (∀ q, j ≤ q → q < b → ltC cmp (l.getD q default) (l.getD a default) = false)) (fun _ => _) (fun ⟨i, j⟩ => [rowE V 59 encSec l]) (fun ⟨i, j⟩ => [(10, .int .i64 (i : Nat)), (11, .int .i64 (j : Nat))]) (fun ⟨i, j⟩ => j - i) (md, b) ⟨Nat.le_refl _, by omega, Nat.le_refl _, fun q x y => by omega, fun q x y => by omega⟩ (.cons (by first | rfl | exact lookI rfl (by omega) | exact lookI rfl (by simp) | exact lookB rfl (by simp)) (.cons (by first | rfl | exact lookI rfl (by omega) | exact lookI rfl (by simp) | exact lookB rfl (by simp)) Front.nil)) (by repeat' (first | exact Pick.nil _ | exact Del.here _ | apply Pick.cons | apply Del.there)) rfl (fun i hi m hm => ?_)
    obtain ⟨i, j⟩ := i
    replace hi : md ≤ i ∧ i ≤ j ∧ j ≤ b ∧ (∀ q, md ≤ q → q < i → ltC cmp (l.getD q default) (l.getD a default) = true) ∧ (∀ q, j ≤ q → q < b → ltC cmp (l.getD q default) (l.getD a default) = false) := hi
    replace hm : m = j - i := hm
    change Tr _ _ [rowE V 59 encSec l] ([(10, .int .i64 (i : Nat)), (11, .int .i64 (j : Nat))] ++ _) _
    obtain ⟨hi1, hi2, hi3, hi4, hi5⟩ := hi
    refine Tr.seq ?_
    refine Tr.seq ?_
    refine Tr.region ?_
    refine Tr.q (QS.move rfl) rfl ?_
    refine Tr.q (QS.move rfl) rfl ?_
    refine Tr.q (QS.lss rfl rfl) rfl ?_
    refine Tr.nil ?_
    refine Tr.thenN ?_
    refine Tr.cond rfl (fun h2 => ?_) (fun h2 => ?_)
    · try simp only [bs] at h2
      refine Tr.skip ?_
      refine Tr.thenN ?_
      refine Tr.block ?_
      refine Tr.seq ?_
      refine Tr.region ?_
      refine Tr.q (QS.move rfl) rfl ?_
      refine Tr.q (QS.move rfl) rfl ?_
      refine Tr.q (QS.addI rfl rfl (by omega)) rfl ?_
      refine Tr.q (QS.cvtIn rfl Try.underlying3 Try.underlying92 (IntWalk.u64_in _ (by omega))) rfl ?_
      refine Tr.q (QS.shr1 rfl rfl (by omega)) rfl ?_
      refine Tr.q (QS.cvtIn rfl Try.underlying92 Try.underlying3 (IntWalk.i64_in _ (by omega))) rfl ?_
      refine Tr.q (QS.assign rfl) rfl ?_
      refine Tr.nil ?_
      refine Tr.thenN ?_
      refine Tr.seq ?_
      obtain ⟨h, hhh⟩ : ∃ h, h = (i + j) / 2 := ⟨_, rfl⟩
      rw [show (((i : Nat) : Int) + ((j : Nat) : Int)) / 2 = ((h : Nat) : Int) by omega]
      refine Tr.regionQ HLF.mixed (by kernel_rfl) ?_
      refine TrQ.q (QS.move rfl) rfl ?_
      refine TrQ.q (QS.move rfl) rfl ?_
      refine TrQ.q (QS.move rfl) rfl ?_
      refine TrQ.q (QS.idxRowN rfl rfl (by repeat (first | exact List.Mem.head _ | apply List.Mem.tail)) Try.underlying22 Try.sizeOf59 (by rfl) (by omega)) rfl ?_
      refine TrQ.q (QS.elRA rfl (by repeat (first | exact List.Mem.head _ | apply List.Mem.tail)) Try.isAgg59 Try.sizeOf59 (by rfl) (by omega)) rfl ?_
      refine TrQ.q (QS.move rfl) rfl ?_
      refine TrQ.q (QS.move rfl) rfl ?_
      refine TrQ.q (QS.idxRowN rfl rfl (by repeat (first | exact List.Mem.head _ | apply List.Mem.tail)) Try.underlying22 Try.sizeOf59 (by rfl) (by omega)) rfl ?_
      refine TrQ.q (QS.elRA rfl (by repeat (first | exact List.Mem.head _ | apply List.Mem.tail)) Try.isAgg59 Try.sizeOf59 (by rfl) (by omega)) rfl ?_
      refine TrQ.q (QS.callV rfl rfl eg (fun w hw => hc _ _ w)) rfl ?_
      refine TrQ.q (QS.lss rfl rfl) rfl ?_
      refine TrQ.nil ?_
      refine Tr.thenN ?_
      refine Tr.cond rfl (fun h3 => ?_) (fun h3 => ?_)
      · try simp only [bs] at h3
        refine Tr.region ?_
        refine Tr.q (QS.move rfl) rfl ?_
        refine Tr.q (QS.addI rfl rfl (by omega)) rfl ?_
        refine Tr.q (QS.assign rfl) rfl ?_
        refine Tr.nil ?_
        refine Tr.inN ?_
        refine Tr.thenN ?_
        have hx : ltC cmp (l.getD h default) (l.getD a default) = true := by simp only [ltC, decide_eq_true_eq]; assumption
        have hn : ∀ q, md ≤ q → q < h + 1 → ltC cmp (l.getD q default) (l.getD a default) = true := fun q x y => hO.le_lt (h2s.le hO x (by omega) (by omega)) hx
        apply Tr.again (h + 1, j)
        · exact rfl
        · exact (.cons (by first | rfl | exact lookI rfl (by omega) | exact lookI rfl (by simp) | exact lookB rfl (by simp)) (.cons (by first | rfl | exact lookI rfl (by omega) | exact lookI rfl (by simp) | exact lookB rfl (by simp)) Front.nil))
        · exact SubX.dropN 26 (by kernel_rfl) rfl
        · exact (by repeat' (first | exact Pick.nil _ | exact Del.here _ | apply Pick.cons | apply Del.there))
        · exact ⟨by omega, by omega, hi3, hn, hi5⟩
        · exact (by (try dsimp only); omega)
      · try simp only [bs] at h3
        refine Tr.region ?_
        refine Tr.q (QS.move rfl) rfl ?_
        refine Tr.q (QS.assign rfl) rfl ?_
        refine Tr.nil ?_
        refine Tr.inN ?_
        refine Tr.thenN ?_
        have hx : ltC cmp (l.getD h default) (l.getD a default) = false := by simp only [ltC, decide_eq_false_iff_not]; assumption
        have hn : ∀ q, h ≤ q → q < b → ltC cmp (l.getD q default) (l.getD a default) = false := fun q x y => hO.ntr _ _ _ (h2s.le hO (by omega) x y) hx
        apply Tr.again (i, h)
        · exact rfl
        · exact (.cons (by first | rfl | exact lookI rfl (by omega) | exact lookI rfl (by simp) | exact lookB rfl (by simp)) (.cons (by first | rfl | exact lookI rfl (by omega) | exact lookI rfl (by simp) | exact lookB rfl (by simp)) Front.nil))
        · exact SubX.dropN 25 (by kernel_rfl) rfl
        · exact (by repeat' (first | exact Pick.nil _ | exact Del.here _ | apply Pick.cons | apply Del.there))
        · exact ⟨hi1, by omega, by omega, hi4, hn⟩
        · exact (by (try dsimp only); omega)
    · try simp only [bs] at h2
      refine Tr.exit ?_
      refine Tr.thenE ?_
      refine Tr.thenE ?_
      refine Tr.inHit ?_
      refine Tr.thenN ?_
      refine Tr.seq ?_
      refine Tr.seq ?_
      refine Tr.region ?_
      refine Tr.q (QS.move rfl) rfl ?_
      refine Tr.q (QS.assign rfl) rfl ?_
      refine Tr.nil ?_
      refine Tr.thenN ?_
      refine Tr.block ?_
      have e0 : mp (rotF a (a + 1) (a + 1)) l = l := rot_none (.inr rfl) (by omega) (Nat.le_refl _)
      refine Tr.rowEq e0.symm ?_
      refine Tr.loop (ι := Nat) (fun k => a ≤ k ∧ k + 1 ≤ i) (fun _ => _) (fun k => [rowE V 59 encSec (mp (rotF a (a + 1) (k + 1)) l)]) (fun k => [(13, .int .i64 (k : Nat))]) (fun k => i - k) a ⟨Nat.le_refl _, by omega⟩ (.cons (by first | rfl | exact lookI rfl (by omega) | exact lookI rfl (by simp) | exact lookB rfl (by simp)) Front.nil) (by repeat' (first | exact Pick.nil _ | exact Del.here _ | apply Pick.cons | apply Del.there)) rfl (fun k hi m hm => ?_)
      replace hi : a ≤ k ∧ k + 1 ≤ i := hi
      replace hm : m = i - k := hm
      change Tr _ _ [rowE V 59 encSec (mp (rotF a (a + 1) (k + 1)) l)] ([(13, .int .i64 (k : Nat))] ++ _) _
      obtain ⟨hk1, hk2⟩ := hi
      have hml : (mp (rotF a (a + 1) (k + 1)) l).length = l.length := mp_len _ _
      refine Tr.seq ?_
      refine Tr.seq ?_
      refine Tr.region ?_
      refine Tr.q (QS.move rfl) rfl ?_
      refine Tr.q (QS.move rfl) rfl ?_
      refine Tr.q (QS.subI rfl rfl (by omega)) rfl ?_
      refine Tr.q (QS.lss rfl rfl) rfl ?_
      refine Tr.nil ?_
      refine Tr.thenN ?_
      refine Tr.cond rfl (fun h4 => ?_) (fun h4 => ?_)
      · try simp only [bs] at h4
        refine Tr.skip ?_
        refine Tr.thenN ?_
        refine Tr.seq ?_
        refine Tr.block ?_
        refine Tr.regionT 5 15 HLF.mixed (by kernel_rfl) (panicIn (panicThen (panicThen (panicIn (panicThen (panicThen panicBody)))))) ?_
        refine TrQ.pureMove rfl rfl ?_
        refine TrQ.pureMove rfl rfl ?_
        refine TrQ.pureMove rfl rfl ?_
        refine TrQ.pureMove rfl rfl ?_
        refine TrQ.pureQ (fun _ => QS.addI rfl rfl (by omega)) (by rfl) rfl ?_
        refine TrQ.pureNil ?_
        refine TrQ.q (QS.move rfl) rfl ?_
        refine TrQ.q (QS.move rfl) rfl ?_
        refine TrQ.q (QS.addI rfl rfl (by omega)) rfl ?_
        refine TrQ.q (QS.idxRow rfl rfl (by repeat (first | exact List.Mem.head _ | apply List.Mem.tail)) Try.underlying22 Try.sizeOf59 (by rfl) (by omega)) rfl ?_
        refine TrQ.q (QS.elRA rfl (by repeat (first | exact List.Mem.head _ | apply List.Mem.tail)) Try.isAgg59 Try.sizeOf59 (by rfl) (by omega)) rfl ?_
        refine TrQ.q (QS.move rfl) rfl ?_
        refine TrQ.q (QS.move rfl) rfl ?_
        refine TrQ.q (QS.idxRowN rfl rfl (by repeat (first | exact List.Mem.head _ | apply List.Mem.tail)) Try.underlying22 Try.sizeOf59 (by rfl) (by omega)) rfl ?_
        refine TrQ.q (QS.elRA rfl (by repeat (first | exact List.Mem.head _ | apply List.Mem.tail)) Try.isAgg59 Try.sizeOf59 (by rfl) (by omega)) rfl ?_
        refine TrQ.q (QS.idxRowN rfl rfl (by repeat (first | exact List.Mem.head _ | apply List.Mem.tail)) Try.underlying22 Try.sizeOf59 (by rfl) (by omega)) rfl ?_
        refine TrQ.nil ?_
        refine Tr.storeEl (l := (mp (rotF a (a + 1) (k + 1)) l)) (i := k) ((mp (rotF a (a + 1) (k + 1)) l).getD (k + 1) default) rfl rfl Try.sizeOf59 (by repeat (first | exact Put.here _ | apply Put.there)) (by (try simp only [List.length_set]); omega) (by rfl) rfl ?_
        have hls5 : (List.set (mp (rotF a (a + 1) (k + 1)) l) (k) ((mp (rotF a (a + 1) (k + 1)) l).getD (k + 1) default)).length = ((mp (rotF a (a + 1) (k + 1)) l)).length := List.length_set
        refine Tr.q (QS.idxRow rfl rfl (by repeat (first | exact List.Mem.head _ | apply List.Mem.tail)) Try.underlying22 Try.sizeOf59 (by rfl) (by omega)) rfl ?_
        refine Tr.storeEl (l := ((mp (rotF a (a + 1) (k + 1)) l).set (k) ((mp (rotF a (a + 1) (k + 1)) l).getD (k + 1) default))) (i := k + 1) ((mp (rotF a (a + 1) (k + 1)) l).getD (k) default) rfl rfl Try.sizeOf59 (by repeat (first | exact Put.here _ | apply Put.there)) (by (try simp only [List.length_set]); omega) (by rfl) rfl ?_
        have hls6 : (List.set ((mp (rotF a (a + 1) (k + 1)) l).set (k) ((mp (rotF a (a + 1) (k + 1)) l).getD (k + 1) default)) (k + 1) ((mp (rotF a (a + 1) (k + 1)) l).getD (k) default)).length = (((mp (rotF a (a + 1) (k + 1)) l).set (k) ((mp (rotF a (a + 1) (k + 1)) l).getD (k + 1) default))).length := List.length_set
        refine Tr.nil ?_
        refine Tr.inN ?_
        refine Tr.thenN ?_
        refine Tr.region ?_
        refine Tr.q (QS.move rfl) rfl ?_
        refine Tr.q (QS.addI rfl rfl (by omega)) rfl ?_
        refine Tr.q (QS.assign rfl) rfl ?_
        refine Tr.nil ?_
        refine Tr.thenN ?_
        have hsw := mp_sw (l := (mp (rotF a (a + 1) (k + 1)) l)) (p := k) (q := k + 1) (by omega) (by omega)
        rw [rot_up hk1 (by omega)] at hsw
        rw [hsw]
        apply Tr.again (k + 1)
        · exact rfl
        · exact (.cons (by first | rfl | exact lookI rfl (by omega) | exact lookI rfl (by simp) | exact lookB rfl (by simp)) Front.nil)
        · exact SubX.dropN 24 (by kernel_rfl) rfl
        · exact (by repeat' (first | exact Pick.nil _ | exact Del.here _ | apply Pick.cons | apply Del.there))
        · exact ⟨by omega, by omega⟩
        · exact (by (try dsimp only); omega)
      · try simp only [bs] at h4
        refine Tr.exit ?_
        refine Tr.thenE ?_
        refine Tr.thenE ?_
        refine Tr.inHit ?_
        refine Tr.thenN ?_
        refine Tr.ret ?_
        refine Tr.thenR ?_
        refine Tr.ret0 Try.results114 (fun w' hw => ?_)
        have hin := srt_ins' hO (l := l) (a := a) (i := i) (b := b) (by rw [show a + 1 = md by omega]; exact h2s) hb (by omega) (by omega) (fun q x y => hi4 q (by omega) y) (fun q x y => hi5 q (by omega) y)
        obtain rfl : i = k + 1 := by omega
        exact ⟨rfl, _, ⟨hin.1, Fram.rot (Nat.le_refl _) (by omega) (by omega) (by omega), hin.2⟩, HpOK.mutOwn hw (.head _) rfl⟩
  · try simp only [bs] at h1
    refine Tr.skip ?_
    refine Tr.thenN ?_
    refine Tr.seq ?_
    refine Tr.seq ?_
    refine Tr.region ?_
    refine Tr.q (QS.move rfl) rfl ?_
    refine Tr.q (QS.move rfl) rfl ?_
    refine Tr.q (QS.subI rfl rfl (by omega)) rfl ?_
    refine Tr.q (QS.eql rfl rfl) rfl ?_
    refine Tr.nil ?_
    refine Tr.thenN ?_
    refine Tr.cond rfl (fun h7 => ?_) (fun h7 => ?_)
    · try simp only [bs] at h7
      refine Tr.seq ?_
      refine Tr.region ?_
      refine Tr.q (QS.move rfl) rfl ?_
      refine Tr.q (QS.assign rfl) rfl ?_
      refine Tr.nil ?_
      refine Tr.thenN ?_
      refine Tr.seq ?_
      refine Tr.region ?_
      refine Tr.q (QS.move rfl) rfl ?_
      refine Tr.q (QS.assign rfl) rfl ?_
      refine Tr.nil ?_
      refine Tr.thenN ?_
      refine Tr.seq ?_
      refine Tr.block ?_
      refine Tr.loop (ι := Nat × Nat) (fun ⟨i, j⟩ => a ≤ i ∧ i ≤ j ∧ j ≤ md ∧ (∀ q, a ≤ q → q < i → ltC cmp (l.getD md default) (l.getD q default) = false) ∧ (∀ q, j ≤ q → q < md → ltC cmp (l.getD md default) (l.getD q default) = true)) (fun _ => _) (fun ⟨i, j⟩ => [rowE V 59 encSec l]) (fun ⟨i, j⟩ => [(14, .int .i64 (i : Nat)), (15, .int .i64 (j : Nat))]) (fun ⟨i, j⟩ => j - i) (a, md) ⟨Nat.le_refl _, by omega, Nat.le_refl _, fun q x y => by omega, fun q x y => by omega⟩ (.cons (by first | rfl | exact lookI rfl (by omega) | exact lookI rfl (by simp) | exact lookB rfl (by simp)) (.cons (by first | rfl | exact lookI rfl (by omega) | exact lookI rfl (by simp) | exact lookB rfl (by simp)) Front.nil)) (by repeat' (first | exact Pick.nil _ | exact Del.here _ | apply Pick.cons | apply Del.there)) rfl (fun i hi m hm => ?_)
      obtain ⟨i, j⟩ := i
      replace hi : a ≤ i ∧ i ≤ j ∧ j ≤ md ∧ (∀ q, a ≤ q → q < i → ltC cmp (l.getD md default) (l.getD q default) = false) ∧ (∀ q, j ≤ q → q < md → ltC cmp (l.getD md default) (l.getD q default) = true) := hi
      replace hm : m = j - i := hm
      change Tr _ _ [rowE V 59 encSec l] ([(14, .int .i64 (i : Nat)), (15, .int .i64 (j : Nat))] ++ _) _
      obtain ⟨hi1, hi2, hi3, hi4, hi5⟩ := hi
      refine Tr.seq ?_
      refine Tr.seq ?_
      refine Tr.region ?_
      refine Tr.q (QS.move rfl) rfl ?_
      refine Tr.q (QS.move rfl) rfl ?_
      refine Tr.q (QS.lss rfl rfl) rfl ?_
      refine Tr.nil ?_
      refine Tr.thenN ?_
      refine Tr.cond rfl (fun h8 => ?_) (fun h8 => ?_)
      · try simp only [bs] at h8
        refine Tr.skip ?_
        refine Tr.thenN ?_
        refine Tr.block ?_
        refine Tr.seq ?_
        refine Tr.region ?_
        refine Tr.q (QS.move rfl) rfl ?_
        refine Tr.q (QS.move rfl) rfl ?_
        refine Tr.q (QS.addI rfl rfl (by omega)) rfl ?_
        refine Tr.q (QS.cvtIn rfl Try.underlying3 Try.underlying92 (IntWalk.u64_in _ (by omega))) rfl ?_
        refine Tr.q (QS.shr1 rfl rfl (by omega)) rfl ?_
        refine Tr.q (QS.cvtIn rfl Try.underlying92 Try.underlying3 (IntWalk.i64_in _ (by omega))) rfl ?_
        refine Tr.q (QS.assign rfl) rfl ?_
        refine Tr.nil ?_
        refine Tr.thenN ?_
        refine Tr.seq ?_
        obtain ⟨h, hhh⟩ : ∃ h, h = (i + j) / 2 := ⟨_, rfl⟩
        rw [show (((i : Nat) : Int) + ((j : Nat) : Int)) / 2 = ((h : Nat) : Int) by omega]
        refine Tr.regionQ HLF.mixed (by kernel_rfl) ?_
        refine TrQ.q (QS.move rfl) rfl ?_
        refine TrQ.q (QS.move rfl) rfl ?_
        refine TrQ.q (QS.move rfl) rfl ?_
        refine TrQ.q (QS.idxRowN rfl rfl (by repeat (first | exact List.Mem.head _ | apply List.Mem.tail)) Try.underlying22 Try.sizeOf59 (by rfl) (by omega)) rfl ?_
        refine TrQ.q (QS.elRA rfl (by repeat (first | exact List.Mem.head _ | apply List.Mem.tail)) Try.isAgg59 Try.sizeOf59 (by rfl) (by omega)) rfl ?_
        refine TrQ.q (QS.move rfl) rfl ?_
        refine TrQ.q (QS.move rfl) rfl ?_
        refine TrQ.q (QS.idxRowN rfl rfl (by repeat (first | exact List.Mem.head _ | apply List.Mem.tail)) Try.underlying22 Try.sizeOf59 (by rfl) (by omega)) rfl ?_
        refine TrQ.q (QS.elRA rfl (by repeat (first | exact List.Mem.head _ | apply List.Mem.tail)) Try.isAgg59 Try.sizeOf59 (by rfl) (by omega)) rfl ?_
        refine TrQ.q (QS.callV rfl rfl eg (fun w hw => hc _ _ w)) rfl ?_
        refine TrQ.q (QS.lss rfl rfl) rfl ?_
        refine TrQ.q (QS.not rfl) rfl ?_
        refine TrQ.nil ?_
        refine Tr.thenN ?_
        refine Tr.cond rfl (fun h9 => ?_) (fun h9 => ?_)
        · try simp only [bs] at h9
          refine Tr.region ?_
          refine Tr.q (QS.move rfl) rfl ?_
          refine Tr.q (QS.addI rfl rfl (by omega)) rfl ?_
          refine Tr.q (QS.assign rfl) rfl ?_
          refine Tr.nil ?_
          refine Tr.inN ?_
          refine Tr.thenN ?_
          have hx : ltC cmp (l.getD md default) (l.getD h default) = false := by simp only [ltC, decide_eq_false_iff_not]; assumption
          have hn : ∀ q, a ≤ q → q < h + 1 → ltC cmp (l.getD md default) (l.getD q default) = false := fun q x y => hO.ntr _ _ _ hx (h1s.le hO x (by omega) (by omega))
          apply Tr.again (h + 1, j)
          · exact rfl
          · exact (.cons (by first | rfl | exact lookI rfl (by omega) | exact lookI rfl (by simp) | exact lookB rfl (by simp)) (.cons (by first | rfl | exact lookI rfl (by omega) | exact lookI rfl (by simp) | exact lookB rfl (by simp)) Front.nil))
          · exact SubX.dropN 27 (by kernel_rfl) rfl
          · exact (by repeat' (first | exact Pick.nil _ | exact Del.here _ | apply Pick.cons | apply Del.there))
          · exact ⟨by omega, by omega, hi3, hn, hi5⟩
          · exact (by (try dsimp only); omega)
        · try simp only [bs] at h9
          refine Tr.region ?_
          refine Tr.q (QS.move rfl) rfl ?_
          refine Tr.q (QS.assign rfl) rfl ?_
          refine Tr.nil ?_
          refine Tr.inN ?_
          refine Tr.thenN ?_
          have hx : ltC cmp (l.getD md default) (l.getD h default) = true := by simp only [ltC, decide_eq_true_eq]; assumption
          have hn : ∀ q, h ≤ q → q < md → ltC cmp (l.getD md default) (l.getD q default) = true := fun q x y => hO.lt_le hx (h1s.le hO (by omega) x y)
          apply Tr.again (i, h)
          · exact rfl
          · exact (.cons (by first | rfl | exact lookI rfl (by omega) | exact lookI rfl (by simp) | exact lookB rfl (by simp)) (.cons (by first | rfl | exact lookI rfl (by omega) | exact lookI rfl (by simp) | exact lookB rfl (by simp)) Front.nil))
          · exact SubX.dropN 26 (by kernel_rfl) rfl
          · exact (by repeat' (first | exact Pick.nil _ | exact Del.here _ | apply Pick.cons | apply Del.there))
          · exact ⟨hi1, by omega, by omega, hi4, hn⟩
          · exact (by (try dsimp only); omega)
      · try simp only [bs] at h8
        refine Tr.exit ?_
        refine Tr.thenE ?_
        refine Tr.thenE ?_
        refine Tr.inHit ?_
        refine Tr.thenN ?_
        refine Tr.seq ?_
        refine Tr.seq ?_
        refine Tr.region ?_
        refine Tr.q (QS.move rfl) rfl ?_
        refine Tr.q (QS.assign rfl) rfl ?_
        refine Tr.nil ?_
        refine Tr.thenN ?_
        refine Tr.block ?_
        have e0 : mp (rotF md md (md + 1)) l = l := rot_none (.inl rfl) (Nat.le_refl _) (by omega)
        refine Tr.rowEq e0.symm ?_
        refine Tr.loop (ι := Nat) (fun k => i ≤ k ∧ k ≤ md) (fun _ => _) (fun k => [rowE V 59 encSec (mp (rotF k md (md + 1)) l)]) (fun k => [(17, .int .i64 (k : Nat))]) (fun k => k) md ⟨by omega, Nat.le_refl _⟩ (.cons (by first | rfl | exact lookI rfl (by omega) | exact lookI rfl (by simp) | exact lookB rfl (by simp)) Front.nil) (by repeat' (first | exact Pick.nil _ | exact Del.here _ | apply Pick.cons | apply Del.there)) rfl (fun k hi m hm => ?_)
        replace hi : i ≤ k ∧ k ≤ md := hi
        replace hm : m = k := hm
        change Tr _ _ [rowE V 59 encSec (mp (rotF k md (md + 1)) l)] ([(17, .int .i64 (k : Nat))] ++ _) _
        obtain ⟨hk1, hk2⟩ := hi
        have hml : (mp (rotF k md (md + 1)) l).length = l.length := mp_len _ _
        have ej : ((k : Int) - 1).toNat = k - 1 := by omega
        refine Tr.seq ?_
        refine Tr.seq ?_
        refine Tr.region ?_
        refine Tr.q (QS.move rfl) rfl ?_
        refine Tr.q (QS.move rfl) rfl ?_
        refine Tr.q (QS.gtr rfl rfl) rfl ?_
        refine Tr.nil ?_
        refine Tr.thenN ?_
        refine Tr.cond rfl (fun h10 => ?_) (fun h10 => ?_)
        · try simp only [bs] at h10
          refine Tr.skip ?_
          refine Tr.thenN ?_
          refine Tr.seq ?_
          refine Tr.block ?_
          refine Tr.regionT 5 15 HLF.mixed (by kernel_rfl) (panicIn (panicThen (panicThen (panicIn (panicThen (panicThen panicBody)))))) ?_
          refine TrQ.pureMove rfl rfl ?_
          refine TrQ.pureMove rfl rfl ?_
          refine TrQ.pureMove rfl rfl ?_
          refine TrQ.pureMove rfl rfl ?_
          refine TrQ.pureQ (fun _ => QS.subI rfl rfl (by omega)) (by rfl) rfl ?_
          refine TrQ.pureNil ?_
          refine TrQ.q (QS.move rfl) rfl ?_
          refine TrQ.q (QS.move rfl) rfl ?_
          refine TrQ.q (QS.subI rfl rfl (by omega)) rfl ?_
          refine TrQ.q (QS.idxRow rfl rfl (by repeat (first | exact List.Mem.head _ | apply List.Mem.tail)) Try.underlying22 Try.sizeOf59 (by rfl) (by omega)) rfl ?_
          refine TrQ.q (QS.elRA rfl (by repeat (first | exact List.Mem.head _ | apply List.Mem.tail)) Try.isAgg59 Try.sizeOf59 (by rfl) (by omega)) rfl ?_
          refine TrQ.q (QS.move rfl) rfl ?_
          refine TrQ.q (QS.move rfl) rfl ?_
          refine TrQ.q (QS.idxRowN rfl rfl (by repeat (first | exact List.Mem.head _ | apply List.Mem.tail)) Try.underlying22 Try.sizeOf59 (by rfl) (by omega)) rfl ?_
          refine TrQ.q (QS.elRA rfl (by repeat (first | exact List.Mem.head _ | apply List.Mem.tail)) Try.isAgg59 Try.sizeOf59 (by rfl) (by omega)) rfl ?_
          refine TrQ.q (QS.idxRowN rfl rfl (by repeat (first | exact List.Mem.head _ | apply List.Mem.tail)) Try.underlying22 Try.sizeOf59 (by rfl) (by omega)) rfl ?_
          refine TrQ.nil ?_
          refine Tr.storeEl (l := (mp (rotF k md (md + 1)) l)) (i := k) ((mp (rotF k md (md + 1)) l).getD (((k : Int) - 1).toNat) default) rfl rfl Try.sizeOf59 (by repeat (first | exact Put.here _ | apply Put.there)) (by (try simp only [List.length_set]); omega) (by rfl) rfl ?_
          have hls11 : (List.set (mp (rotF k md (md + 1)) l) (k) ((mp (rotF k md (md + 1)) l).getD (((k : Int) - 1).toNat) default)).length = ((mp (rotF k md (md + 1)) l)).length := List.length_set
          refine Tr.q (QS.idxRow rfl rfl (by repeat (first | exact List.Mem.head _ | apply List.Mem.tail)) Try.underlying22 Try.sizeOf59 (by rfl) (by omega)) rfl ?_
          refine Tr.storeEl (l := ((mp (rotF k md (md + 1)) l).set (k) ((mp (rotF k md (md + 1)) l).getD (((k : Int) - 1).toNat) default))) (i := ((k : Int) - 1).toNat) ((mp (rotF k md (md + 1)) l).getD (k) default) rfl rfl Try.sizeOf59 (by repeat (first | exact Put.here _ | apply Put.there)) (by (try simp only [List.length_set]); omega) (by rfl) rfl ?_
          have hls12 : (List.set ((mp (rotF k md (md + 1)) l).set (k) ((mp (rotF k md (md + 1)) l).getD (((k : Int) - 1).toNat) default)) (((k : Int) - 1).toNat) ((mp (rotF k md (md + 1)) l).getD (k) default)).length = (((mp (rotF k md (md + 1)) l).set (k) ((mp (rotF k md (md + 1)) l).getD (((k : Int) - 1).toNat) default))).length := List.length_set
          refine Tr.nil ?_
          refine Tr.inN ?_
          refine Tr.thenN ?_
          refine Tr.region ?_
          refine Tr.q (QS.move rfl) rfl ?_
          refine Tr.q (QS.subI rfl rfl (by omega)) rfl ?_
          refine Tr.q (QS.assign rfl) rfl ?_
          refine Tr.nil ?_
          refine Tr.thenN ?_
          have hsw := mp_sw (l := (mp (rotF k md (md + 1)) l)) (p := k) (q := k - 1) (by omega) (by omega)
          rw [rot_down (by omega) hk2 (by omega)] at hsw
          rw [ej, hsw]
          apply Tr.again (k - 1)
          · exact rfl
          · exact (.cons (by first | rfl | exact lookI rfl (by omega) | exact lookI rfl (by simp) | exact lookB rfl (by simp)) Front.nil)
          · exact SubX.dropN 23 (by kernel_rfl) rfl
          · exact (by repeat' (first | exact Pick.nil _ | exact Del.here _ | apply Pick.cons | apply Del.there))
          · exact ⟨by omega, by omega⟩
          · exact (by (try dsimp only); omega)
        · try simp only [bs] at h10
          refine Tr.exit ?_
          refine Tr.thenE ?_
          refine Tr.thenE ?_
          refine Tr.inHit ?_
          refine Tr.thenN ?_
          refine Tr.ret ?_
          refine Tr.thenR ?_
          refine Tr.ret0 Try.results114 (fun w' hw => ?_)
          obtain rfl : i = k := by omega
          have hin := srt_ins hO (l := l) (a := a) (i := md) (j := i) h1s (by omega) (by omega) (by omega) (fun q x y => hi5 q (by omega) y) (if q : i = a then .inl q else .inr (hi4 _ (by omega) (by omega)))
          obtain rfl : b = md + 1 := by omega
          exact ⟨rfl, _, ⟨hin.1, Fram.rot (by omega) (Nat.le_refl _) (by omega) (by omega), hin.2⟩, HpOK.mutOwn hw (.head _) rfl⟩
    · try simp only [bs] at h7
      refine Tr.skip ?_
      refine Tr.thenN ?_
      refine Tr.seq ?_
      refine Tr.region ?_
      refine Tr.q (QS.move rfl) rfl ?_
      refine Tr.q (QS.move rfl) rfl ?_
      refine Tr.q (QS.addI rfl rfl (by omega)) rfl ?_
      refine Tr.q (QS.cvtIn rfl Try.underlying3 Try.underlying92 (IntWalk.u64_in _ (by omega))) rfl ?_
      refine Tr.q (QS.shr1 rfl rfl (by omega)) rfl ?_
      refine Tr.q (QS.cvtIn rfl Try.underlying92 Try.underlying3 (IntWalk.i64_in _ (by omega))) rfl ?_
      refine Tr.q (QS.assign rfl) rfl ?_
      refine Tr.nil ?_
      refine Tr.thenN ?_
      refine Tr.seq ?_
      obtain ⟨mid, hhmid⟩ : ∃ mid, mid = (a + b) / 2 := ⟨_, rfl⟩
      rw [show (((a : Nat) : Int) + ((b : Nat) : Int)) / 2 = ((mid : Nat) : Int) by omega]
      refine Tr.region ?_
      refine Tr.q (QS.move rfl) rfl ?_
      refine Tr.q (QS.move rfl) rfl ?_
      refine Tr.q (QS.addI rfl rfl (by omega)) rfl ?_
      refine Tr.q (QS.assign rfl) rfl ?_
      refine Tr.nil ?_
      refine Tr.thenN ?_
      refine Tr.seq ?_
      refine Tr.region ?_
      refine Tr.q (QS.assign rfl) rfl ?_
      refine Tr.q (QS.assign rfl) rfl ?_
      refine Tr.nil ?_
      refine Tr.thenN ?_
      refine Tr.seqJ (ι := Nat × Nat) (fun ⟨s0, r0⟩ => (mid < md ∧ s0 + b = mid + md ∧ r0 = mid) ∨ (md ≤ mid ∧ s0 = a ∧ r0 = md)) (fun _ => Bg.less w V) (fun ⟨s0, r0⟩ => [rowE V 59 encSec l]) (fun ⟨s0, r0⟩ => [(20, .int .i64 (s0 : Nat)), (21, .int .i64 (r0 : Nat))]) ?_ (fun i hi => ?_)
      · skip
        refine Tr.seq ?_
        refine Tr.region ?_
        refine Tr.q (QS.move rfl) rfl ?_
        refine Tr.q (QS.move rfl) rfl ?_
        refine Tr.q (QS.gtr rfl rfl) rfl ?_
        refine Tr.nil ?_
        refine Tr.thenN ?_
        refine Tr.cond rfl (fun h13 => ?_) (fun h13 => ?_)
        · try simp only [bs] at h13
          refine Tr.seq ?_
          refine Tr.region ?_
          refine Tr.q (QS.move rfl) rfl ?_
          refine Tr.q (QS.move rfl) rfl ?_
          refine Tr.q (QS.subI rfl rfl (by omega)) rfl ?_
          refine Tr.q (QS.assign rfl) rfl ?_
          refine Tr.nil ?_
          refine Tr.thenN ?_
          refine Tr.region ?_
          refine Tr.q (QS.move rfl) rfl ?_
          refine Tr.q (QS.assign rfl) rfl ?_
          refine Tr.nil ?_
          refine Tr.thenN ?_
          apply Tr.joined (mid + md - b, mid)
          · exact rfl
          · exact (.cons (by first | rfl | exact lookI rfl (by omega) | exact lookI rfl (by simp) | exact lookB rfl (by simp)) (.cons (by first | rfl | exact lookI rfl (by omega) | exact lookI rfl (by simp) | exact lookB rfl (by simp)) Front.nil))
          · exact SubX.dropN 9 (by kernel_rfl) rfl
          · exact (by repeat' (first | exact Pick.nil _ | exact Del.here _ | apply Pick.cons | apply Del.there))
          · exact .inl ⟨by omega, by omega, rfl⟩
        · try simp only [bs] at h13
          refine Tr.seq ?_
          refine Tr.region ?_
          refine Tr.q (QS.move rfl) rfl ?_
          refine Tr.q (QS.assign rfl) rfl ?_
          refine Tr.nil ?_
          refine Tr.thenN ?_
          refine Tr.region ?_
          refine Tr.q (QS.move rfl) rfl ?_
          refine Tr.q (QS.assign rfl) rfl ?_
          refine Tr.nil ?_
          refine Tr.thenN ?_
          apply Tr.joined (a, md)
          · exact rfl
          · exact (.cons (by first | rfl | exact lookI rfl (by omega) | exact lookI rfl (by simp) | exact lookB rfl (by simp)) (.cons (by first | rfl | exact lookI rfl (by omega) | exact lookI rfl (by simp) | exact lookB rfl (by simp)) Front.nil))
          · exact SubX.dropN 7 (by kernel_rfl) rfl
          · exact (by repeat' (first | exact Pick.nil _ | exact Del.here _ | apply Pick.cons | apply Del.there))
          · exact .inr ⟨by omega, rfl, rfl⟩
      · obtain ⟨s0, r0⟩ := i
        replace hi : (mid < md ∧ s0 + b = mid + md ∧ r0 = mid) ∨ (md ≤ mid ∧ s0 = a ∧ r0 = md) := hi
        change Tr _ _ [rowE V 59 encSec l] ([(20, .int .i64 (s0 : Nat)), (21, .int .i64 (r0 : Nat))] ++ _) _
        have hs0 : a ≤ s0 ∧ s0 ≤ r0 ∧ r0 ≤ md := by omega
        refine Tr.seq ?_
        refine Tr.region ?_
        refine Tr.q (QS.move rfl) rfl ?_
        refine Tr.q (QS.subI rfl rfl (by omega)) rfl ?_
        refine Tr.q (QS.assign rfl) rfl ?_
        refine Tr.nil ?_
        refine Tr.thenN ?_
        refine Tr.seq ?_
        refine Tr.block ?_
        refine Tr.loop (ι := Nat × Nat) (fun ⟨st, r⟩ => s0 ≤ st ∧ st ≤ r ∧ r ≤ r0 ∧ (st = s0 ∨ ltC cmp (l.getD (mid + md - st) default) (l.getD (st - 1) default) = false) ∧ (r = r0 ∨ ltC cmp (l.getD (mid + md - 1 - r) default) (l.getD r default) = true)) (fun _ => _) (fun ⟨st, r⟩ => [rowE V 59 encSec l]) (fun ⟨st, r⟩ => [(20, .int .i64 (st : Nat)), (21, .int .i64 (r : Nat))]) (fun ⟨st, r⟩ => r - st) (s0, r0) ⟨Nat.le_refl _, by omega, Nat.le_refl _, .inl rfl, .inl rfl⟩ (.cons (by first | rfl | exact lookI rfl (by omega) | exact lookI rfl (by simp) | exact lookB rfl (by simp)) (.cons (by first | rfl | exact lookI rfl (by omega) | exact lookI rfl (by simp) | exact lookB rfl (by simp)) Front.nil)) (by repeat' (first | exact Pick.nil _ | exact Del.here _ | apply Pick.cons | apply Del.there)) rfl (fun i hi m hm => ?_)
        obtain ⟨st, r⟩ := i
        replace hi : s0 ≤ st ∧ st ≤ r ∧ r ≤ r0 ∧ (st = s0 ∨ ltC cmp (l.getD (mid + md - st) default) (l.getD (st - 1) default) = false) ∧ (r = r0 ∨ ltC cmp (l.getD (mid + md - 1 - r) default) (l.getD r default) = true) := hi
        replace hm : m = r - st := hm
        change Tr _ _ [rowE V 59 encSec l] ([(20, .int .i64 (st : Nat)), (21, .int .i64 (r : Nat))] ++ _) _
        obtain ⟨hi1, hi2, hi3, hi4, hi5⟩ := hi
        refine Tr.seq ?_
        refine Tr.seq ?_
        refine Tr.region ?_
        refine Tr.q (QS.move rfl) rfl ?_
        refine Tr.q (QS.move rfl) rfl ?_
        refine Tr.q (QS.lss rfl rfl) rfl ?_
        refine Tr.nil ?_
        refine Tr.thenN ?_
        refine Tr.cond rfl (fun h14 => ?_) (fun h14 => ?_)
        · try simp only [bs] at h14
          refine Tr.skip ?_
          refine Tr.thenN ?_
          refine Tr.block ?_
          refine Tr.seq ?_
          refine Tr.region ?_
          refine Tr.q (QS.move rfl) rfl ?_
          refine Tr.q (QS.move rfl) rfl ?_
          refine Tr.q (QS.addI rfl rfl (by omega)) rfl ?_
          refine Tr.q (QS.cvtIn rfl Try.underlying3 Try.underlying92 (IntWalk.u64_in _ (by omega))) rfl ?_
          refine Tr.q (QS.shr1 rfl rfl (by omega)) rfl ?_
          refine Tr.q (QS.cvtIn rfl Try.underlying92 Try.underlying3 (IntWalk.i64_in _ (by omega))) rfl ?_
          refine Tr.q (QS.assign rfl) rfl ?_
          refine Tr.nil ?_
          refine Tr.thenN ?_
          refine Tr.seq ?_
          obtain ⟨c, hhc⟩ : ∃ c, c = (st + r) / 2 := ⟨_, rfl⟩
          rw [show (((st : Nat) : Int) + ((r : Nat) : Int)) / 2 = ((c : Nat) : Int) by omega]
          refine Tr.regionQ HLF.mixed (by kernel_rfl) ?_
          refine TrQ.q (QS.move rfl) rfl ?_
          refine TrQ.q (QS.move rfl) rfl ?_
          refine TrQ.q (QS.move rfl) rfl ?_
          refine TrQ.q (QS.move rfl) rfl ?_
          refine TrQ.q (QS.subI rfl rfl (by omega)) rfl ?_
          refine TrQ.q (QS.idxRow rfl rfl (by repeat (first | exact List.Mem.head _ | apply List.Mem.tail)) Try.underlying22 Try.sizeOf59 (by rfl) (by omega)) rfl ?_
          refine TrQ.q (QS.elRA rfl (by repeat (first | exact List.Mem.head _ | apply List.Mem.tail)) Try.isAgg59 Try.sizeOf59 (by rfl) (by omega)) rfl ?_
          refine TrQ.q (QS.move rfl) rfl ?_
          refine TrQ.q (QS.move rfl) rfl ?_
          refine TrQ.q (QS.idxRowN rfl rfl (by repeat (first | exact List.Mem.head _ | apply List.Mem.tail)) Try.underlying22 Try.sizeOf59 (by rfl) (by omega)) rfl ?_
          refine TrQ.q (QS.elRA rfl (by repeat (first | exact List.Mem.head _ | apply List.Mem.tail)) Try.isAgg59 Try.sizeOf59 (by rfl) (by omega)) rfl ?_
          refine TrQ.q (QS.callV rfl rfl eg (fun w hw => hc _ _ w)) rfl ?_
          refine TrQ.q (QS.lss rfl rfl) rfl ?_
          refine TrQ.q (QS.not rfl) rfl ?_
          refine TrQ.nil ?_
          refine Tr.thenN ?_
          refine Tr.cond rfl (fun h15 => ?_) (fun h15 => ?_)
          · try simp only [bs] at h15
            refine Tr.region ?_
            refine Tr.q (QS.move rfl) rfl ?_
            refine Tr.q (QS.addI rfl rfl (by omega)) rfl ?_
            refine Tr.q (QS.assign rfl) rfl ?_
            refine Tr.nil ?_
            refine Tr.inN ?_
            refine Tr.thenN ?_
            have ec : ((((mid : Nat) : Int) + ((md : Nat) : Int)) - 1 - ((c : Nat) : Int)).toNat = mid + md - 1 - c := by omega
            have hx : ltC cmp (l.getD (mid + md - 1 - c) default) (l.getD c default) = false := by rw [← ec]; simp only [ltC, decide_eq_false_iff_not]; assumption
            apply Tr.again (c + 1, r)
            · exact rfl
            · exact (.cons (by first | rfl | exact lookI rfl (by omega) | exact lookI rfl (by simp) | exact lookB rfl (by simp)) (.cons (by first | rfl | exact lookI rfl (by omega) | exact lookI rfl (by simp) | exact lookB rfl (by simp)) Front.nil))
            · exact SubX.dropN 29 (by kernel_rfl) rfl
            · exact (by repeat' (first | exact Pick.nil _ | exact Del.here _ | apply Pick.cons | apply Del.there))
            · exact ⟨by omega, by omega, hi3, .inr (by rw [show mid + md - (c + 1) = mid + md - 1 - c by omega]; exact hx), hi5⟩
            · exact (by (try dsimp only); omega)
          · try simp only [bs] at h15
            refine Tr.region ?_
            refine Tr.q (QS.move rfl) rfl ?_
            refine Tr.q (QS.assign rfl) rfl ?_
            refine Tr.nil ?_
            refine Tr.inN ?_
            refine Tr.thenN ?_
            have ec : ((((mid : Nat) : Int) + ((md : Nat) : Int)) - 1 - ((c : Nat) : Int)).toNat = mid + md - 1 - c := by omega
            have hx : ltC cmp (l.getD (mid + md - 1 - c) default) (l.getD c default) = true := by rw [← ec]; simp only [ltC, decide_eq_true_eq]; assumption
            apply Tr.again (st, c)
            · exact rfl
            · exact (.cons (by first | rfl | exact lookI rfl (by omega) | exact lookI rfl (by simp) | exact lookB rfl (by simp)) (.cons (by first | rfl | exact lookI rfl (by omega) | exact lookI rfl (by simp) | exact lookB rfl (by simp)) Front.nil))
            · exact SubX.dropN 28 (by kernel_rfl) rfl
            · exact (by repeat' (first | exact Pick.nil _ | exact Del.here _ | apply Pick.cons | apply Del.there))
            · exact ⟨hi1, by omega, by omega, hi4, .inr hx⟩
            · exact (by (try dsimp only); omega)
        · try simp only [bs] at h14
          refine Tr.exit ?_
          refine Tr.thenE ?_
          refine Tr.thenE ?_
          refine Tr.inHit ?_
          refine Tr.thenN ?_
          refine Tr.seq ?_
          refine Tr.region ?_
          refine Tr.q (QS.move rfl) rfl ?_
          refine Tr.q (QS.move rfl) rfl ?_
          refine Tr.q (QS.subI rfl rfl (by omega)) rfl ?_
          refine Tr.q (QS.assign rfl) rfl ?_
          refine Tr.nil ?_
          refine Tr.thenN ?_
          obtain rfl : r = st := by omega
          obtain ⟨e, he⟩ : ∃ e, e = mid + md - r := ⟨_, rfl⟩
          rw [show (((mid : Nat) : Int) + ((md : Nat) : Int)) - ((r : Nat) : Int) = ((e : Nat) : Int) by omega]
          have hme : md ≤ e := by omega
          have heb : e ≤ b := by omega
          have hmm : mid = r + (e - md) := by omega
          have hd : r = md ∨ md = e ∨ ltC cmp (l.getD (e - 1) default) (l.getD r default) = true := by
            rcases hi5 with q | q
            · omega
            · exact .inr (.inr (by rw [show e - 1 = mid + md - 1 - r by omega]; exact q))
          have hg : r = a ∨ e = b ∨ ltC cmp (l.getD e default) (l.getD (r - 1) default) = false := by
            rcases hi4 with q | q
            · omega
            · exact .inr (.inr (by rw [he]; exact q))
          have hf := half_rot hO h1s h2s hb (by omega) (by omega) hme heb hmm hd hg
          have hml : (mp (rotF r md e) l).length = l.length := mp_len _ _
          refine Tr.seqJ (ι := Unit) (fun _u => True) (fun _ => Bg.less w V) (fun _u => [rowE V 59 encSec (mp (rotF r md e) l)]) (fun _u => []) ?_ (fun _u hi => ?_)
          · skip
            refine Tr.seq ?_
            refine Tr.region ?_
            refine Tr.q (QS.move rfl) rfl ?_
            refine Tr.q (QS.move rfl) rfl ?_
            refine Tr.q (QS.lss rfl rfl) rfl ?_
            refine Tr.q (QS.move rfl) rfl ?_
            apply Tr.andP
            · exact (rfl : _ = (4, 181, 185))
            · exact rfl
            · intro hT16; have hT16' := hT16
              try simp only [bs] at hT16'
              refine Tr.gq rfl rfl hT16 (QS.move rfl) rfl ?_
              refine Tr.gq rfl rfl hT16 (QS.move rfl) rfl ?_
              refine Tr.gq rfl rfl hT16 (QS.lss rfl rfl) rfl ?_
              refine Tr.q (QS.pickT rfl hT16 rfl) rfl ?_
              refine Tr.nil (Tr.thenN ?_)
              exact Tr.endX (Sub.cons rfl (Sub.dropN 4 (by kernel_rfl) rfl))
            · intro hF16
              refine Tr.gskip rfl rfl hF16 rfl ?_
              refine Tr.gskip rfl rfl hF16 rfl ?_
              refine Tr.gskip rfl rfl hF16 rfl ?_
              refine Tr.q (QS.pickF rfl hF16 rfl) rfl ?_
              refine Tr.nil (Tr.thenN ?_)
              exact Tr.endX (Sub.cons rfl (Sub.dropN 4 (by kernel_rfl) rfl))
            refine Tr.nil ?_
            refine Tr.thenN ?_
            refine Tr.cond rfl (fun h17 => ?_) (fun h17 => ?_)
            · try simp only [bs] at h17
              refine Tr.region ?_
              refine Tr.q (QS.move rfl) rfl ?_
              refine Tr.q (QS.move rfl) rfl ?_
              refine Tr.q (QS.move rfl) rfl ?_
              refine Tr.q (QS.move rfl) rfl ?_
              refine Tr.q (QS.move rfl) rfl ?_
              refine Tr.callMut rfl Try.call120 (by repeat (first | exact Put.here _ | apply Put.there)) (fun w hw => rotate_sec l V r md e _ _ _ (by omega) (by omega) (by omega) _ w (hw.ent _ (.head _)) hl (by omega) (by omega) (by omega)) rfl ?_
              refine Tr.nil ?_
              refine Tr.thenN ?_
              apply Tr.joined ()
              · exact rfl
              · exact Front.nil
              · exact SubX.dropN 11 (by kernel_rfl) rfl
              · exact (by repeat' (first | exact Pick.nil _ | exact Del.here _ | apply Pick.cons | apply Del.there))
              · exact trivial
            · try simp only [bs] at h17
              refine Tr.skip ?_
              refine Tr.thenN ?_
              refine Tr.rowEq (l' := mp (rotF r md e) l) (rot_none (by omega) (by omega) (by omega)).symm ?_
              apply Tr.joined ()
              · exact rfl
              · exact Front.nil
              · exact SubX.dropN 5 (by kernel_rfl) rfl
              · exact (by repeat' (first | exact Pick.nil _ | exact Del.here _ | apply Pick.cons | apply Del.there))
              · exact trivial
          · skip
            replace hi : True := hi
            change Tr _ _ [rowE V 59 encSec (mp (rotF r md e) l)] ([] ++ _) _
            refine Tr.seqJ (ι := List SecV) (fun c2 => Half (ltC cmp) l c2 a mid mid e b) (fun _ => Bg.less w V) (fun c2 => [rowE V 59 encSec c2]) (fun c2 => []) ?_ (fun c2 hi => ?_)
            · skip
              refine Tr.seq ?_
              refine Tr.region ?_
              refine Tr.q (QS.move rfl) rfl ?_
              refine Tr.q (QS.move rfl) rfl ?_
              refine Tr.q (QS.lss rfl rfl) rfl ?_
              refine Tr.q (QS.move rfl) rfl ?_
              apply Tr.andP
              · exact (rfl : _ = (4, 195, 199))
              · exact rfl
              · intro hT18; have hT18' := hT18
                try simp only [bs] at hT18'
                refine Tr.gq rfl rfl hT18 (QS.move rfl) rfl ?_
                refine Tr.gq rfl rfl hT18 (QS.move rfl) rfl ?_
                refine Tr.gq rfl rfl hT18 (QS.lss rfl rfl) rfl ?_
                refine Tr.q (QS.pickT rfl hT18 rfl) rfl ?_
                refine Tr.nil (Tr.thenN ?_)
                exact Tr.endX (Sub.cons rfl (Sub.dropN 4 (by kernel_rfl) rfl))
              · intro hF18
                refine Tr.gskip rfl rfl hF18 rfl ?_
                refine Tr.gskip rfl rfl hF18 rfl ?_
                refine Tr.gskip rfl rfl hF18 rfl ?_
                refine Tr.q (QS.pickF rfl hF18 rfl) rfl ?_
                refine Tr.nil (Tr.thenN ?_)
                exact Tr.endX (Sub.cons rfl (Sub.dropN 4 (by kernel_rfl) rfl))
              refine Tr.nil ?_
              refine Tr.thenN ?_
              refine Tr.cond rfl (fun h19 => ?_) (fun h19 => ?_)
              · try simp only [bs] at h19
                refine Tr.region ?_
                refine Tr.q (QS.move rfl) rfl ?_
                refine Tr.q (QS.move rfl) rfl ?_
                refine Tr.q (QS.move rfl) rfl ?_
                refine Tr.q (QS.move rfl) rfl ?_
                refine Tr.q (QS.move rfl) rfl ?_
                refine Tr.callMutR (fun c => Stab (ltC cmp) (mp (rotF r md e) l) c ∧ Fram a mid (mp (rotF r md e) l) c ∧ Srt (ltC cmp) c a mid) rfl Try.call114 (fun w hw => ih (mid - a) (by omega) (mp (rotF r md e) l) a r mid _ _ _ w (by omega) (by omega) (by omega) (Nat.le_refl _) (by omega) (by omega) (by omega) (by omega) hf.s1 hf.s2 (hw.ent _ (.head _))) rfl (fun c2 hc2 => ?_)
                refine Tr.nil ?_
                refine Tr.thenN ?_
                apply Tr.joined c2
                · exact rfl
                · exact Front.nil
                · exact SubX.dropN 11 (by kernel_rfl) rfl
                · exact (by repeat' (first | exact Pick.nil _ | exact Del.here _ | apply Pick.cons | apply Del.there))
                · exact hf.left hb (by omega) (by omega) hc2.1 hc2.2.1 hc2.2.2
              · try simp only [bs] at h19
                refine Tr.skip ?_
                refine Tr.thenN ?_
                apply Tr.joined _
                · exact rfl
                · exact Front.nil
                · exact SubX.dropN 5 (by kernel_rfl) rfl
                · exact (by repeat' (first | exact Pick.nil _ | exact Del.here _ | apply Pick.cons | apply Del.there))
                · exact hf.left0 (by omega) (by omega) (by omega)
            · skip
              replace hi : Half (ltC cmp) l c2 a mid mid e b := hi
              change Tr _ _ [rowE V 59 encSec c2] ([] ++ _) _
              have hl2 := hi.fr.1
              refine Tr.seq ?_
              refine Tr.region ?_
              refine Tr.q (QS.move rfl) rfl ?_
              refine Tr.q (QS.move rfl) rfl ?_
              refine Tr.q (QS.lss rfl rfl) rfl ?_
              refine Tr.q (QS.move rfl) rfl ?_
              apply Tr.andP
              · exact (rfl : _ = (4, 209, 213))
              · exact rfl
              · intro hT20; have hT20' := hT20
                try simp only [bs] at hT20'
                refine Tr.gq rfl rfl hT20 (QS.move rfl) rfl ?_
                refine Tr.gq rfl rfl hT20 (QS.move rfl) rfl ?_
                refine Tr.gq rfl rfl hT20 (QS.lss rfl rfl) rfl ?_
                refine Tr.q (QS.pickT rfl hT20 rfl) rfl ?_
                refine Tr.nil (Tr.thenN ?_)
                exact Tr.endX (Sub.cons rfl (Sub.dropN 4 (by kernel_rfl) rfl))
              · intro hF20
                refine Tr.gskip rfl rfl hF20 rfl ?_
                refine Tr.gskip rfl rfl hF20 rfl ?_
                refine Tr.gskip rfl rfl hF20 rfl ?_
                refine Tr.q (QS.pickF rfl hF20 rfl) rfl ?_
                refine Tr.nil (Tr.thenN ?_)
                exact Tr.endX (Sub.cons rfl (Sub.dropN 4 (by kernel_rfl) rfl))
              refine Tr.nil ?_
              refine Tr.thenN ?_
              refine Tr.cond rfl (fun h21 => ?_) (fun h21 => ?_)
              · try simp only [bs] at h21
                refine Tr.region ?_
                refine Tr.q (QS.move rfl) rfl ?_
                refine Tr.q (QS.move rfl) rfl ?_
                refine Tr.q (QS.move rfl) rfl ?_
                refine Tr.q (QS.move rfl) rfl ?_
                refine Tr.q (QS.move rfl) rfl ?_
                refine Tr.callMutR (fun c => Stab (ltC cmp) c2 c ∧ Fram mid b c2 c ∧ Srt (ltC cmp) c mid b) rfl Try.call114 (fun w hw => ih (b - mid) (by omega) c2 mid e b _ _ _ w (by omega) (by omega) (by omega) (Nat.le_refl _) (by omega) (by omega) (by omega) (by omega) hi.s3 hi.s4 (hw.ent _ (.head _))) rfl (fun c3 hc3 => ?_)
                refine Tr.nil ?_
                refine Tr.ret0n Try.results114 (fun w' hw => ?_)
                exact ⟨rfl, c3, hi.right hb (by omega) (by omega) hc3.1 hc3.2.1 hc3.2.2, HpOK.mutOwn hw (.head _) rfl⟩
              · try simp only [bs] at h21
                refine Tr.skip ?_
                refine Tr.ret0n Try.results114 (fun w' hw => ?_)
                exact ⟨rfl, c2, hi.right0 (by omega) (by omega) (by omega), HpOK.mutOwn hw (.head _) rfl⟩
theorem symMerge_sec (V : Value) (g : FuncId) (cmp : SecV → SecV → Int) (eg : ∀ args w, (callFunc g args).run Try.prog w = .ok (.enter g args) w) (hc : ∀ x y w', Calls Try.prog g ([Value.agg (encSec.enc x).toArray, Value.agg (encSec.enc y).toArray] ++ []).toArray w' fun e w'' => e = .returned (.int .i64 (cmp x y)) ∧ Ext w' w'') (hO : WO (ltC cmp)) : ∀ n, SymFor g cmp V n := by
  intro n
  induction n using Nat.strongRecOn with
  | ind n ih =>
    intro l a md b ai mdi bi w ea emd eb hn ham hmb hb hl h1s h2s hr
    exact sym_step l V a md b ai mdi bi ea emd eb g cmp eg hc hO w hr hl (fun k hk => ih k (by omega)) ham hmb hb h1s h2s
theorem getD_ge {l : List SecV} {k : Nat} (h : l.length ≤ k) : l.getD k default = default := by simp [List.getD_eq_getElem?_getD, List.getElem?_eq_none h]
set_option maxRecDepth 100000 in
set_option maxHeartbeats 8000000 in
theorem stable_sec (l : List SecV) (V : Value) (n : Nat) (ni : Int) (en : ni = ((n : Nat) : Int)) (g : FuncId) (cmp : SecV → SecV → Int) (eg : ∀ args w, (callFunc g args).run Try.prog w = .ok (.enter g args) w) (hc : ∀ x y w', Calls Try.prog g ([Value.agg (encSec.enc x).toArray, Value.agg (encSec.enc y).toArray] ++ []).toArray w' fun e w'' => e = .returned (.int .i64 (cmp x y)) ∧ Ext w' w'') (hO : WO (ltC cmp)) (w : World) (hr : (rowE V 59 encSec l).holds w) (hl : l.length ≤ 1000000) (hn : n = l.length) :
    Calls Try.prog 98 #[V, .int .i64 ni, .func (.func g) #[] #[]] w (srtP cmp V l 0 n w) := by
  subst en
  refine enterOwn (l := l) (E := encSec) (T := 59) hr Try.func98 rfl Try.ntmps98 rfl ?_
  refine Tr.seq ?_
  refine Tr.region ?_
  refine Tr.q (QS.assign rfl) rfl ?_
  refine Tr.nil ?_
  refine Tr.thenN ?_
  refine Tr.seq ?_
  refine Tr.region ?_
  refine Tr.q (QS.move rfl) rfl ?_
  refine Tr.q (QS.assign rfl) rfl ?_
  refine Tr.q (QS.assign rfl) rfl ?_
  refine Tr.nil ?_
  refine Tr.thenN ?_
  refine Tr.seq ?_
  refine Tr.block ?_
  refine Tr.loop (ι := Nat × List SecV) (fun ⟨t, cur⟩ => t * 20 ≤ n ∧ Stab (ltC cmp) l cur ∧ Blk (ltC cmp) cur 20 (t * 20)) (fun _ => _) (fun ⟨t, cur⟩ => [rowE V 59 encSec cur]) (fun ⟨t, cur⟩ => [(7, .int .i64 ((t * 20 : Nat) : Int)), (8, .int .i64 ((t * 20 + 20 : Nat) : Int))]) (fun ⟨t, cur⟩ => n - t * 20) (0, l) ⟨by omega, .refl _ _, fun t p q a1 a2 a3 a4 => by omega⟩ (.cons (by first | rfl | exact lookI rfl (by omega) | exact lookI rfl (by simp) | exact lookB rfl (by simp)) (.cons (by first | rfl | exact lookI rfl (by omega) | exact lookI rfl (by simp) | exact lookB rfl (by simp)) Front.nil)) (by repeat' (first | exact Pick.nil _ | exact Del.here _ | apply Pick.cons | apply Del.there)) rfl (fun i hi m hm => ?_)
  obtain ⟨t, cur⟩ := i
  replace hi : t * 20 ≤ n ∧ Stab (ltC cmp) l cur ∧ Blk (ltC cmp) cur 20 (t * 20) := hi
  replace hm : m = n - t * 20 := hm
  change Tr _ _ [rowE V 59 encSec cur] ([(7, .int .i64 ((t * 20 : Nat) : Int)), (8, .int .i64 ((t * 20 + 20 : Nat) : Int))] ++ _) _
  obtain ⟨ht1, ht2, ht3⟩ := hi
  have hcl := ht2.len
  refine Tr.seq ?_
  refine Tr.seq ?_
  refine Tr.region ?_
  refine Tr.q (QS.move rfl) rfl ?_
  refine Tr.q (QS.move rfl) rfl ?_
  refine Tr.q (QS.leq rfl rfl) rfl ?_
  refine Tr.nil ?_
  refine Tr.thenN ?_
  refine Tr.cond rfl (fun h1 => ?_) (fun h1 => ?_)
  · try simp only [bs] at h1
    refine Tr.skip ?_
    refine Tr.thenN ?_
    refine Tr.block ?_
    refine Tr.seq ?_
    refine Tr.region ?_
    refine Tr.q (QS.move rfl) rfl ?_
    refine Tr.q (QS.move rfl) rfl ?_
    refine Tr.q (QS.move rfl) rfl ?_
    refine Tr.q (QS.move rfl) rfl ?_
    refine Tr.callMutR (fun c => Stab (ltC cmp) cur c ∧ Fram (t * 20) (t * 20 + 20) cur c ∧ Srt (ltC cmp) c (t * 20) (t * 20 + 20)) rfl Try.call113 (fun w hw => insertion_sec cur V (t * 20) (t * 20 + 20) _ _ (by omega) (by omega) g cmp eg hc hO w (hw.ent _ (.head _)) (by omega) (by omega) (by omega)) rfl (fun c2 hc2 => ?_)
    refine Tr.nil ?_
    refine Tr.thenN ?_
    refine Tr.seq ?_
    refine Tr.region ?_
    refine Tr.q (QS.move rfl) rfl ?_
    refine Tr.q (QS.assign rfl) rfl ?_
    refine Tr.nil ?_
    refine Tr.thenN ?_
    refine Tr.region ?_
    refine Tr.q (QS.move rfl) rfl ?_
    refine Tr.q (QS.move rfl) rfl ?_
    refine Tr.q (QS.addI rfl rfl (by omega)) rfl ?_
    refine Tr.q (QS.assign rfl) rfl ?_
    refine Tr.nil ?_
    refine Tr.inN ?_
    refine Tr.thenN ?_
    have hcl2 := hc2.1.len
    have hb2 : Blk (ltC cmp) c2 20 ((t + 1) * 20) := by rw [show (t + 1) * 20 = t * 20 + 20 by omega]; exact blk_ins ht3 hc2.2.1 hc2.2.2 (by omega)
    apply Tr.again (t + 1, c2)
    · exact rfl
    · exact (.cons (by first | rfl | exact lookI rfl (by omega) | exact lookI rfl (by simp) | exact lookB rfl (by simp)) (.cons (by first | rfl | exact lookI rfl (by omega) | exact lookI rfl (by simp) | exact lookB rfl (by simp)) Front.nil))
    · exact SubX.dropN 16 (by kernel_rfl) rfl
    · exact (by repeat' (first | exact Pick.nil _ | exact Del.here _ | apply Pick.cons | apply Del.there))
    · exact ⟨by omega, ht2.trans hc2.1, hb2⟩
    · exact (by (try dsimp only); omega)
  · try simp only [bs] at h1
    refine Tr.exit ?_
    refine Tr.thenE ?_
    refine Tr.thenE ?_
    refine Tr.inHit ?_
    refine Tr.thenN ?_
    refine Tr.seq ?_
    refine Tr.region ?_
    refine Tr.q (QS.move rfl) rfl ?_
    refine Tr.q (QS.move rfl) rfl ?_
    refine Tr.q (QS.move rfl) rfl ?_
    refine Tr.q (QS.move rfl) rfl ?_
    refine Tr.callMutR (fun c => Stab (ltC cmp) cur c ∧ Fram (t * 20) n cur c ∧ Srt (ltC cmp) c (t * 20) n) rfl Try.call113 (fun w hw => insertion_sec cur V (t * 20) n _ _ (by omega) (by omega) g cmp eg hc hO w (hw.ent _ (.head _)) (by omega) (by omega) (by omega)) rfl (fun c3 hc3 => ?_)
    refine Tr.nil ?_
    refine Tr.thenN ?_
    refine Tr.block ?_
    have hcl3 := hc3.1.len
    have hb3 : Blk (ltC cmp) c3 20 n := blk_ins ht3 hc3.2.1 hc3.2.2 (by omega)
    have hst3 := ht2.trans hc3.1
    clear hc3 ht3 ht2
    refine Tr.loop (ι := Nat × Int × Int × List SecV) (fun ⟨bz, xa, xb, cur⟩ => 1 ≤ bz ∧ bz ≤ 2 * n + 20 ∧ Stab (ltC cmp) l cur ∧ Blk (ltC cmp) cur bz n) (fun _ => _) (fun ⟨bz, xa, xb, cur⟩ => [rowE V 59 encSec cur]) (fun ⟨bz, xa, xb, cur⟩ => [(6, .int .i64 (bz : Nat)), (7, .int .i64 xa), (8, .int .i64 xb)]) (fun ⟨bz, xa, xb, cur⟩ => n - bz) (20, _, _, c3) ⟨by omega, by omega, hst3, hb3⟩ (.cons (by first | rfl | exact lookI rfl (by omega) | exact lookI rfl (by simp) | exact lookB rfl (by simp)) (.cons (by first | rfl | exact lookI rfl (by omega) | exact lookI rfl (by simp) | exact lookB rfl (by simp)) (.cons (by first | rfl | exact lookI rfl (by omega) | exact lookI rfl (by simp) | exact lookB rfl (by simp)) Front.nil))) (by repeat' (first | exact Pick.nil _ | exact Del.here _ | apply Pick.cons | apply Del.there)) rfl (fun i hi m hm => ?_)
    obtain ⟨bz, xa, xb, cur⟩ := i
    replace hi : 1 ≤ bz ∧ bz ≤ 2 * n + 20 ∧ Stab (ltC cmp) l cur ∧ Blk (ltC cmp) cur bz n := hi
    replace hm : m = n - bz := hm
    change Tr _ _ [rowE V 59 encSec cur] ([(6, .int .i64 (bz : Nat)), (7, .int .i64 xa), (8, .int .i64 xb)] ++ _) _
    obtain ⟨hb1, hb2, hb4, hb5⟩ := hi
    have hcl4 := hb4.len
    refine Tr.seq ?_
    refine Tr.seq ?_
    refine Tr.region ?_
    refine Tr.q (QS.move rfl) rfl ?_
    refine Tr.q (QS.move rfl) rfl ?_
    refine Tr.q (QS.lss rfl rfl) rfl ?_
    refine Tr.nil ?_
    refine Tr.thenN ?_
    refine Tr.cond rfl (fun h2 => ?_) (fun h2 => ?_)
    · try simp only [bs] at h2
      refine Tr.skip ?_
      refine Tr.thenN ?_
      refine Tr.block ?_
      refine Tr.seq ?_
      refine Tr.region ?_
      refine Tr.q (QS.move rfl) rfl ?_
      refine Tr.q (QS.mulI rfl rfl (by omega)) rfl ?_
      refine Tr.q (QS.assign rfl) rfl ?_
      refine Tr.q (QS.assign rfl) rfl ?_
      refine Tr.nil ?_
      refine Tr.thenN ?_
      refine Tr.seq ?_
      refine Tr.block ?_
      refine Tr.loop (ι := Nat × Nat × List SecV) (fun ⟨t, x, c4⟩ => x = t * (2 * bz) ∧ x ≤ n ∧ Stab (ltC cmp) l c4 ∧ Mix (ltC cmp) c4 bz x n) (fun _ => _) (fun ⟨t, x, c4⟩ => [rowE V 59 encSec c4]) (fun ⟨t, x, c4⟩ => [(7, .int .i64 (x : Nat)), (8, .int .i64 ((x + 2 * bz : Nat) : Int))]) (fun ⟨t, x, c4⟩ => n - x) (0, 0, cur) ⟨by omega, by omega, hb4, mix_0 hb5⟩ (.cons (by first | rfl | exact lookI rfl (by omega) | exact lookI rfl (by simp) | exact lookB rfl (by simp)) (.cons (by first | rfl | exact lookI rfl (by omega) | exact lookI rfl (by simp) | exact lookB rfl (by simp)) Front.nil)) (by repeat' (first | exact Pick.nil _ | exact Del.here _ | apply Pick.cons | apply Del.there)) rfl (fun i hi m hm => ?_)
      obtain ⟨t, x, c4⟩ := i
      replace hi : x = t * (2 * bz) ∧ x ≤ n ∧ Stab (ltC cmp) l c4 ∧ Mix (ltC cmp) c4 bz x n := hi
      replace hm : m = n - x := hm
      change Tr _ _ [rowE V 59 encSec c4] ([(7, .int .i64 (x : Nat)), (8, .int .i64 ((x + 2 * bz : Nat) : Int))] ++ _) _
      obtain ⟨ht1, ht2, ht3, ht4⟩ := hi
      have hcl5 := ht3.len
      refine Tr.seq ?_
      refine Tr.seq ?_
      refine Tr.region ?_
      refine Tr.q (QS.move rfl) rfl ?_
      refine Tr.q (QS.move rfl) rfl ?_
      refine Tr.q (QS.leq rfl rfl) rfl ?_
      refine Tr.nil ?_
      refine Tr.thenN ?_
      refine Tr.cond rfl (fun h3 => ?_) (fun h3 => ?_)
      · try simp only [bs] at h3
        refine Tr.skip ?_
        refine Tr.thenN ?_
        refine Tr.block ?_
        refine Tr.seq ?_
        have hs1 : Srt (ltC cmp) c4 x (x + bz) := by subst ht1; exact mix_left ht4 (Nat.le_refl _) (by omega)
        have hs2 : Srt (ltC cmp) c4 (x + bz) (x + 2 * bz) := by subst ht1; exact mix_right ht4 (Nat.le_refl _) (by omega)
        refine Tr.region ?_
        refine Tr.q (QS.move rfl) rfl ?_
        refine Tr.q (QS.move rfl) rfl ?_
        refine Tr.q (QS.move rfl) rfl ?_
        refine Tr.q (QS.move rfl) rfl ?_
        refine Tr.q (QS.addI rfl rfl (by omega)) rfl ?_
        refine Tr.q (QS.move rfl) rfl ?_
        refine Tr.q (QS.move rfl) rfl ?_
        refine Tr.callMutR (fun c => Stab (ltC cmp) c4 c ∧ Fram x (x + 2 * bz) c4 c ∧ Srt (ltC cmp) c x (x + 2 * bz)) rfl Try.call114 (fun w hw => symMerge_sec V g cmp eg hc hO _ c4 x (x + bz) (x + 2 * bz) _ _ _ w (by omega) (by omega) (by omega) (Nat.le_refl _) (by omega) (by omega) (by omega) (by omega) hs1 hs2 (hw.ent _ (.head _))) rfl (fun c5 hc5 => ?_)
        refine Tr.nil ?_
        refine Tr.thenN ?_
        refine Tr.seq ?_
        refine Tr.region ?_
        refine Tr.q (QS.move rfl) rfl ?_
        refine Tr.q (QS.assign rfl) rfl ?_
        refine Tr.nil ?_
        refine Tr.thenN ?_
        refine Tr.region ?_
        refine Tr.q (QS.move rfl) rfl ?_
        refine Tr.q (QS.move rfl) rfl ?_
        refine Tr.q (QS.mulI rfl rfl (by omega)) rfl ?_
        refine Tr.q (QS.addI rfl rfl (by omega)) rfl ?_
        refine Tr.q (QS.assign rfl) rfl ?_
        refine Tr.nil ?_
        refine Tr.inN ?_
        refine Tr.thenN ?_
        have hm2 : Mix (ltC cmp) c5 bz (x + 2 * bz) n := by
          have f := hc5.2.1
          have so := hc5.2.2
          subst ht1
          exact mix_step ht4 f so (Nat.le_refl _) (by omega)
        apply Tr.again (t + 1, x + 2 * bz, c5)
        · exact rfl
        · exact (.cons (by first | rfl | exact lookI rfl (by omega) | exact lookI rfl (by simp) | exact lookB rfl (by simp)) (.cons (by first | rfl | exact lookI rfl (by omega) | exact lookI rfl (by simp) | exact lookB rfl (by simp)) Front.nil))
        · exact SubX.dropN 20 (by kernel_rfl) rfl
        · exact (by repeat' (first | exact Pick.nil _ | exact Del.here _ | apply Pick.cons | apply Del.there))
        · exact ⟨by rw [Nat.add_mul, ht1]; omega, by omega, ht3.trans hc5.1, hm2⟩
        · exact (by (try dsimp only); omega)
      · try simp only [bs] at h3
        refine Tr.exit ?_
        refine Tr.thenE ?_
        refine Tr.thenE ?_
        refine Tr.inHit ?_
        refine Tr.thenN ?_
        refine Tr.seqJ (ι := List SecV) (fun c6 => Stab (ltC cmp) l c6 ∧ Blk (ltC cmp) c6 (2 * bz) n) (fun _ => Bg.less w V) (fun c6 => [rowE V 59 encSec c6]) (fun c6 => []) ?_ (fun c6 hi => ?_)
        · skip
          refine Tr.seq ?_
          refine Tr.region ?_
          refine Tr.q (QS.move rfl) rfl ?_
          refine Tr.q (QS.move rfl) rfl ?_
          refine Tr.q (QS.addI rfl rfl (by omega)) rfl ?_
          refine Tr.q (QS.assign rfl) rfl ?_
          refine Tr.nil ?_
          refine Tr.thenN ?_
          refine Tr.seq ?_
          refine Tr.region ?_
          refine Tr.q (QS.move rfl) rfl ?_
          refine Tr.q (QS.move rfl) rfl ?_
          refine Tr.q (QS.lss rfl rfl) rfl ?_
          refine Tr.nil ?_
          refine Tr.thenN ?_
          refine Tr.cond rfl (fun h4 => ?_) (fun h4 => ?_)
          · try simp only [bs] at h4
            have hs1 : Srt (ltC cmp) c4 x (x + bz) := by subst ht1; exact mix_left ht4 (Nat.le_refl _) (by omega)
            have hs2 : Srt (ltC cmp) c4 (x + bz) n := by subst ht1; exact mix_right ht4 (by omega) (Nat.le_refl _)
            refine Tr.region ?_
            refine Tr.q (QS.move rfl) rfl ?_
            refine Tr.q (QS.move rfl) rfl ?_
            refine Tr.q (QS.move rfl) rfl ?_
            refine Tr.q (QS.move rfl) rfl ?_
            refine Tr.q (QS.move rfl) rfl ?_
            refine Tr.callMutR (fun c => Stab (ltC cmp) c4 c ∧ Fram x n c4 c ∧ Srt (ltC cmp) c x n) rfl Try.call114 (fun w hw => symMerge_sec V g cmp eg hc hO _ c4 x (x + bz) n _ _ _ w (by omega) (by omega) (by omega) (Nat.le_refl _) (by omega) (by omega) (by omega) (by omega) hs1 hs2 (hw.ent _ (.head _))) rfl (fun c5 hc5 => ?_)
            refine Tr.nil ?_
            refine Tr.thenN ?_
            have hm2 : Blk (ltC cmp) c5 (2 * bz) n := by
              have f := hc5.2.1
              have so := hc5.2.2
              subst ht1
              exact blk_ins ht4.1 f so (by rw [Nat.add_mul]; omega)
            apply Tr.joined c5
            · exact rfl
            · exact Front.nil
            · exact SubX.dropN 13 (by kernel_rfl) rfl
            · exact (by repeat' (first | exact Pick.nil _ | exact Del.here _ | apply Pick.cons | apply Del.there))
            · exact ⟨ht3.trans hc5.1, hm2⟩
          · try simp only [bs] at h4
            refine Tr.skip ?_
            refine Tr.thenN ?_
            have hm2 : Blk (ltC cmp) c4 (2 * bz) n := by
              subst ht1
              exact mix_end ht4 (by omega)
            apply Tr.joined c4
            · exact rfl
            · exact Front.nil
            · exact SubX.dropN 7 (by kernel_rfl) rfl
            · exact (by repeat' (first | exact Pick.nil _ | exact Del.here _ | apply Pick.cons | apply Del.there))
            · exact ⟨ht3, hm2⟩
        · skip
          replace hi : Stab (ltC cmp) l c6 ∧ Blk (ltC cmp) c6 (2 * bz) n := hi
          change Tr _ _ [rowE V 59 encSec c6] ([] ++ _) _
          refine Tr.region ?_
          refine Tr.q (QS.move rfl) rfl ?_
          refine Tr.q (QS.mulI rfl rfl (by omega)) rfl ?_
          refine Tr.q (QS.assign rfl) rfl ?_
          refine Tr.nil ?_
          refine Tr.inN ?_
          refine Tr.thenN ?_
          apply Tr.again (2 * bz, _, _, c6)
          · exact rfl
          · exact (.cons (by first | rfl | exact lookI rfl (by omega) | exact lookI rfl (by simp) | exact lookB rfl (by simp)) (.cons (by first | rfl | exact lookI rfl (by omega) | exact lookI rfl (by simp) | exact lookB rfl (by simp)) (.cons (by first | rfl | exact lookI rfl (by omega) | exact lookI rfl (by simp) | exact lookB rfl (by simp)) Front.nil)))
          · exact SubX.dropN 18 (by kernel_rfl) rfl
          · exact (by repeat' (first | exact Pick.nil _ | exact Del.here _ | apply Pick.cons | apply Del.there))
          · exact ⟨by omega, by omega, hi.1, hi.2⟩
          · exact (by (try dsimp only); omega)
    · try simp only [bs] at h2
      refine Tr.exit ?_
      refine Tr.thenE ?_
      refine Tr.thenE ?_
      refine Tr.inHit ?_
      refine Tr.ret0n Try.results98 (fun w' hw => ?_)
      exact ⟨rfl, cur, ⟨hb4, ⟨hb4.len, fun k hk => by rw [getD_ge (by omega), getD_ge (by omega)]⟩, hb5.all (by omega)⟩, HpOK.mutOwn hw (.head _) rfl⟩
set_option maxRecDepth 100000 in
set_option maxHeartbeats 2000000 in
theorem sortStable_sec (l : List SecV) (V : Value) (g : FuncId) (cmp : SecV → SecV → Int) (eg : ∀ args w, (callFunc g args).run Try.prog w = .ok (.enter g args) w) (hc : ∀ x y w', Calls Try.prog g ([Value.agg (encSec.enc x).toArray, Value.agg (encSec.enc y).toArray] ++ []).toArray w' fun e w'' => e = .returned (.int .i64 (cmp x y)) ∧ Ext w' w'') (hO : WO (ltC cmp)) (w : World) (hr : (rowE V 59 encSec l).holds w) (hl : l.length ≤ 1000000) :
    Calls Try.prog 76 #[V, .func (.func g) #[] #[]] w (srtP cmp V l 0 l.length w) := by
  refine enterOwn (l := l) (E := encSec) (T := 59) hr Try.func76 rfl Try.ntmps76 rfl ?_
  refine Tr.region ?_
  refine Tr.q (QS.move rfl) rfl ?_
  refine Tr.q (QS.move rfl) rfl ?_
  refine Tr.q (QS.lenRow rfl (by repeat (first | exact List.Mem.head _ | apply List.Mem.tail)) Try.underlying22) rfl ?_
  refine Tr.q (QS.move rfl) rfl ?_
  refine Tr.callMutR (fun c => Stab (ltC cmp) l c ∧ Fram 0 l.length l c ∧ Srt (ltC cmp) c 0 l.length) rfl Try.call98 (fun w hw => stable_sec l V l.length _ rfl g cmp eg hc hO w (hw.ent _ (.head _)) hl rfl) rfl (fun c2 hc2 => ?_)
  refine Tr.nil ?_
  refine Tr.ret0n Try.results76 (fun w' hw => ?_)
  exact ⟨rfl, c2, hc2, HpOK.mutOwn hw (.head _) rfl⟩
end Go.Proofs.Ytfnedefgepjbpaa
namespace Go.HL
open Go
theorem bless_irr : ∀ a : List UInt8, Op.bytesLess a a = false
  | [] => rfl
  | x :: a => by unfold Op.bytesLess; simp [bless_irr a, UInt8.lt_irrefl]
theorem bless_tr : ∀ a b c : List UInt8, Op.bytesLess a b = true → Op.bytesLess b c = true → Op.bytesLess a c = true
  | _, [], _, h, _ => by cases ‹List UInt8› <;> simp [Op.bytesLess] at h
  | [], _ :: _, [], _, h => by simp [Op.bytesLess] at h
  | [], _ :: _, _ :: _, _, _ => rfl
  | _ :: _, _ :: _, [], _, h => by simp [Op.bytesLess] at h
  | x :: a, y :: b, z :: c, h1, h2 => by
    have ih := bless_tr a b c
    unfold Op.bytesLess at h1 h2 ⊢
    simp only [Bool.or_eq_true, Bool.and_eq_true, decide_eq_true_eq, beq_iff_eq, UInt8.lt_iff_toNat_lt, ← UInt8.toNat_inj] at *
    grind
theorem bless_tri : ∀ a b : List UInt8, Op.bytesLess a b = false → Op.bytesLess b a = false → a = b
  | [], [], _, _ => rfl
  | [], _ :: _, h, _ => by simp [Op.bytesLess] at h
  | _ :: _, [], _, h => by simp [Op.bytesLess] at h
  | x :: a, y :: b, h1, h2 => by
    have ih := bless_tri a b
    unfold Op.bytesLess at h1 h2
    simp only [Bool.or_eq_false_iff, Bool.and_eq_false_iff, decide_eq_false_iff_not, beq_eq_false_iff_ne, UInt8.lt_iff_toNat_lt, ne_eq, ← UInt8.toNat_inj] at h1 h2
    have hxy : x = y := UInt8.toNat_inj.1 (by omega)
    subst hxy
    rw [ih (by simpa using h1.2) (by simpa using h2.2)]
def bl (a b : ByteArray) : Bool := Op.bytesLess a.toList b.toList
def ltS (x y : Sec) : Bool := decide (x.addr < y.addr) || (decide (x.addr = y.addr) && bl x.name y.name)
def ltP (x y : SecV) : Bool := ltS x.pl y.pl
def cmpU (a b : UInt32) : Int := if a < b then -1 else if b < a then 1 else 0
def cmpB (a b : ByteArray) : Int := if bl a b = true then -1 else if (!(bl a b || a.toList == b.toList)) = true then 1 else 0
def cmpS (x y : SecV) : Int := if cmpU x.addr y.addr ≠ 0 then cmpU x.addr y.addr else cmpB x.name y.name
theorem ltS_tri {x y : Sec} (h1 : ltS x y = false) (h2 : ltS y x = false) : x.addr = y.addr ∧ x.name = y.name := by
  simp only [ltS, Bool.or_eq_false_iff, Bool.and_eq_false_iff, decide_eq_false_iff_not] at h1 h2
  have ha : x.addr = y.addr := by
    have a1 := h1.1
    have a2 := h2.1
    rw [UInt32.lt_iff_toNat_lt] at a1 a2
    exact UInt32.toNat_inj.1 (by omega)
  refine ⟨ha, ?_⟩
  have b1 := h1.2.resolve_left (by simp [ha])
  have b2 := h2.2.resolve_left (by simp [ha])
  have := bless_tri _ _ b1 b2
  have e : x.name.data.toList = y.name.data.toList := by rwa [Go.ByteArray.toList_eq, Go.ByteArray.toList_eq] at this
  generalize x.name = p at e ⊢
  generalize y.name = q at e ⊢
  cases p; cases q
  simp only [ByteArray.mk.injEq]
  exact Array.toList_inj.1 e
theorem ltS_key {x y x' y' : Sec} (h1 : x.addr = x'.addr) (h2 : x.name = x'.name) (h3 : y.addr = y'.addr) (h4 : y.name = y'.name) : ltS x y = ltS x' y' := by simp only [ltS, h1, h2, h3, h4]
theorem ltS_tr {x y z : Sec} (h1 : ltS x y = true) (h2 : ltS y z = true) : ltS x z = true := by
  simp only [ltS, Bool.or_eq_true, Bool.and_eq_true, decide_eq_true_eq] at *
  rcases h1 with h1 | ⟨h1, k1⟩ <;> rcases h2 with h2 | ⟨h2, k2⟩
  · left; rw [UInt32.lt_iff_toNat_lt] at *; omega
  · left; rw [← h2]; exact h1
  · left; rw [h1]; exact h2
  · right; exact ⟨h1.trans h2, bless_tr _ _ _ k1 k2⟩
theorem wo_ltS : WO ltS where
  irr x := by simp [ltS, bl, bless_irr, UInt32.lt_irrefl]
  tr x y z := ltS_tr
  ntr x y z h1 h2 := by
    cases h3 : ltS x z
    · rfl
    · cases h4 : ltS y x
      · obtain ⟨k1, k2⟩ := ltS_tri h1 h4
        rw [ltS_key k1 k2 rfl rfl] at h3
        rw [h3] at h2; cases h2
      · rw [ltS_tr h4 h3] at h2; cases h2
theorem wo_ltP : WO ltP := ⟨fun x => wo_ltS.irr _, fun x y z => wo_ltS.tr _ _ _, fun x y z => wo_ltS.ntr _ _ _⟩
theorem ltC_cmpS : (fun x y : SecV => decide (cmpS x y < 0)) = ltP := by
  funext x y
  have h1 : x.pl.addr = x.addr := rfl
  have h2 : y.pl.addr = y.addr := rfl
  have h3 : x.pl.name = x.name := rfl
  have h4 : y.pl.name = y.name := rfl
  simp only [ltP, ltS, h1, h2, h3, h4]
  by_cases c1 : x.addr < y.addr
  · simp [cmpS, cmpU, c1]
  · by_cases c2 : y.addr < x.addr
    · have : x.addr ≠ y.addr := fun e => by rw [e] at c2; exact absurd c2 (by simp [UInt32.lt_irrefl])
      simp [cmpS, cmpU, c1, c2, this]
    · have he : x.addr = y.addr := by
        rw [UInt32.lt_iff_toNat_lt] at c1 c2
        exact UInt32.toNat_inj.1 (by omega)
      have hz : cmpU x.addr y.addr = 0 := by rw [cmpU, if_neg c1, if_neg c2]
      rw [cmpS, if_neg (by rw [hz]; simp)]
      cases hb : bl x.name y.name
      · have : cmpB x.name y.name = 0 ∨ cmpB x.name y.name = 1 := by unfold cmpB; rw [hb]; simp only [Bool.false_eq_true, if_false]; split <;> simp
        rcases this with h | h <;> simp [h, c1]
      · simp [cmpB, hb, he]
theorem Stab.pl {xs ys : List SecV} (h : Stab ltP xs ys) : Stab ltS (xs.map SecV.pl) (ys.map SecV.pl) :=
  ⟨h.1.map _, fun z => by
    rw [List.filter_map, List.filter_map]
    have := h.2 ⟨z.name, z.addr, z.data, none, 0, z.wr, z.ex⟩
    exact congrArg (List.map SecV.pl) this⟩
theorem Stab.append {α : Type} {lt : α → α → Bool} {a b : List α} (h : Stab lt a b) (c : List α) : Stab lt (a ++ c) (b ++ c) :=
  ⟨h.1.append_right c, fun z => by rw [List.filter_append, List.filter_append, h.2 z]⟩
theorem sorted_pl {xs : List SecV} (h : xs.Pairwise fun x y => ltP y x = false) : (xs.map SecV.pl).Pairwise fun x y => ltS y x = false := by
  rw [List.pairwise_map]; exact h
/-- ys is ls sorted. -/
def SortedOf (ls ys : List Sec) : Prop := Stab ltS ls ys ∧ ys.Pairwise fun x y => ltS y x = false
theorem NewEnts.secsOf {T U : TypeId} {V : Value} {l zs : List SecV} {w w' : World} (h : NewEnts w w' (rowE V T encSec l :: zs.map (dRow U))) (hp : ∀ s ∈ l, s ∈ zs) : SecsAt (newHp w w') (l.map SecV.pl) V :=
  ⟨l, (h.row (.head _)).sl, fun s hs => (h.row (T := U) (.tail _ (List.mem_map.2 ⟨s, hp s hs, rfl⟩))).sl, rfl⟩
def SrtAt (ls : List Sec) (h : Hp) (i : Value × List Sec) : Prop := SecsAt h i.2 i.1 ∧ SortedOf ls i.2
theorem SrtAt.mono {ls : List Sec} {h h' : Hp} {i : Value × List Sec} (s : SrtAt ls h i) (hh : Hp.le h h') : SrtAt ls h' i := ⟨s.1.mono hh, s.2⟩
end Go.HL
namespace Go.Proofs.Ytfnedefgepjbpaa
open Go Go.HL Go.RowKit
def orP : List Int → Int
  | [] => 0
  | x :: t => if x ≠ 0 then x else orP t
theorem orP2 (p q : Int) : orP [p, q] = if p ≠ 0 then p else q := by simp only [orP]; split <;> (try split) <;> simp_all
theorem ltC_eq : ltC cmpS = ltP := ltC_cmpS
set_option maxRecDepth 100000 in
set_option maxHeartbeats 2000000 in
theorem nanU_any (a : UInt32) (w : World) :
    Calls Try.prog 99 #[.int .u32 a.toNat] w (fun e w' => e = .returned (.bool false) ∧ Ext w w') := by
  refine enter Try.func99 rfl Try.ntmps99 rfl ?_
  refine Tr.seq ?_
  refine Tr.region ?_
  refine Tr.q (QS.assign rfl) rfl ?_
  refine Tr.nil ?_
  refine Tr.thenN ?_
  refine Tr.seq ?_
  refine Tr.region ?_
  refine Tr.q (QS.move rfl) rfl ?_
  refine Tr.q (QS.move rfl) rfl ?_
  refine Tr.q (QS.neq32 rfl rfl) rfl ?_
  refine Tr.q (QS.assign rfl) rfl ?_
  refine Tr.nil ?_
  refine Tr.thenN ?_
  refine Tr.ret ?_
  refine Tr.ret1 Try.results99 rfl (fun w' hw => ?_)
  exact ⟨by simp, hw.below (Bg.le.refl _)⟩
set_option maxRecDepth 100000 in
set_option maxHeartbeats 2000000 in
theorem nanB_any (a : ByteArray) (w : World) :
    Calls Try.prog 100 #[.string a] w (fun e w' => e = .returned (.bool false) ∧ Ext w w') := by
  refine enter Try.func100 rfl Try.ntmps100 rfl ?_
  refine Tr.seq ?_
  refine Tr.region ?_
  refine Tr.q (QS.assign rfl) rfl ?_
  refine Tr.nil ?_
  refine Tr.thenN ?_
  refine Tr.seq ?_
  refine Tr.region ?_
  refine Tr.q (QS.move rfl) rfl ?_
  refine Tr.q (QS.move rfl) rfl ?_
  refine Tr.q (QS.str_neq rfl rfl) rfl ?_
  refine Tr.q (QS.assign rfl) rfl ?_
  refine Tr.nil ?_
  refine Tr.thenN ?_
  refine Tr.ret ?_
  refine Tr.ret1 Try.results100 rfl (fun w' hw => ?_)
  exact ⟨by simp, hw.below (Bg.le.refl _)⟩
set_option maxRecDepth 100000 in
set_option maxHeartbeats 2000000 in
theorem cmpU_any (a b : UInt32) (w : World) :
    Calls Try.prog 79 #[.int .u32 a.toNat, .int .u32 b.toNat] w (fun e w' => e = .returned (.int .i64 (cmpU a b)) ∧ Ext w w') := by
  refine enter Try.func79 rfl Try.ntmps79 rfl ?_
  refine Tr.seq ?_
  refine Tr.region ?_
  refine Tr.q (QS.assign rfl) rfl ?_
  refine Tr.nil ?_
  refine Tr.thenN ?_
  refine Tr.seq ?_
  refine Tr.region ?_
  refine Tr.q (QS.move rfl) rfl ?_
  refine Tr.q (QS.call rfl Try.call99 (fun w hw => nanU_any a w)) rfl ?_
  refine Tr.q (QS.assign rfl) rfl ?_
  refine Tr.nil ?_
  refine Tr.thenN ?_
  refine Tr.seq ?_
  refine Tr.region ?_
  refine Tr.q (QS.move rfl) rfl ?_
  refine Tr.q (QS.call rfl Try.call99 (fun w hw => nanU_any b w)) rfl ?_
  refine Tr.q (QS.assign rfl) rfl ?_
  refine Tr.nil ?_
  refine Tr.thenN ?_
  refine Tr.seq ?_
  refine Tr.seq ?_
  refine Tr.region ?_
  refine Tr.q (QS.move rfl) rfl ?_
  refine Tr.nil ?_
  refine Tr.thenN ?_
  refine Tr.cond rfl (fun h1 => ?_) (fun h1 => ?_)
  · try simp only [bs] at h1
    first | contradiction | (exfalso; omega) | simp_all
  · try simp only [bs] at h1
    refine Tr.skip ?_
    refine Tr.thenN ?_
    refine Tr.seq ?_
    refine Tr.seq ?_
    refine Tr.region ?_
    refine Tr.q (QS.move rfl) rfl ?_
    refine Tr.nil ?_
    refine Tr.thenN ?_
    refine Tr.cond rfl (fun h2 => ?_) (fun h2 => ?_)
    · try simp only [bs] at h2
      first | contradiction | (exfalso; omega) | simp_all
    · try simp only [bs] at h2
      refine Tr.skip ?_
      refine Tr.thenN ?_
      refine Tr.seq ?_
      refine Tr.seq ?_
      refine Tr.region ?_
      refine Tr.q (QS.move rfl) rfl ?_
      refine Tr.q (QS.move rfl) rfl ?_
      refine Tr.q (QS.lss32 rfl rfl) rfl ?_
      refine Tr.nil ?_
      refine Tr.thenN ?_
      refine Tr.cond rfl (fun h3 => ?_) (fun h3 => ?_)
      · try simp only [bs] at h3
        refine Tr.seq ?_
        refine Tr.region ?_
        refine Tr.q (QS.assign rfl) rfl ?_
        refine Tr.nil ?_
        refine Tr.thenN ?_
        refine Tr.ret ?_
        refine Tr.thenR ?_
        refine Tr.ret1 Try.results79 rfl (fun w' hw => ?_)
        exact ⟨by rw [cmpU, if_pos (by assumption)], hw.below (Bg.le.refl _)⟩
      · try simp only [bs] at h3
        refine Tr.skip ?_
        refine Tr.thenN ?_
        refine Tr.seq ?_
        refine Tr.seq ?_
        refine Tr.region ?_
        refine Tr.q (QS.move rfl) rfl ?_
        refine Tr.q (QS.move rfl) rfl ?_
        refine Tr.q (QS.gtr32 rfl rfl) rfl ?_
        refine Tr.nil ?_
        refine Tr.thenN ?_
        refine Tr.cond rfl (fun h4 => ?_) (fun h4 => ?_)
        · try simp only [bs] at h4
          refine Tr.seq ?_
          refine Tr.region ?_
          refine Tr.q (QS.assign rfl) rfl ?_
          refine Tr.nil ?_
          refine Tr.thenN ?_
          refine Tr.ret ?_
          refine Tr.thenR ?_
          refine Tr.ret1 Try.results79 rfl (fun w' hw => ?_)
          exact ⟨by rw [cmpU, if_neg (by assumption), if_pos (by assumption)], hw.below (Bg.le.refl _)⟩
        · try simp only [bs] at h4
          refine Tr.skip ?_
          refine Tr.thenN ?_
          refine Tr.seq ?_
          refine Tr.region ?_
          refine Tr.q (QS.assign rfl) rfl ?_
          refine Tr.nil ?_
          refine Tr.thenN ?_
          refine Tr.ret ?_
          refine Tr.ret1 Try.results79 rfl (fun w' hw => ?_)
          exact ⟨by rw [cmpU, if_neg (by assumption), if_neg (by assumption)], hw.below (Bg.le.refl _)⟩
set_option maxRecDepth 100000 in
set_option maxHeartbeats 2000000 in
theorem cmpB_any (a b : ByteArray) (w : World) :
    Calls Try.prog 80 #[.string a, .string b] w (fun e w' => e = .returned (.int .i64 (cmpB a b)) ∧ Ext w w') := by
  refine enter Try.func80 rfl Try.ntmps80 rfl ?_
  refine Tr.seq ?_
  refine Tr.region ?_
  refine Tr.q (QS.assign rfl) rfl ?_
  refine Tr.nil ?_
  refine Tr.thenN ?_
  refine Tr.seq ?_
  refine Tr.region ?_
  refine Tr.q (QS.move rfl) rfl ?_
  refine Tr.q (QS.call rfl Try.call100 (fun w hw => nanB_any a w)) rfl ?_
  refine Tr.q (QS.assign rfl) rfl ?_
  refine Tr.nil ?_
  refine Tr.thenN ?_
  refine Tr.seq ?_
  refine Tr.region ?_
  refine Tr.q (QS.move rfl) rfl ?_
  refine Tr.q (QS.call rfl Try.call100 (fun w hw => nanB_any b w)) rfl ?_
  refine Tr.q (QS.assign rfl) rfl ?_
  refine Tr.nil ?_
  refine Tr.thenN ?_
  refine Tr.seq ?_
  refine Tr.seq ?_
  refine Tr.region ?_
  refine Tr.q (QS.move rfl) rfl ?_
  refine Tr.nil ?_
  refine Tr.thenN ?_
  refine Tr.cond rfl (fun h1 => ?_) (fun h1 => ?_)
  · try simp only [bs] at h1
    first | contradiction | (exfalso; omega) | simp_all
  · try simp only [bs] at h1
    refine Tr.skip ?_
    refine Tr.thenN ?_
    refine Tr.seq ?_
    refine Tr.seq ?_
    refine Tr.region ?_
    refine Tr.q (QS.move rfl) rfl ?_
    refine Tr.nil ?_
    refine Tr.thenN ?_
    refine Tr.cond rfl (fun h2 => ?_) (fun h2 => ?_)
    · try simp only [bs] at h2
      first | contradiction | (exfalso; omega) | simp_all
    · try simp only [bs] at h2
      refine Tr.skip ?_
      refine Tr.thenN ?_
      refine Tr.seq ?_
      refine Tr.seq ?_
      refine Tr.region ?_
      refine Tr.q (QS.move rfl) rfl ?_
      refine Tr.q (QS.move rfl) rfl ?_
      refine Tr.q (QS.str_lss rfl rfl) rfl ?_
      refine Tr.nil ?_
      refine Tr.thenN ?_
      refine Tr.cond rfl (fun h3 => ?_) (fun h3 => ?_)
      · try simp only [bs] at h3
        refine Tr.seq ?_
        refine Tr.region ?_
        refine Tr.q (QS.assign rfl) rfl ?_
        refine Tr.nil ?_
        refine Tr.thenN ?_
        refine Tr.ret ?_
        refine Tr.thenR ?_
        refine Tr.ret1 Try.results80 rfl (fun w' hw => ?_)
        exact ⟨by simp_all [cmpB, bl], hw.below (Bg.le.refl _)⟩
      · try simp only [bs] at h3
        refine Tr.skip ?_
        refine Tr.thenN ?_
        refine Tr.seq ?_
        refine Tr.seq ?_
        refine Tr.region ?_
        refine Tr.q (QS.move rfl) rfl ?_
        refine Tr.q (QS.move rfl) rfl ?_
        refine Tr.q (QS.str_gtr rfl rfl) rfl ?_
        refine Tr.nil ?_
        refine Tr.thenN ?_
        refine Tr.cond rfl (fun h4 => ?_) (fun h4 => ?_)
        · try simp only [bs] at h4
          refine Tr.seq ?_
          refine Tr.region ?_
          refine Tr.q (QS.assign rfl) rfl ?_
          refine Tr.nil ?_
          refine Tr.thenN ?_
          refine Tr.ret ?_
          refine Tr.thenR ?_
          refine Tr.ret1 Try.results80 rfl (fun w' hw => ?_)
          exact ⟨by simp_all [cmpB, bl], hw.below (Bg.le.refl _)⟩
        · try simp only [bs] at h4
          refine Tr.skip ?_
          refine Tr.thenN ?_
          refine Tr.seq ?_
          refine Tr.region ?_
          refine Tr.q (QS.assign rfl) rfl ?_
          refine Tr.nil ?_
          refine Tr.thenN ?_
          refine Tr.ret ?_
          refine Tr.ret1 Try.results80 rfl (fun w' hw => ?_)
          exact ⟨by simp_all [cmpB, bl], hw.below (Bg.le.refl _)⟩
set_option maxRecDepth 100000 in
set_option maxHeartbeats 2000000 in
theorem or_any (l : List Int) (V : Value) (w : World) (hV : Sl (hp w) encInt l V) :
    Calls Try.prog 78 #[V] w (fun e w' => e = .returned (.int .i64 (orP l)) ∧ Ext w w') := by
  have hV' : Sl (Bg.of w).blk encInt l V := hV
  have hlen := hV.len_le
  refine enter Try.func78 rfl Try.ntmps78 rfl ?_
  refine Tr.seq ?_
  refine Tr.region ?_
  refine Tr.q (QS.assign rfl) rfl ?_
  refine Tr.nil ?_
  refine Tr.thenN ?_
  refine Tr.seq ?_
  refine Tr.region ?_
  refine Tr.q (QS.assign rfl) rfl ?_
  refine Tr.nil ?_
  refine Tr.thenN ?_
  refine Tr.seq ?_
  refine Tr.seq ?_
  refine Tr.region ?_
  refine Tr.q (QS.move rfl) rfl ?_
  refine Tr.q (QS.len rfl (by assumption) Try.underlying134) rfl ?_
  refine Tr.q (QS.move rfl) rfl ?_
  refine Tr.nil ?_
  refine Tr.thenN ?_
  refine Tr.block ?_
  refine Tr.loop (ι := Nat) (fun k => k ≤ l.length ∧ orP (l.drop k) = orP l) (fun _ => _) (fun k => []) (fun k => [(8, .int .i64 (k : Nat))]) (fun k => l.length - k) 0 ⟨Nat.zero_le _, rfl⟩ (.cons (by first | rfl | exact lookI rfl (by omega) | exact lookI rfl (by simp) | exact lookB rfl (by simp)) Front.nil) (by repeat' (first | exact Pick.nil _ | exact Del.here _ | apply Pick.cons | apply Del.there)) rfl (fun k hi m hm => ?_)
  replace hi : k ≤ l.length ∧ orP (l.drop k) = orP l := hi
  replace hm : m = l.length - k := hm
  change Tr _ _ [] ([(8, .int .i64 (k : Nat))] ++ _) _
  obtain ⟨hk1, hk2⟩ := hi
  refine Tr.seq ?_
  refine Tr.region ?_
  refine Tr.q (QS.lss rfl rfl) rfl ?_
  refine Tr.nil ?_
  refine Tr.thenN ?_
  refine Tr.seq ?_
  refine Tr.cond rfl (fun h1 => ?_) (fun h1 => ?_)
  · try simp only [bs] at h1
    refine Tr.skip ?_
    refine Tr.thenN ?_
    refine Tr.seq ?_
    refine Tr.block ?_
    refine Tr.seq ?_
    refine Tr.region ?_
    refine Tr.q (QS.idxN rfl rfl (by assumption) Try.underlying134 Try.sizeOf3 (by rfl) (by omega)) rfl ?_
    refine Tr.q (QS.el1 rfl (by assumption) Try.isAgg3 (by omega) (by rfl)) rfl ?_
    refine Tr.q (QS.assign rfl) rfl ?_
    refine Tr.nil ?_
    refine Tr.thenN ?_
    refine Tr.seq ?_
    refine Tr.region ?_
    refine Tr.q (QS.move rfl) rfl ?_
    refine Tr.q (QS.move rfl) rfl ?_
    refine Tr.q (QS.neq rfl rfl) rfl ?_
    refine Tr.nil ?_
    refine Tr.thenN ?_
    refine Tr.cond rfl (fun h2 => ?_) (fun h2 => ?_)
    · try simp only [bs] at h2
      refine Tr.seq ?_
      refine Tr.region ?_
      refine Tr.q (QS.move rfl) rfl ?_
      refine Tr.q (QS.assign rfl) rfl ?_
      refine Tr.nil ?_
      refine Tr.thenN ?_
      refine Tr.ret ?_
      refine Tr.inR ?_
      refine Tr.thenR ?_
      refine Tr.thenR ?_
      refine Tr.inR ?_
      refine Tr.thenR ?_
      refine Tr.ret1 Try.results78 rfl (fun w' hw => ?_)
      exact ⟨by rw [← hk2, drop_cons (k := k) (by omega), orP, if_pos (by assumption)], hw.below (Bg.le.refl _)⟩
    · try simp only [bs] at h2
      refine Tr.skip ?_
      refine Tr.inN ?_
      refine Tr.thenN ?_
      refine Tr.region ?_
      refine Tr.q (QS.addI rfl rfl (by omega)) rfl ?_
      refine Tr.q (QS.move rfl) rfl ?_
      refine Tr.nil ?_
      refine Tr.thenN ?_
      apply Tr.again (k + 1)
      · exact rfl
      · exact (.cons (by first | rfl | exact lookI rfl (by omega) | exact lookI rfl (by simp) | exact lookB rfl (by simp)) Front.nil)
      · exact SubX.dropN 10 (by kernel_rfl) rfl
      · exact (by repeat' (first | exact Pick.nil _ | exact Del.here _ | apply Pick.cons | apply Del.there))
      · exact ⟨by omega, by rw [← hk2, drop_cons (k := k) (by omega), orP, if_neg (by simp_all)]⟩
      · exact (by (try dsimp only); omega)
  · try simp only [bs] at h1
    refine Tr.exit ?_
    refine Tr.thenE ?_
    refine Tr.thenE ?_
    refine Tr.inHit ?_
    refine Tr.thenN ?_
    refine Tr.seq ?_
    refine Tr.region ?_
    refine Tr.q (QS.move rfl) rfl ?_
    refine Tr.q (QS.assign rfl) rfl ?_
    refine Tr.nil ?_
    refine Tr.thenN ?_
    refine Tr.ret ?_
    refine Tr.ret1 Try.results78 rfl (fun w' hw => ?_)
    exact ⟨by rw [← hk2, List.drop_of_length_le (by omega)]; rfl, hw.below (Bg.le.refl _)⟩
set_option maxRecDepth 100000 in
set_option maxHeartbeats 2000000 in
theorem sorted1_any (x y : SecV) (w : World) :
    Calls Try.prog 77 #[.agg (encSec.enc x).toArray, .agg (encSec.enc y).toArray] w (fun e w' => e = .returned (.int .i64 (cmpS x y)) ∧ Ext w w') := by
  refine enter Try.func77 rfl Try.ntmps77 rfl ?_
  refine Tr.seq ?_
  refine Tr.region ?_
  refine Tr.box rfl rfl rfl (fun b1 => ?_)
  refine Tr.box rfl rfl rfl (fun b2 => ?_)
  refine Tr.q (QS.assign rfl) rfl ?_
  refine Tr.nil ?_
  refine Tr.thenN ?_
  refine Tr.seq ?_
  refine Tr.regionT 0 10 HLF.mixed (by kernel_rfl) (panicThen panicBody) ?_
  refine TrQ.pureNil ?_
  refine TrQ.q (QS.fieldAddr (off := 1) (ft := 23) rfl Try.underlying59 rfl rfl Try.sizeOf23 (by decide)) rfl ?_
  refine TrQ.q (QS.lV rfl Try.isAgg23) rfl ?_
  refine TrQ.q (QS.fieldAddr (off := 1) (ft := 23) rfl Try.underlying59 rfl rfl Try.sizeOf23 (by decide)) rfl ?_
  refine TrQ.q (QS.lV rfl Try.isAgg23) rfl ?_
  refine TrQ.q (QS.call rfl Try.call79 (fun w hw => cmpU_any x.addr y.addr w)) rfl ?_
  refine TrQ.q (QS.fieldAddr (off := 0) (ft := 9) rfl Try.underlying59 rfl rfl Try.sizeOf9 (by decide)) rfl ?_
  refine TrQ.q (QS.lV rfl Try.isAgg9) rfl ?_
  refine TrQ.q (QS.fieldAddr (off := 0) (ft := 9) rfl Try.underlying59 rfl rfl Try.sizeOf9 (by decide)) rfl ?_
  refine TrQ.q (QS.lV rfl Try.isAgg9) rfl ?_
  refine TrQ.q (QS.call rfl Try.call80 (fun w hw => cmpB_any x.name y.name w)) rfl ?_
  refine TrQ.nil ?_
  refine Tr.litN (E := encInt) [cmpU x.addr y.addr, cmpB x.name y.name] (vs := [(0, _), (1, _)]) rfl rfl Try.underlying134 Try.sizeOf3 Try.zeroValue3 (by rfl) (by rfl) rfl (by first | kernel_rfl | rfl) rfl (fun V3 => ?_)
  refine Tr.q (QS.call rfl Try.call78 (fun w hw => or_any [cmpU x.addr y.addr, cmpB x.name y.name] _ w (hw.row (.head _)))) rfl ?_
  refine Tr.q (QS.assign rfl) rfl ?_
  refine Tr.nil ?_
  refine Tr.thenN ?_
  refine Tr.ret ?_
  refine Tr.ret1 Try.results77 rfl (fun w' hw => ?_)
  exact ⟨by rw [orP2, cmpS], hw.below (Bg.le.refl _)⟩
set_option maxRecDepth 100000 in
set_option maxHeartbeats 2000000 in
theorem sorted_sec (l : List SecV) (V : Value) (w : World) (hV : Sl (hp w) encSec l V) (hB : SecB l) (hD : DataIn (hp w) l) :
    Calls Try.prog 51 #[V] w (fun e w' => ∃ i : Value × List Sec, e = .returned i.1 ∧ Ext w w' ∧ SrtAt (l.map SecV.pl) (newHp w w') i) := by
  have hV' : Sl (Bg.of w).blk encSec l V := hV
  have hlen := hB.1
  refine enter Try.func51 rfl Try.ntmps51 rfl ?_
  refine Tr.seq ?_
  refine Tr.region ?_
  refine Tr.q (QS.assign rfl) rfl ?_
  refine Tr.nil ?_
  refine Tr.thenN ?_
  refine Tr.seq ?_
  refine Tr.region ?_
  refine Tr.q (QS.move rfl) rfl ?_
  refine Tr.callEnts (fun i : Value × List SecV => i.1) (fun i => secEnts 59 5 i.1 i.2) (ok := fun i => i.2.map SecV.pl = l.map SecV.pl) rfl Try.call75 (fun w hw => own_sec l V w (hw.slF hV) hB (hD.mono hw.bg)) rfl (fun i hi => ?_)
  refine Tr.q (QS.assign rfl) rfl ?_
  refine Tr.nil ?_
  refine Tr.thenN ?_
  refine Tr.seq ?_
  obtain ⟨Vo, xs⟩ := i
  dsimp only
  replace hi : xs.map SecV.pl = l.map SecV.pl := hi
  have hxl := map_pl_len hi
  change Tr _ _ (rowE Vo _ encSec xs :: (xs.reverse.map (dRow _) ++ [])) _ _
  refine Tr.region ?_
  refine Tr.q (QS.move rfl) rfl ?_
  refine Tr.callMutR (fun c => Stab ltP xs c ∧ Fram 0 xs.length xs c ∧ Srt ltP c 0 xs.length) rfl Try.call76 (fun w hw => by have q := sortStable_sec xs Vo 77 cmpS Try.call77 (fun x y w' => sorted1_any x y w') (by rw [ltC_eq]; exact wo_ltP) w (hw.ent _ (.head _)) (by omega); unfold srtP at q; rw [ltC_eq] at q; exact q) rfl (fun c2 hc2 => ?_)
  refine Tr.nil ?_
  refine Tr.thenN ?_
  refine Tr.seq ?_
  refine Tr.region ?_
  refine Tr.q (QS.move rfl) rfl ?_
  refine Tr.q (QS.assign rfl) rfl ?_
  refine Tr.nil ?_
  refine Tr.thenN ?_
  refine Tr.ret ?_
  refine Tr.ret1 Try.results51 rfl (fun w' hw => ?_)
  have hcl := hc2.1.len
  rw [List.append_nil] at hw
  exact ⟨(Vo, c2.map SecV.pl), rfl, hw.below (Bg.le.refl _), (hw.ents (w := w) (Bg.le.refl _) (Pick.refl _)).secsOf (fun s hs => List.mem_reverse.2 (hc2.1.1.symm.subset hs)), by rw [← hi]; exact hc2.1.pl, sorted_pl (Srt.all (by rw [hcl]; exact hc2.2.2))⟩
end Go.Proofs.Ytfnedefgepjbpaa
namespace Go.HL
open Go
theorem larg11_20 {l : List SecV} (h : larg11 l = false) : l.length ≤ 20 := by
  simp only [larg11, Bool.or_eq_false_iff, decide_eq_false_iff_not] at h
  omega
def toP (s : Sec) : UInt32 := s.addr + u32 s.data.length
def allStep (l : List SecV) (p : List Ins × List Rng) (s : Sec) : List Ins × List Rng :=
  if s.ex = true then (p.1 ++ foundP l (toP s) (posP l s.addr (toP s)), p.2 ++ normalP (badP l (toP s) (posP l s.addr (toP s)))) else p
def allF (l : List SecV) (ys : List Sec) : List Ins × List Rng := ys.foldl (allStep l) ([], [])
def allV (l xs : List SecV) : List Ins × List Rng := allF l (xs.map SecV.pl)
theorem allV_snoc (l xs : List SecV) (s : SecV) : allV l (xs ++ [s]) = allStep l (allV l xs) s.pl := by
  unfold allV allF
  rw [List.map_append, List.foldl_append]; rfl
theorem allV_no {l xs : List SecV} {k : Nat} (h : k < xs.length) (hx : (xs.getD k default).ex = false) : allV l (xs.take (k + 1)) = allV l (xs.take k) := by
  rw [take_succ h, allV_snoc, allStep, if_neg (by show ¬ (xs.getD k default).ex = true; rw [hx]; simp)]
theorem allV_yes1 {l xs : List SecV} {k : Nat} (h : k < xs.length) (hx : (xs.getD k default).ex = true) : (allV l (xs.take (k + 1))).1 = (allV l (xs.take k)).1 ++ foundP l ((xs.getD k default).addr + u32 (xs.getD k default).data.length) (posP l (xs.getD k default).addr ((xs.getD k default).addr + u32 (xs.getD k default).data.length)) := by
  rw [take_succ h, allV_snoc, allStep, if_pos (by exact hx)]; rfl
theorem allV_yes2 {l xs : List SecV} {k : Nat} (h : k < xs.length) (hx : (xs.getD k default).ex = true) : (allV l (xs.take (k + 1))).2 = (allV l (xs.take k)).2 ++ normalP (badP l ((xs.getD k default).addr + u32 (xs.getD k default).data.length) (posP l (xs.getD k default).addr ((xs.getD k default).addr + u32 (xs.getD k default).data.length))) := by
  rw [take_succ h, allV_snoc, allStep, if_pos (by exact hx)]; rfl
theorem allV_len {l : List SecV} (ht : totB l ≤ 20000) (xs : List SecV) : ∀ k, k ≤ xs.length → (allV l (xs.take k)).1.length ≤ k * 20000 ∧ (allV l (xs.take k)).2.length ≤ k * 20000
  | 0, _ => by simp [allV, allF]
  | k + 1, h => by
    obtain ⟨h1, h2⟩ := allV_len ht xs k (by omega)
    cases hx : (xs.getD k default).ex with
    | false => rw [allV_no (by omega) hx]; omega
    | true =>
      rw [allV_yes1 (by omega) hx, allV_yes2 (by omega) hx, List.length_append, List.length_append]
      have q1 := found_len l ((xs.getD k default).addr + u32 (xs.getD k default).data.length) (posP l (xs.getD k default).addr ((xs.getD k default).addr + u32 (xs.getD k default).data.length))
      have q2 := bad_len l ((xs.getD k default).addr + u32 (xs.getD k default).data.length) (posP l (xs.getD k default).addr ((xs.getD k default).addr + u32 (xs.getD k default).data.length))
      have q3 := normalP_len (badP l ((xs.getD k default).addr + u32 (xs.getD k default).data.length) (posP l (xs.getD k default).addr ((xs.getD k default).addr + u32 (xs.getD k default).data.length)))
      have q4 := posP_len l (xs.getD k default).addr ((xs.getD k default).addr + u32 (xs.getD k default).data.length)
      omega
/-- What All hands back. -/
def AllIs (l : List SecV) (fs : List Ins) (rs : List Rng) (e : Int) : Prop :=
  (checkS l ≠ 0 ∧ fs = [] ∧ rs = [] ∧ e = checkS l) ∨
  (checkS l = 0 ∧ ∃ ys, SortedOf (l.map SecV.pl) ys ∧ ((4096 < (allF l ys).1.length ∧ fs = [] ∧ rs = [] ∧ e = 6) ∨ ((allF l ys).1.length ≤ 4096 ∧ fs = (allF l ys).1 ∧ rs = normalP (allF l ys).2 ∧ e = 0)))
end Go.HL
namespace Go.Proofs.Ytfnedefgepjbpaa
open Go Go.HL Go.RowKit
set_option maxRecDepth 100000 in
set_option maxHeartbeats 4000000 in
theorem all11_any (l : List SecV) (V : Value) (w : World) (hV : Sl (hp w) encSec l V) (hD : DataIn (hp w) l) (hB : SecB l) (h20 : l.length ≤ 20) (ht : totB l ≤ 20000) (hN : ∀ s ∈ l, s.name.size ≤ 140737488351232) :
    Calls Try.prog 23 #[V] w (fun e w' => ∃ i : (((Value × List Ins) × (Value × List Rng)) × Int), e = .returned (.tuple #[i.1.1.1, i.1.2.1, .int .i64 i.2]) ∧ Below w.heap.size w w' ∧ NewEnts w w' [rowE i.1.1.1 36 encIns i.1.1.2, rowE i.1.2.1 61 encRng i.1.2.2] ∧ AllIs l i.1.1.2 i.1.2.2 i.2) := by
  have hV' : Sl (Bg.of0 w).blk encSec l V := hV
  have hD' : DataIn (Bg.of0 w).blk l := hD
  refine enter0 Try.func23 rfl Try.ntmps23 rfl ?_
  refine Tr.seq ?_
  refine Tr.region ?_
  refine Tr.q (QS.assign rfl) rfl ?_
  refine Tr.q (QS.assign rfl) rfl ?_
  refine Tr.q (QS.assign rfl) rfl ?_
  refine Tr.nil ?_
  refine Tr.thenN ?_
  refine Tr.seq ?_
  refine Tr.seq ?_
  refine Tr.region ?_
  refine Tr.q (QS.move rfl) rfl ?_
  refine Tr.q (QS.call rfl Try.call18 (fun w hw => check_sec l V w (hw.slF hV') hB (fun s hs => by have := hN s hs; omega))) rfl ?_
  refine Tr.q (QS.assign rfl) rfl ?_
  refine Tr.nil ?_
  refine Tr.thenN ?_
  refine Tr.seq ?_
  refine Tr.region ?_
  refine Tr.q (QS.move rfl) rfl ?_
  refine Tr.q (QS.neq rfl rfl) rfl ?_
  refine Tr.nil ?_
  refine Tr.thenN ?_
  refine Tr.cond rfl (fun h1 => ?_) (fun h1 => ?_)
  · try simp only [bs] at h1
    refine Tr.seq ?_
    refine Tr.ownNil 61 encRng ?_
    refine Tr.ownNil 36 encIns ?_
    refine Tr.region ?_
    refine Tr.q (QS.move rfl) rfl ?_
    refine Tr.q (QS.assign rfl) rfl ?_
    refine Tr.q (QS.assign rfl) rfl ?_
    refine Tr.q (QS.assign rfl) rfl ?_
    refine Tr.nil ?_
    refine Tr.thenN ?_
    refine Tr.ret ?_
    refine Tr.thenR ?_
    refine Tr.ret3 Try.results23 rfl rfl rfl (fun w' hw => ?_)
    exact ⟨(((.slice none 0 0, []), (.slice none 0 0, [])), _), rfl, hw.below0 (Bg.le.refl _), hw.ents0 rfl (by repeat' (first | exact Pick.nil _ | exact Del.here _ | apply Pick.cons | apply Del.there)), .inl ⟨by simp_all, rfl, rfl, rfl⟩⟩
  · try simp only [bs] at h1
    refine Tr.skip ?_
    refine Tr.thenN ?_
    refine Tr.seq ?_
    refine Tr.region ?_
    refine Tr.q (QS.assign rfl) rfl ?_
    refine Tr.nil ?_
    refine Tr.thenN ?_
    refine Tr.seq ?_
    refine Tr.region ?_
    refine Tr.q (QS.assign rfl) rfl ?_
    refine Tr.nil ?_
    refine Tr.thenN ?_
    refine Tr.seq ?_
    refine Tr.seq ?_
    refine Tr.region ?_
    refine Tr.q (QS.move rfl) rfl ?_
    refine Tr.callBg (fun i : Value × List Sec => i.1) (R := SrtAt (l.map SecV.pl)) (fun h h' i hh r => r.mono hh) rfl Try.call51 (fun w hw => sorted_sec l V w (hw.slF hV') hB (hD'.mono hw.bg)) rfl (fun i71 F71 hF71 hR71 => ?_)
    obtain ⟨V1, ys⟩ := i71
    obtain ⟨⟨l1, s11, s12, s13⟩, so1⟩ := hR71
    replace s13 : l1.map SecV.pl = ys := s13
    replace so1 : SortedOf (l.map SecV.pl) ys := so1
    subst s13
    replace s11 : Sl F71.blk encSec l1 V1 := s11
    have hV1 := hV'.mono hF71.blk
    have hD1 : DataIn F71.blk l := hD'.mono hF71.blk
    have hl1 : l1.length = l.length := by have := so1.1.len; rw [List.length_map, List.length_map] at this; omega
    have hdl := fun k => allV_len ht l1 k
    refine Tr.q (QS.len rfl (by assumption) Try.underlying22) rfl ?_
    refine Tr.q (QS.move rfl) rfl ?_
    refine Tr.nil ?_
    refine Tr.thenN ?_
    refine Tr.block ?_
    refine Tr.ownNil 61 encRng ?_
    refine Tr.ownNil 36 encIns ?_
    refine Tr.loop (ι := Nat × Value × Value) (fun ⟨k, Vf, Vb⟩ => k ≤ l1.length) (fun _ => _) (fun ⟨k, Vf, Vb⟩ => [rowE Vf 36 encIns (allV l (l1.take k)).1, rowE Vb 61 encRng (allV l (l1.take k)).2]) (fun ⟨k, Vf, Vb⟩ => [(20, .int .i64 (k : Nat)), (6, Vf), (7, Vb)]) (fun ⟨k, Vf, Vb⟩ => l1.length - k) (0, _, _) (Nat.zero_le _) (.cons (by first | rfl | exact lookI rfl (by omega) | exact lookI rfl (by simp) | exact lookB rfl (by simp)) (.cons (by first | rfl | exact lookI rfl (by omega) | exact lookI rfl (by simp) | exact lookB rfl (by simp)) (.cons (by first | rfl | exact lookI rfl (by omega) | exact lookI rfl (by simp) | exact lookB rfl (by simp)) Front.nil))) (by repeat' (first | exact Pick.nil _ | exact Del.here _ | apply Pick.cons | apply Del.there)) rfl (fun i hi m hm => ?_)
    obtain ⟨k, Vf, Vb⟩ := i
    replace hi : k ≤ l1.length := hi
    replace hm : m = l1.length - k := hm
    change Tr _ _ [rowE Vf 36 encIns (allV l (l1.take k)).1, rowE Vb 61 encRng (allV l (l1.take k)).2] ([(20, .int .i64 (k : Nat)), (6, Vf), (7, Vb)] ++ _) _
    obtain ⟨hdl1, hdl2⟩ := hdl k hi
    have q1 := found_len l ((l1.getD k default).addr + u32 (l1.getD k default).data.length) (posP l (l1.getD k default).addr ((l1.getD k default).addr + u32 (l1.getD k default).data.length))
    have q2 := bad_len l ((l1.getD k default).addr + u32 (l1.getD k default).data.length) (posP l (l1.getD k default).addr ((l1.getD k default).addr + u32 (l1.getD k default).data.length))
    have q3 := normalP_len (badP l ((l1.getD k default).addr + u32 (l1.getD k default).data.length) (posP l (l1.getD k default).addr ((l1.getD k default).addr + u32 (l1.getD k default).data.length)))
    have q4 := posP_len l (l1.getD k default).addr ((l1.getD k default).addr + u32 (l1.getD k default).data.length)
    refine Tr.seq ?_
    refine Tr.region ?_
    refine Tr.q (QS.lss rfl rfl) rfl ?_
    refine Tr.nil ?_
    refine Tr.thenN ?_
    refine Tr.seq ?_
    refine Tr.cond rfl (fun h2 => ?_) (fun h2 => ?_)
    · try simp only [bs] at h2
      refine Tr.skip ?_
      refine Tr.thenN ?_
      refine Tr.seq ?_
      refine Tr.block ?_
      refine Tr.seq ?_
      refine Tr.region ?_
      refine Tr.q (QS.idxN rfl rfl (by assumption) Try.underlying22 Try.sizeOf59 (by rfl) (by omega)) rfl ?_
      refine Tr.q (QS.elA rfl (by assumption) Try.isAgg59 Try.sizeOf59 (by rfl) (by omega)) rfl ?_
      refine Tr.alloc Try.zeroValue59 rfl rfl (fun b3 => ?_)
      refine Tr.storeW rfl rfl Try.sizeOf59 (by repeat (first | exact Put.here _ | apply Put.there)) (by rfl) (by rfl) (by first | exact List.all_eq_true.1 rfl | exact Enc.one _ _ | exact Enc.one encSec _) rfl ?_
      refine Tr.nil ?_
      refine Tr.thenN ?_
      refine Tr.seq ?_
      refine Tr.seq ?_
      refine Tr.region ?_
      refine Tr.q (QS.fieldAddr (off := 4) (ft := 4) rfl Try.underlying59 rfl rfl Try.sizeOf4 (by decide)) rfl ?_
      refine Tr.q (QS.lV rfl Try.isAgg4) rfl ?_
      refine Tr.q (QS.not rfl) rfl ?_
      refine Tr.nil ?_
      refine Tr.thenN ?_
      refine Tr.cond rfl (fun h4 => ?_) (fun h4 => ?_)
      · try simp only [bs] at h4
        refine Tr.exit ?_
        refine Tr.thenE ?_
        refine Tr.inHit ?_
        refine Tr.thenN ?_
        refine Tr.region ?_
        refine Tr.q (QS.addI rfl rfl (by omega)) rfl ?_
        refine Tr.q (QS.move rfl) rfl ?_
        refine Tr.nil ?_
        refine Tr.thenN ?_
        rw [← allV_no (by omega) (by assumption)]
        apply Tr.again (k + 1, _, _)
        · exact rfl
        · exact (.cons (by first | rfl | exact lookI rfl (by omega) | exact lookI rfl (by simp) | exact lookB rfl (by simp)) (.cons (by first | rfl | exact lookI rfl (by omega) | exact lookI rfl (by simp) | exact lookB rfl (by simp)) (.cons (by first | rfl | exact lookI rfl (by omega) | exact lookI rfl (by simp) | exact lookB rfl (by simp)) Front.nil)))
        · exact SubX.dropN 12 (by kernel_rfl) rfl
        · exact (by repeat' (first | exact Pick.nil _ | exact Del.here _ | apply Pick.cons | apply Del.there))
        · exact (by show k + 1 ≤ _; omega)
        · exact (by (try dsimp only); omega)
      · try simp only [bs] at h4
        refine Tr.skip ?_
        refine Tr.thenN ?_
        refine Tr.seq ?_
        refine Tr.region ?_
        refine Tr.q (QS.move rfl) rfl ?_
        refine Tr.q (QS.fieldAddr (off := 1) (ft := 23) rfl Try.underlying59 rfl rfl Try.sizeOf23 (by decide)) rfl ?_
        refine Tr.q (QS.lV rfl Try.isAgg23) rfl ?_
        refine Tr.q (QS.fieldAddr (off := 1) (ft := 23) rfl Try.underlying59 rfl rfl Try.sizeOf23 (by decide)) rfl ?_
        refine Tr.q (QS.lV rfl Try.isAgg23) rfl ?_
        refine Tr.q (QS.fieldAddr (off := 2) (ft := 54) rfl Try.underlying59 rfl rfl Try.sizeOf54 (by decide)) rfl ?_
        refine Tr.q (QS.lV rfl Try.isAgg54) rfl ?_
        refine Tr.q (QS.lenNil rfl Try.underlying54) rfl ?_
        refine Tr.q (QS.cvtTo32 rfl Try.underlying3 Try.underlying23) rfl ?_
        refine Tr.q (QS.add32 rfl rfl) rfl ?_
        refine Tr.callEnts0 (fun i : (Value × List Ins) × (Value × List Rng) => .tuple #[i.1.1, i.2.1]) (fun i => [rowE i.1.1 36 encIns i.1.2, rowE i.2.1 61 encRng i.2.2]) (ok := fun i => i.1.2 = foundP l ((l1.getD k default).addr + u32 (l1.getD k default).data.length) (posP l (l1.getD k default).addr ((l1.getD k default).addr + u32 (l1.getD k default).data.length)) ∧ i.2.2 = normalP (badP l ((l1.getD k default).addr + u32 (l1.getD k default).data.length) (posP l (l1.getD k default).addr ((l1.getD k default).addr + u32 (l1.getD k default).data.length)))) hF71.dr rfl Try.call11 (fun w hw => sweep_any l V (l1.getD k default).addr ((l1.getD k default).addr + u32 (l1.getD k default).data.length) w (hw.slF hV1) hB (hD1.mono hw.bg) (by omega)) rfl (fun i hi2 => ?_)
        refine Tr.q (QS.move rfl) rfl ?_
        refine Tr.q (QS.extract rfl rfl) rfl ?_
        refine Tr.q (QS.extract rfl rfl) rfl ?_
        refine Tr.q (QS.assign rfl) rfl ?_
        refine Tr.q (QS.assign rfl) rfl ?_
        refine Tr.nil ?_
        refine Tr.thenN ?_
        refine Tr.seq ?_
        obtain ⟨⟨Vc, gs⟩, ⟨Vd, qs⟩⟩ := i
        obtain ⟨g1, g2⟩ := hi2
        replace g1 : gs = foundP l ((l1.getD k default).addr + u32 (l1.getD k default).data.length) (posP l (l1.getD k default).addr ((l1.getD k default).addr + u32 (l1.getD k default).data.length)) := g1
        replace g2 : qs = normalP (badP l ((l1.getD k default).addr + u32 (l1.getD k default).data.length) (posP l (l1.getD k default).addr ((l1.getD k default).addr + u32 (l1.getD k default).data.length))) := g2
        subst g1 g2
        change Tr _ _ (rowE Vc 36 encIns (foundP l ((l1.getD k default).addr + u32 (l1.getD k default).data.length) (posP l (l1.getD k default).addr ((l1.getD k default).addr + u32 (l1.getD k default).data.length))) :: rowE Vd 61 encRng (normalP (badP l ((l1.getD k default).addr + u32 (l1.getD k default).data.length) (posP l (l1.getD k default).addr ((l1.getD k default).addr + u32 (l1.getD k default).data.length)))) :: _) _ _
        refine Tr.region ?_
        refine Tr.q (QS.move rfl) rfl ?_
        refine Tr.q (QS.move rfl) rfl ?_
        refine Tr.append1 rfl rfl (by repeat (first | exact Del.here _ | apply Del.there)) (by repeat (first | exact Del.here _ | apply Del.there)) Try.underlying26 HLF.info36 (by rfl) (by rfl) (by (try simp only [List.length_cons, List.length_nil, List.length_append, List.length_take]); omega) (by unfold maxLen; (try simp only [List.length_cons, List.length_nil, List.length_append, List.length_take]); omega) rfl (fun V5 => ?_)
        refine Tr.q (QS.assign rfl) rfl ?_
        refine Tr.nil ?_
        refine Tr.thenN ?_
        refine Tr.region ?_
        refine Tr.q (QS.move rfl) rfl ?_
        refine Tr.q (QS.move rfl) rfl ?_
        refine Tr.append1 rfl rfl (by repeat (first | exact Del.here _ | apply Del.there)) (by repeat (first | exact Del.here _ | apply Del.there)) Try.underlying27 HLF.info61 (by rfl) (by rfl) (by (try simp only [List.length_cons, List.length_nil, List.length_append, List.length_take]); omega) (by unfold maxLen; (try simp only [List.length_cons, List.length_nil, List.length_append, List.length_take]); omega) rfl (fun V6 => ?_)
        refine Tr.q (QS.assign rfl) rfl ?_
        refine Tr.nil ?_
        refine Tr.inN ?_
        refine Tr.thenN ?_
        refine Tr.region ?_
        refine Tr.q (QS.addI rfl rfl (by omega)) rfl ?_
        refine Tr.q (QS.move rfl) rfl ?_
        refine Tr.nil ?_
        refine Tr.thenN ?_
        rw [← allV_yes1 (by omega) (by simp_all), ← allV_yes2 (by omega) (by simp_all)]
        apply Tr.again (k + 1, _, _)
        · exact rfl
        · exact (.cons (by first | rfl | exact lookI rfl (by omega) | exact lookI rfl (by simp) | exact lookB rfl (by simp)) (.cons (by first | rfl | exact lookI rfl (by omega) | exact lookI rfl (by simp) | exact lookB rfl (by simp)) (.cons (by first | rfl | exact lookI rfl (by omega) | exact lookI rfl (by simp) | exact lookB rfl (by simp)) Front.nil)))
        · exact SubX.dropN 36 (by kernel_rfl) rfl
        · exact (by repeat' (first | exact Pick.nil _ | exact Del.here _ | apply Pick.cons | apply Del.there))
        · exact (by show k + 1 ≤ _; omega)
        · exact (by (try dsimp only); omega)
    · try simp only [bs] at h2
      refine Tr.exit ?_
      refine Tr.thenE ?_
      refine Tr.thenE ?_
      refine Tr.inHit ?_
      refine Tr.thenN ?_
      refine Tr.seq ?_
      refine Tr.seq ?_
      rw [List.take_of_length_le (show l1.length ≤ k by omega)]
      refine Tr.region ?_
      refine Tr.q (QS.move rfl) rfl ?_
      refine Tr.q (QS.lenRow rfl (by repeat (first | exact List.Mem.head _ | apply List.Mem.tail)) Try.underlying26) rfl ?_
      refine Tr.q (QS.gtr rfl rfl) rfl ?_
      refine Tr.nil ?_
      refine Tr.thenN ?_
      refine Tr.cond rfl (fun h7 => ?_) (fun h7 => ?_)
      · try simp only [bs] at h7
        refine Tr.seq ?_
        refine Tr.ownNil 61 encRng ?_
        refine Tr.ownNil 36 encIns ?_
        refine Tr.region ?_
        refine Tr.q (QS.assign rfl) rfl ?_
        refine Tr.q (QS.assign rfl) rfl ?_
        refine Tr.q (QS.assign rfl) rfl ?_
        refine Tr.nil ?_
        refine Tr.thenN ?_
        refine Tr.ret ?_
        refine Tr.thenR ?_
        refine Tr.ret3 Try.results23 rfl rfl rfl (fun w' hw => ?_)
        exact ⟨(((.slice none 0 0, []), (.slice none 0 0, [])), 6), rfl, hw.below0 hF71, hw.ents0 hF71.lo (by repeat' (first | exact Pick.nil _ | exact Del.here _ | apply Pick.cons | apply Del.there)), .inr ⟨by simp_all, _, so1, .inl ⟨by show 4096 < (allV l l1).1.length; omega, rfl, rfl, rfl⟩⟩⟩
      · try simp only [bs] at h7
        refine Tr.skip ?_
        refine Tr.thenN ?_
        refine Tr.seq ?_
        refine Tr.region ?_
        refine Tr.q (QS.move rfl) rfl ?_
        refine Tr.q (QS.move rfl) rfl ?_
        refine Tr.callRow rfl Try.call32 (fun w hw => normal_any (allV l l1).2 _ w (hw.row (by repeat (first | exact List.Mem.head _ | apply List.Mem.tail))) (by have := hdl l1.length (Nat.le_refl _); rw [List.take_length] at this; omega)) rfl (fun V8 => ?_)
        refine Tr.q (QS.assign rfl) rfl ?_
        refine Tr.q (QS.assign rfl) rfl ?_
        refine Tr.q (QS.assign rfl) rfl ?_
        refine Tr.nil ?_
        refine Tr.thenN ?_
        refine Tr.ret ?_
        refine Tr.ret3 Try.results23 rfl rfl rfl (fun w' hw => ?_)
        exact ⟨(((_, _), (_, _)), 0), rfl, hw.below0 hF71, hw.ents0 hF71.lo (by repeat' (first | exact Pick.nil _ | exact Del.here _ | apply Pick.cons | apply Del.there)), .inr ⟨by simp_all, _, so1, .inr ⟨by show (allV l l1).1.length ≤ 4096; omega, rfl, rfl, rfl⟩⟩⟩
end Go.Proofs.Ytfnedefgepjbpaa
namespace Go.HL
open Go
theorem kept_iff (i : Ins) (s : Int) : keptP i s = i ↔ ((s = 4 ∨ s = 5 ∨ s = 6 ∨ s = 7 ∨ s = 8) ∨ i.imm = 0) ∧ ((5 ≤ i.op ∧ i.op ≤ 15 ∨ i.op = 20) ∨ i.form = 0) ∧ ((i.op = 16 ∨ i.op = 17 ∨ i.op = 18) ∨ i.width = 0) ∧
    ((i.op = 20 ∨ i.op = 25) ∨ i.cc = 0) ∧ ((s = 1 ∨ s = 2 ∨ s = 3 ∨ s = 4 ∨ s = 5 ∨ s = 6) ∨ i.a = 0) ∧ ((s = 3 ∨ s = 5) ∨ i.b = 0) := by
  obtain ⟨addr, imm, op, form, width, cc, a, b, size⟩ := i
  have key : ∀ (p : Prop) [Decidable p] (x : Int), ((if p then x else 0) = x) ↔ (p ∨ x = 0) := fun p _ x => by
    by_cases h : p
    · simp [h]
    · simp [h]; exact eq_comm
  have key2 : ∀ (p : Prop) [Decidable p] (x : UInt32), ((if p then x else 0) = x) ↔ (p ∨ x = 0) := fun p _ x => by
    by_cases h : p
    · simp [h]
    · simp [h]; exact eq_comm
  simp only [keptP, Ins.mk.injEq, key, key2, true_and, and_true]
theorem err_of {i : Ins} {c : UInt8} {s : Int} (h : opcodeP i = (c, s, true)) : errP i = if ¬ (regP i.a = true ∧ regP i.b = true ∧ keptP i s = i) then 2 else if (s = 4 ∨ s = 5) ∧ narrowP i.imm = false ∨ s = 7 ∧ narrowP (i.imm - i.addr - 2) = false then 7 else 0 := by
  unfold errP
  simp only [h]
  by_cases h1 : regP i.a = true <;> by_cases h2 : regP i.b = true <;> by_cases h3 : keptP i s = i <;> simp [h1, h2, h3]
end Go.HL
namespace Go.HL
open Go
theorem u8_of_byte (x : UInt8) : u8 (x.toNat : Nat) = x := by
  apply UInt8.toNat_inj.1
  have h := u8_toNat (x.toNat : Nat)
  have := x.toNat_lt
  omega
theorem sub_add32 (a b c : UInt32) : a - (b + c) = a - b - c := by
  apply UInt32.toNat_inj.1
  have ha := a.toNat_lt; have hb := b.toNat_lt; have hc := c.toNat_lt
  simp only [UInt32.toNat_sub, UInt32.toNat_add]
  omega
end Go.HL
namespace Go.HL
open Go
/-- The row of an opcode: what it says, checked at all 256 bytes. -/
def rowOK (c : UInt8) : Bool :=
  let k := (rowP c).1
  let s := (opcodeP k).2.1
  !(rowP c).2 || (decide (opcodeP k = (c, s, true)) && decide (k.addr = 0) && decide (k.imm = 0) && decide (k.b = 0) && decide (k.size = 0) && (decide (s = 1) || decide (k.a = 0)) && decide (0 ≤ k.a) && decide (k.a < 8) &&
    ((decide (5 ≤ k.op) && decide (k.op ≤ 15)) || decide (k.op = 20) || decide (k.form = 0)) && (decide (k.op = 16) || decide (k.op = 17) || decide (k.op = 18) || decide (k.width = 0)) && (decide (k.op = 20) || decide (k.op = 25) || decide (k.cc = 0)) &&
    (!(decide (k.op = 3) || decide (k.op = 4)) || decide (s = 1)) && (decide (k.op = 20) || decide (k.op = 23)) == (decide (s = 7) || decide (s = 8)))
theorem row_all (c : UInt8) : rowOK c = true := by
  revert c
  exact all_u8 (by decide +kernel)
structure RowFacts (c : UInt8) (k : Ins) (s : Int) : Prop where
  op : opcodeP k = (c, s, true)
  addr : k.addr = 0
  imm : k.imm = 0
  b : k.b = 0
  size : k.size = 0
  a : s = 1 ∨ k.a = 0
  ar : 0 ≤ k.a ∧ k.a < 8
  form : (5 ≤ k.op ∧ k.op ≤ 15) ∨ k.op = 20 ∨ k.form = 0
  width : k.op = 16 ∨ k.op = 17 ∨ k.op = 18 ∨ k.width = 0
  cc : k.op = 20 ∨ k.op = 25 ∨ k.cc = 0
  one : k.op = 3 ∨ k.op = 4 → s = 1
  jump : (k.op = 20 ∨ k.op = 23) ↔ (s = 7 ∨ s = 8)
theorem row_facts {c : UInt8} (h : (rowP c).2 = true) : RowFacts c (rowP c).1 (opcodeP (rowP c).1).2.1 := by
  have h1 := row_all c
  simp only [rowOK, h, Bool.not_true, Bool.false_or, Bool.and_eq_true, Bool.or_eq_true, Bool.not_eq_true', Bool.or_eq_false_iff, decide_eq_true_eq, decide_eq_false_iff_not, beq_iff_eq] at h1
  obtain ⟨⟨⟨⟨⟨⟨⟨⟨⟨⟨⟨⟨h01, h02⟩, h03⟩, h04⟩, h05⟩, h06⟩, h07⟩, h08⟩, h09⟩, h10⟩, h11⟩, h12⟩, h13⟩ := h1
  refine ⟨h01, h02, h03, h04, h05, h06, ⟨h07, h08⟩, by omega, by omega, by omega, fun k => by omega, ?_⟩
  rw [Bool.eq_iff_iff] at h13
  simpa using h13
theorem opcodeP_congr {i k : Ins} (ho : i.op = k.op) (hf : i.form = k.form) (hw : i.width = k.width) (hc : i.cc = k.cc) (ha : (k.op = 3 ∨ k.op = 4) → i.a = k.a) : opcodeP i = opcodeP k := by
  unfold opcodeP accessP condP
  rw [ho, hf, hw, hc]
  by_cases h : k.op = 3 ∨ k.op = 4
  · rw [ha h]
  · rw [if_neg (c := k.op = 3) (by omega), if_neg (c := k.op = 4) (by omega), if_neg (c := k.op = 3) (by omega), if_neg (c := k.op = 4) (by omega)]
theorem sext_narrow (x : UInt8) : narrowP (sextP x) = true := by
  revert x; exact all_u8 (by decide +kernel)
theorem sext_byte (x : UInt8) : (sextP x).toUInt8 = x := by
  revert x; exact all_u8 (by decide +kernel)
theorem split16 (x : UInt8) : u8 (((x / 16).toNat : Nat) * 16 + ((x % 16).toNat : Nat)) = x := by
  revert x; exact all_u8 (by decide +kernel)
theorem put_bytes (n : UInt32) : putP [] n 4 = [(shr32 n 0).toUInt8, (shr32 n 8).toUInt8, (shr32 n 16).toUInt8, (shr32 n 24).toUInt8] := rfl
theorem put_long {b : List UInt8} {k : Nat} (h : k + 4 ≤ b.length) : putP [] (longP b k) 4 = [b.getD k default, b.getD (k + 1) default, b.getD (k + 2) default, b.getD (k + 3) default] := by
  rw [put_bytes]
  unfold longP
  generalize b.getD k default = x0
  generalize b.getD (k + 1) default = x1
  generalize b.getD (k + 2) default = x2
  generalize b.getD (k + 3) default = x3
  have h0 := x0.toNat_lt; have h1 := x1.toNat_lt; have h2 := x2.toNat_lt; have h3 := x3.toNat_lt
  have key : ∀ (n : UInt32) (j : Nat) (x : UInt8), n.toNat / 2 ^ j % 256 = x.toNat → (shr32 n j).toUInt8 = x := fun n j x e => by
    apply UInt8.toNat_inj.1
    rw [UInt32.toNat_toUInt8, shr32_toNat]
    exact e
  have e1 : (256 : UInt32).toNat = 256 := rfl
  have e2 : (65536 : UInt32).toNat = 65536 := rfl
  have e3 : (16777216 : UInt32).toNat = 16777216 := rfl
  have hn : (x0.toUInt32 + 256 * x1.toUInt32 + 65536 * x2.toUInt32 + 16777216 * x3.toUInt32).toNat = x0.toNat + 256 * x1.toNat + 65536 * x2.toNat + 16777216 * x3.toNat := by
    simp only [UInt32.toNat_add, UInt32.toNat_mul, UInt8.toNat_toUInt32, e1, e2, e3]
    omega
  congr 1
  · exact key _ _ _ (by rw [hn]; omega)
  congr 1
  · exact key _ _ _ (by rw [hn]; omega)
  congr 1
  · exact key _ _ _ (by rw [hn]; omega)
  congr 1
  exact key _ _ _ (by rw [hn]; omega)
theorem applyP_fields (s : Int) (k : Ins) (b : List UInt8) (nx : UInt32) : (applyP s k b nx).op = k.op ∧ (applyP s k b nx).form = k.form ∧ (applyP s k b nx).width = k.width ∧ (applyP s k b nx).cc = k.cc ∧ (applyP s k b nx).size = k.size ∧ (applyP s k b nx).addr = k.addr := by
  unfold applyP; repeat' split
  all_goals exact ⟨rfl, rfl, rfl, rfl, rfl, rfl⟩
theorem shape_cases {s : Int} (h : 0 ≤ s ∧ s ≤ 8) : s = 0 ∨ s = 1 ∨ s = 2 ∨ s = 3 ∨ s = 4 ∨ s = 5 ∨ s = 6 ∨ s = 7 ∨ s = 8 := by omega
theorem take_list {b : List UInt8} {n : Nat} (h : n ≤ b.length) : b.take n = (List.range n).map fun j => b.getD j default := by
  apply List.ext_getElem?
  intro j
  rw [List.getElem?_take]
  by_cases hj : j < n
  · rw [if_pos hj]
    have : j < b.length := by omega
    simp [hj, List.getD_eq_getElem?_getD, this]
  · rw [if_neg hj]; simp [hj]
/-- What Decode hands back is valid, and encoding it gives the bytes. -/
theorem dec_canon {b : List UInt8} {addr : UInt32} (h : (decP b addr).2 = 0) :
    ∃ s : Int, (decP b addr).1.size = sizeP s ∧ 1 ≤ sizeP s ∧ sizeP s ≤ b.length ∧ (decP b addr).1.addr = addr ∧ errP (decP b addr).1 = 0 ∧ lengthPI (decP b addr).1 = sizeP s ∧ encodeP (decP b addr).1 = b.take (sizeP s).toNat := by
  by_cases h0 : b.length = 0
  · rw [decP_1 h0] at h; cases h
  by_cases hr : (rowP (b.getD 0 default)).2 = true
  case neg => rw [decP_2 h0 (by simpa using hr)] at h; cases h
  by_cases hl : (b.length : Int) < sizeP (opcodeP (rowP (b.getD 0 default)).1).2.1
  · rw [decP_3 h0 hr hl] at h; cases h
  have hf := row_facts hr
  have hsh := opcodeP_shape (rowP (b.getD 0 default)).1
  have e4 := decP_4 (addr := addr) h0 hr hl (k := _) rfl
  rw [← applyP_two] at e4
  generalize hk : (rowP (b.getD 0 default)).1 = k at *
  generalize hs : (opcodeP k).2.1 = s at *
  generalize hi : applyP s { k with addr := addr, size := sizeP s } b (addr + u32 (sizeP s)) = i at *
  have hff := applyP_fields s { k with addr := addr, size := sizeP s } b (addr + u32 (sizeP s))
  rw [hi] at hff
  obtain ⟨fo, fF, fw, fc, fs, fa⟩ := hff
  have hra : regP i.a = true ∧ regP i.b = true := by
    rw [e4] at h
    split at h
    · cases h
    · rename_i q; simpa [not_or] using q
  rw [if_neg (by simp [hra.1, hra.2])] at e4
  rw [e4]
  have hpos : 1 ≤ sizeP s := by unfold sizeP; repeat' split
                                all_goals omega
  have opc : opcodeP i = (b.getD 0 default, s, true) := by
    rw [← hf.op]
    refine opcodeP_congr fo fF fw fc fun q => ?_
    have := hf.one q
    subst this
    rw [← hi]; rfl
  have sp := sizeP_spec s
  have hn : ¬ (b.length : Int) < sizeP s := hl
  -- the operands, shape by shape
  have body : keptP i s = i ∧ ((s = 4 ∨ s = 5) → narrowP i.imm = true) ∧ (s = 7 → narrowP (i.imm - i.addr - 2) = true) ∧ (b.getD 0 default) :: argsP s i (i.addr + u32 (sizeP s)) = b.take (sizeP s).toNat := by
    have kpt : keptP i s = i ↔ ((s = 4 ∨ s = 5 ∨ s = 6 ∨ s = 7 ∨ s = 8) ∨ i.imm = 0) ∧ ((s = 1 ∨ s = 2 ∨ s = 3 ∨ s = 4 ∨ s = 5 ∨ s = 6) ∨ i.a = 0) ∧ ((s = 3 ∨ s = 5) ∨ i.b = 0) := by
      rw [kept_iff, fo, fF, fw, fc]
      have := hf.form; have := hf.width; have := hf.cc
      constructor
      · rintro ⟨q1, q2, q3, q4, q5, q6⟩; exact ⟨q1, q5, q6⟩
      · rintro ⟨q1, q5, q6⟩
        refine ⟨q1, ?_, ?_, ?_, q5, q6⟩
        · rcases hf.form with q | q | q
          · exact .inl (.inl q)
          · exact .inl (.inr q)
          · exact .inr q
        · rcases hf.width with q | q | q | q
          · exact .inl (.inl q)
          · exact .inl (.inr (.inl q))
          · exact .inl (.inr (.inr q))
          · exact .inr q
        · rcases hf.cc with q | q | q
          · exact .inl (.inl q)
          · exact .inl (.inr q)
          · exact .inr q
    rw [kpt, fa]
    have him := hf.imm; have hfb := hf.b; have hfa := hf.a
    rcases shape_cases hsh with rfl | rfl | rfl | rfl | rfl | rfl | rfl | rfl | rfl
    · have e : i = { k with addr := addr, size := sizeP 0 } := hi.symm
      subst e
      refine ⟨⟨.inr him, .inr (by rcases hfa with q | q; omega; exact q), .inr hfb⟩, fun q => by omega, fun q => by omega, ?_⟩
      rw [take_list (n := (sizeP 0).toNat) (by show 1 ≤ _; omega)]; rfl
    · have e : i = { k with addr := addr, size := sizeP 1 } := hi.symm
      subst e
      refine ⟨⟨.inr him, .inl (by omega), .inr hfb⟩, fun q => by omega, fun q => by omega, ?_⟩
      rw [take_list (n := (sizeP 1).toNat) (by show 1 ≤ _; omega)]; rfl
    · have e : i = { k with addr := addr, size := sizeP 2, a := (b.getD 1 default).toNat } := hi.symm
      subst e
      refine ⟨⟨.inr him, .inl (by omega), .inr hfb⟩, fun q => by omega, fun q => by omega, ?_⟩
      rw [take_list (n := (sizeP 2).toNat) (by show 2 ≤ _; omega)]
      show [_, u8 ((b.getD 1 default).toNat : Nat)] = [_, _]
      rw [u8_of_byte]
    · have e : i = { k with addr := addr, size := sizeP 3, a := (b.getD 1 default / 16).toNat, b := (b.getD 1 default % 16).toNat } := hi.symm
      subst e
      refine ⟨⟨.inr him, .inl (by omega), .inl (by omega)⟩, fun q => by omega, fun q => by omega, ?_⟩
      rw [take_list (n := (sizeP 3).toNat) (by show 2 ≤ _; omega)]
      show [_, u8 (((b.getD 1 default / 16).toNat : Nat) * 16 + ((b.getD 1 default % 16).toNat : Nat))] = [_, _]
      rw [split16]
    · have e : i = { k with addr := addr, size := sizeP 4, a := (b.getD 1 default).toNat, imm := sextP (b.getD 2 default) } := hi.symm
      subst e
      refine ⟨⟨.inl (by omega), .inl (by omega), .inr hfb⟩, fun q => sext_narrow _, fun q => by omega, ?_⟩
      rw [take_list (n := (sizeP 4).toNat) (by show 3 ≤ _; omega)]
      show [_, u8 ((b.getD 1 default).toNat : Nat), (sextP (b.getD 2 default)).toUInt8] = [_, _, _]
      rw [u8_of_byte, sext_byte]
    · have e : i = { k with addr := addr, size := sizeP 5, a := (b.getD 1 default / 16).toNat, b := (b.getD 1 default % 16).toNat, imm := sextP (b.getD 2 default) } := hi.symm
      subst e
      refine ⟨⟨.inl (by omega), .inl (by omega), .inl (by omega)⟩, fun q => sext_narrow _, fun q => by omega, ?_⟩
      rw [take_list (n := (sizeP 5).toNat) (by show 3 ≤ _; omega)]
      show [_, u8 (((b.getD 1 default / 16).toNat : Nat) * 16 + ((b.getD 1 default % 16).toNat : Nat)), (sextP (b.getD 2 default)).toUInt8] = [_, _, _]
      rw [split16, sext_byte]
    · have e : i = { k with addr := addr, size := sizeP 6, a := (b.getD 1 default).toNat, imm := longP b 2 } := hi.symm
      subst e
      refine ⟨⟨.inl (by omega), .inl (by omega), .inr hfb⟩, fun q => by omega, fun q => by omega, ?_⟩
      have h6 : sizeP 6 = 6 := rfl
      rw [take_list (n := (sizeP 6).toNat) (by show 6 ≤ _; omega)]
      show _ :: u8 ((b.getD 1 default).toNat : Nat) :: putP [] (longP b 2) 4 = _
      rw [u8_of_byte, put_long (by omega)]
      rfl
    · have e : i = { k with addr := addr, size := sizeP 7, imm := (addr + u32 (sizeP 7)) + sextP (b.getD 1 default) } := hi.symm
      subst e
      have e2 : (addr + u32 (sizeP 7)) + sextP (b.getD 1 default) - addr - 2 = sextP (b.getD 1 default) := by
        rw [← sub_add32]
        show (addr + 2) + sextP (b.getD 1 default) - (addr + 2) = _
        rw [UInt32.add_comm (addr + 2), UInt32.add_sub_cancel]
      have e3 : (addr + u32 (sizeP 7)) + sextP (b.getD 1 default) - (addr + u32 (sizeP 7)) = sextP (b.getD 1 default) := by
        rw [UInt32.add_comm (addr + _), UInt32.add_sub_cancel]
      refine ⟨⟨.inl (by omega), .inr (by rcases hfa with q | q; omega; exact q), .inr hfb⟩, fun q => by omega, fun q => by rw [e2]; exact sext_narrow _, ?_⟩
      rw [take_list (n := (sizeP 7).toNat) (by show 2 ≤ _; omega)]
      show [_, ((addr + u32 (sizeP 7)) + sextP (b.getD 1 default) - (addr + u32 (sizeP 7))).toUInt8] = [_, _]
      rw [e3, sext_byte]
    · have e : i = { k with addr := addr, size := sizeP 8, imm := (addr + u32 (sizeP 8)) + longP b 1 } := hi.symm
      subst e
      have e3 : (addr + u32 (sizeP 8)) + longP b 1 - (addr + u32 (sizeP 8)) = longP b 1 := by
        rw [UInt32.add_comm (addr + _), UInt32.add_sub_cancel]
      refine ⟨⟨.inl (by omega), .inr (by rcases hfa with q | q; omega; exact q), .inr hfb⟩, fun q => by omega, fun q => by omega, ?_⟩
      have h8 : sizeP 8 = 5 := rfl
      rw [take_list (n := (sizeP 8).toNat) (by show 5 ≤ _; omega)]
      show _ :: putP [] ((addr + u32 (sizeP 8)) + longP b 1 - (addr + u32 (sizeP 8))) 4 = _
      rw [e3, put_long (by omega)]
      rfl
  obtain ⟨b1, b2, b3, b4⟩ := body
  have er : errP i = 0 := by
    rw [err_of opc, if_neg (by simp [hra.1, hra.2, b1]), if_neg]
    rintro (⟨q1, q2⟩ | ⟨q1, q2⟩)
    · rw [b2 q1] at q2; cases q2
    · rw [b3 q1] at q2; cases q2
  refine ⟨s, fs, hpos, by omega, fa, er, ?_, ?_⟩
  · unfold lengthPI; rw [if_pos er, opc]
  · unfold encodeP; rw [if_pos er, opc]; exact b4
end Go.HL
namespace Go.HL
open Go Go.Sort
open Go.Proofs (ltOf)
theorem firstP_all {f : Nat → Int} : ∀ (n k : Nat), firstP f k n = 0 → ∀ i, k ≤ i → i < k + n → f i = 0
  | 0, k, _, i, h1, h2 => by omega
  | n + 1, k, h, i, h1, h2 => by
    unfold firstP at h
    split at h
    · rename_i q; exact absurd h q
    · rename_i q
      by_cases e : i = k
      · subst e; simpa using q
      · exact firstP_all n (k + 1) h i (by omega) (by omega)
theorem check_facts {l : List SecV} (h : checkS l = 0) : l.length ≤ 16 ∧ ∀ s ∈ l, s.data.length ≤ 65536 ∧ (s.addr.toNat : Int) + s.data.length ≤ 4294967295 := by
  unfold checkS at h
  split at h
  · cases h
  · rename_i h0
    split at h
    · rename_i h1; exact absurd h h1
    · rename_i h1
      refine ⟨by omega, fun s hs => ?_⟩
      obtain ⟨j, hj, rfl⟩ := List.mem_iff_getElem.1 hs
      have h2 := firstP_all l.length 0 (by simpa using h1) j (Nat.zero_le _) (by omega)
      have e : l.getD j default = l[j] := by simp [List.getD_eq_getElem?_getD, hj]
      unfold oneP at h2
      dsimp only at h2
      rw [e] at h2
      split at h2
      · cases h2
      · rename_i k1
        split at h2
        · cases h2
        · split at h2
          · cases h2
          · split at h2
            · cases h2
            · rename_i k2
              exact ⟨by omega, by have : ¬ (4294967295 : Int) < _ := fun q => k2 (.inl q); omega⟩
end Go.HL
namespace Go.HL
open Go
/-- Two sections with a common address. -/
def Ov (x s : Sec) : Prop := (0 < x.data.length ∧ 0 < s.data.length) ∧ s.addr.toNat < x.addr.toNat + x.data.length ∧ x.addr.toNat < s.addr.toNat + s.data.length
theorem check_over {l : List SecV} (h : checkS l = 0) : ∀ i, i < l.length → overP l i = false := by
  unfold checkS at h
  split at h
  · simp at h
  · split at h
    · rename_i h1; exact absurd h h1
    · intro i hi
      have := firstP_all _ _ h i (Nat.zero_le _) (by omega)
      by_cases c : overP l i = true
      · simp [c] at this
      · simpa using c
theorem check_apart {l : List SecV} (h : checkS l = 0) : (l.map SecV.pl).Pairwise fun x s => ¬ Ov x s := by
  have hf := (check_facts h).2
  rw [List.pairwise_map, List.pairwise_iff_getElem]
  intro i j hi hj hij ho
  have h1 := check_over h j hj
  have e : l.getD j default = l[j] := by rw [List.getD_eq_getElem?_getD, List.getElem?_eq_getElem hj]; rfl
  have h2 : (l.take j).any (fun x => meetP (spaceP x) (spaceP (l.getD j default))) = true := List.any_eq_true.2 ⟨l[i], by
    rw [List.mem_take_iff_getElem]; exact ⟨i, by omega, rfl⟩, by
    rw [e]
    refine (meet_iff _ _).2 ?_
    obtain ⟨⟨o1, o2⟩, o3, o4⟩ := ho
    have q1 := (hf l[i] (List.getElem_mem hi)).2
    have q2 := (hf l[j] (List.getElem_mem hj)).2
    have o1' : 0 < l[i].data.length := o1
    have o2' : 0 < l[j].data.length := o2
    have o3' : l[j].addr.toNat < l[i].addr.toNat + l[i].data.length := o3
    have o4' : l[i].addr.toNat < l[j].addr.toNat + l[j].data.length := o4
    unfold endP
    omega⟩
  unfold overP at h1
  rw [h2] at h1
  cases h1
def partI (l : List SecV) (s : Sec) : List Ins := if s.ex = true then foundP l (toP s) (posP l s.addr (toP s)) else []
theorem allF_parts (l : List SecV) : ∀ (ys : List Sec) (p : List Ins × List Rng), (ys.foldl (allStep l) p).1 = p.1 ++ ys.flatMap (partI l)
  | [], p => by simp
  | s :: t, p => by
    rw [List.foldl_cons, allF_parts l t, List.flatMap_cons, ← List.append_assoc]
    congr 1
    unfold allStep partI
    split
    · rfl
    · simp
theorem found_mem {l : List SecV} {from_ to_ : UInt32} {x : Ins} (h : x ∈ foundP l to_ (posP l from_ to_)) : ∃ p, x = (decW l to_ p).1 ∧ okW l to_ p = true ∧ from_.toNat ≤ p.toNat ∧ p.toNat < to_.toNat ∧ Has (normalP (l.map spaceP)) p.toNat ∧ x.addr = p := by
  obtain ⟨p, hp, rfl⟩ := List.mem_map.1 h
  obtain ⟨h1, h2⟩ := List.mem_filter.1 hp
  obtain ⟨q1, q2, q3⟩ := (posF_spec (l := l) (to_ := to_) (normal_ok (l.map spaceP)).1 4294967296 from_).2 p h1
  exact ⟨p, rfl, h2, q1, UInt32.lt_iff_toNat_lt.1 q3, q2, dec_addr h2⟩
theorem found_inc (l : List SecV) (from_ to_ : UInt32) : (foundP l to_ (posP l from_ to_)).Pairwise fun x y => x.addr.toNat < y.addr.toNat := by
  have h := List.pairwise_map.1 (posF_spec (l := l) (to_ := to_) (normal_ok (l.map spaceP)).1 4294967296 from_).1
  unfold foundP
  rw [List.pairwise_map]
  refine (List.Pairwise.filter (okW l to_) h).imp_of_mem fun {a b} ha hb hab => ?_
  rw [dec_addr (List.mem_filter.1 ha).2, dec_addr (List.mem_filter.1 hb).2]
  exact hab
theorem toP_val {s : Sec} (h : s.addr.toNat + s.data.length ≤ 4294967295) : (toP s).toNat = s.addr.toNat + s.data.length := by
  have e := u32_val (n := (s.data.length : Int)) (by omega)
  unfold toP
  rw [UInt32.toNat_add]
  omega
theorem parts_inc {l : List SecV} {ys : List Sec} (hf : ∀ s ∈ ys, s.addr.toNat + s.data.length ≤ 4294967295) (h1 : ys.Pairwise fun x s => ¬ Ov x s) (h2 : ys.Pairwise fun x y => ltS y x = false) :
    (ys.flatMap (partI l)).Pairwise fun x y => x.addr.toNat < y.addr.toNat := by
  rw [List.pairwise_flatMap]
  refine ⟨fun s _ => ?_, (h1.and h2).imp_of_mem fun {x y} hx hy ⟨q1, q2⟩ i hi j hj => ?_⟩
  · unfold partI; split
    · exact found_inc _ _ _
    · exact List.Pairwise.nil
  · have ex := toP_val (hf x hx)
    have ey := toP_val (hf y hy)
    unfold partI at hi hj
    split at hi
    · split at hj
      · obtain ⟨p, _, _, p1, p2, _, p3⟩ := found_mem hi
        obtain ⟨q, _, _, r1, r2, _, r3⟩ := found_mem hj
        rw [p3, r3]
        have hle : x.addr.toNat ≤ y.addr.toNat := by
          simp only [ltS, Bool.or_eq_false_iff, decide_eq_false_iff_not] at q2
          have := q2.1
          rw [UInt32.lt_iff_toNat_lt] at this
          omega
        have : ¬ Ov x y := q1
        unfold Ov at this
        omega
      · cases hj
    · cases hi
theorem idxP_first {α : Type} [Inhabited α] {p : α → Bool} : ∀ (l : List α) (i k : Nat), i < l.length → p (l.getD i default) = true → (∀ j, j < i → p (l.getD j default) = false) → idxP p k l = ((k + i : Nat) : Int)
  | x :: t, 0, k, _, h, _ => by
    have hx : p x = true := h
    simp [idxP, hx]
  | x :: t, i + 1, k, hl, h, hj => by
    have hx : p x = false := hj 0 (by omega)
    have ih := idxP_first t i (k + 1) (by simpa using hl) (by simpa [List.getD_eq_getElem?_getD] using h) (fun j q => by simpa [List.getD_eq_getElem?_getD] using hj (j + 1) (by omega))
    rw [idxP, if_neg (by simp [hx]), ih]; congr 1; omega
theorem at_inc {fs : List Ins} (h : fs.Pairwise fun x y => x.addr.toNat < y.addr.toNat) {i : Nat} (hi : i < fs.length) : atP fs (fs.getD i default).addr = (fs.getD i default, true) := by
  have e : idxP (fun x : Ins => decide (x.addr = (fs.getD i default).addr)) 0 fs = ((0 + i : Nat) : Int) := idxP_first fs i 0 hi (by simp) (fun j hj => by
    have := List.pairwise_iff_getElem.1 h j i (by omega) hi hj
    have e1 : fs.getD j default = fs[j] := by rw [List.getD_eq_getElem?_getD, List.getElem?_eq_getElem (by omega)]; rfl
    have e2 : fs.getD i default = fs[i] := by rw [List.getD_eq_getElem?_getD, List.getElem?_eq_getElem hi]; rfl
    rw [e1, e2]
    simp only [decide_eq_false_iff_not]
    intro q
    rw [q] at this
    omega)
  unfold atP
  rw [e, if_neg (by omega)]
  rw [show ((0 + i : Nat) : Int).toNat = i by omega]
/-- The bytes at an instruction that was decoded. -/
theorem dec_bytes {l : List SecV} {to_ p : UInt32} (hk : okW l to_ p = true) (hs : Has (normalP (l.map spaceP)) p.toNat) (hp : p.toNat < to_.toNat) :
    errP (decW l to_ p).1 = 0 ∧ readP l p (decW l to_ p).1.size = (encodeP (decW l to_ p).1, 0) ∧ ((encodeP (decW l to_ p).1).length : Int) = (decW l to_ p).1.size ∧ 1 ≤ (decW l to_ p).1.size ∧ (decW l to_ p).1.size ≤ 6 := by
  have hk' : (decP (winP l p to_) p).2 = 0 := of_decide_eq_true hk
  obtain ⟨s, c1, c2, c3, c4, c5, c6, c7⟩ := dec_canon hk'
  have hf := has_find hs
  have hin := inS_iff.1 (findP_in hf)
  have hlt := findP_lt (l := l) (a := p)
  have hw0 := win_len l p to_
  obtain ⟨sv, hse⟩ : ∃ sv, sv = l.getD (findP l p).toNat default := ⟨_, rfl⟩
  have hw : winP l p to_ = (sv.data.drop (p - sv.addr).toNat).take (winN sv p to_).toNat := by unfold winP; rw [if_neg (by omega), ← hse]
  rw [← hse] at hin
  have hsub : (p - sv.addr).toNat = p.toNat - sv.addr.toNat := UInt32.toNat_sub_of_le _ _ (UInt32.le_iff_toNat_le.2 hin.1)
  have hdl : (sv.data.drop (p - sv.addr).toNat).length = sv.data.length - (p - sv.addr).toNat := List.length_drop
  have hplt := p.toNat_lt
  have hwl : ((winP l p to_).length : Int) ≤ winN sv p to_ := by
    rw [hw, List.length_take]
    have : 0 ≤ winN sv p to_ := by unfold winN; omega
    omega
  have hwn : winN sv p to_ ≤ ((sv.data.drop (p - sv.addr).toNat).length : Int) ∧ winN sv p to_ ≤ 4294967295 - (p.toNat : Int) := by unfold winN; omega
  have hen : endP sv = min ((sv.addr.toNat : Int) + sv.data.length) 4294967295 := rfl
  have hz : (decW l to_ p).1.size = sizeP s := c1
  have hzl : sizeP s ≤ winN sv p to_ := by omega
  have hpl : placeP l p (sizeP s) = (findP l p, (p.toNat : Int) - sv.addr.toNat, 0) := by
    rw [placeP_3 (by omega) (by rw [← hse]; omega), ← hse]
  have hcut : ((sv.data.take ((p.toNat : Int) - sv.addr.toNat + sizeP s).toNat).drop ((p.toNat : Int) - sv.addr.toNat).toNat) = (winP l p to_).take (sizeP s).toNat := by
    rw [hw, List.take_take, List.drop_take]
    rw [show ((p.toNat : Int) - sv.addr.toNat).toNat = (p - sv.addr).toNat by omega, show ((p.toNat : Int) - sv.addr.toNat + sizeP s).toNat - (p - sv.addr).toNat = (sizeP s).toNat by omega, show min (sizeP s).toNat (winN sv p to_).toNat = (sizeP s).toNat by omega]
  have hee : encodeP (decW l to_ p).1 = (winP l p to_).take (sizeP s).toNat := c7
  refine ⟨c5, ?_, ?_, by omega, by omega⟩
  · rw [hz, readP, if_neg (by omega), if_neg (by omega), hpl, hee, ← hcut, hse]
    simp
  · rw [hee, List.length_take]; omega
theorem bytes_law {l : List SecV} {fs : List Ins} {rs : List Rng} {e : Int} (h : AllIs l fs rs e) (he : e = 0) {i : Nat} (hi : i < fs.length) :
    errP (fs.getD i default) = 0 ∧ readP l (fs.getD i default).addr (fs.getD i default).size = (encodeP (fs.getD i default), 0) ∧ ((encodeP (fs.getD i default)).length : Int) = (fs.getD i default).size ∧ atP fs (fs.getD i default).addr = (fs.getD i default, true) ∧ 1 ≤ (fs.getD i default).size ∧ (fs.getD i default).size ≤ 6 := by
  rcases h with ⟨h0, rfl, _, _⟩ | ⟨h0, ys, hy, h⟩
  · simp at hi
  · rcases h with ⟨_, rfl, _, _⟩ | ⟨_, h1, _, _⟩
    · simp at hi
    · have hf : ∀ s ∈ ys, s.addr.toNat + s.data.length ≤ 4294967295 := fun s hs => by
        obtain ⟨x, hx, rfl⟩ := List.mem_map.1 (hy.1.1.symm.subset hs)
        have h1 : (x.addr.toNat : Int) + x.data.length ≤ 4294967295 := ((check_facts h0).2 x hx).2
        show x.addr.toNat + x.data.length ≤ _
        omega
      have hap : ys.Pairwise fun x s => ¬ Ov x s := (hy.1.1.pairwise_iff (fun {x y} q => by unfold Ov at q ⊢; omega)).1 (check_apart h0)
      have hfs : fs = ys.flatMap (partI l) := by rw [h1, allF, allF_parts]; simp
      have hinc := parts_inc (l := l) hf hap hy.2
      rw [← hfs] at hinc
      have hm := mem_getD hi
      have hat := at_inc hinc hi
      have hm2 : fs.getD i default ∈ ys.flatMap (partI l) := hfs ▸ hm
      obtain ⟨s, hs, hm3⟩ := List.mem_flatMap.1 hm2
      generalize fs.getD i default = x at hm3 hat ⊢
      unfold partI at hm3
      split at hm3
      · obtain ⟨p, p0, p1, p2, p3, p4, p5⟩ := found_mem hm3
        obtain ⟨b1, b2, b3, b4, b5⟩ := dec_bytes p1 p4 p3
        rw [← p0] at b1 b2 b3 b4 b5
        rw [p5] at hat ⊢
        exact ⟨b1, b2, b3, hat, b4, b5⟩
      · cases hm3
theorem all_err {l : List SecV} {fs : List Ins} {rs : List Rng} {e : Int} (h : AllIs l fs rs e) (he : e ≠ 0) : fs = [] := by
  rcases h with ⟨_, rfl, _, _⟩ | ⟨_, ys, _, h⟩
  · rfl
  · rcases h with ⟨_, rfl, _, _⟩ | ⟨_, _, _, rfl⟩
    · rfl
    · exact absurd rfl he
theorem all_insOK {l : List SecV} {fs : List Ins} {rs : List Rng} {e : Int} (h : AllIs l fs rs e) : ∀ x ∈ fs, ∃ b a, x = (decP b a).1 := by
  intro x hx
  rcases h with ⟨_, rfl, _, _⟩ | ⟨_, ys, _, h⟩
  · cases hx
  · rcases h with ⟨_, rfl, _, _⟩ | ⟨_, rfl, _, _⟩
    · cases hx
    · rw [allF, allF_parts, List.nil_append] at hx
      obtain ⟨s, _, hm⟩ := List.mem_flatMap.1 hx
      unfold partI at hm
      split at hm
      · obtain ⟨p, p0, _⟩ := found_mem hm
        exact ⟨_, _, p0⟩
      · cases hm
end Go.HL
namespace Go.Proofs.Ytfnedefgepjbpaa
open Go Go.HL Go.RowKit
set_option maxRecDepth 100000 in
set_option maxHeartbeats 4000000 in
theorem bytes11_true (l : List SecV) (V : Value) (w : World) (hV : Sl (hp w) encSec l V) (hD : DataIn (hp w) l) (hz : ∀ s ∈ l, s.data.length ≤ 140737488351232) (hN : ∀ s ∈ l, s.name.size ≤ 140737488351232) :
    Calls Try.prog 8 #[V] w (fun e w' => e = .returned (.bool true) ∧ Below w.heap.size w w') := by
  have hV' : Sl (Bg.of0 w).blk encSec l V := hV
  have hD' : DataIn (Bg.of0 w).blk l := hD
  have hlar := @larg11_no l
  have hlar2 := @larg11_20 l
  refine enter0 Try.func8 rfl Try.ntmps8 rfl ?_
  refine Tr.seq ?_
  refine Tr.region ?_
  refine Tr.q (QS.assign rfl) rfl ?_
  refine Tr.nil ?_
  refine Tr.thenN ?_
  refine Tr.seq ?_
  refine Tr.seq ?_
  refine Tr.region ?_
  refine Tr.q (QS.move rfl) rfl ?_
  refine Tr.q (QS.call rfl Try.call9 (fun w hw => large11_any l V w (hw.slF hV') hz)) rfl ?_
  refine Tr.nil ?_
  refine Tr.thenN ?_
  refine Tr.cond rfl (fun h1 => ?_) (fun h1 => ?_)
  · try simp only [bs] at h1
    refine Tr.seq ?_
    refine Tr.region ?_
    refine Tr.q (QS.call0 rfl rfl Try.call10 (fun w hw => example11_any w)) rfl ?_
    refine Tr.q (QS.assign rfl) rfl ?_
    refine Tr.nil ?_
    refine Tr.thenN ?_
    refine Tr.ret ?_
    refine Tr.thenR ?_
    refine Tr.ret1 Try.results8 rfl (fun w' hw => ?_)
    exact ⟨rfl, hw.below0 (Bg.le.refl _)⟩
  · try simp only [bs] at h1
    refine Tr.skip ?_
    refine Tr.thenN ?_
    refine Tr.seq ?_
    obtain ⟨hB, ht20⟩ := hlar (by simp_all)
    have hl20 := hlar2 (by simp_all)
    refine Tr.region ?_
    refine Tr.q (QS.move rfl) rfl ?_
    refine Tr.callEnts0 (fun i : (((Value × List Ins) × (Value × List Rng)) × Int) => .tuple #[i.1.1.1, i.1.2.1, .int .i64 i.2]) (fun i => [rowE i.1.1.1 36 encIns i.1.1.2, rowE i.1.2.1 61 encRng i.1.2.2]) (ok := fun i => AllIs l i.1.1.2 i.1.2.2 i.2) rfl rfl Try.call23 (fun w hw => all11_any l V w (hw.slF hV') (hD'.mono hw.bg) hB hl20 ht20 hN) rfl (fun i hi => ?_)
    refine Tr.q (QS.move rfl) rfl ?_
    refine Tr.q (QS.extract rfl rfl) rfl ?_
    refine Tr.q (QS.extract rfl rfl) rfl ?_
    refine Tr.q (QS.extract rfl rfl) rfl ?_
    refine Tr.q (QS.assign rfl) rfl ?_
    refine Tr.q (QS.assign rfl) rfl ?_
    refine Tr.q (QS.assign rfl) rfl ?_
    refine Tr.nil ?_
    refine Tr.thenN ?_
    refine Tr.seq ?_
    refine Tr.seq ?_
    obtain ⟨⟨⟨Va, fs⟩, ⟨Vb, rs⟩⟩, e1⟩ := i
    have hA : AllIs l fs rs e1 := hi
    clear hi
    change Tr _ _ [rowE Va 36 encIns fs, rowE Vb 61 encRng rs] _ _
    have hIO : ∀ x ∈ fs, InsOK x := fun x hx => by obtain ⟨b, a, rfl⟩ := all_insOK hA x hx; exact dec_ok
    refine Tr.region ?_
    refine Tr.q (QS.move rfl) rfl ?_
    refine Tr.q (QS.neq rfl rfl) rfl ?_
    refine Tr.nil ?_
    refine Tr.thenN ?_
    refine Tr.cond rfl (fun h2 => ?_) (fun h2 => ?_)
    · try simp only [bs] at h2
      refine Tr.seq ?_
      have hnil := all_err hA (by assumption)
      refine Tr.region ?_
      refine Tr.q (QS.move rfl) rfl ?_
      refine Tr.q (QS.lenRow rfl (by repeat (first | exact List.Mem.head _ | apply List.Mem.tail)) Try.underlying26) rfl ?_
      refine Tr.q (QS.eql rfl rfl) rfl ?_
      refine Tr.q (QS.move rfl) rfl ?_
      apply Tr.andP
      · exact (rfl : _ = (2, 28, 30))
      · exact rfl
      · intro hT3; have hT3' := hT3
        try simp only [bs] at hT3'
        refine Tr.gq rfl rfl hT3 (QS.call0 rfl rfl Try.call10 (fun w hw => example11_any w)) rfl ?_
        refine Tr.q (QS.pickT rfl hT3 rfl) rfl ?_
        refine Tr.nil (Tr.thenN ?_)
        exact Tr.endX (Sub.cons rfl (Sub.dropN 2 (by kernel_rfl) rfl))
      · intro hF3
        refine Tr.gskip rfl rfl hF3 rfl ?_
        refine Tr.q (QS.pickF rfl hF3 rfl) rfl ?_
        refine Tr.nil (Tr.thenN ?_)
        exact Tr.endX (Sub.cons rfl (Sub.dropN 2 (by kernel_rfl) rfl))
      refine Tr.q (QS.assign rfl) rfl ?_
      refine Tr.nil ?_
      refine Tr.thenN ?_
      refine Tr.ret ?_
      refine Tr.thenR ?_
      refine Tr.ret1 Try.results8 rfl (fun w' hw => ?_)
      exact ⟨by rw [hnil]; rfl, hw.below0 (Bg.le.refl _)⟩
    · try simp only [bs] at h2
      refine Tr.skip ?_
      refine Tr.thenN ?_
      refine Tr.seq ?_
      refine Tr.seq ?_
      refine Tr.region ?_
      refine Tr.q (QS.assign rfl) rfl ?_
      refine Tr.nil ?_
      refine Tr.thenN ?_
      refine Tr.block ?_
      refine Tr.loop (ι := Nat) (fun i => i ≤ fs.length) (fun _ => _) (fun i => [rowE Va 36 encIns fs, rowE Vb 61 encRng rs]) (fun i => [(6, .int .i64 (i : Nat))]) (fun i => fs.length - i) 0 (Nat.zero_le _) (.cons (by first | rfl | exact lookI rfl (by omega) | exact lookI rfl (by simp) | exact lookB rfl (by simp)) Front.nil) (by repeat' (first | exact Pick.nil _ | exact Del.here _ | apply Pick.cons | apply Del.there)) rfl (fun i hi m hm => ?_)
      replace hi : i ≤ fs.length := hi
      replace hm : m = fs.length - i := hm
      change Tr _ _ [rowE Va 36 encIns fs, rowE Vb 61 encRng rs] ([(6, .int .i64 (i : Nat))] ++ _) _
      refine Tr.seq ?_
      refine Tr.seq ?_
      refine Tr.region ?_
      refine Tr.q (QS.move rfl) rfl ?_
      refine Tr.q (QS.move rfl) rfl ?_
      refine Tr.q (QS.lenRow rfl (by repeat (first | exact List.Mem.head _ | apply List.Mem.tail)) Try.underlying26) rfl ?_
      refine Tr.q (QS.lss rfl rfl) rfl ?_
      refine Tr.q (QS.move rfl) rfl ?_
      apply Tr.andP
      · exact (rfl : _ = (3, 35, 38))
      · exact rfl
      · intro hT4; have hT4' := hT4
        try simp only [bs] at hT4'
        refine Tr.gq rfl rfl hT4 (QS.move rfl) rfl ?_
        refine Tr.gq rfl rfl hT4 (QS.lss rfl rfl) rfl ?_
        refine Tr.q (QS.pickT rfl hT4 rfl) rfl ?_
        refine Tr.nil (Tr.thenN ?_)
        exact Tr.endX (Sub.cons rfl (Sub.dropN 3 (by kernel_rfl) rfl))
      · intro hF4
        refine Tr.gskip rfl rfl hF4 rfl ?_
        refine Tr.gskip rfl rfl hF4 rfl ?_
        refine Tr.q (QS.pickF rfl hF4 rfl) rfl ?_
        refine Tr.nil (Tr.thenN ?_)
        exact Tr.endX (Sub.cons rfl (Sub.dropN 3 (by kernel_rfl) rfl))
      refine Tr.nil ?_
      refine Tr.thenN ?_
      refine Tr.cond rfl (fun h5 => ?_) (fun h5 => ?_)
      · try simp only [bs] at h5
        refine Tr.skip ?_
        refine Tr.thenN ?_
        refine Tr.seq ?_
        refine Tr.block ?_
        refine Tr.seq ?_
        obtain ⟨b1, b2, b3, b4, b5, b6⟩ := bytes_law hA (by assumption) (i := i) (by omega)
        refine Tr.region ?_
        refine Tr.q (QS.move rfl) rfl ?_
        refine Tr.q (QS.move rfl) rfl ?_
        refine Tr.q (QS.idxRowN rfl rfl (by repeat (first | exact List.Mem.head _ | apply List.Mem.tail)) Try.underlying26 Try.sizeOf36 (by rfl) (by omega)) rfl ?_
        refine Tr.q (QS.elRA rfl (by repeat (first | exact List.Mem.head _ | apply List.Mem.tail)) Try.isAgg36 Try.sizeOf36 (by rfl) (by omega)) rfl ?_
        refine Tr.callRowF (fun V => .tuple #[V, .int .i64 (errP (fs.getD i default))]) rfl Try.call25 (fun w hw => encode_isa (fs.getD i default) w (hIO _ (mem_getD (by omega)))) rfl (fun VE => ?_)
        refine Tr.q (QS.move rfl) rfl ?_
        refine Tr.q (QS.extract rfl rfl) rfl ?_
        refine Tr.q (QS.extract rfl rfl) rfl ?_
        refine Tr.q (QS.assign rfl) rfl ?_
        refine Tr.q (QS.assign rfl) rfl ?_
        refine Tr.nil ?_
        refine Tr.thenN ?_
        refine Tr.seq ?_
        refine Tr.regionH ([rowE VE 5 encU8 (encodeP (fs.getD i default)), rowE Va 36 encIns fs, rowE Vb 61 encRng rs]) 17 rfl HLF.mixed ?_
        refine Tr.hT 0 rfl (by kernel_rfl) (panicThen (panicIn (panicThen (panicThen (panicIn (panicThen panicBody)))))) (QS.move rfl) ?_
        refine Tr.hT 1 rfl (by kernel_rfl) (panicThen (panicIn (panicThen (panicThen (panicIn (panicThen panicBody)))))) (QS.move rfl) ?_
        refine Tr.hT 2 rfl (by kernel_rfl) (panicThen (panicIn (panicThen (panicThen (panicIn (panicThen panicBody)))))) (QS.move rfl) ?_
        refine Tr.hT 3 rfl (by kernel_rfl) (panicThen (panicIn (panicThen (panicThen (panicIn (panicThen panicBody)))))) (QS.idxRowN rfl rfl (by repeat (first | exact List.Mem.head _ | apply List.Mem.tail)) Try.underlying26 Try.sizeOf36 (by rfl) (by omega)) ?_
        refine Tr.hT 4 rfl (by kernel_rfl) (panicThen (panicIn (panicThen (panicThen (panicIn (panicThen panicBody)))))) (QS.fieldAddr (off := 0) (ft := 23) rfl Try.underlying36 rfl rfl Try.sizeOf23 (by decide)) ?_
        refine Tr.hT 5 rfl (by kernel_rfl) (panicThen (panicIn (panicThen (panicThen (panicIn (panicThen panicBody)))))) (QS.elRF rfl (by repeat (first | exact List.Mem.head _ | apply List.Mem.tail)) Try.isAgg23 (by omega) (by rfl)) ?_
        refine Tr.hT 6 rfl (by kernel_rfl) (panicThen (panicIn (panicThen (panicThen (panicIn (panicThen panicBody)))))) (QS.move rfl) ?_
        refine Tr.hT 7 rfl (by kernel_rfl) (panicThen (panicIn (panicThen (panicThen (panicIn (panicThen panicBody)))))) (QS.move rfl) ?_
        refine Tr.hT 8 rfl (by kernel_rfl) (panicThen (panicIn (panicThen (panicThen (panicIn (panicThen panicBody)))))) (QS.idxRowN rfl rfl (by repeat (first | exact List.Mem.head _ | apply List.Mem.tail)) Try.underlying26 Try.sizeOf36 (by rfl) (by omega)) ?_
        refine Tr.hT 9 rfl (by kernel_rfl) (panicThen (panicIn (panicThen (panicThen (panicIn (panicThen panicBody)))))) (QS.fieldAddr (off := 8) (ft := 3) rfl Try.underlying36 rfl rfl Try.sizeOf3 (by decide)) ?_
        refine Tr.hT 10 rfl (by kernel_rfl) (panicThen (panicIn (panicThen (panicThen (panicIn (panicThen panicBody)))))) (QS.elRF rfl (by repeat (first | exact List.Mem.head _ | apply List.Mem.tail)) Try.isAgg3 (by omega) (by rfl)) ?_
        refine Tr.hAll [11] (by kernel_rfl) (by simp) (fun iq hq => ?_)
        obtain rfl := List.mem_singleton.1 hq
        refine Tr.hOp rfl ?_
        refine Tr.callRowF (fun V => .tuple #[V, .int .i64 (readP l (fs.getD i default).addr (fs.getD i default).size).2]) rfl Try.call26 (fun w hw => read_any l V (fs.getD i default).addr (fs.getD i default).size w (hw.slF hV') hB (hD'.mono hw.bg) (by omega)) rfl (fun VR => ?_)
        rw [b2]
        dsimp only
        refine Tr.hN ?_
        refine Tr.hT 12 rfl (by kernel_rfl) (panicThen (panicIn (panicThen (panicThen (panicIn (panicThen panicBody)))))) (QS.move rfl) ?_
        refine Tr.hT 13 rfl (by kernel_rfl) (panicThen (panicIn (panicThen (panicThen (panicIn (panicThen panicBody)))))) (QS.extract rfl rfl) ?_
        refine Tr.hT 14 rfl (by kernel_rfl) (panicThen (panicIn (panicThen (panicThen (panicIn (panicThen panicBody)))))) (QS.extract rfl rfl) ?_
        refine Tr.hT 15 rfl (by kernel_rfl) (panicThen (panicIn (panicThen (panicThen (panicIn (panicThen panicBody)))))) (QS.assign rfl) ?_
        refine Tr.hT 16 rfl (by kernel_rfl) (panicThen (panicIn (panicThen (panicThen (panicIn (panicThen panicBody)))))) (QS.assign rfl) ?_
        refine Tr.hDone (by kernel_rfl) ?_
        refine Tr.thenN ?_
        refine Tr.seq ?_
        refine Tr.seq ?_
        refine Tr.region ?_
        refine Tr.q (QS.move rfl) rfl ?_
        refine Tr.q (QS.neq rfl rfl) rfl ?_
        refine Tr.q (QS.move rfl) rfl ?_
        apply Tr.orP
        · exact (rfl : _ = (3, 66, 69))
        · exact rfl
        · intro hF6; have hF6' := hF6
          try simp only [bs] at hF6'
          refine Tr.gq rfl rfl hF6 (QS.move rfl) rfl ?_
          refine Tr.gq rfl rfl hF6 (QS.neq rfl rfl) rfl ?_
          refine Tr.q (QS.pickF rfl hF6 rfl) rfl ?_
          refine Tr.nil (Tr.thenN ?_)
          exact Tr.endX (Sub.cons rfl (Sub.dropN 3 (by kernel_rfl) rfl))
        · intro hT6
          refine Tr.gskip rfl rfl hT6 rfl ?_
          refine Tr.gskip rfl rfl hT6 rfl ?_
          refine Tr.q (QS.pickT rfl hT6 rfl) rfl ?_
          refine Tr.nil (Tr.thenN ?_)
          exact Tr.endX (Sub.cons rfl (Sub.dropN 3 (by kernel_rfl) rfl))
        refine Tr.q (QS.move rfl) rfl ?_
        apply Tr.orP
        · exact (rfl : _ = (6, 70, 76))
        · exact rfl
        · intro hF7; have hF7' := hF7
          try simp only [bs] at hF7'
          refine Tr.gq rfl rfl hF7 (QS.move rfl) rfl ?_
          refine Tr.gq rfl rfl hF7 (QS.lenRow rfl (by repeat (first | exact List.Mem.head _ | apply List.Mem.tail)) Try.underlying54) rfl ?_
          refine Tr.gq rfl rfl hF7 (QS.move rfl) rfl ?_
          refine Tr.gq rfl rfl hF7 (QS.lenRow rfl (by repeat (first | exact List.Mem.head _ | apply List.Mem.tail)) Try.underlying54) rfl ?_
          refine Tr.gq rfl rfl hF7 (QS.neq rfl rfl) rfl ?_
          refine Tr.q (QS.pickF rfl hF7 rfl) rfl ?_
          refine Tr.nil (Tr.thenN ?_)
          exact Tr.endX (Sub.cons rfl (Sub.dropN 6 (by kernel_rfl) rfl))
        · intro hT7
          refine Tr.gskip rfl rfl hT7 rfl ?_
          refine Tr.gskip rfl rfl hT7 rfl ?_
          refine Tr.gskip rfl rfl hT7 rfl ?_
          refine Tr.gskip rfl rfl hT7 rfl ?_
          refine Tr.gskip rfl rfl hT7 rfl ?_
          refine Tr.q (QS.pickT rfl hT7 rfl) rfl ?_
          refine Tr.nil (Tr.thenN ?_)
          exact Tr.endX (Sub.cons rfl (Sub.dropN 6 (by kernel_rfl) rfl))
        refine Tr.q (QS.move rfl) rfl ?_
        apply Tr.orP
        · exact (rfl : _ = (9, 77, 86))
        · exact rfl
        · intro hF8; have hF8' := hF8
          try simp only [bs] at hF8'
          refine Tr.gq rfl rfl hF8 (QS.move rfl) rfl ?_
          refine Tr.gq rfl rfl hF8 (QS.lenRow rfl (by repeat (first | exact List.Mem.head _ | apply List.Mem.tail)) Try.underlying54) rfl ?_
          refine Tr.gq rfl rfl hF8 (QS.move rfl) rfl ?_
          refine Tr.gq rfl rfl hF8 (QS.move rfl) rfl ?_
          refine Tr.gq rfl rfl hF8 (QS.idxRowN rfl rfl (by repeat (first | exact List.Mem.head _ | apply List.Mem.tail)) Try.underlying26 Try.sizeOf36 (by rfl) (by omega)) rfl ?_
          refine Tr.gq rfl rfl hF8 (QS.fieldAddr (off := 8) (ft := 3) rfl Try.underlying36 rfl rfl Try.sizeOf3 (by decide)) rfl ?_
          refine Tr.gq rfl rfl hF8 (QS.elRF rfl (by repeat (first | exact List.Mem.head _ | apply List.Mem.tail)) Try.isAgg3 (by omega) (by rfl)) rfl ?_
          refine Tr.gq rfl rfl hF8 (QS.neq rfl rfl) rfl ?_
          refine Tr.q (QS.pickF rfl hF8 rfl) rfl ?_
          refine Tr.nil (Tr.thenN ?_)
          exact Tr.endX (Sub.cons rfl (Sub.dropN 9 (by kernel_rfl) rfl))
        · intro hT8
          refine Tr.gskip rfl rfl hT8 rfl ?_
          refine Tr.gskip rfl rfl hT8 rfl ?_
          refine Tr.gskip rfl rfl hT8 rfl ?_
          refine Tr.gskip rfl rfl hT8 rfl ?_
          refine Tr.gskip rfl rfl hT8 rfl ?_
          refine Tr.gskip rfl rfl hT8 rfl ?_
          refine Tr.gskip rfl rfl hT8 rfl ?_
          refine Tr.gskip rfl rfl hT8 rfl ?_
          refine Tr.q (QS.pickT rfl hT8 rfl) rfl ?_
          refine Tr.nil (Tr.thenN ?_)
          exact Tr.endX (Sub.cons rfl (Sub.dropN 9 (by kernel_rfl) rfl))
        refine Tr.nil ?_
        refine Tr.thenN ?_
        refine Tr.cond rfl (fun h9 => ?_) (fun h9 => ?_)
        · try simp only [bs] at h9
          refine Tr.seq ?_
          refine Tr.region ?_
          refine Tr.q (QS.assign rfl) rfl ?_
          refine Tr.nil ?_
          refine Tr.thenN ?_
          refine Tr.ret ?_
          refine Tr.thenR ?_
          refine Tr.inR ?_
          refine Tr.thenR ?_
          refine Tr.thenR ?_
          refine Tr.inR ?_
          refine Tr.thenR ?_
          refine Tr.ret1 Try.results8 rfl (fun w' hw => ?_)
          exfalso; first | omega | simp_all
        · try simp only [bs] at h9
          refine Tr.skip ?_
          refine Tr.thenN ?_
          refine Tr.seq ?_
          refine Tr.seq ?_
          refine Tr.region ?_
          refine Tr.q (QS.assign rfl) rfl ?_
          refine Tr.nil ?_
          refine Tr.thenN ?_
          refine Tr.block ?_
          refine Tr.loop (ι := Nat) (fun k => k ≤ (encodeP (fs.getD i default)).length) (fun _ => _) (fun k => [rowE VR 5 encU8 (encodeP (fs.getD i default)), rowE VE 5 encU8 (encodeP (fs.getD i default)), rowE Va 36 encIns fs, rowE Vb 61 encRng rs]) (fun k => [(11, .int .i64 (k : Nat))]) (fun k => (encodeP (fs.getD i default)).length - k) 0 (Nat.zero_le _) (.cons (by first | rfl | exact lookI rfl (by omega) | exact lookI rfl (by simp) | exact lookB rfl (by simp)) Front.nil) (by repeat' (first | exact Pick.nil _ | exact Del.here _ | apply Pick.cons | apply Del.there)) rfl (fun k hi m hm => ?_)
          replace hi : k ≤ (encodeP (fs.getD i default)).length := hi
          replace hm : m = (encodeP (fs.getD i default)).length - k := hm
          change Tr _ _ [rowE VR 5 encU8 (encodeP (fs.getD i default)), rowE VE 5 encU8 (encodeP (fs.getD i default)), rowE Va 36 encIns fs, rowE Vb 61 encRng rs] ([(11, .int .i64 (k : Nat))] ++ _) _
          refine Tr.seq ?_
          refine Tr.seq ?_
          refine Tr.region ?_
          refine Tr.q (QS.move rfl) rfl ?_
          refine Tr.q (QS.move rfl) rfl ?_
          refine Tr.q (QS.lenRow rfl (by repeat (first | exact List.Mem.head _ | apply List.Mem.tail)) Try.underlying54) rfl ?_
          refine Tr.q (QS.lss rfl rfl) rfl ?_
          refine Tr.nil ?_
          refine Tr.thenN ?_
          refine Tr.cond rfl (fun h10 => ?_) (fun h10 => ?_)
          · try simp only [bs] at h10
            refine Tr.skip ?_
            refine Tr.thenN ?_
            refine Tr.seq ?_
            refine Tr.block ?_
            refine Tr.seq ?_
            refine Tr.regionQ HLF.mixed (by kernel_rfl) ?_
            refine TrQ.q (QS.move rfl) rfl ?_
            refine TrQ.q (QS.move rfl) rfl ?_
            refine TrQ.q (QS.idxRowN rfl rfl (by repeat (first | exact List.Mem.head _ | apply List.Mem.tail)) Try.underlying54 Try.sizeOf5 (by rfl) (by omega)) rfl ?_
            refine TrQ.q (QS.elR1 rfl (by repeat (first | exact List.Mem.head _ | apply List.Mem.tail)) Try.isAgg5 (by omega) (by rfl)) rfl ?_
            refine TrQ.q (QS.move rfl) rfl ?_
            refine TrQ.q (QS.move rfl) rfl ?_
            refine TrQ.q (QS.idxRowN rfl rfl (by repeat (first | exact List.Mem.head _ | apply List.Mem.tail)) Try.underlying54 Try.sizeOf5 (by rfl) (by omega)) rfl ?_
            refine TrQ.q (QS.elR1 rfl (by repeat (first | exact List.Mem.head _ | apply List.Mem.tail)) Try.isAgg5 (by omega) (by rfl)) rfl ?_
            refine TrQ.q (QS.neq8 rfl rfl) rfl ?_
            refine TrQ.nil ?_
            refine Tr.thenN ?_
            refine Tr.cond rfl (fun h11 => ?_) (fun h11 => ?_)
            · try simp only [bs] at h11
              refine Tr.seq ?_
              refine Tr.region ?_
              refine Tr.q (QS.assign rfl) rfl ?_
              refine Tr.nil ?_
              refine Tr.thenN ?_
              refine Tr.ret ?_
              refine Tr.inR ?_
              refine Tr.thenR ?_
              refine Tr.thenR ?_
              refine Tr.inR ?_
              refine Tr.thenR ?_
              refine Tr.inR ?_
              refine Tr.thenR ?_
              refine Tr.thenR ?_
              refine Tr.inR ?_
              refine Tr.thenR ?_
              refine Tr.ret1 Try.results8 rfl (fun w' hw => ?_)
              exact absurd trivial h11
            · try simp only [bs] at h11
              refine Tr.skip ?_
              refine Tr.inN ?_
              refine Tr.thenN ?_
              refine Tr.region ?_
              refine Tr.q (QS.move rfl) rfl ?_
              refine Tr.q (QS.addI rfl rfl (by omega)) rfl ?_
              refine Tr.q (QS.assign rfl) rfl ?_
              refine Tr.nil ?_
              refine Tr.thenN ?_
              apply Tr.again (k + 1)
              · exact rfl
              · exact (.cons (by first | rfl | exact lookI rfl (by omega) | exact lookI rfl (by simp) | exact lookB rfl (by simp)) Front.nil)
              · exact SubX.dropN 17 (by kernel_rfl) rfl
              · exact (by repeat' (first | exact Pick.nil _ | exact Del.here _ | apply Pick.cons | apply Del.there))
              · exact (by show k + 1 ≤ _; omega)
              · exact (by (try dsimp only); omega)
          · try simp only [bs] at h10
            refine Tr.exit ?_
            refine Tr.thenE ?_
            refine Tr.thenE ?_
            refine Tr.inHit ?_
            refine Tr.thenN ?_
            refine Tr.seq ?_
            refine Tr.region ?_
            refine Tr.q (QS.move rfl) rfl ?_
            refine Tr.q (QS.move rfl) rfl ?_
            refine Tr.q (QS.move rfl) rfl ?_
            refine Tr.q (QS.idxRowN rfl rfl (by repeat (first | exact List.Mem.head _ | apply List.Mem.tail)) Try.underlying26 Try.sizeOf36 (by rfl) (by omega)) rfl ?_
            refine Tr.q (QS.fieldAddr (off := 0) (ft := 23) rfl Try.underlying36 rfl rfl Try.sizeOf23 (by decide)) rfl ?_
            refine Tr.q (QS.elRF rfl (by repeat (first | exact List.Mem.head _ | apply List.Mem.tail)) Try.isAgg23 (by omega) (by rfl)) rfl ?_
            refine Tr.q (QS.call rfl Try.call14 (fun w hw => at_any fs _ (fs.getD i default).addr w (hw.row (by repeat (first | exact List.Mem.head _ | apply List.Mem.tail))))) rfl ?_
            rw [b4]
            dsimp only
            refine Tr.q (QS.move rfl) rfl ?_
            refine Tr.q (QS.extract rfl rfl) rfl ?_
            refine Tr.q (QS.extract rfl rfl) rfl ?_
            refine Tr.alloc Try.zeroValue36 rfl rfl (fun b12 => ?_)
            refine Tr.storeW rfl rfl Try.sizeOf36 (by repeat (first | exact Put.here _ | apply Put.there)) (by rfl) (by rfl) (by first | exact List.all_eq_true.1 rfl | exact Enc.one _ _ | exact Enc.one encIns _) rfl ?_
            refine Tr.q (QS.assign rfl) rfl ?_
            refine Tr.nil ?_
            refine Tr.thenN ?_
            refine Tr.seq ?_
            refine Tr.regionQ HLF.mixed (by kernel_rfl) ?_
            refine TrQ.q (QS.move rfl) rfl ?_
            refine TrQ.q (QS.not rfl) rfl ?_
            refine TrQ.q (QS.move rfl) rfl ?_
            apply TrQ.orP
            · exact (rfl : _ = (7, 114, 121))
            · exact rfl
            · intro hF13; have hF13' := hF13
              try simp only [bs] at hF13'
              refine TrQ.gq rfl rfl hF13 (QS.lW rfl Try.isAgg36 Try.sizeOf36) rfl ?_
              refine TrQ.gq rfl rfl hF13 (QS.move rfl) rfl ?_
              refine TrQ.gq rfl rfl hF13 (QS.move rfl) rfl ?_
              refine TrQ.gq rfl rfl hF13 (QS.idxRowN rfl rfl (by repeat (first | exact List.Mem.head _ | apply List.Mem.tail)) Try.underlying26 Try.sizeOf36 (by rfl) (by omega)) rfl ?_
              refine TrQ.gq rfl rfl hF13 (QS.elRA rfl (by repeat (first | exact List.Mem.head _ | apply List.Mem.tail)) Try.isAgg36 Try.sizeOf36 (by rfl) (by omega)) rfl ?_
              refine TrQ.gq rfl rfl hF13 (QS.neqE rfl rfl insEqEnc Try.underlying36 (HLF.words36 _ Try.underlying36) rfl HLF.held36 HLF.eqg36) rfl ?_
              refine TrQ.q (QS.pickF rfl hF13 rfl) rfl ?_
              exact TrQ.end (Sub.cons rfl (Sub.dropN 7 (by kernel_rfl) rfl))
            · intro hT13
              refine TrQ.gskip rfl rfl hT13 rfl ?_
              refine TrQ.gskip rfl rfl hT13 rfl ?_
              refine TrQ.gskip rfl rfl hT13 rfl ?_
              refine TrQ.gskip rfl rfl hT13 rfl ?_
              refine TrQ.gskip rfl rfl hT13 rfl ?_
              refine TrQ.gskip rfl rfl hT13 rfl ?_
              refine TrQ.q (QS.pickT rfl hT13 rfl) rfl ?_
              exact TrQ.end (Sub.cons rfl (Sub.dropN 7 (by kernel_rfl) rfl))
            refine TrQ.nil ?_
            refine Tr.thenN ?_
            refine Tr.cond rfl (fun h14 => ?_) (fun h14 => ?_)
            · try simp only [bs] at h14
              refine Tr.seq ?_
              refine Tr.region ?_
              refine Tr.q (QS.assign rfl) rfl ?_
              refine Tr.nil ?_
              refine Tr.thenN ?_
              refine Tr.ret ?_
              refine Tr.inR ?_
              refine Tr.thenR ?_
              refine Tr.thenR ?_
              refine Tr.inR ?_
              refine Tr.thenR ?_
              refine Tr.ret1 Try.results8 rfl (fun w' hw => ?_)
              exfalso; simp_all
            · try simp only [bs] at h14
              refine Tr.skip ?_
              refine Tr.inN ?_
              refine Tr.thenN ?_
              refine Tr.region ?_
              refine Tr.q (QS.move rfl) rfl ?_
              refine Tr.q (QS.addI rfl rfl (by omega)) rfl ?_
              refine Tr.q (QS.assign rfl) rfl ?_
              refine Tr.nil ?_
              refine Tr.thenN ?_
              apply Tr.again (i + 1)
              · exact rfl
              · exact (.cons (by first | rfl | exact lookI rfl (by omega) | exact lookI rfl (by simp) | exact lookB rfl (by simp)) Front.nil)
              · exact SubX.dropN 67 (by kernel_rfl) rfl
              · exact (by repeat' (first | exact Pick.nil _ | exact Del.here _ | apply Pick.cons | apply Del.there))
              · exact (by show i + 1 ≤ _; omega)
              · exact (by (try dsimp only); omega)
      · try simp only [bs] at h5
        refine Tr.exit ?_
        refine Tr.thenE ?_
        refine Tr.thenE ?_
        refine Tr.inHit ?_
        refine Tr.thenN ?_
        refine Tr.seq ?_
        refine Tr.region ?_
        refine Tr.q (QS.call0 rfl rfl Try.call10 (fun w hw => example11_any w)) rfl ?_
        refine Tr.q (QS.assign rfl) rfl ?_
        refine Tr.nil ?_
        refine Tr.thenN ?_
        refine Tr.ret ?_
        refine Tr.ret1 Try.results8 rfl (fun w' hw => ?_)
        exact ⟨rfl, hw.below0 (Bg.le.refl _)⟩
end Go.Proofs.Ytfnedefgepjbpaa
namespace Go.HL
open Go Go.Deep Go.ChangeShapes Go.WideShapes
section
variable {H : Type} {enc : TypeId × Value → H} {P : Program} {w : World} {base : Nat} {spare : Nat → Bool} {held : Bool}
theorem u8_of_wf {n : Int} (h : (Lit.int .u8 n).wf = true) : ∃ x : UInt8, n = (x.toNat : Int) := by
  have := bounds_u8 h
  refine ⟨UInt8.ofNat n.toNat, ?_⟩
  rw [UInt8.toNat_ofNat']; omega
theorem u32_of_wf {n : Int} (h : (Lit.int .u32 n).wf = true) : ∃ x : UInt32, n = (x.toNat : Int) := by
  have := bounds_u32 h
  refine ⟨UInt32.ofNat n.toNat, ?_⟩
  rw [UInt32.toNat_ofNat']; omega
theorem flat_u8 {e : TypeId} (he : P.underlying e = some (.int .u8)) {n : Nat} {cs : List Value} {y : DataW H × List MemPlace} (h : DataW.trod enc P w base spare held n e cs = some y) : ∃ a, cs = encU8.enc a ∧ True := by
  obtain ⟨z, rfl, _, hw⟩ := DataW.trod_int he h
  obtain ⟨x, rfl⟩ := u8_of_wf hw
  exact ⟨x, rfl, trivial⟩
end
end Go.HL
namespace Go.HL
open Go Go.Deep Go.ChangeShapes Go.WideShapes
section
variable {H : Type} {enc : TypeId × Value → H} {P : Program} {w : World} {base : Nat} {spare : Nat → Bool} {held : Bool}
/-- No slice and no text in it is beyond what the form reaches. -/
def Light (P : Program) (t : TypeId) (d : DataW H) : Prop := ∀ n ∈ d.weights P t, n ≤ reachBytes
theorem weightsAll_mem {P : Program} {e : TypeId} : ∀ {l : List (DataW H)} {d : DataW H}, d ∈ l → ∀ n ∈ d.weights P e, n ∈ DataW.weightsAll P e l
  | x :: l, d, h, n, hn => by
    simp only [DataW.weightsAll, List.mem_append]
    rcases List.mem_cons.1 h with rfl | h
    · exact .inl hn
    · exact .inr (weightsAll_mem h n hn)
theorem sl_of_trodW {α : Type} [Inhabited α] {E : Enc α} {R : α → Prop} {t e : TypeId} {fuel : Nat} {V : Value} {x : DataW H × List MemPlace} (ht : P.underlying t = some (.slice e)) (hc : P.cellsOf e = E.k) (hk : 0 < E.k) (hL : Light P t x.1)
    (hf : ∀ n cs y, cs.length = E.k → DataW.trod enc P w base spare held n e cs = some y → Light P e y.1 → ∃ a : α, cs = E.enc a ∧ R a)
    (h : DataW.trod enc P w base spare held fuel t [V] = some x) : ∃ l : List α, Sl (hp w) E l V ∧ (∀ a ∈ l, R a) ∧ l.length * P.bytesOf e ≤ reachBytes := by
  rcases open_slice ht h with ⟨h0, _⟩ | ⟨a, len, cap, m, n, D, Pl, hv, hb, hl, hm, hmm, hxx, hx⟩
  · simp only [List.cons.injEq, and_true] at h0
    subst h0
    exact ⟨[], Sl.nil _ _, by simp, by simp⟩
  · simp only [List.cons.injEq, and_true] at hv
    subst hv
    subst hxx
    have hlm : len ≤ m := by rw [hmm]; split <;> omega
    have hw : DataW.weights P t (.slice ((List.range len).map D) ((List.range (m - len)).map fun j => D (len + j))) = (((List.range len).map D).length + ((List.range (m - len)).map fun j => D (len + j)).length) * P.bytesOf e :: (DataW.weightsAll P e ((List.range len).map D) ++ DataW.weightsAll P e ((List.range (m - len)).map fun j => D (len + j))) := by
      simp only [DataW.weights, ht]
    have each : ∀ i, i < len → ∃ q : α, w.cells? base (a.add (i * E.k)) E.k = some (E.enc q) ∧ R q := fun i hi => by
      obtain ⟨cs', h1, h2⟩ := hx i (by omega)
      rw [hc] at h1
      obtain ⟨q, rfl, hq⟩ := hf n cs' _ (World.cells?_some h1).2.1 h2 (fun z hz => hL z (by
        rw [hw]
        exact .tail _ (List.mem_append.2 (.inl (weightsAll_mem (List.mem_map.2 ⟨i, List.mem_range.2 hi, rfl⟩) z hz)))))
      exact ⟨q, h1, hq⟩
    obtain ⟨f, hfn⟩ := choose_lt each
    have hsp : 0 < len → a = ⟨a.block, a.off, none⟩ := fun hl0 => by
      have h1 := (World.cells?_some (hfn 0 hl0).1).2.2 0 hk
      have hlen : 0 < (E.enc (f 0)).length := by rw [E.len]; exact hk
      rw [List.getElem?_eq_getElem hlen] at h1
      have hsp := World.cell?_spot h1
      obtain ⟨b, o, sp⟩ := a
      have : sp = none := by simpa [Addr.add] using hsp
      subst this
      rfl
    refine ⟨(List.range len).map f, ⟨⟨some a, cap, by simp, by simpa using hl, hm, fun hne => ?_⟩, fun i q hq => ?_⟩, fun q hq => ?_, ?_⟩
    · have hl0 : 0 < len := by
        rcases Nat.eq_zero_or_pos len with h | h
        · subst h; simp at hne
        · exact h
      rw [hsp hl0]; rfl
    · have hi : i < len := by
        have := (List.getElem?_eq_some_iff.1 hq).1
        simpa using this
      have hq' : f i = q := by simpa [hi] using hq
      subst hq'
      have ha := hsp (by omega)
      obtain ⟨b, o, sp⟩ := a
      obtain rfl : sp = none := by simpa using ha
      have hc' := (World.cells?_some (hfn i hi).1).2.2
      have hlen : (E.enc (f i)).length = E.k := E.len _
      have eA : ∀ j, (((⟨b, o, none⟩ : Addr).add (i * E.k)).add j) = ⟨b, o + i * E.k + j, none⟩ := fun j => by
        rw [Go.Deep.add_add]; simp only [Addr.add]
        by_cases h0 : i * E.k + j = 0
        · rw [if_pos h0]
          have : i * E.k = 0 := by omega
          have : j = 0 := by omega
          simp_all
        · rw [if_neg h0, Nat.add_assoc]
      have h1 := hc' 0 hk
      rw [List.getElem?_eq_getElem (by omega), eA] at h1
      have hb1 : ∃ cs T fz, w.heap[b]? = some (.cells cs T fz) := by
        unfold World.cell? at h1
        split at h1
        · rename_i cs T fz hh; exact ⟨cs, T, fz, hh⟩
        · simp at h1
      obtain ⟨cs, T, fz, hh⟩ := hb1
      refine ⟨cs, T, fz, hh, fun j v hj => ?_⟩
      have hjk : j < E.k := by have := (List.getElem?_eq_some_iff.1 hj).1; omega
      have h2 := hc' j hjk
      rw [hj, eA] at h2
      unfold World.cell? at h2
      simp only [hh] at h2
      simp only [ofs]
      simpa using h2
    · obtain ⟨i, hi, rfl⟩ := List.mem_map.1 hq
      exact (hfn i (List.mem_range.1 hi)).2
    · have := hL _ (by rw [hw]; exact .head _)
      simp only [List.length_map, List.length_range] at this ⊢
      exact Nat.le_trans (Nat.mul_le_mul_right _ (by omega)) this
theorem flat_sec {e ts tu tb tB eu : TypeId} {f0 f1 f2 f3 f4 : Field} (he : P.underlying e = some (.struct #[f0, f1, f2, f3, f4]))
    (ho : [f0.offset, f1.offset, f2.offset, f3.offset, f4.offset] = [0, 1, 2, 3, 4]) (ht : [f0.type, f1.type, f2.type, f3.type, f4.type] = [ts, tu, tb, tB, tB])
    (c0 : P.cellsOf ts = 1) (c1 : P.cellsOf tu = 1) (c2 : P.cellsOf tb = 1) (c3 : P.cellsOf tB = 1) (us : P.underlying ts = some .string) (uu : P.underlying tu = some (.int .u32))
    (ub : P.underlying tb = some (.slice eu)) (ue : P.underlying eu = some (.int .u8)) (ce : P.cellsOf eu = 1) (be : P.bytesOf eu = 1) (uB : P.underlying tB = some .bool)
    {n : Nat} {cs : List Value} {y : DataW H × List MemPlace} (hl : cs.length = 5) (h : DataW.trod enc P w base spare held n e cs = some y) (hL : Light P e y.1) :
    ∃ s : SecV, cs = encSec.enc s ∧ Sl (hp w) encU8 s.data (.slice s.dp s.data.length s.dc) ∧ s.data.length ≤ reachBytes ∧ s.name.size ≤ reachBytes := by
  simp only [List.cons.injEq, and_true] at ho ht
  obtain ⟨o0, o1, o2, o3, o4⟩ := ho
  obtain ⟨t0, t1, t2, t3, t4⟩ := ht
  obtain ⟨xs, k, hk, hxy, _, hxl, hf⟩ := DataW.trod_struct he h
  match xs, hxl, cs, hl with
  | [y0, y1, y2, y3, y4], _, [v0, v1, v2, v3, v4], _ =>
    have g0 := hf 0 f0 rfl
    have g1 := hf 1 f1 rfl
    have g2 := hf 2 f2 rfl
    have g3 := hf 3 f3 rfl
    have g4 := hf 4 f4 rfl
    simp [o0, o1, o2, o3, o4, t0, t1, t2, t3, t4, c0, c1, c2, c3] at g0 g1 g2 g3 g4
    subst hxy
    have hw : ∀ j t d, [ts, tu, tb, tB, tB][j]? = some t → [y0.1, y1.1, y2.1, y3.1, y4.1][j]? = some d → Light P t d := fun j t d q1 q2 z hz => hL z (by
      simp only [DataW.weights, he, List.map_cons, List.map_nil, t0, t1, t2, t3, t4]
      exact DataW.weights_mem_each (j := j) q1 q2 z hz)
    have w0' := hw 0 ts y0.1 rfl rfl
    have w2' := hw 2 tb y2.1 rfl rfl
    obtain ⟨z0, e0, q0, w0⟩ := DataW.trod_string us g0
    obtain ⟨z1, e1, _, w1⟩ := DataW.trod_int uu g1
    obtain ⟨l, s2, _, hbl⟩ := sl_of_trodW (E := encU8) (R := fun _ => True) ub ce (by decide) w2' (fun n cs y _ hh _ => flat_u8 ue hh) g2
    obtain ⟨z3, e3, _⟩ := DataW.trod_bool uB g3
    obtain ⟨z4, e4, _⟩ := DataW.trod_bool uB g4
    obtain ⟨x1, rfl⟩ := u32_of_wf w1
    simp only [List.cons.injEq, and_true] at e0 e1 e3 e4
    subst e0; subst e1; subst e3; subst e4
    obtain ⟨a, c, hv, _⟩ := s2.shape
    subst hv
    refine ⟨⟨z0, x1, l, a, c, z3, z4⟩, rfl, s2, by rw [be, Nat.mul_one] at hbl; exact hbl, ?_⟩
    have := w0' z0.data.toList.length (by rw [q0]; simp [DataW.weights])
    rw [Array.length_toList] at this
    exact this
end
end Go.HL
