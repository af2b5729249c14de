/- The walks of slices.SortStableFunc over sections. -/
import Derived.Test.YtfmhhakhbopfdaaF2
import Derived.Test.YtfmhhakhbopfdaaSe
import Derived.Test.YtfmhhakhbopfdaaHx
import Derived.Test.YtfmhhakhbopfdaaSa
set_option linter.unusedSimpArgs false
set_option linter.unusedVariables false
namespace Go.Proofs.Ytfmhhakhbopfdaa
open Go Go.HL Go.RowKit
def ltC (cmp : SecV → SecV → Int) (x y : SecV) : Bool := decide (cmp x y < 0)
def srtP (cmp : SecV → SecV → Int) (V : Value) (l : List SecV) (a b : Nat) (w : World) : Ending → World → Prop := fun e w' => e = .returned (.tuple #[]) ∧ ∃ l', (Stab (ltC cmp) l l' ∧ Fram a b l l' ∧ Srt (ltC cmp) l' a b) ∧ Mut w w' V ∧ (rowE V 81 encSec l').holds w'


def SymFor (g : FuncId) (cmp : SecV → SecV → Int) (V : Value) (n : Nat) : Prop := ∀ (l : List SecV) (a md b : Nat) (ai mdi bi : Int) (w : World), ai = ((a : Nat) : Int) → mdi = ((md : Nat) : Int) → bi = ((b : Nat) : Int) → b - a ≤ n → a < md → md < b → b ≤ l.length → l.length ≤ 1000000 → Srt (ltC cmp) l a md → Srt (ltC cmp) l md b → (rowE V 81 encSec l).holds w → Calls Try.prog 110 #[V, .int .i64 ai, .int .i64 mdi, .int .i64 bi, .func (.func g) #[] #[]] w (srtP cmp V l a b w)

set_option maxRecDepth 100000 in
set_option maxHeartbeats 2000000 in
theorem insertion_sec (l : List SecV) (V : Value) (a : Nat) (b : Nat) (ai : Int) (bi : Int) (ea : ai = ((a : Nat) : Int)) (eb : bi = ((b : Nat) : Int)) (g : FuncId) (cmp : SecV → SecV → Int) (eg : ∀ args w, (callFunc g args).run Try.prog w = .ok (.enter g args) w) (hc : ∀ x y w', Calls Try.prog g ([Value.agg (encSec.enc x).toArray, Value.agg (encSec.enc y).toArray] ++ []).toArray w' fun e w'' => e = .returned (.int .i64 (cmp x y)) ∧ Ext w' w'') (hO : WO (ltC cmp)) (w : World) (hr : (rowE V 81 encSec l).holds w) (hl : l.length ≤ 1000000) (hab : a ≤ b) (hb : b ≤ l.length) :
    Calls Try.prog 109 #[V, .int .i64 ai, .int .i64 bi, .func (.func g) #[] #[]] w (srtP cmp V l a b w) := by
  subst ea eb
  refine enterOwn (l := l) (E := encSec) (T := 81) hr Try.func109 rfl Try.ntmps109 rfl ?_
  refine Tr.seq ?_
  refine Tr.region ?_
  refine Tr.q (QS.move rfl) rfl ?_
  first | refine Tr.q (QS.addI rfl rfl (by omega)) rfl ?_ | refine Tr.q (QS.add rfl rfl) rfl ?_
  refine Tr.q (QS.assign rfl) rfl ?_
  refine Tr.nil ?_
  refine Tr.thenN ?_
  refine Tr.block ?_
  refine Tr.loop (ι := Nat × List SecV) (fun ⟨i, cur⟩ => a + 1 ≤ i ∧ (i ≤ b ∨ i = a + 1) ∧ Stab (ltC cmp) l cur ∧ Fram a b l cur ∧ Srt (ltC cmp) cur a i) (fun _ => _) (fun ⟨i, cur⟩ => [rowE V 81 encSec cur]) (fun ⟨i, cur⟩ => [(8, .int .i64 (i : Nat))]) (fun ⟨i, cur⟩ => b - i) (a + 1, l) ⟨Nat.le_refl _, .inr rfl, .refl _ _, .refl _ _ _, .one (Nat.le_refl _)⟩ (.cons (by first | rfl | exact lookI rfl (by omega) | exact lookI rfl (by simp) | exact lookB rfl (by simp)) Front.nil) (by repeat' (first | exact Pick.nil _ | exact Del.here _ | apply Pick.cons | apply Del.there)) rfl (fun i hi m hm => ?_)
  obtain ⟨i, cur⟩ := i
  replace hi : a + 1 ≤ i ∧ (i ≤ b ∨ i = a + 1) ∧ Stab (ltC cmp) l cur ∧ Fram a b l cur ∧ Srt (ltC cmp) cur a i := hi
  replace hm : m = b - i := hm
  change Tr _ _ [rowE V 81 encSec cur] ([(8, .int .i64 (i : Nat))] ++ _) _
  obtain ⟨hi1, hi2, hi3, hi4, hi5⟩ := hi
  have hcl : cur.length = l.length := hi4.1
  refine Tr.seq ?_
  refine Tr.seq ?_
  refine Tr.region ?_
  refine Tr.q (QS.move rfl) rfl ?_
  refine Tr.q (QS.move rfl) rfl ?_
  refine Tr.q (QS.lss rfl rfl) rfl ?_
  refine Tr.nil ?_
  refine Tr.thenN ?_
  refine Tr.cond rfl (fun h1 => ?_) (fun h1 => ?_)
  · try simp only [bs] at h1
    refine Tr.skip ?_
    refine Tr.thenN ?_
    refine Tr.seq ?_
    refine Tr.block ?_
    refine Tr.seq ?_
    refine Tr.region ?_
    refine Tr.q (QS.move rfl) rfl ?_
    refine Tr.q (QS.assign rfl) rfl ?_
    refine Tr.nil ?_
    refine Tr.thenN ?_
    refine Tr.block ?_
    have e0 : mp (rotF i i (i + 1)) cur = cur := rot_none (.inl rfl) (Nat.le_refl _) (by omega)
    refine Tr.rowEq e0.symm ?_
    refine Tr.loop (ι := Nat) (fun j => a ≤ j ∧ j ≤ i ∧ ∀ q, j ≤ q → q < i → ltC cmp (cur.getD i default) (cur.getD q default) = true) (fun _ => _) (fun j => [rowE V 81 encSec (mp (rotF j i (i + 1)) cur)]) (fun j => [(9, .int .i64 (j : Nat))]) (fun j => j) i ⟨by omega, Nat.le_refl _, fun q x y => by omega⟩ (.cons (by first | rfl | exact lookI rfl (by omega) | exact lookI rfl (by simp) | exact lookB rfl (by simp)) Front.nil) (by repeat' (first | exact Pick.nil _ | exact Del.here _ | apply Pick.cons | apply Del.there)) rfl (fun j hi m hm => ?_)
    replace hi : a ≤ j ∧ j ≤ i ∧ ∀ q, j ≤ q → q < i → ltC cmp (cur.getD i default) (cur.getD q default) = true := hi
    replace hm : m = j := hm
    change Tr _ _ [rowE V 81 encSec (mp (rotF j i (i + 1)) cur)] ([(9, .int .i64 (j : Nat))] ++ _) _
    obtain ⟨hj1, hj2, hj3⟩ := hi
    have hml : (mp (rotF j i (i + 1)) cur).length = l.length := by rw [mp_len]; exact hcl
    have ej : ((j : Int) - 1).toNat = j - 1 := by omega
    have ev : (mp (rotF j i (i + 1)) cur).getD j default = cur.getD i default := by rw [mp_at (by omega)]; congr 1; have := rotF_cases j i (i + 1) j; omega
    have ew : 0 < j → (mp (rotF j i (i + 1)) cur).getD (j - 1) default = cur.getD (j - 1) default := fun q => by rw [mp_at (by omega)]; congr 1; have := rotF_cases j i (i + 1) (j - 1); omega
    refine Tr.seq ?_
    refine Tr.seq ?_
    refine Tr.regionQ HLF.mixed (by kernel_rfl) ?_
    refine TrQ.q (QS.move rfl) rfl ?_
    refine TrQ.q (QS.move rfl) rfl ?_
    refine TrQ.q (QS.gtr rfl rfl) rfl ?_
    refine TrQ.q (QS.move rfl) rfl ?_
    apply TrQ.andP
    · exact (rfl : _ = (13, 21, 34))
    · exact rfl
    · intro hT2; have hT2' := hT2
      try simp only [bs] at hT2'
      refine TrQ.gq rfl rfl hT2 (QS.move rfl) rfl ?_
      refine TrQ.gq rfl rfl hT2 (QS.move rfl) rfl ?_
      refine TrQ.gq rfl rfl hT2 (QS.move rfl) rfl ?_
      first | refine TrQ.gq rfl rfl hT2 (QS.idxN rfl rfl (by assumption) Try.underlying53 Try.sizeOf81 (by rfl) (by omega)) rfl ?_ | refine TrQ.gq rfl rfl hT2 (QS.idxRowN rfl rfl (by repeat (first | exact List.Mem.head _ | apply List.Mem.tail)) Try.underlying53 Try.sizeOf81 (by rfl) (by omega)) rfl ?_ | refine TrQ.gq rfl rfl hT2 (QS.idx rfl rfl (by assumption) Try.underlying53 Try.sizeOf81 (by rfl) (by omega)) rfl ?_ | refine TrQ.gq rfl rfl hT2 (QS.idxRow rfl rfl (by repeat (first | exact List.Mem.head _ | apply List.Mem.tail)) Try.underlying53 Try.sizeOf81 (by rfl) (by omega)) rfl ?_
      first | refine TrQ.gq rfl rfl hT2 (QS.elA rfl (by assumption) Try.isAgg81 Try.sizeOf81 (by rfl) (by omega)) rfl ?_ | refine TrQ.gq rfl rfl hT2 (QS.elRA rfl (by repeat (first | exact List.Mem.head _ | apply List.Mem.tail)) Try.isAgg81 Try.sizeOf81 (by rfl) (by omega)) rfl ?_
      refine TrQ.gq rfl rfl hT2 (QS.move rfl) rfl ?_
      refine TrQ.gq rfl rfl hT2 (QS.move rfl) rfl ?_
      first | refine TrQ.gq rfl rfl hT2 (QS.subI rfl rfl (by omega)) rfl ?_ | refine TrQ.gq rfl rfl hT2 (QS.sub rfl rfl) rfl ?_
      first | refine TrQ.gq rfl rfl hT2 (QS.idxN rfl rfl (by assumption) Try.underlying53 Try.sizeOf81 (by rfl) (by omega)) rfl ?_ | refine TrQ.gq rfl rfl hT2 (QS.idxRowN rfl rfl (by repeat (first | exact List.Mem.head _ | apply List.Mem.tail)) Try.underlying53 Try.sizeOf81 (by rfl) (by omega)) rfl ?_ | refine TrQ.gq rfl rfl hT2 (QS.idx rfl rfl (by assumption) Try.underlying53 Try.sizeOf81 (by rfl) (by omega)) rfl ?_ | refine TrQ.gq rfl rfl hT2 (QS.idxRow rfl rfl (by repeat (first | exact List.Mem.head _ | apply List.Mem.tail)) Try.underlying53 Try.sizeOf81 (by rfl) (by omega)) rfl ?_
      first | refine TrQ.gq rfl rfl hT2 (QS.elA rfl (by assumption) Try.isAgg81 Try.sizeOf81 (by rfl) (by omega)) rfl ?_ | refine TrQ.gq rfl rfl hT2 (QS.elRA rfl (by repeat (first | exact List.Mem.head _ | apply List.Mem.tail)) Try.isAgg81 Try.sizeOf81 (by rfl) (by omega)) rfl ?_
      refine TrQ.gq rfl rfl hT2 (QS.callV rfl rfl eg (fun w hw => hc _ _ w)) rfl ?_
      refine TrQ.gq rfl rfl hT2 (QS.lss rfl rfl) rfl ?_
      refine TrQ.q (QS.pickT rfl hT2 rfl) rfl ?_
      exact TrQ.end (Sub.cons rfl (Sub.dropN 13 (by kernel_rfl) rfl))
    · intro hF2
      refine TrQ.gskip rfl rfl hF2 rfl ?_
      refine TrQ.gskip rfl rfl hF2 rfl ?_
      refine TrQ.gskip rfl rfl hF2 rfl ?_
      refine TrQ.gskip rfl rfl hF2 rfl ?_
      refine TrQ.gskip rfl rfl hF2 rfl ?_
      refine TrQ.gskip rfl rfl hF2 rfl ?_
      refine TrQ.gskip rfl rfl hF2 rfl ?_
      refine TrQ.gskip rfl rfl hF2 rfl ?_
      refine TrQ.gskip rfl rfl hF2 rfl ?_
      refine TrQ.gskip rfl rfl hF2 rfl ?_
      refine TrQ.gskip rfl rfl hF2 rfl ?_
      refine TrQ.gskip rfl rfl hF2 rfl ?_
      refine TrQ.q (QS.pickF rfl hF2 rfl) rfl ?_
      exact TrQ.end (Sub.cons rfl (Sub.dropN 13 (by kernel_rfl) rfl))
    refine TrQ.nil ?_
    refine Tr.thenN ?_
    refine Tr.cond rfl (fun h3 => ?_) (fun h3 => ?_)
    · try simp only [bs] at h3
      refine Tr.skip ?_
      refine Tr.thenN ?_
      refine Tr.seq ?_
      refine Tr.block ?_
      refine Tr.regionT 5 15 HLF.mixed (by kernel_rfl) (panicIn (panicThen (panicThen (panicIn (panicIn (panicThen (panicThen (panicIn panicBody)))))))) ?_
      refine TrQ.pureMove rfl rfl ?_
      refine TrQ.pureMove rfl rfl ?_
      refine TrQ.pureMove rfl rfl ?_
      refine TrQ.pureMove rfl rfl ?_
      first | refine TrQ.pureQ (fun _ => QS.subI rfl rfl (by omega)) (by rfl) rfl ?_ | refine TrQ.pureQ (fun _ => QS.sub rfl rfl) (by rfl) rfl ?_
      refine TrQ.pureNil ?_
      refine TrQ.q (QS.move rfl) rfl ?_
      refine TrQ.q (QS.move rfl) rfl ?_
      first | refine TrQ.q (QS.subI rfl rfl (by omega)) rfl ?_ | refine TrQ.q (QS.sub rfl rfl) rfl ?_
      first | refine TrQ.q (QS.idxN rfl rfl (by assumption) Try.underlying53 Try.sizeOf81 (by rfl) (by omega)) rfl ?_ | refine TrQ.q (QS.idxRowN rfl rfl (by repeat (first | exact List.Mem.head _ | apply List.Mem.tail)) Try.underlying53 Try.sizeOf81 (by rfl) (by omega)) rfl ?_ | refine TrQ.q (QS.idx rfl rfl (by assumption) Try.underlying53 Try.sizeOf81 (by rfl) (by omega)) rfl ?_ | refine TrQ.q (QS.idxRow rfl rfl (by repeat (first | exact List.Mem.head _ | apply List.Mem.tail)) Try.underlying53 Try.sizeOf81 (by rfl) (by omega)) rfl ?_
      first | refine TrQ.q (QS.elA rfl (by assumption) Try.isAgg81 Try.sizeOf81 (by rfl) (by omega)) rfl ?_ | refine TrQ.q (QS.elRA rfl (by repeat (first | exact List.Mem.head _ | apply List.Mem.tail)) Try.isAgg81 Try.sizeOf81 (by rfl) (by omega)) rfl ?_
      refine TrQ.q (QS.move rfl) rfl ?_
      refine TrQ.q (QS.move rfl) rfl ?_
      first | refine TrQ.q (QS.idxN rfl rfl (by assumption) Try.underlying53 Try.sizeOf81 (by rfl) (by omega)) rfl ?_ | refine TrQ.q (QS.idxRowN rfl rfl (by repeat (first | exact List.Mem.head _ | apply List.Mem.tail)) Try.underlying53 Try.sizeOf81 (by rfl) (by omega)) rfl ?_ | refine TrQ.q (QS.idx rfl rfl (by assumption) Try.underlying53 Try.sizeOf81 (by rfl) (by omega)) rfl ?_ | refine TrQ.q (QS.idxRow rfl rfl (by repeat (first | exact List.Mem.head _ | apply List.Mem.tail)) Try.underlying53 Try.sizeOf81 (by rfl) (by omega)) rfl ?_
      first | refine TrQ.q (QS.elA rfl (by assumption) Try.isAgg81 Try.sizeOf81 (by rfl) (by omega)) rfl ?_ | refine TrQ.q (QS.elRA rfl (by repeat (first | exact List.Mem.head _ | apply List.Mem.tail)) Try.isAgg81 Try.sizeOf81 (by rfl) (by omega)) rfl ?_
      first | refine TrQ.q (QS.idxN rfl rfl (by assumption) Try.underlying53 Try.sizeOf81 (by rfl) (by omega)) rfl ?_ | refine TrQ.q (QS.idxRowN rfl rfl (by repeat (first | exact List.Mem.head _ | apply List.Mem.tail)) Try.underlying53 Try.sizeOf81 (by rfl) (by omega)) rfl ?_ | refine TrQ.q (QS.idx rfl rfl (by assumption) Try.underlying53 Try.sizeOf81 (by rfl) (by omega)) rfl ?_ | refine TrQ.q (QS.idxRow rfl rfl (by repeat (first | exact List.Mem.head _ | apply List.Mem.tail)) Try.underlying53 Try.sizeOf81 (by rfl) (by omega)) rfl ?_
      refine TrQ.nil ?_
      refine Tr.storeEl (l := (mp (rotF j i (i + 1)) cur)) (i := j) ((mp (rotF j i (i + 1)) cur).getD (((j : Int) - 1).toNat) default) rfl rfl Try.sizeOf81 (by repeat (first | exact Put.here _ | apply Put.there)) (by (try simp only [List.length_set]); omega) (by rfl) rfl ?_
      have hls4 : (List.set (mp (rotF j i (i + 1)) cur) (j) ((mp (rotF j i (i + 1)) cur).getD (((j : Int) - 1).toNat) default)).length = ((mp (rotF j i (i + 1)) cur)).length := List.length_set
      first | refine Tr.q (QS.idxN rfl rfl (by assumption) Try.underlying53 Try.sizeOf81 (by rfl) (by omega)) rfl ?_ | refine Tr.q (QS.idxRowN rfl rfl (by repeat (first | exact List.Mem.head _ | apply List.Mem.tail)) Try.underlying53 Try.sizeOf81 (by rfl) (by omega)) rfl ?_ | refine Tr.q (QS.idx rfl rfl (by assumption) Try.underlying53 Try.sizeOf81 (by rfl) (by omega)) rfl ?_ | refine Tr.q (QS.idxRow rfl rfl (by repeat (first | exact List.Mem.head _ | apply List.Mem.tail)) Try.underlying53 Try.sizeOf81 (by rfl) (by omega)) rfl ?_
      refine Tr.storeEl (l := ((mp (rotF j i (i + 1)) cur).set (j) ((mp (rotF j i (i + 1)) cur).getD (((j : Int) - 1).toNat) default))) (i := ((j : Int) - 1).toNat) ((mp (rotF j i (i + 1)) cur).getD (j) default) rfl rfl Try.sizeOf81 (by repeat (first | exact Put.here _ | apply Put.there)) (by (try simp only [List.length_set]); omega) (by rfl) rfl ?_
      have hls5 : (List.set ((mp (rotF j i (i + 1)) cur).set (j) ((mp (rotF j i (i + 1)) cur).getD (((j : Int) - 1).toNat) default)) (((j : Int) - 1).toNat) ((mp (rotF j i (i + 1)) cur).getD (j) default)).length = (((mp (rotF j i (i + 1)) cur).set (j) ((mp (rotF j i (i + 1)) cur).getD (((j : Int) - 1).toNat) default))).length := List.length_set
      refine Tr.nil ?_
      refine Tr.inN ?_
      refine Tr.thenN ?_
      refine Tr.region ?_
      refine Tr.q (QS.move rfl) rfl ?_
      first | refine Tr.q (QS.subI rfl rfl (by omega)) rfl ?_ | refine Tr.q (QS.sub rfl rfl) rfl ?_
      refine Tr.q (QS.assign rfl) rfl ?_
      refine Tr.nil ?_
      refine Tr.thenN ?_
      have hsw := mp_sw (l := (mp (rotF j i (i + 1)) cur)) (p := j) (q := j - 1) (by omega) (by omega)
      rw [rot_down (by omega) hj2 (by omega)] at hsw
      have hlt : ltC cmp (cur.getD i default) (cur.getD (j - 1) default) = true := by
        rw [← ev, ← ew (by omega), ← ej]
        simpa [ltC] using h3.2
      have hj3' : ∀ q, j - 1 ≤ q → q < i → ltC cmp (cur.getD i default) (cur.getD q default) = true := fun q x y => by
        by_cases c : q = j - 1
        · rw [c]; exact hlt
        · exact hj3 q (by omega) y
      rw [ej, hsw]
      apply Tr.again (j - 1)
      · exact rfl
      · exact (.cons (by first | rfl | exact lookI rfl (by omega) | exact lookI rfl (by simp) | exact lookB rfl (by simp)) Front.nil)
      · exact SubX.dropN 25 (by kernel_rfl) rfl
      · exact (by repeat' (first | exact Pick.nil _ | exact Del.here _ | apply Pick.cons | apply Del.there))
      · exact ⟨by omega, by omega, hj3'⟩
      · exact (by (try dsimp only); omega)
    · try simp only [bs] at h3
      refine Tr.exit ?_
      refine Tr.thenE ?_
      refine Tr.thenE ?_
      refine Tr.inHit ?_
      refine Tr.inN ?_
      refine Tr.thenN ?_
      refine Tr.region ?_
      refine Tr.q (QS.move rfl) rfl ?_
      first | refine Tr.q (QS.addI rfl rfl (by omega)) rfl ?_ | refine Tr.q (QS.add rfl rfl) rfl ?_
      refine Tr.q (QS.assign rfl) rfl ?_
      refine Tr.nil ?_
      refine Tr.thenN ?_
      have hB : j = a ∨ ltC cmp (cur.getD i default) (cur.getD (j - 1) default) = false := by
        rcases h3 with h3 | h3
        · exact .inl (by omega)
        · by_cases q : j = a
          · exact .inl q
          · refine .inr ?_
            rw [← ev, ← ew (by omega), ← ej]
            simpa [ltC] using h3
      have hin := srt_ins hO hi5 (by omega) hj1 hj2 hj3 hB
      have hfr : Fram a b l (mp (rotF j i (i + 1)) cur) := hi4.trans (Fram.rot hj1 (by omega) hj2 (by omega))
      apply Tr.again (i + 1, _)
      · exact rfl
      · exact (.cons (by first | rfl | exact lookI rfl (by omega) | exact lookI rfl (by simp) | exact lookB rfl (by simp)) Front.nil)
      · exact SubX.dropN 15 (by kernel_rfl) rfl
      · exact (by repeat' (first | exact Pick.nil _ | exact Del.here _ | apply Pick.cons | apply Del.there))
      · exact ⟨by omega, by omega, hi3.trans hin.1, hfr, hin.2⟩
      · exact (by (try dsimp only); omega)
  · try simp only [bs] at h1
    refine Tr.exit ?_
    refine Tr.thenE ?_
    refine Tr.thenE ?_
    refine Tr.inHit ?_
    refine Tr.ret0n Try.results109 (fun w' hw => ?_)
    exact ⟨rfl, _, ⟨hi3, hi4, hi5.sub (Nat.le_refl _) (by omega)⟩, HpOK.mutOwn hw (.head _) rfl⟩

set_option maxRecDepth 100000 in
set_option maxHeartbeats 2000000 in
theorem swapRange_sec (l : List SecV) (V : Value) (a : Nat) (b : Nat) (n : Nat) (ai : Int) (bi : Int) (ni : Int) (ea : ai = ((a : Nat) : Int)) (eb : bi = ((b : Nat) : Int)) (en : ni = ((n : Nat) : Int)) (cv : Value) (w : World) (hr : (rowE V 81 encSec l).holds w) (hl : l.length ≤ 1000000) (hab : a + n ≤ b) (hb : b + n ≤ l.length) :
    Calls Try.prog 118 #[V, .int .i64 ai, .int .i64 bi, .int .i64 ni, cv] w (fun e w' => e = .returned (.tuple #[]) ∧ Mut w w' V ∧ (rowE V 81 encSec (mp (swR a b n) l)).holds w') := by
  subst ea eb en
  refine enterOwn (l := l) (E := encSec) (T := 81) hr Try.func118 rfl Try.ntmps118 rfl ?_
  refine Tr.seq ?_
  refine Tr.region ?_
  refine Tr.q (QS.assign rfl) rfl ?_
  refine Tr.nil ?_
  refine Tr.thenN ?_
  refine Tr.block ?_
  have e0 : mp (swR a b 0) l = l := swR_0
  refine Tr.rowEq e0.symm ?_
  refine Tr.loop (ι := Nat) (fun i => i ≤ n) (fun _ => _) (fun i => [rowE V 81 encSec (mp (swR a b i) l)]) (fun i => [(10, .int .i64 (i : Nat))]) (fun i => n - i) 0 (Nat.zero_le _) (.cons (by first | rfl | exact lookI rfl (by omega) | exact lookI rfl (by simp) | exact lookB rfl (by simp)) Front.nil) (by repeat' (first | exact Pick.nil _ | exact Del.here _ | apply Pick.cons | apply Del.there)) rfl (fun i hi m hm => ?_)
  replace hi : i ≤ n := hi
  replace hm : m = n - i := hm
  change Tr _ _ [rowE V 81 encSec (mp (swR a b i) l)] ([(10, .int .i64 (i : Nat))] ++ _) _
  have hml : (mp (swR a b i) l).length = l.length := mp_len _ _
  refine Tr.seq ?_
  refine Tr.seq ?_
  refine Tr.region ?_
  refine Tr.q (QS.move rfl) rfl ?_
  refine Tr.q (QS.move rfl) rfl ?_
  refine Tr.q (QS.lss rfl rfl) rfl ?_
  refine Tr.nil ?_
  refine Tr.thenN ?_
  refine Tr.cond rfl (fun h1 => ?_) (fun h1 => ?_)
  · try simp only [bs] at h1
    refine Tr.skip ?_
    refine Tr.thenN ?_
    refine Tr.seq ?_
    refine Tr.block ?_
    refine Tr.regionT 8 21 HLF.mixed (by kernel_rfl) (panicIn (panicThen (panicThen (panicIn panicBody)))) ?_
    refine TrQ.pureMove rfl rfl ?_
    refine TrQ.pureMove rfl rfl ?_
    refine TrQ.pureMove rfl rfl ?_
    first | refine TrQ.pureQ (fun _ => QS.addI rfl rfl (by omega)) (by rfl) rfl ?_ | refine TrQ.pureQ (fun _ => QS.add rfl rfl) (by rfl) rfl ?_
    refine TrQ.pureMove rfl rfl ?_
    refine TrQ.pureMove rfl rfl ?_
    refine TrQ.pureMove rfl rfl ?_
    first | refine TrQ.pureQ (fun _ => QS.addI rfl rfl (by omega)) (by rfl) rfl ?_ | refine TrQ.pureQ (fun _ => QS.add rfl rfl) (by rfl) rfl ?_
    refine TrQ.pureNil ?_
    refine TrQ.q (QS.move rfl) rfl ?_
    refine TrQ.q (QS.move rfl) rfl ?_
    refine TrQ.q (QS.move rfl) rfl ?_
    first | refine TrQ.q (QS.addI rfl rfl (by omega)) rfl ?_ | refine TrQ.q (QS.add rfl rfl) rfl ?_
    first | refine TrQ.q (QS.idxN rfl rfl (by assumption) Try.underlying53 Try.sizeOf81 (by rfl) (by omega)) rfl ?_ | refine TrQ.q (QS.idxRowN rfl rfl (by repeat (first | exact List.Mem.head _ | apply List.Mem.tail)) Try.underlying53 Try.sizeOf81 (by rfl) (by omega)) rfl ?_ | refine TrQ.q (QS.idx rfl rfl (by assumption) Try.underlying53 Try.sizeOf81 (by rfl) (by omega)) rfl ?_ | refine TrQ.q (QS.idxRow rfl rfl (by repeat (first | exact List.Mem.head _ | apply List.Mem.tail)) Try.underlying53 Try.sizeOf81 (by rfl) (by omega)) rfl ?_
    first | refine TrQ.q (QS.elA rfl (by assumption) Try.isAgg81 Try.sizeOf81 (by rfl) (by omega)) rfl ?_ | refine TrQ.q (QS.elRA rfl (by repeat (first | exact List.Mem.head _ | apply List.Mem.tail)) Try.isAgg81 Try.sizeOf81 (by rfl) (by omega)) rfl ?_
    refine TrQ.q (QS.move rfl) rfl ?_
    refine TrQ.q (QS.move rfl) rfl ?_
    refine TrQ.q (QS.move rfl) rfl ?_
    first | refine TrQ.q (QS.addI rfl rfl (by omega)) rfl ?_ | refine TrQ.q (QS.add rfl rfl) rfl ?_
    first | refine TrQ.q (QS.idxN rfl rfl (by assumption) Try.underlying53 Try.sizeOf81 (by rfl) (by omega)) rfl ?_ | refine TrQ.q (QS.idxRowN rfl rfl (by repeat (first | exact List.Mem.head _ | apply List.Mem.tail)) Try.underlying53 Try.sizeOf81 (by rfl) (by omega)) rfl ?_ | refine TrQ.q (QS.idx rfl rfl (by assumption) Try.underlying53 Try.sizeOf81 (by rfl) (by omega)) rfl ?_ | refine TrQ.q (QS.idxRow rfl rfl (by repeat (first | exact List.Mem.head _ | apply List.Mem.tail)) Try.underlying53 Try.sizeOf81 (by rfl) (by omega)) rfl ?_
    first | refine TrQ.q (QS.elA rfl (by assumption) Try.isAgg81 Try.sizeOf81 (by rfl) (by omega)) rfl ?_ | refine TrQ.q (QS.elRA rfl (by repeat (first | exact List.Mem.head _ | apply List.Mem.tail)) Try.isAgg81 Try.sizeOf81 (by rfl) (by omega)) rfl ?_
    first | refine TrQ.q (QS.idxN rfl rfl (by assumption) Try.underlying53 Try.sizeOf81 (by rfl) (by omega)) rfl ?_ | refine TrQ.q (QS.idxRowN rfl rfl (by repeat (first | exact List.Mem.head _ | apply List.Mem.tail)) Try.underlying53 Try.sizeOf81 (by rfl) (by omega)) rfl ?_ | refine TrQ.q (QS.idx rfl rfl (by assumption) Try.underlying53 Try.sizeOf81 (by rfl) (by omega)) rfl ?_ | refine TrQ.q (QS.idxRow rfl rfl (by repeat (first | exact List.Mem.head _ | apply List.Mem.tail)) Try.underlying53 Try.sizeOf81 (by rfl) (by omega)) rfl ?_
    refine TrQ.nil ?_
    refine Tr.storeEl (l := (mp (swR a b i) l)) (i := a + i) ((mp (swR a b i) l).getD (b + i) default) rfl rfl Try.sizeOf81 (by repeat (first | exact Put.here _ | apply Put.there)) (by (try simp only [List.length_set]); omega) (by rfl) rfl ?_
    have hls2 : (List.set (mp (swR a b i) l) (a + i) ((mp (swR a b i) l).getD (b + i) default)).length = ((mp (swR a b i) l)).length := List.length_set
    first | refine Tr.q (QS.idxN rfl rfl (by assumption) Try.underlying53 Try.sizeOf81 (by rfl) (by omega)) rfl ?_ | refine Tr.q (QS.idxRowN rfl rfl (by repeat (first | exact List.Mem.head _ | apply List.Mem.tail)) Try.underlying53 Try.sizeOf81 (by rfl) (by omega)) rfl ?_ | refine Tr.q (QS.idx rfl rfl (by assumption) Try.underlying53 Try.sizeOf81 (by rfl) (by omega)) rfl ?_ | refine Tr.q (QS.idxRow rfl rfl (by repeat (first | exact List.Mem.head _ | apply List.Mem.tail)) Try.underlying53 Try.sizeOf81 (by rfl) (by omega)) rfl ?_
    refine Tr.storeEl (l := ((mp (swR a b i) l).set (a + i) ((mp (swR a b i) l).getD (b + i) default))) (i := b + i) ((mp (swR a b i) l).getD (a + i) default) rfl rfl Try.sizeOf81 (by repeat (first | exact Put.here _ | apply Put.there)) (by (try simp only [List.length_set]); omega) (by rfl) rfl ?_
    have hls3 : (List.set ((mp (swR a b i) l).set (a + i) ((mp (swR a b i) l).getD (b + i) default)) (b + i) ((mp (swR a b i) l).getD (a + i) default)).length = (((mp (swR a b i) l).set (a + i) ((mp (swR a b i) l).getD (b + i) default))).length := List.length_set
    refine Tr.nil ?_
    refine Tr.inN ?_
    refine Tr.thenN ?_
    refine Tr.region ?_
    refine Tr.q (QS.move rfl) rfl ?_
    first | refine Tr.q (QS.addI rfl rfl (by omega)) rfl ?_ | refine Tr.q (QS.add rfl rfl) rfl ?_
    refine Tr.q (QS.assign rfl) rfl ?_
    refine Tr.nil ?_
    refine Tr.thenN ?_
    have hsw := mp_sw (l := (mp (swR a b i) l)) (p := a + i) (q := b + i) (by omega) (by omega)
    rw [swR_step hab hb (by omega)] at hsw
    rw [hsw]
    apply Tr.again (i + 1)
    · exact rfl
    · exact (.cons (by first | rfl | exact lookI rfl (by omega) | exact lookI rfl (by simp) | exact lookB rfl (by simp)) Front.nil)
    · exact SubX.dropN 29 (by kernel_rfl) rfl
    · exact (by repeat' (first | exact Pick.nil _ | exact Del.here _ | apply Pick.cons | apply Del.there))
    · exact (by show i + 1 ≤ n; omega)
    · exact (by (try dsimp only); omega)
  · try simp only [bs] at h1
    refine Tr.exit ?_
    refine Tr.thenE ?_
    refine Tr.thenE ?_
    refine Tr.inHit ?_
    refine Tr.ret0n Try.results118 (fun w' hw => ?_)
    obtain rfl : i = n := by omega
    exact ⟨rfl, HpOK.mutOwn hw (.head _) rfl⟩

set_option maxRecDepth 100000 in
set_option maxHeartbeats 2000000 in
theorem rotate_sec (l : List SecV) (V : Value) (a : Nat) (md : Nat) (b : Nat) (ai : Int) (mdi : Int) (bi : Int) (ea : ai = ((a : Nat) : Int)) (emd : mdi = ((md : Nat) : Int)) (eb : bi = ((b : Nat) : Int)) (cv : Value) (w : World) (hr : (rowE V 81 encSec l).holds w) (hl : l.length ≤ 1000000) (ham : a < md) (hmb : md < b) (hb : b ≤ l.length) :
    Calls Try.prog 116 #[V, .int .i64 ai, .int .i64 mdi, .int .i64 bi, cv] w (fun e w' => e = .returned (.tuple #[]) ∧ Mut w w' V ∧ (rowE V 81 encSec (mp (rotF a md b) l)).holds w') := by
  subst ea emd eb
  refine enterOwn (l := l) (E := encSec) (T := 81) hr Try.func116 rfl Try.ntmps116 rfl ?_
  refine Tr.seq ?_
  refine Tr.region ?_
  refine Tr.q (QS.move rfl) rfl ?_
  refine Tr.q (QS.move rfl) rfl ?_
  first | refine Tr.q (QS.subI rfl rfl (by omega)) rfl ?_ | refine Tr.q (QS.sub rfl rfl) rfl ?_
  refine Tr.q (QS.assign rfl) rfl ?_
  refine Tr.nil ?_
  refine Tr.thenN ?_
  refine Tr.seq ?_
  refine Tr.region ?_
  refine Tr.q (QS.move rfl) rfl ?_
  refine Tr.q (QS.move rfl) rfl ?_
  first | refine Tr.q (QS.subI rfl rfl (by omega)) rfl ?_ | refine Tr.q (QS.sub rfl rfl) rfl ?_
  refine Tr.q (QS.assign rfl) rfl ?_
  refine Tr.nil ?_
  refine Tr.thenN ?_
  refine Tr.seq ?_
  refine Tr.block ?_
  refine Tr.loop (ι := Nat × Nat × List SecV) (fun ⟨i, j, cur⟩ => 0 < i ∧ 0 < j ∧ i ≤ md ∧ md + j ≤ l.length ∧ cur.length = l.length ∧ mp (rotF (md - i) md (md + j)) cur = mp (rotF a md b) l) (fun _ => _) (fun ⟨i, j, cur⟩ => [rowE V 81 encSec cur]) (fun ⟨i, j, cur⟩ => [(10, .int .i64 (i : Nat)), (11, .int .i64 (j : Nat))]) (fun ⟨i, j, cur⟩ => i + j) (md - a, b - md, l) ⟨by omega, by omega, by omega, by omega, rfl, by rw [show md - (md - a) = a by omega, show md + (b - md) = b by omega]⟩ (.cons (by first | rfl | exact lookI rfl (by omega) | exact lookI rfl (by simp) | exact lookB rfl (by simp)) (.cons (by first | rfl | exact lookI rfl (by omega) | exact lookI rfl (by simp) | exact lookB rfl (by simp)) Front.nil)) (by repeat' (first | exact Pick.nil _ | exact Del.here _ | apply Pick.cons | apply Del.there)) rfl (fun i hi m hm => ?_)
  obtain ⟨i, j, cur⟩ := i
  replace hi : 0 < i ∧ 0 < j ∧ i ≤ md ∧ md + j ≤ l.length ∧ cur.length = l.length ∧ mp (rotF (md - i) md (md + j)) cur = mp (rotF a md b) l := hi
  replace hm : m = i + j := hm
  change Tr _ _ [rowE V 81 encSec cur] ([(10, .int .i64 (i : Nat)), (11, .int .i64 (j : Nat))] ++ _) _
  obtain ⟨hi1, hi2, hi3, hi4, hi5, hi6⟩ := hi
  refine Tr.seq ?_
  refine Tr.seq ?_
  refine Tr.region ?_
  refine Tr.q (QS.move rfl) rfl ?_
  refine Tr.q (QS.move rfl) rfl ?_
  refine Tr.q (QS.neq rfl rfl) rfl ?_
  refine Tr.nil ?_
  refine Tr.thenN ?_
  refine Tr.cond rfl (fun h1 => ?_) (fun h1 => ?_)
  · try simp only [bs] at h1
    refine Tr.skip ?_
    refine Tr.thenN ?_
    refine Tr.block ?_
    refine Tr.seq ?_
    refine Tr.region ?_
    refine Tr.q (QS.move rfl) rfl ?_
    refine Tr.q (QS.move rfl) rfl ?_
    refine Tr.q (QS.gtr rfl rfl) rfl ?_
    refine Tr.nil ?_
    refine Tr.thenN ?_
    refine Tr.cond rfl (fun h2 => ?_) (fun h2 => ?_)
    · try simp only [bs] at h2
      refine Tr.seq ?_
      refine Tr.region ?_
      refine Tr.q (QS.move rfl) rfl ?_
      refine Tr.q (QS.move rfl) rfl ?_
      refine Tr.q (QS.move rfl) rfl ?_
      first | refine Tr.q (QS.subI rfl rfl (by omega)) rfl ?_ | refine Tr.q (QS.sub rfl rfl) rfl ?_
      refine Tr.q (QS.move rfl) rfl ?_
      refine Tr.q (QS.move rfl) rfl ?_
      refine Tr.q (QS.move rfl) rfl ?_
      refine Tr.callMut rfl Try.call118 (by repeat (first | exact Put.here _ | apply Put.there)) (fun w hw => swapRange_sec cur V (md - i) md j _ _ _ (by omega) (by omega) (by omega) cv w (hw.ent _ (.head _)) (by omega) (by omega) (by omega)) rfl ?_
      refine Tr.nil ?_
      refine Tr.thenN ?_
      refine Tr.region ?_
      refine Tr.q (QS.move rfl) rfl ?_
      refine Tr.q (QS.move rfl) rfl ?_
      first | refine Tr.q (QS.subI rfl rfl (by omega)) rfl ?_ | refine Tr.q (QS.sub rfl rfl) rfl ?_
      refine Tr.q (QS.assign rfl) rfl ?_
      refine Tr.nil ?_
      refine Tr.inN ?_
      refine Tr.thenN ?_
      have hn := (rot_gt (l := cur) (m := md) (i := i) (j := j) hi3 (by omega) (by omega)).trans hi6
      apply Tr.again (i - j, j, _)
      · exact rfl
      · exact (.cons (by first | rfl | exact lookI rfl (by omega) | exact lookI rfl (by simp) | exact lookB rfl (by simp)) (.cons (by first | rfl | exact lookI rfl (by omega) | exact lookI rfl (by simp) | exact lookB rfl (by simp)) Front.nil))
      · exact SubX.dropN 20 (by kernel_rfl) rfl
      · exact (by repeat' (first | exact Pick.nil _ | exact Del.here _ | apply Pick.cons | apply Del.there))
      · exact ⟨by omega, hi2, by omega, hi4, by rw [mp_len]; exact hi5, hn⟩
      · exact (by (try dsimp only); omega)
    · try simp only [bs] at h2
      refine Tr.seq ?_
      refine Tr.region ?_
      refine Tr.q (QS.move rfl) rfl ?_
      refine Tr.q (QS.move rfl) rfl ?_
      refine Tr.q (QS.move rfl) rfl ?_
      first | refine Tr.q (QS.subI rfl rfl (by omega)) rfl ?_ | refine Tr.q (QS.sub rfl rfl) rfl ?_
      refine Tr.q (QS.move rfl) rfl ?_
      refine Tr.q (QS.move rfl) rfl ?_
      first | refine Tr.q (QS.addI rfl rfl (by omega)) rfl ?_ | refine Tr.q (QS.add rfl rfl) rfl ?_
      refine Tr.q (QS.move rfl) rfl ?_
      first | refine Tr.q (QS.subI rfl rfl (by omega)) rfl ?_ | refine Tr.q (QS.sub rfl rfl) rfl ?_
      refine Tr.q (QS.move rfl) rfl ?_
      refine Tr.q (QS.move rfl) rfl ?_
      refine Tr.callMut rfl Try.call118 (by repeat (first | exact Put.here _ | apply Put.there)) (fun w hw => swapRange_sec cur V (md - i) (md + j - i) i _ _ _ (by omega) (by omega) (by omega) cv w (hw.ent _ (.head _)) (by omega) (by omega) (by omega)) rfl ?_
      refine Tr.nil ?_
      refine Tr.thenN ?_
      refine Tr.region ?_
      refine Tr.q (QS.move rfl) rfl ?_
      refine Tr.q (QS.move rfl) rfl ?_
      first | refine Tr.q (QS.subI rfl rfl (by omega)) rfl ?_ | refine Tr.q (QS.sub rfl rfl) rfl ?_
      refine Tr.q (QS.assign rfl) rfl ?_
      refine Tr.nil ?_
      refine Tr.inN ?_
      refine Tr.thenN ?_
      have hn := (rot_lt (l := cur) (m := md) (i := i) (j := j) hi3 (by omega) (by omega)).trans hi6
      apply Tr.again (i, j - i, _)
      · exact rfl
      · exact (.cons (by first | rfl | exact lookI rfl (by omega) | exact lookI rfl (by simp) | exact lookB rfl (by simp)) (.cons (by first | rfl | exact lookI rfl (by omega) | exact lookI rfl (by simp) | exact lookB rfl (by simp)) Front.nil))
      · exact SubX.dropN 24 (by kernel_rfl) rfl
      · exact (by repeat' (first | exact Pick.nil _ | exact Del.here _ | apply Pick.cons | apply Del.there))
      · exact ⟨hi1, by omega, hi3, by omega, by rw [mp_len]; exact hi5, hn⟩
      · exact (by (try dsimp only); omega)
  · try simp only [bs] at h1
    refine Tr.exit ?_
    refine Tr.thenE ?_
    refine Tr.thenE ?_
    refine Tr.inHit ?_
    refine Tr.thenN ?_
    refine Tr.region ?_
    refine Tr.q (QS.move rfl) rfl ?_
    refine Tr.q (QS.move rfl) rfl ?_
    refine Tr.q (QS.move rfl) rfl ?_
    first | refine Tr.q (QS.subI rfl rfl (by omega)) rfl ?_ | refine Tr.q (QS.sub rfl rfl) rfl ?_
    refine Tr.q (QS.move rfl) rfl ?_
    refine Tr.q (QS.move rfl) rfl ?_
    refine Tr.q (QS.move rfl) rfl ?_
    refine Tr.callMut rfl Try.call118 (by repeat (first | exact Put.here _ | apply Put.there)) (fun w hw => swapRange_sec cur V (md - i) md i _ _ _ (by omega) (by omega) (by omega) cv w (hw.ent _ (.head _)) (by omega) (by omega) (by omega)) rfl ?_
    refine Tr.nil ?_
    refine Tr.ret0n Try.results116 (fun w' hw => ?_)
    obtain rfl : j = i := by omega
    rw [rot_eq hi3, hi6] at hw
    exact ⟨rfl, HpOK.mutOwn hw (.head _) rfl⟩

set_option maxRecDepth 100000 in
set_option maxHeartbeats 8000000 in
theorem sym_step (l : List SecV) (V : Value) (a : Nat) (md : Nat) (b : Nat) (ai : Int) (mdi : Int) (bi : Int) (ea : ai = ((a : Nat) : Int)) (emd : mdi = ((md : Nat) : Int)) (eb : bi = ((b : Nat) : Int)) (g : FuncId) (cmp : SecV → SecV → Int) (eg : ∀ args w, (callFunc g args).run Try.prog w = .ok (.enter g args) w) (hc : ∀ x y w', Calls Try.prog g ([Value.agg (encSec.enc x).toArray, Value.agg (encSec.enc y).toArray] ++ []).toArray w' fun e w'' => e = .returned (.int .i64 (cmp x y)) ∧ Ext w' w'') (hO : WO (ltC cmp)) (w : World) (hr : (rowE V 81 encSec l).holds w) (hl : l.length ≤ 1000000) (ih : ∀ n, n < b - a → SymFor g cmp V n) (ham : a < md) (hmb : md < b) (hb : b ≤ l.length) (h1s : Srt (ltC cmp) l a md) (h2s : Srt (ltC cmp) l md b) :
    Calls Try.prog 110 #[V, .int .i64 ai, .int .i64 mdi, .int .i64 bi, .func (.func g) #[] #[]] w (srtP cmp V l a b w) := by
  subst ea emd eb
  refine enterOwn (l := l) (E := encSec) (T := 81) hr Try.func110 rfl Try.ntmps110 rfl ?_
  refine Tr.seq ?_
  refine Tr.seq ?_
  refine Tr.region ?_
  refine Tr.q (QS.move rfl) rfl ?_
  refine Tr.q (QS.move rfl) rfl ?_
  first | refine Tr.q (QS.subI rfl rfl (by omega)) rfl ?_ | refine Tr.q (QS.sub rfl rfl) rfl ?_
  refine Tr.q (QS.eql rfl rfl) rfl ?_
  refine Tr.nil ?_
  refine Tr.thenN ?_
  refine Tr.cond rfl (fun h1 => ?_) (fun h1 => ?_)
  · try simp only [bs] at h1
    refine Tr.seq ?_
    refine Tr.region ?_
    refine Tr.q (QS.move rfl) rfl ?_
    refine Tr.q (QS.assign rfl) rfl ?_
    refine Tr.nil ?_
    refine Tr.thenN ?_
    refine Tr.seq ?_
    refine Tr.region ?_
    refine Tr.q (QS.move rfl) rfl ?_
    refine Tr.q (QS.assign rfl) rfl ?_
    refine Tr.nil ?_
    refine Tr.thenN ?_
    refine Tr.seq ?_
    refine Tr.block ?_
    refine Tr.loop (ι := Nat × Nat) (fun ⟨i, j⟩ => md ≤ i ∧ i ≤ j ∧ j ≤ b ∧ (∀ q, md ≤ q → q < i → ltC cmp (l.getD q default) (l.getD a default) = true) ∧ (∀ q, j ≤ q → q < b → ltC cmp (l.getD q default) (l.getD a default) = false)) (fun _ => _) (fun ⟨i, j⟩ => [rowE V 81 encSec l]) (fun ⟨i, j⟩ => [(10, .int .i64 (i : Nat)), (11, .int .i64 (j : Nat))]) (fun ⟨i, j⟩ => j - i) (md, b) ⟨Nat.le_refl _, by omega, Nat.le_refl _, fun q x y => by omega, fun q x y => by omega⟩ (.cons (by first | rfl | exact lookI rfl (by omega) | exact lookI rfl (by simp) | exact lookB rfl (by simp)) (.cons (by first | rfl | exact lookI rfl (by omega) | exact lookI rfl (by simp) | exact lookB rfl (by simp)) Front.nil)) (by repeat' (first | exact Pick.nil _ | exact Del.here _ | apply Pick.cons | apply Del.there)) rfl (fun i hi m hm => ?_)
    obtain ⟨i, j⟩ := i
    replace hi : md ≤ i ∧ i ≤ j ∧ j ≤ b ∧ (∀ q, md ≤ q → q < i → ltC cmp (l.getD q default) (l.getD a default) = true) ∧ (∀ q, j ≤ q → q < b → ltC cmp (l.getD q default) (l.getD a default) = false) := hi
    replace hm : m = j - i := hm
    change Tr _ _ [rowE V 81 encSec l] ([(10, .int .i64 (i : Nat)), (11, .int .i64 (j : Nat))] ++ _) _
    obtain ⟨hi1, hi2, hi3, hi4, hi5⟩ := hi
    refine Tr.seq ?_
    refine Tr.seq ?_
    refine Tr.region ?_
    refine Tr.q (QS.move rfl) rfl ?_
    refine Tr.q (QS.move rfl) rfl ?_
    refine Tr.q (QS.lss rfl rfl) rfl ?_
    refine Tr.nil ?_
    refine Tr.thenN ?_
    refine Tr.cond rfl (fun h2 => ?_) (fun h2 => ?_)
    · try simp only [bs] at h2
      refine Tr.skip ?_
      refine Tr.thenN ?_
      refine Tr.block ?_
      refine Tr.seq ?_
      refine Tr.region ?_
      refine Tr.q (QS.move rfl) rfl ?_
      refine Tr.q (QS.move rfl) rfl ?_
      first | refine Tr.q (QS.addI rfl rfl (by omega)) rfl ?_ | refine Tr.q (QS.add rfl rfl) rfl ?_
      first | refine Tr.q (QS.cvtIn rfl Try.underlying3 Try.underlying71 (IntWalk.u64_in _ (by omega))) rfl ?_ | refine Tr.q (QS.cvt rfl Try.underlying3 Try.underlying71) rfl ?_
      first | refine Tr.q (QS.shr1 rfl rfl (by omega)) rfl ?_ | refine Tr.q (QS.shr rfl rfl (by omega)) rfl ?_
      first | refine Tr.q (QS.cvtIn rfl Try.underlying71 Try.underlying3 (IntWalk.i64_in _ (by omega))) rfl ?_ | refine Tr.q (QS.cvt rfl Try.underlying71 Try.underlying3) rfl ?_
      refine Tr.q (QS.assign rfl) rfl ?_
      refine Tr.nil ?_
      refine Tr.thenN ?_
      refine Tr.seq ?_
      obtain ⟨h, hhh⟩ : ∃ h, h = (i + j) / 2 := ⟨_, rfl⟩
      rw [show (((i : Nat) : Int) + ((j : Nat) : Int)) / 2 = ((h : Nat) : Int) by omega]
      refine Tr.regionQ HLF.mixed (by kernel_rfl) ?_
      refine TrQ.q (QS.move rfl) rfl ?_
      refine TrQ.q (QS.move rfl) rfl ?_
      refine TrQ.q (QS.move rfl) rfl ?_
      first | refine TrQ.q (QS.idxN rfl rfl (by assumption) Try.underlying53 Try.sizeOf81 (by rfl) (by omega)) rfl ?_ | refine TrQ.q (QS.idxRowN rfl rfl (by repeat (first | exact List.Mem.head _ | apply List.Mem.tail)) Try.underlying53 Try.sizeOf81 (by rfl) (by omega)) rfl ?_ | refine TrQ.q (QS.idx rfl rfl (by assumption) Try.underlying53 Try.sizeOf81 (by rfl) (by omega)) rfl ?_ | refine TrQ.q (QS.idxRow rfl rfl (by repeat (first | exact List.Mem.head _ | apply List.Mem.tail)) Try.underlying53 Try.sizeOf81 (by rfl) (by omega)) rfl ?_
      first | refine TrQ.q (QS.elA rfl (by assumption) Try.isAgg81 Try.sizeOf81 (by rfl) (by omega)) rfl ?_ | refine TrQ.q (QS.elRA rfl (by repeat (first | exact List.Mem.head _ | apply List.Mem.tail)) Try.isAgg81 Try.sizeOf81 (by rfl) (by omega)) rfl ?_
      refine TrQ.q (QS.move rfl) rfl ?_
      refine TrQ.q (QS.move rfl) rfl ?_
      first | refine TrQ.q (QS.idxN rfl rfl (by assumption) Try.underlying53 Try.sizeOf81 (by rfl) (by omega)) rfl ?_ | refine TrQ.q (QS.idxRowN rfl rfl (by repeat (first | exact List.Mem.head _ | apply List.Mem.tail)) Try.underlying53 Try.sizeOf81 (by rfl) (by omega)) rfl ?_ | refine TrQ.q (QS.idx rfl rfl (by assumption) Try.underlying53 Try.sizeOf81 (by rfl) (by omega)) rfl ?_ | refine TrQ.q (QS.idxRow rfl rfl (by repeat (first | exact List.Mem.head _ | apply List.Mem.tail)) Try.underlying53 Try.sizeOf81 (by rfl) (by omega)) rfl ?_
      first | refine TrQ.q (QS.elA rfl (by assumption) Try.isAgg81 Try.sizeOf81 (by rfl) (by omega)) rfl ?_ | refine TrQ.q (QS.elRA rfl (by repeat (first | exact List.Mem.head _ | apply List.Mem.tail)) Try.isAgg81 Try.sizeOf81 (by rfl) (by omega)) rfl ?_
      refine TrQ.q (QS.callV rfl rfl eg (fun w hw => hc _ _ w)) rfl ?_
      refine TrQ.q (QS.lss rfl rfl) rfl ?_
      refine TrQ.nil ?_
      refine Tr.thenN ?_
      refine Tr.cond rfl (fun h3 => ?_) (fun h3 => ?_)
      · try simp only [bs] at h3
        refine Tr.region ?_
        refine Tr.q (QS.move rfl) rfl ?_
        first | refine Tr.q (QS.addI rfl rfl (by omega)) rfl ?_ | refine Tr.q (QS.add rfl rfl) rfl ?_
        refine Tr.q (QS.assign rfl) rfl ?_
        refine Tr.nil ?_
        refine Tr.inN ?_
        refine Tr.thenN ?_
        have hx : ltC cmp (l.getD h default) (l.getD a default) = true := by simp only [ltC, decide_eq_true_eq]; assumption
        have hn : ∀ q, md ≤ q → q < h + 1 → ltC cmp (l.getD q default) (l.getD a default) = true := fun q x y => hO.le_lt (h2s.le hO x (by omega) (by omega)) hx
        apply Tr.again (h + 1, j)
        · exact rfl
        · exact (.cons (by first | rfl | exact lookI rfl (by omega) | exact lookI rfl (by simp) | exact lookB rfl (by simp)) (.cons (by first | rfl | exact lookI rfl (by omega) | exact lookI rfl (by simp) | exact lookB rfl (by simp)) Front.nil))
        · exact SubX.dropN 26 (by kernel_rfl) rfl
        · exact (by repeat' (first | exact Pick.nil _ | exact Del.here _ | apply Pick.cons | apply Del.there))
        · exact ⟨by omega, by omega, hi3, hn, hi5⟩
        · exact (by (try dsimp only); omega)
      · try simp only [bs] at h3
        refine Tr.region ?_
        refine Tr.q (QS.move rfl) rfl ?_
        refine Tr.q (QS.assign rfl) rfl ?_
        refine Tr.nil ?_
        refine Tr.inN ?_
        refine Tr.thenN ?_
        have hx : ltC cmp (l.getD h default) (l.getD a default) = false := by simp only [ltC, decide_eq_false_iff_not]; assumption
        have hn : ∀ q, h ≤ q → q < b → ltC cmp (l.getD q default) (l.getD a default) = false := fun q x y => hO.ntr _ _ _ (h2s.le hO (by omega) x y) hx
        apply Tr.again (i, h)
        · exact rfl
        · exact (.cons (by first | rfl | exact lookI rfl (by omega) | exact lookI rfl (by simp) | exact lookB rfl (by simp)) (.cons (by first | rfl | exact lookI rfl (by omega) | exact lookI rfl (by simp) | exact lookB rfl (by simp)) Front.nil))
        · exact SubX.dropN 25 (by kernel_rfl) rfl
        · exact (by repeat' (first | exact Pick.nil _ | exact Del.here _ | apply Pick.cons | apply Del.there))
        · exact ⟨hi1, by omega, by omega, hi4, hn⟩
        · exact (by (try dsimp only); omega)
    · try simp only [bs] at h2
      refine Tr.exit ?_
      refine Tr.thenE ?_
      refine Tr.thenE ?_
      refine Tr.inHit ?_
      refine Tr.thenN ?_
      refine Tr.seq ?_
      refine Tr.seq ?_
      refine Tr.region ?_
      refine Tr.q (QS.move rfl) rfl ?_
      refine Tr.q (QS.assign rfl) rfl ?_
      refine Tr.nil ?_
      refine Tr.thenN ?_
      refine Tr.block ?_
      have e0 : mp (rotF a (a + 1) (a + 1)) l = l := rot_none (.inr rfl) (by omega) (Nat.le_refl _)
      refine Tr.rowEq e0.symm ?_
      refine Tr.loop (ι := Nat) (fun k => a ≤ k ∧ k + 1 ≤ i) (fun _ => _) (fun k => [rowE V 81 encSec (mp (rotF a (a + 1) (k + 1)) l)]) (fun k => [(13, .int .i64 (k : Nat))]) (fun k => i - k) a ⟨Nat.le_refl _, by omega⟩ (.cons (by first | rfl | exact lookI rfl (by omega) | exact lookI rfl (by simp) | exact lookB rfl (by simp)) Front.nil) (by repeat' (first | exact Pick.nil _ | exact Del.here _ | apply Pick.cons | apply Del.there)) rfl (fun k hi m hm => ?_)
      replace hi : a ≤ k ∧ k + 1 ≤ i := hi
      replace hm : m = i - k := hm
      change Tr _ _ [rowE V 81 encSec (mp (rotF a (a + 1) (k + 1)) l)] ([(13, .int .i64 (k : Nat))] ++ _) _
      obtain ⟨hk1, hk2⟩ := hi
      have hml : (mp (rotF a (a + 1) (k + 1)) l).length = l.length := mp_len _ _
      refine Tr.seq ?_
      refine Tr.seq ?_
      refine Tr.region ?_
      refine Tr.q (QS.move rfl) rfl ?_
      refine Tr.q (QS.move rfl) rfl ?_
      first | refine Tr.q (QS.subI rfl rfl (by omega)) rfl ?_ | refine Tr.q (QS.sub rfl rfl) rfl ?_
      refine Tr.q (QS.lss rfl rfl) rfl ?_
      refine Tr.nil ?_
      refine Tr.thenN ?_
      refine Tr.cond rfl (fun h4 => ?_) (fun h4 => ?_)
      · try simp only [bs] at h4
        refine Tr.skip ?_
        refine Tr.thenN ?_
        refine Tr.seq ?_
        refine Tr.block ?_
        refine Tr.regionT 5 15 HLF.mixed (by kernel_rfl) (panicIn (panicThen (panicThen (panicIn (panicThen (panicThen panicBody)))))) ?_
        refine TrQ.pureMove rfl rfl ?_
        refine TrQ.pureMove rfl rfl ?_
        refine TrQ.pureMove rfl rfl ?_
        refine TrQ.pureMove rfl rfl ?_
        first | refine TrQ.pureQ (fun _ => QS.addI rfl rfl (by omega)) (by rfl) rfl ?_ | refine TrQ.pureQ (fun _ => QS.add rfl rfl) (by rfl) rfl ?_
        refine TrQ.pureNil ?_
        refine TrQ.q (QS.move rfl) rfl ?_
        refine TrQ.q (QS.move rfl) rfl ?_
        first | refine TrQ.q (QS.addI rfl rfl (by omega)) rfl ?_ | refine TrQ.q (QS.add rfl rfl) rfl ?_
        first | refine TrQ.q (QS.idxN rfl rfl (by assumption) Try.underlying53 Try.sizeOf81 (by rfl) (by omega)) rfl ?_ | refine TrQ.q (QS.idxRowN rfl rfl (by repeat (first | exact List.Mem.head _ | apply List.Mem.tail)) Try.underlying53 Try.sizeOf81 (by rfl) (by omega)) rfl ?_ | refine TrQ.q (QS.idx rfl rfl (by assumption) Try.underlying53 Try.sizeOf81 (by rfl) (by omega)) rfl ?_ | refine TrQ.q (QS.idxRow rfl rfl (by repeat (first | exact List.Mem.head _ | apply List.Mem.tail)) Try.underlying53 Try.sizeOf81 (by rfl) (by omega)) rfl ?_
        first | refine TrQ.q (QS.elA rfl (by assumption) Try.isAgg81 Try.sizeOf81 (by rfl) (by omega)) rfl ?_ | refine TrQ.q (QS.elRA rfl (by repeat (first | exact List.Mem.head _ | apply List.Mem.tail)) Try.isAgg81 Try.sizeOf81 (by rfl) (by omega)) rfl ?_
        refine TrQ.q (QS.move rfl) rfl ?_
        refine TrQ.q (QS.move rfl) rfl ?_
        first | refine TrQ.q (QS.idxN rfl rfl (by assumption) Try.underlying53 Try.sizeOf81 (by rfl) (by omega)) rfl ?_ | refine TrQ.q (QS.idxRowN rfl rfl (by repeat (first | exact List.Mem.head _ | apply List.Mem.tail)) Try.underlying53 Try.sizeOf81 (by rfl) (by omega)) rfl ?_ | refine TrQ.q (QS.idx rfl rfl (by assumption) Try.underlying53 Try.sizeOf81 (by rfl) (by omega)) rfl ?_ | refine TrQ.q (QS.idxRow rfl rfl (by repeat (first | exact List.Mem.head _ | apply List.Mem.tail)) Try.underlying53 Try.sizeOf81 (by rfl) (by omega)) rfl ?_
        first | refine TrQ.q (QS.elA rfl (by assumption) Try.isAgg81 Try.sizeOf81 (by rfl) (by omega)) rfl ?_ | refine TrQ.q (QS.elRA rfl (by repeat (first | exact List.Mem.head _ | apply List.Mem.tail)) Try.isAgg81 Try.sizeOf81 (by rfl) (by omega)) rfl ?_
        first | refine TrQ.q (QS.idxN rfl rfl (by assumption) Try.underlying53 Try.sizeOf81 (by rfl) (by omega)) rfl ?_ | refine TrQ.q (QS.idxRowN rfl rfl (by repeat (first | exact List.Mem.head _ | apply List.Mem.tail)) Try.underlying53 Try.sizeOf81 (by rfl) (by omega)) rfl ?_ | refine TrQ.q (QS.idx rfl rfl (by assumption) Try.underlying53 Try.sizeOf81 (by rfl) (by omega)) rfl ?_ | refine TrQ.q (QS.idxRow rfl rfl (by repeat (first | exact List.Mem.head _ | apply List.Mem.tail)) Try.underlying53 Try.sizeOf81 (by rfl) (by omega)) rfl ?_
        refine TrQ.nil ?_
        refine Tr.storeEl (l := (mp (rotF a (a + 1) (k + 1)) l)) (i := k) ((mp (rotF a (a + 1) (k + 1)) l).getD (k + 1) default) rfl rfl Try.sizeOf81 (by repeat (first | exact Put.here _ | apply Put.there)) (by (try simp only [List.length_set]); omega) (by rfl) rfl ?_
        have hls5 : (List.set (mp (rotF a (a + 1) (k + 1)) l) (k) ((mp (rotF a (a + 1) (k + 1)) l).getD (k + 1) default)).length = ((mp (rotF a (a + 1) (k + 1)) l)).length := List.length_set
        first | refine Tr.q (QS.idxN rfl rfl (by assumption) Try.underlying53 Try.sizeOf81 (by rfl) (by omega)) rfl ?_ | refine Tr.q (QS.idxRowN rfl rfl (by repeat (first | exact List.Mem.head _ | apply List.Mem.tail)) Try.underlying53 Try.sizeOf81 (by rfl) (by omega)) rfl ?_ | refine Tr.q (QS.idx rfl rfl (by assumption) Try.underlying53 Try.sizeOf81 (by rfl) (by omega)) rfl ?_ | refine Tr.q (QS.idxRow rfl rfl (by repeat (first | exact List.Mem.head _ | apply List.Mem.tail)) Try.underlying53 Try.sizeOf81 (by rfl) (by omega)) rfl ?_
        refine Tr.storeEl (l := ((mp (rotF a (a + 1) (k + 1)) l).set (k) ((mp (rotF a (a + 1) (k + 1)) l).getD (k + 1) default))) (i := k + 1) ((mp (rotF a (a + 1) (k + 1)) l).getD (k) default) rfl rfl Try.sizeOf81 (by repeat (first | exact Put.here _ | apply Put.there)) (by (try simp only [List.length_set]); omega) (by rfl) rfl ?_
        have hls6 : (List.set ((mp (rotF a (a + 1) (k + 1)) l).set (k) ((mp (rotF a (a + 1) (k + 1)) l).getD (k + 1) default)) (k + 1) ((mp (rotF a (a + 1) (k + 1)) l).getD (k) default)).length = (((mp (rotF a (a + 1) (k + 1)) l).set (k) ((mp (rotF a (a + 1) (k + 1)) l).getD (k + 1) default))).length := List.length_set
        refine Tr.nil ?_
        refine Tr.inN ?_
        refine Tr.thenN ?_
        refine Tr.region ?_
        refine Tr.q (QS.move rfl) rfl ?_
        first | refine Tr.q (QS.addI rfl rfl (by omega)) rfl ?_ | refine Tr.q (QS.add rfl rfl) rfl ?_
        refine Tr.q (QS.assign rfl) rfl ?_
        refine Tr.nil ?_
        refine Tr.thenN ?_
        have hsw := mp_sw (l := (mp (rotF a (a + 1) (k + 1)) l)) (p := k) (q := k + 1) (by omega) (by omega)
        rw [rot_up hk1 (by omega)] at hsw
        rw [hsw]
        apply Tr.again (k + 1)
        · exact rfl
        · exact (.cons (by first | rfl | exact lookI rfl (by omega) | exact lookI rfl (by simp) | exact lookB rfl (by simp)) Front.nil)
        · exact SubX.dropN 24 (by kernel_rfl) rfl
        · exact (by repeat' (first | exact Pick.nil _ | exact Del.here _ | apply Pick.cons | apply Del.there))
        · exact ⟨by omega, by omega⟩
        · exact (by (try dsimp only); omega)
      · try simp only [bs] at h4
        refine Tr.exit ?_
        refine Tr.thenE ?_
        refine Tr.thenE ?_
        refine Tr.inHit ?_
        refine Tr.thenN ?_
        refine Tr.ret ?_
        refine Tr.thenR ?_
        refine Tr.ret0 Try.results110 (fun w' hw => ?_)
        have hin := srt_ins' hO (l := l) (a := a) (i := i) (b := b) (by rw [show a + 1 = md by omega]; exact h2s) hb (by omega) (by omega) (fun q x y => hi4 q (by omega) y) (fun q x y => hi5 q (by omega) y)
        obtain rfl : i = k + 1 := by omega
        exact ⟨rfl, _, ⟨hin.1, Fram.rot (Nat.le_refl _) (by omega) (by omega) (by omega), hin.2⟩, HpOK.mutOwn hw (.head _) rfl⟩
  · try simp only [bs] at h1
    refine Tr.skip ?_
    refine Tr.thenN ?_
    refine Tr.seq ?_
    refine Tr.seq ?_
    refine Tr.region ?_
    refine Tr.q (QS.move rfl) rfl ?_
    refine Tr.q (QS.move rfl) rfl ?_
    first | refine Tr.q (QS.subI rfl rfl (by omega)) rfl ?_ | refine Tr.q (QS.sub rfl rfl) rfl ?_
    refine Tr.q (QS.eql rfl rfl) rfl ?_
    refine Tr.nil ?_
    refine Tr.thenN ?_
    refine Tr.cond rfl (fun h7 => ?_) (fun h7 => ?_)
    · try simp only [bs] at h7
      refine Tr.seq ?_
      refine Tr.region ?_
      refine Tr.q (QS.move rfl) rfl ?_
      refine Tr.q (QS.assign rfl) rfl ?_
      refine Tr.nil ?_
      refine Tr.thenN ?_
      refine Tr.seq ?_
      refine Tr.region ?_
      refine Tr.q (QS.move rfl) rfl ?_
      refine Tr.q (QS.assign rfl) rfl ?_
      refine Tr.nil ?_
      refine Tr.thenN ?_
      refine Tr.seq ?_
      refine Tr.block ?_
      refine Tr.loop (ι := Nat × Nat) (fun ⟨i, j⟩ => a ≤ i ∧ i ≤ j ∧ j ≤ md ∧ (∀ q, a ≤ q → q < i → ltC cmp (l.getD md default) (l.getD q default) = false) ∧ (∀ q, j ≤ q → q < md → ltC cmp (l.getD md default) (l.getD q default) = true)) (fun _ => _) (fun ⟨i, j⟩ => [rowE V 81 encSec l]) (fun ⟨i, j⟩ => [(14, .int .i64 (i : Nat)), (15, .int .i64 (j : Nat))]) (fun ⟨i, j⟩ => j - i) (a, md) ⟨Nat.le_refl _, by omega, Nat.le_refl _, fun q x y => by omega, fun q x y => by omega⟩ (.cons (by first | rfl | exact lookI rfl (by omega) | exact lookI rfl (by simp) | exact lookB rfl (by simp)) (.cons (by first | rfl | exact lookI rfl (by omega) | exact lookI rfl (by simp) | exact lookB rfl (by simp)) Front.nil)) (by repeat' (first | exact Pick.nil _ | exact Del.here _ | apply Pick.cons | apply Del.there)) rfl (fun i hi m hm => ?_)
      obtain ⟨i, j⟩ := i
      replace hi : a ≤ i ∧ i ≤ j ∧ j ≤ md ∧ (∀ q, a ≤ q → q < i → ltC cmp (l.getD md default) (l.getD q default) = false) ∧ (∀ q, j ≤ q → q < md → ltC cmp (l.getD md default) (l.getD q default) = true) := hi
      replace hm : m = j - i := hm
      change Tr _ _ [rowE V 81 encSec l] ([(14, .int .i64 (i : Nat)), (15, .int .i64 (j : Nat))] ++ _) _
      obtain ⟨hi1, hi2, hi3, hi4, hi5⟩ := hi
      refine Tr.seq ?_
      refine Tr.seq ?_
      refine Tr.region ?_
      refine Tr.q (QS.move rfl) rfl ?_
      refine Tr.q (QS.move rfl) rfl ?_
      refine Tr.q (QS.lss rfl rfl) rfl ?_
      refine Tr.nil ?_
      refine Tr.thenN ?_
      refine Tr.cond rfl (fun h8 => ?_) (fun h8 => ?_)
      · try simp only [bs] at h8
        refine Tr.skip ?_
        refine Tr.thenN ?_
        refine Tr.block ?_
        refine Tr.seq ?_
        refine Tr.region ?_
        refine Tr.q (QS.move rfl) rfl ?_
        refine Tr.q (QS.move rfl) rfl ?_
        first | refine Tr.q (QS.addI rfl rfl (by omega)) rfl ?_ | refine Tr.q (QS.add rfl rfl) rfl ?_
        first | refine Tr.q (QS.cvtIn rfl Try.underlying3 Try.underlying71 (IntWalk.u64_in _ (by omega))) rfl ?_ | refine Tr.q (QS.cvt rfl Try.underlying3 Try.underlying71) rfl ?_
        first | refine Tr.q (QS.shr1 rfl rfl (by omega)) rfl ?_ | refine Tr.q (QS.shr rfl rfl (by omega)) rfl ?_
        first | refine Tr.q (QS.cvtIn rfl Try.underlying71 Try.underlying3 (IntWalk.i64_in _ (by omega))) rfl ?_ | refine Tr.q (QS.cvt rfl Try.underlying71 Try.underlying3) rfl ?_
        refine Tr.q (QS.assign rfl) rfl ?_
        refine Tr.nil ?_
        refine Tr.thenN ?_
        refine Tr.seq ?_
        obtain ⟨h, hhh⟩ : ∃ h, h = (i + j) / 2 := ⟨_, rfl⟩
        rw [show (((i : Nat) : Int) + ((j : Nat) : Int)) / 2 = ((h : Nat) : Int) by omega]
        refine Tr.regionQ HLF.mixed (by kernel_rfl) ?_
        refine TrQ.q (QS.move rfl) rfl ?_
        refine TrQ.q (QS.move rfl) rfl ?_
        refine TrQ.q (QS.move rfl) rfl ?_
        first | refine TrQ.q (QS.idxN rfl rfl (by assumption) Try.underlying53 Try.sizeOf81 (by rfl) (by omega)) rfl ?_ | refine TrQ.q (QS.idxRowN rfl rfl (by repeat (first | exact List.Mem.head _ | apply List.Mem.tail)) Try.underlying53 Try.sizeOf81 (by rfl) (by omega)) rfl ?_ | refine TrQ.q (QS.idx rfl rfl (by assumption) Try.underlying53 Try.sizeOf81 (by rfl) (by omega)) rfl ?_ | refine TrQ.q (QS.idxRow rfl rfl (by repeat (first | exact List.Mem.head _ | apply List.Mem.tail)) Try.underlying53 Try.sizeOf81 (by rfl) (by omega)) rfl ?_
        first | refine TrQ.q (QS.elA rfl (by assumption) Try.isAgg81 Try.sizeOf81 (by rfl) (by omega)) rfl ?_ | refine TrQ.q (QS.elRA rfl (by repeat (first | exact List.Mem.head _ | apply List.Mem.tail)) Try.isAgg81 Try.sizeOf81 (by rfl) (by omega)) rfl ?_
        refine TrQ.q (QS.move rfl) rfl ?_
        refine TrQ.q (QS.move rfl) rfl ?_
        first | refine TrQ.q (QS.idxN rfl rfl (by assumption) Try.underlying53 Try.sizeOf81 (by rfl) (by omega)) rfl ?_ | refine TrQ.q (QS.idxRowN rfl rfl (by repeat (first | exact List.Mem.head _ | apply List.Mem.tail)) Try.underlying53 Try.sizeOf81 (by rfl) (by omega)) rfl ?_ | refine TrQ.q (QS.idx rfl rfl (by assumption) Try.underlying53 Try.sizeOf81 (by rfl) (by omega)) rfl ?_ | refine TrQ.q (QS.idxRow rfl rfl (by repeat (first | exact List.Mem.head _ | apply List.Mem.tail)) Try.underlying53 Try.sizeOf81 (by rfl) (by omega)) rfl ?_
        first | refine TrQ.q (QS.elA rfl (by assumption) Try.isAgg81 Try.sizeOf81 (by rfl) (by omega)) rfl ?_ | refine TrQ.q (QS.elRA rfl (by repeat (first | exact List.Mem.head _ | apply List.Mem.tail)) Try.isAgg81 Try.sizeOf81 (by rfl) (by omega)) rfl ?_
        refine TrQ.q (QS.callV rfl rfl eg (fun w hw => hc _ _ w)) rfl ?_
        refine TrQ.q (QS.lss rfl rfl) rfl ?_
        refine TrQ.q (QS.not rfl) rfl ?_
        refine TrQ.nil ?_
        refine Tr.thenN ?_
        refine Tr.cond rfl (fun h9 => ?_) (fun h9 => ?_)
        · try simp only [bs] at h9
          refine Tr.region ?_
          refine Tr.q (QS.move rfl) rfl ?_
          first | refine Tr.q (QS.addI rfl rfl (by omega)) rfl ?_ | refine Tr.q (QS.add rfl rfl) rfl ?_
          refine Tr.q (QS.assign rfl) rfl ?_
          refine Tr.nil ?_
          refine Tr.inN ?_
          refine Tr.thenN ?_
          have hx : ltC cmp (l.getD md default) (l.getD h default) = false := by simp only [ltC, decide_eq_false_iff_not]; assumption
          have hn : ∀ q, a ≤ q → q < h + 1 → ltC cmp (l.getD md default) (l.getD q default) = false := fun q x y => hO.ntr _ _ _ hx (h1s.le hO x (by omega) (by omega))
          apply Tr.again (h + 1, j)
          · exact rfl
          · exact (.cons (by first | rfl | exact lookI rfl (by omega) | exact lookI rfl (by simp) | exact lookB rfl (by simp)) (.cons (by first | rfl | exact lookI rfl (by omega) | exact lookI rfl (by simp) | exact lookB rfl (by simp)) Front.nil))
          · exact SubX.dropN 27 (by kernel_rfl) rfl
          · exact (by repeat' (first | exact Pick.nil _ | exact Del.here _ | apply Pick.cons | apply Del.there))
          · exact ⟨by omega, by omega, hi3, hn, hi5⟩
          · exact (by (try dsimp only); omega)
        · try simp only [bs] at h9
          refine Tr.region ?_
          refine Tr.q (QS.move rfl) rfl ?_
          refine Tr.q (QS.assign rfl) rfl ?_
          refine Tr.nil ?_
          refine Tr.inN ?_
          refine Tr.thenN ?_
          have hx : ltC cmp (l.getD md default) (l.getD h default) = true := by simp only [ltC, decide_eq_true_eq]; assumption
          have hn : ∀ q, h ≤ q → q < md → ltC cmp (l.getD md default) (l.getD q default) = true := fun q x y => hO.lt_le hx (h1s.le hO (by omega) x y)
          apply Tr.again (i, h)
          · exact rfl
          · exact (.cons (by first | rfl | exact lookI rfl (by omega) | exact lookI rfl (by simp) | exact lookB rfl (by simp)) (.cons (by first | rfl | exact lookI rfl (by omega) | exact lookI rfl (by simp) | exact lookB rfl (by simp)) Front.nil))
          · exact SubX.dropN 26 (by kernel_rfl) rfl
          · exact (by repeat' (first | exact Pick.nil _ | exact Del.here _ | apply Pick.cons | apply Del.there))
          · exact ⟨hi1, by omega, by omega, hi4, hn⟩
          · exact (by (try dsimp only); omega)
      · try simp only [bs] at h8
        refine Tr.exit ?_
        refine Tr.thenE ?_
        refine Tr.thenE ?_
        refine Tr.inHit ?_
        refine Tr.thenN ?_
        refine Tr.seq ?_
        refine Tr.seq ?_
        refine Tr.region ?_
        refine Tr.q (QS.move rfl) rfl ?_
        refine Tr.q (QS.assign rfl) rfl ?_
        refine Tr.nil ?_
        refine Tr.thenN ?_
        refine Tr.block ?_
        have e0 : mp (rotF md md (md + 1)) l = l := rot_none (.inl rfl) (Nat.le_refl _) (by omega)
        refine Tr.rowEq e0.symm ?_
        refine Tr.loop (ι := Nat) (fun k => i ≤ k ∧ k ≤ md) (fun _ => _) (fun k => [rowE V 81 encSec (mp (rotF k md (md + 1)) l)]) (fun k => [(17, .int .i64 (k : Nat))]) (fun k => k) md ⟨by omega, Nat.le_refl _⟩ (.cons (by first | rfl | exact lookI rfl (by omega) | exact lookI rfl (by simp) | exact lookB rfl (by simp)) Front.nil) (by repeat' (first | exact Pick.nil _ | exact Del.here _ | apply Pick.cons | apply Del.there)) rfl (fun k hi m hm => ?_)
        replace hi : i ≤ k ∧ k ≤ md := hi
        replace hm : m = k := hm
        change Tr _ _ [rowE V 81 encSec (mp (rotF k md (md + 1)) l)] ([(17, .int .i64 (k : Nat))] ++ _) _
        obtain ⟨hk1, hk2⟩ := hi
        have hml : (mp (rotF k md (md + 1)) l).length = l.length := mp_len _ _
        have ej : ((k : Int) - 1).toNat = k - 1 := by omega
        refine Tr.seq ?_
        refine Tr.seq ?_
        refine Tr.region ?_
        refine Tr.q (QS.move rfl) rfl ?_
        refine Tr.q (QS.move rfl) rfl ?_
        refine Tr.q (QS.gtr rfl rfl) rfl ?_
        refine Tr.nil ?_
        refine Tr.thenN ?_
        refine Tr.cond rfl (fun h10 => ?_) (fun h10 => ?_)
        · try simp only [bs] at h10
          refine Tr.skip ?_
          refine Tr.thenN ?_
          refine Tr.seq ?_
          refine Tr.block ?_
          refine Tr.regionT 5 15 HLF.mixed (by kernel_rfl) (panicIn (panicThen (panicThen (panicIn (panicThen (panicThen panicBody)))))) ?_
          refine TrQ.pureMove rfl rfl ?_
          refine TrQ.pureMove rfl rfl ?_
          refine TrQ.pureMove rfl rfl ?_
          refine TrQ.pureMove rfl rfl ?_
          first | refine TrQ.pureQ (fun _ => QS.subI rfl rfl (by omega)) (by rfl) rfl ?_ | refine TrQ.pureQ (fun _ => QS.sub rfl rfl) (by rfl) rfl ?_
          refine TrQ.pureNil ?_
          refine TrQ.q (QS.move rfl) rfl ?_
          refine TrQ.q (QS.move rfl) rfl ?_
          first | refine TrQ.q (QS.subI rfl rfl (by omega)) rfl ?_ | refine TrQ.q (QS.sub rfl rfl) rfl ?_
          first | refine TrQ.q (QS.idxN rfl rfl (by assumption) Try.underlying53 Try.sizeOf81 (by rfl) (by omega)) rfl ?_ | refine TrQ.q (QS.idxRowN rfl rfl (by repeat (first | exact List.Mem.head _ | apply List.Mem.tail)) Try.underlying53 Try.sizeOf81 (by rfl) (by omega)) rfl ?_ | refine TrQ.q (QS.idx rfl rfl (by assumption) Try.underlying53 Try.sizeOf81 (by rfl) (by omega)) rfl ?_ | refine TrQ.q (QS.idxRow rfl rfl (by repeat (first | exact List.Mem.head _ | apply List.Mem.tail)) Try.underlying53 Try.sizeOf81 (by rfl) (by omega)) rfl ?_
          first | refine TrQ.q (QS.elA rfl (by assumption) Try.isAgg81 Try.sizeOf81 (by rfl) (by omega)) rfl ?_ | refine TrQ.q (QS.elRA rfl (by repeat (first | exact List.Mem.head _ | apply List.Mem.tail)) Try.isAgg81 Try.sizeOf81 (by rfl) (by omega)) rfl ?_
          refine TrQ.q (QS.move rfl) rfl ?_
          refine TrQ.q (QS.move rfl) rfl ?_
          first | refine TrQ.q (QS.idxN rfl rfl (by assumption) Try.underlying53 Try.sizeOf81 (by rfl) (by omega)) rfl ?_ | refine TrQ.q (QS.idxRowN rfl rfl (by repeat (first | exact List.Mem.head _ | apply List.Mem.tail)) Try.underlying53 Try.sizeOf81 (by rfl) (by omega)) rfl ?_ | refine TrQ.q (QS.idx rfl rfl (by assumption) Try.underlying53 Try.sizeOf81 (by rfl) (by omega)) rfl ?_ | refine TrQ.q (QS.idxRow rfl rfl (by repeat (first | exact List.Mem.head _ | apply List.Mem.tail)) Try.underlying53 Try.sizeOf81 (by rfl) (by omega)) rfl ?_
          first | refine TrQ.q (QS.elA rfl (by assumption) Try.isAgg81 Try.sizeOf81 (by rfl) (by omega)) rfl ?_ | refine TrQ.q (QS.elRA rfl (by repeat (first | exact List.Mem.head _ | apply List.Mem.tail)) Try.isAgg81 Try.sizeOf81 (by rfl) (by omega)) rfl ?_
          first | refine TrQ.q (QS.idxN rfl rfl (by assumption) Try.underlying53 Try.sizeOf81 (by rfl) (by omega)) rfl ?_ | refine TrQ.q (QS.idxRowN rfl rfl (by repeat (first | exact List.Mem.head _ | apply List.Mem.tail)) Try.underlying53 Try.sizeOf81 (by rfl) (by omega)) rfl ?_ | refine TrQ.q (QS.idx rfl rfl (by assumption) Try.underlying53 Try.sizeOf81 (by rfl) (by omega)) rfl ?_ | refine TrQ.q (QS.idxRow rfl rfl (by repeat (first | exact List.Mem.head _ | apply List.Mem.tail)) Try.underlying53 Try.sizeOf81 (by rfl) (by omega)) rfl ?_
          refine TrQ.nil ?_
          refine Tr.storeEl (l := (mp (rotF k md (md + 1)) l)) (i := k) ((mp (rotF k md (md + 1)) l).getD (((k : Int) - 1).toNat) default) rfl rfl Try.sizeOf81 (by repeat (first | exact Put.here _ | apply Put.there)) (by (try simp only [List.length_set]); omega) (by rfl) rfl ?_
          have hls11 : (List.set (mp (rotF k md (md + 1)) l) (k) ((mp (rotF k md (md + 1)) l).getD (((k : Int) - 1).toNat) default)).length = ((mp (rotF k md (md + 1)) l)).length := List.length_set
          first | refine Tr.q (QS.idxN rfl rfl (by assumption) Try.underlying53 Try.sizeOf81 (by rfl) (by omega)) rfl ?_ | refine Tr.q (QS.idxRowN rfl rfl (by repeat (first | exact List.Mem.head _ | apply List.Mem.tail)) Try.underlying53 Try.sizeOf81 (by rfl) (by omega)) rfl ?_ | refine Tr.q (QS.idx rfl rfl (by assumption) Try.underlying53 Try.sizeOf81 (by rfl) (by omega)) rfl ?_ | refine Tr.q (QS.idxRow rfl rfl (by repeat (first | exact List.Mem.head _ | apply List.Mem.tail)) Try.underlying53 Try.sizeOf81 (by rfl) (by omega)) rfl ?_
          refine Tr.storeEl (l := ((mp (rotF k md (md + 1)) l).set (k) ((mp (rotF k md (md + 1)) l).getD (((k : Int) - 1).toNat) default))) (i := ((k : Int) - 1).toNat) ((mp (rotF k md (md + 1)) l).getD (k) default) rfl rfl Try.sizeOf81 (by repeat (first | exact Put.here _ | apply Put.there)) (by (try simp only [List.length_set]); omega) (by rfl) rfl ?_
          have hls12 : (List.set ((mp (rotF k md (md + 1)) l).set (k) ((mp (rotF k md (md + 1)) l).getD (((k : Int) - 1).toNat) default)) (((k : Int) - 1).toNat) ((mp (rotF k md (md + 1)) l).getD (k) default)).length = (((mp (rotF k md (md + 1)) l).set (k) ((mp (rotF k md (md + 1)) l).getD (((k : Int) - 1).toNat) default))).length := List.length_set
          refine Tr.nil ?_
          refine Tr.inN ?_
          refine Tr.thenN ?_
          refine Tr.region ?_
          refine Tr.q (QS.move rfl) rfl ?_
          first | refine Tr.q (QS.subI rfl rfl (by omega)) rfl ?_ | refine Tr.q (QS.sub rfl rfl) rfl ?_
          refine Tr.q (QS.assign rfl) rfl ?_
          refine Tr.nil ?_
          refine Tr.thenN ?_
          have hsw := mp_sw (l := (mp (rotF k md (md + 1)) l)) (p := k) (q := k - 1) (by omega) (by omega)
          rw [rot_down (by omega) hk2 (by omega)] at hsw
          rw [ej, hsw]
          apply Tr.again (k - 1)
          · exact rfl
          · exact (.cons (by first | rfl | exact lookI rfl (by omega) | exact lookI rfl (by simp) | exact lookB rfl (by simp)) Front.nil)
          · exact SubX.dropN 23 (by kernel_rfl) rfl
          · exact (by repeat' (first | exact Pick.nil _ | exact Del.here _ | apply Pick.cons | apply Del.there))
          · exact ⟨by omega, by omega⟩
          · exact (by (try dsimp only); omega)
        · try simp only [bs] at h10
          refine Tr.exit ?_
          refine Tr.thenE ?_
          refine Tr.thenE ?_
          refine Tr.inHit ?_
          refine Tr.thenN ?_
          refine Tr.ret ?_
          refine Tr.thenR ?_
          refine Tr.ret0 Try.results110 (fun w' hw => ?_)
          obtain rfl : i = k := by omega
          have hin := srt_ins hO (l := l) (a := a) (i := md) (j := i) h1s (by omega) (by omega) (by omega) (fun q x y => hi5 q (by omega) y) (if q : i = a then .inl q else .inr (hi4 _ (by omega) (by omega)))
          obtain rfl : b = md + 1 := by omega
          exact ⟨rfl, _, ⟨hin.1, Fram.rot (by omega) (Nat.le_refl _) (by omega) (by omega), hin.2⟩, HpOK.mutOwn hw (.head _) rfl⟩
    · try simp only [bs] at h7
      refine Tr.skip ?_
      refine Tr.thenN ?_
      refine Tr.seq ?_
      refine Tr.region ?_
      refine Tr.q (QS.move rfl) rfl ?_
      refine Tr.q (QS.move rfl) rfl ?_
      first | refine Tr.q (QS.addI rfl rfl (by omega)) rfl ?_ | refine Tr.q (QS.add rfl rfl) rfl ?_
      first | refine Tr.q (QS.cvtIn rfl Try.underlying3 Try.underlying71 (IntWalk.u64_in _ (by omega))) rfl ?_ | refine Tr.q (QS.cvt rfl Try.underlying3 Try.underlying71) rfl ?_
      first | refine Tr.q (QS.shr1 rfl rfl (by omega)) rfl ?_ | refine Tr.q (QS.shr rfl rfl (by omega)) rfl ?_
      first | refine Tr.q (QS.cvtIn rfl Try.underlying71 Try.underlying3 (IntWalk.i64_in _ (by omega))) rfl ?_ | refine Tr.q (QS.cvt rfl Try.underlying71 Try.underlying3) rfl ?_
      refine Tr.q (QS.assign rfl) rfl ?_
      refine Tr.nil ?_
      refine Tr.thenN ?_
      refine Tr.seq ?_
      obtain ⟨mid, hhmid⟩ : ∃ mid, mid = (a + b) / 2 := ⟨_, rfl⟩
      rw [show (((a : Nat) : Int) + ((b : Nat) : Int)) / 2 = ((mid : Nat) : Int) by omega]
      refine Tr.region ?_
      refine Tr.q (QS.move rfl) rfl ?_
      refine Tr.q (QS.move rfl) rfl ?_
      first | refine Tr.q (QS.addI rfl rfl (by omega)) rfl ?_ | refine Tr.q (QS.add rfl rfl) rfl ?_
      refine Tr.q (QS.assign rfl) rfl ?_
      refine Tr.nil ?_
      refine Tr.thenN ?_
      refine Tr.seq ?_
      refine Tr.region ?_
      refine Tr.q (QS.assign rfl) rfl ?_
      refine Tr.q (QS.assign rfl) rfl ?_
      refine Tr.nil ?_
      refine Tr.thenN ?_
      refine Tr.seqJ (ι := Nat × Nat) (fun ⟨s0, r0⟩ => (mid < md ∧ s0 + b = mid + md ∧ r0 = mid) ∨ (md ≤ mid ∧ s0 = a ∧ r0 = md)) (fun _ => Bg.less w V) (fun ⟨s0, r0⟩ => [rowE V 81 encSec l]) (fun ⟨s0, r0⟩ => [(20, .int .i64 (s0 : Nat)), (21, .int .i64 (r0 : Nat))]) ?_ (fun i hi => ?_)
      · skip
        refine Tr.seq ?_
        refine Tr.region ?_
        refine Tr.q (QS.move rfl) rfl ?_
        refine Tr.q (QS.move rfl) rfl ?_
        refine Tr.q (QS.gtr rfl rfl) rfl ?_
        refine Tr.nil ?_
        refine Tr.thenN ?_
        refine Tr.cond rfl (fun h13 => ?_) (fun h13 => ?_)
        · try simp only [bs] at h13
          refine Tr.seq ?_
          refine Tr.region ?_
          refine Tr.q (QS.move rfl) rfl ?_
          refine Tr.q (QS.move rfl) rfl ?_
          first | refine Tr.q (QS.subI rfl rfl (by omega)) rfl ?_ | refine Tr.q (QS.sub rfl rfl) rfl ?_
          refine Tr.q (QS.assign rfl) rfl ?_
          refine Tr.nil ?_
          refine Tr.thenN ?_
          refine Tr.region ?_
          refine Tr.q (QS.move rfl) rfl ?_
          refine Tr.q (QS.assign rfl) rfl ?_
          refine Tr.nil ?_
          refine Tr.thenN ?_
          apply Tr.joined (mid + md - b, mid)
          · exact rfl
          · exact (.cons (by first | rfl | exact lookI rfl (by omega) | exact lookI rfl (by simp) | exact lookB rfl (by simp)) (.cons (by first | rfl | exact lookI rfl (by omega) | exact lookI rfl (by simp) | exact lookB rfl (by simp)) Front.nil))
          · exact SubX.dropN 9 (by kernel_rfl) rfl
          · exact (by repeat' (first | exact Pick.nil _ | exact Del.here _ | apply Pick.cons | apply Del.there))
          · exact .inl ⟨by omega, by omega, rfl⟩
        · try simp only [bs] at h13
          refine Tr.seq ?_
          refine Tr.region ?_
          refine Tr.q (QS.move rfl) rfl ?_
          refine Tr.q (QS.assign rfl) rfl ?_
          refine Tr.nil ?_
          refine Tr.thenN ?_
          refine Tr.region ?_
          refine Tr.q (QS.move rfl) rfl ?_
          refine Tr.q (QS.assign rfl) rfl ?_
          refine Tr.nil ?_
          refine Tr.thenN ?_
          apply Tr.joined (a, md)
          · exact rfl
          · exact (.cons (by first | rfl | exact lookI rfl (by omega) | exact lookI rfl (by simp) | exact lookB rfl (by simp)) (.cons (by first | rfl | exact lookI rfl (by omega) | exact lookI rfl (by simp) | exact lookB rfl (by simp)) Front.nil))
          · exact SubX.dropN 7 (by kernel_rfl) rfl
          · exact (by repeat' (first | exact Pick.nil _ | exact Del.here _ | apply Pick.cons | apply Del.there))
          · exact .inr ⟨by omega, rfl, rfl⟩
      · obtain ⟨s0, r0⟩ := i
        replace hi : (mid < md ∧ s0 + b = mid + md ∧ r0 = mid) ∨ (md ≤ mid ∧ s0 = a ∧ r0 = md) := hi
        change Tr _ _ [rowE V 81 encSec l] ([(20, .int .i64 (s0 : Nat)), (21, .int .i64 (r0 : Nat))] ++ _) _
        have hs0 : a ≤ s0 ∧ s0 ≤ r0 ∧ r0 ≤ md := by omega
        refine Tr.seq ?_
        refine Tr.region ?_
        refine Tr.q (QS.move rfl) rfl ?_
        first | refine Tr.q (QS.subI rfl rfl (by omega)) rfl ?_ | refine Tr.q (QS.sub rfl rfl) rfl ?_
        refine Tr.q (QS.assign rfl) rfl ?_
        refine Tr.nil ?_
        refine Tr.thenN ?_
        refine Tr.seq ?_
        refine Tr.block ?_
        refine Tr.loop (ι := Nat × Nat) (fun ⟨st, r⟩ => s0 ≤ st ∧ st ≤ r ∧ r ≤ r0 ∧ (st = s0 ∨ ltC cmp (l.getD (mid + md - st) default) (l.getD (st - 1) default) = false) ∧ (r = r0 ∨ ltC cmp (l.getD (mid + md - 1 - r) default) (l.getD r default) = true)) (fun _ => _) (fun ⟨st, r⟩ => [rowE V 81 encSec l]) (fun ⟨st, r⟩ => [(20, .int .i64 (st : Nat)), (21, .int .i64 (r : Nat))]) (fun ⟨st, r⟩ => r - st) (s0, r0) ⟨Nat.le_refl _, by omega, Nat.le_refl _, .inl rfl, .inl rfl⟩ (.cons (by first | rfl | exact lookI rfl (by omega) | exact lookI rfl (by simp) | exact lookB rfl (by simp)) (.cons (by first | rfl | exact lookI rfl (by omega) | exact lookI rfl (by simp) | exact lookB rfl (by simp)) Front.nil)) (by repeat' (first | exact Pick.nil _ | exact Del.here _ | apply Pick.cons | apply Del.there)) rfl (fun i hi m hm => ?_)
        obtain ⟨st, r⟩ := i
        replace hi : s0 ≤ st ∧ st ≤ r ∧ r ≤ r0 ∧ (st = s0 ∨ ltC cmp (l.getD (mid + md - st) default) (l.getD (st - 1) default) = false) ∧ (r = r0 ∨ ltC cmp (l.getD (mid + md - 1 - r) default) (l.getD r default) = true) := hi
        replace hm : m = r - st := hm
        change Tr _ _ [rowE V 81 encSec l] ([(20, .int .i64 (st : Nat)), (21, .int .i64 (r : Nat))] ++ _) _
        obtain ⟨hi1, hi2, hi3, hi4, hi5⟩ := hi
        refine Tr.seq ?_
        refine Tr.seq ?_
        refine Tr.region ?_
        refine Tr.q (QS.move rfl) rfl ?_
        refine Tr.q (QS.move rfl) rfl ?_
        refine Tr.q (QS.lss rfl rfl) rfl ?_
        refine Tr.nil ?_
        refine Tr.thenN ?_
        refine Tr.cond rfl (fun h14 => ?_) (fun h14 => ?_)
        · try simp only [bs] at h14
          refine Tr.skip ?_
          refine Tr.thenN ?_
          refine Tr.block ?_
          refine Tr.seq ?_
          refine Tr.region ?_
          refine Tr.q (QS.move rfl) rfl ?_
          refine Tr.q (QS.move rfl) rfl ?_
          first | refine Tr.q (QS.addI rfl rfl (by omega)) rfl ?_ | refine Tr.q (QS.add rfl rfl) rfl ?_
          first | refine Tr.q (QS.cvtIn rfl Try.underlying3 Try.underlying71 (IntWalk.u64_in _ (by omega))) rfl ?_ | refine Tr.q (QS.cvt rfl Try.underlying3 Try.underlying71) rfl ?_
          first | refine Tr.q (QS.shr1 rfl rfl (by omega)) rfl ?_ | refine Tr.q (QS.shr rfl rfl (by omega)) rfl ?_
          first | refine Tr.q (QS.cvtIn rfl Try.underlying71 Try.underlying3 (IntWalk.i64_in _ (by omega))) rfl ?_ | refine Tr.q (QS.cvt rfl Try.underlying71 Try.underlying3) rfl ?_
          refine Tr.q (QS.assign rfl) rfl ?_
          refine Tr.nil ?_
          refine Tr.thenN ?_
          refine Tr.seq ?_
          obtain ⟨c, hhc⟩ : ∃ c, c = (st + r) / 2 := ⟨_, rfl⟩
          rw [show (((st : Nat) : Int) + ((r : Nat) : Int)) / 2 = ((c : Nat) : Int) by omega]
          refine Tr.regionQ HLF.mixed (by kernel_rfl) ?_
          refine TrQ.q (QS.move rfl) rfl ?_
          refine TrQ.q (QS.move rfl) rfl ?_
          refine TrQ.q (QS.move rfl) rfl ?_
          refine TrQ.q (QS.move rfl) rfl ?_
          first | refine TrQ.q (QS.subI rfl rfl (by omega)) rfl ?_ | refine TrQ.q (QS.sub rfl rfl) rfl ?_
          first | refine TrQ.q (QS.idxN rfl rfl (by assumption) Try.underlying53 Try.sizeOf81 (by rfl) (by omega)) rfl ?_ | refine TrQ.q (QS.idxRowN rfl rfl (by repeat (first | exact List.Mem.head _ | apply List.Mem.tail)) Try.underlying53 Try.sizeOf81 (by rfl) (by omega)) rfl ?_ | refine TrQ.q (QS.idx rfl rfl (by assumption) Try.underlying53 Try.sizeOf81 (by rfl) (by omega)) rfl ?_ | refine TrQ.q (QS.idxRow rfl rfl (by repeat (first | exact List.Mem.head _ | apply List.Mem.tail)) Try.underlying53 Try.sizeOf81 (by rfl) (by omega)) rfl ?_
          first | refine TrQ.q (QS.elA rfl (by assumption) Try.isAgg81 Try.sizeOf81 (by rfl) (by omega)) rfl ?_ | refine TrQ.q (QS.elRA rfl (by repeat (first | exact List.Mem.head _ | apply List.Mem.tail)) Try.isAgg81 Try.sizeOf81 (by rfl) (by omega)) rfl ?_
          refine TrQ.q (QS.move rfl) rfl ?_
          refine TrQ.q (QS.move rfl) rfl ?_
          first | refine TrQ.q (QS.idxN rfl rfl (by assumption) Try.underlying53 Try.sizeOf81 (by rfl) (by omega)) rfl ?_ | refine TrQ.q (QS.idxRowN rfl rfl (by repeat (first | exact List.Mem.head _ | apply List.Mem.tail)) Try.underlying53 Try.sizeOf81 (by rfl) (by omega)) rfl ?_ | refine TrQ.q (QS.idx rfl rfl (by assumption) Try.underlying53 Try.sizeOf81 (by rfl) (by omega)) rfl ?_ | refine TrQ.q (QS.idxRow rfl rfl (by repeat (first | exact List.Mem.head _ | apply List.Mem.tail)) Try.underlying53 Try.sizeOf81 (by rfl) (by omega)) rfl ?_
          first | refine TrQ.q (QS.elA rfl (by assumption) Try.isAgg81 Try.sizeOf81 (by rfl) (by omega)) rfl ?_ | refine TrQ.q (QS.elRA rfl (by repeat (first | exact List.Mem.head _ | apply List.Mem.tail)) Try.isAgg81 Try.sizeOf81 (by rfl) (by omega)) rfl ?_
          refine TrQ.q (QS.callV rfl rfl eg (fun w hw => hc _ _ w)) rfl ?_
          refine TrQ.q (QS.lss rfl rfl) rfl ?_
          refine TrQ.q (QS.not rfl) rfl ?_
          refine TrQ.nil ?_
          refine Tr.thenN ?_
          refine Tr.cond rfl (fun h15 => ?_) (fun h15 => ?_)
          · try simp only [bs] at h15
            refine Tr.region ?_
            refine Tr.q (QS.move rfl) rfl ?_
            first | refine Tr.q (QS.addI rfl rfl (by omega)) rfl ?_ | refine Tr.q (QS.add rfl rfl) rfl ?_
            refine Tr.q (QS.assign rfl) rfl ?_
            refine Tr.nil ?_
            refine Tr.inN ?_
            refine Tr.thenN ?_
            have ec : ((((mid : Nat) : Int) + ((md : Nat) : Int)) - 1 - ((c : Nat) : Int)).toNat = mid + md - 1 - c := by omega
            have hx : ltC cmp (l.getD (mid + md - 1 - c) default) (l.getD c default) = false := by rw [← ec]; simp only [ltC, decide_eq_false_iff_not]; assumption
            apply Tr.again (c + 1, r)
            · exact rfl
            · exact (.cons (by first | rfl | exact lookI rfl (by omega) | exact lookI rfl (by simp) | exact lookB rfl (by simp)) (.cons (by first | rfl | exact lookI rfl (by omega) | exact lookI rfl (by simp) | exact lookB rfl (by simp)) Front.nil))
            · exact SubX.dropN 29 (by kernel_rfl) rfl
            · exact (by repeat' (first | exact Pick.nil _ | exact Del.here _ | apply Pick.cons | apply Del.there))
            · exact ⟨by omega, by omega, hi3, .inr (by rw [show mid + md - (c + 1) = mid + md - 1 - c by omega]; exact hx), hi5⟩
            · exact (by (try dsimp only); omega)
          · try simp only [bs] at h15
            refine Tr.region ?_
            refine Tr.q (QS.move rfl) rfl ?_
            refine Tr.q (QS.assign rfl) rfl ?_
            refine Tr.nil ?_
            refine Tr.inN ?_
            refine Tr.thenN ?_
            have ec : ((((mid : Nat) : Int) + ((md : Nat) : Int)) - 1 - ((c : Nat) : Int)).toNat = mid + md - 1 - c := by omega
            have hx : ltC cmp (l.getD (mid + md - 1 - c) default) (l.getD c default) = true := by rw [← ec]; simp only [ltC, decide_eq_true_eq]; assumption
            apply Tr.again (st, c)
            · exact rfl
            · exact (.cons (by first | rfl | exact lookI rfl (by omega) | exact lookI rfl (by simp) | exact lookB rfl (by simp)) (.cons (by first | rfl | exact lookI rfl (by omega) | exact lookI rfl (by simp) | exact lookB rfl (by simp)) Front.nil))
            · exact SubX.dropN 28 (by kernel_rfl) rfl
            · exact (by repeat' (first | exact Pick.nil _ | exact Del.here _ | apply Pick.cons | apply Del.there))
            · exact ⟨hi1, by omega, by omega, hi4, .inr hx⟩
            · exact (by (try dsimp only); omega)
        · try simp only [bs] at h14
          refine Tr.exit ?_
          refine Tr.thenE ?_
          refine Tr.thenE ?_
          refine Tr.inHit ?_
          refine Tr.thenN ?_
          refine Tr.seq ?_
          refine Tr.region ?_
          refine Tr.q (QS.move rfl) rfl ?_
          refine Tr.q (QS.move rfl) rfl ?_
          first | refine Tr.q (QS.subI rfl rfl (by omega)) rfl ?_ | refine Tr.q (QS.sub rfl rfl) rfl ?_
          refine Tr.q (QS.assign rfl) rfl ?_
          refine Tr.nil ?_
          refine Tr.thenN ?_
          obtain rfl : r = st := by omega
          obtain ⟨e, he⟩ : ∃ e, e = mid + md - r := ⟨_, rfl⟩
          rw [show (((mid : Nat) : Int) + ((md : Nat) : Int)) - ((r : Nat) : Int) = ((e : Nat) : Int) by omega]
          have hme : md ≤ e := by omega
          have heb : e ≤ b := by omega
          have hmm : mid = r + (e - md) := by omega
          have hd : r = md ∨ md = e ∨ ltC cmp (l.getD (e - 1) default) (l.getD r default) = true := by
            rcases hi5 with q | q
            · omega
            · exact .inr (.inr (by rw [show e - 1 = mid + md - 1 - r by omega]; exact q))
          have hg : r = a ∨ e = b ∨ ltC cmp (l.getD e default) (l.getD (r - 1) default) = false := by
            rcases hi4 with q | q
            · omega
            · exact .inr (.inr (by rw [he]; exact q))
          have hf := half_rot hO h1s h2s hb (by omega) (by omega) hme heb hmm hd hg
          have hml : (mp (rotF r md e) l).length = l.length := mp_len _ _
          refine Tr.seqJ (ι := Unit) (fun _u => True) (fun _ => Bg.less w V) (fun _u => [rowE V 81 encSec (mp (rotF r md e) l)]) (fun _u => []) ?_ (fun _u hi => ?_)
          · skip
            refine Tr.seq ?_
            refine Tr.region ?_
            refine Tr.q (QS.move rfl) rfl ?_
            refine Tr.q (QS.move rfl) rfl ?_
            refine Tr.q (QS.lss rfl rfl) rfl ?_
            refine Tr.q (QS.move rfl) rfl ?_
            apply Tr.andP
            · exact (rfl : _ = (4, 181, 185))
            · exact rfl
            · intro hT16; have hT16' := hT16
              try simp only [bs] at hT16'
              refine Tr.gq rfl rfl hT16 (QS.move rfl) rfl ?_
              refine Tr.gq rfl rfl hT16 (QS.move rfl) rfl ?_
              refine Tr.gq rfl rfl hT16 (QS.lss rfl rfl) rfl ?_
              refine Tr.q (QS.pickT rfl hT16 rfl) rfl ?_
              refine Tr.nil (Tr.thenN ?_)
              exact Tr.endX (Sub.cons rfl (Sub.dropN 4 (by kernel_rfl) rfl))
            · intro hF16
              refine Tr.gskip rfl rfl hF16 rfl ?_
              refine Tr.gskip rfl rfl hF16 rfl ?_
              refine Tr.gskip rfl rfl hF16 rfl ?_
              refine Tr.q (QS.pickF rfl hF16 rfl) rfl ?_
              refine Tr.nil (Tr.thenN ?_)
              exact Tr.endX (Sub.cons rfl (Sub.dropN 4 (by kernel_rfl) rfl))
            refine Tr.nil ?_
            refine Tr.thenN ?_
            refine Tr.cond rfl (fun h17 => ?_) (fun h17 => ?_)
            · try simp only [bs] at h17
              refine Tr.region ?_
              refine Tr.q (QS.move rfl) rfl ?_
              refine Tr.q (QS.move rfl) rfl ?_
              refine Tr.q (QS.move rfl) rfl ?_
              refine Tr.q (QS.move rfl) rfl ?_
              refine Tr.q (QS.move rfl) rfl ?_
              refine Tr.callMut rfl Try.call116 (by repeat (first | exact Put.here _ | apply Put.there)) (fun w hw => rotate_sec l V r md e _ _ _ (by omega) (by omega) (by omega) _ w (hw.ent _ (.head _)) hl (by omega) (by omega) (by omega)) rfl ?_
              refine Tr.nil ?_
              refine Tr.thenN ?_
              apply Tr.joined ()
              · exact rfl
              · exact Front.nil
              · exact SubX.dropN 11 (by kernel_rfl) rfl
              · exact (by repeat' (first | exact Pick.nil _ | exact Del.here _ | apply Pick.cons | apply Del.there))
              · exact trivial
            · try simp only [bs] at h17
              refine Tr.skip ?_
              refine Tr.thenN ?_
              refine Tr.rowEq (l' := mp (rotF r md e) l) (rot_none (by omega) (by omega) (by omega)).symm ?_
              apply Tr.joined ()
              · exact rfl
              · exact Front.nil
              · exact SubX.dropN 5 (by kernel_rfl) rfl
              · exact (by repeat' (first | exact Pick.nil _ | exact Del.here _ | apply Pick.cons | apply Del.there))
              · exact trivial
          · skip
            replace hi : True := hi
            change Tr _ _ [rowE V 81 encSec (mp (rotF r md e) l)] ([] ++ _) _
            refine Tr.seqJ (ι := List SecV) (fun c2 => Half (ltC cmp) l c2 a mid mid e b) (fun _ => Bg.less w V) (fun c2 => [rowE V 81 encSec c2]) (fun c2 => []) ?_ (fun c2 hi => ?_)
            · skip
              refine Tr.seq ?_
              refine Tr.region ?_
              refine Tr.q (QS.move rfl) rfl ?_
              refine Tr.q (QS.move rfl) rfl ?_
              refine Tr.q (QS.lss rfl rfl) rfl ?_
              refine Tr.q (QS.move rfl) rfl ?_
              apply Tr.andP
              · exact (rfl : _ = (4, 195, 199))
              · exact rfl
              · intro hT18; have hT18' := hT18
                try simp only [bs] at hT18'
                refine Tr.gq rfl rfl hT18 (QS.move rfl) rfl ?_
                refine Tr.gq rfl rfl hT18 (QS.move rfl) rfl ?_
                refine Tr.gq rfl rfl hT18 (QS.lss rfl rfl) rfl ?_
                refine Tr.q (QS.pickT rfl hT18 rfl) rfl ?_
                refine Tr.nil (Tr.thenN ?_)
                exact Tr.endX (Sub.cons rfl (Sub.dropN 4 (by kernel_rfl) rfl))
              · intro hF18
                refine Tr.gskip rfl rfl hF18 rfl ?_
                refine Tr.gskip rfl rfl hF18 rfl ?_
                refine Tr.gskip rfl rfl hF18 rfl ?_
                refine Tr.q (QS.pickF rfl hF18 rfl) rfl ?_
                refine Tr.nil (Tr.thenN ?_)
                exact Tr.endX (Sub.cons rfl (Sub.dropN 4 (by kernel_rfl) rfl))
              refine Tr.nil ?_
              refine Tr.thenN ?_
              refine Tr.cond rfl (fun h19 => ?_) (fun h19 => ?_)
              · try simp only [bs] at h19
                refine Tr.region ?_
                refine Tr.q (QS.move rfl) rfl ?_
                refine Tr.q (QS.move rfl) rfl ?_
                refine Tr.q (QS.move rfl) rfl ?_
                refine Tr.q (QS.move rfl) rfl ?_
                refine Tr.q (QS.move rfl) rfl ?_
                refine Tr.callMutR (fun c => Stab (ltC cmp) (mp (rotF r md e) l) c ∧ Fram a mid (mp (rotF r md e) l) c ∧ Srt (ltC cmp) c a mid) rfl Try.call110 (fun w hw => ih (mid - a) (by omega) (mp (rotF r md e) l) a r mid _ _ _ w (by omega) (by omega) (by omega) (Nat.le_refl _) (by omega) (by omega) (by omega) (by omega) hf.s1 hf.s2 (hw.ent _ (.head _))) rfl (fun c2 hc2 => ?_)
                refine Tr.nil ?_
                refine Tr.thenN ?_
                apply Tr.joined c2
                · exact rfl
                · exact Front.nil
                · exact SubX.dropN 11 (by kernel_rfl) rfl
                · exact (by repeat' (first | exact Pick.nil _ | exact Del.here _ | apply Pick.cons | apply Del.there))
                · exact hf.left hb (by omega) (by omega) hc2.1 hc2.2.1 hc2.2.2
              · try simp only [bs] at h19
                refine Tr.skip ?_
                refine Tr.thenN ?_
                apply Tr.joined _
                · exact rfl
                · exact Front.nil
                · exact SubX.dropN 5 (by kernel_rfl) rfl
                · exact (by repeat' (first | exact Pick.nil _ | exact Del.here _ | apply Pick.cons | apply Del.there))
                · exact hf.left0 (by omega) (by omega) (by omega)
            · skip
              replace hi : Half (ltC cmp) l c2 a mid mid e b := hi
              change Tr _ _ [rowE V 81 encSec c2] ([] ++ _) _
              have hl2 := hi.fr.1
              refine Tr.seq ?_
              refine Tr.region ?_
              refine Tr.q (QS.move rfl) rfl ?_
              refine Tr.q (QS.move rfl) rfl ?_
              refine Tr.q (QS.lss rfl rfl) rfl ?_
              refine Tr.q (QS.move rfl) rfl ?_
              apply Tr.andP
              · exact (rfl : _ = (4, 209, 213))
              · exact rfl
              · intro hT20; have hT20' := hT20
                try simp only [bs] at hT20'
                refine Tr.gq rfl rfl hT20 (QS.move rfl) rfl ?_
                refine Tr.gq rfl rfl hT20 (QS.move rfl) rfl ?_
                refine Tr.gq rfl rfl hT20 (QS.lss rfl rfl) rfl ?_
                refine Tr.q (QS.pickT rfl hT20 rfl) rfl ?_
                refine Tr.nil (Tr.thenN ?_)
                exact Tr.endX (Sub.cons rfl (Sub.dropN 4 (by kernel_rfl) rfl))
              · intro hF20
                refine Tr.gskip rfl rfl hF20 rfl ?_
                refine Tr.gskip rfl rfl hF20 rfl ?_
                refine Tr.gskip rfl rfl hF20 rfl ?_
                refine Tr.q (QS.pickF rfl hF20 rfl) rfl ?_
                refine Tr.nil (Tr.thenN ?_)
                exact Tr.endX (Sub.cons rfl (Sub.dropN 4 (by kernel_rfl) rfl))
              refine Tr.nil ?_
              refine Tr.thenN ?_
              refine Tr.cond rfl (fun h21 => ?_) (fun h21 => ?_)
              · try simp only [bs] at h21
                refine Tr.region ?_
                refine Tr.q (QS.move rfl) rfl ?_
                refine Tr.q (QS.move rfl) rfl ?_
                refine Tr.q (QS.move rfl) rfl ?_
                refine Tr.q (QS.move rfl) rfl ?_
                refine Tr.q (QS.move rfl) rfl ?_
                refine Tr.callMutR (fun c => Stab (ltC cmp) c2 c ∧ Fram mid b c2 c ∧ Srt (ltC cmp) c mid b) rfl Try.call110 (fun w hw => ih (b - mid) (by omega) c2 mid e b _ _ _ w (by omega) (by omega) (by omega) (Nat.le_refl _) (by omega) (by omega) (by omega) (by omega) hi.s3 hi.s4 (hw.ent _ (.head _))) rfl (fun c3 hc3 => ?_)
                refine Tr.nil ?_
                refine Tr.ret0n Try.results110 (fun w' hw => ?_)
                exact ⟨rfl, c3, hi.right hb (by omega) (by omega) hc3.1 hc3.2.1 hc3.2.2, HpOK.mutOwn hw (.head _) rfl⟩
              · try simp only [bs] at h21
                refine Tr.skip ?_
                refine Tr.ret0n Try.results110 (fun w' hw => ?_)
                exact ⟨rfl, c2, hi.right0 (by omega) (by omega) (by omega), HpOK.mutOwn hw (.head _) rfl⟩

theorem symMerge_sec (V : Value) (g : FuncId) (cmp : SecV → SecV → Int) (eg : ∀ args w, (callFunc g args).run Try.prog w = .ok (.enter g args) w) (hc : ∀ x y w', Calls Try.prog g ([Value.agg (encSec.enc x).toArray, Value.agg (encSec.enc y).toArray] ++ []).toArray w' fun e w'' => e = .returned (.int .i64 (cmp x y)) ∧ Ext w' w'') (hO : WO (ltC cmp)) : ∀ n, SymFor g cmp V n := by
  intro n
  induction n using Nat.strongRecOn with
  | ind n ih =>
    intro l a md b ai mdi bi w ea emd eb hn ham hmb hb hl h1s h2s hr
    exact sym_step l V a md b ai mdi bi ea emd eb g cmp eg hc hO w hr hl (fun k hk => ih k (by omega)) ham hmb hb h1s h2s
theorem getD_ge {l : List SecV} {k : Nat} (h : l.length ≤ k) : l.getD k default = default := by simp [List.getD_eq_getElem?_getD, List.getElem?_eq_none h]

set_option maxRecDepth 100000 in
set_option maxHeartbeats 8000000 in
theorem stable_sec (l : List SecV) (V : Value) (n : Nat) (ni : Int) (en : ni = ((n : Nat) : Int)) (g : FuncId) (cmp : SecV → SecV → Int) (eg : ∀ args w, (callFunc g args).run Try.prog w = .ok (.enter g args) w) (hc : ∀ x y w', Calls Try.prog g ([Value.agg (encSec.enc x).toArray, Value.agg (encSec.enc y).toArray] ++ []).toArray w' fun e w'' => e = .returned (.int .i64 (cmp x y)) ∧ Ext w' w'') (hO : WO (ltC cmp)) (w : World) (hr : (rowE V 81 encSec l).holds w) (hl : l.length ≤ 1000000) (hn : n = l.length) :
    Calls Try.prog 96 #[V, .int .i64 ni, .func (.func g) #[] #[]] w (srtP cmp V l 0 n w) := by
  subst en
  refine enterOwn (l := l) (E := encSec) (T := 81) hr Try.func96 rfl Try.ntmps96 rfl ?_
  refine Tr.seq ?_
  refine Tr.region ?_
  refine Tr.q (QS.assign rfl) rfl ?_
  refine Tr.nil ?_
  refine Tr.thenN ?_
  refine Tr.seq ?_
  refine Tr.region ?_
  refine Tr.q (QS.move rfl) rfl ?_
  refine Tr.q (QS.assign rfl) rfl ?_
  refine Tr.q (QS.assign rfl) rfl ?_
  refine Tr.nil ?_
  refine Tr.thenN ?_
  refine Tr.seq ?_
  refine Tr.block ?_
  refine Tr.loop (ι := Nat × List SecV) (fun ⟨t, cur⟩ => t * 20 ≤ n ∧ Stab (ltC cmp) l cur ∧ Blk (ltC cmp) cur 20 (t * 20)) (fun _ => _) (fun ⟨t, cur⟩ => [rowE V 81 encSec cur]) (fun ⟨t, cur⟩ => [(7, .int .i64 ((t * 20 : Nat) : Int)), (8, .int .i64 ((t * 20 + 20 : Nat) : Int))]) (fun ⟨t, cur⟩ => n - t * 20) (0, l) ⟨by omega, .refl _ _, fun t p q a1 a2 a3 a4 => by omega⟩ (.cons (by first | rfl | exact lookI rfl (by omega) | exact lookI rfl (by simp) | exact lookB rfl (by simp)) (.cons (by first | rfl | exact lookI rfl (by omega) | exact lookI rfl (by simp) | exact lookB rfl (by simp)) Front.nil)) (by repeat' (first | exact Pick.nil _ | exact Del.here _ | apply Pick.cons | apply Del.there)) rfl (fun i hi m hm => ?_)
  obtain ⟨t, cur⟩ := i
  replace hi : t * 20 ≤ n ∧ Stab (ltC cmp) l cur ∧ Blk (ltC cmp) cur 20 (t * 20) := hi
  replace hm : m = n - t * 20 := hm
  change Tr _ _ [rowE V 81 encSec cur] ([(7, .int .i64 ((t * 20 : Nat) : Int)), (8, .int .i64 ((t * 20 + 20 : Nat) : Int))] ++ _) _
  obtain ⟨ht1, ht2, ht3⟩ := hi
  have hcl := ht2.len
  refine Tr.seq ?_
  refine Tr.seq ?_
  refine Tr.region ?_
  refine Tr.q (QS.move rfl) rfl ?_
  refine Tr.q (QS.move rfl) rfl ?_
  refine Tr.q (QS.leq rfl rfl) rfl ?_
  refine Tr.nil ?_
  refine Tr.thenN ?_
  refine Tr.cond rfl (fun h1 => ?_) (fun h1 => ?_)
  · try simp only [bs] at h1
    refine Tr.skip ?_
    refine Tr.thenN ?_
    refine Tr.block ?_
    refine Tr.seq ?_
    refine Tr.region ?_
    refine Tr.q (QS.move rfl) rfl ?_
    refine Tr.q (QS.move rfl) rfl ?_
    refine Tr.q (QS.move rfl) rfl ?_
    refine Tr.q (QS.move rfl) rfl ?_
    refine Tr.callMutR (fun c => Stab (ltC cmp) cur c ∧ Fram (t * 20) (t * 20 + 20) cur c ∧ Srt (ltC cmp) c (t * 20) (t * 20 + 20)) rfl Try.call109 (fun w hw => insertion_sec cur V (t * 20) (t * 20 + 20) _ _ (by omega) (by omega) g cmp eg hc hO w (hw.ent _ (.head _)) (by omega) (by omega) (by omega)) rfl (fun c2 hc2 => ?_)
    refine Tr.nil ?_
    refine Tr.thenN ?_
    refine Tr.seq ?_
    refine Tr.region ?_
    refine Tr.q (QS.move rfl) rfl ?_
    refine Tr.q (QS.assign rfl) rfl ?_
    refine Tr.nil ?_
    refine Tr.thenN ?_
    refine Tr.region ?_
    refine Tr.q (QS.move rfl) rfl ?_
    refine Tr.q (QS.move rfl) rfl ?_
    first | refine Tr.q (QS.addI rfl rfl (by omega)) rfl ?_ | refine Tr.q (QS.add rfl rfl) rfl ?_
    refine Tr.q (QS.assign rfl) rfl ?_
    refine Tr.nil ?_
    refine Tr.inN ?_
    refine Tr.thenN ?_
    have hcl2 := hc2.1.len
    have hb2 : Blk (ltC cmp) c2 20 ((t + 1) * 20) := by rw [show (t + 1) * 20 = t * 20 + 20 by omega]; exact blk_ins ht3 hc2.2.1 hc2.2.2 (by omega)
    apply Tr.again (t + 1, c2)
    · exact rfl
    · exact (.cons (by first | rfl | exact lookI rfl (by omega) | exact lookI rfl (by simp) | exact lookB rfl (by simp)) (.cons (by first | rfl | exact lookI rfl (by omega) | exact lookI rfl (by simp) | exact lookB rfl (by simp)) Front.nil))
    · exact SubX.dropN 16 (by kernel_rfl) rfl
    · exact (by repeat' (first | exact Pick.nil _ | exact Del.here _ | apply Pick.cons | apply Del.there))
    · exact ⟨by omega, ht2.trans hc2.1, hb2⟩
    · exact (by (try dsimp only); omega)
  · try simp only [bs] at h1
    refine Tr.exit ?_
    refine Tr.thenE ?_
    refine Tr.thenE ?_
    refine Tr.inHit ?_
    refine Tr.thenN ?_
    refine Tr.seq ?_
    refine Tr.region ?_
    refine Tr.q (QS.move rfl) rfl ?_
    refine Tr.q (QS.move rfl) rfl ?_
    refine Tr.q (QS.move rfl) rfl ?_
    refine Tr.q (QS.move rfl) rfl ?_
    refine Tr.callMutR (fun c => Stab (ltC cmp) cur c ∧ Fram (t * 20) n cur c ∧ Srt (ltC cmp) c (t * 20) n) rfl Try.call109 (fun w hw => insertion_sec cur V (t * 20) n _ _ (by omega) (by omega) g cmp eg hc hO w (hw.ent _ (.head _)) (by omega) (by omega) (by omega)) rfl (fun c3 hc3 => ?_)
    refine Tr.nil ?_
    refine Tr.thenN ?_
    refine Tr.block ?_
    have hcl3 := hc3.1.len
    have hb3 : Blk (ltC cmp) c3 20 n := blk_ins ht3 hc3.2.1 hc3.2.2 (by omega)
    have hst3 := ht2.trans hc3.1
    clear hc3 ht3 ht2
    refine Tr.loop (ι := Nat × Int × Int × List SecV) (fun ⟨bz, xa, xb, cur⟩ => 1 ≤ bz ∧ bz ≤ 2 * n + 20 ∧ Stab (ltC cmp) l cur ∧ Blk (ltC cmp) cur bz n) (fun _ => _) (fun ⟨bz, xa, xb, cur⟩ => [rowE V 81 encSec cur]) (fun ⟨bz, xa, xb, cur⟩ => [(6, .int .i64 (bz : Nat)), (7, .int .i64 xa), (8, .int .i64 xb)]) (fun ⟨bz, xa, xb, cur⟩ => n - bz) (20, _, _, c3) ⟨by omega, by omega, hst3, hb3⟩ (.cons (by first | rfl | exact lookI rfl (by omega) | exact lookI rfl (by simp) | exact lookB rfl (by simp)) (.cons (by first | rfl | exact lookI rfl (by omega) | exact lookI rfl (by simp) | exact lookB rfl (by simp)) (.cons (by first | rfl | exact lookI rfl (by omega) | exact lookI rfl (by simp) | exact lookB rfl (by simp)) Front.nil))) (by repeat' (first | exact Pick.nil _ | exact Del.here _ | apply Pick.cons | apply Del.there)) rfl (fun i hi m hm => ?_)
    obtain ⟨bz, xa, xb, cur⟩ := i
    replace hi : 1 ≤ bz ∧ bz ≤ 2 * n + 20 ∧ Stab (ltC cmp) l cur ∧ Blk (ltC cmp) cur bz n := hi
    replace hm : m = n - bz := hm
    change Tr _ _ [rowE V 81 encSec cur] ([(6, .int .i64 (bz : Nat)), (7, .int .i64 xa), (8, .int .i64 xb)] ++ _) _
    obtain ⟨hb1, hb2, hb4, hb5⟩ := hi
    have hcl4 := hb4.len
    refine Tr.seq ?_
    refine Tr.seq ?_
    refine Tr.region ?_
    refine Tr.q (QS.move rfl) rfl ?_
    refine Tr.q (QS.move rfl) rfl ?_
    refine Tr.q (QS.lss rfl rfl) rfl ?_
    refine Tr.nil ?_
    refine Tr.thenN ?_
    refine Tr.cond rfl (fun h2 => ?_) (fun h2 => ?_)
    · try simp only [bs] at h2
      refine Tr.skip ?_
      refine Tr.thenN ?_
      refine Tr.block ?_
      refine Tr.seq ?_
      refine Tr.region ?_
      refine Tr.q (QS.move rfl) rfl ?_
      first | refine Tr.q (QS.mulI rfl rfl (by omega)) rfl ?_ | refine Tr.q (QS.mul rfl rfl) rfl ?_
      refine Tr.q (QS.assign rfl) rfl ?_
      refine Tr.q (QS.assign rfl) rfl ?_
      refine Tr.nil ?_
      refine Tr.thenN ?_
      refine Tr.seq ?_
      refine Tr.block ?_
      refine Tr.loop (ι := Nat × Nat × List SecV) (fun ⟨t, x, c4⟩ => x = t * (2 * bz) ∧ x ≤ n ∧ Stab (ltC cmp) l c4 ∧ Mix (ltC cmp) c4 bz x n) (fun _ => _) (fun ⟨t, x, c4⟩ => [rowE V 81 encSec c4]) (fun ⟨t, x, c4⟩ => [(7, .int .i64 (x : Nat)), (8, .int .i64 ((x + 2 * bz : Nat) : Int))]) (fun ⟨t, x, c4⟩ => n - x) (0, 0, cur) ⟨by omega, by omega, hb4, mix_0 hb5⟩ (.cons (by first | rfl | exact lookI rfl (by omega) | exact lookI rfl (by simp) | exact lookB rfl (by simp)) (.cons (by first | rfl | exact lookI rfl (by omega) | exact lookI rfl (by simp) | exact lookB rfl (by simp)) Front.nil)) (by repeat' (first | exact Pick.nil _ | exact Del.here _ | apply Pick.cons | apply Del.there)) rfl (fun i hi m hm => ?_)
      obtain ⟨t, x, c4⟩ := i
      replace hi : x = t * (2 * bz) ∧ x ≤ n ∧ Stab (ltC cmp) l c4 ∧ Mix (ltC cmp) c4 bz x n := hi
      replace hm : m = n - x := hm
      change Tr _ _ [rowE V 81 encSec c4] ([(7, .int .i64 (x : Nat)), (8, .int .i64 ((x + 2 * bz : Nat) : Int))] ++ _) _
      obtain ⟨ht1, ht2, ht3, ht4⟩ := hi
      have hcl5 := ht3.len
      refine Tr.seq ?_
      refine Tr.seq ?_
      refine Tr.region ?_
      refine Tr.q (QS.move rfl) rfl ?_
      refine Tr.q (QS.move rfl) rfl ?_
      refine Tr.q (QS.leq rfl rfl) rfl ?_
      refine Tr.nil ?_
      refine Tr.thenN ?_
      refine Tr.cond rfl (fun h3 => ?_) (fun h3 => ?_)
      · try simp only [bs] at h3
        refine Tr.skip ?_
        refine Tr.thenN ?_
        refine Tr.block ?_
        refine Tr.seq ?_
        have hs1 : Srt (ltC cmp) c4 x (x + bz) := by subst ht1; exact mix_left ht4 (Nat.le_refl _) (by omega)
        have hs2 : Srt (ltC cmp) c4 (x + bz) (x + 2 * bz) := by subst ht1; exact mix_right ht4 (Nat.le_refl _) (by omega)
        refine Tr.region ?_
        refine Tr.q (QS.move rfl) rfl ?_
        refine Tr.q (QS.move rfl) rfl ?_
        refine Tr.q (QS.move rfl) rfl ?_
        refine Tr.q (QS.move rfl) rfl ?_
        first | refine Tr.q (QS.addI rfl rfl (by omega)) rfl ?_ | refine Tr.q (QS.add rfl rfl) rfl ?_
        refine Tr.q (QS.move rfl) rfl ?_
        refine Tr.q (QS.move rfl) rfl ?_
        refine Tr.callMutR (fun c => Stab (ltC cmp) c4 c ∧ Fram x (x + 2 * bz) c4 c ∧ Srt (ltC cmp) c x (x + 2 * bz)) rfl Try.call110 (fun w hw => symMerge_sec V g cmp eg hc hO _ c4 x (x + bz) (x + 2 * bz) _ _ _ w (by omega) (by omega) (by omega) (Nat.le_refl _) (by omega) (by omega) (by omega) (by omega) hs1 hs2 (hw.ent _ (.head _))) rfl (fun c5 hc5 => ?_)
        refine Tr.nil ?_
        refine Tr.thenN ?_
        refine Tr.seq ?_
        refine Tr.region ?_
        refine Tr.q (QS.move rfl) rfl ?_
        refine Tr.q (QS.assign rfl) rfl ?_
        refine Tr.nil ?_
        refine Tr.thenN ?_
        refine Tr.region ?_
        refine Tr.q (QS.move rfl) rfl ?_
        refine Tr.q (QS.move rfl) rfl ?_
        first | refine Tr.q (QS.mulI rfl rfl (by omega)) rfl ?_ | refine Tr.q (QS.mul rfl rfl) rfl ?_
        first | refine Tr.q (QS.addI rfl rfl (by omega)) rfl ?_ | refine Tr.q (QS.add rfl rfl) rfl ?_
        refine Tr.q (QS.assign rfl) rfl ?_
        refine Tr.nil ?_
        refine Tr.inN ?_
        refine Tr.thenN ?_
        have hm2 : Mix (ltC cmp) c5 bz (x + 2 * bz) n := by
          have f := hc5.2.1
          have so := hc5.2.2
          subst ht1
          exact mix_step ht4 f so (Nat.le_refl _) (by omega)
        apply Tr.again (t + 1, x + 2 * bz, c5)
        · exact rfl
        · exact (.cons (by first | rfl | exact lookI rfl (by omega) | exact lookI rfl (by simp) | exact lookB rfl (by simp)) (.cons (by first | rfl | exact lookI rfl (by omega) | exact lookI rfl (by simp) | exact lookB rfl (by simp)) Front.nil))
        · exact SubX.dropN 20 (by kernel_rfl) rfl
        · exact (by repeat' (first | exact Pick.nil _ | exact Del.here _ | apply Pick.cons | apply Del.there))
        · exact ⟨by rw [Nat.add_mul, ht1]; omega, by omega, ht3.trans hc5.1, hm2⟩
        · exact (by (try dsimp only); omega)
      · try simp only [bs] at h3
        refine Tr.exit ?_
        refine Tr.thenE ?_
        refine Tr.thenE ?_
        refine Tr.inHit ?_
        refine Tr.thenN ?_
        refine Tr.seqJ (ι := List SecV) (fun c6 => Stab (ltC cmp) l c6 ∧ Blk (ltC cmp) c6 (2 * bz) n) (fun _ => Bg.less w V) (fun c6 => [rowE V 81 encSec c6]) (fun c6 => []) ?_ (fun c6 hi => ?_)
        · skip
          refine Tr.seq ?_
          refine Tr.region ?_
          refine Tr.q (QS.move rfl) rfl ?_
          refine Tr.q (QS.move rfl) rfl ?_
          first | refine Tr.q (QS.addI rfl rfl (by omega)) rfl ?_ | refine Tr.q (QS.add rfl rfl) rfl ?_
          refine Tr.q (QS.assign rfl) rfl ?_
          refine Tr.nil ?_
          refine Tr.thenN ?_
          refine Tr.seq ?_
          refine Tr.region ?_
          refine Tr.q (QS.move rfl) rfl ?_
          refine Tr.q (QS.move rfl) rfl ?_
          refine Tr.q (QS.lss rfl rfl) rfl ?_
          refine Tr.nil ?_
          refine Tr.thenN ?_
          refine Tr.cond rfl (fun h4 => ?_) (fun h4 => ?_)
          · try simp only [bs] at h4
            have hs1 : Srt (ltC cmp) c4 x (x + bz) := by subst ht1; exact mix_left ht4 (Nat.le_refl _) (by omega)
            have hs2 : Srt (ltC cmp) c4 (x + bz) n := by subst ht1; exact mix_right ht4 (by omega) (Nat.le_refl _)
            refine Tr.region ?_
            refine Tr.q (QS.move rfl) rfl ?_
            refine Tr.q (QS.move rfl) rfl ?_
            refine Tr.q (QS.move rfl) rfl ?_
            refine Tr.q (QS.move rfl) rfl ?_
            refine Tr.q (QS.move rfl) rfl ?_
            refine Tr.callMutR (fun c => Stab (ltC cmp) c4 c ∧ Fram x n c4 c ∧ Srt (ltC cmp) c x n) rfl Try.call110 (fun w hw => symMerge_sec V g cmp eg hc hO _ c4 x (x + bz) n _ _ _ w (by omega) (by omega) (by omega) (Nat.le_refl _) (by omega) (by omega) (by omega) (by omega) hs1 hs2 (hw.ent _ (.head _))) rfl (fun c5 hc5 => ?_)
            refine Tr.nil ?_
            refine Tr.thenN ?_
            have hm2 : Blk (ltC cmp) c5 (2 * bz) n := by
              have f := hc5.2.1
              have so := hc5.2.2
              subst ht1
              exact blk_ins ht4.1 f so (by rw [Nat.add_mul]; omega)
            apply Tr.joined c5
            · exact rfl
            · exact Front.nil
            · exact SubX.dropN 13 (by kernel_rfl) rfl
            · exact (by repeat' (first | exact Pick.nil _ | exact Del.here _ | apply Pick.cons | apply Del.there))
            · exact ⟨ht3.trans hc5.1, hm2⟩
          · try simp only [bs] at h4
            refine Tr.skip ?_
            refine Tr.thenN ?_
            have hm2 : Blk (ltC cmp) c4 (2 * bz) n := by
              subst ht1
              exact mix_end ht4 (by omega)
            apply Tr.joined c4
            · exact rfl
            · exact Front.nil
            · exact SubX.dropN 7 (by kernel_rfl) rfl
            · exact (by repeat' (first | exact Pick.nil _ | exact Del.here _ | apply Pick.cons | apply Del.there))
            · exact ⟨ht3, hm2⟩
        · skip
          replace hi : Stab (ltC cmp) l c6 ∧ Blk (ltC cmp) c6 (2 * bz) n := hi
          change Tr _ _ [rowE V 81 encSec c6] ([] ++ _) _
          refine Tr.region ?_
          refine Tr.q (QS.move rfl) rfl ?_
          first | refine Tr.q (QS.mulI rfl rfl (by omega)) rfl ?_ | refine Tr.q (QS.mul rfl rfl) rfl ?_
          refine Tr.q (QS.assign rfl) rfl ?_
          refine Tr.nil ?_
          refine Tr.inN ?_
          refine Tr.thenN ?_
          apply Tr.again (2 * bz, _, _, c6)
          · exact rfl
          · exact (.cons (by first | rfl | exact lookI rfl (by omega) | exact lookI rfl (by simp) | exact lookB rfl (by simp)) (.cons (by first | rfl | exact lookI rfl (by omega) | exact lookI rfl (by simp) | exact lookB rfl (by simp)) (.cons (by first | rfl | exact lookI rfl (by omega) | exact lookI rfl (by simp) | exact lookB rfl (by simp)) Front.nil)))
          · exact SubX.dropN 18 (by kernel_rfl) rfl
          · exact (by repeat' (first | exact Pick.nil _ | exact Del.here _ | apply Pick.cons | apply Del.there))
          · exact ⟨by omega, by omega, hi.1, hi.2⟩
          · exact (by (try dsimp only); omega)
    · try simp only [bs] at h2
      refine Tr.exit ?_
      refine Tr.thenE ?_
      refine Tr.thenE ?_
      refine Tr.inHit ?_
      refine Tr.ret0n Try.results96 (fun w' hw => ?_)
      exact ⟨rfl, cur, ⟨hb4, ⟨hb4.len, fun k hk => by rw [getD_ge (by omega), getD_ge (by omega)]⟩, hb5.all (by omega)⟩, HpOK.mutOwn hw (.head _) rfl⟩

set_option maxRecDepth 100000 in
set_option maxHeartbeats 2000000 in
theorem sortStable_sec (l : List SecV) (V : Value) (g : FuncId) (cmp : SecV → SecV → Int) (eg : ∀ args w, (callFunc g args).run Try.prog w = .ok (.enter g args) w) (hc : ∀ x y w', Calls Try.prog g ([Value.agg (encSec.enc x).toArray, Value.agg (encSec.enc y).toArray] ++ []).toArray w' fun e w'' => e = .returned (.int .i64 (cmp x y)) ∧ Ext w' w'') (hO : WO (ltC cmp)) (w : World) (hr : (rowE V 81 encSec l).holds w) (hl : l.length ≤ 1000000) :
    Calls Try.prog 84 #[V, .func (.func g) #[] #[]] w (srtP cmp V l 0 l.length w) := by
  refine enterOwn (l := l) (E := encSec) (T := 81) hr Try.func84 rfl Try.ntmps84 rfl ?_
  refine Tr.region ?_
  refine Tr.q (QS.move rfl) rfl ?_
  refine Tr.q (QS.move rfl) rfl ?_
  first | refine Tr.q (QS.len rfl (by assumption) Try.underlying53) rfl ?_ | refine Tr.q (QS.lenRow rfl (by repeat (first | exact List.Mem.head _ | apply List.Mem.tail)) Try.underlying53) rfl ?_ | refine Tr.q (QS.lenNil rfl Try.underlying53) rfl ?_
  refine Tr.q (QS.move rfl) rfl ?_
  refine Tr.callMutR (fun c => Stab (ltC cmp) l c ∧ Fram 0 l.length l c ∧ Srt (ltC cmp) c 0 l.length) rfl Try.call96 (fun w hw => stable_sec l V l.length _ rfl g cmp eg hc hO w (hw.ent _ (.head _)) hl rfl) rfl (fun c2 hc2 => ?_)
  refine Tr.nil ?_
  refine Tr.ret0n Try.results84 (fun w' hw => ?_)
  exact ⟨rfl, c2, hc2, HpOK.mutOwn hw (.head _) rfl⟩

end Go.Proofs.Ytfmhhakhbopfdaa
