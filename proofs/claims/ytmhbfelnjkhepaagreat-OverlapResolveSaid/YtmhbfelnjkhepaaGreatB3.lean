/- Own rules and walks, part 3. -/
import Derived.Test.YtmhbfelnjkhepaaGreatB2
set_option linter.unusedSimpArgs false
set_option linter.unusedVariables false
set_option linter.unusedSectionVars false
namespace Go.Proofs.YtmhbfelnjkhepaaGreat
open Go Go.HL Go.RowKit
def ltCI (cmp : Ins → Ins → Int) (x y : Ins) : Bool := decide (cmp x y < 0)
def srtPI (cmp : Ins → Ins → Int) (V : Value) (l : List Ins) (a b : Nat) (w : World) : Ending → World → Prop := fun e w' => e = .returned (.tuple #[]) ∧ ∃ l', (Stab (ltCI cmp) l l' ∧ Fram a b l l' ∧ Srt (ltCI cmp) l' a b) ∧ Mut w w' V ∧ (rowE V 35 encIns l').holds w'
def SymForI (g : FuncId) (cb : List Value) (cmp : Ins → Ins → Int) (I : World → Prop) (V : Value) (n : Nat) : Prop := ∀ (l : List Ins) (a md b : Nat) (ai mdi bi : Int) (w : World), ai = ((a : Nat) : Int) → mdi = ((md : Nat) : Int) → bi = ((b : Nat) : Int) → b - a ≤ n → a < md → md < b → b ≤ l.length → l.length ≤ 1000000 → Srt (ltCI cmp) l a md → Srt (ltCI cmp) l md b → I w → (rowE V 35 encIns l).holds w → Calls Tryz.prog 93 #[V, .int .i64 ai, .int .i64 mdi, .int .i64 bi, .func (.func g) #[] cb.toArray] w (srtPI cmp V l a b w)
set_option maxRecDepth 100000 in
set_option maxHeartbeats 2000000 in
theorem insertion_ins (l : List Ins) (V : Value) (a : Nat) (b : Nat) (ai : Int) (bi : Int) (ea : ai = ((a : Nat) : Int)) (eb : bi = ((b : Nat) : Int)) (g : FuncId) (cb : List Value) (cmp : Ins → Ins → Int) (I : World → Prop) (hI : ∀ w w' l', I w → Mut w w' V → (rowE V 35 encIns l').holds w' → I w') (eg : ∀ args w, (callFunc g args).run Tryz.prog w = .ok (.enter g args) w) (hc : ∀ x y w', I w' → Calls Tryz.prog g ([Value.agg (encIns.enc x).toArray, Value.agg (encIns.enc y).toArray] ++ cb).toArray w' fun e w'' => e = .returned (.int .i64 (cmp x y)) ∧ Ext w' w'') (hO : WO (ltCI cmp)) (w : World) (hIw : I w) (hr : (rowE V 35 encIns l).holds w) (hl : l.length ≤ 1000000) (hab : a ≤ b) (hb : b ≤ l.length) :
    Calls Tryz.prog 92 #[V, .int .i64 ai, .int .i64 bi, .func (.func g) #[] cb.toArray] w (srtPI cmp V l a b w) := by
  subst ea eb
  refine enterOwn (l := l) (E := encIns) (T := 35) hr Tryz.func92 rfl Tryz.ntmps92 rfl ?_
  refine Tr.seq ?_
  refine Tr.region ?_
  refine Tr.q (QS.move rfl) rfl ?_
  refine Tr.q (QS.addI rfl rfl (by omega)) rfl ?_
  refine Tr.q (QS.assign rfl) rfl ?_
  refine Tr.nil ?_
  refine Tr.thenN ?_
  refine Tr.block ?_
  refine Tr.loop (ι := Nat × List Ins) (fun ⟨i, cur⟩ => a + 1 ≤ i ∧ (i ≤ b ∨ i = a + 1) ∧ Stab (ltCI cmp) l cur ∧ Fram a b l cur ∧ Srt (ltCI cmp) cur a i) (fun _ => _) (fun ⟨i, cur⟩ => [rowE V 35 encIns cur]) (fun ⟨i, cur⟩ => [(8, .int .i64 (i : Nat))]) (fun ⟨i, cur⟩ => b - i) (a + 1, l) ⟨Nat.le_refl _, .inr rfl, .refl _ _, .refl _ _ _, .one (Nat.le_refl _)⟩ (.cons (by first | rfl | exact lookI rfl (by omega) | exact lookI rfl (by simp) | exact lookB rfl (by simp)) Front.nil) (by repeat' (first | exact Pick.nil _ | exact Del.here _ | apply Pick.cons | apply Del.there)) rfl (fun i hi m hm => ?_)
  obtain ⟨i, cur⟩ := i
  replace hi : a + 1 ≤ i ∧ (i ≤ b ∨ i = a + 1) ∧ Stab (ltCI cmp) l cur ∧ Fram a b l cur ∧ Srt (ltCI cmp) cur a i := hi
  replace hm : m = b - i := hm
  change Tr _ _ [rowE V 35 encIns cur] ([(8, .int .i64 (i : Nat))] ++ _) _
  obtain ⟨hi1, hi2, hi3, hi4, hi5⟩ := hi
  have hcl : cur.length = l.length := hi4.1
  refine Tr.seq ?_
  refine Tr.seq ?_
  refine Tr.region ?_
  refine Tr.q (QS.move rfl) rfl ?_
  refine Tr.q (QS.move rfl) rfl ?_
  refine Tr.q (QS.lss rfl rfl) rfl ?_
  refine Tr.nil ?_
  refine Tr.thenN ?_
  refine Tr.cond rfl (fun h1 => ?_) (fun h1 => ?_)
  · try simp only [bs] at h1
    refine Tr.skip ?_
    refine Tr.thenN ?_
    refine Tr.seq ?_
    refine Tr.block ?_
    refine Tr.seq ?_
    refine Tr.region ?_
    refine Tr.q (QS.move rfl) rfl ?_
    refine Tr.q (QS.assign rfl) rfl ?_
    refine Tr.nil ?_
    refine Tr.thenN ?_
    refine Tr.block ?_
    have e0 : mp (rotF i i (i + 1)) cur = cur := rot_none (.inl rfl) (Nat.le_refl _) (by omega)
    refine Tr.rowEq e0.symm ?_
    refine Tr.loop (ι := Nat) (fun j => a ≤ j ∧ j ≤ i ∧ ∀ q, j ≤ q → q < i → ltCI cmp (cur.getD i default) (cur.getD q default) = true) (fun _ => _) (fun j => [rowE V 35 encIns (mp (rotF j i (i + 1)) cur)]) (fun j => [(9, .int .i64 (j : Nat))]) (fun j => j) i ⟨by omega, Nat.le_refl _, fun q x y => by omega⟩ (.cons (by first | rfl | exact lookI rfl (by omega) | exact lookI rfl (by simp) | exact lookB rfl (by simp)) Front.nil) (by repeat' (first | exact Pick.nil _ | exact Del.here _ | apply Pick.cons | apply Del.there)) rfl (fun j hi m hm => ?_)
    replace hi : a ≤ j ∧ j ≤ i ∧ ∀ q, j ≤ q → q < i → ltCI cmp (cur.getD i default) (cur.getD q default) = true := hi
    replace hm : m = j := hm
    change Tr _ _ [rowE V 35 encIns (mp (rotF j i (i + 1)) cur)] ([(9, .int .i64 (j : Nat))] ++ _) _
    obtain ⟨hj1, hj2, hj3⟩ := hi
    have hml : (mp (rotF j i (i + 1)) cur).length = l.length := by rw [mp_len]; exact hcl
    have ej : ((j : Int) - 1).toNat = j - 1 := by omega
    have ev : (mp (rotF j i (i + 1)) cur).getD j default = cur.getD i default := by rw [mp_at (by omega)]; congr 1; have := rotF_cases j i (i + 1) j; omega
    have ew : 0 < j → (mp (rotF j i (i + 1)) cur).getD (j - 1) default = cur.getD (j - 1) default := fun q => by rw [mp_at (by omega)]; congr 1; have := rotF_cases j i (i + 1) (j - 1); omega
    refine Tr.seq ?_
    refine Tr.seq ?_
    refine Tr.regionQ HLF.mixed (by kernel_rfl) ?_
    refine TrQ.q (QS.move rfl) rfl ?_
    refine TrQ.q (QS.move rfl) rfl ?_
    refine TrQ.q (QS.gtr rfl rfl) rfl ?_
    refine TrQ.q (QS.move rfl) rfl ?_
    apply TrQ.andP
    · exact (rfl : _ = (13, 21, 34))
    · exact rfl
    · intro hT2; have hT2' := hT2
      try simp only [bs] at hT2'
      refine TrQ.gq rfl rfl hT2 (QS.move rfl) rfl ?_
      refine TrQ.gq rfl rfl hT2 (QS.move rfl) rfl ?_
      refine TrQ.gq rfl rfl hT2 (QS.move rfl) rfl ?_
      refine TrQ.gq rfl rfl hT2 (QS.idxRowN rfl rfl (by repeat (first | exact List.Mem.head _ | apply List.Mem.tail)) Tryz.underlying22 Tryz.sizeOf35 (by rfl) (by omega)) rfl ?_
      refine TrQ.gq rfl rfl hT2 (QS.elRA rfl (by repeat (first | exact List.Mem.head _ | apply List.Mem.tail)) Tryz.isAgg35 Tryz.sizeOf35 (by rfl) (by omega)) rfl ?_
      refine TrQ.gq rfl rfl hT2 (QS.move rfl) rfl ?_
      refine TrQ.gq rfl rfl hT2 (QS.move rfl) rfl ?_
      refine TrQ.gq rfl rfl hT2 (QS.subI rfl rfl (by omega)) rfl ?_
      refine TrQ.gq rfl rfl hT2 (QS.idxRow rfl rfl (by repeat (first | exact List.Mem.head _ | apply List.Mem.tail)) Tryz.underlying22 Tryz.sizeOf35 (by rfl) (by omega)) rfl ?_
      refine TrQ.gq rfl rfl hT2 (QS.elRA rfl (by repeat (first | exact List.Mem.head _ | apply List.Mem.tail)) Tryz.isAgg35 Tryz.sizeOf35 (by rfl) (by omega)) rfl ?_
      refine TrQ.gq rfl rfl hT2 (QS.callV rfl rfl eg (fun w hw => hc _ _ w (hI _ _ _ hIw (HpOK.mutOwn hw (.head _) rfl).1 (HpOK.mutOwn hw (.head _) rfl).2))) rfl ?_
      refine TrQ.gq rfl rfl hT2 (QS.lss rfl rfl) rfl ?_
      refine TrQ.q (QS.pickT rfl hT2 rfl) rfl ?_
      exact TrQ.end (Sub.cons rfl (Sub.dropN 13 (by kernel_rfl) rfl))
    · intro hF2
      refine TrQ.gskip rfl rfl hF2 rfl ?_
      refine TrQ.gskip rfl rfl hF2 rfl ?_
      refine TrQ.gskip rfl rfl hF2 rfl ?_
      refine TrQ.gskip rfl rfl hF2 rfl ?_
      refine TrQ.gskip rfl rfl hF2 rfl ?_
      refine TrQ.gskip rfl rfl hF2 rfl ?_
      refine TrQ.gskip rfl rfl hF2 rfl ?_
      refine TrQ.gskip rfl rfl hF2 rfl ?_
      refine TrQ.gskip rfl rfl hF2 rfl ?_
      refine TrQ.gskip rfl rfl hF2 rfl ?_
      refine TrQ.gskip rfl rfl hF2 rfl ?_
      refine TrQ.gskip rfl rfl hF2 rfl ?_
      refine TrQ.q (QS.pickF rfl hF2 rfl) rfl ?_
      exact TrQ.end (Sub.cons rfl (Sub.dropN 13 (by kernel_rfl) rfl))
    refine TrQ.nil ?_
    refine Tr.thenN ?_
    refine Tr.cond rfl (fun h3 => ?_) (fun h3 => ?_)
    · try simp only [bs] at h3
      refine Tr.skip ?_
      refine Tr.thenN ?_
      refine Tr.seq ?_
      refine Tr.block ?_
      refine Tr.regionT 5 15 HLF.mixed (by kernel_rfl) (panicIn (panicThen (panicThen (panicIn (panicIn (panicThen (panicThen (panicIn panicBody)))))))) ?_
      refine TrQ.pureMove rfl rfl ?_
      refine TrQ.pureMove rfl rfl ?_
      refine TrQ.pureMove rfl rfl ?_
      refine TrQ.pureMove rfl rfl ?_
      refine TrQ.pureQ (fun _ => QS.subI rfl rfl (by omega)) (by rfl) rfl ?_
      refine TrQ.pureNil ?_
      refine TrQ.q (QS.move rfl) rfl ?_
      refine TrQ.q (QS.move rfl) rfl ?_
      refine TrQ.q (QS.subI rfl rfl (by omega)) rfl ?_
      refine TrQ.q (QS.idxRow rfl rfl (by repeat (first | exact List.Mem.head _ | apply List.Mem.tail)) Tryz.underlying22 Tryz.sizeOf35 (by rfl) (by omega)) rfl ?_
      refine TrQ.q (QS.elRA rfl (by repeat (first | exact List.Mem.head _ | apply List.Mem.tail)) Tryz.isAgg35 Tryz.sizeOf35 (by rfl) (by omega)) rfl ?_
      refine TrQ.q (QS.move rfl) rfl ?_
      refine TrQ.q (QS.move rfl) rfl ?_
      refine TrQ.q (QS.idxRowN rfl rfl (by repeat (first | exact List.Mem.head _ | apply List.Mem.tail)) Tryz.underlying22 Tryz.sizeOf35 (by rfl) (by omega)) rfl ?_
      refine TrQ.q (QS.elRA rfl (by repeat (first | exact List.Mem.head _ | apply List.Mem.tail)) Tryz.isAgg35 Tryz.sizeOf35 (by rfl) (by omega)) rfl ?_
      refine TrQ.q (QS.idxRowN rfl rfl (by repeat (first | exact List.Mem.head _ | apply List.Mem.tail)) Tryz.underlying22 Tryz.sizeOf35 (by rfl) (by omega)) rfl ?_
      refine TrQ.nil ?_
      refine Tr.storeEl (l := (mp (rotF j i (i + 1)) cur)) (i := j) ((mp (rotF j i (i + 1)) cur).getD (((j : Int) - 1).toNat) default) rfl rfl Tryz.sizeOf35 (by repeat (first | exact Put.here _ | apply Put.there)) (by (try simp only [List.length_set]); omega) (by rfl) rfl ?_
      have hls4 : (List.set (mp (rotF j i (i + 1)) cur) (j) ((mp (rotF j i (i + 1)) cur).getD (((j : Int) - 1).toNat) default)).length = ((mp (rotF j i (i + 1)) cur)).length := List.length_set
      refine Tr.q (QS.idxRow rfl rfl (by repeat (first | exact List.Mem.head _ | apply List.Mem.tail)) Tryz.underlying22 Tryz.sizeOf35 (by rfl) (by omega)) rfl ?_
      refine Tr.storeEl (l := ((mp (rotF j i (i + 1)) cur).set (j) ((mp (rotF j i (i + 1)) cur).getD (((j : Int) - 1).toNat) default))) (i := ((j : Int) - 1).toNat) ((mp (rotF j i (i + 1)) cur).getD (j) default) rfl rfl Tryz.sizeOf35 (by repeat (first | exact Put.here _ | apply Put.there)) (by (try simp only [List.length_set]); omega) (by rfl) rfl ?_
      have hls5 : (List.set ((mp (rotF j i (i + 1)) cur).set (j) ((mp (rotF j i (i + 1)) cur).getD (((j : Int) - 1).toNat) default)) (((j : Int) - 1).toNat) ((mp (rotF j i (i + 1)) cur).getD (j) default)).length = (((mp (rotF j i (i + 1)) cur).set (j) ((mp (rotF j i (i + 1)) cur).getD (((j : Int) - 1).toNat) default))).length := List.length_set
      refine Tr.nil ?_
      refine Tr.inN ?_
      refine Tr.thenN ?_
      refine Tr.region ?_
      refine Tr.q (QS.move rfl) rfl ?_
      refine Tr.q (QS.subI rfl rfl (by omega)) rfl ?_
      refine Tr.q (QS.assign rfl) rfl ?_
      refine Tr.nil ?_
      refine Tr.thenN ?_
      have hsw := mp_sw (l := (mp (rotF j i (i + 1)) cur)) (p := j) (q := j - 1) (by omega) (by omega)
      rw [rot_down (by omega) hj2 (by omega)] at hsw
      have hlt : ltCI cmp (cur.getD i default) (cur.getD (j - 1) default) = true := by
        rw [← ev, ← ew (by omega), ← ej]
        simpa [ltCI] using h3.2
      have hj3' : ∀ q, j - 1 ≤ q → q < i → ltCI cmp (cur.getD i default) (cur.getD q default) = true := fun q x y => by
        by_cases c : q = j - 1
        · rw [c]; exact hlt
        · exact hj3 q (by omega) y
      rw [ej, hsw]
      apply Tr.again (j - 1)
      · exact rfl
      · exact (.cons (by first | rfl | exact lookI rfl (by omega) | exact lookI rfl (by simp) | exact lookB rfl (by simp)) Front.nil)
      · exact SubX.dropN 25 (by kernel_rfl) rfl
      · exact (by repeat' (first | exact Pick.nil _ | exact Del.here _ | apply Pick.cons | apply Del.there))
      · exact ⟨by omega, by omega, hj3'⟩
      · exact (by (try dsimp only); omega)
    · try simp only [bs] at h3
      refine Tr.exit ?_
      refine Tr.thenE ?_
      refine Tr.thenE ?_
      refine Tr.inHit ?_
      refine Tr.inN ?_
      refine Tr.thenN ?_
      refine Tr.region ?_
      refine Tr.q (QS.move rfl) rfl ?_
      refine Tr.q (QS.addI rfl rfl (by omega)) rfl ?_
      refine Tr.q (QS.assign rfl) rfl ?_
      refine Tr.nil ?_
      refine Tr.thenN ?_
      have hB : j = a ∨ ltCI cmp (cur.getD i default) (cur.getD (j - 1) default) = false := by
        rcases h3 with h3 | h3
        · exact .inl (by omega)
        · by_cases q : j = a
          · exact .inl q
          · refine .inr ?_
            rw [← ev, ← ew (by omega), ← ej]
            simpa [ltCI] using h3
      have hin := srt_ins hO hi5 (by omega) hj1 hj2 hj3 hB
      have hfr : Fram a b l (mp (rotF j i (i + 1)) cur) := hi4.trans (Fram.rot hj1 (by omega) hj2 (by omega))
      apply Tr.again (i + 1, _)
      · exact rfl
      · exact (.cons (by first | rfl | exact lookI rfl (by omega) | exact lookI rfl (by simp) | exact lookB rfl (by simp)) Front.nil)
      · exact SubX.dropN 15 (by kernel_rfl) rfl
      · exact (by repeat' (first | exact Pick.nil _ | exact Del.here _ | apply Pick.cons | apply Del.there))
      · exact ⟨by omega, by omega, hi3.trans hin.1, hfr, hin.2⟩
      · exact (by (try dsimp only); omega)
  · try simp only [bs] at h1
    refine Tr.exit ?_
    refine Tr.thenE ?_
    refine Tr.thenE ?_
    refine Tr.inHit ?_
    refine Tr.ret0n Tryz.results92 (fun w' hw => ?_)
    exact ⟨rfl, _, ⟨hi3, hi4, hi5.sub (Nat.le_refl _) (by omega)⟩, HpOK.mutOwn hw (.head _) rfl⟩
set_option maxRecDepth 100000 in
set_option maxHeartbeats 2000000 in
theorem swapRange_ins (l : List Ins) (V : Value) (a : Nat) (b : Nat) (n : Nat) (ai : Int) (bi : Int) (ni : Int) (ea : ai = ((a : Nat) : Int)) (eb : bi = ((b : Nat) : Int)) (en : ni = ((n : Nat) : Int)) (cv : Value) (w : World) (hr : (rowE V 35 encIns l).holds w) (hl : l.length ≤ 1000000) (hab : a + n ≤ b) (hb : b + n ≤ l.length) :
    Calls Tryz.prog 149 #[V, .int .i64 ai, .int .i64 bi, .int .i64 ni, cv] w (fun e w' => e = .returned (.tuple #[]) ∧ Mut w w' V ∧ (rowE V 35 encIns (mp (swR a b n) l)).holds w') := by
  subst ea eb en
  refine enterOwn (l := l) (E := encIns) (T := 35) hr Tryz.func149 rfl Tryz.ntmps149 rfl ?_
  refine Tr.seq ?_
  refine Tr.region ?_
  refine Tr.q (QS.assign rfl) rfl ?_
  refine Tr.nil ?_
  refine Tr.thenN ?_
  refine Tr.block ?_
  have e0 : mp (swR a b 0) l = l := swR_0
  refine Tr.rowEq e0.symm ?_
  refine Tr.loop (ι := Nat) (fun i => i ≤ n) (fun _ => _) (fun i => [rowE V 35 encIns (mp (swR a b i) l)]) (fun i => [(10, .int .i64 (i : Nat))]) (fun i => n - i) 0 (Nat.zero_le _) (.cons (by first | rfl | exact lookI rfl (by omega) | exact lookI rfl (by simp) | exact lookB rfl (by simp)) Front.nil) (by repeat' (first | exact Pick.nil _ | exact Del.here _ | apply Pick.cons | apply Del.there)) rfl (fun i hi m hm => ?_)
  replace hi : i ≤ n := hi
  replace hm : m = n - i := hm
  change Tr _ _ [rowE V 35 encIns (mp (swR a b i) l)] ([(10, .int .i64 (i : Nat))] ++ _) _
  have hml : (mp (swR a b i) l).length = l.length := mp_len _ _
  refine Tr.seq ?_
  refine Tr.seq ?_
  refine Tr.region ?_
  refine Tr.q (QS.move rfl) rfl ?_
  refine Tr.q (QS.move rfl) rfl ?_
  refine Tr.q (QS.lss rfl rfl) rfl ?_
  refine Tr.nil ?_
  refine Tr.thenN ?_
  refine Tr.cond rfl (fun h1 => ?_) (fun h1 => ?_)
  · try simp only [bs] at h1
    refine Tr.skip ?_
    refine Tr.thenN ?_
    refine Tr.seq ?_
    refine Tr.block ?_
    refine Tr.regionT 8 21 HLF.mixed (by kernel_rfl) (panicIn (panicThen (panicThen (panicIn panicBody)))) ?_
    refine TrQ.pureMove rfl rfl ?_
    refine TrQ.pureMove rfl rfl ?_
    refine TrQ.pureMove rfl rfl ?_
    refine TrQ.pureQ (fun _ => QS.addI rfl rfl (by omega)) (by rfl) rfl ?_
    refine TrQ.pureMove rfl rfl ?_
    refine TrQ.pureMove rfl rfl ?_
    refine TrQ.pureMove rfl rfl ?_
    refine TrQ.pureQ (fun _ => QS.addI rfl rfl (by omega)) (by rfl) rfl ?_
    refine TrQ.pureNil ?_
    refine TrQ.q (QS.move rfl) rfl ?_
    refine TrQ.q (QS.move rfl) rfl ?_
    refine TrQ.q (QS.move rfl) rfl ?_
    refine TrQ.q (QS.addI rfl rfl (by omega)) rfl ?_
    refine TrQ.q (QS.idxRowN rfl rfl (by repeat (first | exact List.Mem.head _ | apply List.Mem.tail)) Tryz.underlying22 Tryz.sizeOf35 (by rfl) (by omega)) rfl ?_
    refine TrQ.q (QS.elRA rfl (by repeat (first | exact List.Mem.head _ | apply List.Mem.tail)) Tryz.isAgg35 Tryz.sizeOf35 (by rfl) (by omega)) rfl ?_
    refine TrQ.q (QS.move rfl) rfl ?_
    refine TrQ.q (QS.move rfl) rfl ?_
    refine TrQ.q (QS.move rfl) rfl ?_
    refine TrQ.q (QS.addI rfl rfl (by omega)) rfl ?_
    refine TrQ.q (QS.idxRowN rfl rfl (by repeat (first | exact List.Mem.head _ | apply List.Mem.tail)) Tryz.underlying22 Tryz.sizeOf35 (by rfl) (by omega)) rfl ?_
    refine TrQ.q (QS.elRA rfl (by repeat (first | exact List.Mem.head _ | apply List.Mem.tail)) Tryz.isAgg35 Tryz.sizeOf35 (by rfl) (by omega)) rfl ?_
    refine TrQ.q (QS.idxRowN rfl rfl (by repeat (first | exact List.Mem.head _ | apply List.Mem.tail)) Tryz.underlying22 Tryz.sizeOf35 (by rfl) (by omega)) rfl ?_
    refine TrQ.nil ?_
    refine Tr.storeEl (l := (mp (swR a b i) l)) (i := a + i) ((mp (swR a b i) l).getD (b + i) default) rfl rfl Tryz.sizeOf35 (by repeat (first | exact Put.here _ | apply Put.there)) (by (try simp only [List.length_set]); omega) (by rfl) rfl ?_
    have hls2 : (List.set (mp (swR a b i) l) (a + i) ((mp (swR a b i) l).getD (b + i) default)).length = ((mp (swR a b i) l)).length := List.length_set
    refine Tr.q (QS.idxRowN rfl rfl (by repeat (first | exact List.Mem.head _ | apply List.Mem.tail)) Tryz.underlying22 Tryz.sizeOf35 (by rfl) (by omega)) rfl ?_
    refine Tr.storeEl (l := ((mp (swR a b i) l).set (a + i) ((mp (swR a b i) l).getD (b + i) default))) (i := b + i) ((mp (swR a b i) l).getD (a + i) default) rfl rfl Tryz.sizeOf35 (by repeat (first | exact Put.here _ | apply Put.there)) (by (try simp only [List.length_set]); omega) (by rfl) rfl ?_
    have hls3 : (List.set ((mp (swR a b i) l).set (a + i) ((mp (swR a b i) l).getD (b + i) default)) (b + i) ((mp (swR a b i) l).getD (a + i) default)).length = (((mp (swR a b i) l).set (a + i) ((mp (swR a b i) l).getD (b + i) default))).length := List.length_set
    refine Tr.nil ?_
    refine Tr.inN ?_
    refine Tr.thenN ?_
    refine Tr.region ?_
    refine Tr.q (QS.move rfl) rfl ?_
    refine Tr.q (QS.addI rfl rfl (by omega)) rfl ?_
    refine Tr.q (QS.assign rfl) rfl ?_
    refine Tr.nil ?_
    refine Tr.thenN ?_
    have hsw := mp_sw (l := (mp (swR a b i) l)) (p := a + i) (q := b + i) (by omega) (by omega)
    rw [swR_step hab hb (by omega)] at hsw
    rw [hsw]
    apply Tr.again (i + 1)
    · exact rfl
    · exact (.cons (by first | rfl | exact lookI rfl (by omega) | exact lookI rfl (by simp) | exact lookB rfl (by simp)) Front.nil)
    · exact SubX.dropN 29 (by kernel_rfl) rfl
    · exact (by repeat' (first | exact Pick.nil _ | exact Del.here _ | apply Pick.cons | apply Del.there))
    · exact (by show i + 1 ≤ n; omega)
    · exact (by (try dsimp only); omega)
  · try simp only [bs] at h1
    refine Tr.exit ?_
    refine Tr.thenE ?_
    refine Tr.thenE ?_
    refine Tr.inHit ?_
    refine Tr.ret0n Tryz.results149 (fun w' hw => ?_)
    obtain rfl : i = n := by omega
    exact ⟨rfl, HpOK.mutOwn hw (.head _) rfl⟩
set_option maxRecDepth 100000 in
set_option maxHeartbeats 2000000 in
theorem rotate_ins (l : List Ins) (V : Value) (a : Nat) (md : Nat) (b : Nat) (ai : Int) (mdi : Int) (bi : Int) (ea : ai = ((a : Nat) : Int)) (emd : mdi = ((md : Nat) : Int)) (eb : bi = ((b : Nat) : Int)) (cv : Value) (w : World) (hr : (rowE V 35 encIns l).holds w) (hl : l.length ≤ 1000000) (ham : a < md) (hmb : md < b) (hb : b ≤ l.length) :
    Calls Tryz.prog 118 #[V, .int .i64 ai, .int .i64 mdi, .int .i64 bi, cv] w (fun e w' => e = .returned (.tuple #[]) ∧ Mut w w' V ∧ (rowE V 35 encIns (mp (rotF a md b) l)).holds w') := by
  subst ea emd eb
  refine enterOwn (l := l) (E := encIns) (T := 35) hr Tryz.func118 rfl Tryz.ntmps118 rfl ?_
  refine Tr.seq ?_
  refine Tr.region ?_
  refine Tr.q (QS.move rfl) rfl ?_
  refine Tr.q (QS.move rfl) rfl ?_
  refine Tr.q (QS.subI rfl rfl (by omega)) rfl ?_
  refine Tr.q (QS.assign rfl) rfl ?_
  refine Tr.nil ?_
  refine Tr.thenN ?_
  refine Tr.seq ?_
  refine Tr.region ?_
  refine Tr.q (QS.move rfl) rfl ?_
  refine Tr.q (QS.move rfl) rfl ?_
  refine Tr.q (QS.subI rfl rfl (by omega)) rfl ?_
  refine Tr.q (QS.assign rfl) rfl ?_
  refine Tr.nil ?_
  refine Tr.thenN ?_
  refine Tr.seq ?_
  refine Tr.block ?_
  refine Tr.loop (ι := Nat × Nat × List Ins) (fun ⟨i, j, cur⟩ => 0 < i ∧ 0 < j ∧ i ≤ md ∧ md + j ≤ l.length ∧ cur.length = l.length ∧ mp (rotF (md - i) md (md + j)) cur = mp (rotF a md b) l) (fun _ => _) (fun ⟨i, j, cur⟩ => [rowE V 35 encIns cur]) (fun ⟨i, j, cur⟩ => [(10, .int .i64 (i : Nat)), (11, .int .i64 (j : Nat))]) (fun ⟨i, j, cur⟩ => i + j) (md - a, b - md, l) ⟨by omega, by omega, by omega, by omega, rfl, by rw [show md - (md - a) = a by omega, show md + (b - md) = b by omega]⟩ (.cons (by first | rfl | exact lookI rfl (by omega) | exact lookI rfl (by simp) | exact lookB rfl (by simp)) (.cons (by first | rfl | exact lookI rfl (by omega) | exact lookI rfl (by simp) | exact lookB rfl (by simp)) Front.nil)) (by repeat' (first | exact Pick.nil _ | exact Del.here _ | apply Pick.cons | apply Del.there)) rfl (fun i hi m hm => ?_)
  obtain ⟨i, j, cur⟩ := i
  replace hi : 0 < i ∧ 0 < j ∧ i ≤ md ∧ md + j ≤ l.length ∧ cur.length = l.length ∧ mp (rotF (md - i) md (md + j)) cur = mp (rotF a md b) l := hi
  replace hm : m = i + j := hm
  change Tr _ _ [rowE V 35 encIns cur] ([(10, .int .i64 (i : Nat)), (11, .int .i64 (j : Nat))] ++ _) _
  obtain ⟨hi1, hi2, hi3, hi4, hi5, hi6⟩ := hi
  refine Tr.seq ?_
  refine Tr.seq ?_
  refine Tr.region ?_
  refine Tr.q (QS.move rfl) rfl ?_
  refine Tr.q (QS.move rfl) rfl ?_
  refine Tr.q (QS.neq rfl rfl) rfl ?_
  refine Tr.nil ?_
  refine Tr.thenN ?_
  refine Tr.cond rfl (fun h1 => ?_) (fun h1 => ?_)
  · try simp only [bs] at h1
    refine Tr.skip ?_
    refine Tr.thenN ?_
    refine Tr.block ?_
    refine Tr.seq ?_
    refine Tr.region ?_
    refine Tr.q (QS.move rfl) rfl ?_
    refine Tr.q (QS.move rfl) rfl ?_
    refine Tr.q (QS.gtr rfl rfl) rfl ?_
    refine Tr.nil ?_
    refine Tr.thenN ?_
    refine Tr.cond rfl (fun h2 => ?_) (fun h2 => ?_)
    · try simp only [bs] at h2
      refine Tr.seq ?_
      refine Tr.region ?_
      refine Tr.q (QS.move rfl) rfl ?_
      refine Tr.q (QS.move rfl) rfl ?_
      refine Tr.q (QS.move rfl) rfl ?_
      refine Tr.q (QS.subI rfl rfl (by omega)) rfl ?_
      refine Tr.q (QS.move rfl) rfl ?_
      refine Tr.q (QS.move rfl) rfl ?_
      refine Tr.q (QS.move rfl) rfl ?_
      refine Tr.callMut rfl Tryz.call149 (by repeat (first | exact Put.here _ | apply Put.there)) (fun w hw => swapRange_ins cur V (md - i) md j _ _ _ (by omega) (by omega) (by omega) cv w (hw.ent _ (.head _)) (by omega) (by omega) (by omega)) rfl ?_
      refine Tr.nil ?_
      refine Tr.thenN ?_
      refine Tr.region ?_
      refine Tr.q (QS.move rfl) rfl ?_
      refine Tr.q (QS.move rfl) rfl ?_
      refine Tr.q (QS.subI rfl rfl (by omega)) rfl ?_
      refine Tr.q (QS.assign rfl) rfl ?_
      refine Tr.nil ?_
      refine Tr.inN ?_
      refine Tr.thenN ?_
      have hn := (rot_gt (l := cur) (m := md) (i := i) (j := j) hi3 (by omega) (by omega)).trans hi6
      apply Tr.again (i - j, j, _)
      · exact rfl
      · exact (.cons (by first | rfl | exact lookI rfl (by omega) | exact lookI rfl (by simp) | exact lookB rfl (by simp)) (.cons (by first | rfl | exact lookI rfl (by omega) | exact lookI rfl (by simp) | exact lookB rfl (by simp)) Front.nil))
      · exact SubX.dropN 20 (by kernel_rfl) rfl
      · exact (by repeat' (first | exact Pick.nil _ | exact Del.here _ | apply Pick.cons | apply Del.there))
      · exact ⟨by omega, hi2, by omega, hi4, by rw [mp_len]; exact hi5, hn⟩
      · exact (by (try dsimp only); omega)
    · try simp only [bs] at h2
      refine Tr.seq ?_
      refine Tr.region ?_
      refine Tr.q (QS.move rfl) rfl ?_
      refine Tr.q (QS.move rfl) rfl ?_
      refine Tr.q (QS.move rfl) rfl ?_
      refine Tr.q (QS.subI rfl rfl (by omega)) rfl ?_
      refine Tr.q (QS.move rfl) rfl ?_
      refine Tr.q (QS.move rfl) rfl ?_
      refine Tr.q (QS.addI rfl rfl (by omega)) rfl ?_
      refine Tr.q (QS.move rfl) rfl ?_
      refine Tr.q (QS.subI rfl rfl (by omega)) rfl ?_
      refine Tr.q (QS.move rfl) rfl ?_
      refine Tr.q (QS.move rfl) rfl ?_
      refine Tr.callMut rfl Tryz.call149 (by repeat (first | exact Put.here _ | apply Put.there)) (fun w hw => swapRange_ins cur V (md - i) (md + j - i) i _ _ _ (by omega) (by omega) (by omega) cv w (hw.ent _ (.head _)) (by omega) (by omega) (by omega)) rfl ?_
      refine Tr.nil ?_
      refine Tr.thenN ?_
      refine Tr.region ?_
      refine Tr.q (QS.move rfl) rfl ?_
      refine Tr.q (QS.move rfl) rfl ?_
      refine Tr.q (QS.subI rfl rfl (by omega)) rfl ?_
      refine Tr.q (QS.assign rfl) rfl ?_
      refine Tr.nil ?_
      refine Tr.inN ?_
      refine Tr.thenN ?_
      have hn := (rot_lt (l := cur) (m := md) (i := i) (j := j) hi3 (by omega) (by omega)).trans hi6
      apply Tr.again (i, j - i, _)
      · exact rfl
      · exact (.cons (by first | rfl | exact lookI rfl (by omega) | exact lookI rfl (by simp) | exact lookB rfl (by simp)) (.cons (by first | rfl | exact lookI rfl (by omega) | exact lookI rfl (by simp) | exact lookB rfl (by simp)) Front.nil))
      · exact SubX.dropN 24 (by kernel_rfl) rfl
      · exact (by repeat' (first | exact Pick.nil _ | exact Del.here _ | apply Pick.cons | apply Del.there))
      · exact ⟨hi1, by omega, hi3, by omega, by rw [mp_len]; exact hi5, hn⟩
      · exact (by (try dsimp only); omega)
  · try simp only [bs] at h1
    refine Tr.exit ?_
    refine Tr.thenE ?_
    refine Tr.thenE ?_
    refine Tr.inHit ?_
    refine Tr.thenN ?_
    refine Tr.region ?_
    refine Tr.q (QS.move rfl) rfl ?_
    refine Tr.q (QS.move rfl) rfl ?_
    refine Tr.q (QS.move rfl) rfl ?_
    refine Tr.q (QS.subI rfl rfl (by omega)) rfl ?_
    refine Tr.q (QS.move rfl) rfl ?_
    refine Tr.q (QS.move rfl) rfl ?_
    refine Tr.q (QS.move rfl) rfl ?_
    refine Tr.callMut rfl Tryz.call149 (by repeat (first | exact Put.here _ | apply Put.there)) (fun w hw => swapRange_ins cur V (md - i) md i _ _ _ (by omega) (by omega) (by omega) cv w (hw.ent _ (.head _)) (by omega) (by omega) (by omega)) rfl ?_
    refine Tr.nil ?_
    refine Tr.ret0n Tryz.results118 (fun w' hw => ?_)
    obtain rfl : j = i := by omega
    rw [rot_eq hi3, hi6] at hw
    exact ⟨rfl, HpOK.mutOwn hw (.head _) rfl⟩
set_option maxRecDepth 100000 in
set_option maxHeartbeats 8000000 in
theorem sym_stepI (l : List Ins) (V : Value) (a : Nat) (md : Nat) (b : Nat) (ai : Int) (mdi : Int) (bi : Int) (ea : ai = ((a : Nat) : Int)) (emd : mdi = ((md : Nat) : Int)) (eb : bi = ((b : Nat) : Int)) (g : FuncId) (cb : List Value) (cmp : Ins → Ins → Int) (I : World → Prop) (hI : ∀ w w' l', I w → Mut w w' V → (rowE V 35 encIns l').holds w' → I w') (eg : ∀ args w, (callFunc g args).run Tryz.prog w = .ok (.enter g args) w) (hc : ∀ x y w', I w' → Calls Tryz.prog g ([Value.agg (encIns.enc x).toArray, Value.agg (encIns.enc y).toArray] ++ cb).toArray w' fun e w'' => e = .returned (.int .i64 (cmp x y)) ∧ Ext w' w'') (hO : WO (ltCI cmp)) (w : World) (hIw : I w) (hr : (rowE V 35 encIns l).holds w) (hl : l.length ≤ 1000000) (ih : ∀ n, n < b - a → SymForI g cb cmp I V n) (ham : a < md) (hmb : md < b) (hb : b ≤ l.length) (h1s : Srt (ltCI cmp) l a md) (h2s : Srt (ltCI cmp) l md b) :
    Calls Tryz.prog 93 #[V, .int .i64 ai, .int .i64 mdi, .int .i64 bi, .func (.func g) #[] cb.toArray] w (srtPI cmp V l a b w) := by
  subst ea emd eb
  refine enterOwn (l := l) (E := encIns) (T := 35) hr Tryz.func93 rfl Tryz.ntmps93 rfl ?_
  refine Tr.seq ?_
  refine Tr.seq ?_
  refine Tr.region ?_
  refine Tr.q (QS.move rfl) rfl ?_
  refine Tr.q (QS.move rfl) rfl ?_
  refine Tr.q (QS.subI rfl rfl (by omega)) rfl ?_
  refine Tr.q (QS.eql rfl rfl) rfl ?_
  refine Tr.nil ?_
  refine Tr.thenN ?_
  refine Tr.cond rfl (fun h1 => ?_) (fun h1 => ?_)
  · try simp only [bs] at h1
    refine Tr.seq ?_
    refine Tr.region ?_
    refine Tr.q (QS.move rfl) rfl ?_
    refine Tr.q (QS.assign rfl) rfl ?_
    refine Tr.nil ?_
    refine Tr.thenN ?_
    refine Tr.seq ?_
    refine Tr.region ?_
    refine Tr.q (QS.move rfl) rfl ?_
    refine Tr.q (QS.assign rfl) rfl ?_
    refine Tr.nil ?_
    refine Tr.thenN ?_
    refine Tr.seq ?_
    refine Tr.block ?_
    refine Tr.loop (ι := Nat × Nat) (fun ⟨i, j⟩ => md ≤ i ∧ i ≤ j ∧ j ≤ b ∧ (∀ q, md ≤ q → q < i → ltCI cmp (l.getD q default) (l.getD a default) = true) ∧ (∀ q, j ≤ q → q < b → ltCI cmp (l.getD q default) (l.getD a default) = false)) (fun _ => _) (fun ⟨i, j⟩ => [rowE V 35 encIns l]) (fun ⟨i, j⟩ => [(10, .int .i64 (i : Nat)), (11, .int .i64 (j : Nat))]) (fun ⟨i, j⟩ => j - i) (md, b) ⟨Nat.le_refl _, by omega, Nat.le_refl _, fun q x y => by omega, fun q x y => by omega⟩ (.cons (by first | rfl | exact lookI rfl (by omega) | exact lookI rfl (by simp) | exact lookB rfl (by simp)) (.cons (by first | rfl | exact lookI rfl (by omega) | exact lookI rfl (by simp) | exact lookB rfl (by simp)) Front.nil)) (by repeat' (first | exact Pick.nil _ | exact Del.here _ | apply Pick.cons | apply Del.there)) rfl (fun i hi m hm => ?_)
    obtain ⟨i, j⟩ := i
    replace hi : md ≤ i ∧ i ≤ j ∧ j ≤ b ∧ (∀ q, md ≤ q → q < i → ltCI cmp (l.getD q default) (l.getD a default) = true) ∧ (∀ q, j ≤ q → q < b → ltCI cmp (l.getD q default) (l.getD a default) = false) := hi
    replace hm : m = j - i := hm
    change Tr _ _ [rowE V 35 encIns l] ([(10, .int .i64 (i : Nat)), (11, .int .i64 (j : Nat))] ++ _) _
    obtain ⟨hi1, hi2, hi3, hi4, hi5⟩ := hi
    refine Tr.seq ?_
    refine Tr.seq ?_
    refine Tr.region ?_
    refine Tr.q (QS.move rfl) rfl ?_
    refine Tr.q (QS.move rfl) rfl ?_
    refine Tr.q (QS.lss rfl rfl) rfl ?_
    refine Tr.nil ?_
    refine Tr.thenN ?_
    refine Tr.cond rfl (fun h2 => ?_) (fun h2 => ?_)
    · try simp only [bs] at h2
      refine Tr.skip ?_
      refine Tr.thenN ?_
      refine Tr.block ?_
      refine Tr.seq ?_
      refine Tr.region ?_
      refine Tr.q (QS.move rfl) rfl ?_
      refine Tr.q (QS.move rfl) rfl ?_
      refine Tr.q (QS.addI rfl rfl (by omega)) rfl ?_
      refine Tr.q (QS.cvtIn rfl Tryz.underlying3 Tryz.underlying97 (IntWalk.u64_in _ (by omega))) rfl ?_
      refine Tr.q (QS.shr1 rfl rfl (by omega)) rfl ?_
      refine Tr.q (QS.cvtIn rfl Tryz.underlying97 Tryz.underlying3 (IntWalk.i64_in _ (by omega))) rfl ?_
      refine Tr.q (QS.assign rfl) rfl ?_
      refine Tr.nil ?_
      refine Tr.thenN ?_
      refine Tr.seq ?_
      obtain ⟨h, hhh⟩ : ∃ h, h = (i + j) / 2 := ⟨_, rfl⟩
      rw [show (((i : Nat) : Int) + ((j : Nat) : Int)) / 2 = ((h : Nat) : Int) by omega]
      refine Tr.regionQ HLF.mixed (by kernel_rfl) ?_
      refine TrQ.q (QS.move rfl) rfl ?_
      refine TrQ.q (QS.move rfl) rfl ?_
      refine TrQ.q (QS.move rfl) rfl ?_
      refine TrQ.q (QS.idxRowN rfl rfl (by repeat (first | exact List.Mem.head _ | apply List.Mem.tail)) Tryz.underlying22 Tryz.sizeOf35 (by rfl) (by omega)) rfl ?_
      refine TrQ.q (QS.elRA rfl (by repeat (first | exact List.Mem.head _ | apply List.Mem.tail)) Tryz.isAgg35 Tryz.sizeOf35 (by rfl) (by omega)) rfl ?_
      refine TrQ.q (QS.move rfl) rfl ?_
      refine TrQ.q (QS.move rfl) rfl ?_
      refine TrQ.q (QS.idxRowN rfl rfl (by repeat (first | exact List.Mem.head _ | apply List.Mem.tail)) Tryz.underlying22 Tryz.sizeOf35 (by rfl) (by omega)) rfl ?_
      refine TrQ.q (QS.elRA rfl (by repeat (first | exact List.Mem.head _ | apply List.Mem.tail)) Tryz.isAgg35 Tryz.sizeOf35 (by rfl) (by omega)) rfl ?_
      refine TrQ.q (QS.callV rfl rfl eg (fun w hw => hc _ _ w (hI _ _ _ hIw (HpOK.mutOwn hw (.head _) rfl).1 (HpOK.mutOwn hw (.head _) rfl).2))) rfl ?_
      refine TrQ.q (QS.lss rfl rfl) rfl ?_
      refine TrQ.nil ?_
      refine Tr.thenN ?_
      refine Tr.cond rfl (fun h3 => ?_) (fun h3 => ?_)
      · try simp only [bs] at h3
        refine Tr.region ?_
        refine Tr.q (QS.move rfl) rfl ?_
        refine Tr.q (QS.addI rfl rfl (by omega)) rfl ?_
        refine Tr.q (QS.assign rfl) rfl ?_
        refine Tr.nil ?_
        refine Tr.inN ?_
        refine Tr.thenN ?_
        have hx : ltCI cmp (l.getD h default) (l.getD a default) = true := by simp only [ltCI, decide_eq_true_eq]; assumption
        have hn : ∀ q, md ≤ q → q < h + 1 → ltCI cmp (l.getD q default) (l.getD a default) = true := fun q x y => hO.le_lt (h2s.le hO x (by omega) (by omega)) hx
        apply Tr.again (h + 1, j)
        · exact rfl
        · exact (.cons (by first | rfl | exact lookI rfl (by omega) | exact lookI rfl (by simp) | exact lookB rfl (by simp)) (.cons (by first | rfl | exact lookI rfl (by omega) | exact lookI rfl (by simp) | exact lookB rfl (by simp)) Front.nil))
        · exact SubX.dropN 26 (by kernel_rfl) rfl
        · exact (by repeat' (first | exact Pick.nil _ | exact Del.here _ | apply Pick.cons | apply Del.there))
        · exact ⟨by omega, by omega, hi3, hn, hi5⟩
        · exact (by (try dsimp only); omega)
      · try simp only [bs] at h3
        refine Tr.region ?_
        refine Tr.q (QS.move rfl) rfl ?_
        refine Tr.q (QS.assign rfl) rfl ?_
        refine Tr.nil ?_
        refine Tr.inN ?_
        refine Tr.thenN ?_
        have hx : ltCI cmp (l.getD h default) (l.getD a default) = false := by simp only [ltCI, decide_eq_false_iff_not]; assumption
        have hn : ∀ q, h ≤ q → q < b → ltCI cmp (l.getD q default) (l.getD a default) = false := fun q x y => hO.ntr _ _ _ (h2s.le hO (by omega) x y) hx
        apply Tr.again (i, h)
        · exact rfl
        · exact (.cons (by first | rfl | exact lookI rfl (by omega) | exact lookI rfl (by simp) | exact lookB rfl (by simp)) (.cons (by first | rfl | exact lookI rfl (by omega) | exact lookI rfl (by simp) | exact lookB rfl (by simp)) Front.nil))
        · exact SubX.dropN 25 (by kernel_rfl) rfl
        · exact (by repeat' (first | exact Pick.nil _ | exact Del.here _ | apply Pick.cons | apply Del.there))
        · exact ⟨hi1, by omega, by omega, hi4, hn⟩
        · exact (by (try dsimp only); omega)
    · try simp only [bs] at h2
      refine Tr.exit ?_
      refine Tr.thenE ?_
      refine Tr.thenE ?_
      refine Tr.inHit ?_
      refine Tr.thenN ?_
      refine Tr.seq ?_
      refine Tr.seq ?_
      refine Tr.region ?_
      refine Tr.q (QS.move rfl) rfl ?_
      refine Tr.q (QS.assign rfl) rfl ?_
      refine Tr.nil ?_
      refine Tr.thenN ?_
      refine Tr.block ?_
      have e0 : mp (rotF a (a + 1) (a + 1)) l = l := rot_none (.inr rfl) (by omega) (Nat.le_refl _)
      refine Tr.rowEq e0.symm ?_
      refine Tr.loop (ι := Nat) (fun k => a ≤ k ∧ k + 1 ≤ i) (fun _ => _) (fun k => [rowE V 35 encIns (mp (rotF a (a + 1) (k + 1)) l)]) (fun k => [(13, .int .i64 (k : Nat))]) (fun k => i - k) a ⟨Nat.le_refl _, by omega⟩ (.cons (by first | rfl | exact lookI rfl (by omega) | exact lookI rfl (by simp) | exact lookB rfl (by simp)) Front.nil) (by repeat' (first | exact Pick.nil _ | exact Del.here _ | apply Pick.cons | apply Del.there)) rfl (fun k hi m hm => ?_)
      replace hi : a ≤ k ∧ k + 1 ≤ i := hi
      replace hm : m = i - k := hm
      change Tr _ _ [rowE V 35 encIns (mp (rotF a (a + 1) (k + 1)) l)] ([(13, .int .i64 (k : Nat))] ++ _) _
      obtain ⟨hk1, hk2⟩ := hi
      have hml : (mp (rotF a (a + 1) (k + 1)) l).length = l.length := mp_len _ _
      refine Tr.seq ?_
      refine Tr.seq ?_
      refine Tr.region ?_
      refine Tr.q (QS.move rfl) rfl ?_
      refine Tr.q (QS.move rfl) rfl ?_
      refine Tr.q (QS.subI rfl rfl (by omega)) rfl ?_
      refine Tr.q (QS.lss rfl rfl) rfl ?_
      refine Tr.nil ?_
      refine Tr.thenN ?_
      refine Tr.cond rfl (fun h4 => ?_) (fun h4 => ?_)
      · try simp only [bs] at h4
        refine Tr.skip ?_
        refine Tr.thenN ?_
        refine Tr.seq ?_
        refine Tr.block ?_
        refine Tr.regionT 5 15 HLF.mixed (by kernel_rfl) (panicIn (panicThen (panicThen (panicIn (panicThen (panicThen panicBody)))))) ?_
        refine TrQ.pureMove rfl rfl ?_
        refine TrQ.pureMove rfl rfl ?_
        refine TrQ.pureMove rfl rfl ?_
        refine TrQ.pureMove rfl rfl ?_
        refine TrQ.pureQ (fun _ => QS.addI rfl rfl (by omega)) (by rfl) rfl ?_
        refine TrQ.pureNil ?_
        refine TrQ.q (QS.move rfl) rfl ?_
        refine TrQ.q (QS.move rfl) rfl ?_
        refine TrQ.q (QS.addI rfl rfl (by omega)) rfl ?_
        refine TrQ.q (QS.idxRow rfl rfl (by repeat (first | exact List.Mem.head _ | apply List.Mem.tail)) Tryz.underlying22 Tryz.sizeOf35 (by rfl) (by omega)) rfl ?_
        refine TrQ.q (QS.elRA rfl (by repeat (first | exact List.Mem.head _ | apply List.Mem.tail)) Tryz.isAgg35 Tryz.sizeOf35 (by rfl) (by omega)) rfl ?_
        refine TrQ.q (QS.move rfl) rfl ?_
        refine TrQ.q (QS.move rfl) rfl ?_
        refine TrQ.q (QS.idxRowN rfl rfl (by repeat (first | exact List.Mem.head _ | apply List.Mem.tail)) Tryz.underlying22 Tryz.sizeOf35 (by rfl) (by omega)) rfl ?_
        refine TrQ.q (QS.elRA rfl (by repeat (first | exact List.Mem.head _ | apply List.Mem.tail)) Tryz.isAgg35 Tryz.sizeOf35 (by rfl) (by omega)) rfl ?_
        refine TrQ.q (QS.idxRowN rfl rfl (by repeat (first | exact List.Mem.head _ | apply List.Mem.tail)) Tryz.underlying22 Tryz.sizeOf35 (by rfl) (by omega)) rfl ?_
        refine TrQ.nil ?_
        refine Tr.storeEl (l := (mp (rotF a (a + 1) (k + 1)) l)) (i := k) ((mp (rotF a (a + 1) (k + 1)) l).getD (k + 1) default) rfl rfl Tryz.sizeOf35 (by repeat (first | exact Put.here _ | apply Put.there)) (by (try simp only [List.length_set]); omega) (by rfl) rfl ?_
        have hls5 : (List.set (mp (rotF a (a + 1) (k + 1)) l) (k) ((mp (rotF a (a + 1) (k + 1)) l).getD (k + 1) default)).length = ((mp (rotF a (a + 1) (k + 1)) l)).length := List.length_set
        refine Tr.q (QS.idxRow rfl rfl (by repeat (first | exact List.Mem.head _ | apply List.Mem.tail)) Tryz.underlying22 Tryz.sizeOf35 (by rfl) (by omega)) rfl ?_
        refine Tr.storeEl (l := ((mp (rotF a (a + 1) (k + 1)) l).set (k) ((mp (rotF a (a + 1) (k + 1)) l).getD (k + 1) default))) (i := k + 1) ((mp (rotF a (a + 1) (k + 1)) l).getD (k) default) rfl rfl Tryz.sizeOf35 (by repeat (first | exact Put.here _ | apply Put.there)) (by (try simp only [List.length_set]); omega) (by rfl) rfl ?_
        have hls6 : (List.set ((mp (rotF a (a + 1) (k + 1)) l).set (k) ((mp (rotF a (a + 1) (k + 1)) l).getD (k + 1) default)) (k + 1) ((mp (rotF a (a + 1) (k + 1)) l).getD (k) default)).length = (((mp (rotF a (a + 1) (k + 1)) l).set (k) ((mp (rotF a (a + 1) (k + 1)) l).getD (k + 1) default))).length := List.length_set
        refine Tr.nil ?_
        refine Tr.inN ?_
        refine Tr.thenN ?_
        refine Tr.region ?_
        refine Tr.q (QS.move rfl) rfl ?_
        refine Tr.q (QS.addI rfl rfl (by omega)) rfl ?_
        refine Tr.q (QS.assign rfl) rfl ?_
        refine Tr.nil ?_
        refine Tr.thenN ?_
        have hsw := mp_sw (l := (mp (rotF a (a + 1) (k + 1)) l)) (p := k) (q := k + 1) (by omega) (by omega)
        rw [rot_up hk1 (by omega)] at hsw
        rw [hsw]
        apply Tr.again (k + 1)
        · exact rfl
        · exact (.cons (by first | rfl | exact lookI rfl (by omega) | exact lookI rfl (by simp) | exact lookB rfl (by simp)) Front.nil)
        · exact SubX.dropN 24 (by kernel_rfl) rfl
        · exact (by repeat' (first | exact Pick.nil _ | exact Del.here _ | apply Pick.cons | apply Del.there))
        · exact ⟨by omega, by omega⟩
        · exact (by (try dsimp only); omega)
      · try simp only [bs] at h4
        refine Tr.exit ?_
        refine Tr.thenE ?_
        refine Tr.thenE ?_
        refine Tr.inHit ?_
        refine Tr.thenN ?_
        refine Tr.ret ?_
        refine Tr.thenR ?_
        refine Tr.ret0 Tryz.results93 (fun w' hw => ?_)
        have hin := srt_ins' hO (l := l) (a := a) (i := i) (b := b) (by rw [show a + 1 = md by omega]; exact h2s) hb (by omega) (by omega) (fun q x y => hi4 q (by omega) y) (fun q x y => hi5 q (by omega) y)
        obtain rfl : i = k + 1 := by omega
        exact ⟨rfl, _, ⟨hin.1, Fram.rot (Nat.le_refl _) (by omega) (by omega) (by omega), hin.2⟩, HpOK.mutOwn hw (.head _) rfl⟩
  · try simp only [bs] at h1
    refine Tr.skip ?_
    refine Tr.thenN ?_
    refine Tr.seq ?_
    refine Tr.seq ?_
    refine Tr.region ?_
    refine Tr.q (QS.move rfl) rfl ?_
    refine Tr.q (QS.move rfl) rfl ?_
    refine Tr.q (QS.subI rfl rfl (by omega)) rfl ?_
    refine Tr.q (QS.eql rfl rfl) rfl ?_
    refine Tr.nil ?_
    refine Tr.thenN ?_
    refine Tr.cond rfl (fun h7 => ?_) (fun h7 => ?_)
    · try simp only [bs] at h7
      refine Tr.seq ?_
      refine Tr.region ?_
      refine Tr.q (QS.move rfl) rfl ?_
      refine Tr.q (QS.assign rfl) rfl ?_
      refine Tr.nil ?_
      refine Tr.thenN ?_
      refine Tr.seq ?_
      refine Tr.region ?_
      refine Tr.q (QS.move rfl) rfl ?_
      refine Tr.q (QS.assign rfl) rfl ?_
      refine Tr.nil ?_
      refine Tr.thenN ?_
      refine Tr.seq ?_
      refine Tr.block ?_
      refine Tr.loop (ι := Nat × Nat) (fun ⟨i, j⟩ => a ≤ i ∧ i ≤ j ∧ j ≤ md ∧ (∀ q, a ≤ q → q < i → ltCI cmp (l.getD md default) (l.getD q default) = false) ∧ (∀ q, j ≤ q → q < md → ltCI cmp (l.getD md default) (l.getD q default) = true)) (fun _ => _) (fun ⟨i, j⟩ => [rowE V 35 encIns l]) (fun ⟨i, j⟩ => [(14, .int .i64 (i : Nat)), (15, .int .i64 (j : Nat))]) (fun ⟨i, j⟩ => j - i) (a, md) ⟨Nat.le_refl _, by omega, Nat.le_refl _, fun q x y => by omega, fun q x y => by omega⟩ (.cons (by first | rfl | exact lookI rfl (by omega) | exact lookI rfl (by simp) | exact lookB rfl (by simp)) (.cons (by first | rfl | exact lookI rfl (by omega) | exact lookI rfl (by simp) | exact lookB rfl (by simp)) Front.nil)) (by repeat' (first | exact Pick.nil _ | exact Del.here _ | apply Pick.cons | apply Del.there)) rfl (fun i hi m hm => ?_)
      obtain ⟨i, j⟩ := i
      replace hi : a ≤ i ∧ i ≤ j ∧ j ≤ md ∧ (∀ q, a ≤ q → q < i → ltCI cmp (l.getD md default) (l.getD q default) = false) ∧ (∀ q, j ≤ q → q < md → ltCI cmp (l.getD md default) (l.getD q default) = true) := hi
      replace hm : m = j - i := hm
      change Tr _ _ [rowE V 35 encIns l] ([(14, .int .i64 (i : Nat)), (15, .int .i64 (j : Nat))] ++ _) _
      obtain ⟨hi1, hi2, hi3, hi4, hi5⟩ := hi
      refine Tr.seq ?_
      refine Tr.seq ?_
      refine Tr.region ?_
      refine Tr.q (QS.move rfl) rfl ?_
      refine Tr.q (QS.move rfl) rfl ?_
      refine Tr.q (QS.lss rfl rfl) rfl ?_
      refine Tr.nil ?_
      refine Tr.thenN ?_
      refine Tr.cond rfl (fun h8 => ?_) (fun h8 => ?_)
      · try simp only [bs] at h8
        refine Tr.skip ?_
        refine Tr.thenN ?_
        refine Tr.block ?_
        refine Tr.seq ?_
        refine Tr.region ?_
        refine Tr.q (QS.move rfl) rfl ?_
        refine Tr.q (QS.move rfl) rfl ?_
        refine Tr.q (QS.addI rfl rfl (by omega)) rfl ?_
        refine Tr.q (QS.cvtIn rfl Tryz.underlying3 Tryz.underlying97 (IntWalk.u64_in _ (by omega))) rfl ?_
        refine Tr.q (QS.shr1 rfl rfl (by omega)) rfl ?_
        refine Tr.q (QS.cvtIn rfl Tryz.underlying97 Tryz.underlying3 (IntWalk.i64_in _ (by omega))) rfl ?_
        refine Tr.q (QS.assign rfl) rfl ?_
        refine Tr.nil ?_
        refine Tr.thenN ?_
        refine Tr.seq ?_
        obtain ⟨h, hhh⟩ : ∃ h, h = (i + j) / 2 := ⟨_, rfl⟩
        rw [show (((i : Nat) : Int) + ((j : Nat) : Int)) / 2 = ((h : Nat) : Int) by omega]
        refine Tr.regionQ HLF.mixed (by kernel_rfl) ?_
        refine TrQ.q (QS.move rfl) rfl ?_
        refine TrQ.q (QS.move rfl) rfl ?_
        refine TrQ.q (QS.move rfl) rfl ?_
        refine TrQ.q (QS.idxRowN rfl rfl (by repeat (first | exact List.Mem.head _ | apply List.Mem.tail)) Tryz.underlying22 Tryz.sizeOf35 (by rfl) (by omega)) rfl ?_
        refine TrQ.q (QS.elRA rfl (by repeat (first | exact List.Mem.head _ | apply List.Mem.tail)) Tryz.isAgg35 Tryz.sizeOf35 (by rfl) (by omega)) rfl ?_
        refine TrQ.q (QS.move rfl) rfl ?_
        refine TrQ.q (QS.move rfl) rfl ?_
        refine TrQ.q (QS.idxRowN rfl rfl (by repeat (first | exact List.Mem.head _ | apply List.Mem.tail)) Tryz.underlying22 Tryz.sizeOf35 (by rfl) (by omega)) rfl ?_
        refine TrQ.q (QS.elRA rfl (by repeat (first | exact List.Mem.head _ | apply List.Mem.tail)) Tryz.isAgg35 Tryz.sizeOf35 (by rfl) (by omega)) rfl ?_
        refine TrQ.q (QS.callV rfl rfl eg (fun w hw => hc _ _ w (hI _ _ _ hIw (HpOK.mutOwn hw (.head _) rfl).1 (HpOK.mutOwn hw (.head _) rfl).2))) rfl ?_
        refine TrQ.q (QS.lss rfl rfl) rfl ?_
        refine TrQ.q (QS.not rfl) rfl ?_
        refine TrQ.nil ?_
        refine Tr.thenN ?_
        refine Tr.cond rfl (fun h9 => ?_) (fun h9 => ?_)
        · try simp only [bs] at h9
          refine Tr.region ?_
          refine Tr.q (QS.move rfl) rfl ?_
          refine Tr.q (QS.addI rfl rfl (by omega)) rfl ?_
          refine Tr.q (QS.assign rfl) rfl ?_
          refine Tr.nil ?_
          refine Tr.inN ?_
          refine Tr.thenN ?_
          have hx : ltCI cmp (l.getD md default) (l.getD h default) = false := by simp only [ltCI, decide_eq_false_iff_not]; assumption
          have hn : ∀ q, a ≤ q → q < h + 1 → ltCI cmp (l.getD md default) (l.getD q default) = false := fun q x y => hO.ntr _ _ _ hx (h1s.le hO x (by omega) (by omega))
          apply Tr.again (h + 1, j)
          · exact rfl
          · exact (.cons (by first | rfl | exact lookI rfl (by omega) | exact lookI rfl (by simp) | exact lookB rfl (by simp)) (.cons (by first | rfl | exact lookI rfl (by omega) | exact lookI rfl (by simp) | exact lookB rfl (by simp)) Front.nil))
          · exact SubX.dropN 27 (by kernel_rfl) rfl
          · exact (by repeat' (first | exact Pick.nil _ | exact Del.here _ | apply Pick.cons | apply Del.there))
          · exact ⟨by omega, by omega, hi3, hn, hi5⟩
          · exact (by (try dsimp only); omega)
        · try simp only [bs] at h9
          refine Tr.region ?_
          refine Tr.q (QS.move rfl) rfl ?_
          refine Tr.q (QS.assign rfl) rfl ?_
          refine Tr.nil ?_
          refine Tr.inN ?_
          refine Tr.thenN ?_
          have hx : ltCI cmp (l.getD md default) (l.getD h default) = true := by simp only [ltCI, decide_eq_true_eq]; assumption
          have hn : ∀ q, h ≤ q → q < md → ltCI cmp (l.getD md default) (l.getD q default) = true := fun q x y => hO.lt_le hx (h1s.le hO (by omega) x y)
          apply Tr.again (i, h)
          · exact rfl
          · exact (.cons (by first | rfl | exact lookI rfl (by omega) | exact lookI rfl (by simp) | exact lookB rfl (by simp)) (.cons (by first | rfl | exact lookI rfl (by omega) | exact lookI rfl (by simp) | exact lookB rfl (by simp)) Front.nil))
          · exact SubX.dropN 26 (by kernel_rfl) rfl
          · exact (by repeat' (first | exact Pick.nil _ | exact Del.here _ | apply Pick.cons | apply Del.there))
          · exact ⟨hi1, by omega, by omega, hi4, hn⟩
          · exact (by (try dsimp only); omega)
      · try simp only [bs] at h8
        refine Tr.exit ?_
        refine Tr.thenE ?_
        refine Tr.thenE ?_
        refine Tr.inHit ?_
        refine Tr.thenN ?_
        refine Tr.seq ?_
        refine Tr.seq ?_
        refine Tr.region ?_
        refine Tr.q (QS.move rfl) rfl ?_
        refine Tr.q (QS.assign rfl) rfl ?_
        refine Tr.nil ?_
        refine Tr.thenN ?_
        refine Tr.block ?_
        have e0 : mp (rotF md md (md + 1)) l = l := rot_none (.inl rfl) (Nat.le_refl _) (by omega)
        refine Tr.rowEq e0.symm ?_
        refine Tr.loop (ι := Nat) (fun k => i ≤ k ∧ k ≤ md) (fun _ => _) (fun k => [rowE V 35 encIns (mp (rotF k md (md + 1)) l)]) (fun k => [(17, .int .i64 (k : Nat))]) (fun k => k) md ⟨by omega, Nat.le_refl _⟩ (.cons (by first | rfl | exact lookI rfl (by omega) | exact lookI rfl (by simp) | exact lookB rfl (by simp)) Front.nil) (by repeat' (first | exact Pick.nil _ | exact Del.here _ | apply Pick.cons | apply Del.there)) rfl (fun k hi m hm => ?_)
        replace hi : i ≤ k ∧ k ≤ md := hi
        replace hm : m = k := hm
        change Tr _ _ [rowE V 35 encIns (mp (rotF k md (md + 1)) l)] ([(17, .int .i64 (k : Nat))] ++ _) _
        obtain ⟨hk1, hk2⟩ := hi
        have hml : (mp (rotF k md (md + 1)) l).length = l.length := mp_len _ _
        have ej : ((k : Int) - 1).toNat = k - 1 := by omega
        refine Tr.seq ?_
        refine Tr.seq ?_
        refine Tr.region ?_
        refine Tr.q (QS.move rfl) rfl ?_
        refine Tr.q (QS.move rfl) rfl ?_
        refine Tr.q (QS.gtr rfl rfl) rfl ?_
        refine Tr.nil ?_
        refine Tr.thenN ?_
        refine Tr.cond rfl (fun h10 => ?_) (fun h10 => ?_)
        · try simp only [bs] at h10
          refine Tr.skip ?_
          refine Tr.thenN ?_
          refine Tr.seq ?_
          refine Tr.block ?_
          refine Tr.regionT 5 15 HLF.mixed (by kernel_rfl) (panicIn (panicThen (panicThen (panicIn (panicThen (panicThen panicBody)))))) ?_
          refine TrQ.pureMove rfl rfl ?_
          refine TrQ.pureMove rfl rfl ?_
          refine TrQ.pureMove rfl rfl ?_
          refine TrQ.pureMove rfl rfl ?_
          refine TrQ.pureQ (fun _ => QS.subI rfl rfl (by omega)) (by rfl) rfl ?_
          refine TrQ.pureNil ?_
          refine TrQ.q (QS.move rfl) rfl ?_
          refine TrQ.q (QS.move rfl) rfl ?_
          refine TrQ.q (QS.subI rfl rfl (by omega)) rfl ?_
          refine TrQ.q (QS.idxRow rfl rfl (by repeat (first | exact List.Mem.head _ | apply List.Mem.tail)) Tryz.underlying22 Tryz.sizeOf35 (by rfl) (by omega)) rfl ?_
          refine TrQ.q (QS.elRA rfl (by repeat (first | exact List.Mem.head _ | apply List.Mem.tail)) Tryz.isAgg35 Tryz.sizeOf35 (by rfl) (by omega)) rfl ?_
          refine TrQ.q (QS.move rfl) rfl ?_
          refine TrQ.q (QS.move rfl) rfl ?_
          refine TrQ.q (QS.idxRowN rfl rfl (by repeat (first | exact List.Mem.head _ | apply List.Mem.tail)) Tryz.underlying22 Tryz.sizeOf35 (by rfl) (by omega)) rfl ?_
          refine TrQ.q (QS.elRA rfl (by repeat (first | exact List.Mem.head _ | apply List.Mem.tail)) Tryz.isAgg35 Tryz.sizeOf35 (by rfl) (by omega)) rfl ?_
          refine TrQ.q (QS.idxRowN rfl rfl (by repeat (first | exact List.Mem.head _ | apply List.Mem.tail)) Tryz.underlying22 Tryz.sizeOf35 (by rfl) (by omega)) rfl ?_
          refine TrQ.nil ?_
          refine Tr.storeEl (l := (mp (rotF k md (md + 1)) l)) (i := k) ((mp (rotF k md (md + 1)) l).getD (((k : Int) - 1).toNat) default) rfl rfl Tryz.sizeOf35 (by repeat (first | exact Put.here _ | apply Put.there)) (by (try simp only [List.length_set]); omega) (by rfl) rfl ?_
          have hls11 : (List.set (mp (rotF k md (md + 1)) l) (k) ((mp (rotF k md (md + 1)) l).getD (((k : Int) - 1).toNat) default)).length = ((mp (rotF k md (md + 1)) l)).length := List.length_set
          refine Tr.q (QS.idxRow rfl rfl (by repeat (first | exact List.Mem.head _ | apply List.Mem.tail)) Tryz.underlying22 Tryz.sizeOf35 (by rfl) (by omega)) rfl ?_
          refine Tr.storeEl (l := ((mp (rotF k md (md + 1)) l).set (k) ((mp (rotF k md (md + 1)) l).getD (((k : Int) - 1).toNat) default))) (i := ((k : Int) - 1).toNat) ((mp (rotF k md (md + 1)) l).getD (k) default) rfl rfl Tryz.sizeOf35 (by repeat (first | exact Put.here _ | apply Put.there)) (by (try simp only [List.length_set]); omega) (by rfl) rfl ?_
          have hls12 : (List.set ((mp (rotF k md (md + 1)) l).set (k) ((mp (rotF k md (md + 1)) l).getD (((k : Int) - 1).toNat) default)) (((k : Int) - 1).toNat) ((mp (rotF k md (md + 1)) l).getD (k) default)).length = (((mp (rotF k md (md + 1)) l).set (k) ((mp (rotF k md (md + 1)) l).getD (((k : Int) - 1).toNat) default))).length := List.length_set
          refine Tr.nil ?_
          refine Tr.inN ?_
          refine Tr.thenN ?_
          refine Tr.region ?_
          refine Tr.q (QS.move rfl) rfl ?_
          refine Tr.q (QS.subI rfl rfl (by omega)) rfl ?_
          refine Tr.q (QS.assign rfl) rfl ?_
          refine Tr.nil ?_
          refine Tr.thenN ?_
          have hsw := mp_sw (l := (mp (rotF k md (md + 1)) l)) (p := k) (q := k - 1) (by omega) (by omega)
          rw [rot_down (by omega) hk2 (by omega)] at hsw
          rw [ej, hsw]
          apply Tr.again (k - 1)
          · exact rfl
          · exact (.cons (by first | rfl | exact lookI rfl (by omega) | exact lookI rfl (by simp) | exact lookB rfl (by simp)) Front.nil)
          · exact SubX.dropN 23 (by kernel_rfl) rfl
          · exact (by repeat' (first | exact Pick.nil _ | exact Del.here _ | apply Pick.cons | apply Del.there))
          · exact ⟨by omega, by omega⟩
          · exact (by (try dsimp only); omega)
        · try simp only [bs] at h10
          refine Tr.exit ?_
          refine Tr.thenE ?_
          refine Tr.thenE ?_
          refine Tr.inHit ?_
          refine Tr.thenN ?_
          refine Tr.ret ?_
          refine Tr.thenR ?_
          refine Tr.ret0 Tryz.results93 (fun w' hw => ?_)
          obtain rfl : i = k := by omega
          have hin := srt_ins hO (l := l) (a := a) (i := md) (j := i) h1s (by omega) (by omega) (by omega) (fun q x y => hi5 q (by omega) y) (if q : i = a then .inl q else .inr (hi4 _ (by omega) (by omega)))
          obtain rfl : b = md + 1 := by omega
          exact ⟨rfl, _, ⟨hin.1, Fram.rot (by omega) (Nat.le_refl _) (by omega) (by omega), hin.2⟩, HpOK.mutOwn hw (.head _) rfl⟩
    · try simp only [bs] at h7
      refine Tr.skip ?_
      refine Tr.thenN ?_
      refine Tr.seq ?_
      refine Tr.region ?_
      refine Tr.q (QS.move rfl) rfl ?_
      refine Tr.q (QS.move rfl) rfl ?_
      refine Tr.q (QS.addI rfl rfl (by omega)) rfl ?_
      refine Tr.q (QS.cvtIn rfl Tryz.underlying3 Tryz.underlying97 (IntWalk.u64_in _ (by omega))) rfl ?_
      refine Tr.q (QS.shr1 rfl rfl (by omega)) rfl ?_
      refine Tr.q (QS.cvtIn rfl Tryz.underlying97 Tryz.underlying3 (IntWalk.i64_in _ (by omega))) rfl ?_
      refine Tr.q (QS.assign rfl) rfl ?_
      refine Tr.nil ?_
      refine Tr.thenN ?_
      refine Tr.seq ?_
      obtain ⟨mid, hhmid⟩ : ∃ mid, mid = (a + b) / 2 := ⟨_, rfl⟩
      rw [show (((a : Nat) : Int) + ((b : Nat) : Int)) / 2 = ((mid : Nat) : Int) by omega]
      refine Tr.region ?_
      refine Tr.q (QS.move rfl) rfl ?_
      refine Tr.q (QS.move rfl) rfl ?_
      refine Tr.q (QS.addI rfl rfl (by omega)) rfl ?_
      refine Tr.q (QS.assign rfl) rfl ?_
      refine Tr.nil ?_
      refine Tr.thenN ?_
      refine Tr.seq ?_
      refine Tr.region ?_
      refine Tr.q (QS.assign rfl) rfl ?_
      refine Tr.q (QS.assign rfl) rfl ?_
      refine Tr.nil ?_
      refine Tr.thenN ?_
      refine Tr.seqJ (ι := Nat × Nat) (fun ⟨s0, r0⟩ => (mid < md ∧ s0 + b = mid + md ∧ r0 = mid) ∨ (md ≤ mid ∧ s0 = a ∧ r0 = md)) (fun _ => Bg.less w V) (fun ⟨s0, r0⟩ => [rowE V 35 encIns l]) (fun ⟨s0, r0⟩ => [(20, .int .i64 (s0 : Nat)), (21, .int .i64 (r0 : Nat))]) ?_ (fun i hi => ?_)
      · skip
        refine Tr.seq ?_
        refine Tr.region ?_
        refine Tr.q (QS.move rfl) rfl ?_
        refine Tr.q (QS.move rfl) rfl ?_
        refine Tr.q (QS.gtr rfl rfl) rfl ?_
        refine Tr.nil ?_
        refine Tr.thenN ?_
        refine Tr.cond rfl (fun h13 => ?_) (fun h13 => ?_)
        · try simp only [bs] at h13
          refine Tr.seq ?_
          refine Tr.region ?_
          refine Tr.q (QS.move rfl) rfl ?_
          refine Tr.q (QS.move rfl) rfl ?_
          refine Tr.q (QS.subI rfl rfl (by omega)) rfl ?_
          refine Tr.q (QS.assign rfl) rfl ?_
          refine Tr.nil ?_
          refine Tr.thenN ?_
          refine Tr.region ?_
          refine Tr.q (QS.move rfl) rfl ?_
          refine Tr.q (QS.assign rfl) rfl ?_
          refine Tr.nil ?_
          refine Tr.thenN ?_
          apply Tr.joined (mid + md - b, mid)
          · exact rfl
          · exact (.cons (by first | rfl | exact lookI rfl (by omega) | exact lookI rfl (by simp) | exact lookB rfl (by simp)) (.cons (by first | rfl | exact lookI rfl (by omega) | exact lookI rfl (by simp) | exact lookB rfl (by simp)) Front.nil))
          · exact SubX.dropN 9 (by kernel_rfl) rfl
          · exact (by repeat' (first | exact Pick.nil _ | exact Del.here _ | apply Pick.cons | apply Del.there))
          · exact .inl ⟨by omega, by omega, rfl⟩
        · try simp only [bs] at h13
          refine Tr.seq ?_
          refine Tr.region ?_
          refine Tr.q (QS.move rfl) rfl ?_
          refine Tr.q (QS.assign rfl) rfl ?_
          refine Tr.nil ?_
          refine Tr.thenN ?_
          refine Tr.region ?_
          refine Tr.q (QS.move rfl) rfl ?_
          refine Tr.q (QS.assign rfl) rfl ?_
          refine Tr.nil ?_
          refine Tr.thenN ?_
          apply Tr.joined (a, md)
          · exact rfl
          · exact (.cons (by first | rfl | exact lookI rfl (by omega) | exact lookI rfl (by simp) | exact lookB rfl (by simp)) (.cons (by first | rfl | exact lookI rfl (by omega) | exact lookI rfl (by simp) | exact lookB rfl (by simp)) Front.nil))
          · exact SubX.dropN 7 (by kernel_rfl) rfl
          · exact (by repeat' (first | exact Pick.nil _ | exact Del.here _ | apply Pick.cons | apply Del.there))
          · exact .inr ⟨by omega, rfl, rfl⟩
      · obtain ⟨s0, r0⟩ := i
        replace hi : (mid < md ∧ s0 + b = mid + md ∧ r0 = mid) ∨ (md ≤ mid ∧ s0 = a ∧ r0 = md) := hi
        change Tr _ _ [rowE V 35 encIns l] ([(20, .int .i64 (s0 : Nat)), (21, .int .i64 (r0 : Nat))] ++ _) _
        have hs0 : a ≤ s0 ∧ s0 ≤ r0 ∧ r0 ≤ md := by omega
        refine Tr.seq ?_
        refine Tr.region ?_
        refine Tr.q (QS.move rfl) rfl ?_
        refine Tr.q (QS.subI rfl rfl (by omega)) rfl ?_
        refine Tr.q (QS.assign rfl) rfl ?_
        refine Tr.nil ?_
        refine Tr.thenN ?_
        refine Tr.seq ?_
        refine Tr.block ?_
        refine Tr.loop (ι := Nat × Nat) (fun ⟨st, r⟩ => s0 ≤ st ∧ st ≤ r ∧ r ≤ r0 ∧ (st = s0 ∨ ltCI cmp (l.getD (mid + md - st) default) (l.getD (st - 1) default) = false) ∧ (r = r0 ∨ ltCI cmp (l.getD (mid + md - 1 - r) default) (l.getD r default) = true)) (fun _ => _) (fun ⟨st, r⟩ => [rowE V 35 encIns l]) (fun ⟨st, r⟩ => [(20, .int .i64 (st : Nat)), (21, .int .i64 (r : Nat))]) (fun ⟨st, r⟩ => r - st) (s0, r0) ⟨Nat.le_refl _, by omega, Nat.le_refl _, .inl rfl, .inl rfl⟩ (.cons (by first | rfl | exact lookI rfl (by omega) | exact lookI rfl (by simp) | exact lookB rfl (by simp)) (.cons (by first | rfl | exact lookI rfl (by omega) | exact lookI rfl (by simp) | exact lookB rfl (by simp)) Front.nil)) (by repeat' (first | exact Pick.nil _ | exact Del.here _ | apply Pick.cons | apply Del.there)) rfl (fun i hi m hm => ?_)
        obtain ⟨st, r⟩ := i
        replace hi : s0 ≤ st ∧ st ≤ r ∧ r ≤ r0 ∧ (st = s0 ∨ ltCI cmp (l.getD (mid + md - st) default) (l.getD (st - 1) default) = false) ∧ (r = r0 ∨ ltCI cmp (l.getD (mid + md - 1 - r) default) (l.getD r default) = true) := hi
        replace hm : m = r - st := hm
        change Tr _ _ [rowE V 35 encIns l] ([(20, .int .i64 (st : Nat)), (21, .int .i64 (r : Nat))] ++ _) _
        obtain ⟨hi1, hi2, hi3, hi4, hi5⟩ := hi
        refine Tr.seq ?_
        refine Tr.seq ?_
        refine Tr.region ?_
        refine Tr.q (QS.move rfl) rfl ?_
        refine Tr.q (QS.move rfl) rfl ?_
        refine Tr.q (QS.lss rfl rfl) rfl ?_
        refine Tr.nil ?_
        refine Tr.thenN ?_
        refine Tr.cond rfl (fun h14 => ?_) (fun h14 => ?_)
        · try simp only [bs] at h14
          refine Tr.skip ?_
          refine Tr.thenN ?_
          refine Tr.block ?_
          refine Tr.seq ?_
          refine Tr.region ?_
          refine Tr.q (QS.move rfl) rfl ?_
          refine Tr.q (QS.move rfl) rfl ?_
          refine Tr.q (QS.addI rfl rfl (by omega)) rfl ?_
          refine Tr.q (QS.cvtIn rfl Tryz.underlying3 Tryz.underlying97 (IntWalk.u64_in _ (by omega))) rfl ?_
          refine Tr.q (QS.shr1 rfl rfl (by omega)) rfl ?_
          refine Tr.q (QS.cvtIn rfl Tryz.underlying97 Tryz.underlying3 (IntWalk.i64_in _ (by omega))) rfl ?_
          refine Tr.q (QS.assign rfl) rfl ?_
          refine Tr.nil ?_
          refine Tr.thenN ?_
          refine Tr.seq ?_
          obtain ⟨c, hhc⟩ : ∃ c, c = (st + r) / 2 := ⟨_, rfl⟩
          rw [show (((st : Nat) : Int) + ((r : Nat) : Int)) / 2 = ((c : Nat) : Int) by omega]
          refine Tr.regionQ HLF.mixed (by kernel_rfl) ?_
          refine TrQ.q (QS.move rfl) rfl ?_
          refine TrQ.q (QS.move rfl) rfl ?_
          refine TrQ.q (QS.move rfl) rfl ?_
          refine TrQ.q (QS.move rfl) rfl ?_
          refine TrQ.q (QS.subI rfl rfl (by omega)) rfl ?_
          refine TrQ.q (QS.idxRow rfl rfl (by repeat (first | exact List.Mem.head _ | apply List.Mem.tail)) Tryz.underlying22 Tryz.sizeOf35 (by rfl) (by omega)) rfl ?_
          refine TrQ.q (QS.elRA rfl (by repeat (first | exact List.Mem.head _ | apply List.Mem.tail)) Tryz.isAgg35 Tryz.sizeOf35 (by rfl) (by omega)) rfl ?_
          refine TrQ.q (QS.move rfl) rfl ?_
          refine TrQ.q (QS.move rfl) rfl ?_
          refine TrQ.q (QS.idxRowN rfl rfl (by repeat (first | exact List.Mem.head _ | apply List.Mem.tail)) Tryz.underlying22 Tryz.sizeOf35 (by rfl) (by omega)) rfl ?_
          refine TrQ.q (QS.elRA rfl (by repeat (first | exact List.Mem.head _ | apply List.Mem.tail)) Tryz.isAgg35 Tryz.sizeOf35 (by rfl) (by omega)) rfl ?_
          refine TrQ.q (QS.callV rfl rfl eg (fun w hw => hc _ _ w (hI _ _ _ hIw (HpOK.mutOwn hw (.head _) rfl).1 (HpOK.mutOwn hw (.head _) rfl).2))) rfl ?_
          refine TrQ.q (QS.lss rfl rfl) rfl ?_
          refine TrQ.q (QS.not rfl) rfl ?_
          refine TrQ.nil ?_
          refine Tr.thenN ?_
          refine Tr.cond rfl (fun h15 => ?_) (fun h15 => ?_)
          · try simp only [bs] at h15
            refine Tr.region ?_
            refine Tr.q (QS.move rfl) rfl ?_
            refine Tr.q (QS.addI rfl rfl (by omega)) rfl ?_
            refine Tr.q (QS.assign rfl) rfl ?_
            refine Tr.nil ?_
            refine Tr.inN ?_
            refine Tr.thenN ?_
            have ec : ((((mid : Nat) : Int) + ((md : Nat) : Int)) - 1 - ((c : Nat) : Int)).toNat = mid + md - 1 - c := by omega
            have hx : ltCI cmp (l.getD (mid + md - 1 - c) default) (l.getD c default) = false := by rw [← ec]; simp only [ltCI, decide_eq_false_iff_not]; assumption
            apply Tr.again (c + 1, r)
            · exact rfl
            · exact (.cons (by first | rfl | exact lookI rfl (by omega) | exact lookI rfl (by simp) | exact lookB rfl (by simp)) (.cons (by first | rfl | exact lookI rfl (by omega) | exact lookI rfl (by simp) | exact lookB rfl (by simp)) Front.nil))
            · exact SubX.dropN 29 (by kernel_rfl) rfl
            · exact (by repeat' (first | exact Pick.nil _ | exact Del.here _ | apply Pick.cons | apply Del.there))
            · exact ⟨by omega, by omega, hi3, .inr (by rw [show mid + md - (c + 1) = mid + md - 1 - c by omega]; exact hx), hi5⟩
            · exact (by (try dsimp only); omega)
          · try simp only [bs] at h15
            refine Tr.region ?_
            refine Tr.q (QS.move rfl) rfl ?_
            refine Tr.q (QS.assign rfl) rfl ?_
            refine Tr.nil ?_
            refine Tr.inN ?_
            refine Tr.thenN ?_
            have ec : ((((mid : Nat) : Int) + ((md : Nat) : Int)) - 1 - ((c : Nat) : Int)).toNat = mid + md - 1 - c := by omega
            have hx : ltCI cmp (l.getD (mid + md - 1 - c) default) (l.getD c default) = true := by rw [← ec]; simp only [ltCI, decide_eq_true_eq]; assumption
            apply Tr.again (st, c)
            · exact rfl
            · exact (.cons (by first | rfl | exact lookI rfl (by omega) | exact lookI rfl (by simp) | exact lookB rfl (by simp)) (.cons (by first | rfl | exact lookI rfl (by omega) | exact lookI rfl (by simp) | exact lookB rfl (by simp)) Front.nil))
            · exact SubX.dropN 28 (by kernel_rfl) rfl
            · exact (by repeat' (first | exact Pick.nil _ | exact Del.here _ | apply Pick.cons | apply Del.there))
            · exact ⟨hi1, by omega, by omega, hi4, .inr hx⟩
            · exact (by (try dsimp only); omega)
        · try simp only [bs] at h14
          refine Tr.exit ?_
          refine Tr.thenE ?_
          refine Tr.thenE ?_
          refine Tr.inHit ?_
          refine Tr.thenN ?_
          refine Tr.seq ?_
          refine Tr.region ?_
          refine Tr.q (QS.move rfl) rfl ?_
          refine Tr.q (QS.move rfl) rfl ?_
          refine Tr.q (QS.subI rfl rfl (by omega)) rfl ?_
          refine Tr.q (QS.assign rfl) rfl ?_
          refine Tr.nil ?_
          refine Tr.thenN ?_
          obtain rfl : r = st := by omega
          obtain ⟨e, he⟩ : ∃ e, e = mid + md - r := ⟨_, rfl⟩
          rw [show (((mid : Nat) : Int) + ((md : Nat) : Int)) - ((r : Nat) : Int) = ((e : Nat) : Int) by omega]
          have hme : md ≤ e := by omega
          have heb : e ≤ b := by omega
          have hmm : mid = r + (e - md) := by omega
          have hd : r = md ∨ md = e ∨ ltCI cmp (l.getD (e - 1) default) (l.getD r default) = true := by
            rcases hi5 with q | q
            · omega
            · exact .inr (.inr (by rw [show e - 1 = mid + md - 1 - r by omega]; exact q))
          have hg : r = a ∨ e = b ∨ ltCI cmp (l.getD e default) (l.getD (r - 1) default) = false := by
            rcases hi4 with q | q
            · omega
            · exact .inr (.inr (by rw [he]; exact q))
          have hf := half_rot hO h1s h2s hb (by omega) (by omega) hme heb hmm hd hg
          have hml : (mp (rotF r md e) l).length = l.length := mp_len _ _
          refine Tr.seqJ (ι := Unit) (fun _u => True) (fun _ => Bg.less w V) (fun _u => [rowE V 35 encIns (mp (rotF r md e) l)]) (fun _u => []) ?_ (fun _u hi => ?_)
          · skip
            refine Tr.seq ?_
            refine Tr.region ?_
            refine Tr.q (QS.move rfl) rfl ?_
            refine Tr.q (QS.move rfl) rfl ?_
            refine Tr.q (QS.lss rfl rfl) rfl ?_
            refine Tr.q (QS.move rfl) rfl ?_
            apply Tr.andP
            · exact (rfl : _ = (4, 181, 185))
            · exact rfl
            · intro hT16; have hT16' := hT16
              try simp only [bs] at hT16'
              refine Tr.gq rfl rfl hT16 (QS.move rfl) rfl ?_
              refine Tr.gq rfl rfl hT16 (QS.move rfl) rfl ?_
              refine Tr.gq rfl rfl hT16 (QS.lss rfl rfl) rfl ?_
              refine Tr.q (QS.pickT rfl hT16 rfl) rfl ?_
              refine Tr.nil (Tr.thenN ?_)
              exact Tr.endX (Sub.cons rfl (Sub.dropN 4 (by kernel_rfl) rfl))
            · intro hF16
              refine Tr.gskip rfl rfl hF16 rfl ?_
              refine Tr.gskip rfl rfl hF16 rfl ?_
              refine Tr.gskip rfl rfl hF16 rfl ?_
              refine Tr.q (QS.pickF rfl hF16 rfl) rfl ?_
              refine Tr.nil (Tr.thenN ?_)
              exact Tr.endX (Sub.cons rfl (Sub.dropN 4 (by kernel_rfl) rfl))
            refine Tr.nil ?_
            refine Tr.thenN ?_
            refine Tr.cond rfl (fun h17 => ?_) (fun h17 => ?_)
            · try simp only [bs] at h17
              refine Tr.region ?_
              refine Tr.q (QS.move rfl) rfl ?_
              refine Tr.q (QS.move rfl) rfl ?_
              refine Tr.q (QS.move rfl) rfl ?_
              refine Tr.q (QS.move rfl) rfl ?_
              refine Tr.q (QS.move rfl) rfl ?_
              refine Tr.callMut rfl Tryz.call118 (by repeat (first | exact Put.here _ | apply Put.there)) (fun w hw => rotate_ins l V r md e _ _ _ (by omega) (by omega) (by omega) _ w (hw.ent _ (.head _)) hl (by omega) (by omega) (by omega)) rfl ?_
              refine Tr.nil ?_
              refine Tr.thenN ?_
              apply Tr.joined ()
              · exact rfl
              · exact Front.nil
              · exact SubX.dropN 11 (by kernel_rfl) rfl
              · exact (by repeat' (first | exact Pick.nil _ | exact Del.here _ | apply Pick.cons | apply Del.there))
              · exact trivial
            · try simp only [bs] at h17
              refine Tr.skip ?_
              refine Tr.thenN ?_
              refine Tr.rowEq (l' := mp (rotF r md e) l) (rot_none (by omega) (by omega) (by omega)).symm ?_
              apply Tr.joined ()
              · exact rfl
              · exact Front.nil
              · exact SubX.dropN 5 (by kernel_rfl) rfl
              · exact (by repeat' (first | exact Pick.nil _ | exact Del.here _ | apply Pick.cons | apply Del.there))
              · exact trivial
          · skip
            replace hi : True := hi
            change Tr _ _ [rowE V 35 encIns (mp (rotF r md e) l)] ([] ++ _) _
            refine Tr.seqJ (ι := List Ins) (fun c2 => Half (ltCI cmp) l c2 a mid mid e b) (fun _ => Bg.less w V) (fun c2 => [rowE V 35 encIns c2]) (fun c2 => []) ?_ (fun c2 hi => ?_)
            · skip
              refine Tr.seq ?_
              refine Tr.region ?_
              refine Tr.q (QS.move rfl) rfl ?_
              refine Tr.q (QS.move rfl) rfl ?_
              refine Tr.q (QS.lss rfl rfl) rfl ?_
              refine Tr.q (QS.move rfl) rfl ?_
              apply Tr.andP
              · exact (rfl : _ = (4, 195, 199))
              · exact rfl
              · intro hT18; have hT18' := hT18
                try simp only [bs] at hT18'
                refine Tr.gq rfl rfl hT18 (QS.move rfl) rfl ?_
                refine Tr.gq rfl rfl hT18 (QS.move rfl) rfl ?_
                refine Tr.gq rfl rfl hT18 (QS.lss rfl rfl) rfl ?_
                refine Tr.q (QS.pickT rfl hT18 rfl) rfl ?_
                refine Tr.nil (Tr.thenN ?_)
                exact Tr.endX (Sub.cons rfl (Sub.dropN 4 (by kernel_rfl) rfl))
              · intro hF18
                refine Tr.gskip rfl rfl hF18 rfl ?_
                refine Tr.gskip rfl rfl hF18 rfl ?_
                refine Tr.gskip rfl rfl hF18 rfl ?_
                refine Tr.q (QS.pickF rfl hF18 rfl) rfl ?_
                refine Tr.nil (Tr.thenN ?_)
                exact Tr.endX (Sub.cons rfl (Sub.dropN 4 (by kernel_rfl) rfl))
              refine Tr.nil ?_
              refine Tr.thenN ?_
              refine Tr.cond rfl (fun h19 => ?_) (fun h19 => ?_)
              · try simp only [bs] at h19
                refine Tr.region ?_
                refine Tr.q (QS.move rfl) rfl ?_
                refine Tr.q (QS.move rfl) rfl ?_
                refine Tr.q (QS.move rfl) rfl ?_
                refine Tr.q (QS.move rfl) rfl ?_
                refine Tr.q (QS.move rfl) rfl ?_
                refine Tr.callMutR (fun c => Stab (ltCI cmp) (mp (rotF r md e) l) c ∧ Fram a mid (mp (rotF r md e) l) c ∧ Srt (ltCI cmp) c a mid) rfl Tryz.call93 (fun w hw => ih (mid - a) (by omega) (mp (rotF r md e) l) a r mid _ _ _ w (by omega) (by omega) (by omega) (Nat.le_refl _) (by omega) (by omega) (by omega) (by omega) hf.s1 hf.s2 (hI _ _ _ hIw (HpOK.mutOwn hw (.head _) rfl).1 (HpOK.mutOwn hw (.head _) rfl).2) (hw.ent _ (.head _))) rfl (fun c2 hc2 => ?_)
                refine Tr.nil ?_
                refine Tr.thenN ?_
                apply Tr.joined c2
                · exact rfl
                · exact Front.nil
                · exact SubX.dropN 11 (by kernel_rfl) rfl
                · exact (by repeat' (first | exact Pick.nil _ | exact Del.here _ | apply Pick.cons | apply Del.there))
                · exact hf.left hb (by omega) (by omega) hc2.1 hc2.2.1 hc2.2.2
              · try simp only [bs] at h19
                refine Tr.skip ?_
                refine Tr.thenN ?_
                apply Tr.joined _
                · exact rfl
                · exact Front.nil
                · exact SubX.dropN 5 (by kernel_rfl) rfl
                · exact (by repeat' (first | exact Pick.nil _ | exact Del.here _ | apply Pick.cons | apply Del.there))
                · exact hf.left0 (by omega) (by omega) (by omega)
            · skip
              replace hi : Half (ltCI cmp) l c2 a mid mid e b := hi
              change Tr _ _ [rowE V 35 encIns c2] ([] ++ _) _
              have hl2 := hi.fr.1
              refine Tr.seq ?_
              refine Tr.region ?_
              refine Tr.q (QS.move rfl) rfl ?_
              refine Tr.q (QS.move rfl) rfl ?_
              refine Tr.q (QS.lss rfl rfl) rfl ?_
              refine Tr.q (QS.move rfl) rfl ?_
              apply Tr.andP
              · exact (rfl : _ = (4, 209, 213))
              · exact rfl
              · intro hT20; have hT20' := hT20
                try simp only [bs] at hT20'
                refine Tr.gq rfl rfl hT20 (QS.move rfl) rfl ?_
                refine Tr.gq rfl rfl hT20 (QS.move rfl) rfl ?_
                refine Tr.gq rfl rfl hT20 (QS.lss rfl rfl) rfl ?_
                refine Tr.q (QS.pickT rfl hT20 rfl) rfl ?_
                refine Tr.nil (Tr.thenN ?_)
                exact Tr.endX (Sub.cons rfl (Sub.dropN 4 (by kernel_rfl) rfl))
              · intro hF20
                refine Tr.gskip rfl rfl hF20 rfl ?_
                refine Tr.gskip rfl rfl hF20 rfl ?_
                refine Tr.gskip rfl rfl hF20 rfl ?_
                refine Tr.q (QS.pickF rfl hF20 rfl) rfl ?_
                refine Tr.nil (Tr.thenN ?_)
                exact Tr.endX (Sub.cons rfl (Sub.dropN 4 (by kernel_rfl) rfl))
              refine Tr.nil ?_
              refine Tr.thenN ?_
              refine Tr.cond rfl (fun h21 => ?_) (fun h21 => ?_)
              · try simp only [bs] at h21
                refine Tr.region ?_
                refine Tr.q (QS.move rfl) rfl ?_
                refine Tr.q (QS.move rfl) rfl ?_
                refine Tr.q (QS.move rfl) rfl ?_
                refine Tr.q (QS.move rfl) rfl ?_
                refine Tr.q (QS.move rfl) rfl ?_
                refine Tr.callMutR (fun c => Stab (ltCI cmp) c2 c ∧ Fram mid b c2 c ∧ Srt (ltCI cmp) c mid b) rfl Tryz.call93 (fun w hw => ih (b - mid) (by omega) c2 mid e b _ _ _ w (by omega) (by omega) (by omega) (Nat.le_refl _) (by omega) (by omega) (by omega) (by omega) hi.s3 hi.s4 (hI _ _ _ hIw (HpOK.mutOwn hw (.head _) rfl).1 (HpOK.mutOwn hw (.head _) rfl).2) (hw.ent _ (.head _))) rfl (fun c3 hc3 => ?_)
                refine Tr.nil ?_
                refine Tr.ret0n Tryz.results93 (fun w' hw => ?_)
                exact ⟨rfl, c3, hi.right hb (by omega) (by omega) hc3.1 hc3.2.1 hc3.2.2, HpOK.mutOwn hw (.head _) rfl⟩
              · try simp only [bs] at h21
                refine Tr.skip ?_
                refine Tr.ret0n Tryz.results93 (fun w' hw => ?_)
                exact ⟨rfl, c2, hi.right0 (by omega) (by omega) (by omega), HpOK.mutOwn hw (.head _) rfl⟩
theorem symMerge_ins (V : Value) (g : FuncId) (cb : List Value) (cmp : Ins → Ins → Int) (I : World → Prop) (hI : ∀ w w' l', I w → Mut w w' V → (rowE V 35 encIns l').holds w' → I w') (eg : ∀ args w, (callFunc g args).run Tryz.prog w = .ok (.enter g args) w) (hc : ∀ x y w', I w' → Calls Tryz.prog g ([Value.agg (encIns.enc x).toArray, Value.agg (encIns.enc y).toArray] ++ cb).toArray w' fun e w'' => e = .returned (.int .i64 (cmp x y)) ∧ Ext w' w'') (hO : WO (ltCI cmp)) : ∀ n, SymForI g cb cmp I V n := by
  intro n
  induction n using Nat.strongRecOn with
  | ind n ih =>
    intro l a md b ai mdi bi w ea emd eb hn ham hmb hb hl h1s h2s hIw hr
    exact sym_stepI l V a md b ai mdi bi ea emd eb g cb cmp I hI eg hc hO w hIw hr hl (fun k hk => ih k (by omega)) ham hmb hb h1s h2s
theorem getD_geI {l : List Ins} {k : Nat} (h : l.length ≤ k) : l.getD k default = default := by simp [List.getD_eq_getElem?_getD, List.getElem?_eq_none h]
set_option maxRecDepth 100000 in
set_option maxHeartbeats 8000000 in
theorem stable_ins (l : List Ins) (V : Value) (n : Nat) (ni : Int) (en : ni = ((n : Nat) : Int)) (g : FuncId) (cb : List Value) (cmp : Ins → Ins → Int) (I : World → Prop) (hI : ∀ w w' l', I w → Mut w w' V → (rowE V 35 encIns l').holds w' → I w') (eg : ∀ args w, (callFunc g args).run Tryz.prog w = .ok (.enter g args) w) (hc : ∀ x y w', I w' → Calls Tryz.prog g ([Value.agg (encIns.enc x).toArray, Value.agg (encIns.enc y).toArray] ++ cb).toArray w' fun e w'' => e = .returned (.int .i64 (cmp x y)) ∧ Ext w' w'') (hO : WO (ltCI cmp)) (w : World) (hIw : I w) (hr : (rowE V 35 encIns l).holds w) (hl : l.length ≤ 1000000) (hn : n = l.length) :
    Calls Tryz.prog 72 #[V, .int .i64 ni, .func (.func g) #[] cb.toArray] w (srtPI cmp V l 0 n w) := by
  subst en
  refine enterOwn (l := l) (E := encIns) (T := 35) hr Tryz.func72 rfl Tryz.ntmps72 rfl ?_
  refine Tr.seq ?_
  refine Tr.region ?_
  refine Tr.q (QS.assign rfl) rfl ?_
  refine Tr.nil ?_
  refine Tr.thenN ?_
  refine Tr.seq ?_
  refine Tr.region ?_
  refine Tr.q (QS.move rfl) rfl ?_
  refine Tr.q (QS.assign rfl) rfl ?_
  refine Tr.q (QS.assign rfl) rfl ?_
  refine Tr.nil ?_
  refine Tr.thenN ?_
  refine Tr.seq ?_
  refine Tr.block ?_
  refine Tr.loop (ι := Nat × List Ins) (fun ⟨t, cur⟩ => t * 20 ≤ n ∧ Stab (ltCI cmp) l cur ∧ Blk (ltCI cmp) cur 20 (t * 20)) (fun _ => _) (fun ⟨t, cur⟩ => [rowE V 35 encIns cur]) (fun ⟨t, cur⟩ => [(7, .int .i64 ((t * 20 : Nat) : Int)), (8, .int .i64 ((t * 20 + 20 : Nat) : Int))]) (fun ⟨t, cur⟩ => n - t * 20) (0, l) ⟨by omega, .refl _ _, fun t p q a1 a2 a3 a4 => by omega⟩ (.cons (by first | rfl | exact lookI rfl (by omega) | exact lookI rfl (by simp) | exact lookB rfl (by simp)) (.cons (by first | rfl | exact lookI rfl (by omega) | exact lookI rfl (by simp) | exact lookB rfl (by simp)) Front.nil)) (by repeat' (first | exact Pick.nil _ | exact Del.here _ | apply Pick.cons | apply Del.there)) rfl (fun i hi m hm => ?_)
  obtain ⟨t, cur⟩ := i
  replace hi : t * 20 ≤ n ∧ Stab (ltCI cmp) l cur ∧ Blk (ltCI cmp) cur 20 (t * 20) := hi
  replace hm : m = n - t * 20 := hm
  change Tr _ _ [rowE V 35 encIns cur] ([(7, .int .i64 ((t * 20 : Nat) : Int)), (8, .int .i64 ((t * 20 + 20 : Nat) : Int))] ++ _) _
  obtain ⟨ht1, ht2, ht3⟩ := hi
  have hcl := ht2.len
  refine Tr.seq ?_
  refine Tr.seq ?_
  refine Tr.region ?_
  refine Tr.q (QS.move rfl) rfl ?_
  refine Tr.q (QS.move rfl) rfl ?_
  refine Tr.q (QS.leq rfl rfl) rfl ?_
  refine Tr.nil ?_
  refine Tr.thenN ?_
  refine Tr.cond rfl (fun h1 => ?_) (fun h1 => ?_)
  · try simp only [bs] at h1
    refine Tr.skip ?_
    refine Tr.thenN ?_
    refine Tr.block ?_
    refine Tr.seq ?_
    refine Tr.region ?_
    refine Tr.q (QS.move rfl) rfl ?_
    refine Tr.q (QS.move rfl) rfl ?_
    refine Tr.q (QS.move rfl) rfl ?_
    refine Tr.q (QS.move rfl) rfl ?_
    refine Tr.callMutR (fun c => Stab (ltCI cmp) cur c ∧ Fram (t * 20) (t * 20 + 20) cur c ∧ Srt (ltCI cmp) c (t * 20) (t * 20 + 20)) rfl Tryz.call92 (fun w hw => insertion_ins cur V (t * 20) (t * 20 + 20) _ _ (by omega) (by omega) g cb cmp I hI eg hc hO w (hI _ _ _ hIw (HpOK.mutOwn hw (.head _) rfl).1 (HpOK.mutOwn hw (.head _) rfl).2) (hw.ent _ (.head _)) (by omega) (by omega) (by omega)) rfl (fun c2 hc2 => ?_)
    refine Tr.nil ?_
    refine Tr.thenN ?_
    refine Tr.seq ?_
    refine Tr.region ?_
    refine Tr.q (QS.move rfl) rfl ?_
    refine Tr.q (QS.assign rfl) rfl ?_
    refine Tr.nil ?_
    refine Tr.thenN ?_
    refine Tr.region ?_
    refine Tr.q (QS.move rfl) rfl ?_
    refine Tr.q (QS.move rfl) rfl ?_
    refine Tr.q (QS.addI rfl rfl (by omega)) rfl ?_
    refine Tr.q (QS.assign rfl) rfl ?_
    refine Tr.nil ?_
    refine Tr.inN ?_
    refine Tr.thenN ?_
    have hcl2 := hc2.1.len
    have hb2 : Blk (ltCI cmp) c2 20 ((t + 1) * 20) := by rw [show (t + 1) * 20 = t * 20 + 20 by omega]; exact blk_ins ht3 hc2.2.1 hc2.2.2 (by omega)
    apply Tr.again (t + 1, c2)
    · exact rfl
    · exact (.cons (by first | rfl | exact lookI rfl (by omega) | exact lookI rfl (by simp) | exact lookB rfl (by simp)) (.cons (by first | rfl | exact lookI rfl (by omega) | exact lookI rfl (by simp) | exact lookB rfl (by simp)) Front.nil))
    · exact SubX.dropN 16 (by kernel_rfl) rfl
    · exact (by repeat' (first | exact Pick.nil _ | exact Del.here _ | apply Pick.cons | apply Del.there))
    · exact ⟨by omega, ht2.trans hc2.1, hb2⟩
    · exact (by (try dsimp only); omega)
  · try simp only [bs] at h1
    refine Tr.exit ?_
    refine Tr.thenE ?_
    refine Tr.thenE ?_
    refine Tr.inHit ?_
    refine Tr.thenN ?_
    refine Tr.seq ?_
    refine Tr.region ?_
    refine Tr.q (QS.move rfl) rfl ?_
    refine Tr.q (QS.move rfl) rfl ?_
    refine Tr.q (QS.move rfl) rfl ?_
    refine Tr.q (QS.move rfl) rfl ?_
    refine Tr.callMutR (fun c => Stab (ltCI cmp) cur c ∧ Fram (t * 20) n cur c ∧ Srt (ltCI cmp) c (t * 20) n) rfl Tryz.call92 (fun w hw => insertion_ins cur V (t * 20) n _ _ (by omega) (by omega) g cb cmp I hI eg hc hO w (hI _ _ _ hIw (HpOK.mutOwn hw (.head _) rfl).1 (HpOK.mutOwn hw (.head _) rfl).2) (hw.ent _ (.head _)) (by omega) (by omega) (by omega)) rfl (fun c3 hc3 => ?_)
    refine Tr.nil ?_
    refine Tr.thenN ?_
    refine Tr.block ?_
    have hcl3 := hc3.1.len
    have hb3 : Blk (ltCI cmp) c3 20 n := blk_ins ht3 hc3.2.1 hc3.2.2 (by omega)
    have hst3 := ht2.trans hc3.1
    clear hc3 ht3 ht2
    refine Tr.loop (ι := Nat × Int × Int × List Ins) (fun ⟨bz, xa, xb, cur⟩ => 1 ≤ bz ∧ bz ≤ 2 * n + 20 ∧ Stab (ltCI cmp) l cur ∧ Blk (ltCI cmp) cur bz n) (fun _ => _) (fun ⟨bz, xa, xb, cur⟩ => [rowE V 35 encIns cur]) (fun ⟨bz, xa, xb, cur⟩ => [(6, .int .i64 (bz : Nat)), (7, .int .i64 xa), (8, .int .i64 xb)]) (fun ⟨bz, xa, xb, cur⟩ => n - bz) (20, _, _, c3) ⟨by omega, by omega, hst3, hb3⟩ (.cons (by first | rfl | exact lookI rfl (by omega) | exact lookI rfl (by simp) | exact lookB rfl (by simp)) (.cons (by first | rfl | exact lookI rfl (by omega) | exact lookI rfl (by simp) | exact lookB rfl (by simp)) (.cons (by first | rfl | exact lookI rfl (by omega) | exact lookI rfl (by simp) | exact lookB rfl (by simp)) Front.nil))) (by repeat' (first | exact Pick.nil _ | exact Del.here _ | apply Pick.cons | apply Del.there)) rfl (fun i hi m hm => ?_)
    obtain ⟨bz, xa, xb, cur⟩ := i
    replace hi : 1 ≤ bz ∧ bz ≤ 2 * n + 20 ∧ Stab (ltCI cmp) l cur ∧ Blk (ltCI cmp) cur bz n := hi
    replace hm : m = n - bz := hm
    change Tr _ _ [rowE V 35 encIns cur] ([(6, .int .i64 (bz : Nat)), (7, .int .i64 xa), (8, .int .i64 xb)] ++ _) _
    obtain ⟨hb1, hb2, hb4, hb5⟩ := hi
    have hcl4 := hb4.len
    refine Tr.seq ?_
    refine Tr.seq ?_
    refine Tr.region ?_
    refine Tr.q (QS.move rfl) rfl ?_
    refine Tr.q (QS.move rfl) rfl ?_
    refine Tr.q (QS.lss rfl rfl) rfl ?_
    refine Tr.nil ?_
    refine Tr.thenN ?_
    refine Tr.cond rfl (fun h2 => ?_) (fun h2 => ?_)
    · try simp only [bs] at h2
      refine Tr.skip ?_
      refine Tr.thenN ?_
      refine Tr.block ?_
      refine Tr.seq ?_
      refine Tr.region ?_
      refine Tr.q (QS.move rfl) rfl ?_
      refine Tr.q (QS.mulI rfl rfl (by omega)) rfl ?_
      refine Tr.q (QS.assign rfl) rfl ?_
      refine Tr.q (QS.assign rfl) rfl ?_
      refine Tr.nil ?_
      refine Tr.thenN ?_
      refine Tr.seq ?_
      refine Tr.block ?_
      refine Tr.loop (ι := Nat × Nat × List Ins) (fun ⟨t, x, c4⟩ => x = t * (2 * bz) ∧ x ≤ n ∧ Stab (ltCI cmp) l c4 ∧ Mix (ltCI cmp) c4 bz x n) (fun _ => _) (fun ⟨t, x, c4⟩ => [rowE V 35 encIns c4]) (fun ⟨t, x, c4⟩ => [(7, .int .i64 (x : Nat)), (8, .int .i64 ((x + 2 * bz : Nat) : Int))]) (fun ⟨t, x, c4⟩ => n - x) (0, 0, cur) ⟨by omega, by omega, hb4, mix_0 hb5⟩ (.cons (by first | rfl | exact lookI rfl (by omega) | exact lookI rfl (by simp) | exact lookB rfl (by simp)) (.cons (by first | rfl | exact lookI rfl (by omega) | exact lookI rfl (by simp) | exact lookB rfl (by simp)) Front.nil)) (by repeat' (first | exact Pick.nil _ | exact Del.here _ | apply Pick.cons | apply Del.there)) rfl (fun i hi m hm => ?_)
      obtain ⟨t, x, c4⟩ := i
      replace hi : x = t * (2 * bz) ∧ x ≤ n ∧ Stab (ltCI cmp) l c4 ∧ Mix (ltCI cmp) c4 bz x n := hi
      replace hm : m = n - x := hm
      change Tr _ _ [rowE V 35 encIns c4] ([(7, .int .i64 (x : Nat)), (8, .int .i64 ((x + 2 * bz : Nat) : Int))] ++ _) _
      obtain ⟨ht1, ht2, ht3, ht4⟩ := hi
      have hcl5 := ht3.len
      refine Tr.seq ?_
      refine Tr.seq ?_
      refine Tr.region ?_
      refine Tr.q (QS.move rfl) rfl ?_
      refine Tr.q (QS.move rfl) rfl ?_
      refine Tr.q (QS.leq rfl rfl) rfl ?_
      refine Tr.nil ?_
      refine Tr.thenN ?_
      refine Tr.cond rfl (fun h3 => ?_) (fun h3 => ?_)
      · try simp only [bs] at h3
        refine Tr.skip ?_
        refine Tr.thenN ?_
        refine Tr.block ?_
        refine Tr.seq ?_
        have hs1 : Srt (ltCI cmp) c4 x (x + bz) := by subst ht1; exact mix_left ht4 (Nat.le_refl _) (by omega)
        have hs2 : Srt (ltCI cmp) c4 (x + bz) (x + 2 * bz) := by subst ht1; exact mix_right ht4 (Nat.le_refl _) (by omega)
        refine Tr.region ?_
        refine Tr.q (QS.move rfl) rfl ?_
        refine Tr.q (QS.move rfl) rfl ?_
        refine Tr.q (QS.move rfl) rfl ?_
        refine Tr.q (QS.move rfl) rfl ?_
        refine Tr.q (QS.addI rfl rfl (by omega)) rfl ?_
        refine Tr.q (QS.move rfl) rfl ?_
        refine Tr.q (QS.move rfl) rfl ?_
        refine Tr.callMutR (fun c => Stab (ltCI cmp) c4 c ∧ Fram x (x + 2 * bz) c4 c ∧ Srt (ltCI cmp) c x (x + 2 * bz)) rfl Tryz.call93 (fun w hw => symMerge_ins V g cb cmp I hI eg hc hO _ c4 x (x + bz) (x + 2 * bz) _ _ _ w (by omega) (by omega) (by omega) (Nat.le_refl _) (by omega) (by omega) (by omega) (by omega) hs1 hs2 (hI _ _ _ hIw (HpOK.mutOwn hw (.head _) rfl).1 (HpOK.mutOwn hw (.head _) rfl).2) (hw.ent _ (.head _))) rfl (fun c5 hc5 => ?_)
        refine Tr.nil ?_
        refine Tr.thenN ?_
        refine Tr.seq ?_
        refine Tr.region ?_
        refine Tr.q (QS.move rfl) rfl ?_
        refine Tr.q (QS.assign rfl) rfl ?_
        refine Tr.nil ?_
        refine Tr.thenN ?_
        refine Tr.region ?_
        refine Tr.q (QS.move rfl) rfl ?_
        refine Tr.q (QS.move rfl) rfl ?_
        refine Tr.q (QS.mulI rfl rfl (by omega)) rfl ?_
        refine Tr.q (QS.addI rfl rfl (by omega)) rfl ?_
        refine Tr.q (QS.assign rfl) rfl ?_
        refine Tr.nil ?_
        refine Tr.inN ?_
        refine Tr.thenN ?_
        have hm2 : Mix (ltCI cmp) c5 bz (x + 2 * bz) n := by
          have f := hc5.2.1
          have so := hc5.2.2
          subst ht1
          exact mix_step ht4 f so (Nat.le_refl _) (by omega)
        apply Tr.again (t + 1, x + 2 * bz, c5)
        · exact rfl
        · exact (.cons (by first | rfl | exact lookI rfl (by omega) | exact lookI rfl (by simp) | exact lookB rfl (by simp)) (.cons (by first | rfl | exact lookI rfl (by omega) | exact lookI rfl (by simp) | exact lookB rfl (by simp)) Front.nil))
        · exact SubX.dropN 20 (by kernel_rfl) rfl
        · exact (by repeat' (first | exact Pick.nil _ | exact Del.here _ | apply Pick.cons | apply Del.there))
        · exact ⟨by rw [Nat.add_mul, ht1]; omega, by omega, ht3.trans hc5.1, hm2⟩
        · exact (by (try dsimp only); omega)
      · try simp only [bs] at h3
        refine Tr.exit ?_
        refine Tr.thenE ?_
        refine Tr.thenE ?_
        refine Tr.inHit ?_
        refine Tr.thenN ?_
        refine Tr.seqJ (ι := List Ins) (fun c6 => Stab (ltCI cmp) l c6 ∧ Blk (ltCI cmp) c6 (2 * bz) n) (fun _ => Bg.less w V) (fun c6 => [rowE V 35 encIns c6]) (fun c6 => []) ?_ (fun c6 hi => ?_)
        · skip
          refine Tr.seq ?_
          refine Tr.region ?_
          refine Tr.q (QS.move rfl) rfl ?_
          refine Tr.q (QS.move rfl) rfl ?_
          refine Tr.q (QS.addI rfl rfl (by omega)) rfl ?_
          refine Tr.q (QS.assign rfl) rfl ?_
          refine Tr.nil ?_
          refine Tr.thenN ?_
          refine Tr.seq ?_
          refine Tr.region ?_
          refine Tr.q (QS.move rfl) rfl ?_
          refine Tr.q (QS.move rfl) rfl ?_
          refine Tr.q (QS.lss rfl rfl) rfl ?_
          refine Tr.nil ?_
          refine Tr.thenN ?_
          refine Tr.cond rfl (fun h4 => ?_) (fun h4 => ?_)
          · try simp only [bs] at h4
            have hs1 : Srt (ltCI cmp) c4 x (x + bz) := by subst ht1; exact mix_left ht4 (Nat.le_refl _) (by omega)
            have hs2 : Srt (ltCI cmp) c4 (x + bz) n := by subst ht1; exact mix_right ht4 (by omega) (Nat.le_refl _)
            refine Tr.region ?_
            refine Tr.q (QS.move rfl) rfl ?_
            refine Tr.q (QS.move rfl) rfl ?_
            refine Tr.q (QS.move rfl) rfl ?_
            refine Tr.q (QS.move rfl) rfl ?_
            refine Tr.q (QS.move rfl) rfl ?_
            refine Tr.callMutR (fun c => Stab (ltCI cmp) c4 c ∧ Fram x n c4 c ∧ Srt (ltCI cmp) c x n) rfl Tryz.call93 (fun w hw => symMerge_ins V g cb cmp I hI eg hc hO _ c4 x (x + bz) n _ _ _ w (by omega) (by omega) (by omega) (Nat.le_refl _) (by omega) (by omega) (by omega) (by omega) hs1 hs2 (hI _ _ _ hIw (HpOK.mutOwn hw (.head _) rfl).1 (HpOK.mutOwn hw (.head _) rfl).2) (hw.ent _ (.head _))) rfl (fun c5 hc5 => ?_)
            refine Tr.nil ?_
            refine Tr.thenN ?_
            have hm2 : Blk (ltCI cmp) c5 (2 * bz) n := by
              have f := hc5.2.1
              have so := hc5.2.2
              subst ht1
              exact blk_ins ht4.1 f so (by rw [Nat.add_mul]; omega)
            apply Tr.joined c5
            · exact rfl
            · exact Front.nil
            · exact SubX.dropN 13 (by kernel_rfl) rfl
            · exact (by repeat' (first | exact Pick.nil _ | exact Del.here _ | apply Pick.cons | apply Del.there))
            · exact ⟨ht3.trans hc5.1, hm2⟩
          · try simp only [bs] at h4
            refine Tr.skip ?_
            refine Tr.thenN ?_
            have hm2 : Blk (ltCI cmp) c4 (2 * bz) n := by
              subst ht1
              exact mix_end ht4 (by omega)
            apply Tr.joined c4
            · exact rfl
            · exact Front.nil
            · exact SubX.dropN 7 (by kernel_rfl) rfl
            · exact (by repeat' (first | exact Pick.nil _ | exact Del.here _ | apply Pick.cons | apply Del.there))
            · exact ⟨ht3, hm2⟩
        · skip
          replace hi : Stab (ltCI cmp) l c6 ∧ Blk (ltCI cmp) c6 (2 * bz) n := hi
          change Tr _ _ [rowE V 35 encIns c6] ([] ++ _) _
          refine Tr.region ?_
          refine Tr.q (QS.move rfl) rfl ?_
          refine Tr.q (QS.mulI rfl rfl (by omega)) rfl ?_
          refine Tr.q (QS.assign rfl) rfl ?_
          refine Tr.nil ?_
          refine Tr.inN ?_
          refine Tr.thenN ?_
          apply Tr.again (2 * bz, _, _, c6)
          · exact rfl
          · exact (.cons (by first | rfl | exact lookI rfl (by omega) | exact lookI rfl (by simp) | exact lookB rfl (by simp)) (.cons (by first | rfl | exact lookI rfl (by omega) | exact lookI rfl (by simp) | exact lookB rfl (by simp)) (.cons (by first | rfl | exact lookI rfl (by omega) | exact lookI rfl (by simp) | exact lookB rfl (by simp)) Front.nil)))
          · exact SubX.dropN 18 (by kernel_rfl) rfl
          · exact (by repeat' (first | exact Pick.nil _ | exact Del.here _ | apply Pick.cons | apply Del.there))
          · exact ⟨by omega, by omega, hi.1, hi.2⟩
          · exact (by (try dsimp only); omega)
    · try simp only [bs] at h2
      refine Tr.exit ?_
      refine Tr.thenE ?_
      refine Tr.thenE ?_
      refine Tr.inHit ?_
      refine Tr.ret0n Tryz.results72 (fun w' hw => ?_)
      exact ⟨rfl, cur, ⟨hb4, ⟨hb4.len, fun k hk => by rw [getD_geI (by omega), getD_geI (by omega)]⟩, hb5.all (by omega)⟩, HpOK.mutOwn hw (.head _) rfl⟩
set_option maxRecDepth 100000 in
set_option maxHeartbeats 2000000 in
theorem sortStable_ins (l : List Ins) (V : Value) (g : FuncId) (cb : List Value) (cmp : Ins → Ins → Int) (I : World → Prop) (hI : ∀ w w' l', I w → Mut w w' V → (rowE V 35 encIns l').holds w' → I w') (eg : ∀ args w, (callFunc g args).run Tryz.prog w = .ok (.enter g args) w) (hc : ∀ x y w', I w' → Calls Tryz.prog g ([Value.agg (encIns.enc x).toArray, Value.agg (encIns.enc y).toArray] ++ cb).toArray w' fun e w'' => e = .returned (.int .i64 (cmp x y)) ∧ Ext w' w'') (hO : WO (ltCI cmp)) (w : World) (hIw : I w) (hr : (rowE V 35 encIns l).holds w) (hl : l.length ≤ 1000000) :
    Calls Tryz.prog 39 #[V, .func (.func g) #[] cb.toArray] w (srtPI cmp V l 0 l.length w) := by
  refine enterOwn (l := l) (E := encIns) (T := 35) hr Tryz.func39 rfl Tryz.ntmps39 rfl ?_
  refine Tr.region ?_
  refine Tr.q (QS.move rfl) rfl ?_
  refine Tr.q (QS.move rfl) rfl ?_
  refine Tr.q (QS.lenRow rfl (by repeat (first | exact List.Mem.head _ | apply List.Mem.tail)) Tryz.underlying22) rfl ?_
  refine Tr.q (QS.move rfl) rfl ?_
  refine Tr.callMutR (fun c => Stab (ltCI cmp) l c ∧ Fram 0 l.length l c ∧ Srt (ltCI cmp) c 0 l.length) rfl Tryz.call72 (fun w hw => stable_ins l V l.length _ rfl g cb cmp I hI eg hc hO w (hI _ _ _ hIw (HpOK.mutOwn hw (.head _) rfl).1 (HpOK.mutOwn hw (.head _) rfl).2) (hw.ent _ (.head _)) hl rfl) rfl (fun c2 hc2 => ?_)
  refine Tr.nil ?_
  refine Tr.ret0n Tryz.results39 (fun w' hw => ?_)
  exact ⟨rfl, c2, hc2, HpOK.mutOwn hw (.head _) rfl⟩
end Go.Proofs.YtmhbfelnjkhepaaGreat
namespace Go.HL
open Go
/-- A section, and where its bytes lie. -/
structure SecV where
  name : ByteArray
  addr : UInt32
  data : List UInt8
  dp : Option Addr
  dc : Nat
  wr : Bool
  ex : Bool
  deriving Inhabited
def encSec : Enc SecV := ⟨5, fun s => [.string s.name, .int .u32 s.addr.toNat, .slice s.dp s.data.length s.dc, .bool s.wr, .bool s.ex], fun _ => rfl,
  fun x v h => by simp at h; rcases h with h | h | h | h | h <;> subst h <;> rfl⟩
structure Sec where
  name : ByteArray
  addr : UInt32
  data : List UInt8
  wr : Bool
  ex : Bool
  deriving DecidableEq, Inhabited
def SecV.pl (s : SecV) : Sec := ⟨s.name, s.addr, s.data, s.wr, s.ex⟩
/-- The sections' bytes read. -/
def DataIn (h : Hp) (l : List SecV) : Prop := ∀ s ∈ l, Sl h encU8 s.data (.slice s.dp s.data.length s.dc)
theorem DataIn.mono {h h' : Hp} {l : List SecV} (d : DataIn h l) (hh : Hp.le h h') : DataIn h' l := fun s hs => (d s hs).mono hh
/-- Not too much. -/
def SecB (l : List SecV) : Prop := l.length ≤ 1000 ∧ ∀ s ∈ l, s.data.length ≤ 200000
theorem SecB.at {l : List SecV} (h : SecB l) {k : Nat} (hk : k < l.length) : (l.getD k default).data.length ≤ 200000 := h.2 _ (mem_getD hk)
def endP (s : SecV) : Int := min ((s.addr.toNat : Int) + s.data.length) 4294967295
/-- A list of sections made anew. -/
def SecsAt (h : Hp) (ls : List Sec) (V : Value) : Prop := ∃ l, Sl h encSec l V ∧ DataIn h l ∧ l.map SecV.pl = ls
theorem SecsAt.mono {h h' : Hp} {ls : List Sec} {V : Value} (s : SecsAt h ls V) (hh : Hp.le h h') : SecsAt h' ls V := let ⟨l, a, b, c⟩ := s; ⟨l, a.mono hh, b.mono hh, c⟩
theorem any_take_succ {α : Type} [Inhabited α] {p : α → Bool} {l : List α} {k : Nat} (h : k < l.length) : (l.take (k + 1)).any p = ((l.take k).any p || p (l.getD k default)) := by
  rw [take_succ h, List.any_append]; simp
theorem SecsAt.nil {h : Hp} : SecsAt h [] (.slice none 0 0) := ⟨[], Sl.nil _ _, fun s hs => (by simp at hs), rfl⟩
end Go.HL
namespace Go.HL
open Go
def bl (a b : ByteArray) : Bool := Op.bytesLess a.toList b.toList
def ltS (x y : Sec) : Bool := decide (x.addr < y.addr) || (decide (x.addr = y.addr) && bl x.name y.name)
def ltP (x y : SecV) : Bool := ltS x.pl y.pl
def cmpU (a b : UInt32) : Int := if a < b then -1 else if b < a then 1 else 0
theorem Stab.pl {xs ys : List SecV} (h : Stab ltP xs ys) : Stab ltS (xs.map SecV.pl) (ys.map SecV.pl) :=
  ⟨h.1.map _, fun z => by
    rw [List.filter_map, List.filter_map]
    have := h.2 ⟨z.name, z.addr, z.data, none, 0, z.wr, z.ex⟩
    exact congrArg (List.map SecV.pl) this⟩
theorem Stab.append {α : Type} {lt : α → α → Bool} {a b : List α} (h : Stab lt a b) (c : List α) : Stab lt (a ++ c) (b ++ c) :=
  ⟨h.1.append_right c, fun z => by rw [List.filter_append, List.filter_append, h.2 z]⟩
/-- ys is ls sorted. -/
def SortedOf (ls ys : List Sec) : Prop := Stab ltS ls ys ∧ ys.Pairwise fun x y => ltS y x = false
def SrtAt (ls : List Sec) (h : Hp) (i : Value × List Sec) : Prop := SecsAt h i.2 i.1 ∧ SortedOf ls i.2
theorem SrtAt.mono {ls : List Sec} {h h' : Hp} {i : Value × List Sec} (s : SrtAt ls h i) (hh : Hp.le h h') : SrtAt ls h' i := ⟨s.1.mono hh, s.2⟩
end Go.HL
namespace Go.HL
open Go
theorem kept_iff (i : Ins) (s : Int) : keptP i s = i ↔ ((s = 4 ∨ s = 5 ∨ s = 6 ∨ s = 7 ∨ s = 8) ∨ i.imm = 0) ∧ ((5 ≤ i.op ∧ i.op ≤ 15 ∨ i.op = 20) ∨ i.form = 0) ∧ ((i.op = 16 ∨ i.op = 17 ∨ i.op = 18) ∨ i.width = 0) ∧
    ((i.op = 20 ∨ i.op = 25) ∨ i.cc = 0) ∧ ((s = 1 ∨ s = 2 ∨ s = 3 ∨ s = 4 ∨ s = 5 ∨ s = 6) ∨ i.a = 0) ∧ ((s = 3 ∨ s = 5) ∨ i.b = 0) := by
  obtain ⟨addr, imm, op, form, width, cc, a, b, size⟩ := i
  have key : ∀ (p : Prop) [Decidable p] (x : Int), ((if p then x else 0) = x) ↔ (p ∨ x = 0) := fun p _ x => by
    by_cases h : p
    · simp [h]
    · simp [h]; exact eq_comm
  have key2 : ∀ (p : Prop) [Decidable p] (x : UInt32), ((if p then x else 0) = x) ↔ (p ∨ x = 0) := fun p _ x => by
    by_cases h : p
    · simp [h]
    · simp [h]; exact eq_comm
  simp only [keptP, Ins.mk.injEq, key, key2, true_and, and_true]
theorem err_of {i : Ins} {c : UInt8} {s : Int} (h : opcodeP i = (c, s, true)) : errP i = if ¬ (regP i.a = true ∧ regP i.b = true ∧ keptP i s = i) then 2 else if (s = 4 ∨ s = 5) ∧ narrowP i.imm = false ∨ s = 7 ∧ narrowP (i.imm - i.addr - 2) = false then 7 else 0 := by
  unfold errP
  simp only [h]
  by_cases h1 : regP i.a = true <;> by_cases h2 : regP i.b = true <;> by_cases h3 : keptP i s = i <;> simp [h1, h2, h3]
theorem err_bad {i : Ins} {c : UInt8} {s : Int} (h : opcodeP i = (c, s, false)) : errP i = 2 := by
  unfold errP
  simp only [h]
  rw [if_pos (.inl trivial)]
/-- The shape of what has an opcode. -/
inductive okOp (i : Ins) : Int → Prop
  | c0 (h : i.op = 0 ∨ i.op = 1 ∨ i.op = 2) : okOp i 0
  | c1 (h : i.op = 3 ∨ i.op = 4) : okOp i 1
  | c2 (h : (5 ≤ i.op ∧ i.op ≤ 15) ∧ i.form = 0) : okOp i 3
  | c3 (h : (5 ≤ i.op ∧ i.op ≤ 15) ∧ i.form = 1) : okOp i 4
  | c4 (h : (5 ≤ i.op ∧ i.op ≤ 15) ∧ i.form = 2) : okOp i 6
  | c5 (h : (i.op = 16 ∨ i.op = 18) ∧ (i.width = 1 ∨ i.width = 2 ∨ i.width = 4)) : okOp i 5
  | c6 (h : i.op = 17 ∧ (i.width = 1 ∨ i.width = 2)) : okOp i 5
  | c7 (h : i.op = 19) : okOp i 5
  | c8 (h : i.op = 25 ∧ (0 ≤ i.cc ∧ i.cc ≤ 14)) : okOp i 2
  | c9 (h : i.op = 20 ∧ (0 ≤ i.cc ∧ i.cc ≤ 14) ∧ i.form = 1) : okOp i 7
  | c10 (h : i.op = 20 ∧ (0 ≤ i.cc ∧ i.cc ≤ 14) ∧ i.form = 2) : okOp i 8
  | c11 (h : i.op = 23) : okOp i 8
  | c12 (h : i.op = 24) : okOp i 2
  | c13 (h : i.op = 21) : okOp i 2
  | c14 (h : i.op = 22) : okOp i 6
  | c15 (h : i.op = 26) : okOp i 2
  | c16 (h : i.op = 27) : okOp i 2
def Good (i : Ins) (x : UInt8 × Int × Bool) : Prop := (x.2.2 = true ∧ okOp i x.2.1) ∨ (x.2.2 = false ∧ ∀ s, ¬ okOp i s)
theorem good_ite {i : Ins} {p : Prop} [Decidable p] {x y : UInt8 × Int × Bool} (hx : p → Good i x) (hy : ¬ p → Good i y) : Good i (if p then x else y) := by
  by_cases h : p
  · rw [if_pos h]; exact hx h
  · rw [if_neg h]; exact hy h
def Good5 (i : Ins) (c : UInt8) : Prop := Good i (c, 5, decide (c ≠ 0))
theorem good5_ite {i : Ins} {p : Prop} [Decidable p] {x y : UInt8} (hx : p → Good5 i x) (hy : ¬ p → Good5 i y) : Good5 i (if p then x else y) := by
  by_cases h : p
  · rw [if_pos h]; exact hx h
  · rw [if_neg h]; exact hy h
theorem access_good (i : Ins) (h : i.op = 16 ∨ i.op = 17 ∨ i.op = 18) : Good5 i (accessP i) := by
  unfold accessP
  refine good5_ite (fun p => .inl ⟨rfl, .c5 ⟨.inl p.1, .inr (.inr p.2)⟩⟩) fun n1 => ?_
  refine good5_ite (fun p => .inl ⟨rfl, .c5 ⟨.inl p.1, .inl p.2⟩⟩) fun n2 => ?_
  refine good5_ite (fun p => .inl ⟨rfl, .c6 ⟨p.1, .inl p.2⟩⟩) fun n3 => ?_
  refine good5_ite (fun p => .inl ⟨rfl, .c5 ⟨.inl p.1, .inr (.inl p.2)⟩⟩) fun n4 => ?_
  refine good5_ite (fun p => .inl ⟨rfl, .c6 ⟨p.1, .inr p.2⟩⟩) fun n5 => ?_
  refine good5_ite (fun p => .inl ⟨rfl, .c5 ⟨.inr p.1, .inr (.inr p.2)⟩⟩) fun n6 => ?_
  refine good5_ite (fun p => .inl ⟨rfl, .c5 ⟨.inr p.1, .inl p.2⟩⟩) fun n7 => ?_
  refine good5_ite (fun p => .inl ⟨rfl, .c5 ⟨.inr p.1, .inr (.inl p.2)⟩⟩) fun n8 => ?_
  refine .inr ⟨rfl, fun s hs => ?_⟩
  cases hs
  case c5 k =>
    obtain ⟨k1 | k1, k2 | k2 | k2⟩ := k
    · exact n2 ⟨k1, k2⟩
    · exact n4 ⟨k1, k2⟩
    · exact n1 ⟨k1, k2⟩
    · exact n7 ⟨k1, k2⟩
    · exact n8 ⟨k1, k2⟩
    · exact n6 ⟨k1, k2⟩
  case c6 k =>
    obtain ⟨k1, k2 | k2⟩ := k
    · exact n3 ⟨k1, k2⟩
    · exact n5 ⟨k1, k2⟩
  all_goals (clear n1 n2 n3 n4 n5 n6 n7 n8; omega)
theorem cond_good (i : Ins) (h : i.op = 20 ∨ i.op = 25) : Good i (condP i) := by
  unfold condP
  refine good_ite (fun _ => .inr ⟨rfl, fun s h => by cases h <;> omega⟩) fun _ => ?_
  refine good_ite (fun _ => .inl ⟨rfl, .c8 (by omega)⟩) fun _ => ?_
  refine good_ite (fun _ => .inl ⟨rfl, .c9 (by omega)⟩) fun _ => ?_
  refine good_ite (fun _ => .inl ⟨rfl, .c10 (by omega)⟩) fun _ => ?_
  exact .inr ⟨rfl, fun s h => by cases h <;> omega⟩
theorem opcode_good (i : Ins) : Good i (opcodeP i) := by
  unfold opcodeP
  refine good_ite (fun _ => .inl ⟨rfl, .c0 (by omega)⟩) fun _ => ?_
  refine good_ite (fun _ => .inl ⟨rfl, .c1 (by omega)⟩) fun _ => ?_
  refine good_ite (fun _ => .inl ⟨rfl, .c1 (by omega)⟩) fun _ => ?_
  refine good_ite (fun _ => ?_) fun _ => ?_
  · refine good_ite (fun _ => .inl ⟨rfl, .c2 (by omega)⟩) fun _ => ?_
    refine good_ite (fun _ => .inl ⟨rfl, .c3 (by omega)⟩) fun _ => ?_
    refine good_ite (fun _ => .inl ⟨rfl, .c4 (by omega)⟩) fun _ => ?_
    exact .inr ⟨rfl, fun s h => by cases h <;> omega⟩
  refine good_ite (fun h => access_good i h) fun _ => ?_
  refine good_ite (fun _ => .inl ⟨rfl, .c7 (by omega)⟩) fun _ => ?_
  refine good_ite (fun h => cond_good i h) fun _ => ?_
  refine good_ite (fun _ => .inl ⟨rfl, .c11 (by omega)⟩) fun _ => ?_
  refine good_ite (fun _ => .inl ⟨rfl, .c12 (by omega)⟩) fun _ => ?_
  refine good_ite (fun _ => .inl ⟨rfl, .c13 (by omega)⟩) fun _ => ?_
  refine good_ite (fun _ => .inl ⟨rfl, .c14 (by omega)⟩) fun _ => ?_
  refine good_ite (fun _ => .inl ⟨rfl, .c15 (by omega)⟩) fun _ => ?_
  refine good_ite (fun _ => .inl ⟨rfl, .c16 (by omega)⟩) fun _ => ?_
  exact .inr ⟨rfl, fun s h => by cases h <;> omega⟩
theorem opcode_ok (i : Ins) : (∃ c s, opcodeP i = (c, s, true) ∧ okOp i s) ∨ ((∃ c s, opcodeP i = (c, s, false)) ∧ ∀ s, ¬ okOp i s) := by
  have h := opcode_good i
  generalize opcodeP i = x at *
  obtain ⟨c, s, ok⟩ := x
  rcases h with ⟨rfl, h⟩ | ⟨rfl, h⟩
  · exact .inl ⟨c, s, rfl, h⟩
  · exact .inr ⟨⟨c, s, rfl⟩, h⟩
theorem isTwoP_iff {op : Int} : isTwoP op = true ↔ 5 ≤ op ∧ op ≤ 15 := by simp [isTwoP]
theorem isAccP_iff {op : Int} : isAccP op = true ↔ op = 16 ∨ op = 17 ∨ op = 18 := by simp [isAccP, or_assoc]
theorem hasAP_iff {op : Int} : hasAP op = true ↔ 3 ≤ op ∧ op ≤ 27 ∧ op ≠ 20 ∧ op ≠ 23 := by simp [hasAP, and_assoc]
theorem hasBP_iff {i : Ins} : hasBP i = true ↔ (5 ≤ i.op ∧ i.op ≤ 15) ∧ i.form = 0 ∨ (i.op = 16 ∨ i.op = 17 ∨ i.op = 18) ∨ i.op = 19 := by simp [hasBP, isTwoP, isAccP, or_assoc, and_assoc]
theorem hasImmP_iff {i : Ins} : hasImmP i = true ↔ (5 ≤ i.op ∧ i.op ≤ 15) ∧ i.form ≠ 0 ∨ (i.op = 16 ∨ i.op = 17 ∨ i.op = 18) ∨ i.op = 19 ∨ i.op = 20 ∨ i.op = 22 ∨ i.op = 23 := by simp [hasImmP, isTwoP, isAccP, or_assoc, and_assoc]
theorem hasCcP_iff {op : Int} : hasCcP op = true ↔ op = 20 ∨ op = 25 := by simp [hasCcP]
theorem isCcP_iff {n : Int} : isCcP n = true ↔ 0 ≤ n ∧ n ≤ 14 := by simp [isCcP]
theorem formValidP_iff {i : Ins} : formValidP i = true ↔ (5 ≤ i.op ∧ i.op ≤ 15) ∧ (0 ≤ i.form ∧ i.form ≤ 2) ∨ i.op = 20 ∧ (i.form = 1 ∨ i.form = 2) ∨ (¬ (5 ≤ i.op ∧ i.op ≤ 15) ∧ i.op ≠ 20 ∧ i.form = 0) := by
  unfold formValidP
  simp only [isTwoP_iff]
  split
  · simp; omega
  split
  · simp; omega
  · simp; omega
theorem widthValidP_iff {i : Ins} : widthValidP i = true ↔ i.op = 17 ∧ (i.width = 1 ∨ i.width = 2) ∨ (i.op = 16 ∨ i.op = 18) ∧ (i.width = 1 ∨ i.width = 2 ∨ i.width = 4) ∨ (¬ (i.op = 16 ∨ i.op = 17 ∨ i.op = 18) ∧ i.width = 0) := by
  unfold widthValidP
  simp only [isAccP_iff]
  split
  · simp; omega
  split
  · simp; omega
  · simp; omega
theorem bfalse {b : Bool} : b = false ↔ ¬ b = true := by cases b <;> simp
theorem u32_zero {x : UInt32} : x = 0 ↔ x.toNat = 0 := by rw [← UInt32.toNat_inj]; rfl
theorem isByteP_iff {n : UInt32} : isByteP n = true ↔ n.toNat ≤ 127 ∨ 4294967168 ≤ n.toNat := by
  simp only [isByteP, Bool.or_eq_true, decide_eq_true_eq, UInt32.le_iff_toNat_le]
  exact Iff.rfl
theorem ops11 {op : Int} (h : 5 ≤ op ∧ op ≤ 15) : op = 5 ∨ op = 6 ∨ op = 7 ∨ op = 8 ∨ op = 9 ∨ op = 10 ∨ op = 11 ∨ op = 12 ∨ op = 13 ∨ op = 14 ∨ op = 15 := by omega
set_option maxHeartbeats 4000000 in
theorem err_ok {i : Ins} {s : Int} (h2 : okOp i s) : refErrP i = if ¬ (regP i.a = true ∧ regP i.b = true ∧ keptP i s = i) then 2 else if (s = 4 ∨ s = 5) ∧ narrowP i.imm = false ∨ s = 7 ∧ narrowP (i.imm - i.addr - 2) = false then 7 else 0 := by
  have e7 : narrowP i.imm = isByteP i.imm := rfl
  have e8 : narrowP (i.imm - i.addr - 2) = isByteP (i.imm - i.addr - 2) := rfl
  unfold refErrP
  simp only [bfalse, formValidP_iff, widthValidP_iff, hasAP_iff, hasBP_iff, hasImmP_iff, hasCcP_iff, isCcP_iff, isTwoP_iff, isAccP_iff, regP_iff, kept_iff, e7, e8, isByteP_iff, u32_zero, ne_eq]
  clear e7 e8
  have big : ∀ p : Prop, (5 ≤ i.op ∧ i.op ≤ 15) ∧ p → (i.op = 5 ∨ i.op = 6 ∨ i.op = 7 ∨ i.op = 8 ∨ i.op = 9 ∨ i.op = 10 ∨ i.op = 11 ∨ i.op = 12 ∨ i.op = 13 ∨ i.op = 14 ∨ i.op = 15) ∧ p := fun p h => ⟨ops11 h.1, h.2⟩
  cases h2
  case c2 h => replace h := big _ h; clear big; generalize (i.imm - i.addr - 2).toNat = m; generalize i.imm.toNat = n; generalize i.op = op at *; generalize i.form = form at *; obtain ⟨rfl | rfl | rfl | rfl | rfl | rfl | rfl | rfl | rfl | rfl | rfl, rfl⟩ := h <;> simp <;> (repeat' split) <;> omega
  case c3 h => replace h := big _ h; clear big; generalize (i.imm - i.addr - 2).toNat = m; generalize i.imm.toNat = n; generalize i.op = op at *; generalize i.form = form at *; obtain ⟨rfl | rfl | rfl | rfl | rfl | rfl | rfl | rfl | rfl | rfl | rfl, rfl⟩ := h <;> simp <;> (repeat' split) <;> omega
  case c4 h => replace h := big _ h; clear big; generalize (i.imm - i.addr - 2).toNat = m; generalize i.imm.toNat = n; generalize i.op = op at *; generalize i.form = form at *; obtain ⟨rfl | rfl | rfl | rfl | rfl | rfl | rfl | rfl | rfl | rfl | rfl, rfl⟩ := h <;> simp <;> (repeat' split) <;> omega
  all_goals clear big
  all_goals generalize (i.imm - i.addr - 2).toNat = m
  all_goals generalize i.imm.toNat = n
  all_goals rename_i h
  all_goals generalize i.op = op at *
  all_goals generalize i.form = form at *
  case c0 => rcases h with rfl | rfl | rfl <;> simp <;> (repeat' split) <;> omega
  case c1 => rcases h with rfl | rfl <;> simp <;> (repeat' split) <;> omega
  case c5 => rcases h with ⟨rfl | rfl, h⟩ <;> simp <;> (repeat' split) <;> omega
  case c9 => obtain ⟨rfl, h, rfl⟩ := h; simp; (repeat' split) <;> omega
  case c10 => obtain ⟨rfl, h, rfl⟩ := h; simp; (repeat' split) <;> omega
  case c6 => obtain ⟨rfl, h⟩ := h; simp; (repeat' split) <;> omega
  case c8 => obtain ⟨rfl, h⟩ := h; simp; (repeat' split) <;> omega
  all_goals (subst h; simp; (repeat' split) <;> omega)
set_option maxHeartbeats 4000000 in
theorem err_not {i : Ins} (h : ∀ s, ¬ okOp i s) : refErrP i = 2 := by
  have h0 : ¬ (i.op = 0 ∨ i.op = 1 ∨ i.op = 2) := fun k => h _ (.c0 k)
  have h1 : ¬ (i.op = 3 ∨ i.op = 4) := fun k => h _ (.c1 k)
  have h2 : ¬ ((5 ≤ i.op ∧ i.op ≤ 15) ∧ (i.form = 0 ∨ i.form = 1 ∨ i.form = 2)) := fun k => by
    rcases k with ⟨k, k1 | k1 | k1⟩
    · exact h _ (.c2 ⟨k, k1⟩)
    · exact h _ (.c3 ⟨k, k1⟩)
    · exact h _ (.c4 ⟨k, k1⟩)
  have h5 : ¬ ((i.op = 16 ∨ i.op = 18) ∧ (i.width = 1 ∨ i.width = 2 ∨ i.width = 4)) := fun k => h _ (.c5 k)
  have h6 : ¬ (i.op = 17 ∧ (i.width = 1 ∨ i.width = 2)) := fun k => h _ (.c6 k)
  have h7 : ¬ i.op = 19 := fun k => h _ (.c7 k)
  have h8 : ¬ (i.op = 25 ∧ (0 ≤ i.cc ∧ i.cc ≤ 14)) := fun k => h _ (.c8 k)
  have h9 : ¬ (i.op = 20 ∧ (0 ≤ i.cc ∧ i.cc ≤ 14) ∧ i.form = 1) := fun k => h _ (.c9 k)
  have h10 : ¬ (i.op = 20 ∧ (0 ≤ i.cc ∧ i.cc ≤ 14) ∧ i.form = 2) := fun k => h _ (.c10 k)
  have h11 : ¬ (i.op = 23) := fun k => h _ (.c11 k)
  have h12 : ¬ (i.op = 24) := fun k => h _ (.c12 k)
  have h13 : ¬ (i.op = 21) := fun k => h _ (.c13 k)
  have h14 : ¬ (i.op = 22) := fun k => h _ (.c14 k)
  have h15 : ¬ (i.op = 26) := fun k => h _ (.c15 k)
  have h16 : ¬ (i.op = 27) := fun k => h _ (.c16 k)
  clear h
  unfold refErrP
  simp only [bfalse, formValidP_iff, widthValidP_iff, hasCcP_iff, isCcP_iff, ne_eq]
  by_cases k1 : i.op < 0 ∨ 27 < i.op ∨ ¬((5 ≤ i.op ∧ i.op ≤ 15) ∧ 0 ≤ i.form ∧ i.form ≤ 2 ∨ i.op = 20 ∧ (i.form = 1 ∨ i.form = 2) ∨ ¬(5 ≤ i.op ∧ i.op ≤ 15) ∧ ¬ i.op = 20 ∧ i.form = 0) ∨
      ¬(i.op = 17 ∧ (i.width = 1 ∨ i.width = 2) ∨ (i.op = 16 ∨ i.op = 18) ∧ (i.width = 1 ∨ i.width = 2 ∨ i.width = 4) ∨ ¬(i.op = 16 ∨ i.op = 17 ∨ i.op = 18) ∧ i.width = 0)
  · rw [if_pos k1]
  rw [if_neg k1]
  split
  · rfl
  rw [if_pos]
  have hop : i.op = 20 ∨ i.op = 25 := by omega
  refine .inl ⟨hop, fun hc => ?_⟩
  omega
theorem err_ref (i : Ins) : refErrP i = errP i := by
  rcases opcode_ok i with ⟨c, s, h1, h2⟩ | ⟨⟨c, s, h1⟩, h2⟩
  · rw [err_of h1, err_ok h2]
  · rw [err_bad h1, err_not h2]
end Go.HL
namespace Go.HL
open Go
theorem u8_add (k : UInt8) (x : Int) : u8 ((k.toNat : Int) + x) = k + u8 x := by
  apply UInt8.toNat_inj.1
  have h1 := u8_toNat ((k.toNat : Int) + x)
  have h2 := u8_toNat x
  have h3 := k.toNat_lt
  rw [UInt8.toNat_add]
  omega
theorem sub_add32 (a b c : UInt32) : a - (b + c) = a - b - c := by
  apply UInt32.toNat_inj.1
  have ha := a.toNat_lt; have hb := b.toNat_lt; have hc := c.toNat_lt
  simp only [UInt32.toNat_sub, UInt32.toNat_add]
  omega
theorem word_put (n : UInt32) : wordP n = putP [] n 4 := by
  have e1 : putP [] n 4 = [(shr32 n 0).toUInt8, (shr32 n 8).toUInt8, (shr32 n 16).toUInt8, (shr32 n 24).toUInt8] := rfl
  rw [e1]
  have hn := n.toNat_lt
  have key : ∀ (x y : UInt32), x.toNat % 256 = y.toNat % 256 → x.toUInt8 = y.toUInt8 := fun x y h => by
    apply UInt8.toNat_inj.1
    simpa [UInt32.toNat_toUInt8] using h
  unfold wordP
  have c1 : (256 : UInt32).toNat = 256 := rfl
  have c2 : (65536 : UInt32).toNat = 65536 := rfl
  have c3 : (16777216 : UInt32).toNat = 16777216 := rfl
  congr 1
  · exact key _ _ (by rw [shr32_toNat, UInt32.toNat_mod, c1] <;> omega)
  congr 1
  · exact key _ _ (by rw [shr32_toNat, UInt32.toNat_mod, UInt32.toNat_div, c1]; omega)
  congr 1
  · exact key _ _ (by rw [shr32_toNat, UInt32.toNat_mod, UInt32.toNat_div, c1, c2]; omega)
  congr 1
  exact key _ _ (by rw [shr32_toNat, UInt32.toNat_div, c3] <;> omega)
theorem opcode_errP {i : Ins} (h : errP i = 0) : ∃ c s, opcodeP i = (c, s, true) ∧ okOp i s := by
  rcases opcode_ok i with h1 | ⟨⟨c, s, h1⟩, _⟩
  · exact h1
  · rw [err_bad h1] at h; cases h
theorem errP_narrow {i : Ins} {c : UInt8} {s : Int} (h : errP i = 0) (h1 : opcodeP i = (c, s, true)) : keptP i s = i ∧ (0 ≤ i.a ∧ i.a < 8) ∧ (0 ≤ i.b ∧ i.b < 8) ∧ ((s = 4 ∨ s = 5) → narrowP i.imm = true) ∧ (s = 7 → narrowP (i.imm - i.addr - 2) = true) := by
  rw [err_of h1] at h
  split at h
  · cases h
  rename_i k1
  split at h
  · cases h
  rename_i k2
  simp only [Decidable.not_not] at k1
  refine ⟨k1.2.2, regP_iff.1 k1.1, regP_iff.1 k1.2.1, fun hs => ?_, fun hs => ?_⟩
  · cases hn : narrowP i.imm
    · exact absurd (.inl ⟨hs, hn⟩) k2
    · rfl
  · cases hn : narrowP (i.imm - i.addr - 2)
    · exact absurd (.inr ⟨hs, hn⟩) k2
    · rfl
theorem opEq {i : Ins} {c d : UInt8} {s r : Int} {b : Bool} (h : opcodeP i = (c, s, true)) (h2 : opcodeP i = (d, r, b)) : c = d := by rw [h] at h2; cases h2; rfl
theorem bytes_eq {i : Ins} {c : UInt8} {s : Int} (h1 : opcodeP i = (c, s, true)) (hs : okOp i s) (ha : 0 ≤ i.a ∧ i.a < 8) (hb : 0 ≤ i.b ∧ i.b < 8) : bytesP i = c :: argsP s i (i.addr + u32 (sizeP s)) := by
  have two : ∀ p : Prop, (5 ≤ i.op ∧ i.op ≤ 15) ∧ p → isTwoP i.op = true := fun p h => isTwoP_iff.2 h.1
  have e5 : ∀ (x : UInt32), x - i.addr - 5 = x - (i.addr + u32 (sizeP 8)) := fun x => (sub_add32 _ _ _).symm
  have e2 : i.imm - i.addr - 2 = i.imm - (i.addr + u32 (sizeP 7)) := (sub_add32 _ _ _).symm
  have e16 : u8 (16 * i.a + i.b) = u8 (i.a * 16 + i.b) := by rw [Int.mul_comm]
  cases hs
  case c0 h =>
    have o : opcodeP i = (u8 i.op, 0, true) := by unfold opcodeP; rw [if_pos h]
    rw [opEq h1 o]
    unfold bytesP plainP
    simp only [isTwoP_iff, isAccP_iff]
    repeat rw [if_neg (by omega)]
    rfl
  case c1 h =>
    have e8 : i.a % 8 = i.a := by omega
    rcases h with h | h
    · have o : opcodeP i = (8 + u8 (i.a % 8), 1, true) := by unfold opcodeP; rw [if_neg (by omega), if_pos h]
      rw [opEq h1 o, e8]
      unfold bytesP plainP
      simp only [isTwoP_iff, isAccP_iff]
      repeat (first | rw [if_pos (by omega)] | rw [if_neg (by omega)])
      rfl
    · have o : opcodeP i = (16 + u8 (i.a % 8), 1, true) := by unfold opcodeP; rw [if_neg (by omega), if_neg (by omega), if_pos h]
      rw [opEq h1 o, e8]
      unfold bytesP plainP
      simp only [isTwoP_iff, isAccP_iff]
      repeat (first | rw [if_pos (by omega)] | rw [if_neg (by omega)])
      rfl
  case c2 h =>
    have o : opcodeP i = (32 + u8 (i.op - 5), 3, true) := by unfold opcodeP; repeat (first | rw [if_pos (by omega)] | rw [if_neg (by omega)])
    rw [opEq h1 o, ← u8_add]
    unfold bytesP
    rw [if_pos (two _ h), if_pos h.2, e16]; rfl
  case c3 h =>
    have o : opcodeP i = (48 + u8 (i.op - 5), 4, true) := by unfold opcodeP; repeat (first | rw [if_pos (by omega)] | rw [if_neg (by omega)])
    rw [opEq h1 o, ← u8_add]
    unfold bytesP
    rw [if_pos (two _ h), if_neg (by omega), if_pos h.2, W.u32_byteI]; rfl
  case c4 h =>
    have o : opcodeP i = (64 + u8 (i.op - 5), 6, true) := by unfold opcodeP; repeat (first | rw [if_pos (by omega)] | rw [if_neg (by omega)])
    rw [opEq h1 o, ← u8_add]
    unfold bytesP
    rw [if_pos (two _ h), if_neg (by omega), if_neg (by omega), word_put]; rfl
  case c5 h =>
    have acc : isAccP i.op = true := isAccP_iff.2 (by omega)
    have nt : ¬ isTwoP i.op = true := by rw [isTwoP_iff]; omega
    have o : opcodeP i = (accessP i, 5, decide (accessP i ≠ 0)) := by unfold opcodeP; repeat (first | rw [if_pos (by omega)] | rw [if_neg (by omega)])
    rw [opEq h1 o]
    have ec : u8 (accCodeP i) = accessP i := by
      unfold accCodeP accessP
      obtain ⟨k1 | k1, k2 | k2 | k2⟩ := h <;> simp [k1, k2] <;> rfl
    unfold bytesP
    rw [if_neg nt, if_pos acc, e16, W.u32_byteI, ec]; rfl
  case c6 h =>
    have acc : isAccP i.op = true := isAccP_iff.2 (by omega)
    have nt : ¬ isTwoP i.op = true := by rw [isTwoP_iff]; omega
    have o : opcodeP i = (accessP i, 5, decide (accessP i ≠ 0)) := by unfold opcodeP; repeat (first | rw [if_pos (by omega)] | rw [if_neg (by omega)])
    rw [opEq h1 o]
    have ec : u8 (accCodeP i) = accessP i := by
      unfold accCodeP accessP
      obtain ⟨k1, k2 | k2⟩ := h <;> simp [k1, k2] <;> rfl
    unfold bytesP
    rw [if_neg nt, if_pos acc, e16, W.u32_byteI, ec]; rfl
  case c7 h =>
    have o : opcodeP i = (90, 5, true) := by unfold opcodeP; repeat (first | rw [if_pos (by omega)] | rw [if_neg (by omega)])
    rw [opEq h1 o]
    unfold bytesP
    simp only [isTwoP_iff, isAccP_iff]
    repeat (first | rw [if_pos (by omega)] | rw [if_neg (by omega)])
    rw [e16, W.u32_byteI]; rfl
  case c8 h =>
    have o : opcodeP i = (144 + u8 i.cc, 2, true) := by unfold opcodeP condP; repeat (first | rw [if_pos (by omega)] | rw [if_neg (by omega)])
    rw [opEq h1 o, ← u8_add]
    unfold bytesP plainP
    simp only [isTwoP_iff, isAccP_iff]
    repeat (first | rw [if_pos (by omega)] | rw [if_neg (by omega)])
    rfl
  case c9 h =>
    have o : opcodeP i = (96 + u8 i.cc, 7, true) := by unfold opcodeP condP; repeat (first | rw [if_pos (by omega)] | rw [if_neg (by omega)])
    rw [opEq h1 o, ← u8_add]
    unfold bytesP
    simp only [isTwoP_iff, isAccP_iff]
    repeat (first | rw [if_pos (by omega)] | rw [if_neg (by omega)])
    rw [W.u32_byteI, e2]; rfl
  case c10 h =>
    have o : opcodeP i = (112 + u8 i.cc, 8, true) := by unfold opcodeP condP; repeat (first | rw [if_pos (by omega)] | rw [if_neg (by omega)])
    rw [opEq h1 o, ← u8_add]
    unfold bytesP
    simp only [isTwoP_iff, isAccP_iff]
    repeat (first | rw [if_pos (by omega)] | rw [if_neg (by omega)])
    rw [word_put, e5]; rfl
  case c11 h =>
    have o : opcodeP i = (128, 8, true) := by unfold opcodeP; repeat (first | rw [if_pos (by omega)] | rw [if_neg (by omega)])
    rw [opEq h1 o]
    unfold bytesP
    simp only [isTwoP_iff, isAccP_iff]
    repeat (first | rw [if_pos (by omega)] | rw [if_neg (by omega)])
    rw [word_put, e5]; rfl
  case c14 h =>
    have o : opcodeP i = (131, 6, true) := by unfold opcodeP; repeat (first | rw [if_pos (by omega)] | rw [if_neg (by omega)])
    rw [opEq h1 o]
    unfold bytesP
    simp only [isTwoP_iff, isAccP_iff]
    repeat (first | rw [if_pos (by omega)] | rw [if_neg (by omega)])
    rw [word_put]; rfl
  case c12 h =>
    have o : opcodeP i = (129, 2, true) := by unfold opcodeP; repeat (first | rw [if_pos (by omega)] | rw [if_neg (by omega)])
    rw [opEq h1 o]
    unfold bytesP plainP
    simp only [isTwoP_iff, isAccP_iff]
    repeat (first | rw [if_pos (by omega)] | rw [if_neg (by omega)])
    rfl
  case c13 h =>
    have o : opcodeP i = (130, 2, true) := by unfold opcodeP; repeat (first | rw [if_pos (by omega)] | rw [if_neg (by omega)])
    rw [opEq h1 o]
    unfold bytesP plainP
    simp only [isTwoP_iff, isAccP_iff]
    repeat (first | rw [if_pos (by omega)] | rw [if_neg (by omega)])
    rfl
  case c15 h =>
    have o : opcodeP i = (160, 2, true) := by unfold opcodeP; repeat (first | rw [if_pos (by omega)] | rw [if_neg (by omega)])
    rw [opEq h1 o]
    unfold bytesP plainP
    simp only [isTwoP_iff, isAccP_iff]
    repeat (first | rw [if_pos (by omega)] | rw [if_neg (by omega)])
    rfl
  case c16 h =>
    have o : opcodeP i = (161, 2, true) := by unfold opcodeP; repeat (first | rw [if_pos (by omega)] | rw [if_neg (by omega)])
    rw [opEq h1 o]
    unfold bytesP plainP
    simp only [isTwoP_iff, isAccP_iff]
    repeat (first | rw [if_pos (by omega)] | rw [if_neg (by omega)])
    rfl
theorem enc_ref (i : Ins) : refEncP i = encodeP i := by
  unfold refEncP encodeP
  rw [err_ref]
  by_cases h : errP i = 0
  · rw [if_pos h, if_pos h]
    obtain ⟨c, s, h1, h2⟩ := opcode_errP h
    obtain ⟨_, ha, hb, _⟩ := errP_narrow h h1
    rw [bytes_eq h1 h2 ha hb, h1]
  · rw [if_neg h, if_neg h]
theorem args_len {s : Int} (h : 0 ≤ s ∧ s ≤ 8) (i : Ins) (nx : UInt32) : ((argsP s i nx).length : Int) + 1 = sizeP s := by
  obtain rfl | rfl | rfl | rfl | rfl | rfl | rfl | rfl | rfl : s = 0 ∨ s = 1 ∨ s = 2 ∨ s = 3 ∨ s = 4 ∨ s = 5 ∨ s = 6 ∨ s = 7 ∨ s = 8 := by omega
  all_goals rfl
theorem encode_len (i : Ins) : ((encodeP i).length : Int) = lengthPI i := by
  unfold encodeP lengthPI
  by_cases h : errP i = 0
  · rw [if_pos h, if_pos h, List.length_cons]
    have := args_len (opcodeP_shape i) i (i.addr + u32 (sizeP (opcodeP i).2.1))
    omega
  · rw [if_neg h, if_neg h]; rfl
theorem len_ref (i : Ins) : refLenP i = lengthPI i := by
  rw [← encode_len, ← enc_ref]
  unfold refLenP refEncP
  by_cases h : refErrP i = 0
  · rw [if_pos h, if_pos h]
  · rw [if_neg h, if_neg h]; rfl
end Go.HL
namespace Go.HL
open Go Go.RowKit Go.MapKept
section
variable {α : Type}
def mget : List (UInt32 × α) → UInt32 → Option α
  | [], _ => none
  | p :: t, k => if k = p.1 then some p.2 else mget t k
def mput : List (UInt32 × α) → UInt32 → α → List (UInt32 × α)
  | [], k, x => [(k, x)]
  | p :: t, k, x => if k = p.1 then (k, x) :: t else p :: mput t k x
theorem mget_put (l : List (UInt32 × α)) (k j : UInt32) (x : α) : mget (mput l k x) j = if j = k then some x else mget l j := by
  induction l with
  | nil => simp [mput, mget]
  | cons p t ih =>
    unfold mput
    by_cases h : k = p.1
    · rw [if_pos h]
      unfold mget
      subst h
      by_cases c : j = p.1 <;> simp [c]
    · rw [if_neg h]
      by_cases c : j = p.1
      · have : ¬ j = k := fun q => h (q.symm.trans c)
        simp [mget, c, this]
        intro q; exact absurd q.symm h
      · simp [mget, c, ih]
theorem mget_mem {l : List (UInt32 × α)} {k : UInt32} : (mget l k).isSome = true ↔ k ∈ l.map (·.1) := by
  induction l with
  | nil => simp [mget]
  | cons p t ih =>
    unfold mget
    by_cases h : k = p.1
    · simp [h]
    · rw [if_neg h, ih]; simp [h]
theorem mem_of_mget {l : List (UInt32 × α)} {k : UInt32} {x : α} (h : mget l k = some x) : (k, x) ∈ l := by
  induction l with
  | nil => simp [mget] at h
  | cons p t ih =>
    unfold mget at h
    split at h
    · rename_i e; cases h; subst e; exact .head _
    · exact .tail _ (ih h)
/-- What stands at a key's place. -/
theorem mget_at : ∀ (l : List (UInt32 × α)) {j : Nat} {p : UInt32 × α}, (l.map (·.1)).Nodup → l[j]? = some p → mget l p.1 = some p.2 ∧ ∀ x, mput l p.1 x = l.set j (p.1, x)
  | [], j, p, _, h => by simp at h
  | q :: t, 0, p, _, h => by
    simp only [List.getElem?_cons_zero, Option.some.injEq] at h
    subst h
    exact ⟨by simp [mget], fun x => by simp [mput]⟩
  | q :: t, j + 1, p, hn, h => by
    rw [List.map_cons, List.nodup_cons] at hn
    simp only [List.getElem?_cons_succ] at h
    have hne : ¬ p.1 = q.1 := fun e => hn.1 (List.mem_map.2 ⟨p, List.mem_of_getElem? h, e⟩)
    obtain ⟨h1, h2⟩ := mget_at t hn.2 h
    exact ⟨by rw [mget, if_neg hne]; exact h1, fun x => by rw [mput, if_neg hne, h2 x]; rfl⟩
theorem mput_new {l : List (UInt32 × α)} {k : UInt32} (h : mget l k = none) (x : α) : mput l k x = l ++ [(k, x)] := by
  induction l with
  | nil => rfl
  | cons p t ih =>
    unfold mget at h
    split at h
    · cases h
    · rename_i hk; rw [mput, if_neg hk, ih h]; rfl
end
def keyV (k : UInt32) : Value := .int .u32 (k.toNat : Int)
theorem keyV_inj {a b : UInt32} (h : keyV a = keyV b) : a = b := by
  unfold keyV at h
  injection h with _ h
  exact UInt32.toNat_inj.1 (by omega)
theorem keyV_key (k : UInt32) : IsKey (.int .u32) (keyV k) := by simp [IsKey, keyV]
structure MapIs {α : Type} (f : α → Value) (l : List (UInt32 × α)) (es : Array MapEntry) (ck : Nat) : Prop where
  st : Stamped es ck
  ents : es.toList.map (fun e => (e.key, e.val)) = l.map fun p => (keyV p.1, f p.2)
section
variable {α : Type} {f : α → Value} {l : List (UInt32 × α)} {es : Array MapEntry} {ck : Nat}
theorem MapIs.made : MapIs f [] #[] 0 := ⟨stamped_empty 0, rfl⟩
theorem MapIs.len (h : MapIs f l es ck) : es.size = l.length := by
  have := congrArg List.length h.ents
  simpa using this
theorem MapIs.keys (h : MapIs f l es ck) : es.toList.map (·.key) = l.map fun p => keyV p.1 := by
  have := congrArg (List.map Prod.fst) h.ents
  rw [List.map_map, List.map_map] at this
  exact this
theorem MapIs.nodup (h : MapIs f l es ck) : (l.map (·.1)).Nodup := by
  have h1 := h.st.2.2
  rw [h.keys] at h1
  have e : (l.map fun p => keyV p.1) = (l.map (·.1)).map keyV := by rw [List.map_map]; rfl
  rw [e] at h1
  exact List.Pairwise.imp (fun {a b} hne q => hne (by rw [q])) (List.pairwise_map.1 h1)
theorem MapIs.isKey (h : MapIs f l es ck) : ∀ x ∈ es.toList, IsKey (.int .u32) x.key := by
  intro x hx
  have : x.key ∈ es.toList.map (·.key) := List.mem_map.2 ⟨x, hx, rfl⟩
  rw [h.keys] at this
  obtain ⟨p, _, e⟩ := List.mem_map.1 this
  rw [← e]; exact keyV_key _
theorem MapIs.at_ (h : MapIs f l es ck) {j : Nat} {e : MapEntry} (he : es.toList[j]? = some e) : ∃ p, l[j]? = some p ∧ e.key = keyV p.1 ∧ e.val = f p.2 := by
  have h1 : (es.toList.map (fun e => (e.key, e.val)))[j]? = some (e.key, e.val) := by rw [List.getElem?_map, he]; rfl
  rw [h.ents, List.getElem?_map] at h1
  cases hl : l[j]? with
  | none => rw [hl] at h1; cases h1
  | some p =>
    rw [hl] at h1
    simp only [Option.map_some, Option.some.injEq, Prod.mk.injEq] at h1
    exact ⟨p, rfl, h1.1.symm, h1.2.symm⟩
/-- Looking for a key. -/
theorem MapIs.find (h : MapIs f l es ck) (k : UInt32) :
    (Instr.findNow (.int .u32) (keyV k) es.toList 0 = some none ∧ mget l k = none ∧ ∀ x ∈ es.toList, x.key ≠ keyV k) ∨
    ∃ (j : Nat) (e : MapEntry) (x : α), Instr.findNow (.int .u32) (keyV k) es.toList 0 = some (some (j, f x)) ∧ es.toList[j]? = some e ∧ e.key = keyV k ∧ l[j]? = some (k, x) ∧ mget l k = some x := by
  rcases findNow_spec (keyV_key k) es.toList 0 h.isKey with ⟨h1, h2⟩ | ⟨j, e, h1, h2, h3⟩
  · refine .inl ⟨h1, ?_, h2⟩
    cases hg : mget l k with
    | none => rfl
    | some x =>
      exfalso
      have hm := mem_of_mget hg
      have : keyV k ∈ es.toList.map (·.key) := by rw [h.keys]; exact List.mem_map.2 ⟨_, hm, rfl⟩
      obtain ⟨e, he, hk⟩ := List.mem_map.1 this
      exact h2 e he hk
  · obtain ⟨p, p1, p2, p3⟩ := h.at_ h2
    have hk : p.1 = k := keyV_inj (p2.symm.trans h3)
    obtain ⟨pk, px⟩ := p
    simp only at hk p3
    subst hk
    exact .inr ⟨j, e, px, by rw [h1, p3]; simp, h2, h3, p1, (mget_at l h.nodup p1).1⟩
theorem MapIs.push (h : MapIs f l es ck) {k : UInt32} (hk : mget l k = none) (x : α) : MapIs f (mput l k x) (es.push { key := keyV k, val := f x, born := ck }) (ck + 1) := by
  refine ⟨stamped_push h.st ?_, ?_⟩
  · intro e he q
    have : keyV k ∈ es.toList.map (·.key) := List.mem_map.2 ⟨e, he, q⟩
    rw [h.keys] at this
    obtain ⟨p, hp, e⟩ := List.mem_map.1 this
    have h1 := mget_mem.2 (List.mem_map.2 ⟨p, hp, keyV_inj e⟩ : k ∈ l.map (·.1))
    rw [hk] at h1; cases h1
  · rw [mput_new hk, Array.toList_push, List.map_append, List.map_append, h.ents]; rfl
theorem MapIs.modify (h : MapIs f l es ck) {k : UInt32} {j : Nat} {e : MapEntry} {x0 : α} (he : es.toList[j]? = some e) (hk : e.key = keyV k) (hl : l[j]? = some (k, x0)) (x : α) :
    MapIs f (mput l k x) (es.modify j fun e => { e with key := keyV k, val := f x }) ck := by
  have hj : es[j]? = some e := by simpa using he
  refine ⟨stamped_modify h.st _ _ (fun _ _ => rfl) (fun e' _ he' => by rw [hj] at he'; cases he'; exact hk.symm), ?_⟩
  rw [(mget_at l h.nodup hl).2 x]
  have hes := h.ents
  apply List.ext_getElem?
  intro i
  rw [List.getElem?_map, List.getElem?_map, Array.getElem?_toList, Array.getElem?_modify, List.getElem?_set]
  have hi : (es.toList.map (fun e => (e.key, e.val)))[i]? = (l.map fun p => (keyV p.1, f p.2))[i]? := by rw [hes]
  rw [List.getElem?_map, List.getElem?_map, Array.getElem?_toList] at hi
  by_cases c : j = i
  · subst c
    have hlt : j < l.length := (List.getElem?_eq_some_iff.1 hl).1
    simp [hj, hlt]
  · simp only [c, if_false]; exact hi
end
/-- A map of one's own. -/
def mapE {α : Type} (b : Nat) (f : α → Value) (l : List (UInt32 × α)) : Ent := ⟨some b, fun o => ∃ es ck, o = some (.map es ck) ∧ MapIs f l es ck⟩
/-- A map that is only read. -/
def MapIn {α : Type} (h : Hp) (b : Nat) (f : α → Value) (l : List (UInt32 × α)) : Prop := ∃ es ck, h b = some (.map es ck) ∧ MapIs f l es ck
theorem MapIn.mono {α : Type} {h k : Hp} {b : Nat} {f : α → Value} {l : List (UInt32 × α)} (m : MapIn h b f l) (hk : Hp.le h k) : MapIn k b f l := by
  obtain ⟨es, ck, h1, h2⟩ := m
  exact ⟨es, ck, hk _ _ h1, h2⟩
theorem mapE.in_ {α : Type} {b : Nat} {f : α → Value} {l : List (UInt32 × α)} {w : World} (h : (mapE b f l).holds w) : MapIn (hp w) b f l := by
  obtain ⟨es, ck, h1, h2⟩ := h
  exact ⟨es, ck, h1, h2⟩
/-- What a look-up gives. -/
def mval {α : Type} (f : α → Value) (z : Value) : Option α → Value
  | some x => f x
  | none => z
section
variable {P : Program} {ops : Array Oper} {Q : Exit → Act → World → Prop} {N : Nat} {F : Bg} {L : List Ent} {M : Fr} {dst : Option Tmp} {ty : TypeId} {pos : String} {after : Array Edge} {g : Option (Nat × Bool)} {rest : List Oper} {d : Nat}
theorem lookup_run {α : Type} {f : α → Value} {l : List (UInt32 × α)} {w : World} {t K e : TypeId} {z : Value} {b : Nat} (ht : P.underlying t = some (.map K e)) (hK : P.underlying K = some (.int .u32)) (hz : ∀ w, (zeroValue e).run P w = .ok z w)
    (hm : MapIn (HL.hp w) b f l) (k : UInt32) (c : Bool) : (Instr.lookup t (.map (some b)) (keyV k) c).run P w = .ok (if c then .tuple #[mval f z (mget l k), .bool (mget l k).isSome] else mval f z (mget l k)) w := by
  obtain ⟨es, ck, hb, hm⟩ := hm
  replace hb : w.heap[b]? = some (.map es ck) := hb
  rcases hm.find k with ⟨h1, h2, _⟩ | ⟨j, e0, x, h1, _, _, _, h2⟩
  · cases c <;> simp [Instr.lookup, run_underlying ht, Go.MapKept.run_getObj_map hb, run_checkKey hK (keyV_key k), run_findKey hK h1, hz, Result.andThen, h2, mval]
  · cases c <;> simp [Instr.lookup, run_underlying ht, Go.MapKept.run_getObj_map hb, run_checkKey hK (keyV_key k), run_findKey hK h1, hz, Result.andThen, h2, mval]
theorem QS.look {α : Type} {f : α → Value} {l : List (UInt32 × α)} {x y : Operand} {t K e : TypeId} {z : Value} {b : Nat} {k : UInt32} (hx : opv M x = some (.map (some b))) (hy : opv M y = some (.int .u32 k.toNat)) (hm : mapE b f l ∈ L)
    (ht : P.underlying t = some (.map K e)) (hK : P.underlying K = some (.int .u32)) (hz : ∀ w, (zeroValue e).run P w = .ok z w) : QS P N F L M ⟨dst, .lookup t x y false, ty, pos, after, g⟩ (mval f z (mget l k)) :=
  QS.of_run fun a w ha hw => by
    have hr := lookup_run (P := P) ht hK hz (mapE.in_ (hw.ent _ hm)) k false
    simp only [keyV] at hr
    simp [execOp, ha.eval hx, ha.eval hy, hr]
theorem QS.lookB {α : Type} {f : α → Value} {l : List (UInt32 × α)} {x y : Operand} {t K e : TypeId} {z : Value} {b : Nat} {k : UInt32} (hx : opv M x = some (.map (some b))) (hy : opv M y = some (.int .u32 k.toNat)) (hm : MapIn F.blk b f l)
    (ht : P.underlying t = some (.map K e)) (hK : P.underlying K = some (.int .u32)) (hz : ∀ w, (zeroValue e).run P w = .ok z w) : QS P N F L M ⟨dst, .lookup t x y false, ty, pos, after, g⟩ (mval f z (mget l k)) :=
  QS.of_run fun a w ha hw => by
    have hr := lookup_run (P := P) ht hK hz (hm.mono hw.bg) k false
    simp only [keyV] at hr
    simp [execOp, ha.eval hx, ha.eval hy, hr]
def boolV (x : Bool) : Value := .bool x
theorem mval_bool (o : Option Bool) : mval boolV (.bool false) o = .bool (o.getD false) := by cases o <;> rfl
theorem QS.lookT {l : List (UInt32 × Bool)} {x y : Operand} {t K e : TypeId} {b : Nat} {k : UInt32} (hx : opv M x = some (.map (some b))) (hy : opv M y = some (.int .u32 k.toNat)) (hm : mapE b boolV l ∈ L)
    (ht : P.underlying t = some (.map K e)) (hK : P.underlying K = some (.int .u32)) (hz : ∀ w, (zeroValue e).run P w = .ok (.bool false) w) : QS P N F L M ⟨dst, .lookup t x y false, ty, pos, after, g⟩ (.bool ((mget l k).getD false)) := by
  have h := QS.look (P := P) (N := N) (F := F) (L := L) (M := M) (dst := dst) (ty := ty) (pos := pos) (after := after) (g := g) hx hy hm ht hK hz
  rw [mval_bool] at h; exact h
theorem QS.lookBT {l : List (UInt32 × Bool)} {x y : Operand} {t K e : TypeId} {b : Nat} {k : UInt32} (hx : opv M x = some (.map (some b))) (hy : opv M y = some (.int .u32 k.toNat)) (hm : MapIn F.blk b boolV l)
    (ht : P.underlying t = some (.map K e)) (hK : P.underlying K = some (.int .u32)) (hz : ∀ w, (zeroValue e).run P w = .ok (.bool false) w) : QS P N F L M ⟨dst, .lookup t x y false, ty, pos, after, g⟩ (.bool ((mget l k).getD false)) := by
  have h := QS.lookB (P := P) (N := N) (F := F) (L := L) (M := M) (dst := dst) (ty := ty) (pos := pos) (after := after) (g := g) hx hy hm ht hK hz
  rw [mval_bool] at h; exact h
theorem Tr.makeMap {α : Type} (f : α → Value) {t : TypeId} (hd : Nat.ble (d + 1) N = true)
    (k : ∀ b, Tr N F (mapE b f [] :: L) ((d, .map (some b)) :: M) (wpList P ops Q rest)) : Tr N F L M (wpList P ops Q (⟨some d, .makeMap t none, ty, pos, after, none⟩ :: rest)) := by
  intro a w ha hw
  refine wpList_plain rfl fun K hK => ?_
  unfold Oper.wp
  have hr : (execOp a.eval ⟨some d, .makeMap t none, ty, pos, after, none⟩).run P w = .ok (.value (.map (some w.heap.size))) (w.alloc (.map #[] 0)) := by simp [execOp, Instr.makeMap]
  rw [hr]
  exact hK _ _ (k w.heap.size _ _ (ha.put (Nat.le_of_ble_eq_true hd)) (hw.alloc _ _ ⟨#[], 0, rfl, MapIs.made⟩))
theorem update_run {α : Type} {f : α → Value} {l : List (UInt32 × α)} {w : World} {t K e : TypeId} {b : Nat} (ht : P.underlying t = some (.map K e)) (hK : P.underlying K = some (.int .u32)) (hm : MapIn (HL.hp w) b f l) (k : UInt32) (x : α) :
    ∃ es ck, (Instr.mapUpdate t (.map (some b)) (keyV k) (f x)).run P w = .ok () { w with heap := w.heap.setIfInBounds b (.map es ck) } ∧ MapIs f (mput l k x) es ck := by
  obtain ⟨es, ck, hb, hm⟩ := hm
  replace hb : w.heap[b]? = some (.map es ck) := hb
  rcases hm.find k with ⟨h1, h2, h3⟩ | ⟨j, e0, x0, h1, h2, h3, h4, h5⟩
  · exact ⟨_, _, by simp [Instr.mapUpdate, run_underlying ht, Go.MapKept.run_getObj_map hb, run_checkKey hK (keyV_key k), run_findKey hK h1, run_setObj_map _ hb, Result.andThen], hm.push h2 x⟩
  · have hj : es[j]? = some e0 := by simpa using h2
    exact ⟨_, _, by simp [Instr.mapUpdate, run_underlying ht, Go.MapKept.run_getObj_map hb, run_checkKey hK (keyV_key k), run_findKey hK h1, hj, h3, run_keyThatStays (keyV_key k), run_setObj_map _ hb, Result.andThen], hm.modify h2 h3 h4 x⟩
theorem Tr.mapUpdate {α : Type} {f : α → Value} {l : List (UInt32 × α)} (x0 : α) {x y v : Operand} {t K e : TypeId} {b : Nat} {k : UInt32} {L' : List Ent} {dst : Option Tmp} (hx : opv M x = some (.map (some b))) (hy : opv M y = some (.int .u32 k.toNat)) (hv : opv M v = some (f x0))
    (hput : Put (mapE b f l) (mapE b f (mput l k x0)) L L') (ht : P.underlying t = some (.map K e)) (hK : P.underlying K = some (.int .u32)) (hdst : dst = none)
    (Kk : Tr N F L' M (wpList P ops Q rest)) : Tr N F L M (wpList P ops Q (⟨dst, .mapUpdate t x y v, ty, pos, after, none⟩ :: rest)) := by
  subst hdst
  intro a w ha hw
  refine wpList_plain rfl fun K' hK' => ?_
  have hent := hw.ent _ hput.mem
  have hin : MapIn (HL.hp w) b f l := mapE.in_ hent
  obtain ⟨es0, ck0, hb, _⟩ := hin
  have hb' : w.heap[b]? = some (.map es0 ck0) := hb
  obtain ⟨es, ck, hr, hM⟩ := update_run (P := P) ht hK (mapE.in_ hent) k x0
  simp only [keyV] at hr
  unfold Oper.wp
  simp only [execOp, ha.eval hx, ha.eval hy, ha.eval hv, Sem.run_bind, hr, Result.andThen_ok, Sem.run_pure, Oper.upon, Act.put]
  refine hK' _ _ (Kk _ _ ha ?_)
  have hset := heap_set (o' := .map es ck) hb'
  exact HpOK.set hw hput rfl rfl rfl (by simp) (Nat.le_refl _) (fun k _ hkb => hset.2 k hkb) ⟨es, ck, hset.1, hM⟩
end
end Go.HL
namespace Go.HL
open Go Go.Sort
open Go.Proofs (ltOf)
def cmpI (a b : Int) : Int := if a < b then -1 else if b < a then 1 else 0
def cmpA (x y : Ins) : Int := cmpU x.addr y.addr
theorem cmpU_lt (a b : UInt32) : cmpU a b < 0 ↔ a < b := by
  unfold cmpU
  split
  · rename_i h; simp [h]
  · rename_i h
    split
    · simp [h]
    · simp [h]
theorem cmpU_0 {a b : UInt32} : cmpU a b = 0 ↔ a = b := by
  unfold cmpU
  rw [← UInt32.toNat_inj]
  split
  · rename_i h; rw [UInt32.lt_iff_toNat_lt] at h; constructor <;> intro q <;> omega
  · rename_i h
    rw [UInt32.lt_iff_toNat_lt] at h
    split
    · rename_i h2; rw [UInt32.lt_iff_toNat_lt] at h2; constructor <;> intro q <;> omega
    · rename_i h2; rw [UInt32.lt_iff_toNat_lt] at h2; constructor <;> intro q <;> omega
theorem ltOf_cmpA (x y : Ins) : ltOf cmpA x y = decide (x.addr < y.addr) := by
  unfold ltOf cmpA
  congr 1
  exact propext (cmpU_lt _ _)
theorem swo_cmpA : SWO (ltOf cmpA) where
  irrefl x := by simp [ltOf_cmpA]
  trans x y z h1 h2 := by
    simp only [ltOf_cmpA, decide_eq_true_eq, UInt32.lt_iff_toNat_lt] at *; omega
  ntrans x y z h1 h2 := by
    simp only [ltOf_cmpA, decide_eq_false_iff_not, UInt32.lt_iff_toNat_lt] at *; omega
def cmpPr (x y : Rng) : Int := if cmpU x.lo y.lo ≠ 0 then cmpU x.lo y.lo else cmpU x.hi y.hi
def ltPr (x y : Rng) : Prop := x.lo.toNat < y.lo.toNat ∨ (x.lo.toNat = y.lo.toNat ∧ x.hi.toNat < y.hi.toNat)
theorem ltOf_cmpPr (x y : Rng) : ltOf cmpPr x y = true ↔ ltPr x y := by
  unfold ltOf cmpPr ltPr
  rw [decide_eq_true_eq]
  by_cases h : cmpU x.lo y.lo = 0
  · rw [if_neg (by simpa using h), cmpU_lt, UInt32.lt_iff_toNat_lt]
    have := cmpU_0.1 h
    rw [this]; omega
  · rw [if_pos h, cmpU_lt, UInt32.lt_iff_toNat_lt]
    have h2 : ¬ x.lo.toNat = y.lo.toNat := fun q => h (cmpU_0.2 (UInt32.toNat_inj.1 q))
    omega
theorem swo_cmpPr : SWO (ltOf cmpPr) where
  irrefl x := by
    cases h : ltOf cmpPr x x
    · rfl
    · have := (ltOf_cmpPr x x).1 h; unfold ltPr at this; omega
  trans x y z h1 h2 := by
    rw [ltOf_cmpPr] at *; unfold ltPr at *; omega
  ntrans x y z h1 h2 := by
    cases h : ltOf cmpPr x z
    · rfl
    · have h3 : ¬ ltPr x y := fun q => by rw [(ltOf_cmpPr x y).2 q] at h1; cases h1
      have h4 : ¬ ltPr y z := fun q => by rw [(ltOf_cmpPr y z).2 q] at h2; cases h2
      have := (ltOf_cmpPr x z).1 h
      unfold ltPr at *; omega
theorem len_rng (i : Ins) : 0 ≤ lengthPI i ∧ lengthPI i ≤ 6 := by
  unfold lengthPI sizeP
  split
  · repeat' split
    all_goals omega
  · omega
def endI (i : Ins) : Int := (i.addr.toNat : Int) + lengthPI i
theorem endI_rng (i : Ins) : 0 ≤ endI i ∧ endI i ≤ 4294967302 := by
  have := i.addr.toNat_lt
  have := len_rng i
  unfold endI; omega
def mxU (a b : UInt32) : UInt32 := if a < b then b else a
def mnU (a b : UInt32) : UInt32 := if b < a then b else a
theorem mxU_val (a b : UInt32) : (mxU a b).toNat = max a.toNat b.toNat := by
  unfold mxU
  split
  · rename_i h; rw [UInt32.lt_iff_toNat_lt] at h; omega
  · rename_i h; rw [UInt32.lt_iff_toNat_lt] at h; omega
theorem mnU_val (a b : UInt32) : (mnU a b).toNat = min a.toNat b.toNat := by
  unfold mnU
  split
  · rename_i h; rw [UInt32.lt_iff_toNat_lt] at h; omega
  · rename_i h; rw [UInt32.lt_iff_toNat_lt] at h; omega
def conflP (a b : Ins) : Bool := ((decide (a.addr ≠ b.addr) && decide (0 < lengthPI a)) && decide (0 < lengthPI b)) && decide (((mxU a.addr b.addr).toNat : Int) < min (endI a) (endI b))
def pairR (a b : Ins) : Rng := ⟨mnU a.addr b.addr, mxU a.addr b.addr⟩
def shareR (a b : Ins) : Rng := ⟨mxU a.addr b.addr, u32 (min (min (endI a) (endI b)) 4294967295)⟩
def inner (f : Ins → Ins → Rng) (a : Ins) (xs : List Ins) : List Rng := (xs.filter (conflP a)).map (f a)
def outer (f : Ins → Ins → Rng) (l : List Ins) (k : Nat) : List Rng := (List.range k).flatMap fun j => inner f (l.getD j default) (l.take j)
theorem outer_succ (f : Ins → Ins → Rng) (l : List Ins) (k : Nat) : outer f l (k + 1) = outer f l k ++ inner f (l.getD k default) (l.take k) := by
  unfold outer
  rw [List.range_succ, List.flatMap_append]; simp
theorem inner_yes {f : Ins → Ins → Rng} {a : Ins} {xs : List Ins} {k : Nat} (h : k < xs.length) (hc : conflP a (xs.getD k default) = true) : inner f a (xs.take (k + 1)) = inner f a (xs.take k) ++ [f a (xs.getD k default)] := by
  unfold inner
  rw [filter_take_pos h hc, List.map_append]; rfl
theorem inner_no {f : Ins → Ins → Rng} {a : Ins} {xs : List Ins} {k : Nat} (h : k < xs.length) (hc : conflP a (xs.getD k default) = false) : inner f a (xs.take (k + 1)) = inner f a (xs.take k) := by
  unfold inner
  rw [filter_take_neg h hc]
theorem inner_len (f : Ins → Ins → Rng) (a : Ins) (xs : List Ins) : (inner f a xs).length ≤ xs.length := by unfold inner; rw [List.length_map]; exact List.length_filter_le _ _
theorem outer_len (f : Ins → Ins → Rng) (l : List Ins) : ∀ k, (outer f l k).length ≤ k * l.length
  | 0 => by simp [outer]
  | k + 1 => by
    rw [outer_succ, List.length_append, Nat.add_mul]
    have h1 := outer_len f l k
    have h2 := inner_len f (l.getD k default) (l.take k)
    rw [List.length_take] at h2
    omega
theorem outer_le {f : Ins → Ins → Rng} {l : List Ins} (h : l.length ≤ 200) {k : Nat} (hk : k ≤ l.length) : (outer f l k).length ≤ 40000 := by
  have h1 := outer_len f l k
  have h2 : k * l.length ≤ 200 * 200 := Nat.mul_le_mul (by omega) h
  omega
def compF {α : Type} [DecidableEq α] : α → List α → List α
  | _, [] => []
  | x, y :: t => if y = x then compF x t else y :: compF y t
def compactP {α : Type} [DecidableEq α] : List α → List α
  | [] => []
  | x :: t => x :: compF x t
theorem compF_snoc {α : Type} [DecidableEq α] : ∀ (x : α) (l : List α) (y : α), compF x (l ++ [y]) = if y = (x :: l).getLast (by simp) then compF x l else compF x l ++ [y]
  | x, [], y => by simp only [List.nil_append, compF, List.getLast_singleton]; by_cases h : y = x <;> simp [h]
  | x, z :: t, y => by
    have ih1 := compF_snoc z t y
    have ih2 := compF_snoc x t y
    have e : (x :: z :: t).getLast (by simp) = (z :: t).getLast (by simp) := by simp
    rw [e]
    by_cases h : z = x
    · subst h
      simp only [List.cons_append, compF, if_true, ih1]
    · simp only [List.cons_append, compF, h, if_false, ih1]
      split <;> rfl
theorem compact_snoc {α : Type} [DecidableEq α] [Inhabited α] {l : List α} {k : Nat} (h0 : 0 < k) (h : k < l.length) : compactP (l.take (k + 1)) = if l.getD k default = l.getD (k - 1) default then compactP (l.take k) else compactP (l.take k) ++ [l.getD k default] := by
  rw [take_succ h]
  cases l with
  | nil => simp at h
  | cons x t =>
    obtain ⟨j, rfl⟩ : ∃ j, k = j + 1 := ⟨k - 1, by omega⟩
    simp only [List.take_succ_cons, List.cons_append, compactP]
    rw [compF_snoc]
    have e : (x :: t.take j).getLast (by simp) = (x :: t).getD (j + 1 - 1) default := by
      rw [List.getLast_eq_getElem]
      simp only [List.length_cons, List.length_take, Nat.add_sub_cancel]
      have hj : j ≤ t.length := by simp at h; omega
      simp only [Nat.min_eq_left hj]
      cases j with
      | zero => simp
      | succ j => simp [List.getD_eq_getElem?_getD, show j < t.length by omega]
    rw [e]
    split <;> rfl
/-- No two neighbours alike. -/
theorem compact_same {α : Type} [DecidableEq α] [Inhabited α] {l : List α} : ∀ {k : Nat}, k ≤ l.length → (∀ j, 0 < j → j < k → l.getD j default ≠ l.getD (j - 1) default) → compactP (l.take k) = l.take k
  | 0, _, _ => by simp [compactP]
  | k + 1, h, hne => by
    by_cases h0 : k = 0
    · subst h0
      cases l with
      | nil => simp at h
      | cons x t => simp [compactP, compF]
    · rw [compact_snoc (by omega) (by omega), if_neg (hne k (by omega) (by omega)), compact_same (by omega) (fun j a b => hne j a (by omega)), take_succ (by omega)]
def confP (l : List Ins) : List Rng := compactP (sortP (ltOf cmpPr) (outer pairR l l.length))
def sharP (l : List Ins) : List Rng := normalP (outer shareR l l.length)
def inK (l : List Ins) (a : UInt32) : Bool := l.any fun x => decide (x.addr = a)
def cntStep (out : List Ins) (i : Ins) : List Ins := if (!inK out i.addr && decide (errP i = 0)) = true then out ++ [i] else out
def cntL (l : List Ins) : List Ins := l.foldl cntStep []
def cntM (out : List Ins) : List (UInt32 × Bool) := out.map fun i => (i.addr, true)
theorem cntM_get (out : List Ins) (a : UInt32) : (mget (cntM out) a).getD false = inK out a := by
  induction out with
  | nil => rfl
  | cons x t ih =>
    unfold cntM at ih ⊢
    simp only [List.map_cons, mget, inK, List.any_cons]
    by_cases h : a = x.addr
    · simp [h]
    · have h' : ¬ x.addr = a := fun q => h q.symm
      rw [if_neg h, decide_eq_false h', Bool.false_or]; exact ih
theorem cntM_put {out : List Ins} {i : Ins} (h : inK out i.addr = false) : mput (cntM out) i.addr true = cntM (out ++ [i]) := by
  have : mget (cntM out) i.addr = none := by
    cases hg : mget (cntM out) i.addr with
    | none => rfl
    | some b =>
      exfalso
      have hm := mem_of_mget hg
      obtain ⟨x, hx, e⟩ := List.mem_map.1 hm
      have : inK out i.addr = true := List.any_eq_true.2 ⟨x, hx, by simp at e; simp [e.1]⟩
      rw [h] at this; cases this
  rw [mput_new this]
  simp [cntM]
theorem cnt_succ {l : List Ins} {k : Nat} (h : k < l.length) : cntL (l.take (k + 1)) = cntStep (cntL (l.take k)) (l.getD k default) := by
  unfold cntL; rw [take_succ h, List.foldl_append]; rfl
theorem cnt_len : ∀ (l out : List Ins), (l.foldl cntStep out).length ≤ out.length + l.length
  | [], out => by simp
  | i :: t, out => by
    have h1 := cnt_len t (cntStep out i)
    have h2 : (cntStep out i).length ≤ out.length + 1 := by unfold cntStep; split <;> simp
    simp only [List.foldl_cons, List.length_cons]; omega
theorem cntL_len (l : List Ins) : (cntL l).length ≤ l.length := by have := cnt_len l []; simpa [cntL] using this
def countP (l : List Ins) : List Ins := sortP (ltOf cmpA) (cntL l)
theorem countP_len (l : List Ins) : (countP l).length ≤ l.length := by unfold countP; rw [sortP_length swo_cmpA]; exact cntL_len l
def tgtStep (m : List (UInt32 × Bool)) (i : Ins) : List (UInt32 × Bool) := if (targetP i).2 = true then mput m (targetP i).1 true else m
def tgtM (l : List Ins) : List (UInt32 × Bool) := l.foldl tgtStep []
theorem tgt_succ {l : List Ins} {k : Nat} (h : k < l.length) : tgtM (l.take (k + 1)) = tgtStep (tgtM (l.take k)) (l.getD k default) := by
  unfold tgtM; rw [take_succ h, List.foldl_append]; rfl
def hasU (l : List UInt32) (a : UInt32) : Bool := l.any fun x => decide (a = x)
def grpP (ents : List UInt32) (tm : List (UInt32 × Bool)) (i : Ins) : Int := if hasU ents i.addr = true then 0 else if (mget tm i.addr).getD false = true then 1 else 2
def cmpG (ents : List UInt32) (tm : List (UInt32 × Bool)) (x y : Ins) : Int := cmpI (grpP ents tm x) (grpP ents tm y)
def keepStep (kept : List Ins) (i : Ins) : List Ins := if kept.any (conflP i) = true then kept else kept ++ [i]
def keepF (order : List Ins) : List Ins := order.foldl keepStep []
theorem keep_succ {l : List Ins} {k : Nat} (h : k < l.length) : keepF (l.take (k + 1)) = keepStep (keepF (l.take k)) (l.getD k default) := by
  unfold keepF; rw [take_succ h, List.foldl_append]; rfl
theorem keep_len : ∀ (l out : List Ins), (l.foldl keepStep out).length ≤ out.length + l.length
  | [], out => by simp
  | i :: t, out => by
    have h1 := keep_len t (keepStep out i)
    have h2 : (keepStep out i).length ≤ out.length + 1 := by unfold keepStep; split <;> simp
    simp only [List.foldl_cons, List.length_cons]; omega
theorem keepF_len (l : List Ins) : (keepF l).length ≤ l.length := by have := keep_len l []; simpa [keepF] using this
theorem keep_sub0 : ∀ (l out : List Ins) (x : Ins), x ∈ l.foldl keepStep out → x ∈ out ∨ x ∈ l
  | [], out, x, h => .inl h
  | i :: t, out, x, h => by
    rcases keep_sub0 t (keepStep out i) x h with h | h
    · unfold keepStep at h
      split at h
      · exact .inl h
      · rcases List.mem_append.1 h with h | h
        · exact .inl h
        · simp at h; subst h; exact .inr (.head _)
    · exact .inr (.tail _ h)
theorem keep_sub {l : List Ins} {x : Ins} (h : x ∈ keepF l) : x ∈ l := by
  rcases keep_sub0 l [] x h with h | h
  · cases h
  · exact h
def remP (l kept : List Ins) : List UInt32 := (l.filter fun i => !inK kept i.addr).map (·.addr)
def ordOf (g : Ins → Int) (l : List Ins) : List Ins := l.filter (fun i => decide (g i = 0)) ++ (l.filter (fun i => decide (g i = 1)) ++ l.filter (fun i => decide (g i = 2)))
theorem cmpI_lt (a b : Int) : cmpI a b < 0 ↔ a < b := by
  unfold cmpI
  split
  · rename_i h; simp [h]
  · split <;> simp_all
def ltG (g : Ins → Int) (x y : Ins) : Bool := decide (g x < g y)
theorem wo_ltG (g : Ins → Int) : WO (ltG g) where
  irr x := by simp [ltG]
  tr x y z h1 h2 := by simp only [ltG, decide_eq_true_eq] at *; omega
  ntr x y z h1 h2 := by simp only [ltG, decide_eq_false_iff_not] at *; omega
theorem eqv_ltG (g : Ins → Int) (z x : Ins) : eqv (ltG g) z x = decide (g x = g z) := by
  unfold eqv ltG
  by_cases h : g x = g z
  · simp [h]
  · rw [decide_eq_false h]
    by_cases c : g z < g x
    · simp [c]
    · have : g x < g z := by omega
      simp [c, this]
theorem grp_range (ents : List UInt32) (tm : List (UInt32 × Bool)) (i : Ins) : grpP ents tm i = 0 ∨ grpP ents tm i = 1 ∨ grpP ents tm i = 2 := by
  unfold grpP
  repeat' split
  all_goals simp
theorem ord_stab {g : Ins → Int} (hg : ∀ i, g i = 0 ∨ g i = 1 ∨ g i = 2) (l : List Ins) : Stab (ltG g) l (ordOf g l) ∧ (ordOf g l).Pairwise fun x y => ltG g y x = false := by
  refine ⟨⟨?_, fun z => ?_⟩, ?_⟩
  · induction l with
    | nil => exact List.Perm.refl _
    | cons x t ih =>
      rcases hg x with h | h | h
      · have e : ordOf g (x :: t) = x :: ordOf g t := by simp [ordOf, h]
        rw [e]; exact ih.cons x
      · have e : ordOf g (x :: t) = t.filter (fun i => decide (g i = 0)) ++ x :: (t.filter (fun i => decide (g i = 1)) ++ t.filter (fun i => decide (g i = 2))) := by simp [ordOf, h]
        rw [e]; exact (ih.cons x).trans List.perm_middle.symm
      · have e : ordOf g (x :: t) = (t.filter (fun i => decide (g i = 0)) ++ t.filter (fun i => decide (g i = 1))) ++ x :: t.filter (fun i => decide (g i = 2)) := by simp [ordOf, h]
        rw [e]
        refine (ih.cons x).trans ?_
        refine List.Perm.trans ?_ List.perm_middle.symm
        rw [List.append_assoc]; exact List.Perm.refl _
  · have e : (fun x => eqv (ltG g) z x) = fun x => decide (g x = g z) := by funext x; exact eqv_ltG g z x
    show l.filter (fun x => eqv (ltG g) z x) = (ordOf g l).filter (fun x => eqv (ltG g) z x)
    rw [e]
    unfold ordOf
    rw [List.filter_append, List.filter_append, List.filter_filter, List.filter_filter, List.filter_filter]
    have hn : ∀ c : Int, c ≠ g z → l.filter (fun x => decide (g x = g z) && decide (g x = c)) = [] := fun c hc => by
      rw [List.filter_eq_nil_iff]
      intro x _
      simp only [Bool.and_eq_true, decide_eq_true_eq, not_and]
      intro q1 q2; exact hc (q2.symm.trans q1)
    have hy : ∀ c : Int, c = g z → l.filter (fun x => decide (g x = g z) && decide (g x = c)) = l.filter (fun x => decide (g x = g z)) := fun c hc => by subst hc; simp
    rcases hg z with h | h | h
    · rw [hy 0 h.symm, hn 1 (by omega), hn 2 (by omega)]; simp
    · rw [hn 0 (by omega), hy 1 h.symm, hn 2 (by omega)]; simp
    · rw [hn 0 (by omega), hn 1 (by omega), hy 2 h.symm]; simp
  · have hc : ∀ c : Int, (l.filter (fun i => decide (g i = c))).Pairwise fun x y => ltG g y x = false := fun c => by
      rw [List.pairwise_iff_forall_sublist]
      intro a b hab
      have ha : a ∈ l.filter (fun i => decide (g i = c)) := hab.subset (by simp)
      have hb : b ∈ l.filter (fun i => decide (g i = c)) := hab.subset (by simp)
      have := of_decide_eq_true (List.mem_filter.1 ha).2
      have := of_decide_eq_true (List.mem_filter.1 hb).2
      simp only [ltG, decide_eq_false_iff_not]; omega
    have hx : ∀ (c d : Int), c ≤ d → ∀ x ∈ l.filter (fun i => decide (g i = c)), ∀ y ∈ l.filter (fun i => decide (g i = d)), ltG g y x = false := fun c d h x hx y hy => by
      have := of_decide_eq_true (List.mem_filter.1 hx).2
      have := of_decide_eq_true (List.mem_filter.1 hy).2
      simp only [ltG, decide_eq_false_iff_not]; omega
    unfold ordOf
    refine List.pairwise_append.2 ⟨hc 0, List.pairwise_append.2 ⟨hc 1, hc 2, hx 1 2 (by omega)⟩, fun x h1 y h2 => ?_⟩
    rcases List.mem_append.1 h2 with h2 | h2
    · exact hx 0 1 (by omega) x h1 y h2
    · exact hx 0 2 (by omega) x h1 y h2
/-- The stable sort by groups. -/
theorem ord_of {g : Ins → Int} (hg : ∀ i, g i = 0 ∨ g i = 1 ∨ g i = 2) {l c : List Ins} (h1 : Stab (ltG g) l c) (h2 : c.Pairwise fun x y => ltG g y x = false) : c = ordOf g l := by
  obtain ⟨k1, k2⟩ := ord_stab hg l
  exact stab_uniq (wo_ltG g) _ _ (h1.symm.trans k1) h2 k2
theorem cnt_sub : ∀ (l out : List Ins) (x : Ins), x ∈ l.foldl cntStep out → x ∈ out ∨ x ∈ l
  | [], out, x, h => .inl h
  | i :: t, out, x, h => by
    rcases cnt_sub t (cntStep out i) x h with h | h
    · unfold cntStep at h
      split at h
      · rcases List.mem_append.1 h with h | h
        · exact .inl h
        · simp at h; subst h; exact .inr (.head _)
      · exact .inl h
    · exact .inr (.tail _ h)
theorem countP_sub {l : List Ins} {x : Ins} (h : x ∈ countP l) : x ∈ l := by
  have h1 := (sortP_perm swo_cmpA (cntL l)).subset h
  rcases cnt_sub l [] x h1 with h | h
  · cases h
  · exact h
theorem ord_len {g : Ins → Int} (hg : ∀ i, g i = 0 ∨ g i = 1 ∨ g i = 2) (l : List Ins) : (ordOf g l).length = l.length := (ord_stab hg l).1.len
theorem ord_sub {g : Ins → Int} {l : List Ins} {x : Ins} (h : x ∈ ordOf g l) : x ∈ l := by
  unfold ordOf at h
  simp only [List.mem_append, List.mem_filter] at h
  rcases h with h | h | h <;> exact h.1
theorem rem_yes {l kept : List Ins} {k : Nat} (h : k < l.length) (hc : inK kept (l.getD k default).addr = false) : remP (l.take (k + 1)) kept = remP (l.take k) kept ++ [(l.getD k default).addr] := by
  unfold remP
  rw [filter_take_pos h (by rw [hc]; rfl), List.map_append]; rfl
theorem rem_no {l kept : List Ins} {k : Nat} (h : k < l.length) (hc : inK kept (l.getD k default).addr = true) : remP (l.take (k + 1)) kept = remP (l.take k) kept := by
  unfold remP
  rw [filter_take_neg h (by rw [hc]; rfl)]
theorem rem_len (l kept : List Ins) : (remP l kept).length ≤ l.length := by unfold remP; rw [List.length_map]; exact List.length_filter_le _ _
structure ResV where
  kept : List Ins
  ents : List UInt32
  unk : List UInt32
  bad : List UInt32
  rem : List UInt32
def resP (ins : List Ins) (ents unk bad : List UInt32) : ResV :=
  let l := countP ins
  let kept := sortP (ltOf cmpA) (keepF (ordOf (grpP ents (tgtM l)) l))
  ⟨kept, ents.filter (inK kept), unk.filter (inK kept), bad, remP l kept⟩
end Go.HL
namespace Go.HL
open Go Go.RowKit
variable {P : Program} {N : Nat} {F : Bg} {L : List Ent} {M : Fr} {dst : Option Tmp} {ty : TypeId} {pos : String} {after : Array Edge} {g : Option (Nat × Bool)}
theorem QS.sliceRow {α : Type} {E : Enc α} {xs : List α} {x : Operand} {lo hi : Option Operand} {lv hv : Option (IntKind × Int)} {t e : TypeId} {V : Value} {T : TypeId} {k : Nat} (hx : opv M x = some V) (hs : rowE V T E xs ∈ L)
    (hlo : lo.map (opv M) = lv.map fun p => some (.int p.1 p.2)) (hhi : hi.map (opv M) = hv.map fun p => some (.int p.1 p.2))
    (ht : P.underlying t = some (.slice e)) (hz : ∀ w, (sizeOf e).run P w = .ok k w) (hk : k = E.k) (h0 : 0 ≤ loOf lv) (h1 : loOf lv ≤ hiOf xs.length hv) (h2 : hiOf xs.length hv ≤ xs.length) :
    QS P N F L M ⟨dst, .slice t x lo hi none, ty, pos, after, g⟩ (HL.resl V (loOf lv).toNat (hiOf xs.length hv).toNat E.k) :=
  QS.of_run fun A w ha hw => by
    obtain ⟨a, c, rfl, hc1, hc2, _⟩ := (hw.row hs).shape
    have e1 : lo.map A.eval = lv.map fun p => Value.int p.1 p.2 := by
      cases lo with
      | none => cases lv <;> simp_all
      | some o =>
        cases lv with
        | none => simp at hlo
        | some p => simp only [Option.map_some, Option.some.injEq] at hlo ⊢; exact ha.eval hlo
    have e2 : hi.map A.eval = hv.map fun p => Value.int p.1 p.2 := by
      cases hi with
      | none => cases hv <;> simp_all
      | some o =>
        cases hv with
        | none => simp at hhi
        | some p => simp only [Option.map_some, Option.some.injEq] at hhi ⊢; exact ha.eval hhi
    have hr := sliceRun (P := P) ht hz w (a := a) (n := xs.length) (c := c) (fun w => boundsRun (P := P) w h0 h1 (by omega) hc1)
    subst hk
    simp only [execOp, ha.eval hx, e1, e2, Option.map_none, Sem.run_bind, hr, Result.andThen_ok, Sem.run_pure]
    rfl
end Go.HL
namespace Go.HL
open Go Go.RowKit
section
variable {P : Program} {ops : Array Oper} {Q : Exit → Act → World → Prop} {N : Nat} {F : Bg} {L : List Ent} {M : Fr} {dst : Option Tmp} {ty : TypeId} {pos : String} {after : Array Edge} {g : Option (Nat × Bool)} {rest : List Oper} {d : Nat}
/-- An element's address in an array behind a pointer. -/
theorem QS.idxArr {x y : Operand} {t e : TypeId} {b o n k : Nat} {kk : IntKind} {i : Int} (hx : opv M x = some (.pointer (some ⟨b, o, none⟩))) (hy : opv M y = some (.int kk i)) (ht : P.underlying t = some (.array n e)) (hz : ∀ w, (sizeOf e).run P w = .ok k w)
    (hi : 0 ≤ i ∧ i < n) : QS P N F L M ⟨dst, .indexAddr t x y, ty, pos, after, g⟩ (.pointer (some ⟨b, o + i.toNat * k, none⟩)) :=
  QS.of_run fun A w ha hw => by
    simp [execOp, ha.eval hx, ha.eval hy, Instr.indexAt, asIntOf, run_underlying ht, Instr.sureAddr, hz, hi.1, hi.2, Addr.add_lit]
theorem QS.min3 {x y z : Operand} {ts : Array TypeId} {k : IntKind} {m n p : Int} (hx : opv M x = some (.int k m)) (hy : opv M y = some (.int k n)) (hz : opv M z = some (.int k p)) :
    QS P N F L M ⟨dst, .call { callee := .builtin .min, args := #[x, y, z], argTypes := ts }, ty, pos, after, g⟩ (.int k (min (min m n) p)) :=
  QS.of_run fun A w ha hw => by
    have h1 : (if n < m then n else m) = min m n := by omega
    have h2 : (if p < min m n then p else min m n) = min (min m n) p := by omega
    simp [execOp, resolve, invoke, builtin, ha.eval hx, ha.eval hy, ha.eval hz, Builtin.min_, Builtin.min2, h1, h2]
/-- Pairs compared. -/
theorem QS.eqlP {x y : Operand} {t u e : TypeId} {p q : Rng} (hx : opv M x = some (.agg (encRng.enc p).toArray)) (hy : opv M y = some (.agg (encRng.enc q).toArray))
    (ht : P.underlying t = some (.array 2 e)) (he : P.underlying e = some (.int .u32)) (hz : ∀ w, (sizeOf e).run P w = .ok 1 w) (hag : ∀ w, (isAgg e).run P w = .ok false w) (hg : P.eqGuardType P.depth t = false) :
    QS P N F L M ⟨dst, .binOp .eql t x y u, ty, pos, after, g⟩ (.bool (decide (p = q))) := by
  have h := QS.eqlA2 (P := P) (N := N) (F := F) (L := L) (M := M) (dst := dst) (u := u) (ty := ty) (pos := pos) (after := after) (g := g) (x := x) (y := y) (a := p.lo.toNat) (b := p.hi.toNat) (c := q.lo.toNat) (d := q.hi.toNat) hx hy ht he hz hag hg
  have e1 : decide (((p.lo.toNat : Int) = q.lo.toNat) ∧ ((p.hi.toNat : Int) = q.hi.toNat)) = decide (p = q) := by
    congr 1
    apply propext
    constructor
    · rintro ⟨h1, h2⟩; exact rng_ext (UInt32.toNat_inj.1 (by omega)) (UInt32.toNat_inj.1 (by omega))
    · rintro rfl; exact ⟨rfl, rfl⟩
  rw [e1] at h; exact h
theorem QS.neqOf {x y : Operand} {t u : TypeId} {V W : Array Value} {c : Bool} (hx : opv M x = some (.agg V)) (hy : opv M y = some (.agg W)) (hG : ∀ w, (eqGuard .neq t x y (.agg V) (.agg W)).run P w = .ok () w) (h : ∀ w, (Op.equal t (.agg V) (.agg W)).run P w = .ok c w) :
    QS P N F L M ⟨dst, .binOp .neq t x y u, ty, pos, after, g⟩ (.bool (!c)) :=
  QS.of_run fun A w ha _ => by simp [execOp, ha.eval hx, ha.eval hy, hG, binOp, h]
theorem equalP_run {t e : TypeId} {p q : Rng} (ht : P.underlying t = some (.array 2 e)) (he : P.underlying e = some (.int .u32)) (hz : ∀ w, (sizeOf e).run P w = .ok 1 w) (hag : ∀ w, (isAgg e).run P w = .ok false w) (w : World) :
    (Op.equal t (.agg (encRng.enc p).toArray) (.agg (encRng.enc q).toArray)).run P w = .ok (decide (p = q)) w := by
  have e1 : decide (((p.lo.toNat : Int) = q.lo.toNat) ∧ ((p.hi.toNat : Int) = q.hi.toNat)) = decide (p = q) := by
    congr 1
    apply propext
    constructor
    · rintro ⟨h1, h2⟩; exact rng_ext (UInt32.toNat_inj.1 (by omega)) (UInt32.toNat_inj.1 (by omega))
    · rintro rfl; exact ⟨rfl, rfl⟩
  rw [← e1]
  show (Op.equal t (.agg #[.int .u32 p.lo.toNat, .int .u32 p.hi.toNat]) (.agg #[.int .u32 q.lo.toNat, .int .u32 q.hi.toNat])).run P w = _
  unfold Op.equal
  show (Op.equalIn (9998 + 1 + 1) t _ _).run P w = _
  have r : ∀ xs : Array Value, ∀ v i, xs[i]? = some v → (part e xs i).run P w = .ok v w := fun xs v i h => part_word hag h
  have p0 := fun (p q : Int) => r #[.int .u32 p, .int .u32 q] _ 0 rfl
  have p1 := fun (p q : Int) => r #[.int .u32 p, .int .u32 q] _ 1 rfl
  rw [Op.equalIn]
  simp only [Sem.run_bind, run_underlying ht, Result.andThen_ok, hz, Std.Legacy.Range.forIn_eq_forIn_range', Std.Legacy.Range.size]
  simp [List.range', p0, p1, run_equalIn_int w _ _ _ _ _ _ he]
  by_cases h1 : (p.lo.toNat : Int) = q.lo.toNat <;> by_cases h2 : (p.hi.toNat : Int) = q.hi.toNat <;> simp [h1, h2]
theorem QS.neqP {x y : Operand} {t u e : TypeId} {p q : Rng} (hx : opv M x = some (.agg (encRng.enc p).toArray)) (hy : opv M y = some (.agg (encRng.enc q).toArray))
    (ht : P.underlying t = some (.array 2 e)) (he : P.underlying e = some (.int .u32)) (hz : ∀ w, (sizeOf e).run P w = .ok 1 w) (hag : ∀ w, (isAgg e).run P w = .ok false w) (hg : P.eqGuardType P.depth t = false) :
    QS P N F L M ⟨dst, .binOp .neq t x y u, ty, pos, after, g⟩ (.bool (!decide (p = q))) :=
  QS.neqOf hx hy (fun w => eqGuard_agg w hg) (fun w => equalP_run ht he hz hag w)
theorem resl_row {α : Type} {E : Enc α} {xs : List α} {V : Value} {T : TypeId} {w : World} (h : (rowE V T E xs).holds w) {l m : Nat} (hl : l < m) (hm : m ≤ xs.length) :
    ∃ gb cap, V = .slice (some ⟨gb, 0, none⟩) xs.length cap ∧ HL.resl V l m E.k = .slice (some ⟨gb, l * E.k, none⟩) (m - l) (cap - l) := by
  have hV' : RowOK V T E xs (V.ownBlock.bind (w.heap[·]?)) := h
  rcases hV' with ⟨rfl, rfl⟩ | ⟨gb, cap, cur, rfl, ho, k1, k2, k3, k4⟩
  · simp at hm; omega
  · refine ⟨gb, cap, rfl, ?_⟩
    have : cap ≠ l := by omega
    simp only [HL.resl, this, if_false, Option.map_some, Addr.add_lit, Nat.zero_add]
theorem QS.idxResl {α : Type} {E : Enc α} {xs : List α} {x y : Operand} {t e T : TypeId} {V : Value} {k l m : Nat} {kk : IntKind} {i : Int} (hx : opv M x = some (HL.resl V l m E.k)) (hy : opv M y = some (.int kk i)) (hs : rowE V T E xs ∈ L)
    (ht : P.underlying t = some (.slice e)) (hz : ∀ w, (sizeOf e).run P w = .ok k w) (hk : k = E.k) (hi : 0 ≤ i ∧ (l : Int) + i < m) (hm : m ≤ xs.length) :
    QS P N F L M ⟨dst, .indexAddr t x y, ty, pos, after, g⟩ (.pointer (some ⟨bk V, ofs V + (l + i.toNat) * E.k, none⟩)) :=
  QS.of_run fun A w ha hw => by
    obtain ⟨gb, cap, hV, hr⟩ := resl_row (hw.ent _ hs) (l := l) (m := m) (by omega) hm
    have h := indexAt_run (P := P) (V := V) (c := cap - l) (n := m - l) (kk := kk) (i := i) ht hz w (by omega) gb (l * E.k) rfl
    subst hk
    rw [hr] at hx
    have e1 : bk V = gb := by rw [hV]; rfl
    have e2 : ofs V = 0 := by rw [hV]; rfl
    rw [e1, e2]
    simp [execOp, ha.eval hx, ha.eval hy, h, Nat.add_mul]
theorem QS.lenResl {α : Type} {E : Enc α} {xs : List α} {x : Operand} {t e T : TypeId} {V : Value} {l m k : Nat} (hx : opv M x = some (HL.resl V l m k)) (hs : rowE V T E xs ∈ L) (ht : P.underlying t = some (.slice e)) :
    QS P N F L M ⟨dst, .call { callee := .builtin .len, args := #[x], argTypes := #[t] }, ty, pos, after, g⟩ (.int .i64 ((m - l : Nat) : Int)) :=
  QS.lenOf (a := none) (c := 0) hx (fun w hw => by
    have hV' : RowOK V T E xs (V.ownBlock.bind (w.heap[·]?)) := hw.ent _ hs
    rcases hV' with ⟨rfl, rfl⟩ | ⟨gb, cap, cur, rfl, _⟩
    · exact ⟨_, _, rfl⟩
    · exact ⟨_, _, rfl⟩) ht
theorem QS.sliceFrom {α : Type} {E : Enc α} {xs : List α} {x y : Operand} {t e T : TypeId} {V : Value} {k n : Nat} (hx : opv M x = some V) (hs : rowE V T E xs ∈ L) (hy : opv M y = some (.int .i64 (n : Nat)))
    (ht : P.underlying t = some (.slice e)) (hz : ∀ w, (sizeOf e).run P w = .ok k w) (hk : k = E.k) (hn : n ≤ xs.length) : QS P N F L M ⟨dst, .slice t x (some y) none none, ty, pos, after, g⟩ (HL.resl V n xs.length E.k) :=
  QS.sliceRow (lv := some (.i64, (n : Int))) (hv := none) hx hs (by simp [hy]) rfl ht hz hk (by simp [loOf]) (by simp [loOf, hiOf]; omega) (by simp [hiOf])
theorem QS.sliceTo {α : Type} {E : Enc α} {xs : List α} {x y : Operand} {t e T : TypeId} {V : Value} {k n : Nat} (hx : opv M x = some V) (hs : rowE V T E xs ∈ L) (hy : opv M y = some (.int .i64 (n : Nat)))
    (ht : P.underlying t = some (.slice e)) (hz : ∀ w, (sizeOf e).run P w = .ok k w) (hk : k = E.k) (hn : n ≤ xs.length) : QS P N F L M ⟨dst, .slice t x none (some y) none, ty, pos, after, g⟩ (HL.resl V 0 n E.k) :=
  QS.sliceRow (lv := none) (hv := some (.i64, (n : Int))) hx hs rfl (by simp [hy]) ht hz hk (by simp [loOf]) (by simp [loOf, hiOf]) (by simp [hiOf]; omega)
theorem rowE.resl0 {α : Type} {E : Enc α} {xs : List α} {V : Value} {T : TypeId} {w : World} (h : (rowE V T E xs).holds w) {k : Nat} (hk : k ≤ xs.length) : (rowE (HL.resl V 0 k E.k) T E (xs.take k)).holds w ∧ (HL.resl V 0 k E.k).ownBlock = V.ownBlock := by
  have hV' : RowOK V T E xs (V.ownBlock.bind (w.heap[·]?)) := h
  rcases hV' with ⟨rfl, rfl⟩ | ⟨gb, cap, cur, rfl, ho, k1, k2, k3, k4⟩
  · have : k = 0 := by simpa using hk
    subst this
    exact ⟨.inl ⟨rfl, rfl⟩, rfl⟩
  · have e : HL.resl (.slice (some ⟨gb, 0, none⟩) xs.length cap) 0 k E.k = .slice (some ⟨gb, 0, none⟩) k cap := by
      simp only [HL.resl, Nat.zero_mul, Nat.sub_zero]
      split
      · rfl
      · simp [Addr.add_lit]
    rw [e]
    refine ⟨.inr ⟨gb, cap, cur, ?_, ho, ?_, k2, k3, ?_⟩, rfl⟩
    · rw [List.length_take, Nat.min_eq_left hk]
    · rw [List.length_take]; omega
    · rw [List.length_take, Nat.min_eq_left hk]
      have e2 : k * E.k ≤ xs.length * E.k := Nat.mul_le_mul_right _ hk
      have : cur.toList.take (k * E.k) = (cur.toList.take (xs.length * E.k)).take (k * E.k) := by rw [List.take_take, Nat.min_eq_left e2]
      rw [this, k4]
      have h3 : xs.flatMap E.enc = (xs.take k).flatMap E.enc ++ (xs.drop k).flatMap E.enc := by rw [← List.flatMap_append, List.take_append_drop]
      have h4 : ((xs.take k).flatMap E.enc).length = k * E.k := by rw [flatMap_length, List.length_take, Nat.min_eq_left hk]
      rw [h3, ← h4, List.take_left]
/-- A call that hands back one's own row as it was, or a new one in its place. -/
theorem Tr.callReRow {α : Type} {E : Enc α} {l l' : List α} {V : Value} {T : TypeId} {f : FuncId} {xs : List Operand} {vs : List Value} {ts : Array TypeId} {L1 : List Ent} (hx : opvs M xs = some vs)
    (he : ∀ (args : Array Value) (w : World), (callFunc f args).run P w = .ok (.enter f args) w) (hV : Del (rowE V T E l) L L1)
    (hc : ∀ w, HpOK F L w → Calls P f vs.toArray w fun e w' => ∃ V', e = .returned V' ∧ Ext w w' ∧ ((V' = V ∧ l' = l) ∨ NewRow w w' T E l' V')) (hd : Nat.ble (d + 1) N = true)
    (K : ∀ V', Tr N F (rowE V' T E l' :: L1) ((d, V') :: M) (wpList P ops Q rest)) :
    Tr N F L M (wpList P ops Q (⟨some d, .call { callee := .value (.func f), args := xs.toArray, argTypes := ts }, ty, pos, after, none⟩ :: rest)) := by
  intro a w ha hw
  refine wpList_plain rfl fun K' hK => ?_
  have hr : (execOp a.eval ⟨some d, .call { callee := .value (.func f), args := xs.toArray, argTypes := ts }, ty, pos, after, none⟩).run P w = .ok (.enter f vs.toArray) w := by
    have := ha.evals hx
    simp [execOp, resolve, Deferred.ofValue, Act.eval, invoke, he, this]
  unfold Oper.wp
  rw [hr]
  refine (hc w hw).mono fun e w' ⟨V', h1, h2, h3⟩ => ?_
  subst h1
  refine hK _ _ (K V' _ _ (ha.put (Nat.le_of_ble_eq_true hd)) ?_)
  have hf := hw.front hV
  rcases h3 with ⟨rfl, rfl⟩ | h3
  · exact hf.grow h2
  · exact (hf.newRow h2 h3).mem (List.Sublist.cons_cons _ (List.sublist_cons_self _ _))
theorem zeroCells_toList (z : Array Value) : ∀ n, (Builtin.zeroCells z n).toList = (List.replicate n z.toList).flatten
  | 0 => by simp [Builtin.zeroCells]
  | n + 1 => by
    have ih := zeroCells_toList z n
    rw [List.replicate_succ', List.flatten_append, ← ih]
    simp only [Builtin.zeroCells, Array.toList_map, Array.toList_range, Nat.add_mul, Nat.one_mul, List.range_add, List.map_append, List.map_map, List.flatten_cons, List.flatten_nil, List.append_nil]
    congr 1
    apply List.ext_getElem (by simp)
    intro i h1 h2
    simp only [List.length_map, List.length_range] at h1
    simp [Nat.mul_add_mod_self_right, Nat.mod_eq_of_lt h1, h1]
theorem flat_replicate {α : Type} (E : Enc α) (z : α) : ∀ n, (List.replicate n z).flatMap E.enc = (List.replicate n (E.enc z)).flatten
  | 0 => rfl
  | n + 1 => by rw [List.replicate_succ, List.replicate_succ, List.flatMap_cons, List.flatten_cons, flat_replicate E z n]
/-- clear(s[k:]) of one's own slice. -/
theorem Tr.clearResl {α : Type} {E : Enc α} {xs : List α} (z : α) {x : Operand} {V zv : Value} {t e : TypeId} {k kk : Nat} {L' : List Ent} {dst : Option Tmp} (hx : opv M x = some (HL.resl V k xs.length E.k)) (hput : Put (rowE V e E xs) (rowE V e E (xs.take k ++ List.replicate (xs.length - k) z)) L L')
    (hk : k < xs.length) (ht : P.underlying t = some (.slice e)) (hz : ∀ w, (zeroValue e).run P w = .ok zv w) (hzc : zv.cells.toList = E.enc z) (hk0 : kk = E.k) (hdst : dst = none)
    (K : Tr N F L' M (wpList P ops Q rest)) : Tr N F L M (wpList P ops Q (⟨dst, .call { callee := .builtin .clear, args := #[x], argTypes := #[t] }, ty, pos, after, none⟩ :: rest)) := by
  subst hdst
  intro a w ha hw
  refine wpList_plain rfl fun K' hK => ?_
  have hV := hw.ent _ hput.mem
  obtain ⟨gb, cap, hVe, hr⟩ := resl_row hV hk (Nat.le_refl _)
  have hV' : RowOK V e E xs (V.ownBlock.bind (w.heap[·]?)) := hV
  rcases hV' with ⟨rfl, rfl⟩ | ⟨gb', cap', cur, hVe', ho, k1, k2, k3, k4⟩
  · simp at hk
  · rw [hVe] at hVe'
    injection hVe' with q1 q2 q3
    injection q1 with q1
    injection q1 with q1
    subst q1 q3
    have ho' : w.heap[gb]? = some (.cells cur e (0, 0)) := by rw [hVe] at ho; exact ho
    obtain ⟨m, hm⟩ : ∃ m, xs.length - k = m + 1 := ⟨xs.length - k - 1, by omega⟩
    have hvs : (Builtin.zeroCells zv.cells (m + 1)).toList = (List.replicate (m + 1) z).flatMap E.enc := by rw [zeroCells_toList, hzc, flat_replicate]
    have hlen : ((List.replicate (m + 1) z).flatMap E.enc).length = (m + 1) * E.k := by rw [flatMap_length, List.length_replicate]
    have hkm : k * E.k + (m + 1) * E.k = xs.length * E.k := by rw [← Nat.add_mul, ← hm]; congr 1; omega
    have hxc : xs.length * E.k ≤ cap * E.k := Nat.mul_le_mul_right _ k1
    have hst := run_storeCells_at P gb (k * E.k) e ((List.replicate (m + 1) z).flatMap E.enc) 0 cur w ho' (by rw [hlen]; omega) (fun v hv => by
      obtain ⟨y, _, hy⟩ := List.mem_flatMap.1 hv
      exact E.one y v hy)
    rw [Nat.add_zero] at hst
    have hrun : (Builtin.clear_ #[t] ty #[HL.resl V k xs.length E.k]).run P w = .ok (.tuple #[]) (w.setRow gb (cur.toList.take (k * E.k) ++ (List.replicate (m + 1) z).flatMap E.enc ++ cur.toList.drop (k * E.k + ((List.replicate (m + 1) z).flatMap E.enc).length)).toArray) := by
      rw [hr, hm]
      simp only [Builtin.clear_]
      simp [run_underlying ht, hz, hvs, hst, Result.andThen]
    unfold Oper.wp execOp
    simp only [resolve, invoke, builtin, Sem.run_bind, Sem.run_pure, Result.andThen_ok, List.map_toArray, List.map_cons, List.map_nil, ha.eval hx, hrun]
    refine hK _ _ (K _ _ ha (hw.mut hput ⟨rfl, rfl, rfl, by simp, Nat.le_refl _, fun j hj hne => setRow_other w gb j _ (fun q => hne (by rw [hVe, q]; rfl))⟩ ?_))
    refine .inr ⟨gb, cap, (cur.toList.take (k * E.k) ++ (List.replicate (m + 1) z).flatMap E.enc ++ cur.toList.drop (k * E.k + ((List.replicate (m + 1) z).flatMap E.enc).length)).toArray, ?_, ?_, ?_, k2, ?_, ?_⟩
    · rw [hVe, List.length_append, List.length_take, List.length_replicate]; congr 1; omega
    · rw [hVe]; exact setRow_heap w gb _ _ e (0, 0) ho'
    · rw [List.length_append, List.length_take, List.length_replicate]; omega
    · rw [List.size_toArray, List.length_append, List.length_append, List.length_take, List.length_drop, hlen, Array.length_toList]; omega
    · rw [hm, List.length_append, List.length_take, List.length_replicate, Nat.min_eq_left (by omega), Nat.add_mul, List.flatMap_append]
      have e1 : cur.toList.take (k * E.k) = (xs.take k).flatMap E.enc := by
        have e2 : k * E.k ≤ xs.length * E.k := Nat.mul_le_mul_right _ (by omega)
        have : cur.toList.take (k * E.k) = (cur.toList.take (xs.length * E.k)).take (k * E.k) := by rw [List.take_take, Nat.min_eq_left e2]
        rw [this, k4]
        have h3 : xs.flatMap E.enc = (xs.take k).flatMap E.enc ++ (xs.drop k).flatMap E.enc := by rw [← List.flatMap_append, List.take_append_drop]
        have h4 : ((xs.take k).flatMap E.enc).length = k * E.k := by rw [flatMap_length, List.length_take, Nat.min_eq_left (by omega)]
        rw [h3, ← h4, List.take_left]
      have e5 : (cur.toList.take (k * E.k)).length = k * E.k := by rw [e1, flatMap_length, List.length_take, Nat.min_eq_left (by omega)]
      rw [← hlen, List.append_assoc]
      show ((cur.toList.take (k * E.k) ++ _).take _) = _
      rw [show k * E.k + ((List.replicate (m + 1) z).flatMap E.enc).length = (cur.toList.take (k * E.k) ++ (List.replicate (m + 1) z).flatMap E.enc).length by rw [List.length_append, e5], ← List.append_assoc, List.take_left, e1]
end
end Go.HL
