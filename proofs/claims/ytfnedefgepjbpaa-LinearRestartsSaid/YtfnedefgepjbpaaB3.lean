/- Own rules and walks, part 3. -/
import Derived.Test.YtfnedefgepjbpaaB2
set_option linter.unusedSimpArgs false
set_option linter.unusedVariables false
set_option linter.unusedSectionVars false
namespace Go.Proofs.Ytfnedefgepjbpaa
open Go Go.HL Go.RowKit
set_option maxRecDepth 100000 in
set_option maxHeartbeats 2000000 in
theorem large11_any (l : List SecV) (V : Value) (w : World) (hV : Sl (hp w) encSec l V) (hz : ∀ s ∈ l, s.data.length ≤ 140737488351232) :
    Calls Try.prog 9 #[V] w (fun e w' => e = .returned (.bool (larg11 l)) ∧ Ext w w') := by
  have hV' : Sl (Bg.of w).blk encSec l V := hV
  have hlen := hV.len_le
  refine enter Try.func9 rfl Try.ntmps9 rfl ?_
  refine Tr.seq ?_
  refine Tr.region ?_
  refine Tr.q (QS.assign rfl) rfl ?_
  refine Tr.nil ?_
  refine Tr.thenN ?_
  refine Tr.seq ?_
  refine Tr.seq ?_
  refine Tr.region ?_
  refine Tr.q (QS.move rfl) rfl ?_
  refine Tr.q (QS.len rfl (by assumption) Try.underlying22) rfl ?_
  refine Tr.q (QS.gtr rfl rfl) rfl ?_
  refine Tr.nil ?_
  refine Tr.thenN ?_
  refine Tr.cond rfl (fun h1 => ?_) (fun h1 => ?_)
  · try simp only [bs] at h1
    refine Tr.seq ?_
    refine Tr.region ?_
    refine Tr.q (QS.assign rfl) rfl ?_
    refine Tr.nil ?_
    refine Tr.thenN ?_
    refine Tr.ret ?_
    refine Tr.thenR ?_
    refine Tr.ret1 Try.results9 rfl (fun w' hw => ?_)
    exact ⟨by rw [larg11, decide_eq_true (show 20 < l.length by omega)]; rfl, hw.below (Bg.le.refl _)⟩
  · try simp only [bs] at h1
    refine Tr.skip ?_
    refine Tr.thenN ?_
    refine Tr.seq ?_
    refine Tr.region ?_
    refine Tr.q (QS.assign rfl) rfl ?_
    refine Tr.nil ?_
    refine Tr.thenN ?_
    refine Tr.seq ?_
    refine Tr.seq ?_
    refine Tr.region ?_
    refine Tr.q (QS.assign rfl) rfl ?_
    refine Tr.nil ?_
    refine Tr.thenN ?_
    refine Tr.block ?_
    refine Tr.loop (ι := Nat) (fun k => k ≤ l.length ∧ totB (l.take k) ≤ 20000) (fun _ => _) (fun k => []) (fun k => [(4, .int .i64 (k : Nat)), (3, .int .i64 ((totB (l.take k) : Nat) : Int))]) (fun k => l.length - k) 0 ⟨Nat.zero_le _, by simp [totB]⟩ (.cons (by first | rfl | exact lookI rfl (by omega) | exact lookI rfl (by simp) | exact lookB rfl (by simp)) (.cons (by first | rfl | exact lookI rfl (by omega) | exact lookI rfl (by simp) | exact lookB rfl (by simp)) Front.nil)) (by repeat' (first | exact Pick.nil _ | exact Del.here _ | apply Pick.cons | apply Del.there)) rfl (fun k hi m hm => ?_)
    replace hi : k ≤ l.length ∧ totB (l.take k) ≤ 20000 := hi
    replace hm : m = l.length - k := hm
    change Tr _ _ [] ([(4, .int .i64 (k : Nat)), (3, .int .i64 ((totB (l.take k) : Nat) : Int))] ++ _) _
    obtain ⟨hk1, hk2⟩ := hi
    have hbk : k < l.length → (l.getD k default).data.length ≤ 140737488351232 := fun q => hz _ (mem_getD q)
    have hts : k < l.length → totB (l.take (k + 1)) = totB (l.take k) + (l.getD k default).data.length := fun q => totB_succ q
    have htk := totB_take l (k + 1)
    refine Tr.seq ?_
    refine Tr.seq ?_
    refine Tr.region ?_
    refine Tr.q (QS.move rfl) rfl ?_
    refine Tr.q (QS.move rfl) rfl ?_
    refine Tr.q (QS.len rfl (by assumption) Try.underlying22) rfl ?_
    refine Tr.q (QS.lss rfl rfl) rfl ?_
    refine Tr.nil ?_
    refine Tr.thenN ?_
    refine Tr.cond rfl (fun h2 => ?_) (fun h2 => ?_)
    · try simp only [bs] at h2
      refine Tr.skip ?_
      refine Tr.thenN ?_
      refine Tr.seq ?_
      refine Tr.block ?_
      refine Tr.seq ?_
      refine Tr.region ?_
      refine Tr.q (QS.move rfl) rfl ?_
      refine Tr.q (QS.move rfl) rfl ?_
      refine Tr.q (QS.move rfl) rfl ?_
      refine Tr.q (QS.idxN rfl rfl (by assumption) Try.underlying22 Try.sizeOf59 (by rfl) (by omega)) rfl ?_
      refine Tr.q (QS.fieldAddr (off := 2) (ft := 54) rfl Try.underlying59 rfl rfl Try.sizeOf54 (by decide)) rfl ?_
      refine Tr.q (QS.elF rfl (by assumption) Try.isAgg54 (by omega) (by rfl)) rfl ?_
      refine Tr.q (QS.lenNil rfl Try.underlying54) rfl ?_
      refine Tr.q (QS.addI rfl rfl (by omega)) rfl ?_
      refine Tr.q (QS.assign rfl) rfl ?_
      refine Tr.nil ?_
      refine Tr.thenN ?_
      refine Tr.seq ?_
      refine Tr.region ?_
      refine Tr.q (QS.move rfl) rfl ?_
      refine Tr.q (QS.gtr rfl rfl) rfl ?_
      refine Tr.nil ?_
      refine Tr.thenN ?_
      refine Tr.cond rfl (fun h3 => ?_) (fun h3 => ?_)
      · try simp only [bs] at h3
        refine Tr.seq ?_
        refine Tr.region ?_
        refine Tr.q (QS.assign rfl) rfl ?_
        refine Tr.nil ?_
        refine Tr.thenN ?_
        refine Tr.ret ?_
        refine Tr.inR ?_
        refine Tr.thenR ?_
        refine Tr.thenR ?_
        refine Tr.inR ?_
        refine Tr.thenR ?_
        refine Tr.ret1 Try.results9 rfl (fun w' hw => ?_)
        exact ⟨by rw [larg11, decide_eq_true (show 20000 < totB l by omega), Bool.or_true], hw.below (Bg.le.refl _)⟩
      · try simp only [bs] at h3
        refine Tr.skip ?_
        refine Tr.inN ?_
        refine Tr.thenN ?_
        refine Tr.region ?_
        refine Tr.q (QS.move rfl) rfl ?_
        refine Tr.q (QS.addI rfl rfl (by omega)) rfl ?_
        refine Tr.q (QS.assign rfl) rfl ?_
        refine Tr.nil ?_
        refine Tr.thenN ?_
        apply Tr.again (k + 1)
        · exact rfl
        · exact (.cons (by first | rfl | exact lookI rfl (by omega) | exact lookI rfl (by simp) | exact lookB rfl (by simp)) (.cons (by first | rfl | exact lookI rfl (by omega) | exact lookI rfl (by simp) | exact lookB rfl (by simp)) Front.nil))
        · exact SubX.dropN 20 (by kernel_rfl) rfl
        · exact (by repeat' (first | exact Pick.nil _ | exact Del.here _ | apply Pick.cons | apply Del.there))
        · exact ⟨by omega, by omega⟩
        · exact (by (try dsimp only); omega)
    · try simp only [bs] at h2
      refine Tr.exit ?_
      refine Tr.thenE ?_
      refine Tr.thenE ?_
      refine Tr.inHit ?_
      refine Tr.thenN ?_
      refine Tr.seq ?_
      refine Tr.region ?_
      refine Tr.q (QS.assign rfl) rfl ?_
      refine Tr.nil ?_
      refine Tr.thenN ?_
      refine Tr.ret ?_
      refine Tr.ret1 Try.results9 rfl (fun w' hw => ?_)
      have hkl : k = l.length := by omega
      rw [hkl, List.take_length] at hk2
      exact ⟨by rw [larg11, decide_eq_false (show ¬ 20 < l.length by omega), decide_eq_false (show ¬ 20000 < totB l by omega)]; rfl, hw.below (Bg.le.refl _)⟩
end Go.Proofs.Ytfnedefgepjbpaa
namespace Go.HL
open Go
theorem posF_fuel {l : List SecV} {rs : List Rng} {to_ : UInt32} (hn : Norm rs) : ∀ (f g : Nat) (a : UInt32), 4294967296 ≤ f + a.toNat → 4294967296 ≤ g + a.toNat → posF l rs to_ f a = posF l rs to_ g a
  | 0, _, a, h, _ => by have := a.toNat_lt; omega
  | _, 0, a, _, h => by have := a.toNat_lt; omega
  | f + 1, g + 1, a, h1, h2 => by
    cases hq : nxtP rs a with
    | none => rw [posF_stop hq, posF_stop hq]
    | some b =>
      by_cases hb : b < to_
      · rw [posF_go hq hb, posF_go hq hb]
        obtain ⟨s1, s2⟩ := step_pos l to_ b hb
        have := nxtP_ge hq
        rw [posF_fuel hn f g (b + szW l to_ b) (by omega) (by omega)]
      · rw [posF_stop2 hq hb, posF_stop2 hq hb]
theorem nxt_self {rs : List Rng} (hn : Norm rs) {b : UInt32} (h : Has rs b.toNat) : nxtP rs b = some b := by
  obtain ⟨k1, k2⟩ := nxt_spec (a := b) hn
  cases hq : nxtP rs b with
  | none => exact absurd h (k2 hq _ (Nat.le_refl _))
  | some c =>
    obtain ⟨c1, c2, c3⟩ := k1 c hq
    have := c3 b.toNat (Nat.le_refl _) h
    rw [UInt32.toNat_inj.1 (show c.toNat = b.toNat by omega)]
theorem posF_split {l : List SecV} {rs : List Rng} {to_ : UInt32} (hn : Norm rs) : ∀ (f : Nat) (a : UInt32) (pre : List UInt32) (b : UInt32) (post : List UInt32), 4294967296 ≤ f + a.toNat → posF l rs to_ f a = pre ++ b :: post →
    posF l rs to_ 4294967296 b = b :: post
  | 0, a, _, _, _, h, _ => by have := a.toNat_lt; omega
  | f + 1, a, pre, b, post, h, he => by
    cases hq : nxtP rs a with
    | none => rw [posF_stop hq] at he; simp at he
    | some c =>
      by_cases hc : c < to_
      · rw [posF_go hq hc] at he
        obtain ⟨s1, s2⟩ := step_pos l to_ c hc
        have hge := nxtP_ge hq
        cases pre with
        | nil =>
          simp only [List.nil_append, List.cons.injEq] at he
          obtain ⟨rfl, he⟩ := he
          have hs := nxt_self hn ((nxt_spec (a := a) hn).1 c hq).1
          show posF l rs to_ (4294967295 + 1) c = _
          have hcl := c.toNat_lt
          rw [posF_go hs hc, ← he, posF_fuel hn 4294967295 f (c + szW l to_ c) (by omega) (by omega)]
        | cons x pre =>
          simp only [List.cons_append, List.cons.injEq] at he
          exact posF_split hn f (c + szW l to_ c) pre b post (by omega) he.2
      · rw [posF_stop2 hq hc] at he; simp at he
theorem filter_at {α : Type} [Inhabited α] {p : α → Bool} : ∀ (ps : List α) (k : Nat), k < (ps.filter p).length → ∃ pre b post, ps = pre ++ b :: post ∧ p b = true ∧ (ps.filter p).getD k default = b ∧ (ps.filter p).drop k = (b :: post).filter p
  | [], k, h => by simp at h
  | x :: t, k, h => by
    by_cases hx : p x = true
    · rw [List.filter_cons_of_pos hx] at h ⊢
      cases k with
      | zero => exact ⟨[], x, t, rfl, hx, rfl, by rw [List.drop_zero, List.filter_cons_of_pos hx]⟩
      | succ k =>
        obtain ⟨pre, b, post, e1, e2, e3, e4⟩ := filter_at t k (by simpa using h)
        exact ⟨x :: pre, b, post, by rw [e1]; rfl, e2, by simpa [List.getD_eq_getElem?_getD] using e3, by rw [List.drop_succ_cons]; exact e4⟩
    · rw [List.filter_cons_of_neg hx] at h ⊢
      obtain ⟨pre, b, post, e1, e2, e3, e4⟩ := filter_at t k h
      exact ⟨x :: pre, b, post, by rw [e1]; rfl, e2, e3, e4⟩
theorem dec_addr {l : List SecV} {to_ b : UInt32} (h : okW l to_ b = true) : (decW l to_ b).1.addr = b := (dec_size (of_decide_eq_true h : (decP (winP l b to_) b).2 = 0)).2.2
theorem found_getD {l : List SecV} {to_ : UInt32} {ps : List UInt32} {k : Nat} (h : k < (ps.filter (okW l to_)).length) : (foundP l to_ ps).getD k default = (decW l to_ ((ps.filter (okW l to_)).getD k default)).1 := by
  have h' : k < ((ps.filter (okW l to_)).map fun a => (decW l to_ a).1).length := by rw [List.length_map]; exact h
  unfold foundP
  simp only [List.getD_eq_getElem?_getD, List.getElem?_map, List.getElem?_eq_getElem h]; rfl
/-- A sweep that begins at an instruction of another one. -/
theorem restart_law (l : List SecV) (from_ to_ : UInt32) {k : Nat} (hk : k < (foundP l to_ (posP l from_ to_)).length) :
    foundP l to_ (posP l ((foundP l to_ (posP l from_ to_)).getD k default).addr to_) = (foundP l to_ (posP l from_ to_)).drop k := by
  have hk' : k < ((posP l from_ to_).filter (okW l to_)).length := by unfold foundP at hk; rwa [List.length_map] at hk
  obtain ⟨pre, b, post, e1, e2, e3, e4⟩ := filter_at _ k hk'
  rw [found_getD hk', e3, dec_addr e2]
  have hs := posF_split (l := l) (to_ := to_) (normal_ok (l.map spaceP)).1 4294967296 from_ pre b post (by omega) e1
  have hs' : posP l b to_ = b :: post := hs
  rw [hs']
  unfold foundP
  rw [← List.map_drop, e4]
/-- In order, none overlapping another, none empty. -/
def Disj (l : List Rng) : Prop := l.Pairwise (fun x y => x.hi.toNat ≤ y.lo.toNat) ∧ ∀ x ∈ l, x.lo.toNat < x.hi.toNat
def spanP (l : List SecV) (to_ p : UInt32) : Rng := ⟨p, p + szW l to_ p⟩
theorem Disj.filter {l : List SecV} {to_ : UInt32} {ps : List UInt32} (h : Disj (ps.map (spanP l to_))) (p : UInt32 → Bool) : Disj ((ps.filter p).map (spanP l to_)) :=
  ⟨List.pairwise_map.2 ((List.pairwise_map.1 h.1).filter p), fun x hx => by
    obtain ⟨q, hq, rfl⟩ := List.mem_map.1 hx
    exact h.2 _ (List.mem_map.2 ⟨q, (List.mem_filter.1 hq).1, rfl⟩)⟩
end Go.HL
namespace Go.Proofs.Ytfnedefgepjbpaa
open Go Go.HL Go.RowKit
set_option maxRecDepth 100000 in
set_option maxHeartbeats 2000000 in
theorem restarts11_true (l : List SecV) (V : Value) (from_ to_ : UInt32) (k : Int) (w : World) (hV : Sl (hp w) encSec l V) (hD : DataIn (hp w) l) (hz : ∀ s ∈ l, s.data.length ≤ 140737488351232) (hN : ∀ s ∈ l, s.name.size ≤ 140737488351232) :
    Calls Try.prog 5 #[V, .int .u32 from_.toNat, .int .u32 to_.toNat, .int .i64 k] w (fun e w' => e = .returned (.bool true) ∧ Below w.heap.size w w') := by
  have hV' : Sl (Bg.of0 w).blk encSec l V := hV
  have hD' : DataIn (Bg.of0 w).blk l := hD
  have hlar := @larg11_no l
  have hpl := posP_len l from_ to_
  obtain ⟨fs, hfs⟩ : ∃ fs, fs = foundP l to_ (posP l from_ to_) := ⟨_, rfl⟩
  obtain ⟨bl, hbl⟩ : ∃ bl, bl = normalP (badP l to_ (posP l from_ to_)) := ⟨_, rfl⟩
  have hfl := found_len l to_ (posP l from_ to_)
  have hbb := bad_len l to_ (posP l from_ to_)
  have hnl := normalP_len (badP l to_ (posP l from_ to_))
  rw [← hfs] at hfl
  rw [← hbl] at hnl
  have hrs := fun (q : k.toNat < fs.length) => restart_law l from_ to_ (k := k.toNat) (by rw [← hfs]; exact q)
  rw [← hfs] at hrs
  refine enter0 Try.func5 rfl Try.ntmps5 rfl ?_
  refine Tr.seq ?_
  refine Tr.region ?_
  refine Tr.q (QS.assign rfl) rfl ?_
  refine Tr.nil ?_
  refine Tr.thenN ?_
  refine Tr.seq ?_
  refine Tr.seq ?_
  refine Tr.region ?_
  refine Tr.q (QS.move rfl) rfl ?_
  refine Tr.q (QS.call rfl Try.call9 (fun w hw => large11_any l V w (hw.slF hV') hz)) rfl ?_
  refine Tr.q (QS.move rfl) rfl ?_
  apply Tr.orP
  · exact (rfl : _ = (4, 16, 20))
  · exact rfl
  · intro hF1; have hF1' := hF1
    try simp only [bs] at hF1'
    refine Tr.gq rfl rfl hF1 (QS.move rfl) rfl ?_
    refine Tr.gq rfl rfl hF1 (QS.call rfl Try.call18 (fun w hw => check_sec l V w (hw.slF hV') (hlar (by assumption)).1 (fun s hs => by have := hN s hs; omega))) rfl ?_
    refine Tr.gq rfl rfl hF1 (QS.neq rfl rfl) rfl ?_
    refine Tr.q (QS.pickF rfl hF1 rfl) rfl ?_
    refine Tr.nil (Tr.thenN ?_)
    exact Tr.endX (Sub.cons rfl (Sub.dropN 4 (by kernel_rfl) rfl))
  · intro hT1
    refine Tr.gskip rfl rfl hT1 rfl ?_
    refine Tr.gskip rfl rfl hT1 rfl ?_
    refine Tr.gskip rfl rfl hT1 rfl ?_
    refine Tr.q (QS.pickT rfl hT1 rfl) rfl ?_
    refine Tr.nil (Tr.thenN ?_)
    exact Tr.endX (Sub.cons rfl (Sub.dropN 4 (by kernel_rfl) rfl))
  refine Tr.nil ?_
  refine Tr.thenN ?_
  refine Tr.cond rfl (fun h2 => ?_) (fun h2 => ?_)
  · try simp only [bs] at h2
    refine Tr.seq ?_
    refine Tr.region ?_
    refine Tr.q (QS.call0 rfl rfl Try.call10 (fun w hw => example11_any w)) rfl ?_
    refine Tr.q (QS.assign rfl) rfl ?_
    refine Tr.nil ?_
    refine Tr.thenN ?_
    refine Tr.ret ?_
    refine Tr.thenR ?_
    refine Tr.ret1 Try.results5 rfl (fun w' hw => ?_)
    exact ⟨rfl, hw.below0 (Bg.le.refl _)⟩
  · try simp only [bs] at h2
    refine Tr.skip ?_
    refine Tr.thenN ?_
    refine Tr.seq ?_
    obtain ⟨hB, ht20⟩ := hlar (by simp_all)
    refine Tr.region ?_
    refine Tr.q (QS.move rfl) rfl ?_
    refine Tr.q (QS.move rfl) rfl ?_
    refine Tr.q (QS.move rfl) rfl ?_
    refine Tr.callEnts0 (fun i : (Value × List Ins) × (Value × List Rng) => .tuple #[i.1.1, i.2.1]) (fun i => [rowE i.1.1 36 encIns i.1.2, rowE i.2.1 61 encRng i.2.2]) (ok := fun i => i.1.2 = fs ∧ i.2.2 = bl) rfl rfl Try.call11 (fun w hw => (sweep_any l V from_ to_ w (hw.slF hV') hB (hD'.mono hw.bg) (by omega)).mono fun e w' ⟨i, q1, q2, q3, q4, q5⟩ => ⟨i, q1, q2, q3, by rw [q4, hfs], by rw [q5, hbl]⟩) rfl (fun i hi => ?_)
    refine Tr.q (QS.move rfl) rfl ?_
    refine Tr.q (QS.extract rfl rfl) rfl ?_
    refine Tr.q (QS.extract rfl rfl) rfl ?_
    refine Tr.q (QS.assign rfl) rfl ?_
    refine Tr.q (QS.assign rfl) rfl ?_
    refine Tr.nil ?_
    refine Tr.thenN ?_
    refine Tr.seq ?_
    refine Tr.seq ?_
    obtain ⟨⟨Va, fs'⟩, ⟨Vb, bl'⟩⟩ := i
    obtain ⟨g1, g2⟩ := hi
    replace g1 : fs = fs' := g1.symm
    replace g2 : bl = bl' := g2.symm
    subst g1 g2
    change Tr _ _ [rowE Va 36 encIns fs, rowE Vb 61 encRng bl] _ _
    refine Tr.region ?_
    refine Tr.q (QS.move rfl) rfl ?_
    refine Tr.q (QS.lss rfl rfl) rfl ?_
    refine Tr.q (QS.move rfl) rfl ?_
    apply Tr.orP
    · exact (rfl : _ = (5, 31, 36))
    · exact rfl
    · intro hF3; have hF3' := hF3
      try simp only [bs] at hF3'
      refine Tr.gq rfl rfl hF3 (QS.move rfl) rfl ?_
      refine Tr.gq rfl rfl hF3 (QS.move rfl) rfl ?_
      refine Tr.gq rfl rfl hF3 (QS.lenRow rfl (by repeat (first | exact List.Mem.head _ | apply List.Mem.tail)) Try.underlying26) rfl ?_
      refine Tr.gq rfl rfl hF3 (QS.geq rfl rfl) rfl ?_
      refine Tr.q (QS.pickF rfl hF3 rfl) rfl ?_
      refine Tr.nil (Tr.thenN ?_)
      exact Tr.endX (Sub.cons rfl (Sub.dropN 5 (by kernel_rfl) rfl))
    · intro hT3
      refine Tr.gskip rfl rfl hT3 rfl ?_
      refine Tr.gskip rfl rfl hT3 rfl ?_
      refine Tr.gskip rfl rfl hT3 rfl ?_
      refine Tr.gskip rfl rfl hT3 rfl ?_
      refine Tr.q (QS.pickT rfl hT3 rfl) rfl ?_
      refine Tr.nil (Tr.thenN ?_)
      exact Tr.endX (Sub.cons rfl (Sub.dropN 5 (by kernel_rfl) rfl))
    refine Tr.nil ?_
    refine Tr.thenN ?_
    refine Tr.cond rfl (fun h4 => ?_) (fun h4 => ?_)
    · try simp only [bs] at h4
      refine Tr.seq ?_
      refine Tr.region ?_
      refine Tr.q (QS.call0 rfl rfl Try.call10 (fun w hw => example11_any w)) rfl ?_
      refine Tr.q (QS.assign rfl) rfl ?_
      refine Tr.nil ?_
      refine Tr.thenN ?_
      refine Tr.ret ?_
      refine Tr.thenR ?_
      refine Tr.ret1 Try.results5 rfl (fun w' hw => ?_)
      exact ⟨rfl, hw.below0 (Bg.le.refl _)⟩
    · try simp only [bs] at h4
      refine Tr.skip ?_
      refine Tr.thenN ?_
      refine Tr.seq ?_
      refine Tr.region ?_
      refine Tr.q (QS.move rfl) rfl ?_
      refine Tr.q (QS.move rfl) rfl ?_
      refine Tr.q (QS.move rfl) rfl ?_
      refine Tr.q (QS.idxRow rfl rfl (by repeat (first | exact List.Mem.head _ | apply List.Mem.tail)) Try.underlying26 Try.sizeOf36 (by rfl) (by omega)) rfl ?_
      refine Tr.q (QS.fieldAddr (off := 0) (ft := 23) rfl Try.underlying36 rfl rfl Try.sizeOf23 (by decide)) rfl ?_
      refine Tr.q (QS.elRF rfl (by repeat (first | exact List.Mem.head _ | apply List.Mem.tail)) Try.isAgg23 (by omega) (by rfl)) rfl ?_
      refine Tr.q (QS.move rfl) rfl ?_
      refine Tr.callEnts0 (fun i : (Value × List Ins) × (Value × List Rng) => .tuple #[i.1.1, i.2.1]) (fun i => [rowE i.1.1 36 encIns i.1.2, rowE i.2.1 61 encRng i.2.2]) (ok := fun i => i.1.2 = fs.drop k.toNat) rfl rfl Try.call11 (fun w hw => (sweep_any l V (fs.getD k.toNat default).addr to_ w (hw.slF hV') hB (hD'.mono hw.bg) (by have := posP_len l (fs.getD k.toNat default).addr to_; omega)).mono fun e w' ⟨i, q1, q2, q3, q4, q5⟩ => ⟨i, q1, q2, q3, by rw [q4, hrs (by omega)]⟩) rfl (fun j hj => ?_)
      refine Tr.q (QS.move rfl) rfl ?_
      refine Tr.q (QS.extract rfl rfl) rfl ?_
      refine Tr.q (QS.extract rfl rfl) rfl ?_
      refine Tr.q (QS.assign rfl) rfl ?_
      refine Tr.q (QS.assign rfl) rfl ?_
      refine Tr.nil ?_
      refine Tr.thenN ?_
      refine Tr.seq ?_
      refine Tr.seq ?_
      obtain ⟨⟨Vc, gs⟩, ⟨Vd, qs⟩⟩ := j
      replace hj : gs = fs.drop k.toNat := hj
      subst hj
      change Tr _ _ [rowE Vc 36 encIns (fs.drop k.toNat), rowE Vd 61 encRng qs, rowE Va 36 encIns fs, rowE Vb 61 encRng bl] _ _
      have hdl : (fs.drop k.toNat).length = fs.length - k.toNat := List.length_drop
      refine Tr.region ?_
      refine Tr.q (QS.move rfl) rfl ?_
      refine Tr.q (QS.lenRow rfl (by repeat (first | exact List.Mem.head _ | apply List.Mem.tail)) Try.underlying26) rfl ?_
      refine Tr.q (QS.move rfl) rfl ?_
      refine Tr.q (QS.lenRow rfl (by repeat (first | exact List.Mem.head _ | apply List.Mem.tail)) Try.underlying26) rfl ?_
      refine Tr.q (QS.move rfl) rfl ?_
      refine Tr.q (QS.subI rfl rfl (by omega)) rfl ?_
      refine Tr.q (QS.neq rfl rfl) rfl ?_
      refine Tr.nil ?_
      refine Tr.thenN ?_
      refine Tr.cond rfl (fun h5 => ?_) (fun h5 => ?_)
      · try simp only [bs] at h5
        refine Tr.seq ?_
        refine Tr.region ?_
        refine Tr.q (QS.assign rfl) rfl ?_
        refine Tr.nil ?_
        refine Tr.thenN ?_
        refine Tr.ret ?_
        refine Tr.thenR ?_
        refine Tr.ret1 Try.results5 rfl (fun w' hw => ?_)
        exfalso; omega
      · try simp only [bs] at h5
        refine Tr.skip ?_
        refine Tr.thenN ?_
        refine Tr.seq ?_
        refine Tr.seq ?_
        refine Tr.region ?_
        refine Tr.q (QS.assign rfl) rfl ?_
        refine Tr.nil ?_
        refine Tr.thenN ?_
        refine Tr.block ?_
        refine Tr.loop (ι := Nat) (fun i => i ≤ (fs.drop k.toNat).length) (fun _ => _) (fun i => [rowE Vc 36 encIns (fs.drop k.toNat), rowE Vd 61 encRng qs, rowE Va 36 encIns fs, rowE Vb 61 encRng bl]) (fun i => [(13, .int .i64 (i : Nat))]) (fun i => (fs.drop k.toNat).length - i) 0 (Nat.zero_le _) (.cons (by first | rfl | exact lookI rfl (by omega) | exact lookI rfl (by simp) | exact lookB rfl (by simp)) Front.nil) (by repeat' (first | exact Pick.nil _ | exact Del.here _ | apply Pick.cons | apply Del.there)) rfl (fun i hi m hm => ?_)
        replace hi : i ≤ (fs.drop k.toNat).length := hi
        replace hm : m = (fs.drop k.toNat).length - i := hm
        change Tr _ _ [rowE Vc 36 encIns (fs.drop k.toNat), rowE Vd 61 encRng qs, rowE Va 36 encIns fs, rowE Vb 61 encRng bl] ([(13, .int .i64 (i : Nat))] ++ _) _
        have hgd : (fs.drop k.toNat).getD i default = fs.getD (k + (i : Int)).toNat default := by rw [show (k + (i : Int)).toNat = k.toNat + i by omega]; simp [List.getD_eq_getElem?_getD]
        refine Tr.seq ?_
        refine Tr.seq ?_
        refine Tr.region ?_
        refine Tr.q (QS.move rfl) rfl ?_
        refine Tr.q (QS.move rfl) rfl ?_
        refine Tr.q (QS.lenRow rfl (by repeat (first | exact List.Mem.head _ | apply List.Mem.tail)) Try.underlying26) rfl ?_
        refine Tr.q (QS.lss rfl rfl) rfl ?_
        refine Tr.nil ?_
        refine Tr.thenN ?_
        refine Tr.cond rfl (fun h6 => ?_) (fun h6 => ?_)
        · try simp only [bs] at h6
          refine Tr.skip ?_
          refine Tr.thenN ?_
          refine Tr.seq ?_
          refine Tr.block ?_
          refine Tr.seq ?_
          refine Tr.regionQ HLF.mixed (by kernel_rfl) ?_
          refine TrQ.q (QS.move rfl) rfl ?_
          refine TrQ.q (QS.move rfl) rfl ?_
          refine TrQ.q (QS.idxRowN rfl rfl (by repeat (first | exact List.Mem.head _ | apply List.Mem.tail)) Try.underlying26 Try.sizeOf36 (by rfl) (by omega)) rfl ?_
          refine TrQ.q (QS.elRA rfl (by repeat (first | exact List.Mem.head _ | apply List.Mem.tail)) Try.isAgg36 Try.sizeOf36 (by rfl) (by omega)) rfl ?_
          refine TrQ.q (QS.move rfl) rfl ?_
          refine TrQ.q (QS.move rfl) rfl ?_
          refine TrQ.q (QS.move rfl) rfl ?_
          refine TrQ.q (QS.addI rfl rfl (by omega)) rfl ?_
          refine TrQ.q (QS.idxRow rfl rfl (by repeat (first | exact List.Mem.head _ | apply List.Mem.tail)) Try.underlying26 Try.sizeOf36 (by rfl) (by omega)) rfl ?_
          refine TrQ.q (QS.elRA rfl (by repeat (first | exact List.Mem.head _ | apply List.Mem.tail)) Try.isAgg36 Try.sizeOf36 (by rfl) (by omega)) rfl ?_
          refine TrQ.q (QS.neqE rfl rfl insEqEnc Try.underlying36 (HLF.words36 _ Try.underlying36) rfl HLF.held36 HLF.eqg36) rfl ?_
          refine TrQ.nil ?_
          refine Tr.thenN ?_
          refine Tr.cond rfl (fun h7 => ?_) (fun h7 => ?_)
          · try simp only [bs] at h7
            refine Tr.seq ?_
            refine Tr.region ?_
            refine Tr.q (QS.assign rfl) rfl ?_
            refine Tr.nil ?_
            refine Tr.thenN ?_
            refine Tr.ret ?_
            refine Tr.inR ?_
            refine Tr.thenR ?_
            refine Tr.thenR ?_
            refine Tr.inR ?_
            refine Tr.thenR ?_
            refine Tr.ret1 Try.results5 rfl (fun w' hw => ?_)
            exfalso; simp_all
          · try simp only [bs] at h7
            refine Tr.skip ?_
            refine Tr.inN ?_
            refine Tr.thenN ?_
            refine Tr.region ?_
            refine Tr.q (QS.move rfl) rfl ?_
            refine Tr.q (QS.addI rfl rfl (by omega)) rfl ?_
            refine Tr.q (QS.assign rfl) rfl ?_
            refine Tr.nil ?_
            refine Tr.thenN ?_
            apply Tr.again (i + 1)
            · exact rfl
            · exact (.cons (by first | rfl | exact lookI rfl (by omega) | exact lookI rfl (by simp) | exact lookB rfl (by simp)) Front.nil)
            · exact SubX.dropN 19 (by kernel_rfl) rfl
            · exact (by repeat' (first | exact Pick.nil _ | exact Del.here _ | apply Pick.cons | apply Del.there))
            · exact (by show i + 1 ≤ _; omega)
            · exact (by (try dsimp only); omega)
        · try simp only [bs] at h6
          refine Tr.exit ?_
          refine Tr.thenE ?_
          refine Tr.thenE ?_
          refine Tr.inHit ?_
          refine Tr.thenN ?_
          refine Tr.seq ?_
          refine Tr.region ?_
          refine Tr.q (QS.call0 rfl rfl Try.call10 (fun w hw => example11_any w)) rfl ?_
          refine Tr.q (QS.assign rfl) rfl ?_
          refine Tr.nil ?_
          refine Tr.thenN ?_
          refine Tr.ret ?_
          refine Tr.ret1 Try.results5 rfl (fun w' hw => ?_)
          exact ⟨rfl, hw.below0 (Bg.le.refl _)⟩
end Go.Proofs.Ytfnedefgepjbpaa
namespace Go.HL
open Go Go.Deep Go.ChangeShapes Go.WideShapes
section
variable {H : Type} {enc : TypeId × Value → H} {P : Program} {w : World} {base : Nat} {spare : Nat → Bool} {held : Bool}
theorem u8_of_wf {n : Int} (h : (Lit.int .u8 n).wf = true) : ∃ x : UInt8, n = (x.toNat : Int) := by
  have := bounds_u8 h
  refine ⟨UInt8.ofNat n.toNat, ?_⟩
  rw [UInt8.toNat_ofNat']; omega
theorem u32_of_wf {n : Int} (h : (Lit.int .u32 n).wf = true) : ∃ x : UInt32, n = (x.toNat : Int) := by
  have := bounds_u32 h
  refine ⟨UInt32.ofNat n.toNat, ?_⟩
  rw [UInt32.toNat_ofNat']; omega
theorem flat_u8 {e : TypeId} (he : P.underlying e = some (.int .u8)) {n : Nat} {cs : List Value} {y : DataW H × List MemPlace} (h : DataW.trod enc P w base spare held n e cs = some y) : ∃ a, cs = encU8.enc a ∧ True := by
  obtain ⟨z, rfl, _, hw⟩ := DataW.trod_int he h
  obtain ⟨x, rfl⟩ := u8_of_wf hw
  exact ⟨x, rfl, trivial⟩
end
end Go.HL
namespace Go.HL
open Go Go.Deep Go.ChangeShapes Go.WideShapes
section
variable {H : Type} {enc : TypeId × Value → H} {P : Program} {w : World} {base : Nat} {spare : Nat → Bool} {held : Bool}
/-- No slice and no text in it is beyond what the form reaches. -/
def Light (P : Program) (t : TypeId) (d : DataW H) : Prop := ∀ n ∈ d.weights P t, n ≤ reachBytes
theorem weightsAll_mem {P : Program} {e : TypeId} : ∀ {l : List (DataW H)} {d : DataW H}, d ∈ l → ∀ n ∈ d.weights P e, n ∈ DataW.weightsAll P e l
  | x :: l, d, h, n, hn => by
    simp only [DataW.weightsAll, List.mem_append]
    rcases List.mem_cons.1 h with rfl | h
    · exact .inl hn
    · exact .inr (weightsAll_mem h n hn)
theorem sl_of_trodW {α : Type} [Inhabited α] {E : Enc α} {R : α → Prop} {t e : TypeId} {fuel : Nat} {V : Value} {x : DataW H × List MemPlace} (ht : P.underlying t = some (.slice e)) (hc : P.cellsOf e = E.k) (hk : 0 < E.k) (hL : Light P t x.1)
    (hf : ∀ n cs y, cs.length = E.k → DataW.trod enc P w base spare held n e cs = some y → Light P e y.1 → ∃ a : α, cs = E.enc a ∧ R a)
    (h : DataW.trod enc P w base spare held fuel t [V] = some x) : ∃ l : List α, Sl (hp w) E l V ∧ (∀ a ∈ l, R a) ∧ l.length * P.bytesOf e ≤ reachBytes := by
  rcases open_slice ht h with ⟨h0, _⟩ | ⟨a, len, cap, m, n, D, Pl, hv, hb, hl, hm, hmm, hxx, hx⟩
  · simp only [List.cons.injEq, and_true] at h0
    subst h0
    exact ⟨[], Sl.nil _ _, by simp, by simp⟩
  · simp only [List.cons.injEq, and_true] at hv
    subst hv
    subst hxx
    have hlm : len ≤ m := by rw [hmm]; split <;> omega
    have hw : DataW.weights P t (.slice ((List.range len).map D) ((List.range (m - len)).map fun j => D (len + j))) = (((List.range len).map D).length + ((List.range (m - len)).map fun j => D (len + j)).length) * P.bytesOf e :: (DataW.weightsAll P e ((List.range len).map D) ++ DataW.weightsAll P e ((List.range (m - len)).map fun j => D (len + j))) := by
      simp only [DataW.weights, ht]
    have each : ∀ i, i < len → ∃ q : α, w.cells? base (a.add (i * E.k)) E.k = some (E.enc q) ∧ R q := fun i hi => by
      obtain ⟨cs', h1, h2⟩ := hx i (by omega)
      rw [hc] at h1
      obtain ⟨q, rfl, hq⟩ := hf n cs' _ (World.cells?_some h1).2.1 h2 (fun z hz => hL z (by
        rw [hw]
        exact .tail _ (List.mem_append.2 (.inl (weightsAll_mem (List.mem_map.2 ⟨i, List.mem_range.2 hi, rfl⟩) z hz)))))
      exact ⟨q, h1, hq⟩
    obtain ⟨f, hfn⟩ := choose_lt each
    have hsp : 0 < len → a = ⟨a.block, a.off, none⟩ := fun hl0 => by
      have h1 := (World.cells?_some (hfn 0 hl0).1).2.2 0 hk
      have hlen : 0 < (E.enc (f 0)).length := by rw [E.len]; exact hk
      rw [List.getElem?_eq_getElem hlen] at h1
      have hsp := World.cell?_spot h1
      obtain ⟨b, o, sp⟩ := a
      have : sp = none := by simpa [Addr.add] using hsp
      subst this
      rfl
    refine ⟨(List.range len).map f, ⟨⟨some a, cap, by simp, by simpa using hl, hm, fun hne => ?_⟩, fun i q hq => ?_⟩, fun q hq => ?_, ?_⟩
    · have hl0 : 0 < len := by
        rcases Nat.eq_zero_or_pos len with h | h
        · subst h; simp at hne
        · exact h
      rw [hsp hl0]; rfl
    · have hi : i < len := by
        have := (List.getElem?_eq_some_iff.1 hq).1
        simpa using this
      have hq' : f i = q := by simpa [hi] using hq
      subst hq'
      have ha := hsp (by omega)
      obtain ⟨b, o, sp⟩ := a
      obtain rfl : sp = none := by simpa using ha
      have hc' := (World.cells?_some (hfn i hi).1).2.2
      have hlen : (E.enc (f i)).length = E.k := E.len _
      have eA : ∀ j, (((⟨b, o, none⟩ : Addr).add (i * E.k)).add j) = ⟨b, o + i * E.k + j, none⟩ := fun j => by
        rw [Go.Deep.add_add]; simp only [Addr.add]
        by_cases h0 : i * E.k + j = 0
        · rw [if_pos h0]
          have : i * E.k = 0 := by omega
          have : j = 0 := by omega
          simp_all
        · rw [if_neg h0, Nat.add_assoc]
      have h1 := hc' 0 hk
      rw [List.getElem?_eq_getElem (by omega), eA] at h1
      have hb1 : ∃ cs T fz, w.heap[b]? = some (.cells cs T fz) := by
        unfold World.cell? at h1
        split at h1
        · rename_i cs T fz hh; exact ⟨cs, T, fz, hh⟩
        · simp at h1
      obtain ⟨cs, T, fz, hh⟩ := hb1
      refine ⟨cs, T, fz, hh, fun j v hj => ?_⟩
      have hjk : j < E.k := by have := (List.getElem?_eq_some_iff.1 hj).1; omega
      have h2 := hc' j hjk
      rw [hj, eA] at h2
      unfold World.cell? at h2
      simp only [hh] at h2
      simp only [ofs]
      simpa using h2
    · obtain ⟨i, hi, rfl⟩ := List.mem_map.1 hq
      exact (hfn i (List.mem_range.1 hi)).2
    · have := hL _ (by rw [hw]; exact .head _)
      simp only [List.length_map, List.length_range] at this ⊢
      exact Nat.le_trans (Nat.mul_le_mul_right _ (by omega)) this
theorem flat_sec {e ts tu tb tB eu : TypeId} {f0 f1 f2 f3 f4 : Field} (he : P.underlying e = some (.struct #[f0, f1, f2, f3, f4]))
    (ho : [f0.offset, f1.offset, f2.offset, f3.offset, f4.offset] = [0, 1, 2, 3, 4]) (ht : [f0.type, f1.type, f2.type, f3.type, f4.type] = [ts, tu, tb, tB, tB])
    (c0 : P.cellsOf ts = 1) (c1 : P.cellsOf tu = 1) (c2 : P.cellsOf tb = 1) (c3 : P.cellsOf tB = 1) (us : P.underlying ts = some .string) (uu : P.underlying tu = some (.int .u32))
    (ub : P.underlying tb = some (.slice eu)) (ue : P.underlying eu = some (.int .u8)) (ce : P.cellsOf eu = 1) (be : P.bytesOf eu = 1) (uB : P.underlying tB = some .bool)
    {n : Nat} {cs : List Value} {y : DataW H × List MemPlace} (hl : cs.length = 5) (h : DataW.trod enc P w base spare held n e cs = some y) (hL : Light P e y.1) :
    ∃ s : SecV, cs = encSec.enc s ∧ Sl (hp w) encU8 s.data (.slice s.dp s.data.length s.dc) ∧ s.data.length ≤ reachBytes ∧ s.name.size ≤ reachBytes := by
  simp only [List.cons.injEq, and_true] at ho ht
  obtain ⟨o0, o1, o2, o3, o4⟩ := ho
  obtain ⟨t0, t1, t2, t3, t4⟩ := ht
  obtain ⟨xs, k, hk, hxy, _, hxl, hf⟩ := DataW.trod_struct he h
  match xs, hxl, cs, hl with
  | [y0, y1, y2, y3, y4], _, [v0, v1, v2, v3, v4], _ =>
    have g0 := hf 0 f0 rfl
    have g1 := hf 1 f1 rfl
    have g2 := hf 2 f2 rfl
    have g3 := hf 3 f3 rfl
    have g4 := hf 4 f4 rfl
    simp [o0, o1, o2, o3, o4, t0, t1, t2, t3, t4, c0, c1, c2, c3] at g0 g1 g2 g3 g4
    subst hxy
    have hw : ∀ j t d, [ts, tu, tb, tB, tB][j]? = some t → [y0.1, y1.1, y2.1, y3.1, y4.1][j]? = some d → Light P t d := fun j t d q1 q2 z hz => hL z (by
      simp only [DataW.weights, he, List.map_cons, List.map_nil, t0, t1, t2, t3, t4]
      exact DataW.weights_mem_each (j := j) q1 q2 z hz)
    have w0' := hw 0 ts y0.1 rfl rfl
    have w2' := hw 2 tb y2.1 rfl rfl
    obtain ⟨z0, e0, q0, w0⟩ := DataW.trod_string us g0
    obtain ⟨z1, e1, _, w1⟩ := DataW.trod_int uu g1
    obtain ⟨l, s2, _, hbl⟩ := sl_of_trodW (E := encU8) (R := fun _ => True) ub ce (by decide) w2' (fun n cs y _ hh _ => flat_u8 ue hh) g2
    obtain ⟨z3, e3, _⟩ := DataW.trod_bool uB g3
    obtain ⟨z4, e4, _⟩ := DataW.trod_bool uB g4
    obtain ⟨x1, rfl⟩ := u32_of_wf w1
    simp only [List.cons.injEq, and_true] at e0 e1 e3 e4
    subst e0; subst e1; subst e3; subst e4
    obtain ⟨a, c, hv, _⟩ := s2.shape
    subst hv
    refine ⟨⟨z0, x1, l, a, c, z3, z4⟩, rfl, s2, by rw [be, Nat.mul_one] at hbl; exact hbl, ?_⟩
    have := w0' z0.data.toList.length (by rw [q0]; simp [DataW.weights])
    rw [Array.length_toList] at this
    exact this
end
end Go.HL
