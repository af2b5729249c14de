/- Own rules and walks, part 4. -/
import Derived.Test.YtiajjbhcpeadfaaGreatB3
set_option linter.unusedSimpArgs false
set_option linter.unusedVariables false
set_option linter.unusedSectionVars false
set_option maxRecDepth 100000
set_option maxHeartbeats 16000000
namespace Go.Proofs.YtiajjbhcpeadfaaGreat
open Go Go.HL Go.RowKit
theorem zn (l : List UInt32) : (Go.Sort.sort ltW l.toArray).toList = gh l := by
 rw [ES, List.toList_toArray]
 unfold gh
 congr 1
 funext x y
 simp only [ltW]
 by_cases h : x ≤ y
 ·rw [decide_eq_true h, decide_eq_false (by rw [UInt32.lt_iff_toNat_lt]; rw [UInt32.le_iff_toNat_le] at h; omega)]; rfl
 ·rw [decide_eq_false h, decide_eq_true (by rw [UInt32.lt_iff_toNat_lt]; rw [UInt32.le_iff_toNat_le] at h; omega)]; rfl
theorem D8 (b : Nat) (w : World) :
  Calls Tryz.prog 139 #[.map (some b)] w (fun e w' => ∃ i : Nat, e = .returned (.func (.func 196) #[] #[.pointer (some ⟨i, 0, none⟩)]) ∧ Ext w w' ∧ CellsIn (wK w w') i [.map (some b)]) := by
 refine enter Tryz.func139 rfl Tryz.ntmps139 rfl ?_
 refine af ?_
 refine dO rfl rfl (fun b1 => ?_)
 refine zz0 (ab rfl) (aH (zz0 (fy rfl rfl) ?_))
 refine zz0 (ab rfl) (ad (aB ?_))
 refine aV Tryz.results139 rfl (fun w' hw => ?_)
 exact ⟨b1, rfl, hw.b0, hw.cellNew rfl (by repeat constructor)⟩
theorem Bv {α : Type} {f : α → Value} {l : List (UInt32 × α)} (b Bm : Nat) (es : Array MapEntry) (ck : Nat) (hmI : MapIs f l es ck) (w : World) (c1 : CellsIn (hp w) Bm [.map (some b)]) (hb : w.heap[b]? = some (.map es ck)) (lv B : Nat) (hB : B ≤ w.heap.size) (J Jx : List UInt32 → World → Prop) (hJ : AbidesFrom B J) (hJx : AbidesFrom B Jx) (hY : ∀ pre x W1, J pre W1 → pre.length < l.length → YieldAt Fence.wide 1 Tryz.prog lv #[.int .u32 x.toNat] W1 fun e W' => (e = .returned (.bool true) ∧ J (pre ++ [x]) W' ∧ KeepsWalks W1 W') ∨ (e = .returned (.bool false) ∧ Jx (pre ++ [x]) W')) (h0 : J [] w) :
  Calls Tryz.prog 196 #[.func (.yield lv) #[] #[], .pointer (some ⟨Bm, 0, none⟩)] w (fun e W' => (∃ v, e = .returned v) ∧ ((∃ xs, xs.Perm (l.map (·.1)) ∧ J xs W') ∨ (∃ pre, True ∧ Jx pre W'))) := by
 have c1' : CellsIn (Bg.of0 w).blk Bm [.map (some b)] := c1
 refine lx Tryz.func196 rfl Tryz.ntmps196 rfl ?_
 refine af (zz0 (e8 rfl c1' f5 (by rfl)) ?_)
 refine xz rfl hmI hb er rfl (fun W1 r hg1 hr1 hI1 => ?_)
 refine ad (aF ?_)
 refine bL (ι := World × List UInt32) (fun ⟨Ws, done⟩ => IterAt Ws b r es ck done ∧ done.Nodup ∧ (∀ k ∈ done, k ∈ l.map (·.1)) ∧ J done Ws) (fun ⟨Ws, done⟩ => Bg.of0 Ws) (fun ⟨Ws, done⟩ => []) (fun ⟨Ws, done⟩ => []) (fun ⟨Ws, done⟩ => l.length - done.length) (W1, []) ⟨hI1, List.nodup_nil, fun k h => (by cases h), hJ [] w W1 none h0 hg1 (fun r e => by cases e)⟩ Front.nil (by repeat' constructor) rfl (fun i hi m hm => ?_)
 obtain ⟨Ws, done⟩ := i
 replace hi : IterAt Ws b r es ck done ∧ done.Nodup ∧ (∀ k ∈ done, k ∈ l.map (·.1)) ∧ J done Ws := hi
 replace hm : m = l.length - done.length := hm
 change Tr _ (Bg.of0 Ws) [] ([] ++ _) _
 obtain ⟨q1, q2, q3, q4⟩ := hi
 refine al ?_
 refine AM (l := l) rfl hmI q1 rfl rfl (fun k x W2 W3 hx2 hk1 hk2 g1 g2 i1 i2 => ?_) (fun hall => ?_)
 ·skip
  have hlen : done.length < l.length := CG q2 q3 hk1 hk2
  have hJ3 : J done W3 := hJ done W2 W3 (some r) (hJ done Ws W2 none q4 g1 (fun r e => by cases e)) g2 (fun r' e => by cases e; exact ⟨by omega, i1.walk⟩)
  refine ac (al ?_)
  refine ar rfl ?_ ?_ <;> intro h1 <;> try simp only [bs] at h1
  ·refine bF (aF (af (zz0 (xI rfl hmI i2 (by simp) hx2) ?_)))
   refine zz0 (aL rfl rfl) (zz0 (ab rfl) (ad (al ?_)))
   refine AG (x := k) (fun x : UInt32 => .int .u32 x.toNat) rfl rfl rfl rfl hJ3 hJ (fun W4 h => hY done k W4 h hlen) rfl rfl rfl rfl (fun W4 W' y1 y2 y3 => ?_) (fun W' y1 => ?_)
   ·skip
    refine ac ?_
    refine ar rfl ?_ ?_ <;> intro h2 <;> try simp only [bs] at h2
    ·first | contradiction | (exfalso; omega) | simp_all
    ·refine cg (aX (ac ?_))
     have hdl : (done ++ [k]).length = done.length + 1 := by simp
     apply gm (W', done ++ [k])
     ·exact rfl
     ·exact Front.nil
     ·exact bC 9 rfl
     ·exact (by repeat' constructor)
     ·exact ⟨(i2.grown y1.grown).keeps y2, u6 q2 hk2, fun j hj => (List.mem_append.1 hj).elim (q3 j) (fun h => (List.mem_singleton.1 h) ▸ hk1), y3⟩
     ·exact (by show l.length - (done ++ [k]).length < m; omega)
   ·skip
    refine ac ?_
    refine ar rfl ?_ ?_ <;> intro h3 <;> try simp only [bs] at h3
    ·refine aB (bA (ay (bA ?_)))
     refine lT Tryz.results196 (fun w' hw => ?_)
     exact ⟨⟨_, rfl⟩, .inr ⟨_, trivial, hJx _ W' _ none y1 hw.grown (fun r e => by cases e)⟩⟩
    ·first | contradiction | (exfalso; omega) | simp_all
  ·first | contradiction | (exfalso; omega) | simp_all
 ·skip
  refine ac (al ?_)
  refine ar rfl ?_ ?_ <;> intro h4 <;> try simp only [bs] at h4
  ·first | contradiction | (exfalso; omega) | simp_all
  ·refine bJ (aG (aG (bv ?_)))
   refine fx Tryz.results196 (fun w' hw => ?_)
   exact ⟨⟨_, rfl⟩, .inl ⟨done, zS hmI.nodup q2 q3 hall, hJ done Ws _ none q4 hw.grown (fun r e => by cases e)⟩⟩
theorem ud {α : Type} {f : α → Value} {l : List (UInt32 × α)} (b Bm : Nat) (w : World) (hm : MapIn (hp w) b f l) (c1 : CellsIn (hp w) Bm [.map (some b)]) :
  SeqStopsK Fence.wide 2 Tryz.prog 196 [.pointer (some ⟨Bm, 0, none⟩)].toArray (fun x : UInt32 => #[.int .u32 x.toNat]) KeepsWalks (fun xs => xs.Perm (l.map (·.1))) (fun _ => True) l.length w := by
 obtain ⟨es, ck, hb, hm⟩ := hm
 intro lv J Jx W hBel hJ hJx hY h0
 have hle : Hp.le (hp w) (hp W) := fun k o e => (hBel.block k (Array.getElem?_eq_some_iff.1 (show w.heap[k]? = some o from e)).1).trans e
 exact callsIn_wide.2 (Bv b Bm es ck hm W (c1.mono hle) (hle b _ hb) lv W.heap.size (Nat.le_refl _) J Jx hJ hJx hY h0)
theorem FG (b : Nat) (w : World) :
  Calls Tryz.prog 72 #[.map (some b)] w (fun e w' => ∃ i : Nat, e = .returned (.func (.func 142) #[] #[.pointer (some ⟨i, 0, none⟩)]) ∧ Ext w w' ∧ CellsIn (wK w w') i [.map (some b)]) := by
 refine enter Tryz.func72 rfl Tryz.ntmps72 rfl ?_
 refine af ?_
 refine dO rfl rfl (fun b1 => ?_)
 refine zz0 (ab rfl) (aH (zz0 (fy rfl rfl) ?_))
 refine zz0 (ab rfl) (ad (aB ?_))
 refine aV Tryz.results72 rfl (fun w' hw => ?_)
 exact ⟨b1, rfl, hw.b0, hw.cellNew rfl (by repeat constructor)⟩
theorem D9 {α : Type} {f : α → Value} {l : List (UInt32 × α)} (b Bm : Nat) (es : Array MapEntry) (ck : Nat) (hmI : MapIs f l es ck) (w : World) (c1 : CellsIn (hp w) Bm [.map (some b)]) (hb : w.heap[b]? = some (.map es ck)) (lv B : Nat) (hB : B ≤ w.heap.size) (J Jx : List UInt32 → World → Prop) (hJ : AbidesFrom B J) (hJx : AbidesFrom B Jx) (hY : ∀ pre x W1, J pre W1 → pre.length < l.length → YieldAt Fence.wide 1 Tryz.prog lv #[.int .u32 x.toNat] W1 fun e W' => (e = .returned (.bool true) ∧ J (pre ++ [x]) W' ∧ KeepsWalks W1 W') ∨ (e = .returned (.bool false) ∧ Jx (pre ++ [x]) W')) (h0 : J [] w) :
  Calls Tryz.prog 142 #[.func (.yield lv) #[] #[], .pointer (some ⟨Bm, 0, none⟩)] w (fun e W' => (∃ v, e = .returned v) ∧ ((∃ xs, xs.Perm (l.map (·.1)) ∧ J xs W') ∨ (∃ pre, True ∧ Jx pre W'))) := by
 have c1' : CellsIn (Bg.of0 w).blk Bm [.map (some b)] := c1
 refine lx Tryz.func142 rfl Tryz.ntmps142 rfl ?_
 refine af (zz0 (e8 rfl c1' jr (by rfl)) ?_)
 refine xz rfl hmI hb fS rfl (fun W1 r hg1 hr1 hI1 => ?_)
 refine ad (aF ?_)
 refine bL (ι := World × List UInt32) (fun ⟨Ws, done⟩ => IterAt Ws b r es ck done ∧ done.Nodup ∧ (∀ k ∈ done, k ∈ l.map (·.1)) ∧ J done Ws) (fun ⟨Ws, done⟩ => Bg.of0 Ws) (fun ⟨Ws, done⟩ => []) (fun ⟨Ws, done⟩ => []) (fun ⟨Ws, done⟩ => l.length - done.length) (W1, []) ⟨hI1, List.nodup_nil, fun k h => (by cases h), hJ [] w W1 none h0 hg1 (fun r e => by cases e)⟩ Front.nil (by repeat' constructor) rfl (fun i hi m hm => ?_)
 obtain ⟨Ws, done⟩ := i
 replace hi : IterAt Ws b r es ck done ∧ done.Nodup ∧ (∀ k ∈ done, k ∈ l.map (·.1)) ∧ J done Ws := hi
 replace hm : m = l.length - done.length := hm
 change Tr _ (Bg.of0 Ws) [] ([] ++ _) _
 obtain ⟨q1, q2, q3, q4⟩ := hi
 refine al ?_
 refine AM (l := l) rfl hmI q1 rfl rfl (fun k x W2 W3 hx2 hk1 hk2 g1 g2 i1 i2 => ?_) (fun hall => ?_)
 ·skip
  have hlen : done.length < l.length := CG q2 q3 hk1 hk2
  have hJ3 : J done W3 := hJ done W2 W3 (some r) (hJ done Ws W2 none q4 g1 (fun r e => by cases e)) g2 (fun r' e => by cases e; exact ⟨by omega, i1.walk⟩)
  refine ac (al ?_)
  refine ar rfl ?_ ?_ <;> intro h1 <;> try simp only [bs] at h1
  ·refine bF (aF (af (zz0 (xI rfl hmI i2 (by simp) hx2) ?_)))
   refine zz0 (aL rfl rfl) (zz0 (ab rfl) (ad (al ?_)))
   refine AG (x := k) (fun x : UInt32 => .int .u32 x.toNat) rfl rfl rfl rfl hJ3 hJ (fun W4 h => hY done k W4 h hlen) rfl rfl rfl rfl (fun W4 W' y1 y2 y3 => ?_) (fun W' y1 => ?_)
   ·skip
    refine ac ?_
    refine ar rfl ?_ ?_ <;> intro h2 <;> try simp only [bs] at h2
    ·first | contradiction | (exfalso; omega) | simp_all
    ·refine cg (aX (ac ?_))
     have hdl : (done ++ [k]).length = done.length + 1 := by simp
     apply gm (W', done ++ [k])
     ·exact rfl
     ·exact Front.nil
     ·exact bC 9 rfl
     ·exact (by repeat' constructor)
     ·exact ⟨(i2.grown y1.grown).keeps y2, u6 q2 hk2, fun j hj => (List.mem_append.1 hj).elim (q3 j) (fun h => (List.mem_singleton.1 h) ▸ hk1), y3⟩
     ·exact (by show l.length - (done ++ [k]).length < m; omega)
   ·skip
    refine ac ?_
    refine ar rfl ?_ ?_ <;> intro h3 <;> try simp only [bs] at h3
    ·refine aB (bA (ay (bA ?_)))
     refine lT Tryz.results142 (fun w' hw => ?_)
     exact ⟨⟨_, rfl⟩, .inr ⟨_, trivial, hJx _ W' _ none y1 hw.grown (fun r e => by cases e)⟩⟩
    ·first | contradiction | (exfalso; omega) | simp_all
  ·first | contradiction | (exfalso; omega) | simp_all
 ·skip
  refine ac (al ?_)
  refine ar rfl ?_ ?_ <;> intro h4 <;> try simp only [bs] at h4
  ·first | contradiction | (exfalso; omega) | simp_all
  ·refine bJ (aG (aG (bv ?_)))
   refine fx Tryz.results142 (fun w' hw => ?_)
   exact ⟨⟨_, rfl⟩, .inl ⟨done, zS hmI.nodup q2 q3 hall, hJ done Ws _ none q4 hw.grown (fun r e => by cases e)⟩⟩
theorem vn {α : Type} {f : α → Value} {l : List (UInt32 × α)} (b Bm : Nat) (w : World) (hm : MapIn (hp w) b f l) (c1 : CellsIn (hp w) Bm [.map (some b)]) :
  SeqStopsK Fence.wide 2 Tryz.prog 142 [.pointer (some ⟨Bm, 0, none⟩)].toArray (fun x : UInt32 => #[.int .u32 x.toNat]) KeepsWalks (fun xs => xs.Perm (l.map (·.1))) (fun _ => True) l.length w := by
 obtain ⟨es, ck, hb, hm⟩ := hm
 intro lv J Jx W hBel hJ hJx hY h0
 have hle : Hp.le (hp w) (hp W) := fun k o e => (hBel.block k (Array.getElem?_eq_some_iff.1 (show w.heap[k]? = some o from e)).1).trans e
 exact callsIn_wide.2 (D9 b Bm es ck hm W (c1.mono hle) (hle b _ hb) lv W.heap.size (Nat.le_refl _) J Jx hJ hJx hY h0)
theorem wn (g : Nat) (lb : List Value) (keys : List UInt32) (Nm : Nat) (hN : Nm ≤ 1000000) (eg : ∀ (args : Array Value) (w : World), (callFunc g args).run Tryz.prog w = .ok (.enter g args) w) (w : World) (hseq : SeqStopsK Fence.wide 2 Tryz.prog g lb.toArray (fun x : UInt32 => #[.int .u32 x.toNat]) KeepsWalks (fun xs => xs.Perm keys) (fun _ => True) Nm w) :
  Calls Tryz.prog 197 #[.slice none 0 0, .func (.func g) #[] lb.toArray] w (fun e w' => ∃ i : Value × List UInt32, e = .returned i.1 ∧ Below w.heap.size w w' ∧ NewEnts w w' [rowE i.1 23 ao i.2] ∧ i.2.Perm keys) := by
 refine I4 Tryz.func197 rfl Tryz.ntmps197 rfl ?_
 refine af ?_
 refine dO rfl rfl (fun b1 => ?_)
 refine zz0 (ab rfl) (ad (al (af (zz0 (aa rfl) (ad (aF (bZ 23 ao ?_)))))))
 refine B5 (α := UInt32) (ι := Value × List UInt32) (lb := lb) (fun x => .int .u32 x.toNat) (fun xs => xs.Perm keys) (fun pre j => j.2 = pre) (fun j => [cellE b1 [j.1] 31, rowE j.1 23 ao j.2]) Nm (.slice none 0 0, []) rfl rfl rfl eg rfl rfl (by repeat' constructor) rfl (fun j => .cell (.row .nil)) ?_ ?_ ?_
 ·exact fun w2 F1 hf h1 => SeqStopsK.later hseq (h1.below0 hf)
 ·intro pre x j l0 F1 hF1 hok hlen
  obtain ⟨V, xs⟩ := j
  replace hok : xs = pre := hok
  subst hok
  change Tr _ _ [cellE b1 [V] 31, rowE V 23 ao xs] _ _
  refine B9 ?_
  refine B2 (JP Fq) rfl ?_
  refine zz0 (aJ rfl dV) ?_
  refine zz0 (aa rfl) ?_
  refine iQ (E := ao) x rfl rfl ah ae c9 (fun V2 => ?_)
  refine zz1 rfl rfl ah fb (fun V3 => ?_)
  refine dA (.head _) (fun pa pc hpv => ?_)
  subst hpv
  refine jE rfl rfl cP (by repeat constructor) (by rfl) (by rfl) (by first | exact List.all_eq_true.1 rfl | exact Enc.one _ _) rfl ?_
  refine aD (aX ?_)
  exact fun a w ha hw => ⟨rfl, (.slice pa (xs ++ [x]).length pc, xs ++ [x]), rfl, Pick.heap (L' := [cellE b1 [.slice pa (xs ++ [x]).length pc] 31, rowE (.slice pa (xs ++ [x]).length pc) 23 ao (xs ++ [x])]) (by repeat' constructor) hw⟩
 ·intro xs j D F1 hF1 hS hok
  obtain ⟨V, ys⟩ := j
  replace hok : ys = xs := hok
  subst hok
  change Tr _ _ [FA D, cellE b1 [V] 31, rowE V 23 ao ys] _ _
  refine aX (ac (af (zz0 (aJ rfl dV) ?_)))
  refine zz0 (ab rfl) (ad (aB ?_))
  refine GH (D := D) Tryz.results197 rfl (by (repeat rw [dy, if_neg (by unfold mk0; omega)]); exact D7) (by repeat constructor) (fun w' hw => ?_)
  exact ⟨(V, ys), rfl, hw.below0 hF1, hw.ents0 hF1.lo (by repeat' constructor), hS⟩
theorem Av (g : Nat) (lb : List Value) (keys : List UInt32) (Nm : Nat) (hN : Nm ≤ 1000000) (eg : ∀ (args : Array Value) (w : World), (callFunc g args).run Tryz.prog w = .ok (.enter g args) w) (w : World) (hseq : SeqStopsK Fence.wide 2 Tryz.prog g lb.toArray (fun x : UInt32 => #[.int .u32 x.toNat]) KeepsWalks (fun xs => xs.Perm keys) (fun _ => True) Nm w) :
  Calls Tryz.prog 140 #[.func (.func g) #[] lb.toArray] w (fun e w' => ∃ i : Value × List UInt32, e = .returned i.1 ∧ Below w.heap.size w w' ∧ NewEnts w w' [rowE i.1 23 ao i.2] ∧ i.2.Perm keys) := by
 refine lx Tryz.func140 rfl Tryz.ntmps140 rfl ?_
 refine af (zz0 (ab rfl) (aH (zz0 (aa rfl) ?_)))
 refine eW (fun i : Value × List UInt32 => i.1) (fun i => [rowE i.1 23 ao i.2]) (ok := fun i => i.2.Perm keys) rfl rfl Tryz.call197 (fun w hw => wn g lb keys Nm hN eg w (SeqStopsK.later hseq (hw.below0 (Bg.le.refl _)))) rfl (fun i hi => ?_)
 obtain ⟨V, ys⟩ := i
 change Tr _ _ [rowE V 23 ao ys] _ _
 refine zz0 (ab rfl) (ad (aB ?_))
 refine aV Tryz.results140 rfl (fun w' hw => ?_)
 exact ⟨(V, ys), rfl, hw.below0 (Bg.le.refl _), hw.ents0 rfl (by repeat' constructor), hi⟩
theorem uO (g : Nat) (lb : List Value) (keys : List UInt32) (Nm : Nat) (hN : Nm ≤ 1000000) (eg : ∀ (args : Array Value) (w : World), (callFunc g args).run Tryz.prog w = .ok (.enter g args) w) (hK : keys.length ≤ 1000000) (w : World) (hseq : SeqStopsK Fence.wide 2 Tryz.prog g lb.toArray (fun x : UInt32 => #[.int .u32 x.toNat]) KeepsWalks (fun xs => xs.Perm keys) (fun _ => True) Nm w) :
  Calls Tryz.prog 71 #[.func (.func g) #[] lb.toArray] w (fun e w' => ∃ V : Value, e = .returned V ∧ Below w.heap.size w w' ∧ NewEnts w w' [rowE V 23 ao (gh keys)] ∧ True) := by
 refine lx Tryz.func71 rfl Tryz.ntmps71 rfl ?_
 refine af (zz0 (ab rfl) (aH (zz0 (aa rfl) ?_)))
 refine eW (fun i : Value × List UInt32 => i.1) (fun i => [rowE i.1 23 ao i.2]) (ok := fun i => i.2.Perm keys) rfl rfl Tryz.call140 (fun w hw => Av g lb keys Nm hN eg w (SeqStopsK.later hseq (hw.below0 (Bg.le.refl _)))) rfl (fun i hi => ?_)
 obtain ⟨V, ys⟩ := i
 replace hi : ys.Perm keys := hi
 have hyl := hi.length_eq
 change Tr _ _ [rowE V 23 ao ys] _ _
 refine zz0 (ab rfl) (aH (zz0 (aa rfl) (eh rfl Tryz.call141 (by repeat constructor) (fun w hw => wF ys.toArray V w (hw.ent _ (.head _)) (by rw [List.size_toArray]; omega)) rfl ?_)))
 rw [zn, xT hi]
 refine aH (zz0 (aa rfl) (zz0 (ab rfl) (ad (aB ?_))))
 refine aV Tryz.results71 rfl (fun w' hw => ?_)
 exact ⟨V, rfl, hw.below0 (Bg.le.refl _), hw.ents0 rfl (by repeat' constructor), trivial⟩
theorem kc (l : List (UInt32 × Bool)) (b : Nat) (w : World) (hm : MapIn (hp w) b df l) (hl : l.length ≤ 1000000) :
  Calls Tryz.prog 70 #[.map (some b)] w (fun e w' => ∃ V : Value, e = .returned V ∧ Below w.heap.size w w' ∧ NewEnts w w' [rowE V 23 ao (gh (l.map (·.1)))] ∧ True) := by
 have hm' : MapIn (Bg.of0 w).blk b df l := hm
 refine lx Tryz.func70 rfl Tryz.ntmps70 rfl ?_
 refine af (zz0 (ab rfl) (aH (zz0 (aa rfl) ?_)))
 refine xA (fun i : Nat => .func (.func 196) #[] #[.pointer (some ⟨i, 0, none⟩)]) (R := fun h i => CellsIn h i [.map (some b)]) (fun h h' i hh r => r.mono hh) rfl Tryz.call139 (fun w hw => D8 b w) rfl (fun i7 F7 hF7 hR7 => ?_)
 refine eW (fun V : Value => V) (fun V => [rowE V 23 ao (gh (l.map (·.1)))]) (ok := fun _ => True) (hF7.dr) rfl Tryz.call71 (fun w hw => uO _ _ (l.map (·.1)) l.length hl Tryz.call196 (by rw [List.length_map]; exact hl) w (ud b i7 w ((hm'.mono hF7.blk).mono hw.bg) (hR7.mono hw.bg))) rfl (fun V7 _ => ?_)
 refine zz0 (ab rfl) (ad (aB ?_))
 refine aV Tryz.results70 rfl (fun w' hw => ?_)
 exact ⟨V7, rfl, hw.below0 hF7, hw.ents0 hF7.lo (by repeat' constructor), trivial⟩
end Go.Proofs.YtiajjbhcpeadfaaGreat
namespace Go.HL
open Go
theorem BP (k : Ins) (s : Int) (b : List UInt8) (addr : UInt32) : (xq k s b addr).size = fk s ∧ (xq k s b addr).addr = addr := by
 unfold xq ml
 repeat' split
 all_goals exact ⟨rfl, rfl⟩
theorem Dt (s : Int) : 1 ≤ fk s ∧ fk s ≤ 6 := by unfold fk; repeat' split <;> omega
theorem Gm {b : List UInt8} {addr : UInt32} (h : (nO b addr).2 = 0) : 1 ≤ (nO b addr).1.size ∧ (nO b addr).1.size ≤ b.length ∧ (nO b addr).1.addr = addr := by
 unfold nO at h ⊢
 split at h
 ·simp at h
 ·rename_i h1
  rw [if_neg h1]
  split at h
  ·simp at h
  ·rename_i h2
   rw [if_neg h2]
   split at h
   ·simp at h
   ·rename_i h3
    rw [if_neg h3]
    dsimp only at h ⊢
    split at h
    ·simp at h
    ·rename_i h4
     rw [if_neg h4]
     obtain ⟨q1, q2⟩ := BP (rowP (b.getD 0 default)).1 (bR (rowP (b.getD 0 default)).1).2.1 b addr
     have := Dt (bR (rowP (b.getD 0 default)).1).2.1
     refine ⟨?_, ?_, q2⟩
     ·rw [q1]; omega
     ·rw [q1]; omega
end Go.HL
namespace Go.HL
open Go Go.RowKit
def sS (i : Ins) : Value := .agg (aO.enc i).toArray
theorem vc {z : Value} (hz : z = sS cx) (o : Option Ins) : uc sS z o = .agg (aO.enc (o.getD cx)).toArray := by
 subst hz
 cases o <;> rfl
section
variable {P : Program} {ops : Array Oper} {Q : Exit → Act → World → Prop} {N : Nat} {F : Bg} {L : List Ent} {M : Fr} {dst : Option Tmp} {ty : TypeId} {pos : String} {after : Array Edge} {g : Option (Nat × Bool)} {rest : List Oper} {d : Nat}
theorem xE {l : List (UInt32 × Ins)} {x y : Operand} {t K e : TypeId} {z : Value} {b : Nat} {k : UInt32} (hx : opv M x = some (.map (some b))) (hy : opv M y = some (.int .u32 k.toNat)) (hm : MapIn F.blk b sS l)
  (ht : P.underlying t = some (.map K e)) (hK : P.underlying K = some (.int .u32)) (hz : ∀ w, (zeroValue e).run P w = .ok z w) (hzz : z = sS cx) : QS P N F L M ⟨dst, .lookup t x y false, ty, pos, after, g⟩ (.agg (aO.enc ((dJ l k).getD cx)).toArray) := by
 have h := vN (P := P) (N := N) (F := F) (L := L) (M := M) (dst := dst) (ty := ty) (pos := pos) (after := after) (g := g) hx hy hm ht hK hz
 rw [vc hzz] at h; exact h
theorem Cf {l : List (UInt32 × Ins)} {x y : Operand} {t K e : TypeId} {z : Value} {b : Nat} {k : UInt32} (hx : opv M x = some (.map (some b))) (hy : opv M y = some (.int .u32 k.toNat)) (hm : mapE b sS l ∈ L)
  (ht : P.underlying t = some (.map K e)) (hK : P.underlying K = some (.int .u32)) (hz : ∀ w, (zeroValue e).run P w = .ok z w) (hzz : z = sS cx) : QS P N F L M ⟨dst, .lookup t x y true, ty, pos, after, g⟩ (.tuple #[.agg (aO.enc ((dJ l k).getD cx)).toArray, .bool (dJ l k).isSome]) := by
 have h := xC (P := P) (N := N) (F := F) (L := L) (M := M) (dst := dst) (ty := ty) (pos := pos) (after := after) (g := g) hx hy hm ht hK hz
 rw [vc hzz] at h; exact h
theorem AU {l : List (UInt32 × Ins)} {x y : Operand} {t K e : TypeId} {z : Value} {b : Nat} {k : UInt32} (hx : opv M x = some (.map (some b))) (hy : opv M y = some (.int .u32 k.toNat)) (hm : MapIn F.blk b sS l)
  (ht : P.underlying t = some (.map K e)) (hK : P.underlying K = some (.int .u32)) (hz : ∀ w, (zeroValue e).run P w = .ok z w) (hzz : z = sS cx) : QS P N F L M ⟨dst, .lookup t x y true, ty, pos, after, g⟩ (.tuple #[.agg (aO.enc ((dJ l k).getD cx)).toArray, .bool (dJ l k).isSome]) := by
 have h := re (P := P) (N := N) (F := F) (L := L) (M := M) (dst := dst) (ty := ty) (pos := pos) (after := after) (g := g) hx hy hm ht hK hz
 rw [vc hzz] at h; exact h
theorem El {α : Type} {E : Enc α} {xs : List α} {x hi : Operand} {t e T : TypeId} {V : Value} {k : Nat} {kk : IntKind} {n : Int} {L1 : List Ent} (hx : opv M x = some V) (hV : Del (rowE V T E xs) L L1) (hhi : opv M hi = some (.int kk n))
  (ht : P.underlying t = some (.slice e)) (hz : ∀ w, (sizeOf e).run P w = .ok k w) (hn : 0 ≤ n ∧ n ≤ xs.length) (hd : Nat.ble (d + 1) N = true)
  (K : ∀ V', Tr N F (rowE V' T E (xs.take n.toNat) :: L1) ((d, V') :: M) (wpList P ops Q rest)) : Tr N F L M (wpList P ops Q (⟨some d, .slice t x none (some hi) none, ty, pos, after, none⟩ :: rest)) := by
 intro a w ha hw
 refine wpList_plain rfl fun K' hK => ?_
 have hf := hw.front hV
 have hrow : RowOK V T E xs (V.ownBlock.bind (w.heap[·]?)) := hf.ent _ (.head _)
 obtain ⟨m, rfl⟩ : ∃ m : Nat, n = (m : Int) := ⟨n.toNat, by omega⟩
 have hm : m ≤ xs.length := by omega
 obtain ⟨av, cv, hV', hle⟩ : ∃ av cv, V = .slice av xs.length cv ∧ xs.length ≤ cv := by
  rcases hrow with ⟨rfl, rfl⟩ | ⟨gb, cap, cur, rfl, _, h1, _⟩
  ·exact ⟨none, 0, rfl, Nat.le_refl _⟩
  ·exact ⟨_, _, rfl, h1⟩
 have hb : ∀ w, (Instr.sliceBounds true xs.length cv none (some (.int kk (m : Int))) none).run P w = .ok (0, m, cv) w := by
  intro w
  have := te (P := P) (n := xs.length) (c := cv) (lo := none) (hi := some (kk, (m : Int))) w (by simp [kZ]) (by simp [kZ, ky]) (by simp only [ky]; omega) hle
  simpa [kZ, ky] using this
 have hr := rr (P := P) ht hz w (a := av) hb
 have hv : (if cv = 0 then av else av.map (·.add (0 * k))) = av := by
  split
  ·rfl
  ·cases av with
   | none => rfl
   | some a0 => simp [Addr.add]
 rw [hv] at hr
 simp only [Nat.sub_zero] at hr
 unfold Oper.wp
 simp only [execOp, ha.eval hx, ha.eval hhi, Option.map_none, Option.map_some, Sem.run_bind, hV', hr, Result.andThen_ok, Sem.run_pure, Oper.upon]
 refine hK _ _ (K _ _ _ (ha.put (Nat.le_of_ble_eq_true hd)) ?_)
 subst hV'
 have hL1 : HpOK F (rowE (.slice av xs.length cv) T E xs :: L1) w := hf
 have htk : (xs.take ((m : Int)).toNat).length = m := by rw [List.length_take, Int.toNat_natCast]; omega
 rcases hrow with ⟨h1, h2⟩ | ⟨gb, cap, cur, h1, ho, hc1, hc2, hc3, hc4⟩
 ·subst h2
  simp only [Value.slice.injEq] at h1
  obtain ⟨rfl, _, rfl⟩ := h1
  have hm0 : m = 0 := by simpa using hm
  subst hm0
  exact hL1
 ·simp only [Value.slice.injEq] at h1
  obtain ⟨rfl, _, rfl⟩ := h1
  have e1 : rowE (.slice (some ⟨gb, 0, none⟩) xs.length cv) T E xs = ⟨some gb, RowOK (.slice (some ⟨gb, 0, none⟩) xs.length cv) T E xs⟩ := rfl
  have e2 : rowE (.slice (some ⟨gb, 0, none⟩) m cv) T E (xs.take ((m : Int)).toNat) = ⟨some gb, RowOK (.slice (some ⟨gb, 0, none⟩) m cv) T E (xs.take ((m : Int)).toNat)⟩ := rfl
  rw [e1] at hL1
  rw [e2]
  refine HpOK.set hL1 (.here _) rfl rfl rfl (Nat.le_refl _) (Nat.le_refl _) (fun _ _ _ => rfl) ?_
  refine .inr ⟨gb, cv, cur, by rw [htk], ho, by rw [htk]; omega, hc2, hc3, ?_⟩
  rw [htk, Int.toNat_natCast]
  have hle2 : m * E.k ≤ xs.length * E.k := Nat.mul_le_mul_right _ hm
  have h3 : cur.toList.take (m * E.k) = (cur.toList.take (xs.length * E.k)).take (m * E.k) := by rw [List.take_take, Nat.min_eq_left hle2]
  rw [h3, hc4]
  have h4 : xs.flatMap E.enc = (xs.take m).flatMap E.enc ++ (xs.drop m).flatMap E.enc := by rw [← List.flatMap_append, List.take_append_drop]
  have h5 : ((xs.take m).flatMap E.enc).length = m * E.k := by rw [dG, List.length_take, Nat.min_eq_left hm]
  rw [h4, ← h5, List.take_left]
end
end Go.HL
namespace Go.HL
open Go
structure TabV where
 data : List UInt32
 dp : Option Addr
 dc : Nat
 deriving Inhabited
def gi : Enc TabV := ⟨1, fun t => [.slice t.dp t.data.length t.dc], fun _ => rfl, fun x v h => by simp at h; subst h; rfl⟩
def TabIn (h : Hp) (l : List TabV) : Prop := ∀ t ∈ l, Sl h ao t.data (.slice t.dp t.data.length t.dc)
theorem TabIn.mono {h h' : Hp} {l : List TabV} (d : TabIn h l) (hh : Hp.le h h') : TabIn h' l := fun s hs => (d s hs).mono hh
def pY (ts : List TabV) : Prop := ts.length ≤ 700 ∧ ∀ t ∈ ts, t.data.length ≤ 64
def Di (l : List SecV) (a : UInt32) : List UInt8 := ((l.getD (cK l a).toNat default).data.drop (a - (l.getD (cK l a).toNat default).addr).toNat).take 6
def DR (l : List SecV) (a : UInt32) : Bool := decide (cK l a < 0) || !(l.getD (cK l a).toNat default).ex
def atP (l : List SecV) (a : UInt32) : Ins × Bool := if DR l a = true then (cx, false) else ((nO (Di l a) a).1, decide ((nO (Di l a) a).2 = 0))
def vq (op : Int) : Bool := decide (op = 21 ∨ op = 22 ∨ op = 24)
def fB (ts : List TabV) (at_ : List UInt32) (a : UInt32) : Option (List UInt32) :=
 if dw (fun x => decide (a = x)) 0 at_ < 0 then none else some (ts.getD (dw (fun x => decide (a = x)) 0 at_).toNat default).data
def dX (i : Ins) : List UInt32 := if jn i = 0 then (if (dj i).2 = true then [(dj i).1] else []) ++ (if lF i = true then [] else [o6 i]) else []
def kA (ts : List TabV) (at_ : List UInt32) (i : Ins) : List UInt32 := dX i ++ (if vq i.op = true then (fB ts at_ i.addr).getD [] else [])
def kr (ts : List TabV) (at_ : List UInt32) (i : Ins) : List UInt32 := if i.op = 23 then [i.imm] else if i.op = 24 then (fB ts at_ i.addr).getD [] else []
def qG (ts : List TabV) (at_ : List UInt32) (i : Ins) : Bool := vq i.op && (fB ts at_ i.addr).isNone
def sO (ts : List TabV) (at_ : List UInt32) (a : UInt32) : Value :=
 if dw (fun x => decide (a = x)) 0 at_ < 0 then .slice none 0 0 else
  .slice (ts.getD (dw (fun x => decide (a = x)) 0 at_).toNat default).dp (ts.getD (dw (fun x => decide (a = x)) 0 at_).toNat default).data.length (ts.getD (dw (fun x => decide (a = x)) 0 at_).toNat default).dc
section
variable {ts : List TabV} {at_ : List UInt32} {a : UInt32}
theorem wT (h : dw (fun x => decide (a = x)) 0 at_ < 0) : sO ts at_ a = .slice none 0 0 := by unfold sO; rw [if_pos h]
theorem wU (h : dw (fun x => decide (a = x)) 0 at_ < 0) : fB ts at_ a = none := by unfold fB; rw [if_pos h]
theorem vl (h : ¬ dw (fun x => decide (a = x)) 0 at_ < 0) : sO ts at_ a = .slice (ts.getD (dw (fun x => decide (a = x)) 0 at_).toNat default).dp (ts.getD (dw (fun x => decide (a = x)) 0 at_).toNat default).data.length (ts.getD (dw (fun x => decide (a = x)) 0 at_).toNat default).dc := by unfold sO; rw [if_neg h]
theorem vm (h : ¬ dw (fun x => decide (a = x)) 0 at_ < 0) : fB ts at_ a = some (ts.getD (dw (fun x => decide (a = x)) 0 at_).toNat default).data := by unfold fB; rw [if_neg h]
theorem FD {H : Hp} (hTI : TabIn H ts) (hTB : pY ts) (hl : ts.length = at_.length) : Sl H ao ((fB ts at_ a).getD []) (sO ts at_ a) := by
 by_cases h : dw (fun x => decide (a = x)) 0 at_ < 0
 ·rw [wU h, wT h]; exact Sl.nil _ _
 ·rw [vm h, vl h]
  have := iJ (fun x => decide (a = x)) at_ 0
  exact hTI _ (cM (by omega))
end
theorem ki (i : Ins) : (dX i).length ≤ 2 := by
 unfold dX
 repeat' split
 all_goals simp
theorem sN {ts : List TabV} (hT : pY ts) (at_ : List UInt32) (a : UInt32) : ((fB ts at_ a).getD []).length ≤ 64 := by
 unfold fB
 split
 ·simp
 ·simp only [Option.getD_some]
  by_cases h : (dw (fun x => decide (a = x)) 0 at_).toNat < ts.length
  ·exact hT.2 _ (cM h)
  ·rw [List.getD_eq_getElem?_getD, List.getElem?_eq_none (by omega)]; exact Nat.zero_le _
theorem vk {ts : List TabV} (hT : pY ts) (at_ : List UInt32) (i : Ins) : (kA ts at_ i).length ≤ 66 := by
 have h1 := ki i
 have h2 := sN hT at_ i.addr
 unfold kA
 rw [List.length_append]
 split
 ·omega
 ·simp; omega
theorem C0 {l : List SecV} {a : UInt32} (h : (atP l a).2 = true) : (atP l a).1.addr = a ∧ DR l a = false ∧ (nO (Di l a) a).2 = 0 := by
 unfold atP at h ⊢
 split at h
 ·cases h
 ·rename_i hn
  rw [if_neg hn]
  have h' := of_decide_eq_true h
  exact ⟨(Gm h').2.2, by simpa using hn, h'⟩
inductive Reach (l : List SecV) (ts : List TabV) (at_ es : List UInt32) : UInt32 → Prop
 | ent (a : UInt32) (h : a ∈ es) : Reach l ts at_ es a
 | step (b a : UInt32) (h : Reach l ts at_ es b) (hf : (atP l b).2 = true) (ha : a ∈ kA ts at_ (atP l b).1) : Reach l ts at_ es a
structure CodeP where
 ins : List Ins
 ents : List UInt32
 unk : List UInt32
 bad : List UInt32
structure IsCode (l : List SecV) (ts : List TabV) (at_ es : List UInt32) (c : CodeP) : Prop where
 ins : ∃ ks : List UInt32, ks.Pairwise (· < ·) ∧ (∀ a, a ∈ ks ↔ Reach l ts at_ es a ∧ (atP l a).2 = true) ∧ c.ins = ks.map fun a => (atP l a).1
 bad : c.bad.Pairwise (· < ·) ∧ ∀ a, a ∈ c.bad ↔ Reach l ts at_ es a ∧ (atP l a).2 = false
 ents : c.ents.Pairwise (· < ·) ∧ ∀ a, a ∈ c.ents ↔ (Reach l ts at_ es a ∧ (atP l a).2 = true) ∧ (a ∈ es ∨ ∃ b, (Reach l ts at_ es b ∧ (atP l b).2 = true) ∧ a ∈ kr ts at_ (atP l b).1)
 unk : c.unk.Pairwise (· < ·) ∧ ∀ a, a ∈ c.unk ↔ (Reach l ts at_ es a ∧ (atP l a).2 = true) ∧ qG ts at_ (atP l a).1 = true
inductive WalkIs (l : List SecV) (ts : List TabV) (at_ es : List UInt32) (c : CodeP) (e : Int) : Prop
 | arg (h : ts.length ≠ at_.length) (he : e = 2) (hc : c = ⟨[], [], [], []⟩) : WalkIs l ts at_ es c e
 | chk (h : ts.length = at_.length) (h1 : dT l ≠ 0) (he : e = dT l) (hc : c = ⟨[], [], [], []⟩) : WalkIs l ts at_ es c e
 | ok (h : ts.length = at_.length) (h1 : dT l = 0) (he : e = 0) (hc : IsCode l ts at_ es c) : WalkIs l ts at_ es c e
theorem Is {l : List UInt32} (h : l.Pairwise (· < ·)) : l.Pairwise (fun x y => x ≤ y) := h.imp fun h => by rw [UInt32.lt_iff_toNat_lt] at h; rw [UInt32.le_iff_toNat_le]; omega
theorem rL {l : List UInt32} (h : l.Pairwise (· < ·)) : l.Nodup := h.imp fun h e => by subst e; simp at h
theorem yH {l l' : List UInt32} (h : l.Pairwise (· < ·)) (h' : l'.Pairwise (· < ·)) (hm : ∀ a, a ∈ l ↔ a ∈ l') : l = l' :=
 sC ((List.perm_ext_iff_of_nodup (rL h) (rL h')).2 hm) (Is h) (Is h')
theorem rp {l : List UInt32} (h : l.Nodup) : (gh l).Pairwise (· < ·) := by
 have h1 := mB l
 have h2 : (gh l).Nodup := (lX l).nodup_iff.2 h
 exact (List.pairwise_and_iff.2 ⟨h1, h2⟩).imp fun ⟨a, b⟩ => by
  rw [UInt32.le_iff_toNat_le] at a
  rw [UInt32.lt_iff_toNat_lt]
  have : ¬ (_ : UInt32).toNat = (_ : UInt32).toNat := fun e => b (UInt32.toNat_inj.1 e)
  omega
theorem nJ {l : List UInt32} {a : UInt32} : a ∈ gh l ↔ a ∈ l := (lX l).mem_iff
theorem IsCode.eq {l : List SecV} {ts : List TabV} {at_ es es' : List UInt32} {c c' : CodeP} (h : IsCode l ts at_ es c) (h' : IsCode l ts at_ es' c') (hr : ∀ a, Reach l ts at_ es a ↔ Reach l ts at_ es' a) (he : ∀ a, a ∈ es ↔ a ∈ es') : c = c' := by
 obtain ⟨ks, k1, k2, k3⟩ := h.ins
 obtain ⟨ks', k1', k2', k3'⟩ := h'.ins
 have e1 : ks = ks' := yH k1 k1' fun a => by rw [k2, k2', hr]
 have e2 : c.bad = c'.bad := yH h.bad.1 h'.bad.1 fun a => by rw [h.bad.2, h'.bad.2, hr]
 have e3 : c.unk = c'.unk := yH h.unk.1 h'.unk.1 fun a => by rw [h.unk.2, h'.unk.2, hr]
 have e4 : c.ents = c'.ents := yH h.ents.1 h'.ents.1 fun a => by rw [h.ents.2, h'.ents.2, hr, he]; simp only [hr]
 cases c; cases c'
 simp only at *
 rw [k3, k3', e1, e2, e3, e4]
theorem jk {α : Type} {m : List (UInt32 × α)} {k j : UInt32} {x : α} : j ∈ (fm m k x).map (·.1) ↔ j = k ∨ j ∈ m.map (·.1) := by
 rw [sK]
 split
 ·rename_i h
  constructor
  ·exact .inr
  ·rintro (rfl | h')
   ·exact kY.1 h
   ·exact h'
 ·simp only [List.mem_append, List.mem_singleton]
  exact ⟨fun h => h.symm, fun h => h.symm⟩
def gK (m : List (UInt32 × Bool)) (ks : List UInt32) : List (UInt32 × Bool) := ks.foldl (fun m k => fm m k true) m
theorem sL : ∀ (ks : List UInt32) (m : List (UInt32 × Bool)) {j : UInt32}, j ∈ (gK m ks).map (·.1) ↔ j ∈ ks ∨ j ∈ m.map (·.1)
 | [], m, j => by simp [gK]
 | k :: ks, m, j => by
  have ih := sL ks (fm m k true) (j := j)
  show j ∈ (gK (fm m k true) ks).map (·.1) ↔ _
  rw [ih, jk, List.mem_cons]
  constructor
  ·rintro (h | h | h)
   ·exact .inl (.inr h)
   ·exact .inl (.inl h)
   ·exact .inr h
  ·rintro ((h | h) | h)
   ·exact .inr (.inl h)
   ·exact .inl h
   ·exact .inr (.inr h)
theorem vd (m : List (UInt32 × Bool)) (ks : List UInt32) (k : UInt32) : gK m (ks ++ [k]) = fm (gK m ks) k true := by simp [gK]
theorem BO {ts : List TabV} {at_ : List UInt32} {i : Ins} {ents m1 : List (UInt32 × Bool)} (h : m1 = if i.op = 23 then fm ents i.imm true else ents) (hn : vq i.op = false) : gK ents (kr ts at_ i) = m1 := by
 have hq : ¬ i.op = 24 := fun e => by unfold vq at hn; rw [e] at hn; exact absurd hn (by decide)
 subst h
 unfold kr
 rw [if_neg hq]
 split <;> rfl
theorem Gz {ts : List TabV} {at_ : List UInt32} {i : Ins} {ents m1 m2 : List (UInt32 × Bool)} (h : m1 = if i.op = 23 then fm ents i.imm true else ents) (h2 : m2 = if i.op = 24 then gK m1 ((fB ts at_ i.addr).getD []) else m1) (hn : vq i.op = true) : gK ents (kr ts at_ i) = m2 := by
 have hq : ¬ i.op = 23 := fun e => by unfold vq at hn; rw [e] at hn; exact absurd hn (by decide)
 rw [if_neg hq] at h
 subst h
 subst h2
 unfold kr
 rw [if_neg hq]
 split <;> rfl
theorem Hd {ts : List TabV} {at_ : List UInt32} {i : Ins} {unk u1 : List (UInt32 × Bool)} (h : u1 = if (fB ts at_ i.addr).isSome = true then unk else fm unk i.addr true) (hn : vq i.op = true) : (if qG ts at_ i = true then fm unk i.addr true else unk) = u1 := by
 subst h
 unfold qG
 rw [hn, Bool.true_and]
 cases fB ts at_ i.addr <;> rfl
theorem sJ : ∀ (ks : List UInt32) (m : List (UInt32 × Bool)), (gK m ks).length ≤ m.length + ks.length
 | [], m => by simp [gK]
 | k :: ks, m => by
  have ih := sJ ks (fm m k true)
  have := ve m k true
  show (gK (fm m k true) ks).length ≤ _
  rw [List.length_cons]; omega
structure DSt where
 ins : List (UInt32 × Ins)
 bad : List (UInt32 × Bool)
 ents : List (UInt32 × Bool)
 unk : List (UInt32 × Bool)
 rest : List UInt32
def stepD (l : List SecV) (ts : List TabV) (at_ : List UInt32) (a : UInt32) (s : DSt) (r : List UInt32) : DSt :=
 ⟨fm s.ins a (atP l a).1, s.bad, gK s.ents (kr ts at_ (atP l a).1), if qG ts at_ (atP l a).1 = true then fm s.unk (atP l a).1.addr true else s.unk, r ++ kA ts at_ (atP l a).1⟩
structure DInv (l : List SecV) (ts : List TabV) (at_ es : List UInt32) (s : DSt) : Prop where
 nIns : (s.ins.map (·.1)).Nodup
 nBad : (s.bad.map (·.1)).Nodup
 nEnts : (s.ents.map (·.1)).Nodup
 nUnk : (s.unk.map (·.1)).Nodup
 ins : ∀ k x, dJ s.ins k = some x → Reach l ts at_ es k ∧ (atP l k).2 = true ∧ x = (atP l k).1
 bad : ∀ k x, dJ s.bad k = some x → Reach l ts at_ es k ∧ (atP l k).2 = false ∧ x = true
 rest : ∀ a ∈ s.rest, Reach l ts at_ es a
 start : ∀ a ∈ es, a ∈ s.ins.map (·.1) ∨ a ∈ s.bad.map (·.1) ∨ a ∈ s.rest
 close : ∀ k ∈ s.ins.map (·.1), ∀ a ∈ kA ts at_ (atP l k).1, a ∈ s.ins.map (·.1) ∨ a ∈ s.bad.map (·.1) ∨ a ∈ s.rest
 ents : ∀ a, a ∈ s.ents.map (·.1) ↔ a ∈ es ∨ ∃ k ∈ s.ins.map (·.1), a ∈ kr ts at_ (atP l k).1
 unk : ∀ a, a ∈ s.unk.map (·.1) ↔ a ∈ s.ins.map (·.1) ∧ qG ts at_ (atP l a).1 = true
 lRest : s.rest.length + s.bad.length ≤ es.length + 66 * s.ins.length
 lEnts : s.ents.length ≤ es.length + 66 * s.ins.length
 lUnk : s.unk.length ≤ s.ins.length
section
variable {l : List SecV} {ts : List TabV} {at_ es : List UInt32} {s : DSt} {r : List UInt32} {a : UInt32}
theorem ov {α : Type} {m : List (UInt32 × α)} {k : UInt32} (h : k ∈ m.map (·.1)) : ∃ x, dJ m k = some x := Option.isSome_iff_exists.1 (kY.2 h)
theorem ym {α : Type} {m : List (UInt32 × α)} {k : UInt32} {x : α} (h : dJ m k = some x) : k ∈ m.map (·.1) := kY.1 (by rw [h]; rfl)
theorem DInv.begin : DInv l ts at_ es ⟨[], [], gK [] es, [], es⟩ := by
 refine ⟨List.nodup_nil, List.nodup_nil, ?_, List.nodup_nil, fun k x h => by simp [dJ] at h, fun k x h => by simp [dJ] at h, fun a h => .ent a h, fun a h => .inr (.inr h), fun k h => by simp at h, fun a => ?_, fun a => by simp, by simp, ?_, by simp⟩
 ·have : ∀ (ks : List UInt32) (m : List (UInt32 × Bool)), (m.map (·.1)).Nodup → ((gK m ks).map (·.1)).Nodup := by
   intro ks
   induction ks with
   | nil => intro m h; exact h
   | cons k ks ih => intro m h; exact ih _ (ma k true h)
  exact this es [] List.nodup_nil
 ·show a ∈ (gK [] es).map (·.1) ↔ _
  rw [sL]; simp
 ·have := sJ es []
  simpa using this
theorem DInv.skip (h : DInv l ts at_ es s) (hr : s.rest = r ++ [a]) (hk : a ∈ s.ins.map (·.1) ∨ a ∈ s.bad.map (·.1)) : DInv l ts at_ es { s with rest := r } := by
 have mv : ∀ b, b ∈ s.ins.map (·.1) ∨ b ∈ s.bad.map (·.1) ∨ b ∈ s.rest → b ∈ s.ins.map (·.1) ∨ b ∈ s.bad.map (·.1) ∨ b ∈ r := by
  rintro b (h1 | h1 | h1)
  ·exact .inl h1
  ·exact .inr (.inl h1)
  ·rw [hr] at h1
   rcases List.mem_append.1 h1 with h2 | h2
   ·exact .inr (.inr h2)
   ·rw [List.mem_singleton.1 h2]
    rcases hk with hk | hk
    ·exact .inl hk
    ·exact .inr (.inl hk)
 refine ⟨h.nIns, h.nBad, h.nEnts, h.nUnk, h.ins, h.bad, fun b hb => h.rest b (by rw [hr]; exact List.mem_append_left _ hb), fun b hb => mv b (h.start b hb), fun k hk b hb => mv b (h.close k hk b hb), h.ents, h.unk, ?_, h.lEnts, h.lUnk⟩
 have := h.lRest
 rw [hr, List.length_append, List.length_singleton] at this
 show r.length + s.bad.length ≤ es.length + 66 * s.ins.length
 omega
theorem DInv.isBad (h : DInv l ts at_ es s) (hr : s.rest = r ++ [a]) (hf : (atP l a).2 = false) : DInv l ts at_ es { s with rest := r, bad := fm s.bad a true } := by
 have mv : ∀ b, b ∈ s.ins.map (·.1) ∨ b ∈ s.bad.map (·.1) ∨ b ∈ s.rest → b ∈ s.ins.map (·.1) ∨ b ∈ (fm s.bad a true).map (·.1) ∨ b ∈ r := by
  rintro b (h1 | h1 | h1)
  ·exact .inl h1
  ·exact .inr (.inl (jk.2 (.inr h1)))
  ·rw [hr] at h1
   rcases List.mem_append.1 h1 with h2 | h2
   ·exact .inr (.inr h2)
   ·exact .inr (.inl (jk.2 (.inl (List.mem_singleton.1 h2))))
 refine ⟨h.nIns, ma a true h.nBad, h.nEnts, h.nUnk, h.ins, fun k x hx => ?_, fun b hb => h.rest b (by rw [hr]; exact List.mem_append_left _ hb), fun b hb => mv b (h.start b hb), fun k hk b hb => mv b (h.close k hk b hb), h.ents, h.unk, ?_, h.lEnts, h.lUnk⟩
 ·have hx' : dJ (fm s.bad a true) k = some x := hx
  rw [vg] at hx'
  split at hx'
  ·rename_i e
   subst e
   cases hx'
   exact ⟨h.rest k (by rw [hr]; simp), hf, rfl⟩
  ·exact h.bad k x hx'
 ·have := h.lRest
  have h2 := ve s.bad a true
  rw [hr, List.length_append, List.length_singleton] at this
  show r.length + (fm s.bad a true).length ≤ es.length + 66 * s.ins.length
  omega
theorem DInv.found (hT : pY ts) (h : DInv l ts at_ es s) (hr : s.rest = r ++ [a]) (hf : (atP l a).2 = true) (hn : a ∉ s.ins.map (·.1)) : DInv l ts at_ es (stepD l ts at_ a s r) := by
 have ha := (C0 hf).1
 have hra : Reach l ts at_ es a := h.rest a (by rw [hr]; simp)
 have mv : ∀ b, b ∈ s.ins.map (·.1) ∨ b ∈ s.bad.map (·.1) ∨ b ∈ s.rest → b ∈ (fm s.ins a (atP l a).1).map (·.1) ∨ b ∈ s.bad.map (·.1) ∨ b ∈ r ++ kA ts at_ (atP l a).1 := by
  rintro b (h1 | h1 | h1)
  ·exact .inl (jk.2 (.inr h1))
  ·exact .inr (.inl h1)
  ·rw [hr] at h1
   rcases List.mem_append.1 h1 with h2 | h2
   ·exact .inr (.inr (List.mem_append_left _ h2))
   ·exact .inl (jk.2 (.inl (List.mem_singleton.1 h2)))
 have hlen : (fm s.ins a (atP l a).1).length = s.ins.length + 1 := by
  rw [rI]
  ·simp
  ·cases hq : dJ s.ins a with
   | none => rfl
   | some x => exact absurd (ym hq) hn
 have hl := vk hT at_ (atP l a).1
 have hcl : (kr ts at_ (atP l a).1).length ≤ 66 := by
  have := sN hT at_ (atP l a).1.addr
  unfold kr
  repeat' split
  all_goals simp <;> omega
 refine ⟨ma a _ h.nIns, h.nBad, ?_, ?_, fun k x hx => ?_, h.bad, fun b hb => ?_, fun b hb => mv b (h.start b hb), fun k hk b hb => ?_, fun b => ?_, fun b => ?_, ?_, ?_, ?_⟩
 ·have : ∀ (ks : List UInt32) (m : List (UInt32 × Bool)), (m.map (·.1)).Nodup → ((gK m ks).map (·.1)).Nodup := by
   intro ks
   induction ks with
   | nil => intro m h; exact h
   | cons k ks ih => intro m h; exact ih _ (ma k true h)
  exact this _ _ h.nEnts
 ·show ((if qG ts at_ (atP l a).1 = true then fm s.unk (atP l a).1.addr true else s.unk).map (·.1)).Nodup
  split
  ·exact ma _ _ h.nUnk
  ·exact h.nUnk
 ·have hx' : dJ (fm s.ins a (atP l a).1) k = some x := hx
  rw [vg] at hx'
  split at hx'
  ·rename_i e
   subst e
   cases hx'
   exact ⟨hra, hf, rfl⟩
  ·exact h.ins k x hx'
 ·rcases List.mem_append.1 (show b ∈ r ++ kA ts at_ (atP l a).1 from hb) with h1 | h1
  ·exact h.rest b (by rw [hr]; exact List.mem_append_left _ h1)
  ·exact .step a b hra hf h1
 ·rcases jk.1 (show k ∈ (fm s.ins a (atP l a).1).map (·.1) from hk) with rfl | hk
  ·exact .inr (.inr (List.mem_append_right _ hb))
  ·exact mv b (h.close k hk b hb)
 ·show b ∈ (gK s.ents (kr ts at_ (atP l a).1)).map (·.1) ↔ b ∈ es ∨ ∃ k ∈ (fm s.ins a (atP l a).1).map (·.1), _
  rw [sL, h.ents]
  constructor
  ·rintro (h1 | h1 | ⟨k, h1, h2⟩)
   ·exact .inr ⟨a, jk.2 (.inl rfl), h1⟩
   ·exact .inl h1
   ·exact .inr ⟨k, jk.2 (.inr h1), h2⟩
  ·rintro (h1 | ⟨k, h1, h2⟩)
   ·exact .inr (.inl h1)
   ·rcases jk.1 h1 with rfl | h1
    ·exact .inl h2
    ·exact .inr (.inr ⟨k, h1, h2⟩)
 ·show b ∈ (if qG ts at_ (atP l a).1 = true then fm s.unk (atP l a).1.addr true else s.unk).map (·.1) ↔ b ∈ (fm s.ins a (atP l a).1).map (·.1) ∧ _
  rw [jk]
  split
  ·rename_i hu
   rw [jk, h.unk, ha]
   constructor
   ·rintro (rfl | ⟨h1, h2⟩)
    ·exact ⟨.inl rfl, hu⟩
    ·exact ⟨.inr h1, h2⟩
   ·rintro ⟨h1 | h1, h2⟩
    ·exact .inl h1
    ·exact .inr ⟨h1, h2⟩
  ·rename_i hu
   rw [h.unk]
   constructor
   ·rintro ⟨h1, h2⟩
    exact ⟨.inr h1, h2⟩
   ·rintro ⟨h1 | h1, h2⟩
    ·subst h1; exact absurd h2 hu
    ·exact ⟨h1, h2⟩
 ·have := h.lRest
  rw [hr, List.length_append, List.length_singleton] at this
  show (r ++ kA ts at_ (atP l a).1).length + s.bad.length ≤ es.length + 66 * (fm s.ins a (atP l a).1).length
  rw [hlen, List.length_append]
  omega
 ·have := h.lEnts
  have h2 := sJ (kr ts at_ (atP l a).1) s.ents
  show (gK s.ents (kr ts at_ (atP l a).1)).length ≤ es.length + 66 * (fm s.ins a (atP l a).1).length
  rw [hlen]; omega
 ·have := h.lUnk
  show (if qG ts at_ (atP l a).1 = true then fm s.unk (atP l a).1.addr true else s.unk).length ≤ (fm s.ins a (atP l a).1).length
  rw [hlen]
  split
  ·have := ve s.unk (atP l a).1.addr true; omega
  ·omega
theorem DInv.all (h : DInv l ts at_ es s) (hr : s.rest = []) : ∀ b, Reach l ts at_ es b → b ∈ s.ins.map (·.1) ∨ b ∈ s.bad.map (·.1) := by
 intro b hb
 have cut : ∀ c, c ∈ s.ins.map (·.1) ∨ c ∈ s.bad.map (·.1) ∨ c ∈ s.rest → c ∈ s.ins.map (·.1) ∨ c ∈ s.bad.map (·.1) := by
  rintro c (h1 | h1 | h1)
  ·exact .inl h1
  ·exact .inr h1
  ·rw [hr] at h1; cases h1
 induction hb with
 | ent a ha => exact cut a (h.start a ha)
 | step b a hb hf ha ih =>
  rcases ih with h1 | h1
  ·exact cut a (h.close b h1 a ha)
  ·obtain ⟨x, hx⟩ := ov h1
   have := (h.bad b x hx).2.1
   rw [hf] at this; cases this
theorem DInv.insKeys (h : DInv l ts at_ es s) (hr : s.rest = []) (b : UInt32) : b ∈ s.ins.map (·.1) ↔ Reach l ts at_ es b ∧ (atP l b).2 = true := by
 constructor
 ·intro h1
  obtain ⟨x, hx⟩ := ov h1
  exact ⟨(h.ins b x hx).1, (h.ins b x hx).2.1⟩
 ·rintro ⟨h1, h2⟩
  rcases h.all hr b h1 with h3 | h3
  ·exact h3
  ·obtain ⟨x, hx⟩ := ov h3
   have := (h.bad b x hx).2.1
   rw [h2] at this; cases this
theorem DInv.code (h : DInv l ts at_ es s) (hr : s.rest = []) : IsCode l ts at_ es ⟨(gh (s.ins.map (·.1))).map fun a => (atP l a).1, (gh (s.ents.map (·.1))).filter fun a => (dJ s.ins a).isSome, gh (s.unk.map (·.1)), gh (s.bad.map (·.1))⟩ := by
 refine ⟨⟨_, rp h.nIns, fun a => by rw [nJ]; exact h.insKeys hr a, rfl⟩, ⟨rp h.nBad, fun a => ?_⟩, ⟨(rp h.nEnts).filter _, fun a => ?_⟩, ⟨rp h.nUnk, fun a => ?_⟩⟩
 ·show a ∈ gh _ ↔ _
  rw [nJ]
  constructor
  ·intro h1
   obtain ⟨x, hx⟩ := ov h1
   exact ⟨(h.bad a x hx).1, (h.bad a x hx).2.1⟩
  ·rintro ⟨h1, h2⟩
   rcases h.all hr a h1 with h3 | h3
   ·have := ((h.insKeys hr a).1 h3).2
    rw [h2] at this; cases this
   ·exact h3
 ·show a ∈ (gh _).filter _ ↔ _
  rw [List.mem_filter, nJ, h.ents, kY, h.insKeys hr]
  constructor
  ·rintro ⟨h1 | ⟨k, h1, h2⟩, h3⟩
   ·exact ⟨h3, .inl h1⟩
   ·exact ⟨h3, .inr ⟨k, (h.insKeys hr k).1 h1, h2⟩⟩
  ·rintro ⟨h3, h1 | ⟨k, h1, h2⟩⟩
   ·exact ⟨.inl h1, h3⟩
   ·exact ⟨.inr ⟨k, (h.insKeys hr k).2 h1, h2⟩, h3⟩
 ·show a ∈ gh _ ↔ _
  rw [nJ, h.unk, h.insKeys hr]
end
theorem Bu {α : Type} [Inhabited α] {xs : List α} (h : 0 < xs.length) : xs = xs.take ((xs.length : Int) - 1).toNat ++ [xs.getD ((xs.length : Int) - 1).toNat default] := by
 obtain ⟨n, hn⟩ : ∃ n, ((xs.length : Int) - 1).toNat = n := ⟨_, rfl⟩
 rw [hn]
 have h1 : n + 1 = xs.length := by omega
 have := dm (l := xs) (k := n) (by omega)
 rw [← this, h1, List.take_length]
theorem zp {ins : List (UInt32 × Ins)} {bad : List (UInt32 × Bool)} {a : UInt32} (h : (dJ ins a).isSome = true ∨ (dJ bad a).getD false = true) : a ∈ ins.map (·.1) ∨ a ∈ bad.map (·.1) := by
 rcases h with h | h
 ·exact .inl (kY.1 h)
 ·right
  cases hq : dJ bad a with
  | none => rw [hq] at h; cases h
  | some x => exact ym hq
theorem Cq {ins : List (UInt32 × Ins)} {bad : List (UInt32 × Bool)} {a : UInt32} (h : (dJ ins a).isSome = false ∧ (dJ bad a).getD false = false) : a ∉ ins.map (·.1) := fun hq => by
 have := kY.2 hq
 rw [h.1] at this; cases this
theorem IX {l : List SecV} {ts : List TabV} {at_ es : List UInt32} {s : DSt} (h : DInv l ts at_ es s) {k : UInt32} (hk : k ∈ s.ins.map (·.1)) : (dJ s.ins k).getD cx = (atP l k).1 := by
 obtain ⟨x, hx⟩ := ov hk
 rw [hx]; exact (h.ins k x hx).2.2
theorem m5 {α β : Type} [Inhabited α] (f : α → β) {l : List α} {k : Nat} (h : k < l.length) : (l.take k).map f ++ [f (l.getD k default)] = (l.take (k + 1)).map f := by
 rw [dm h, List.map_append]; rfl
theorem uf {α : Type} [Inhabited α] {p : α → Bool} {l : List α} {k : Nat} (h : k < l.length) (hp : p (l.getD k default) = true) : (l.take k).filter p ++ [l.getD k default] = (l.take (k + 1)).filter p := by
 rw [dm h, List.filter_append, List.filter_cons_of_pos hp]; rfl
theorem vy {α : Type} [Inhabited α] {p : α → Bool} {l : List α} {k : Nat} (h : k < l.length) (hp : p (l.getD k default) = false) : (l.take k).filter p = (l.take (k + 1)).filter p := by
 rw [dm h, List.filter_append, List.filter_cons_of_neg (by rw [hp]; simp)]; simp
theorem Iw (l : List SecV) (a : UInt32) : InsOK (atP l a).1 := by
 unfold atP
 split
 ·constructor <;> exact ⟨by decide, by decide⟩
 ·exact I7
def wE (l : List SecV) : List UInt32 := l.flatMap fun s => (List.range s.data.length).map fun i => s.addr + UInt32.ofNat i
def totD (l : List SecV) : Nat := (l.map fun s => s.data.length).sum
theorem uM (l : List SecV) : (wE l).length = totD l := by
 induction l with
 | nil => rfl
 | cons s l ih =>
  show (((List.range s.data.length).map fun i => s.addr + UInt32.ofNat i) ++ wE l).length = _
  rw [List.length_append, List.length_map, List.length_range, ih]
  simp [totD]
theorem yF {l : List SecV} {a : UInt32} (h : (atP l a).2 = true) : a ∈ wE l := by
 obtain ⟨_, h1, _⟩ := C0 h
 unfold DR at h1
 simp only [Bool.or_eq_false_iff, decide_eq_false_iff_not] at h1
 have hf : 0 ≤ cK l a := by omega
 have hlt := gQ (l := l) (a := a)
 have hin := mL.1 (k7 (l := l) (a := a) hf)
 refine List.mem_flatMap.2 ⟨l.getD (cK l a).toNat default, cM (by omega), ?_⟩
 obtain ⟨s, hs⟩ : ∃ s, s = l.getD (cK l a).toNat default := ⟨_, rfl⟩
 rw [← hs] at hin ⊢
 have hen : lL s ≤ (s.addr.toNat : Int) + s.data.length := by unfold lL; omega
 have ha := a.toNat_lt
 refine List.mem_map.2 ⟨a.toNat - s.addr.toNat, List.mem_range.2 (by omega), ?_⟩
 rw [← UInt32.toNat_inj, UInt32.toNat_add, UInt32.toNat_ofNat']
 omega
theorem DInv.count {l : List SecV} {ts : List TabV} {at_ es : List UInt32} {s : DSt} (h : DInv l ts at_ es s) : s.ins.length ≤ totD l := by
 have := nI (l := s.ins.map (·.1)) (l' := wE l) h.nIns fun k hk => by
  obtain ⟨x, hx⟩ := ov hk
  exact yF (h.ins k x hx).2.1
 rw [List.length_map, uM] at this
 exact this
end Go.HL
namespace Go.HL
section
variable {α : Type} [Inhabited α]
structure WO (lt : α → α → Bool) : Prop where
 irr : ∀ x, lt x x = false
 tr : ∀ x y z, lt x y = true → lt y z = true → lt x z = true
 ntr : ∀ x y z, lt x y = false → lt y z = false → lt x z = false
theorem WO.asym {lt : α → α → Bool} (h : WO lt) {x y : α} (e : lt x y = true) : lt y x = false := by
 cases e2 : lt y x
 ·rfl
 ·have := h.tr _ _ _ e e2; rw [h.irr] at this; cases this
theorem WO.lt_le {lt : α → α → Bool} (h : WO lt) {x y z : α} (e : lt x y = true) (e2 : lt z y = false) : lt x z = true := by
 cases e3 : lt x z
 ·rw [h.ntr _ _ _ e3 e2] at e; cases e
 ·rfl
theorem WO.le_lt {lt : α → α → Bool} (h : WO lt) {x y z : α} (e : lt y x = false) (e2 : lt y z = true) : lt x z = true := by
 cases e3 : lt x z
 ·rw [h.ntr _ _ _ e e3] at e2; cases e2
 ·rfl
def eqv (lt : α → α → Bool) (z x : α) : Bool := !lt z x && !lt x z
def Stab (lt : α → α → Bool) (l l' : List α) : Prop := l.Perm l' ∧ ∀ z, l.filter (eqv lt z) = l'.filter (eqv lt z)
theorem Stab.refl (lt : α → α → Bool) (l : List α) : Stab lt l l := ⟨.refl _, fun _ => rfl⟩
theorem Stab.trans {lt : α → α → Bool} {a b c : List α} (h : Stab lt a b) (k : Stab lt b c) : Stab lt a c := ⟨h.1.trans k.1, fun z => (h.2 z).trans (k.2 z)⟩
theorem Stab.len {lt : α → α → Bool} {a b : List α} (h : Stab lt a b) : b.length = a.length := h.1.length_eq.symm
theorem Stab.symm {lt : α → α → Bool} {a b : List α} (h : Stab lt a b) : Stab lt b a := ⟨h.1.symm, fun z => (h.2 z).symm⟩
theorem wd {lt : α → α → Bool} (h : WO lt) {X Y : List α} (hc : ∀ x ∈ X, ∀ y ∈ Y, lt y x = true) (z : α) : X.filter (eqv lt z) = [] ∨ Y.filter (eqv lt z) = [] := by
 cases hX : X.filter (eqv lt z) with
 | nil => exact .inl rfl
 | cons x t =>
  refine .inr ?_
  rw [List.filter_eq_nil_iff]
  intro y hy he
  have hx : x ∈ X.filter (eqv lt z) := by rw [hX]; exact .head _
  obtain ⟨hx1, hx2⟩ := List.mem_filter.1 hx
  simp only [eqv, Bool.and_eq_true, Bool.not_eq_true'] at he hx2
  have := hc x hx1 y hy
  rw [h.ntr _ _ _ he.2 hx2.1] at this
  cases this
theorem Stab.swap {lt : α → α → Bool} (h : WO lt) (P X Y S : List α) (hc : ∀ x ∈ X, ∀ y ∈ Y, lt y x = true) : Stab lt (P ++ (X ++ (Y ++ S))) (P ++ (Y ++ (X ++ S))) := by
 refine ⟨List.Perm.append_left _ (by rw [← List.append_assoc, ← List.append_assoc]; exact List.perm_append_comm.append_right _), fun z => ?_⟩
 simp only [List.filter_append]
 rcases wd h hc z with e | e <;> rw [e] <;> simp
theorem sB {lt : α → α → Bool} (h : WO lt) : ∀ (l l' : List α), Stab lt l l' → l.Pairwise (fun x y => lt y x = false) → l'.Pairwise (fun x y => lt y x = false) → l = l'
 | [], l', s, _, _ => by have := s.len; simp at this; exact this.symm
 | x :: t, [], s, _, _ => by have := s.len; simp at this
 | x :: t, y :: t', s, h1, h2 => by
  rw [List.pairwise_cons] at h1 h2
  have hxy : lt x y = false := by
   have : x ∈ y :: t' := s.1.subset (.head _)
   rcases List.mem_cons.1 this with rfl | hm
   ·exact h.irr _
   ·exact h2.1 _ hm
  have hyx : lt y x = false := by
   have : y ∈ x :: t := s.1.symm.subset (.head _)
   rcases List.mem_cons.1 this with rfl | hm
   ·exact h.irr _
   ·exact h1.1 _ hm
  have ex : x = y := by
   have := s.2 x
   rw [List.filter_cons_of_pos (by simp [eqv, h.irr]), List.filter_cons_of_pos (by simp [eqv, hxy, hyx])] at this
   exact (List.cons.inj this).1
  subst ex
  have st : Stab lt t t' := ⟨(List.perm_cons x).1 s.1, fun z => by
   have := s.2 z
   simp only [List.filter_cons] at this
   split at this
   ·exact (List.cons.inj this).2
   ·exact this⟩
  rw [sB h t t' st h1.2 h2.2]
def mp (f : Nat → Nat) (l : List α) : List α := (List.range l.length).map fun k => l.getD (f k) default
theorem iu (f : Nat → Nat) (l : List α) : (mp f l).length = l.length := by simp [mp]
theorem iS {f : Nat → Nat} {l : List α} {k : Nat} (h : k < l.length) : (mp f l).getD k default = l.getD (f k) default := by
 simp [mp, List.getD_eq_getElem?_getD, h]
theorem pT {l l' : List α} (h : l.length = l'.length) (e : ∀ k, k < l.length → l.getD k default = l'.getD k default) : l = l' := by
 refine List.ext_getElem h fun k h1 h2 => ?_
 have := e k h1
 simpa [List.getD_eq_getElem?_getD, h1, h2] using this
theorem Ir {f : Nat → Nat} {l : List α} (h : ∀ k, k < l.length → f k = k) : mp f l = l :=
 pT (iu _ _) fun k hk => by rw [iu] at hk; rw [iS hk, h k hk]
theorem zL {f g k : Nat → Nat} {l : List α} (h : ∀ x, x < l.length → f x < l.length) (e : ∀ x, x < l.length → g (f x) = k x) : mp f (mp g l) = mp k l :=
 pT (by simp [iu]) fun x hx => by
  rw [iu, iu] at hx
  rw [iS (by rw [iu]; exact hx), iS (h x hx), iS hx, e x hx]
theorem Fu {f g : Nat → Nat} {l : List α} (e : ∀ x, x < l.length → f x = g x) : mp f l = mp g l :=
 pT (by simp [iu]) fun x hx => by rw [iu] at hx; rw [iS hx, iS hx, e x hx]
def swF (p q k : Nat) : Nat := if k = p then q else if k = q then p else k
def swR (a b n k : Nat) : Nat := if a ≤ k ∧ k < a + n then k - a + b else if b ≤ k ∧ k < b + n then k - b + a else k
def dD (lo m hi k : Nat) : Nat := if lo ≤ k ∧ k < lo + (hi - m) then k + (m - lo) else if lo + (hi - m) ≤ k ∧ k < hi then k - (hi - m) else k
theorem sA (p q k : Nat) : (k = p ∧ swF p q k = q) ∨ (k ≠ p ∧ k = q ∧ swF p q k = p) ∨ (k ≠ p ∧ k ≠ q ∧ swF p q k = k) := by simp only [swF]; grind
theorem nB (a b n k : Nat) : (a ≤ k ∧ k < a + n ∧ swR a b n k = k - a + b) ∨ (¬ (a ≤ k ∧ k < a + n) ∧ b ≤ k ∧ k < b + n ∧ swR a b n k = k - b + a) ∨ (¬ (a ≤ k ∧ k < a + n) ∧ ¬ (b ≤ k ∧ k < b + n) ∧ swR a b n k = k) := by simp only [swR]; grind
theorem fP (lo m hi k : Nat) : (lo ≤ k ∧ k < lo + (hi - m) ∧ dD lo m hi k = k + (m - lo)) ∨ (¬ (lo ≤ k ∧ k < lo + (hi - m)) ∧ lo + (hi - m) ≤ k ∧ k < hi ∧ dD lo m hi k = k - (hi - m)) ∨ (¬ (lo ≤ k ∧ k < lo + (hi - m)) ∧ ¬ (lo + (hi - m) ≤ k ∧ k < hi) ∧ dD lo m hi k = k) := by simp only [dD]; grind
theorem Cz {l : List α} {p q : Nat} (hp : p < l.length) (hq : q < l.length) : (l.set p (l.getD q default)).set q (l.getD p default) = mp (swF p q) l :=
 pT (by simp [iu]) fun k hk => by
  have hk' : k < l.length := by simpa using hk
  rw [iS hk']
  simp only [List.getD_eq_getElem?_getD, List.getElem?_set, List.length_set, swF]
  grind
theorem Jp {a b : Nat} {l : List α} : mp (swR a b 0) l = l := Ir fun k _ => by simp only [swR]; split <;> (try split) <;> omega
theorem EP {a b n i : Nat} {l : List α} (h1 : a + n ≤ b) (h2 : b + n ≤ l.length) (hi : i < n) : mp (swF (a + i) (b + i)) (mp (swR a b i) l) = mp (swR a b (i + 1)) l :=
 zL (fun x hx => by simp only [swF]; split <;> (try split) <;> omega) fun x hx => by
  have h3 := sA (a + i) (b + i) x
  have h4 := nB a b i (swF (a + i) (b + i) x)
  have h5 := nB a b (i + 1) x
  omega
theorem Ct {lo m hi k n : Nat} (h1 : lo ≤ m) (h2 : m ≤ hi) (h3 : hi ≤ n) (h : k < n) : dD lo m hi k < n := by simp only [dD]; split <;> (try split) <;> omega
theorem ID {m i j : Nat} {l : List α} (h1 : i ≤ m) (h2 : m + j ≤ l.length) (h : j < i) : mp (dD (m - (i - j)) m (m + j)) (mp (swR (m - i) m j) l) = mp (dD (m - i) m (m + j)) l :=
 zL (fun x hx => Ct (by omega) (by omega) h2 hx) fun x hx => by
  have h3 := fP (m - (i - j)) m (m + j) x
  have h4 := nB (m - i) m j (dD (m - (i - j)) m (m + j) x)
  have h5 := fP (m - i) m (m + j) x
  omega
theorem IC {m i j : Nat} {l : List α} (h1 : i ≤ m) (h2 : m + j ≤ l.length) (h : i < j) : mp (dD (m - i) m (m + (j - i))) (mp (swR (m - i) (m + j - i) i) l) = mp (dD (m - i) m (m + j)) l :=
 zL (fun x hx => Ct (by omega) (by omega) (by omega) hx) fun x hx => by
  have h3 := fP (m - i) m (m + (j - i)) x
  have h4 := nB (m - i) (m + j - i) i (dD (m - i) m (m + (j - i)) x)
  have h5 := fP (m - i) m (m + j) x
  omega
theorem IE {m i : Nat} {l : List α} (h1 : i ≤ m) : mp (swR (m - i) m i) l = mp (dD (m - i) m (m + i)) l :=
 Fu fun x hx => by
  have h4 := nB (m - i) m i x
  have h5 := fP (m - i) m (m + i) x
  omega
theorem zx {l : List α} {i j : Nat} (h : 0 < j) (hj : j ≤ i) (hi : i < l.length) : mp (swF j (j - 1)) (mp (dD j i (i + 1)) l) = mp (dD (j - 1) i (i + 1)) l :=
 zL (fun x hx => by simp only [swF]; split <;> (try split) <;> omega) fun x hx => by
  have h3 := sA j (j - 1) x
  have h4 := fP j i (i + 1) (swF j (j - 1) x)
  have h5 := fP (j - 1) i (i + 1) x
  omega
theorem IB {l : List α} {a k : Nat} (h : a ≤ k) (hk : k + 1 < l.length) : mp (swF k (k + 1)) (mp (dD a (a + 1) (k + 1)) l) = mp (dD a (a + 1) (k + 2)) l :=
 zL (fun x hx => by simp only [swF]; split <;> (try split) <;> omega) fun x hx => by
  have h3 := sA k (k + 1) x
  have h4 := fP a (a + 1) (k + 1) (swF k (k + 1) x)
  have h5 := fP a (a + 1) (k + 2) x
  omega
theorem rz {l : List α} {a m b : Nat} (h : a = m ∨ m = b) (h1 : a ≤ m) (h2 : m ≤ b) : mp (dD a m b) l = l := Ir fun k _ => by have := fP a m b k; omega
theorem E0 {l : List α} {a m b : Nat} (h1 : a ≤ m) (h2 : m ≤ b) (h3 : b ≤ l.length) :
  mp (dD a m b) l = l.take a ++ ((l.take b).drop m ++ ((l.take m).drop a ++ l.drop b)) := by
 refine pT (by simp [iu]; omega) fun k hk => ?_
 rw [iu] at hk
 rw [iS hk]
 simp only [List.getD_eq_getElem?_getD, List.getElem?_append, List.length_take, List.length_drop, List.getElem?_take, List.getElem?_drop, dD]
 congr 1
 grind
theorem qW {l : List α} {a m b : Nat} (h1 : a ≤ m) (h2 : m ≤ b) (h3 : b ≤ l.length) :
  l = l.take a ++ ((l.take m).drop a ++ ((l.take b).drop m ++ l.drop b)) := by
 refine pT (by simp; omega) fun k hk => ?_
 simp only [List.getD_eq_getElem?_getD, List.getElem?_append, List.length_take, List.length_drop, List.getElem?_take, List.getElem?_drop]
 congr 1
 grind
theorem yi {l : List α} {a b : Nat} {x : α} (h : x ∈ (l.take b).drop a) : ∃ k, a ≤ k ∧ k < b ∧ k < l.length ∧ x = l.getD k default := by
 obtain ⟨i, hi⟩ := List.mem_iff_getElem?.1 h
 rw [List.getElem?_drop, List.getElem?_take] at hi
 split at hi
 ·refine ⟨a + i, by omega, by omega, (List.getElem?_eq_some_iff.1 hi).1, by simp [List.getD_eq_getElem?_getD, hi]⟩
 ·cases hi
theorem Ha {l : List α} {a b k : Nat} (h1 : a ≤ k) (h2 : k < b) (h3 : k < l.length) : l.getD k default ∈ (l.take b).drop a := by
 refine List.mem_iff_getElem?.2 ⟨k - a, ?_⟩
 rw [List.getElem?_drop, List.getElem?_take, if_pos (by omega), show a + (k - a) = k by omega]
 simp [List.getD_eq_getElem?_getD, h3]
theorem Stab.rot {lt : α → α → Bool} (h : WO lt) {l : List α} {a m b : Nat} (h1 : a ≤ m) (h2 : m ≤ b) (h3 : b ≤ l.length)
  (hc : ∀ x y, a ≤ x → x < m → m ≤ y → y < b → lt (l.getD y default) (l.getD x default) = true) : Stab lt l (mp (dD a m b) l) := by
 rw [E0 h1 h2 h3]
 conv => lhs; rw [qW h1 h2 h3]
 refine Stab.swap h _ _ _ _ fun x hx y hy => ?_
 obtain ⟨i, a1, a2, a3, rfl⟩ := yi hx
 obtain ⟨j, b1, b2, b3, rfl⟩ := yi hy
 exact hc i j a1 a2 b1 b2
def Fram (a b : Nat) (l l' : List α) : Prop := l'.length = l.length ∧ ∀ k, k < a ∨ b ≤ k → l'.getD k default = l.getD k default
theorem Fram.refl (a b : Nat) (l : List α) : Fram a b l l := ⟨rfl, fun _ _ => rfl⟩
theorem Fram.trans {a b : Nat} {l m n : List α} (h : Fram a b l m) (k : Fram a b m n) : Fram a b l n := ⟨k.1.trans h.1, fun x hx => (k.2 x hx).trans (h.2 x hx)⟩
theorem Fram.mono {a b c d : Nat} {l m : List α} (h : Fram a b l m) (h1 : c ≤ a) (h2 : b ≤ d) : Fram c d l m := ⟨h.1, fun x hx => h.2 x (by omega)⟩
theorem Fram.rot {a b s m e : Nat} {l : List α} (h1 : a ≤ s) (h2 : e ≤ b) (h3 : s ≤ m) (h4 : m ≤ e) : Fram a b l (mp (dD s m e) l) :=
 ⟨iu _ _, fun k hk => by
  by_cases h : k < l.length
  ·rw [iS h, show dD s m e k = k by have := fP s m e k; omega]
  ·have e1 := List.getElem?_eq_none (l := mp (dD s m e) l) (i := k) (by rw [iu]; omega)
   have e2 := List.getElem?_eq_none (l := l) (i := k) (by omega)
   rw [List.getD_eq_getElem?_getD, List.getD_eq_getElem?_getD, e1, e2]⟩
theorem EC {lt : α → α → Bool} {l l' : List α} {a b k : Nat} (s : Stab lt l l') (f : Fram a b l l') (hb : b ≤ l.length) (h1 : a ≤ k) (h2 : k < b) : ∃ j, a ≤ j ∧ j < b ∧ l'.getD k default = l.getD j default := by
 have hl := f.1
 have e1 : l'.take a = l.take a := pT (by simp [hl]) fun x hx => by
  have hx' : x < a := by simp at hx; omega
  have := f.2 x (.inl hx')
  simpa [List.getD_eq_getElem?_getD, List.getElem?_take, hx'] using this
 have e2 : l'.drop b = l.drop b := pT (by simp [hl]) fun x hx => by
  have := f.2 (b + x) (.inr (by omega))
  simpa [List.getD_eq_getElem?_getD, List.getElem?_drop] using this
 have p1 := s.1
 rw [qW (l := l) (a := a) (m := b) (b := b) (by omega) (Nat.le_refl _) hb, qW (l := l') (a := a) (m := b) (b := b) (by omega) (Nat.le_refl _) (by omega), e1, e2] at p1
 have p2 := (List.perm_append_left_iff _).1 p1
 have e3 : ∀ x : List α, (x.take b).drop b = [] := fun x => by simp
 rw [e3, e3, List.nil_append] at p2
 have p3 := (List.perm_append_right_iff _).1 p2
 obtain ⟨j, a1, a2, a3, a4⟩ := yi (p3.symm.subset (Ha (l := l') h1 h2 (by omega)))
 exact ⟨j, a1, a2, a4⟩
def Srt (lt : α → α → Bool) (l : List α) (a b : Nat) : Prop := ∀ p q, a ≤ p → p < q → q < b → lt (l.getD q default) (l.getD p default) = false
theorem Srt.sub {lt : α → α → Bool} {l : List α} {a b c d : Nat} (h : Srt lt l a b) (h1 : a ≤ c) (h2 : d ≤ b) : Srt lt l c d := fun p q x y z => h p q (by omega) y (by omega)
theorem Srt.one {lt : α → α → Bool} {l : List α} {a b : Nat} (h : b ≤ a + 1) : Srt lt l a b := fun p q x y z => by omega
theorem Srt.fram {lt : α → α → Bool} {l l' : List α} {a b c d : Nat} (h : Srt lt l a b) (f : Fram c d l l') (hd : b ≤ c ∨ d ≤ a) : Srt lt l' a b := fun p q x y z => by
 rw [f.2 p (by omega), f.2 q (by omega)]; exact h p q x y z
theorem Srt.all {lt : α → α → Bool} {l : List α} (h : Srt lt l 0 l.length) : l.Pairwise fun x y => lt y x = false := by
 rw [List.pairwise_iff_getElem]
 intro i j hi hj hij
 have := h i j (Nat.zero_le _) hij hj
 simpa [List.getD_eq_getElem?_getD, hi, hj] using this
theorem Srt.le {lt : α → α → Bool} (h : WO lt) {l : List α} {a b p q : Nat} (s : Srt lt l a b) (h1 : a ≤ p) (h2 : p ≤ q) (h3 : q < b) : lt (l.getD q default) (l.getD p default) = false := by
 rcases Nat.eq_or_lt_of_le h2 with rfl | h2
 ·exact h.irr _
 ·exact s p q h1 h2 h3
theorem Srt.glue {lt : α → α → Bool} {l : List α} {a m b : Nat} (h1 : Srt lt l a m) (h2 : Srt lt l m b) (hc : ∀ p q, a ≤ p → p < m → m ≤ q → q < b → lt (l.getD q default) (l.getD p default) = false) : Srt lt l a b := fun p q x y z => by
 by_cases hq : q < m
 ·exact h1 p q x y hq
 ·by_cases hp : p < m
  ·exact hc p q x hp (by omega) z
  ·exact h2 p q (by omega) y z
theorem Co {lt : α → α → Bool} (h : WO lt) {l : List α} {a i j : Nat} (hs : Srt lt l a i) (hi : i < l.length) (h1 : a ≤ j) (h2 : j ≤ i) (hA : ∀ q, j ≤ q → q < i → lt (l.getD i default) (l.getD q default) = true)
  (hB : j = a ∨ lt (l.getD i default) (l.getD (j - 1) default) = false) : Stab lt l (mp (dD j i (i + 1)) l) ∧ Srt lt (mp (dD j i (i + 1)) l) a (i + 1) := by
 refine ⟨Stab.rot h h2 (by omega) (by omega) fun x y a1 a2 a3 a4 => by rw [show y = i by omega]; exact hA x a1 a2, fun p q a1 a2 a3 => ?_⟩
 rw [iS (by omega), iS (by omega)]
 have hlow : ∀ p, a ≤ p → p < j → lt (l.getD i default) (l.getD p default) = false := fun p b1 b2 => by
  rcases hB with rfl | hB
  ·omega
  ·exact h.ntr _ _ _ hB (hs.le h b1 (by omega) (by omega))
 have fp : ∀ k, k ≤ i → dD j i (i + 1) k = if k < j then k else if k = j then i else k - 1 := fun k hk => by simp only [dD]; grind
 rw [fp p (by omega), fp q (by omega)]
 by_cases c1 : q < j
 ·rw [if_pos c1, if_pos (by omega)]; exact hs _ _ a1 a2 (by omega)
 ·rw [if_neg c1]
  by_cases c2 : q = j
  ·rw [if_pos c2, if_pos (by omega)]; exact hlow p a1 (by omega)
  ·rw [if_neg c2]
   by_cases c3 : p < j
   ·rw [if_pos c3]; exact hs _ _ a1 (by omega) (by omega)
   ·rw [if_neg c3]
    by_cases c4 : p = j
    ·rw [if_pos c4]; exact h.asym (hA _ (by omega) (by omega))
    ·rw [if_neg c4]; exact hs _ _ (by omega) (by omega) (by omega)
theorem ER {lt : α → α → Bool} (h : WO lt) {l : List α} {a i b : Nat} (hs : Srt lt l (a + 1) b) (hb : b ≤ l.length) (h1 : a + 1 ≤ i) (h2 : i ≤ b) (hA : ∀ q, a + 1 ≤ q → q < i → lt (l.getD q default) (l.getD a default) = true)
  (hB : ∀ q, i ≤ q → q < b → lt (l.getD q default) (l.getD a default) = false) : Stab lt l (mp (dD a (a + 1) i) l) ∧ Srt lt (mp (dD a (a + 1) i) l) a b := by
 refine ⟨Stab.rot h (by omega) h1 (by omega) fun x y a1 a2 a3 a4 => by rw [show x = a by omega]; exact hA y a3 a4, fun p q a1 a2 a3 => ?_⟩
 rw [iS (by omega), iS (by omega)]
 have fp : ∀ k, a ≤ k → dD a (a + 1) i k = if k + 1 < i then k + 1 else if k + 1 = i then a else k := fun k hk => by simp only [dD]; grind
 rw [fp p (by omega), fp q (by omega)]
 by_cases c1 : q + 1 < i
 ·rw [if_pos c1, if_pos (by omega)]; exact hs _ _ (by omega) (by omega) (by omega)
 ·rw [if_neg c1]
  by_cases c2 : q + 1 = i
  ·rw [if_pos c2, if_pos (by omega)]; exact h.asym (hA _ (by omega) (by omega))
  ·rw [if_neg c2]
   by_cases c3 : p + 1 < i
   ·rw [if_pos c3]; exact hs _ _ (by omega) (by omega) (by omega)
   ·rw [if_neg c3]
    by_cases c4 : p + 1 = i
    ·rw [if_pos c4]; exact hB _ (by omega) (by omega)
    ·rw [if_neg c4]; exact hs _ _ (by omega) (by omega) (by omega)
structure Half (lt : α → α → Bool) (l cur : List α) (a s mid e b : Nat) : Prop where
 st : Stab lt l cur
 fr : Fram a b l cur
 cr : ∀ p q, a ≤ p → p < mid → mid ≤ q → q < b → lt (cur.getD q default) (cur.getD p default) = false
 s1 : Srt lt cur a s
 s2 : Srt lt cur s mid
 s3 : Srt lt cur mid e
 s4 : Srt lt cur e b
theorem FP {lt : α → α → Bool} (h : WO lt) {l : List α} {a m b s mid e : Nat} (h1 : Srt lt l a m) (h2 : Srt lt l m b) (hb : b ≤ l.length) (ha : a ≤ s) (hs : s ≤ m) (he : m ≤ e) (hbb : e ≤ b) (hm : mid = s + (e - m))
  (hd : s = m ∨ m = e ∨ lt (l.getD (e - 1) default) (l.getD s default) = true) (hg : s = a ∨ e = b ∨ lt (l.getD e default) (l.getD (s - 1) default) = false) : Half lt l (mp (dD s m e) l) a s mid e b := by
 have c1 : ∀ x y, s ≤ x → x < m → m ≤ y → y < e → lt (l.getD y default) (l.getD x default) = true := fun x y a1 a2 a3 a4 => by
  rcases hd with hd | hd | hd
  ·omega
  ·omega
  ·exact h.le_lt (h2.le h (by omega) (show y ≤ e - 1 by omega) (by omega)) (h.lt_le hd (h1.le h (by omega) a1 (by omega)))
 have c2 : ∀ x y, a ≤ x → x < s → e ≤ y → y < b → lt (l.getD y default) (l.getD x default) = false := fun x y a1 a2 a3 a4 => by
  rcases hg with hg | hg | hg
  ·omega
  ·omega
  ·exact h.ntr _ _ _ (h2.le h (by omega) a3 (by omega)) (h.ntr _ _ _ hg (h1.le h a1 (by omega) (by omega)))
 have fp : ∀ k, dD s m e k = if s ≤ k ∧ k < mid then k + (m - s) else if mid ≤ k ∧ k < e then k - (e - m) else k := fun k => by subst hm; rfl
 have fl : ∀ k, k < b → k < l.length := fun k hk => by omega
 refine ⟨Stab.rot h hs he (by omega) c1, Fram.rot ha hbb hs he, fun p q a1 a2 a3 a4 => ?_, fun p q a1 a2 a3 => ?_, fun p q a1 a2 a3 => ?_, fun p q a1 a2 a3 => ?_, fun p q a1 a2 a3 => ?_⟩
 ·rw [iS (by omega), iS (by omega), fp, fp, if_neg (c := s ≤ q ∧ q < mid) (by omega)]
  by_cases d1 : q < e
  ·rw [if_pos (c := mid ≤ q ∧ q < e) ⟨a3, d1⟩]
   by_cases d2 : p < s
   ·rw [if_neg (by omega), if_neg (by omega)]; exact h1 _ _ a1 (by omega) (by omega)
   ·rw [if_pos (by omega)]; exact h.asym (c1 _ _ (by omega) (by omega) (by omega) (by omega))
  ·rw [if_neg (c := mid ≤ q ∧ q < e) (by omega)]
   by_cases d2 : p < s
   ·rw [if_neg (by omega), if_neg (by omega)]; exact c2 _ _ a1 d2 (by omega) a4
   ·rw [if_pos (by omega)]; exact h2 _ _ (by omega) (by omega) a4
 ·rw [iS (by omega), iS (by omega), fp, fp, if_neg (by omega), if_neg (by omega), if_neg (by omega), if_neg (by omega)]; exact h1 _ _ a1 a2 (by omega)
 ·rw [iS (by omega), iS (by omega), fp, fp, if_pos (by omega), if_pos (by omega)]; exact h2 _ _ (by omega) (by omega) (by omega)
 ·rw [iS (by omega), iS (by omega), fp, fp, if_neg (by omega), if_pos (by omega), if_neg (by omega), if_pos (by omega)]; exact h1 _ _ (by omega) (by omega) (by omega)
 ·rw [iS (by omega), iS (by omega), fp, fp, if_neg (by omega), if_neg (by omega), if_neg (by omega), if_neg (by omega)]; exact h2 _ _ (by omega) a2 a3
theorem Half.left {lt : α → α → Bool} {l c1 c2 : List α} {a s mid e b : Nat} (h : Half lt l c1 a s mid e b) (hb : b ≤ l.length) (hm : mid ≤ e) (hmb : e ≤ b) (st : Stab lt c1 c2) (fr : Fram a mid c1 c2) (so : Srt lt c2 a mid) : Half lt l c2 a mid mid e b := by
 have hl := h.fr.1
 refine ⟨h.st.trans st, h.fr.trans (fr.mono (Nat.le_refl _) (by omega)), fun p q a1 a2 a3 a4 => ?_, so, .one (by omega), h.s3.fram fr (.inr (Nat.le_refl _)), h.s4.fram fr (.inr hm)⟩
 obtain ⟨j, b1, b2, b3⟩ := EC st fr (by omega) a1 a2
 rw [b3, fr.2 q (.inr a3)]
 exact h.cr _ _ b1 b2 a3 a4
theorem Half.left0 {lt : α → α → Bool} {l c1 : List α} {a s mid e b : Nat} (h : Half lt l c1 a s mid e b) (hn : ¬ (a < s ∧ s < mid)) (ha : a ≤ s) (hs : s ≤ mid) : Half lt l c1 a mid mid e b := by
 refine ⟨h.st, h.fr, h.cr, ?_, .one (by omega), h.s3, h.s4⟩
 by_cases c : a = s
 ·rw [c]; exact h.s2
 ·rw [show mid = s by omega]; exact h.s1
theorem Half.right {lt : α → α → Bool} {l c2 c3 : List α} {a mid e b : Nat} (h : Half lt l c2 a mid mid e b) (hb : b ≤ l.length) (ha : a ≤ mid) (hm : mid ≤ b) (st : Stab lt c2 c3) (fr : Fram mid b c2 c3) (so : Srt lt c3 mid b) : Stab lt l c3 ∧ Fram a b l c3 ∧ Srt lt c3 a b := by
 have hl := h.fr.1
 refine ⟨h.st.trans st, h.fr.trans (fr.mono ha (Nat.le_refl _)), (h.s1.fram fr (.inl (Nat.le_refl _))).glue so fun p q a1 a2 a3 a4 => ?_⟩
 obtain ⟨j, b1, b2, b3⟩ := EC st fr (by omega) a3 a4
 rw [b3, fr.2 p (.inl a2)]
 exact h.cr _ _ a1 a2 b1 b2
theorem Half.right0 {lt : α → α → Bool} {l c2 : List α} {a mid e b : Nat} (h : Half lt l c2 a mid mid e b) (hn : ¬ (mid < e ∧ e < b)) (hm : mid ≤ e) (hb : e ≤ b) : Stab lt l c2 ∧ Fram a b l c2 ∧ Srt lt c2 a b := by
 refine ⟨h.st, h.fr, h.s1.glue ?_ h.cr⟩
 by_cases c : mid = e
 ·rw [c]; exact h.s4
 ·rw [show b = e by omega]; exact h.s3
def Blk (lt : α → α → Bool) (l : List α) (bs n : Nat) : Prop := ∀ t p q, t * bs ≤ p → p < q → q < (t + 1) * bs → q < n → lt (l.getD q default) (l.getD p default) = false
theorem Blk.all {lt : α → α → Bool} {l : List α} {bs n : Nat} (h : Blk lt l bs n) (hn : n ≤ bs) : Srt lt l 0 n := fun p q a1 a2 a3 => h 0 p q (by omega) a2 (by omega) a3
theorem uz {lt : α → α → Bool} {l l' : List α} {bs t0 b : Nat} (h : Blk lt l bs (t0 * bs)) (f : Fram (t0 * bs) b l l') (s : Srt lt l' (t0 * bs) b) (hb : b ≤ (t0 + 1) * bs) : Blk lt l' bs b := fun t p q a1 a2 a3 a4 => by
 by_cases c : q < t0 * bs
 ·rw [f.2 p (by omega), f.2 q (by omega)]; exact h t p q a1 a2 a3 c
 ·have e1 : t * bs < (t0 + 1) * bs := by omega
  have e2 : t0 * bs < (t + 1) * bs := by omega
  have e3 := Nat.lt_of_mul_lt_mul_right e1
  have e4 := Nat.lt_of_mul_lt_mul_right e2
  obtain rfl : t = t0 := by omega
  exact s p q a1 a2 a4
def Mix (lt : α → α → Bool) (l : List α) (bs a n : Nat) : Prop := Blk lt l (2 * bs) a ∧ ∀ t p q, t * bs ≤ p → p < q → q < (t + 1) * bs → a ≤ p → q < n → lt (l.getD q default) (l.getD p default) = false
theorem Jw {lt : α → α → Bool} {l : List α} {bs n : Nat} (h : Blk lt l bs n) : Mix lt l bs 0 n := ⟨fun t p q a1 a2 a3 a4 => by omega, fun t p q a1 a2 a3 _ a5 => h t p q a1 a2 a3 a5⟩
theorem vf {lt : α → α → Bool} {l : List α} {bs n t0 m : Nat} (h : Mix lt l bs (t0 * (2 * bs)) n) (hm : m ≤ t0 * (2 * bs) + bs) (hn : m ≤ n) : Srt lt l (t0 * (2 * bs)) m := fun p q a1 a2 a3 => by
 have e : 2 * t0 * bs = t0 * (2 * bs) := by rw [Nat.mul_comm 2 t0, Nat.mul_assoc]
 refine h.2 (2 * t0) p q (by omega) a2 (by rw [Nat.add_mul]; omega) a1 (by omega)
theorem wN {lt : α → α → Bool} {l : List α} {bs n t0 b : Nat} (h : Mix lt l bs (t0 * (2 * bs)) n) (hm : b ≤ t0 * (2 * bs) + 2 * bs) (hn : b ≤ n) : Srt lt l (t0 * (2 * bs) + bs) b := fun p q a1 a2 a3 => by
 have e : 2 * t0 * bs = t0 * (2 * bs) := by rw [Nat.mul_comm 2 t0, Nat.mul_assoc]
 refine h.2 (2 * t0 + 1) p q (by rw [Nat.add_mul]; omega) a2 (by rw [Nat.add_mul, Nat.add_mul]; omega) (by omega) (by omega)
theorem Fw {lt : α → α → Bool} {l l' : List α} {bs n t0 b : Nat} (h : Mix lt l bs (t0 * (2 * bs)) n) (f : Fram (t0 * (2 * bs)) b l l') (s : Srt lt l' (t0 * (2 * bs)) b) (hb : b ≤ t0 * (2 * bs) + 2 * bs) (hab : t0 * (2 * bs) ≤ b) : Mix lt l' bs b n :=
 ⟨uz h.1 f s (by rw [Nat.add_mul]; omega), fun t p q a1 a2 a3 a4 a5 => by
  rw [f.2 p (by omega), f.2 q (by omega)]; exact h.2 t p q a1 a2 a3 (by omega) a5⟩
theorem HA {lt : α → α → Bool} {l : List α} {bs n t0 : Nat} (h : Mix lt l bs (t0 * (2 * bs)) n) (hn : n ≤ t0 * (2 * bs) + bs) : Blk lt l (2 * bs) n := fun t p q a1 a2 a3 a4 => by
 by_cases c : q < t0 * (2 * bs)
 ·exact h.1 t p q a1 a2 a3 c
 ·have e1 : t * (2 * bs) < (t0 + 1) * (2 * bs) := by rw [Nat.add_mul]; omega
  have e2 : t0 * (2 * bs) < (t + 1) * (2 * bs) := by omega
  have e3 := Nat.lt_of_mul_lt_mul_right e1
  have e4 := Nat.lt_of_mul_lt_mul_right e2
  obtain rfl : t = t0 := by omega
  exact vf h hn (Nat.le_refl _) p q a1 a2 a4
end
end Go.HL
namespace Go.HL
open Go
def vG (a b : UInt32) : Int := if a < b then -1 else if b < a then 1 else 0
end Go.HL
namespace Go.HL
open Go
theorem sx {x : Int} (h : 0 ≤ x ∧ x < 4294967296) : ((u32 x).toNat : Int) = x := by
 have := sw x; omega
end Go.HL
namespace Go.HL
open Go Go.Sort
open Go.Proofs (ltOf)
def BL (a b : Int) : Int := if a < b then -1 else if b < a then 1 else 0
def lO (x y : Ins) : Int := vG x.addr y.addr
theorem uw (a b : UInt32) : vG a b < 0 ↔ a < b := by
 unfold vG
 split
 ·rename_i h; simp [h]
 ·rename_i h
  split
  ·simp [h]
  ·simp [h]
theorem ql (x y : Ins) : ltOf lO x y = decide (x.addr < y.addr) := by
 unfold ltOf lO
 congr 1
 exact propext (uw _ _)
theorem kW : SWO (ltOf lO) where
 irrefl x := by simp [ql]
 trans x y z h1 h2 := by
  simp only [ql, decide_eq_true_eq, UInt32.lt_iff_toNat_lt] at *; omega
 ntrans x y z h1 h2 := by
  simp only [ql, decide_eq_false_iff_not, UInt32.lt_iff_toNat_lt] at *; omega
theorem yj (i : Ins) : 0 ≤ iT i ∧ iT i ≤ 6 := by
 unfold iT fk
 split
 ·repeat' split
  all_goals omega
 ·omega
def vB (i : Ins) : Int := (i.addr.toNat : Int) + iT i
def mxU (a b : UInt32) : UInt32 := if a < b then b else a
theorem Hw (a b : UInt32) : (mxU a b).toNat = max a.toNat b.toNat := by
 unfold mxU
 split
 ·rename_i h; rw [UInt32.lt_iff_toNat_lt] at h; omega
 ·rename_i h; rw [UInt32.lt_iff_toNat_lt] at h; omega
def jN (a b : Ins) : Bool := ((decide (a.addr ≠ b.addr) && decide (0 < iT a)) && decide (0 < iT b)) && decide (((mxU a.addr b.addr).toNat : Int) < min (vB a) (vB b))
def nR {α : Type} [DecidableEq α] : α → List α → List α
 | _, [] => []
 | x, y :: t => if y = x then nR x t else y :: nR y t
def fM {α : Type} [DecidableEq α] : List α → List α
 | [] => []
 | x :: t => x :: nR x t
theorem qZ {α : Type} [DecidableEq α] : ∀ (x : α) (l : List α) (y : α), nR x (l ++ [y]) = if y = (x :: l).getLast (by simp) then nR x l else nR x l ++ [y]
 | x, [], y => by simp only [List.nil_append, nR, List.getLast_singleton]; by_cases h : y = x <;> simp [h]
 | x, z :: t, y => by
  have ih1 := qZ z t y
  have ih2 := qZ x t y
  have e : (x :: z :: t).getLast (by simp) = (z :: t).getLast (by simp) := by simp
  rw [e]
  by_cases h : z = x
  ·subst h
   simp only [List.cons_append, nR, if_true, ih1]
  ·simp only [List.cons_append, nR, h, if_false, ih1]
   split <;> rfl
theorem lM {α : Type} [DecidableEq α] [Inhabited α] {l : List α} {k : Nat} (h0 : 0 < k) (h : k < l.length) : fM (l.take (k + 1)) = if l.getD k default = l.getD (k - 1) default then fM (l.take k) else fM (l.take k) ++ [l.getD k default] := by
 rw [dm h]
 cases l with
 | nil => simp at h
 | cons x t =>
  obtain ⟨j, rfl⟩ : ∃ j, k = j + 1 := ⟨k - 1, by omega⟩
  simp only [List.take_succ_cons, List.cons_append, fM]
  rw [qZ]
  have e : (x :: t.take j).getLast (by simp) = (x :: t).getD (j + 1 - 1) default := by
   rw [List.getLast_eq_getElem]
   simp only [List.length_cons, List.length_take, Nat.add_sub_cancel]
   have hj : j ≤ t.length := by simp at h; omega
   simp only [Nat.min_eq_left hj]
   cases j with
   | zero => simp
   | succ j => simp [List.getD_eq_getElem?_getD, show j < t.length by omega]
  rw [e]
  split <;> rfl
theorem lN {α : Type} [DecidableEq α] [Inhabited α] {l : List α} : ∀ {k : Nat}, k ≤ l.length → (∀ j, 0 < j → j < k → l.getD j default ≠ l.getD (j - 1) default) → fM (l.take k) = l.take k
 | 0, _, _ => by simp [fM]
 | k + 1, h, hne => by
  by_cases h0 : k = 0
  ·subst h0
   cases l with
   | nil => simp at h
   | cons x t => simp [fM, nR]
  ·rw [lM (by omega) (by omega), if_neg (hne k (by omega) (by omega)), lN (by omega) (fun j a b => hne j a (by omega)), dm (by omega)]
def inK (l : List Ins) (a : UInt32) : Bool := l.any fun x => decide (x.addr = a)
def il (out : List Ins) (i : Ins) : List Ins := if (!inK out i.addr && decide (jn i = 0)) = true then out ++ [i] else out
def s8 (l : List Ins) : List Ins := l.foldl il []
def yC (out : List Ins) : List (UInt32 × Bool) := out.map fun i => (i.addr, true)
theorem Gu (out : List Ins) (a : UInt32) : (dJ (yC out) a).getD false = inK out a := by
 induction out with
 | nil => rfl
 | cons x t ih =>
  unfold yC at ih ⊢
  simp only [List.map_cons, dJ, inK, List.any_cons]
  by_cases h : a = x.addr
  ·simp [h]
  ·have h' : ¬ x.addr = a := fun q => h q.symm
   rw [if_neg h, decide_eq_false h', Bool.false_or]; exact ih
theorem Gt {out : List Ins} {i : Ins} (h : inK out i.addr = false) : fm (yC out) i.addr true = yC (out ++ [i]) := by
 have : dJ (yC out) i.addr = none := by
  cases hg : dJ (yC out) i.addr with
  | none => rfl
  | some b =>
   exfalso
   have hm := tD hg
   obtain ⟨x, hx, e⟩ := List.mem_map.1 hm
   have : inK out i.addr = true := List.any_eq_true.2 ⟨x, hx, by simp at e; simp [e.1]⟩
   rw [h] at this; cases this
 rw [rI this]
 simp [yC]
theorem Aw {l : List Ins} {k : Nat} (h : k < l.length) : s8 (l.take (k + 1)) = il (s8 (l.take k)) (l.getD k default) := by
 unfold s8; rw [dm h, List.foldl_append]; rfl
theorem CX : ∀ (l out : List Ins), (l.foldl il out).length ≤ out.length + l.length
 | [], out => by simp
 | i :: t, out => by
  have h1 := CX t (il out i)
  have h2 : (il out i).length ≤ out.length + 1 := by unfold il; split <;> simp
  simp only [List.foldl_cons, List.length_cons]; omega
theorem Az (l : List Ins) : (s8 l).length ≤ l.length := by have := CX l []; simpa [s8] using this
def fK (l : List Ins) : List Ins := mC (ltOf lO) (s8 l)
theorem vD (l : List Ins) : (fK l).length ≤ l.length := by unfold fK; rw [lH kW]; exact Az l
def ul (m : List (UInt32 × Bool)) (i : Ins) : List (UInt32 × Bool) := if (dj i).2 = true then fm m (dj i).1 true else m
def rk (l : List Ins) : List (UInt32 × Bool) := l.foldl ul []
theorem zf {l : List Ins} {k : Nat} (h : k < l.length) : rk (l.take (k + 1)) = ul (rk (l.take k)) (l.getD k default) := by
 unfold rk; rw [dm h, List.foldl_append]; rfl
def JB (l : List UInt32) (a : UInt32) : Bool := l.any fun x => decide (a = x)
def f8 (ents : List UInt32) (tm : List (UInt32 × Bool)) (i : Ins) : Int := if JB ents i.addr = true then 0 else if (dJ tm i.addr).getD false = true then 1 else 2
def HY (ents : List UInt32) (tm : List (UInt32 × Bool)) (x y : Ins) : Int := BL (f8 ents tm x) (f8 ents tm y)
def gP (kept : List Ins) (i : Ins) : List Ins := if kept.any (jN i) = true then kept else kept ++ [i]
def lE (order : List Ins) : List Ins := order.foldl gP []
theorem wW {l : List Ins} {k : Nat} (h : k < l.length) : lE (l.take (k + 1)) = gP (lE (l.take k)) (l.getD k default) := by
 unfold lE; rw [dm h, List.foldl_append]; rfl
theorem zU : ∀ (l out : List Ins), (l.foldl gP out).length ≤ out.length + l.length
 | [], out => by simp
 | i :: t, out => by
  have h1 := zU t (gP out i)
  have h2 : (gP out i).length ≤ out.length + 1 := by unfold gP; split <;> simp
  simp only [List.foldl_cons, List.length_cons]; omega
theorem sQ (l : List Ins) : (lE l).length ≤ l.length := by have := zU l []; simpa [lE] using this
theorem wX : ∀ (l out : List Ins) (x : Ins), x ∈ l.foldl gP out → x ∈ out ∨ x ∈ l
 | [], out, x, h => .inl h
 | i :: t, out, x, h => by
  rcases wX t (gP out i) x h with h | h
  ·unfold gP at h
   split at h
   ·exact .inl h
   ·rcases List.mem_append.1 h with h | h
    ·exact .inl h
    ·simp at h; subst h; exact .inr (.head _)
  ·exact .inr (.tail _ h)
theorem zT {l : List Ins} {x : Ins} (h : x ∈ lE l) : x ∈ l := by
 rcases wX l [] x h with h | h
 ·cases h
 ·exact h
def nG (l kept : List Ins) : List UInt32 := (l.filter fun i => !inK kept i.addr).map (·.addr)
def ei (g : Ins → Int) (l : List Ins) : List Ins := l.filter (fun i => decide (g i = 0)) ++ (l.filter (fun i => decide (g i = 1)) ++ l.filter (fun i => decide (g i = 2)))
theorem HW (a b : Int) : BL a b < 0 ↔ a < b := by
 unfold BL
 split
 ·rename_i h; simp [h]
 ·split <;> simp_all
def ltG (g : Ins → Int) (x y : Ins) : Bool := decide (g x < g y)
theorem EA (g : Ins → Int) : WO (ltG g) where
 irr x := by simp [ltG]
 tr x y z h1 h2 := by simp only [ltG, decide_eq_true_eq] at *; omega
 ntr x y z h1 h2 := by simp only [ltG, decide_eq_false_iff_not] at *; omega
theorem HS (g : Ins → Int) (z x : Ins) : eqv (ltG g) z x = decide (g x = g z) := by
 unfold eqv ltG
 by_cases h : g x = g z
 ·simp [h]
 ·rw [decide_eq_false h]
  by_cases c : g z < g x
  ·simp [c]
  ·have : g x < g z := by omega
   simp [c, this]
theorem lZ (ents : List UInt32) (tm : List (UInt32 × Bool)) (i : Ins) : f8 ents tm i = 0 ∨ f8 ents tm i = 1 ∨ f8 ents tm i = 2 := by
 unfold f8
 repeat' split
 all_goals simp
theorem rF {g : Ins → Int} (hg : ∀ i, g i = 0 ∨ g i = 1 ∨ g i = 2) (l : List Ins) : Stab (ltG g) l (ei g l) ∧ (ei g l).Pairwise fun x y => ltG g y x = false := by
 refine ⟨⟨?_, fun z => ?_⟩, ?_⟩
 ·induction l with
  | nil => exact List.Perm.refl _
  | cons x t ih =>
   rcases hg x with h | h | h
   ·have e : ei g (x :: t) = x :: ei g t := by simp [ei, h]
    rw [e]; exact ih.cons x
   ·have e : ei g (x :: t) = t.filter (fun i => decide (g i = 0)) ++ x :: (t.filter (fun i => decide (g i = 1)) ++ t.filter (fun i => decide (g i = 2))) := by simp [ei, h]
    rw [e]; exact (ih.cons x).trans List.perm_middle.symm
   ·have e : ei g (x :: t) = (t.filter (fun i => decide (g i = 0)) ++ t.filter (fun i => decide (g i = 1))) ++ x :: t.filter (fun i => decide (g i = 2)) := by simp [ei, h]
    rw [e]
    refine (ih.cons x).trans ?_
    refine List.Perm.trans ?_ List.perm_middle.symm
    rw [List.append_assoc]; exact List.Perm.refl _
 ·have e : (fun x => eqv (ltG g) z x) = fun x => decide (g x = g z) := by funext x; exact HS g z x
  show l.filter (fun x => eqv (ltG g) z x) = (ei g l).filter (fun x => eqv (ltG g) z x)
  rw [e]
  unfold ei
  rw [List.filter_append, List.filter_append, List.filter_filter, List.filter_filter, List.filter_filter]
  have hn : ∀ c : Int, c ≠ g z → l.filter (fun x => decide (g x = g z) && decide (g x = c)) = [] := fun c hc => by
   rw [List.filter_eq_nil_iff]
   intro x _
   simp only [Bool.and_eq_true, decide_eq_true_eq, not_and]
   intro q1 q2; exact hc (q2.symm.trans q1)
  have hy : ∀ c : Int, c = g z → l.filter (fun x => decide (g x = g z) && decide (g x = c)) = l.filter (fun x => decide (g x = g z)) := fun c hc => by subst hc; simp
  rcases hg z with h | h | h
  ·rw [hy 0 h.symm, hn 1 (by omega), hn 2 (by omega)]; simp
  ·rw [hn 0 (by omega), hy 1 h.symm, hn 2 (by omega)]; simp
  ·rw [hn 0 (by omega), hn 1 (by omega), hy 2 h.symm]; simp
 ·have hc : ∀ c : Int, (l.filter (fun i => decide (g i = c))).Pairwise fun x y => ltG g y x = false := fun c => by
   rw [List.pairwise_iff_forall_sublist]
   intro a b hab
   have ha : a ∈ l.filter (fun i => decide (g i = c)) := hab.subset (by simp)
   have hb : b ∈ l.filter (fun i => decide (g i = c)) := hab.subset (by simp)
   have := of_decide_eq_true (List.mem_filter.1 ha).2
   have := of_decide_eq_true (List.mem_filter.1 hb).2
   simp only [ltG, decide_eq_false_iff_not]; omega
  have hx : ∀ (c d : Int), c ≤ d → ∀ x ∈ l.filter (fun i => decide (g i = c)), ∀ y ∈ l.filter (fun i => decide (g i = d)), ltG g y x = false := fun c d h x hx y hy => by
   have := of_decide_eq_true (List.mem_filter.1 hx).2
   have := of_decide_eq_true (List.mem_filter.1 hy).2
   simp only [ltG, decide_eq_false_iff_not]; omega
  unfold ei
  refine List.pairwise_append.2 ⟨hc 0, List.pairwise_append.2 ⟨hc 1, hc 2, hx 1 2 (by omega)⟩, fun x h1 y h2 => ?_⟩
  rcases List.mem_append.1 h2 with h2 | h2
  ·exact hx 0 1 (by omega) x h1 y h2
  ·exact hx 0 2 (by omega) x h1 y h2
theorem IL {g : Ins → Int} (hg : ∀ i, g i = 0 ∨ g i = 1 ∨ g i = 2) {l c : List Ins} (h1 : Stab (ltG g) l c) (h2 : c.Pairwise fun x y => ltG g y x = false) : c = ei g l := by
 obtain ⟨k1, k2⟩ := rF hg l
 exact sB (EA g) _ _ (h1.symm.trans k1) h2 k2
theorem CW : ∀ (l out : List Ins) (x : Ins), x ∈ l.foldl il out → x ∈ out ∨ x ∈ l
 | [], out, x, h => .inl h
 | i :: t, out, x, h => by
  rcases CW t (il out i) x h with h | h
  ·unfold il at h
   split at h
   ·rcases List.mem_append.1 h with h | h
    ·exact .inl h
    ·simp at h; subst h; exact .inr (.head _)
   ·exact .inl h
  ·exact .inr (.tail _ h)
theorem vC {l : List Ins} {x : Ins} (h : x ∈ fK l) : x ∈ l := by
 have h1 := (ol kW (s8 l)).subset h
 rcases CW l [] x h1 with h | h
 ·cases h
 ·exact h
theorem yd {g : Ins → Int} (hg : ∀ i, g i = 0 ∨ g i = 1 ∨ g i = 2) (l : List Ins) : (ei g l).length = l.length := (rF hg l).1.len
theorem Cy {g : Ins → Int} {l : List Ins} {x : Ins} (h : x ∈ ei g l) : x ∈ l := by
 unfold ei at h
 simp only [List.mem_append, List.mem_filter] at h
 rcases h with h | h | h <;> exact h.1
theorem Hm {l kept : List Ins} {k : Nat} (h : k < l.length) (hc : inK kept (l.getD k default).addr = false) : nG (l.take (k + 1)) kept = nG (l.take k) kept ++ [(l.getD k default).addr] := by
 unfold nG
 rw [lu h (by rw [hc]; rfl), List.map_append]; rfl
theorem IH {l kept : List Ins} {k : Nat} (h : k < l.length) (hc : inK kept (l.getD k default).addr = true) : nG (l.take (k + 1)) kept = nG (l.take k) kept := by
 unfold nG
 rw [lw h (by rw [hc]; rfl)]
theorem Hn (l kept : List Ins) : (nG l kept).length ≤ l.length := by unfold nG; rw [List.length_map]; exact List.length_filter_le _ _
structure ResV where
 kept : List Ins
 ents : List UInt32
 unk : List UInt32
 bad : List UInt32
 rem : List UInt32
def gJ (ins : List Ins) (ents unk bad : List UInt32) : ResV :=
 let l := fK ins
 let kept := mC (ltOf lO) (lE (ei (f8 ents (rk l)) l))
 ⟨kept, ents.filter (inK kept), unk.filter (inK kept), bad, nG l kept⟩
end Go.HL
namespace Go.HL
open Go Go.Sort
open Go.Proofs (ltOf)
section
variable {α : Type} [DecidableEq α] [Inhabited α]
theorem xW {lt : α → α → Bool} (irr : ∀ x, lt x x = false) (tr : ∀ x y z, lt x y = true → lt y z = true → lt x z = true) : ∀ (l m : List α), l.Pairwise (fun a b => lt a b = true) → m.Pairwise (fun a b => lt a b = true) → (∀ x, x ∈ l ↔ x ∈ m) → l = m
 | [], [], _, _, _ => rfl
 | [], y :: m, _, _, h => absurd ((h y).2 (.head _)) (by simp)
 | x :: l, [], _, _, h => absurd ((h x).1 (.head _)) (by simp)
 | x :: l, y :: m, h1, h2, h => by
  have p1 := List.pairwise_cons.1 h1
  have p2 := List.pairwise_cons.1 h2
  have e : x = y := by
   rcases List.mem_cons.1 ((h x).1 (.head _)) with e | hx
   ·exact e
   ·rcases List.mem_cons.1 ((h y).2 (.head _)) with e | hy
    ·exact e.symm
    ·have := tr _ _ _ (p2.1 x hx) (p1.1 y hy)
     rw [irr] at this; cases this
  subst e
  have : l = m := xW irr tr l m p1.2 p2.2 fun z => by
   constructor
   ·intro hz
    rcases List.mem_cons.1 ((h z).1 (.tail _ hz)) with e | hm
    ·subst e; have := p1.1 z hz; rw [irr] at this; cases this
    ·exact hm
   ·intro hz
    rcases List.mem_cons.1 ((h z).2 (.tail _ hz)) with e | hm
    ·subst e; have := p2.1 z hz; rw [irr] at this; cases this
    ·exact hm
  rw [this]
end
def E8 (a b : Ins) : Bool := (((decide (a.addr ≠ b.addr) && decide (jn a = 0)) && decide (jn b = 0)) && decide ((a.addr.toNat : Int) < vB b)) && decide ((b.addr.toNat : Int) < vB a)
theorem yk {i : Ins} : 0 < iT i ↔ jn i = 0 := by
 unfold iT
 split
 ·rename_i h
  have := (enc_facts0 i)
  constructor
  ·intro _; exact h
  ·intro _
   unfold fk
   repeat' split
   all_goals omega
 ·rename_i h; constructor
  ·intro q; omega
  ·intro q; exact absurd q h
where enc_facts0 (i : Ins) : True := trivial
theorem vF {a b : Ins} : jN a b = true ↔ a.addr.toNat ≠ b.addr.toNat ∧ jn a = 0 ∧ jn b = 0 ∧ (a.addr.toNat : Int) < vB b ∧ (b.addr.toNat : Int) < vB a := by
 have e : a.addr ≠ b.addr ↔ a.addr.toNat ≠ b.addr.toNat := by rw [Ne, Ne, UInt32.toNat_inj]
 unfold jN
 simp only [Bool.and_eq_true, decide_eq_true_eq, yk, Hw, e]
 have h1 := yj a
 have h2 := yj b
 unfold vB
 constructor
 ·rintro ⟨⟨⟨q1, q2⟩, q3⟩, q4⟩; refine ⟨q1, q2, q3, ?_, ?_⟩ <;> omega
 ·rintro ⟨q1, q2, q3, q4, q5⟩
  have p1 := yk.2 q2
  have p2 := yk.2 q3
  exact ⟨⟨⟨q1, q2⟩, q3⟩, by omega⟩
theorem Jt (a b : Ins) : E8 a b = jN a b := by
 rw [Bool.eq_iff_iff, vF]
 have e : a.addr ≠ b.addr ↔ a.addr.toNat ≠ b.addr.toNat := by rw [Ne, Ne, UInt32.toNat_inj]
 unfold E8
 simp only [Bool.and_eq_true, decide_eq_true_eq, e]
 exact ⟨fun ⟨⟨⟨⟨q1, q2⟩, q3⟩, q4⟩, q5⟩ => ⟨q1, q2, q3, q4, q5⟩, fun ⟨q1, q2, q3, q4, q5⟩ => ⟨⟨⟨⟨q1, q2⟩, q3⟩, q4⟩, q5⟩⟩
theorem Gr (a b : Ins) : jN a b = jN b a := by
 rw [Bool.eq_iff_iff, vF, vF]
 exact ⟨fun ⟨q1, q2, q3, q4, q5⟩ => ⟨Ne.symm q1, q3, q2, q5, q4⟩, fun ⟨q1, q2, q3, q4, q5⟩ => ⟨Ne.symm q1, q3, q2, q5, q4⟩⟩
end Go.HL
namespace Go.Proofs.YtiajjbhcpeadfaaGreat
open Go Go.HL Go.RowKit
theorem AA (a b : UInt32) (w : World) :
  Calls Tryz.prog 84 #[.int .u32 a.toNat, .int .u32 b.toNat] w (fun e w' => e = .returned (.int .i64 (vG a b)) ∧ Ext w w') := by
 refine enter Tryz.func84 rfl Tryz.ntmps84 rfl ?_
 refine af (zz0 (ab rfl) (aH (zz0 (aa rfl) (zz0 (aA rfl oO (fun w hw => rH a w)) ?_))))
 refine zz0 (ab rfl) (aH (zz0 (aa rfl) (zz0 (aA rfl oO (fun w hw => rH b w)) ?_)))
 refine zz0 (ab rfl) (ad (al (af (zz0 (aa rfl) (ad ?_)))))
 refine ar rfl ?_ ?_ <;> intro h1 <;> try simp only [bs] at h1
 ·first | contradiction | (exfalso; omega) | simp_all
 ·refine bF (al (af (zz0 (aa rfl) (ad ?_))))
  refine ar rfl ?_ ?_ <;> intro h2 <;> try simp only [bs] at h2
  ·first | contradiction | (exfalso; omega) | simp_all
  ·refine bF (al (af (zz0 (aa rfl) (zz0 (aa rfl) (zz0 (iZ rfl rfl) ?_)))))
   refine ad ?_
   refine ar rfl ?_ ?_ <;> intro h3 <;> try simp only [bs] at h3
   ·refine af (zz0 (ab rfl) (ad (aB (ay ?_))))
    refine aV Tryz.results84 rfl (fun w' hw => ?_)
    exact ⟨by rw [vG, if_pos (by assumption)], hw.b0⟩
   ·refine bF (al (af (zz0 (aa rfl) (zz0 (aa rfl) (zz0 (lk rfl rfl) ?_)))))
    refine ad ?_
    refine ar rfl ?_ ?_ <;> intro h4 <;> try simp only [bs] at h4
    ·refine af (zz0 (ab rfl) (ad (aB (ay ?_))))
     refine aV Tryz.results84 rfl (fun w' hw => ?_)
     exact ⟨by rw [vG, if_neg (by assumption), if_pos (by assumption)], hw.b0⟩
    ·refine dl (zz0 (ab rfl) (ad (aB ?_)))
     refine aV Tryz.results84 rfl (fun w' hw => ?_)
     exact ⟨by rw [vG, if_neg (by assumption), if_neg (by assumption)], hw.b0⟩
theorem zK (a : Int) (w : World) :
  Calls Tryz.prog 147 #[.int .i64 a] w (fun e w' => e = .returned (.bool false) ∧ Ext w w') := by
 refine enter Tryz.func147 rfl Tryz.ntmps147 rfl ?_
 refine af (zz0 (ab rfl) (aH (zz0 (aa rfl) (zz0 (aa rfl) (zz0 (fV rfl rfl) (zz0 (ab rfl) (ad (aB ?_))))))))
 refine aV Tryz.results147 rfl (fun w' hw => ?_)
 exact ⟨by simp, hw.b0⟩
theorem Gv (a b : Int) (w : World) :
  Calls Tryz.prog 80 #[.int .i64 a, .int .i64 b] w (fun e w' => e = .returned (.int .i64 (BL a b)) ∧ Ext w w') := by
 refine enter Tryz.func80 rfl Tryz.ntmps80 rfl ?_
 refine af (zz0 (ab rfl) (aH (zz0 (aa rfl) (zz0 (aA rfl Tryz.call147 (fun w hw => zK a w)) ?_))))
 refine zz0 (ab rfl) (aH (zz0 (aa rfl) (zz0 (aA rfl Tryz.call147 (fun w hw => zK b w)) ?_)))
 refine zz0 (ab rfl) (ad (al (af (zz0 (aa rfl) (ad ?_)))))
 refine ar rfl ?_ ?_ <;> intro h1 <;> try simp only [bs] at h1
 ·first | contradiction | (exfalso; omega) | simp_all
 ·refine bF (al (af (zz0 (aa rfl) (ad ?_))))
  refine ar rfl ?_ ?_ <;> intro h2 <;> try simp only [bs] at h2
  ·first | contradiction | (exfalso; omega) | simp_all
  ·refine bF (al (af (zz0 (aa rfl) (zz0 (aa rfl) (zz0 (bU rfl rfl) (ad ?_))))))
   refine ar rfl ?_ ?_ <;> intro h3 <;> try simp only [bs] at h3
   ·refine af (zz0 (ab rfl) (ad (aB (ay ?_))))
    refine aV Tryz.results80 rfl (fun w' hw => ?_)
    exact ⟨by rw [BL, if_pos (by assumption)], hw.b0⟩
   ·refine bF (al (af (zz0 (aa rfl) (zz0 (aa rfl) (zz0 (fj rfl rfl) (ad ?_))))))
    refine ar rfl ?_ ?_ <;> intro h4 <;> try simp only [bs] at h4
    ·refine af (zz0 (ab rfl) (ad (aB (ay ?_))))
     refine aV Tryz.results80 rfl (fun w' hw => ?_)
     exact ⟨by rw [BL, if_neg (by assumption), if_pos (by assumption)], hw.b0⟩
    ·refine dl (zz0 (ab rfl) (ad (aB ?_)))
     refine aV Tryz.results80 rfl (fun w' hw => ?_)
     exact ⟨by rw [BL, if_neg (by assumption), if_neg (by assumption)], hw.b0⟩
theorem wZ (l : List UInt32) (V : Value) (a : UInt32) (w : World) (hV : Sl (hp w) ao l V) :
  Calls Tryz.prog 145 #[V, .int .u32 a.toNat] w (fun e w' => e = .returned (.int .i64 (dw (fun x => decide (a = x)) 0 l)) ∧ Ext w w') := by
 have hV' : Sl (Bg.of w).blk ao l V := hV
 have hlen := hV.len_le
 refine enter Tryz.func145 rfl Tryz.ntmps145 rfl ?_
 refine af (zz0 (ab rfl) (ad (al (af (zz0 (aa rfl) (zz0 (gW rfl ah) ?_))))))
 refine zz0 (aa rfl) (ad (aF ?_))
 refine bL (ι := Nat) (fun k => k ≤ l.length ∧ dw (fun x => decide (a = x)) k (l.drop k) = dw (fun x => decide (a = x)) 0 l) (fun _ => _) (fun k => []) (fun k => [(8, .int .i64 (k : Nat))]) (fun k => l.length - k) 0 ⟨Nat.zero_le _, rfl⟩ (Front.c Front.nil) (by repeat' constructor) rfl (fun k hi m hm => ?_)
 replace hi : k ≤ l.length ∧ dw (fun x => decide (a = x)) k (l.drop k) = dw (fun x => decide (a = x)) 0 l := hi
 replace hm : m = l.length - k := hm
 change Tr _ _ [] ([(8, .int .i64 (k : Nat))] ++ _) _
 obtain ⟨hk1, hk2⟩ := hi
 refine af (zz0 (bU rfl rfl) (ad (al ?_)))
 refine ar rfl ?_ ?_ <;> intro h1 <;> try simp only [bs] at h1
 ·refine bF (al (aF (af (zz0 (aa rfl) (zz0 (ab rfl) (aH (zz0 (aa rfl) (zz0 (aa rfl) ?_))))))))
  refine zz0 (aa rfl) (zz0 (je rfl rfl ah ae) ?_)
  refine zz0 (j2 rfl am) ?_
  refine zz0 (eN rfl rfl) ?_
  refine ad ?_
  refine ar rfl ?_ ?_ <;> intro h2 <;> try simp only [bs] at h2
  ·refine af (zz0 (aa rfl) (zz0 (ab rfl) (ad (aB (bA (ay (ay (bA (ay ?_)))))))))
   refine aV Tryz.results145 rfl (fun w' hw => ?_)
   exact ⟨by rw [← hk2, drop_cons (k := k) (by omega), dw, if_pos (by simp_all)], hw.b0⟩
  ·refine cg (aX (ac (an (zz0 (cp rfl rfl) ?_))))
   refine zz0 (aa rfl) (ad ?_)
   refine cH (k + 1) (Front.c Front.nil) (bC 12 rfl) (o := ⟨by omega, by rw [← hk2, drop_cons (k := k) (by omega), dw, if_neg (by simp_all)]⟩)
 ·refine bJ (aG (aG (bv (ac (af (zz0 (ab rfl) (ad (aB ?_))))))))
  refine aV Tryz.results145 rfl (fun w' hw => ?_)
  exact ⟨by rw [← hk2, List.drop_of_length_le (by omega)]; rfl, hw.b0⟩
theorem yz (l : List UInt32) (V : Value) (a : UInt32) (w : World) (hV : Sl (hp w) ao l V) :
  Calls Tryz.prog 76 #[V, .int .u32 a.toNat] w (fun e w' => e = .returned (.bool (JB l a)) ∧ Ext w w') := by
 have hV' : Sl (Bg.of w).blk ao l V := hV
 have hlen := hV.len_le
 refine enter Tryz.func76 rfl Tryz.ntmps76 rfl ?_
 refine af (zz0 (ab rfl) (aH (zz0 (aa rfl) (zz0 (aa rfl) (zz0 (aA rfl Tryz.call145 (fun w hw => wZ l V a w (hw.slF hV'))) ?_)))))
 refine zz0 (eJ rfl rfl) (zz0 (ab rfl) (ad (aB ?_)))
 refine aV Tryz.results76 rfl (fun w' hw => ?_)
 exact ⟨by rw [rP]; rfl, hw.b0⟩
theorem s9 (l : List UInt32) (V : Value) (w : World) (hV : Sl (hp w) ao l V) (hb : l.length ≤ 1000000) :
  Calls Tryz.prog 57 #[V] w (fun e w' => ∃ V', e = .returned V' ∧ Ext w w' ∧ ju w w' 23 ao (l) V') := by
 have hV' : Sl (Bg.of w).blk ao l V := hV
 refine enter Tryz.func57 rfl Tryz.ntmps57 rfl ?_
 refine af (zz0 (ab rfl) (ad (al (af (zz0 (aa rfl) (zz0 (rh rfl (by assumption) ah) ?_))))))
 refine ad ?_
 refine ar rfl ?_ ?_ <;> intro h1 <;> try simp only [bs] at h1
 ·refine af (zz0 (ab rfl) (ad (aB (ay ?_))))
  refine aV Tryz.results57 rfl (fun w' hw => ?_)
  exact ⟨_, rfl, hw.b0, fR (hV.isNil h1)⟩
 ·refine dl ?_
  refine yP ao ah ae rfl (fun V2 => ?_)
  refine zz0 (aa rfl) ?_
  refine De rfl rfl (by repeat constructor) (fun w hw => hw.slF (by assumption)) ah fb (fun V3 => ?_)
  refine zz0 (ab rfl) (ad (aB ?_))
  refine aV Tryz.results57 rfl (fun w' hw => ?_)
  exact ⟨_, rfl, hw.b0, hw.new (.head _)⟩
theorem xk (l : List Ins) (V : Value) (w : World) (hV : Sl (hp w) aO l V) (hb : l.length ≤ 1000000) :
  Calls Tryz.prog 77 #[V] w (fun e w' => ∃ V', e = .returned V' ∧ Ext w w' ∧ ju w w' 36 aO (l) V') := by
 have hV' : Sl (Bg.of w).blk aO l V := hV
 refine enter Tryz.func77 rfl Tryz.ntmps77 rfl ?_
 refine af (zz0 (ab rfl) (ad (al (af (zz0 (aa rfl) (zz0 (rh rfl (by assumption) aM) ?_))))))
 refine ad ?_
 refine ar rfl ?_ ?_ <;> intro h1 <;> try simp only [bs] at h1
 ·refine af (zz0 (ab rfl) (ad (aB (ay ?_))))
  refine aV Tryz.results77 rfl (fun w' hw => ?_)
  exact ⟨_, rfl, hw.b0, fR (hV.isNil h1)⟩
 ·refine dl ?_
  refine yP aO aM ax rfl (fun V2 => ?_)
  refine zz0 (aa rfl) ?_
  refine De rfl rfl (by repeat constructor) (fun w hw => hw.slF (by assumption)) aM kK (fun V3 => ?_)
  refine zz0 (ab rfl) (ad (aB ?_))
  refine aV Tryz.results77 rfl (fun w' hw => ?_)
  exact ⟨_, rfl, hw.b0, hw.new (.head _)⟩
theorem qM (l : List Ins) (V : Value) (g : FuncId) (cb : List Value) (w : World) (hV : Sl (hp w) aO l V) (eg : ∀ args w, (callFunc g args).run Tryz.prog w = .ok (.enter g args) w) (p : Ins → Bool) (hp : ∀ x, x ∈ l → ∀ w', Ext w w' → Calls Tryz.prog g ([Value.agg (aO.enc x).toArray] ++ cb).toArray w' fun e w'' => e = .returned (.bool (p x)) ∧ Ext w' w'') :
  Calls Tryz.prog 152 #[V, .func (.func g) #[] cb.toArray] w (fun e w' => e = .returned (.int .i64 (dw p 0 l)) ∧ Ext w w') := by
 have hV' : Sl (Bg.of w).blk aO l V := hV
 have hlen := hV.len_le
 refine enter Tryz.func152 rfl Tryz.ntmps152 rfl ?_
 refine af (zz0 (ab rfl) (ad (al (af (zz0 (aa rfl) (zz0 (gW rfl aM) ?_))))))
 refine zz0 (aa rfl) (ad (aF ?_))
 refine bL (ι := Nat) (fun k => k ≤ l.length ∧ dw p k (l.drop k) = dw p 0 l) (fun _ => _) (fun k => []) (fun k => [(8, .int .i64 (k : Nat))]) (fun k => l.length - k) 0 ⟨Nat.zero_le _, rfl⟩ (Front.c Front.nil) (by repeat' constructor) rfl (fun k hi m hm => ?_)
 replace hi : k ≤ l.length ∧ dw p k (l.drop k) = dw p 0 l := hi
 replace hm : m = l.length - k := hm
 change Tr _ _ [] ([(8, .int .i64 (k : Nat))] ++ _) _
 obtain ⟨hk1, hk2⟩ := hi
 refine af (zz0 (bU rfl rfl) (ad (al ?_)))
 refine ar rfl ?_ ?_ <;> intro h1 <;> try simp only [bs] at h1
 ·refine bF (al (aF (af (zz0 (aa rfl) (zz0 (ab rfl) (aH (zz0 (aa rfl) (zz0 (aa rfl) ?_))))))))
  refine zz0 (aa rfl) (zz0 (je rfl rfl aM ax) ?_)
  refine zz0 (o7 rfl aR ax) ?_
  refine zz0 (iC rfl rfl eg (fun w hw => hp _ (cM (by omega)) w (hw.b0))) ?_
  refine ad ?_
  refine ar rfl ?_ ?_ <;> intro h2 <;> try simp only [bs] at h2
  ·refine af (zz0 (aa rfl) (zz0 (ab rfl) (ad (aB (bA (ay (ay (bA (ay ?_)))))))))
   refine aV Tryz.results152 rfl (fun w' hw => ?_)
   exact ⟨by rw [← hk2, drop_cons (k := k) (by omega), dw, if_pos (by assumption)], hw.b0⟩
  ·refine cg (aX (ac (an (zz0 (cp rfl rfl) ?_))))
   refine zz0 (aa rfl) (ad ?_)
   refine cH (k + 1) (Front.c Front.nil) (bC 12 rfl) (o := ⟨by omega, by rw [← hk2, drop_cons (k := k) (by omega), dw, if_neg (by simp_all)]⟩)
 ·refine bJ (aG (aG (bv (ac (af (zz0 (ab rfl) (ad (aB ?_))))))))
  refine aV Tryz.results152 rfl (fun w' hw => ?_)
  exact ⟨by rw [← hk2, List.drop_of_length_le (by omega)]; rfl, hw.b0⟩
theorem nQ (l : List Ins) (V : Value) (g : FuncId) (cb : List Value) (w : World) (hV : Sl (hp w) aO l V) (eg : ∀ args w, (callFunc g args).run Tryz.prog w = .ok (.enter g args) w) (p : Ins → Bool) (hp : ∀ x, x ∈ l → ∀ w', Ext w w' → Calls Tryz.prog g ([Value.agg (aO.enc x).toArray] ++ cb).toArray w' fun e w'' => e = .returned (.bool (p x)) ∧ Ext w' w'') :
  Calls Tryz.prog 86 #[V, .func (.func g) #[] cb.toArray] w (fun e w' => e = .returned (.bool (l.any p)) ∧ Ext w w') := by
 have hV' : Sl (Bg.of w).blk aO l V := hV
 refine enter Tryz.func86 rfl Tryz.ntmps86 rfl ?_
 refine af (zz0 (ab rfl) (aH (zz0 (aa rfl) (zz0 (aa rfl) (zz0 (aA rfl Tryz.call152 (fun w hw => qM l V g cb w (hw.slF hV') eg p (fun x hx w'' h => hp x hx w'' ((hw.b0).trans h)))) ?_)))))
 refine zz0 (eJ rfl rfl) (zz0 (ab rfl) (ad (aB ?_)))
 refine aV Tryz.results86 rfl (fun w' hw => ?_)
 exact ⟨by rw [rP], hw.b0⟩
theorem qj (a b : List UInt32) (V W : Value) (w : World) (hV : Sl (hp w) ao a V) (hW : Sl (hp w) ao b W) :
  Calls Tryz.prog 22 #[V, W] w (fun e w' => e = .returned (.bool (decide (a = b))) ∧ Ext w w') := by
 have hV' : Sl (Bg.of w).blk ao a V := hV
 have hW' : Sl (Bg.of w).blk ao b W := hW
 have hl1 := hV.len_le
 have hl2 := hW.len_le
 refine enter Tryz.func22 rfl Tryz.ntmps22 rfl ?_
 refine af (zz0 (ab rfl) (ad (al (af (zz0 (aa rfl) (zz0 (gW rfl ah) ?_))))))
 refine zz0 (aa rfl) (zz0 (gW rfl ah) ?_)
 refine zz0 (fV rfl rfl) (ad ?_)
 refine ar rfl ?_ ?_ <;> intro h1 <;> try simp only [bs] at h1
 ·refine af (zz0 (ab rfl) (ad (aB (ay ?_))))
  refine aV Tryz.results22 rfl (fun w' hw => ?_)
  exact ⟨by rw [decide_eq_false (fun e => by subst e; omega)], hw.b0⟩
 ·refine bF (al (af (zz0 (ab rfl) (ad (aF ?_)))))
  refine bL (ι := Nat) (fun k => k ≤ a.length ∧ a.take k = b.take k) (fun _ => _) (fun k => []) (fun k => [(5, .int .i64 (k : Nat))]) (fun k => a.length - k) 0 ⟨by omega, rfl⟩ (Front.c Front.nil) (by repeat' constructor) rfl (fun k hi m hm => ?_)
  replace hi : k ≤ a.length ∧ a.take k = b.take k := hi
  replace hm : m = a.length - k := hm
  change Tr _ _ [] ([(5, .int .i64 (k : Nat))] ++ _) _
  obtain ⟨hk1, hk3⟩ := hi
  refine al (af (zz0 (aa rfl) (zz0 (aa rfl) (zz0 (gW rfl ah) ?_))))
  refine zz0 (bU rfl rfl) (ad ?_)
  refine ar rfl ?_ ?_ <;> intro h2 <;> try simp only [bs] at h2
  ·refine bF (al (aF (al (io aQ ?_))))
   refine aw (aa rfl) (aw (aa rfl) (aw (je rfl rfl ah ae) ?_))
   refine aw (j2 rfl am) ?_
   refine aw (aa rfl) (aw (aa rfl) (aw (je rfl rfl ah ae) ?_))
   refine aw (j2 rfl am) ?_
   refine aw (jW rfl rfl) ?_
   refine bK ?_
   refine ac ?_
   refine ar rfl ?_ ?_ <;> intro h3 <;> try simp only [bs] at h3
   ·refine af (zz0 (ab rfl) (ad (aB (bA (ay (ay (bA (ay ?_))))))))
    refine aV Tryz.results22 rfl (fun w' hw => ?_)
    exact ⟨by rw [decide_eq_false (fun e => by subst e; simp_all)], hw.b0⟩
   ·refine cg (aX (ac (an (zz0 (aa rfl) (zz0 (cp rfl rfl) ?_)))))
    refine zz0 (ab rfl) (ad ?_)
    refine cH (k + 1) (Front.c Front.nil) (bC 17 rfl) (o := ⟨by omega, by rw [dm (by omega), dm (by omega), hk3]; congr 2⟩)
  ·refine bJ (aG (aG (bv (ac (af (zz0 (ab rfl) (ad (aB ?_))))))))
   refine aV Tryz.results22 rfl (fun w' hw => ?_)
   exact ⟨by rw [decide_eq_true (show a = b by rw [← List.take_of_length_le (show a.length ≤ k by omega), hk3, List.take_of_length_le (by omega)])], hw.b0⟩
end Go.Proofs.YtiajjbhcpeadfaaGreat
namespace Go.HL
open Go
def eX : Enc (Int × Bool) := ⟨2, fun e => [.int .i64 e.1, .bool e.2], fun _ => rfl, fun x v h => by simp at h; rcases h with h | h <;> subst h <;> rfl⟩
def j9 (l : List Ins) (st : List StV) (gd : List Int) (k : Nat) (e : Int × Bool) : StV :=
 if (l.getD k default).op = 23 ∨ (l.getD k default).op = 24 then zc
 else if (l.getD k default).op = 20 ∧ 0 ≤ gd.getD k default then rD (l.getD k default).cc (l.getD (gd.getD k default).toNat default) (st.getD k default) e.2
 else jj (l.getD k default) (st.getD k default)
def jx (l : List Ins) (st : List StV) (a : UInt32) : StV × Bool :=
 if dw (fun i : Ins => decide (i.addr = a)) 0 l < 0 ∨ (st.length : Int) ≤ dw (fun i : Ins => decide (i.addr = a)) 0 l then (gI, false)
 else (st.getD (dw (fun i : Ins => decide (i.addr = a)) 0 l).toNat default, true)
section
variable {P : Program} {N : Nat} {F : Bg} {L L' A : List Ent} {M : Fr} {X : Act → World → Prop}
theorem Cv {α : Type} {f : α → Ent} : ∀ (rs : List α) (i : Nat) (h : i < rs.length), (rs.map f).Perm (f rs[i] :: (rs.eraseIdx i).map f)
 | x :: t, 0, _ => .refl _
 | x :: t, i + 1, h => ((Cv t i (by simpa using h)).cons (f x)).trans (.swap _ _ _)
theorem zG {α : Type} {f : α → Ent} (y : α) : ∀ (rs : List α) (i : Nat) (h : i < rs.length), (f y :: (rs.eraseIdx i).map f).Perm ((rs.set i y).map f)
 | x :: t, 0, _ => .refl _
 | x :: t, i + 1, h => (List.Perm.swap _ _ _).trans ((zG y t i (by simpa using h)).cons (f x))
theorem DK {α : Type} {f : α → Ent} {rs : List α} (i : Nat) (h : i < rs.length) : (A ++ (rs.map f ++ L)).Perm (f rs[i] :: (A ++ ((rs.eraseIdx i).map f ++ L))) :=
 (((Cv rs i h).append_right L).append_left A).trans List.perm_middle
theorem DJ {α : Type} {f : α → Ent} {rs : List α} (i : Nat) (y : α) (h : i < rs.length) : (f y :: (A ++ ((rs.eraseIdx i).map f ++ L))).Perm (A ++ ((rs.set i y).map f ++ L)) :=
 List.perm_middle.symm.trans (((zG y rs i h).append_right L).append_left A)
theorem H7 {α : Type} {f : α → Ent} {rs : List α} (i : Nat) (h : i < rs.length) (K : Tr N F (f rs[i] :: (A ++ ((rs.eraseIdx i).map f ++ L))) M X) : Tr N F (A ++ (rs.map f ++ L)) M X :=
 fun a w ha hw => K a w ha (hw.perm (DK i h).symm)
theorem yO {α : Type} {f : α → Ent} {rs : List α} (i : Nat) (y : α) (h : i < rs.length) (K : Tr N F (A ++ ((rs.set i y).map f ++ L)) M X) : Tr N F (f y :: (A ++ ((rs.eraseIdx i).map f ++ L))) M X :=
 fun a w ha hw => K a w ha (hw.perm (DJ i y h).symm)
theorem sf {α : Type} {T : TypeId} {E : Enc α} : ∀ (rs : List (Value × List α)) {F : Bg}, (∀ F', F.le F' → (∀ r ∈ rs, Sl F'.blk E r.2 r.1) → Tr N F' L M X) → Tr N F (rs.map (fun r => rowE r.1 T E r.2) ++ L) M X
  | [], F, K => K F (Bg.le.refl _) (fun r hr => absurd hr (by simp))
  | r :: t, F, K => kH (V := r.1) (T := T) (E := E) (l := r.2) (.here _) fun F1 h1 hs => sf t fun F2 h2 ht => K F2 (h1.trans h2) (fun x hx => by
      rcases List.mem_cons.1 hx with rfl | hx
      · exact hs.mono h2.blk
      · exact ht x hx)
end
end Go.HL
namespace Go.HL
open Go Go.RowKit
section
variable {P : Program}
inductive FieldsRS (P : Program) (d : Nat) (xs ys : Array Value) : List Field → List Bool → Prop
 | nil : FieldsRS P d xs ys [] []
 | cons {f : Field} {fs : List Field} {u v : Value} {b : Bool} {bs : List Bool} (hn : f.name ≠ "_") (hx : ∀ w, (part f.type xs f.offset).run P w = .ok u w) (hy : ∀ w, (part f.type ys f.offset).run P w = .ok v w)
   (he : ∀ w, (Op.equalIn d f.type u v).run P w = .ok b w) (h : FieldsRS P d xs ys fs bs) : FieldsRS P d xs ys (f :: fs) (b :: bs)
theorem o5 {d : Nat} {xs ys : Array Value} (w : World) : ∀ {fs : List Field} {bs : List Bool}, FieldsRS P d xs ys fs bs → (Op.eqFields d xs ys fs).run P w = .ok (bs.all id) w
 | [], _, .nil => by simp [Op.eqFields]
 | f :: fs, _, .cons (b := b) (bs := bs) hn hx hy he h => by
  have ih := o5 w h
  simp only [Op.eqFields, hn, ne_eq, not_false_eq_true, if_true, Sem.run_bind, List.all_cons, hx, hy, he, Result.andThen_ok]
  cases b
  ·simp
  ·simpa using ih
theorem u0 {t : TypeId} {cs vs : List Value} {o k : Nat} (ha : ∀ w, (isAgg t).run P w = .ok true w) (hz : ∀ w, (sizeOf t).run P w = .ok k w) (hv : (cs.drop o).take k = vs) (w : World) : (part t cs.toArray o).run P w = .ok (.agg vs.toArray) w := by
 simp [part, ha, hz, hv]
theorem Du {d : Nat} {t : TypeId} {fs : Array Field} (ht : P.underlying t = some (.struct fs)) (hw : WordFields P fs.toList [.bool, .bool, .int .u32, .int .u32, .int .u32]) (ho : fs.toList.map (·.offset) = [0, 1, 2, 3, 4])
  (hh : P.stoodInHeld t = false) (x y : VSet) (w : World) : (Op.equalIn (d + 1 + 1) t (.agg (bQ.enc x).toArray) (.agg (bQ.enc y).toArray)).run P w = .ok (decide (x = y)) w := by
 have hf : P.fieldsOf t = fs := by simp [Program.fieldsOf, ht]
 rw [run_equalIn_struct w _ t _ _ (by rw [hf]; exact ht) hh, hf]
 obtain ⟨h1, h2⟩ := uR x y
 rw [j5 _ _ _ w fs.toList _ hw (fun j f e hj he => h1 j f.offset e (by rw [← ho]; simp [hj]) he), ← h2, ← ho, List.all_map]
 rfl
theorem Dv {d k : Nat} {t e : TypeId} {xs ys : Array Value} (u v : Nat → Value) (b : Nat → Bool) (ht : P.underlying t = some (.array 8 e)) (hz : ∀ w, (sizeOf e).run P w = .ok k w)
  (hx : ∀ i, i < 8 → ∀ w, (part e xs (i * k)).run P w = .ok (u i) w) (hy : ∀ i, i < 8 → ∀ w, (part e ys (i * k)).run P w = .ok (v i) w) (he : ∀ i, i < 8 → ∀ w, (Op.equalIn (d + 1) e (u i) (v i)).run P w = .ok (b i) w) (w : World) :
  (Op.equalIn (d + 1 + 1) t (.agg xs) (.agg ys)).run P w = .ok (b 0 && b 1 && b 2 && b 3 && b 4 && b 5 && b 6 && b 7) w := by
 have x0 := hx 0 (by omega); have x1 := hx 1 (by omega); have x2 := hx 2 (by omega); have x3 := hx 3 (by omega); have x4 := hx 4 (by omega); have x5 := hx 5 (by omega); have x6 := hx 6 (by omega); have x7 := hx 7 (by omega)
 have y0 := hy 0 (by omega); have y1 := hy 1 (by omega); have y2 := hy 2 (by omega); have y3 := hy 3 (by omega); have y4 := hy 4 (by omega); have y5 := hy 5 (by omega); have y6 := hy 6 (by omega); have y7 := hy 7 (by omega)
 have e0 := he 0 (by omega); have e1 := he 1 (by omega); have e2 := he 2 (by omega); have e3 := he 3 (by omega); have e4 := he 4 (by omega); have e5 := he 5 (by omega); have e6 := he 6 (by omega); have e7 := he 7 (by omega)
 rw [Nat.zero_mul] at x0 y0; rw [Nat.one_mul] at x1 y1
 rw [Op.equalIn]
 simp only [Sem.run_bind, run_underlying ht, Result.andThen_ok, hz, Std.Legacy.Range.forIn_eq_forIn_range', Std.Legacy.Range.size]
 simp [List.range', x0, x1, x2, x3, x4, x5, x6, x7, y0, y1, y2, y3, y4, y5, y6, y7, e0, e1, e2, e3, e4, e5, e6, e7]
 generalize b 0 = c0; generalize b 1 = c1; generalize b 2 = c2; generalize b 3 = c3; generalize b 4 = c4; generalize b 5 = c5; generalize b 6 = c6; generalize b 7 = c7
 cases c0 <;> simp
 cases c1 <;> simp
 cases c2 <;> simp
 cases c3 <;> simp
 cases c4 <;> simp
 cases c5 <;> simp
 cases c6 <;> simp
 cases c7 <;> simp
theorem Dq (x y : StV) : (decide (x.r0 = y.r0) && decide (x.r1 = y.r1) && decide (x.r2 = y.r2) && decide (x.r3 = y.r3) && decide (x.r4 = y.r4) && decide (x.r5 = y.r5) && decide (x.r6 = y.r6) && decide (x.r7 = y.r7)) = decide (x = y) := by
 rw [Bool.eq_iff_iff]
 cases x; cases y
 simp only [Bool.and_eq_true, decide_eq_true_eq, StV.mk.injEq, and_assoc]
structure StTy (P : Program) (t : TypeId) : Prop where
 ex : ∃ (tr ts : TypeId) (f0 : Field) (fs : Array Field), P.underlying t = some (.struct #[f0]) ∧ f0.name ≠ "_" ∧ f0.type = tr ∧ f0.offset = 0 ∧ P.stoodInHeld t = false ∧ P.underlying tr = some (.array 8 ts) ∧ (∀ w, (isAgg tr).run P w = .ok true w) ∧ (∀ w, (sizeOf tr).run P w = .ok 40 w) ∧
  P.underlying ts = some (.struct fs) ∧ WordFields P fs.toList [.bool, .bool, .int .u32, .int .u32, .int .u32] ∧ fs.toList.map (·.offset) = [0, 1, 2, 3, 4] ∧ P.stoodInHeld ts = false ∧ (∀ w, (isAgg ts).run P w = .ok true w) ∧ (∀ w, (sizeOf ts).run P w = .ok 5 w)
theorem zw {t : TypeId} (h : StTy P t) (x y : StV) (w : World) : (Op.equal t (.agg (cL.enc x).toArray) (.agg (cL.enc y).toArray)).run P w = .ok (decide (x = y)) w := by
 obtain ⟨tr, ts, f0, fs, ht, n0, y0, o0, hh, htr, hatr, hztr, hts, hwf, hof, hhs, hats, hzts⟩ := h.ex
 have hf : P.fieldsOf t = #[f0] := by simp [Program.fieldsOf, ht]
 subst y0
 unfold Op.equal
 show (Op.equalIn (9996 + 1 + 1 + 1 + 1) t _ _).run P w = _
 rw [run_equalIn_struct w _ t _ _ (by rw [hf]; exact ht) hh, hf]
 have hp : ∀ (z : StV) (i : Nat), i < 8 → ∀ w, (part ts (cL.enc z).toArray (i * 5)).run P w = .ok (.agg (bQ.enc (z.getN i)).toArray) w := fun z i hi w =>
  u0 hats hzts (by
   have := kj (s := z) (k := (i : Int)) ⟨by omega, by omega⟩ (o := i * 5) (by simp)
   rw [this]; rfl) w
 have hr := o5 w (FieldsRS.cons (P := P) (d := 9996 + 1 + 1 + 1) (xs := (cL.enc x).toArray) (ys := (cL.enc y).toArray) (f := f0) (fs := []) n0
  (fun w => by rw [o0]; exact u0 hatr hztr (vs := cL.enc x) rfl w) (fun w => by rw [o0]; exact u0 hatr hztr (vs := cL.enc y) rfl w)
  (fun w => Dv (d := 9996 + 1) (fun i => .agg (bQ.enc (x.getN i)).toArray) (fun i => .agg (bQ.enc (y.getN i)).toArray) (fun i => decide (x.getN i = y.getN i)) htr hzts (hp x) (hp y) (fun i hi w => Du hts hwf hof hhs _ _ w) w) .nil)
 refine hr.trans ?_
 rw [← Dq]
 simp only [List.all_cons, List.all_nil, id, Bool.and_true]
 rfl
end
section
variable {P : Program} {N : Nat} {F : Bg} {L : List Ent} {M : Fr} {dst : Option Tmp} {ty : TypeId} {pos : String} {after : Array Edge} {g : Option (Nat × Bool)}
theorem G0 {x y : Operand} {t u : TypeId} {p q : StV} (hx : opv M x = some (.agg (cL.enc p).toArray)) (hy : opv M y = some (.agg (cL.enc q).toArray)) (h : StTy P t) (hg : P.eqGuardType P.depth t = false) :
  QS P N F L M ⟨dst, .binOp .neq t x y u, ty, pos, after, g⟩ (.bool (decide (p ≠ q))) :=
 co fun a w ha _ => by
  simp [execOp, ha.eval hx, ha.eval hy, mO w hg, binOp, zw h]
end
end Go.HL
namespace Go.Proofs.YtiajjbhcpeadfaaGreat
open Go Go.HL Go.RowKit
theorem zg (i : Ins) (w : World) (hI : InsOK i) :
  Calls Tryz.prog 224 #[.agg (aO.enc i).toArray] w (fun e w' => ∃ V', e = .returned V' ∧ Ext w w' ∧ ju w w' 23 ao (dX i) V') := by
 refine enter Tryz.func224 rfl Tryz.ntmps224 rfl ?_
 refine af ?_
 refine dO rfl rfl (fun b1 => ?_)
 refine zz0 (ab rfl) (ad (al (af (zz0 (bH rfl aR ax) ?_))))
 refine zz0 (aA rfl kE (fun w hw => kB i w hI)) ?_
 refine zz0 (cQ rfl) (ad ?_)
 refine ar rfl ?_ ?_ <;> intro h2 <;> try simp only [bs] at h2
 ·refine al (bZ 23 ao ?_)
  refine an (zz0 (ab rfl) (ad (aB (ay ?_))))
  refine aV Tryz.results224 rfl (fun w' hw => ?_)
  exact ⟨_, rfl, hw.b0, by rw [show dX i = [] by unfold dX; rw [if_neg (by simp_all)]]; exact hw.new (.head _)⟩
 ·refine bF (al (bZ 23 ao ?_))
  refine an (zz0 (ab rfl) (ad ?_))
  refine di (ι := Value) (fun V1 => True) (fun _ => Bg.of w) (fun V1 => [rowE V1 23 ao (if (dj i).2 = true then [(dj i).1] else []), cellE b1 (aO.enc i) 36]) (fun V1 => [(3, V1)]) ?_ (fun V1 hi => ?_)
  ·skip
   refine af (zz0 (bH rfl aR ax) ?_)
   refine zz0 (aA rfl Tryz.call144 (fun w hw => qP i w)) ?_
   refine zz0 (aa rfl) (zz0 (aL rfl rfl) (zz0 (aL rfl rfl) (zz0 (ab rfl) (zz0 (ab rfl) (aH (zz0 (aa rfl) (ad ?_)))))))
   refine ar rfl ?_ ?_ <;> intro h3 <;> try simp only [bs] at h3
   ·refine an (zz0 (aa rfl) (zz0 (aa rfl) ?_))
    refine iQ (E := ao) (dj i).1 rfl rfl ah ae c9 (fun V4 => ?_)
    refine zz1 rfl rfl ah fb (fun V5 => ?_)
    refine zz0 (ab rfl) (ad (f7 (l' := if (dj i).2 = true then [(dj i).1] else []) (by rw [if_pos (by assumption)]; rfl) ?_))
    refine cw _ (Front.c Front.nil) (bC 13 rfl) (o := trivial)
   ·refine bF (f7 (l' := if (dj i).2 = true then [(dj i).1] else []) (by rw [if_neg (by simp_all)]) ?_)
    refine cw _ (Front.c Front.nil) (bC 8 rfl) (o := trivial)
  ·skip
   replace hi : True := hi
   change Tr _ _ [rowE V1 23 ao (if (dj i).2 = true then [(dj i).1] else []), cellE b1 (aO.enc i) 36] ([(3, V1)] ++ _) _
   have htl : (if (dj i).2 = true then [(dj i).1] else []).length ≤ 1 := by split <;> simp
   refine di (ι := Value) (fun V2 => True) (fun _ => Bg.of w) (fun V2 => [rowE V2 23 ao ((if (dj i).2 = true then [(dj i).1] else []) ++ (if lF i = true then [] else [o6 i])), cellE b1 (aO.enc i) 36]) (fun V2 => [(3, V2)]) ?_ (fun V2 hi => ?_)
   ·skip
    refine af (zz0 (bH rfl aR ax) ?_)
    refine zz0 (aA rfl Tryz.call195 (fun w hw => An i w)) ?_
    refine zz0 (cQ rfl) (ad ?_)
    refine ar rfl ?_ ?_ <;> intro h6 <;> try simp only [bs] at h6
    ·refine an (zz0 (aa rfl) (zz0 (bH rfl aR ax) ?_))
     refine zz0 (aA rfl Tryz.call60 (fun w hw => zJ i w hI)) ?_
     refine iQ (E := ao) (o6 i) rfl rfl ah ae c9 (fun V7 => ?_)
     refine zz1 rfl rfl ah fb (fun V8 => ?_)
     refine zz0 (ab rfl) (ad (f7 (l' := (if (dj i).2 = true then [(dj i).1] else []) ++ (if lF i = true then [] else [o6 i])) (by rw [if_neg (c := lF i = true) (by simp_all)]) ?_))
     refine cw _ (Front.c Front.nil) (bC 9 rfl) (o := trivial)
    ·refine bF (f7 (l' := (if (dj i).2 = true then [(dj i).1] else []) ++ (if lF i = true then [] else [o6 i])) (by rw [if_pos (c := lF i = true) (by simp_all), List.append_nil]) ?_)
     refine cw _ (Front.c Front.nil) (bC 3 rfl) (o := trivial)
   ·skip
    replace hi : True := hi
    change Tr _ _ [rowE V2 23 ao ((if (dj i).2 = true then [(dj i).1] else []) ++ (if lF i = true then [] else [o6 i])), cellE b1 (aO.enc i) 36] ([(3, V2)] ++ _) _
    refine af (zz0 (aa rfl) (zz0 (ab rfl) (ad (aB ?_))))
    refine aV Tryz.results224 rfl (fun w' hw => ?_)
    exact ⟨_, rfl, hw.b0, by rw [show dX i = _ by unfold dX; rw [if_pos (by simp_all)]]; exact hw.new (.head _)⟩
theorem AB (i : Ins) (a : UInt32) (b : Nat) (w : World) (hc : Cell (hp w) b 0 (.int .u32 a.toNat)) :
  Calls Tryz.prog 165 #[.agg (aO.enc i).toArray, .pointer (some ⟨b, 0, none⟩)] w (fun e w' => e = .returned (.bool (decide (i.addr = a))) ∧ Ext w w') := by
 have hc' : Cell (Bg.of w).blk b 0 (.int .u32 a.toNat) := hc
 refine enter Tryz.func165 rfl Tryz.ntmps165 rfl ?_
 refine af ?_
 refine dO rfl rfl (fun b1 => ?_)
 refine zz0 (ab rfl) (aH (zz0 (zz3 (off := 0) (ft := 23) rfl ak rfl ae) ?_))
 refine zz0 (aJ rfl am) ?_
 refine zz0 (nV rfl (by assumption) am) ?_
 refine zz0 (eN rfl rfl) ?_
 refine zz0 (ab rfl) (ad (aB ?_))
 refine aV Tryz.results165 rfl (fun w' hw => ?_)
 exact ⟨rfl, hw.b0⟩
theorem BQ (l : List Ins) (st : List StV) (a : UInt32) (V VS : Value) (w : World) (hV : Sl (hp w) aO l V) (hS : Sl (hp w) cL st VS) :
  Calls Tryz.prog 109 #[V, VS, .int .u32 a.toNat] w (fun e w' => e = .returned (.tuple #[.agg (cL.enc (jx l st a).1).toArray, .bool (jx l st a).2]) ∧ Ext w w') := by
 have hV' : Sl (Bg.of w).blk aO l V := hV
 have hS' : Sl (Bg.of w).blk cL st VS := hS
 have hlS := hS'.len_le
 have hix := iJ (fun i : Ins => decide (i.addr = a)) l 0
 refine enter Tryz.func109 rfl Tryz.ntmps109 rfl ?_
 refine af ?_
 refine dO rfl rfl (fun b1 => ?_)
 refine dB cS rfl (fun b2 => ?_)
 refine zz0 (ab rfl) (aH (zz0 (aa rfl) (zz0 (fy rfl rfl) ?_)))
 refine zz0 (aA rfl Tryz.call152 (fun w hw => qM l V _ _ w (hw.slF hV') Tryz.call165 (fun i => decide (i.addr = a)) (fun x hx w'' h => AB x a _ w'' (cellE.cell (hw.ent _ (by repeat constructor)) h rfl)))) ?_
 refine zz0 (ab rfl) (ad (al (af (zz0 (aa rfl) (zz0 (bU rfl rfl) (zz0 (aa rfl) ?_))))))
 apply dH
 ·exact (rfl : _ = (5, 14, 19))
 ·exact rfl
 ·intro hF3; have hF3' := hF3
  try simp only [bs] at hF3'
  refine zz5 hF3 (aa rfl) (zz5 hF3 (aa rfl) (zz5 hF3 (gW rfl d5) ?_))
  refine zz5 hF3 (eJ rfl rfl) (zz0 (aT rfl hF3 rfl) ?_)
  refine aD (ac ?_)
  exact aI (Sub.cons rfl (zz9 5 rfl))
 ·intro hT3
  refine zz8 hT3 (zz8 hT3 (zz8 hT3 (zz8 hT3 (zz0 (aS rfl hT3 rfl) ?_))))
  refine aD (ac ?_)
  exact aI (Sub.cons rfl (zz9 5 rfl))
 refine ad ?_
 refine ar rfl ?_ ?_ <;> intro h4 <;> try simp only [bs] at h4
 ·refine af (zz0 (bG (vs := []) rfl rfl (tY)) ?_)
  refine az cL rfl rfl aU ?_
  refine zz0 (ab rfl) (ad (aB (ay ?_)))
  refine kf Tryz.results109 rfl rfl bS aU (fun w' hw => ?_)
  refine ⟨?_, hw.b0⟩
  unfold jx
  (repeat' split) <;> first | (exfalso; first | (simp_all; done) | grind) | rfl
 ·refine dl (zz0 (aa rfl) (zz0 (aa rfl) (zz0 (o8 rfl rfl d5 aU) ?_)))
  refine zz0 (o7 rfl bS aU) ?_
  refine az cL rfl rfl aU ?_
  refine zz0 (ab rfl) (ad (aB ?_))
  refine kf Tryz.results109 rfl rfl bS aU (fun w' hw => ?_)
  refine ⟨?_, hw.b0⟩
  unfold jx
  (repeat' split) <;> first | (exfalso; first | (simp_all; done) | grind) | rfl
end Go.Proofs.YtiajjbhcpeadfaaGreat
namespace Go.Proofs.YtiajjbhcpeadfaaGreat
open Go Go.HL Go.RowKit
theorem xx (l : List Ins) (st : List StV) (gd : List Int) (bx bm : Nat) (VI VEd VG VB VV VM : Value) (k : Nat) (ee : Int × Bool) (w : World) (hx : CellsIn (hp w) bx [VI, .map (some bm), VEd, VG, VB, VV, VM]) (hI : Sl (hp w) aO l VI) (hG : Sl (hp w) bP gd VG) (hB : Sl (hp w) cL st VB) (hIO : ∀ x ∈ l, InsOK x) (hgl : gd.length = l.length) (hsl : st.length = l.length) (hgd : ∀ j, j < gd.length → gd.getD j default < (l.length : Int)) (hk : k < l.length) :
  Calls Tryz.prog 226 #[.pointer (some ⟨bx, 0, none⟩), .int .i64 (k : Nat), .agg (eX.enc ee).toArray] w (fun e w' => e = .returned (.agg (cL.enc (j9 l st gd k ee)).toArray) ∧ Ext w w') := by
 have hx' : CellsIn (Bg.of w).blk bx [VI, .map (some bm), VEd, VG, VB, VV, VM] := hx
 have hI' : Sl (Bg.of w).blk aO l VI := hI
 have hG' : Sl (Bg.of w).blk bP gd VG := hG
 have hB' : Sl (Bg.of w).blk cL st VB := hB
 have hlI := hI'.len_le
 have hgk := hgd k (by omega)
 have hio := hIO _ (cM hk)
 refine enter Tryz.func226 rfl Tryz.ntmps226 rfl ?_
 refine af ?_
 refine dO rfl rfl (fun b1 => ?_)
 refine dB cS rfl (fun b2 => ?_)
 refine ad ?_
 refine di (ι := Nat × Nat) (fun ⟨p, q⟩ => True) (fun _ => Bg.of w) (fun ⟨p, q⟩ => [cellE q (cL.enc (st.getD k default)) 37, cellE p (aO.enc (l.getD k default)) 36, cellE b2 (cL.enc gI) 37, cellE b1 (eX.enc ee) 274]) (fun ⟨p, q⟩ => [(8, .pointer (some ⟨q, 0, none⟩)), (7, .pointer (some ⟨p, 0, none⟩))]) ?_ (fun i hi => ?_)
 ·skip
  refine dW ([cellE b2 (cL.enc gI) 37, cellE b1 (eX.enc ee) 274]) 18 rfl aQ ?_
  refine zz4 0 rfl (aa rfl) ?_
  refine zz4 1 rfl (aY rfl) ?_
  refine zz4 2 rfl (zz3 (off := 0) (ft := 50) rfl bE rfl dz) ?_
  refine zz4 3 rfl (kV rfl dR) ?_
  refine zz4 4 rfl (aa rfl) ?_
  refine zz4 5 rfl (je rfl rfl aM ax) ?_
  refine zz4 6 rfl (o7 rfl aR ax) ?_
  refine zz4 7 rfl (aa rfl) ?_
  refine zz4 8 rfl (aY rfl) ?_
  refine zz4 9 rfl (zz3 (off := 4) (ft := 177) rfl bE rfl eT) ?_
  refine zz4 10 rfl (kV rfl g8) ?_
  refine zz4 11 rfl (aa rfl) ?_
  refine zz4 12 rfl (je rfl rfl d5 aU) ?_
  refine zz4 13 rfl (o7 rfl bS aU) ?_
  refine cY [14, 15] (fun iq hq => ?_)
  rcases List.mem_cons.1 hq with rfl | hq
  ·skip
   refine bj rfl ?_
   refine dB bV rfl (fun b3 => ?_)
   refine bN ?_
   refine cY [15] (fun iq hq => ?_)
   obtain rfl := List.mem_singleton.1 hq
   refine bj rfl ?_
   refine dB cS rfl (fun b4 => ?_)
   refine bN ?_
   refine cY [16] (fun iq hq => ?_)
   obtain rfl := List.mem_singleton.1 hq
   refine bj rfl ?_
   refine az aO rfl rfl ax ?_
   refine bN ?_
   refine cY [17] (fun iq hq => ?_)
   obtain rfl := List.mem_singleton.1 hq
   refine bj rfl ?_
   refine az cL rfl rfl aU ?_
   refine bN ?_
   refine ij ?_
   refine ac ?_
   refine cw (_, _) (Front.c (Front.c Front.nil)) (bC 16 rfl) (o := trivial)
  obtain rfl := List.mem_singleton.1 hq
  refine bj rfl ?_
  refine dB cS rfl (fun b5 => ?_)
  refine bN ?_
  refine cY [14] (fun iq hq => ?_)
  obtain rfl := List.mem_singleton.1 hq
  refine bj rfl ?_
  refine dB bV rfl (fun b6 => ?_)
  refine bN ?_
  refine cY [16] (fun iq hq => ?_)
  obtain rfl := List.mem_singleton.1 hq
  refine bj rfl ?_
  refine az aO rfl rfl ax ?_
  refine bN ?_
  refine cY [17] (fun iq hq => ?_)
  obtain rfl := List.mem_singleton.1 hq
  refine bj rfl ?_
  refine az cL rfl rfl aU ?_
  refine bN ?_
  refine ij ?_
  refine ac ?_
  refine cw (_, _) (Front.c (Front.c Front.nil)) (bC 16 rfl) (o := trivial)
 ·obtain ⟨p, q⟩ := i
  replace hi : True := hi
  change Tr _ _ [cellE q (cL.enc (st.getD k default)) 37, cellE p (aO.enc (l.getD k default)) 36, cellE b2 (cL.enc gI) 37, cellE b1 (eX.enc ee) 274] ([(8, .pointer (some ⟨q, 0, none⟩)), (7, .pointer (some ⟨p, 0, none⟩))] ++ _) _
  refine al (aF (af (zz0 (zz3 (off := 2) (ft := 3) rfl ak rfl aC) ?_)))
  refine zz0 (aJ rfl aN) ?_
  refine zz0 (bB rfl rfl) (zz0 (aa rfl) ?_)
  apply dH
  ·exact (rfl : _ = (4, 27, 31))
  ·exact rfl
  ·intro hF7; have hF7' := hF7
   try simp only [bs] at hF7'
   refine zz5 hF7 (zz3 (off := 2) (ft := 3) rfl ak rfl aC) ?_
   refine zz5 hF7 (aJ rfl aN) ?_
   refine zz5 hF7 (bB rfl rfl) (zz0 (aT rfl hF7 rfl) ?_)
   refine aD (ac ?_)
   exact aI (Sub.cons rfl (zz9 4 rfl))
  ·intro hT7
   refine zz8 hT7 (zz8 hT7 (zz8 hT7 (zz0 (aS rfl hT7 rfl) ?_)))
   refine aD (ac ?_)
   exact aI (Sub.cons rfl (zz9 4 rfl))
  refine zz0 (ab rfl) (ad ?_)
  refine ar rfl ?_ ?_ <;> intro h8 <;> try simp only [bs] at h8
  ·refine af (zz0 (aA rfl Tryz.call162 (fun w hw => po w)) ?_)
   refine az cL rfl rfl aU ?_
   refine ad (aB (bA (ay ?_)))
   refine eY nh rfl bS aU (fun w' hw => ?_)
   refine ⟨?_, hw.b0⟩
   unfold j9
   (repeat' split) <;> first | (exfalso; first | (simp_all; done) | grind) | rfl
  ·refine af (zz0 (zz3 (off := 2) (ft := 3) rfl ak rfl aC) ?_)
   refine zz0 (aJ rfl aN) ?_
   refine zz0 (bB rfl rfl) (zz0 (aa rfl) ?_)
   apply cE
   ·exact (rfl : _ = (9, 37, 46))
   ·exact rfl
   ·intro hT9; have hT9' := hT9
    try simp only [bs] at hT9'
    refine zz5 hT9 (aa rfl) (zz5 hT9 (aY rfl) ?_)
    refine zz5 hT9 (zz3 (off := 3) (ft := 224) rfl bE rfl eS) ?_
    refine zz5 hT9 (kV rfl gw) ?_
    refine zz5 hT9 (aa rfl) (zz5 hT9 (je rfl rfl cU aC) ?_)
    refine zz5 hT9 (j2 rfl aN) ?_
    refine zz5 hT9 (eJ rfl rfl) (zz0 (aS rfl hT9 rfl) ?_)
    refine aD (ac ?_)
    exact aI (Sub.cons rfl (zz9 9 rfl))
   ·intro hF9
    refine zz8 hF9 (zz8 hF9 (zz8 hF9 (zz8 hF9 (zz8 hF9 (zz8 hF9 (zz8 hF9 (zz8 hF9 (zz0 (aT rfl hF9 rfl) ?_))))))))
    refine aD (ac ?_)
    exact aI (Sub.cons rfl (zz9 9 rfl))
   refine zz0 (ab rfl) (ad ?_)
   refine ar rfl ?_ ?_ <;> intro h10 <;> try simp only [bs] at h10
   ·refine al (fO 0 19 aQ ?_)
    refine bI ?_
    refine aw (zz3 (off := 5) (ft := 3) rfl ak rfl aC) ?_
    refine aw (aJ rfl aN) ?_
    refine aw (aa rfl) (aw (aY rfl) ?_)
    refine aw (zz3 (off := 0) (ft := 50) rfl bE rfl dz) ?_
    refine aw (kV rfl dR) ?_
    refine aw (aa rfl) (aw (aY rfl) ?_)
    refine aw (zz3 (off := 3) (ft := 224) rfl bE rfl eS) ?_
    refine aw (kV rfl gw) ?_
    refine aw (aa rfl) (aw (je rfl rfl cU aC) ?_)
    refine aw (j2 rfl aN) ?_
    refine aw (o8 rfl rfl aM ax) ?_
    refine aw (o7 rfl aR ax) ?_
    refine aw (bH rfl bS aU) ?_
    refine aw (zz3 (off := 1) (ft := 4) rfl ix rfl bT) ?_
    refine aw (aJ rfl cB) ?_
    refine aw (aA rfl Tryz.call269 (fun w hw => Bf (l.getD k default).cc (l.getD (gd.getD k default).toNat default) (st.getD k default) ee.2 w (hIO _ (cM (by omega))))) ?_
    refine bK ?_
    refine az cL rfl rfl aU ?_
    refine ad (aB (bA (ay ?_)))
    refine eY nh rfl bS aU (fun w' hw => ?_)
    refine ⟨?_, hw.b0⟩
    unfold j9
    (repeat' split) <;> first | (exfalso; first | (simp_all; done) | grind) | rfl
   ·refine cg (aX (ac (af (zz0 (bH rfl aR ax) ?_))))
    refine zz0 (bH rfl bS aU) ?_
    refine zz0 (aA rfl Tryz.call270 (fun w hw => xO (l.getD k default) (st.getD k default) w hio)) ?_
    refine az cL rfl rfl aU ?_
    refine ad (aB ?_)
    refine eY nh rfl bS aU (fun w' hw => ?_)
    refine ⟨?_, hw.b0⟩
    unfold j9
    (repeat' split) <;> first | (exfalso; first | (simp_all; done) | grind) | rfl
end Go.Proofs.YtiajjbhcpeadfaaGreat
namespace Go.HL
open Go
def cD : Enc Bool := ⟨1, fun x => [.bool x], fun _ => rfl, fun x v h => by simp at h; subst h; rfl⟩
structure RV (α : Type) where
 data : List α
 dp : Option Addr
 dc : Nat
instance {α : Type} : Inhabited (RV α) := ⟨⟨[], none, 0⟩⟩
def dL {α : Type} : Enc (RV α) := ⟨1, fun t => [.slice t.dp t.data.length t.dc], fun _ => rfl, fun x v h => by simp at h; subst h; rfl⟩
abbrev rvE {α : Type} (T : TypeId) (E : Enc α) (r : RV α) : Ent := rowE (.slice r.dp r.data.length r.dc) T E r.data
def RvIn {α : Type} (E : Enc α) (h : Hp) (l : List (RV α)) : Prop := ∀ t ∈ l, Sl h E t.data (.slice t.dp t.data.length t.dc)
theorem RvIn.mono {α : Type} {E : Enc α} {h h' : Hp} {l : List (RV α)} (d : RvIn E h l) (hh : Hp.le h h') : RvIn E h' l := fun s hs => (d s hs).mono hh
abbrev EdV := RV (Int × Bool)
abbrev gX : Enc EdV := dL
abbrev JR (h : Hp) (l : List EdV) : Prop := RvIn eX h l
structure VSt where
 st : List StV
 vs : List Int
 mb : List Bool
def pF (l : List Ins) (gd : List Int) (k : Nat) (s : VSt) (e : Int × Bool) : StV :=
 if 4 ≤ s.vs.getD e.1.toNat default then vU (s.st.getD e.1.toNat default) (jh (s.st.getD e.1.toNat default) (j9 l s.st gd k e) 8) 8
 else jh (s.st.getD e.1.toNat default) (j9 l s.st gd k e) 8
def ff (l : List Ins) (gd : List Int) (k : Nat) (s : VSt) (e : Int × Bool) : VSt :=
 if pF l gd k s e = s.st.getD e.1.toNat default then s else ⟨s.st.set e.1.toNat (pF l gd k s e), s.vs, s.mb.set e.1.toNat true⟩
def ip (k : Nat) (s : VSt) : VSt := ⟨s.st, s.vs.set k (s.vs.getD k default + 1), s.mb.set k false⟩
def jK (l : List Ins) (gd : List Int) (es : List (Int × Bool)) (k : Nat) (s : VSt) : VSt := es.foldl (ff l gd k) (ip k s)
theorem A6 (l : List Ins) (gd : List Int) (k : Nat) (s : VSt) (e : Int × Bool) : (ff l gd k s e).st.length = s.st.length ∧ (ff l gd k s e).vs = s.vs ∧ (ff l gd k s e).mb.length = s.mb.length := by
 unfold ff
 split
 ·exact ⟨rfl, rfl, rfl⟩
 ·exact ⟨List.length_set, rfl, List.length_set⟩
theorem oe (l : List Ins) (gd : List Int) (k : Nat) : ∀ (es : List (Int × Bool)) (s : VSt), (es.foldl (ff l gd k) s).st.length = s.st.length ∧ (es.foldl (ff l gd k) s).vs = s.vs ∧ (es.foldl (ff l gd k) s).mb.length = s.mb.length
 | [], s => ⟨rfl, rfl, rfl⟩
 | e :: t, s => by
  have h1 := oe l gd k t (ff l gd k s e)
  have h2 := A6 l gd k s e
  exact ⟨h1.1.trans h2.1, h1.2.1.trans h2.2.1, h1.2.2.trans h2.2.2⟩
theorem qn {α β : Type} [Inhabited β] (f : α → β → α) (l : List β) (s : α) {k : Nat} (h : k < l.length) : (l.take (k + 1)).foldl f s = f ((l.take k).foldl f s) (l.getD k default) := by
 rw [dm h, List.foldl_append]; rfl
theorem FV {l : List Ins} {gd : List Int} {k : Nat} {s : VSt} {es : List (Int × Bool)} {j : Nat} (h : j < es.length) {S : VSt} (hS : S = (es.take j).foldl (ff l gd k) s) (hn : pF l gd k S (es.getD j default) ≠ S.st.getD (es.getD j default).1.toNat default) :
  (es.take (j + 1)).foldl (ff l gd k) s = ⟨S.st.set (es.getD j default).1.toNat (pF l gd k S (es.getD j default)), S.vs, S.mb.set (es.getD j default).1.toNat true⟩ := by
 rw [qn _ _ _ h, ← hS]; unfold ff; rw [if_neg hn]
theorem HE {l : List Ins} {gd : List Int} {k : Nat} {s : VSt} {es : List (Int × Bool)} {j : Nat} (h : j < es.length) {S : VSt} (hS : S = (es.take j).foldl (ff l gd k) s) (hn : pF l gd k S (es.getD j default) = S.st.getD (es.getD j default).1.toNat default) :
  (es.take (j + 1)).foldl (ff l gd k) s = S := by
 rw [qn _ _ _ h, ← hS]; unfold ff; rw [if_pos hn]
end Go.HL
namespace Go.Proofs.YtiajjbhcpeadfaaGreat
open Go Go.HL Go.RowKit
theorem JM : StTy Tryz.prog 37 :=
 ⟨⟨26, 25, _, _, cm, by decide, rfl, rfl, by kernel_rfl, cj, Tryz.isAgg26, cX, au, qg _ au, rfl, rj, aK, aj⟩⟩
theorem JF : Tryz.prog.eqGuardType Tryz.prog.depth 37 = false := by kernel_rfl
theorem Dk (l : List Ins) (gd : List Int) (eds : List EdV) (s : VSt) (bx bm k : Nat) (VI VEd VG VB VV VM : Value) (w : World) (ho : OwnAt w [rowE VB 37 cL s.st, rowE VV 3 bP s.vs, rowE VM 4 cD s.mb]) (hx : CellsIn (Bg.lessB w (cZ [rowE VB 37 cL s.st, rowE VV 3 bP s.vs, rowE VM 4 cD s.mb]) 0).blk bx [VI, .map (some bm), VEd, VG, VB, VV, VM]) (hI : Sl (Bg.lessB w (cZ [rowE VB 37 cL s.st, rowE VV 3 bP s.vs, rowE VM 4 cD s.mb]) 0).blk aO l VI) (hG : Sl (Bg.lessB w (cZ [rowE VB 37 cL s.st, rowE VV 3 bP s.vs, rowE VM 4 cD s.mb]) 0).blk bP gd VG) (hE : Sl (Bg.lessB w (cZ [rowE VB 37 cL s.st, rowE VV 3 bP s.vs, rowE VM 4 cD s.mb]) 0).blk gX eds VEd) (hEI : JR (Bg.lessB w (cZ [rowE VB 37 cL s.st, rowE VV 3 bP s.vs, rowE VM 4 cD s.mb]) 0).blk eds) (hIO : ∀ x ∈ l, InsOK x) (hgl : gd.length = l.length) (hsl : s.st.length = l.length) (hvl : s.vs.length = l.length) (hml : s.mb.length = l.length) (hel : eds.length = l.length) (hgd : ∀ j, j < gd.length → gd.getD j default < (l.length : Int)) (heb : ∀ e ∈ (eds.getD k default).data, 0 ≤ e.1 ∧ e.1 < (l.length : Int)) (hvb : ∀ v ∈ s.vs, 0 ≤ v ∧ v ≤ 1000000) (hk : k < l.length) :
  Calls Tryz.prog 164 #[.pointer (some ⟨bx, 0, none⟩), .int .i64 (k : Nat)] w (fun e w' => ∃ _ : Unit, e = .returned (.tuple #[]) ∧ Upd 0 w w' (cZ [rowE VB 37 cL s.st, rowE VV 3 bP s.vs, rowE VM 4 cD s.mb]) [rowE VB 37 cL (jK l gd (eds.getD k default).data k s).st, rowE VV 3 bP (jK l gd (eds.getD k default).data k s).vs, rowE VM 4 cD (jK l gd (eds.getD k default).data k s).mb] ∧ True) := by
 have hvk := hvb _ (cM (k := k) (by omega))
 have hEk := hEI _ (cM (k := k) (by omega))
 have hlI := hI.len_le
 have hEl := hEk.len_le
 refine qX (L := [rowE VB 37 cL s.st, rowE VV 3 bP s.vs, rowE VM 4 cD s.mb]) ho rfl (Nat.zero_le _) Tryz.func164 rfl Tryz.ntmps164 rfl ?_
 refine af (zz0 (aa rfl) (zz0 (aY rfl) ?_))
 refine zz0 (zz3 (off := 6) (ft := 225) rfl bE rfl lQ) ?_
 refine zz0 (kV rfl mS) ?_
 refine zz0 (aa rfl) (zz0 (zz7 rfl rfl eO bT) ?_)
 refine gg (l := s.mb) (i := k) (false) rfl rfl bT ?_
 have hls1 : (List.set s.mb (k) (false)).length = (s.mb).length := List.length_set
 refine aH (zz0 (aa rfl) (zz0 (aY rfl) ?_))
 refine zz0 (zz3 (off := 5) (ft := 224) rfl bE rfl eS) ?_
 refine zz0 (kV rfl gw) ?_
 refine zz0 (aa rfl) (zz0 (zz7 rfl rfl cU aC) ?_)
 refine zz0 (eF rfl aN) ?_
 refine zz0 (cp rfl rfl) ?_
 refine zz0 (zz7 rfl rfl cU aC) ?_
 refine gg (l := s.vs) (i := k) ((s.vs.getD k default + 1)) rfl rfl aC ?_
 have hls2 : (List.set s.vs (k) ((s.vs.getD k default + 1))).length = (s.vs).length := List.length_set
 refine aH (zz0 (aa rfl) (zz0 (aY rfl) ?_))
 refine zz0 (zz3 (off := 2) (ft := 226) rfl bE rfl ku) ?_
 refine zz0 (kV rfl Tryz.isAgg226) ?_
 refine zz0 (aa rfl) (zz0 (je rfl rfl iy jA) ?_)
 refine zz0 (j2 rfl Tryz.isAgg272) ?_
 refine zz0 (gW rfl gz) ?_
 refine zz0 (aa rfl) (ad (aF ?_))
 change Tr _ _ [rowE VB 37 cL (((eds.getD k default).data.take 0).foldl (ff l gd k) (ip k s)).st, rowE VV 3 bP (((eds.getD k default).data.take 0).foldl (ff l gd k) (ip k s)).vs, rowE VM 4 cD (((eds.getD k default).data.take 0).foldl (ff l gd k) (ip k s)).mb] _ _
 refine bL (ι := Nat) (fun j => j ≤ (eds.getD k default).data.length) (fun _ => (Bg.lessB w (cZ [rowE VB 37 cL s.st, rowE VV 3 bP s.vs, rowE VM 4 cD s.mb]) 0)) (fun j => [rowE VB 37 cL (((eds.getD k default).data.take j).foldl (ff l gd k) (ip k s)).st, rowE VV 3 bP (((eds.getD k default).data.take j).foldl (ff l gd k) (ip k s)).vs, rowE VM 4 cD (((eds.getD k default).data.take j).foldl (ff l gd k) (ip k s)).mb]) (fun j => [(32, .int .i64 (j : Nat))]) (fun j => (eds.getD k default).data.length - j) 0 (Nat.zero_le _) (Front.c Front.nil) (by repeat' constructor) rfl (fun j hi m hm => ?_)
 replace hi : j ≤ (eds.getD k default).data.length := hi
 replace hm : m = (eds.getD k default).data.length - j := hm
 change Tr _ _ [rowE VB 37 cL (((eds.getD k default).data.take j).foldl (ff l gd k) (ip k s)).st, rowE VV 3 bP (((eds.getD k default).data.take j).foldl (ff l gd k) (ip k s)).vs, rowE VM 4 cD (((eds.getD k default).data.take j).foldl (ff l gd k) (ip k s)).mb] ([(32, .int .i64 (j : Nat))] ++ _) _
 obtain ⟨S, hS⟩ : ∃ S, S = (((eds.getD k default).data.take j).foldl (ff l gd k) (ip k s)) := ⟨_, rfl⟩
 rw [← hS]
 have hvf := oe l gd k ((eds.getD k default).data.take j) (ip k s)
 rw [← hS] at hvf
 have hSt : S.st.length = l.length := hvf.1.trans hsl
 have hSm : S.mb.length = l.length := hvf.2.2.trans (List.length_set.trans hml)
 have hSv : S.vs.length = l.length := (congrArg List.length hvf.2.1).trans (List.length_set.trans hvl)
 refine af (zz0 (bU rfl rfl) (ad (al ?_)))
 refine ar rfl ?_ ?_ <;> intro h3 <;> try simp only [bs] at h3
 ·refine bF (al (aF (al ?_)))
  have hej := heb _ (cM (k := j) (by omega))
  refine an (zz0 (je rfl rfl gz jz) ?_)
  refine zz0 (o7 rfl Tryz.isAgg274 jz) ?_
  refine dB lA rfl (fun b4 => ?_)
  refine az eX rfl rfl jz ?_
  refine ad ?_
  refine di (ι := Nat) (fun bo => True) (fun _ => (Bg.lessB w (cZ [rowE VB 37 cL s.st, rowE VV 3 bP s.vs, rowE VM 4 cD s.mb]) 0)) (fun bo => [cellE bo (cL.enc (S.st.getD ((eds.getD k default).data.getD j default).1.toNat default)) 37, cellE b4 (eX.enc ((eds.getD k default).data.getD j default)) 274, rowE VB 37 cL S.st, rowE VV 3 bP S.vs, rowE VM 4 cD S.mb]) (fun bo => [(6, .pointer (some ⟨bo, 0, none⟩))]) ?_ (fun bo hi => ?_)
  ·skip
   refine dW ([cellE b4 (eX.enc ((eds.getD k default).data.getD j default)) 274, rowE VB 37 cL S.st, rowE VV 3 bP S.vs, rowE VM 4 cD S.mb]) 10 rfl aQ ?_
   refine zz4 0 rfl (aa rfl) ?_
   refine zz4 1 rfl (aY rfl) ?_
   refine zz4 2 rfl (zz3 (off := 4) (ft := 177) rfl bE rfl eT) ?_
   refine zz4 3 rfl (kV rfl g8) ?_
   refine zz4 4 rfl (zz3 (off := 0) (ft := 3) rfl ix rfl aC) ?_
   refine zz4 5 rfl (aJ rfl aN) ?_
   refine zz4 6 rfl (jJ rfl rfl d5 aU) ?_
   refine zz4 7 rfl (mY rfl bS aU) ?_
   refine cY [8] (fun iq hq => ?_)
   obtain rfl := List.mem_singleton.1 hq
   refine bj rfl ?_
   refine dB cS rfl (fun b5 => ?_)
   refine bN ?_
   refine cY [9] (fun iq hq => ?_)
   obtain rfl := List.mem_singleton.1 hq
   refine bj rfl ?_
   refine az cL rfl rfl aU ?_
   refine bN ?_
   refine ij ?_
   refine ac ?_
   refine cw _ (Front.c Front.nil) (bC 9 rfl) (o := trivial)
  ·skip
   replace hi : True := hi
   change Tr _ _ [cellE bo (cL.enc (S.st.getD ((eds.getD k default).data.getD j default).1.toNat default)) 37, cellE b4 (eX.enc ((eds.getD k default).data.getD j default)) 274, rowE VB 37 cL S.st, rowE VV 3 bP S.vs, rowE VM 4 cD S.mb] ([(6, .pointer (some ⟨bo, 0, none⟩))] ++ _) _
   refine di (ι := Nat) (fun bn => True) (fun _ => (Bg.lessB w (cZ [rowE VB 37 cL s.st, rowE VV 3 bP s.vs, rowE VM 4 cD s.mb]) 0)) (fun bn => [cellE bn (cL.enc (jh (S.st.getD ((eds.getD k default).data.getD j default).1.toNat default) (j9 l S.st gd k ((eds.getD k default).data.getD j default)) 8)) 37, cellE bo (cL.enc (S.st.getD ((eds.getD k default).data.getD j default).1.toNat default)) 37, cellE b4 (eX.enc ((eds.getD k default).data.getD j default)) 274, rowE VB 37 cL S.st, rowE VV 3 bP S.vs, rowE VM 4 cD S.mb]) (fun bn => [(7, .pointer (some ⟨bn, 0, none⟩))]) ?_ (fun bn hi => ?_)
   ·skip
    refine dW ([cellE bo (cL.enc (S.st.getD ((eds.getD k default).data.getD j default).1.toNat default)) 37, cellE b4 (eX.enc ((eds.getD k default).data.getD j default)) 274, rowE VB 37 cL S.st, rowE VV 3 bP S.vs, rowE VM 4 cD S.mb]) 8 rfl aQ ?_
    refine zz4 0 rfl (bH rfl bS aU) ?_
    refine zz4 1 rfl (aa rfl) ?_
    refine zz4 2 rfl (aa rfl) ?_
    refine zz4 3 rfl (bH rfl Tryz.isAgg274 jz) ?_
    refine cY [4, 6] (fun iq hq => ?_)
    rcases List.mem_cons.1 hq with rfl | hq
    ·skip
     refine bj rfl ?_
     refine zz0 (aA rfl Tryz.call226 (fun w hw => xx l _ gd bx bm VI VEd VG VB VV VM k _ w (hx.mono hw.bg) (hw.slF hI) (hw.slF hG) (hw.row (by repeat constructor)) hIO hgl (by omega) hgd hk)) ?_
     refine bN ?_
     refine cY [5, 6] (fun iq hq => ?_)
     rcases List.mem_cons.1 hq with rfl | hq
     ·skip
      refine bj rfl ?_
      refine zz0 (aA rfl oQ (fun w hw => oz _ _ w)) ?_
      refine bN ?_
      refine cY [6] (fun iq hq => ?_)
      obtain rfl := List.mem_singleton.1 hq
      refine bj rfl ?_
      refine dB cS rfl (fun b6 => ?_)
      refine bN ?_
      refine cY [7] (fun iq hq => ?_)
      obtain rfl := List.mem_singleton.1 hq
      refine bj rfl ?_
      refine az cL rfl rfl aU ?_
      refine bN ?_
      refine ij ?_
      refine ac ?_
      refine cw _ (Front.c Front.nil) (bC 7 rfl) (o := trivial)
     obtain rfl := List.mem_singleton.1 hq
     refine bj rfl ?_
     refine dB cS rfl (fun b7 => ?_)
     refine bN ?_
     refine cY [5] (fun iq hq => ?_)
     obtain rfl := List.mem_singleton.1 hq
     refine bj rfl ?_
     refine zz0 (aA rfl oQ (fun w hw => oz _ _ w)) ?_
     refine bN ?_
     refine cY [7] (fun iq hq => ?_)
     obtain rfl := List.mem_singleton.1 hq
     refine bj rfl ?_
     refine az cL rfl rfl aU ?_
     refine bN ?_
     refine ij ?_
     refine ac ?_
     refine cw _ (Front.c Front.nil) (bC 7 rfl) (o := trivial)
    obtain rfl := List.mem_singleton.1 hq
    refine bj rfl ?_
    refine dB cS rfl (fun b8 => ?_)
    refine bN ?_
    refine cY [4] (fun iq hq => ?_)
    obtain rfl := List.mem_singleton.1 hq
    refine bj rfl ?_
    refine zz0 (aA rfl Tryz.call226 (fun w hw => xx l _ gd bx bm VI VEd VG VB VV VM k _ w (hx.mono hw.bg) (hw.slF hI) (hw.slF hG) (hw.row (by repeat constructor)) hIO hgl (by omega) hgd hk)) ?_
    refine bN ?_
    refine cY [5] (fun iq hq => ?_)
    obtain rfl := List.mem_singleton.1 hq
    refine bj rfl ?_
    refine zz0 (aA rfl oQ (fun w hw => oz _ _ w)) ?_
    refine bN ?_
    refine cY [7] (fun iq hq => ?_)
    obtain rfl := List.mem_singleton.1 hq
    refine bj rfl ?_
    refine az cL rfl rfl aU ?_
    refine bN ?_
    refine ij ?_
    refine ac ?_
    refine cw _ (Front.c Front.nil) (bC 7 rfl) (o := trivial)
   ·skip
    replace hi : True := hi
    change Tr _ _ [cellE bn (cL.enc (jh (S.st.getD ((eds.getD k default).data.getD j default).1.toNat default) (j9 l S.st gd k ((eds.getD k default).data.getD j default)) 8)) 37, cellE bo (cL.enc (S.st.getD ((eds.getD k default).data.getD j default).1.toNat default)) 37, cellE b4 (eX.enc ((eds.getD k default).data.getD j default)) 274, rowE VB 37 cL S.st, rowE VV 3 bP S.vs, rowE VM 4 cD S.mb] ([(7, .pointer (some ⟨bn, 0, none⟩))] ++ _) _
    refine di (ι := StV) (fun x1 => x1 = pF l gd k S ((eds.getD k default).data.getD j default)) (fun _ => (Bg.lessB w (cZ [rowE VB 37 cL s.st, rowE VV 3 bP s.vs, rowE VM 4 cD s.mb]) 0)) (fun x1 => [cellE bn (cL.enc x1) 37, cellE bo (cL.enc (S.st.getD ((eds.getD k default).data.getD j default).1.toNat default)) 37, cellE b4 (eX.enc ((eds.getD k default).data.getD j default)) 274, rowE VB 37 cL S.st, rowE VV 3 bP S.vs, rowE VM 4 cD S.mb]) (fun x1 => []) ?_ (fun x1 hi => ?_)
    ·skip
     refine al (io aQ ?_)
     refine aw (aa rfl) (aw (aY rfl) ?_)
     refine aw (zz3 (off := 5) (ft := 224) rfl bE rfl eS) ?_
     refine aw (kV rfl gw) ?_
     refine aw (zz3 (off := 0) (ft := 3) rfl ix rfl aC) ?_
     refine aw (aJ rfl aN) ?_
     refine aw (jJ rfl rfl cU aC) ?_
     refine aw (eF rfl aN) ?_
     refine aw (eJ rfl rfl) (bK ?_)
     refine ac ?_
     refine ar rfl ?_ ?_ <;> intro h9 <;> try simp only [bs] at h9
     ·refine af (zz0 (aa rfl) (ad (aF ?_)))
      refine bL (ι := Nat) (fun r => r ≤ 8) (fun _ => (Bg.lessB w (cZ [rowE VB 37 cL s.st, rowE VV 3 bP s.vs, rowE VM 4 cD s.mb]) 0)) (fun r => [cellE bn (cL.enc (vU (S.st.getD ((eds.getD k default).data.getD j default).1.toNat default) (jh (S.st.getD ((eds.getD k default).data.getD j default).1.toNat default) (j9 l S.st gd k ((eds.getD k default).data.getD j default)) 8) r)) 37, cellE bo (cL.enc (S.st.getD ((eds.getD k default).data.getD j default).1.toNat default)) 37, cellE b4 (eX.enc ((eds.getD k default).data.getD j default)) 274, rowE VB 37 cL S.st, rowE VV 3 bP S.vs, rowE VM 4 cD S.mb]) (fun r => [(59, .int .i64 (r : Nat))]) (fun r => 8 - r) 0 (Nat.zero_le _) (Front.c Front.nil) (by repeat' constructor) rfl (fun r hi m hm => ?_)
      replace hi : r ≤ 8 := hi
      replace hm : m = 8 - r := hm
      change Tr _ _ [cellE bn (cL.enc (vU (S.st.getD ((eds.getD k default).data.getD j default).1.toNat default) (jh (S.st.getD ((eds.getD k default).data.getD j default).1.toNat default) (j9 l S.st gd k ((eds.getD k default).data.getD j default)) 8) r)) 37, cellE bo (cL.enc (S.st.getD ((eds.getD k default).data.getD j default).1.toNat default)) 37, cellE b4 (eX.enc ((eds.getD k default).data.getD j default)) 274, rowE VB 37 cL S.st, rowE VV 3 bP S.vs, rowE VM 4 cD S.mb] ([(59, .int .i64 (r : Nat))] ++ _) _
      have hgr := zb (S.st.getD ((eds.getD k default).data.getD j default).1.toNat default) (jh (S.st.getD ((eds.getD k default).data.getD j default).1.toNat default) (j9 l S.st gd k ((eds.getD k default).data.getD j default)) 8) r hi r (Nat.le_refl _)
      refine af (zz0 (bU rfl rfl) (ad (al ?_)))
      refine ar rfl ?_ ?_ <;> intro h10 <;> try simp only [bs] at h10
      ·refine bF (al (aF (af (zz0 (aa rfl) (zz0 (ab rfl) (ad (fO 0 12 aQ ?_)))))))
       refine bI ?_
       refine aw (aa rfl) (aw (aa rfl) (aw (zz3 (off := 0) (ft := 26) rfl cm rfl cX) ?_))
       refine aw (dI rfl rfl cj aj (by omega)) ?_
       refine aw (fW (vs := bQ.enc ((S.st.getD ((eds.getD k default).data.getD j default).1.toNat default).get (r : Int))) rfl (by repeat constructor) aK aj (kj ⟨by omega, by omega⟩ (by simp)) rfl) ?_
       refine aw (aa rfl) (aw (zz3 (off := 0) (ft := 26) rfl cm rfl cX) ?_)
       refine aw (dI rfl rfl cj aj (by omega)) ?_
       refine aw (fW (vs := bQ.enc ((vU (S.st.getD ((eds.getD k default).data.getD j default).1.toNat default) (jh (S.st.getD ((eds.getD k default).data.getD j default).1.toNat default) (j9 l S.st gd k ((eds.getD k default).data.getD j default)) 8) r).get (r : Int))) rfl (by repeat constructor) aK aj (kj ⟨by omega, by omega⟩ (by simp)) rfl) ?_
       refine aw (aA rfl Tryz.call227 (fun w hw => ED _ _ w)) ?_
       refine aw (zz3 (off := 0) (ft := 26) rfl cm rfl cX) ?_
       refine aw (dI rfl rfl cj aj (by omega)) ?_
       refine bK ?_
       refine ga rfl rfl aj (by repeat constructor) ((lq (s := vU (S.st.getD ((eds.getD k default).data.getD j default).1.toNat default) (jh (S.st.getD ((eds.getD k default).data.getD j default).1.toNat default) (j9 l S.st gd k ((eds.getD k default).data.getD j default)) 8) r) (k := (r : Int)) ⟨by omega, by omega⟩ (by simp) (l7 ((S.st.getD ((eds.getD k default).data.getD j default).1.toNat default).get (r : Int)) ((vU (S.st.getD ((eds.getD k default).data.getD j default).1.toNat default) (jh (S.st.getD ((eds.getD k default).data.getD j default).1.toNat default) (j9 l S.st gd k ((eds.getD k default).data.getD j default)) 8) r).get (r : Int)))).trans (congrArg cL.enc (show _ = vU (S.st.getD ((eds.getD k default).data.getD j default).1.toNat default) (jh (S.st.getD ((eds.getD k default).data.getD j default).1.toNat default) (j9 l S.st gd k ((eds.getD k default).data.getD j default)) 8) (r + 1) by rw [hgr (by omega)]; rfl))) (by rfl) (lr (k := (r : Int)) ⟨by omega, by omega⟩ (by simp)) (by first | exact Enc.one bQ _ | exact List.all_eq_true.1 rfl) rfl ?_
       refine aD (aX (ac (an (zz0 (cp rfl rfl) ?_))))
       refine zz0 (aa rfl) (ad ?_)
       refine cH (r + 1) (Front.c Front.nil) (bC 18 rfl) (o := (by show r + 1 ≤ _; omega))
      ·refine bJ (aG (aG (bv (ac ?_))))
       refine cw _ Front.nil (bC 12 rfl) (o := (by show _ = _; unfold pF; rw [if_pos (by assumption), show r = 8 by omega]))
     ·refine bF ?_
      refine cw _ Front.nil (bC 9 rfl) (o := (by show _ = _; unfold pF; rw [if_neg (by assumption)]))
    ·skip
     replace hi : x1 = pF l gd k S ((eds.getD k default).data.getD j default) := hi
     change Tr _ _ [cellE bn (cL.enc x1) 37, cellE bo (cL.enc (S.st.getD ((eds.getD k default).data.getD j default).1.toNat default)) 37, cellE b4 (eX.enc ((eds.getD k default).data.getD j default)) 274, rowE VB 37 cL S.st, rowE VV 3 bP S.vs, rowE VM 4 cD S.mb] ([] ++ _) _
     have hx1 := hi
     refine af (zz0 (bH rfl bS aU) ?_)
     refine zz0 (bH rfl bS aU) ?_
     refine zz0 (G0 rfl rfl JM JF) ?_
     refine ad ?_
     refine ar rfl ?_ ?_ <;> intro h11 <;> try simp only [bs] at h11
     ·refine al (fO 0 8 aQ ?_)
      refine bI ?_
      refine aw (aa rfl) (aw (aY rfl) ?_)
      refine aw (zz3 (off := 4) (ft := 177) rfl bE rfl eT) ?_
      refine aw (kV rfl g8) ?_
      refine aw (zz3 (off := 0) (ft := 3) rfl ix rfl aC) ?_
      refine aw (aJ rfl aN) ?_
      refine aw (bH rfl bS aU) ?_
      refine aw (jJ rfl rfl d5 aU) ?_
      refine bK ?_
      refine gg (l := S.st) (i := ((eds.getD k default).data.getD j default).1.toNat) (x1) rfl rfl aU ?_
      have hls12 : (List.set S.st (((eds.getD k default).data.getD j default).1.toNat) (x1)).length = (S.st).length := List.length_set
      refine ad (fO 0 7 aQ ?_)
      refine bI ?_
      refine aw (aa rfl) (aw (aY rfl) ?_)
      refine aw (zz3 (off := 6) (ft := 225) rfl bE rfl lQ) ?_
      refine aw (kV rfl mS) ?_
      refine aw (zz3 (off := 0) (ft := 3) rfl ix rfl aC) ?_
      refine aw (aJ rfl aN) ?_
      refine aw (jJ rfl rfl eO bT) ?_
      refine bK ?_
      refine gg (l := S.mb) (i := ((eds.getD k default).data.getD j default).1.toNat) (true) rfl rfl bT ?_
      have hls13 : (List.set S.mb (((eds.getD k default).data.getD j default).1.toNat) (true)).length = (S.mb).length := List.length_set
      refine aD (aX (ac (an (zz0 (cp rfl rfl) ?_))))
      refine zz0 (aa rfl) (ad ?_)
      have hne : pF l gd k S ((eds.getD k default).data.getD j default) ≠ (S.st.getD ((eds.getD k default).data.getD j default).1.toNat default) := by rw [← hx1]; assumption
      have hfy := FV (by omega) hS hne
      rw [← hx1] at hfy
      apply gm (j + 1)
      ·exact rfl
      ·exact (Front.c Front.nil)
      ·exact bC 27 rfl
      ·exact (by show Pick _ [rowE VB 37 cL (((eds.getD k default).data.take (j + 1)).foldl (ff l gd k) (ip k s)).st, rowE VV 3 bP (((eds.getD k default).data.take (j + 1)).foldl (ff l gd k) (ip k s)).vs, rowE VM 4 cD (((eds.getD k default).data.take (j + 1)).foldl (ff l gd k) (ip k s)).mb]; rw [hfy]; repeat' (first | exact Pick.nil _ | exact Del.here _ | apply Pick.cons | apply Del.there))
      ·exact (by show j + 1 ≤ _; omega)
      ·exact (by (try dsimp only); omega)
     ·refine cg (aX (ac (an (zz0 (cp rfl rfl) ?_))))
      refine zz0 (aa rfl) (ad ?_)
      have hne : pF l gd k S ((eds.getD k default).data.getD j default) = (S.st.getD ((eds.getD k default).data.getD j default).1.toNat default) := by rw [← hx1]; assumption
      have hfn := HE (by omega) hS hne
      apply gm (j + 1)
      ·exact rfl
      ·exact (Front.c Front.nil)
      ·exact bC 12 rfl
      ·exact (by show Pick _ [rowE VB 37 cL (((eds.getD k default).data.take (j + 1)).foldl (ff l gd k) (ip k s)).st, rowE VV 3 bP (((eds.getD k default).data.take (j + 1)).foldl (ff l gd k) (ip k s)).vs, rowE VM 4 cD (((eds.getD k default).data.take (j + 1)).foldl (ff l gd k) (ip k s)).mb]; rw [hfn]; repeat' (first | exact Pick.nil _ | exact Del.here _ | apply Pick.cons | apply Del.there))
      ·exact (by show j + 1 ≤ _; omega)
      ·exact (by (try dsimp only); omega)
 ·refine bJ (aG (aG (bv ?_)))
  refine fx Tryz.results164 (fun w' hw => ?_)
  have hSS : jK l gd (eds.getD k default).data k s = S := by rw [hS, show j = (eds.getD k default).data.length by omega, List.take_length]; rfl
  rw [hSS]
  exact ⟨(), rfl, hw.upd (Bg.le.refl _) (by repeat' constructor), trivial⟩
end Go.Proofs.YtiajjbhcpeadfaaGreat
namespace Go.HL
open Go
theorem pQ {α : Type} {l : List α} {k j : Nat} {x d : α} : (l.set k x).getD j d = if k = j ∧ k < l.length then x else l.getD j d := by
 simp only [List.getD_eq_getElem?_getD, List.getElem?_set]
 by_cases h : k = j
 ·subst h
  by_cases h2 : k < l.length
  ·simp [h2]
  ·simp [h2]
 ·simp [h]
def ed (l : List Ins) (a : UInt32) : Int := dw (fun i : Ins => decide (i.addr = a)) 0 l
theorem CJ {α : Type} [Inhabited α] (p : α → Bool) : ∀ (l : List α) (k j : Nat), j < l.length → p (l.getD j default) = true → 0 ≤ dw p k l ∧ dw p k l ≤ (k + j : Nat)
 | [], k, j, h, _ => by simp at h
 | x :: l, k, j, h, hp => by
  unfold dw
  by_cases hx : p x = true
  ·rw [if_pos hx]; omega
  ·rw [if_neg hx]
   cases j with
   | zero => exact absurd hp hx
   | succ j =>
    have := CJ p l (k + 1) j (by simpa using h) hp
    omega
theorem Ai {l : List Ins} {k : Nat} (h : k < l.length) : 0 ≤ ed l (l.getD k default).addr ∧ ed l (l.getD k default).addr ≤ k := by
 have := CJ (fun i : Ins => decide (i.addr = (l.getD k default).addr)) l 0 k h (by simp)
 unfold ed; omega
theorem Aj {l : List Ins} {a : UInt32} (h : 0 ≤ ed l a) : (l.getD (ed l a).toNat default).addr = a := by
 have := (uq (fun i : Ins => decide (i.addr = a)) l 0 h).2
 rw [Int.natCast_zero, Int.sub_zero] at this
 exact of_decide_eq_true this
theorem rU (l : List Ins) (a : UInt32) : -1 ≤ ed l a ∧ ed l a < l.length := by
 have := iJ (fun i : Ins => decide (i.addr = a)) l 0
 unfold ed; omega
def atK (l : List Ins) : Nat → List (UInt32 × Int)
 | 0 => []
 | k + 1 => if (dJ (atK l k) (l.getD k default).addr).isSome = true then atK l k else fm (atK l k) (l.getD k default).addr (k : Int)
theorem yG (l : List Ins) (a : UInt32) : ∀ (k : Nat), k ≤ l.length → dJ (atK l k) a = if 0 ≤ ed l a ∧ ed l a < k then some (ed l a) else none
 | 0, _ => by simp only [atK, dJ]; rw [if_neg (by omega)]
 | k + 1, h => by
  have ih := yG l a k (by omega)
  have ihb := yG l (l.getD k default).addr k (by omega)
  have hf := Ai (l := l) (k := k) (by omega)
  unfold atK
  by_cases hs : (dJ (atK l k) (l.getD k default).addr).isSome = true
  ·rw [if_pos hs, ih]
   have hk : ed l (l.getD k default).addr < k := by
    rw [ihb] at hs; split at hs
    ·omega
    ·simp at hs
   have hne : ed l a ≠ (k : Int) := by
    intro e
    have h1 := Aj (l := l) (a := a) (by omega)
    rw [e, Int.toNat_natCast] at h1
    rw [h1] at hk; omega
   by_cases hc : 0 ≤ ed l a ∧ ed l a < k
   ·rw [if_pos hc, if_pos (by omega)]
   ·rw [if_neg hc, if_neg (by omega)]
  ·rw [if_neg hs, vg, ih]
   have hk : ed l (l.getD k default).addr = k := by
    rw [ihb] at hs
    by_cases hc : 0 ≤ ed l (l.getD k default).addr ∧ ed l (l.getD k default).addr < k
    ·rw [if_pos hc] at hs; simp at hs
    ·omega
   by_cases ha : a = (l.getD k default).addr
   ·subst ha
    rw [if_pos rfl, hk, if_pos (by omega)]
   ·rw [if_neg ha]
    have hne : ed l a ≠ (k : Int) := by
     intro e
     have h1 := Aj (l := l) (a := a) (by omega)
     rw [e, Int.toNat_natCast] at h1
     exact ha h1.symm
    by_cases hc : 0 ≤ ed l a ∧ ed l a < k
    ·rw [if_pos hc, if_pos (by omega)]
    ·rw [if_neg hc, if_neg (by omega)]
theorem BR (l : List Ins) (a : UInt32) : dJ (atK l l.length) a = if ed l a < 0 then none else some (ed l a) := by
 have h := rU l a
 rw [yG l a l.length (Nat.le_refl _)]
 by_cases hc : ed l a < 0
 ·rw [if_pos hc, if_neg (by omega)]
 ·rw [if_neg hc, if_pos (by omega)]
structure CSt where
 es : List (List (Int × Bool))
 into : List (List Int)
def stepJ (l : List Ins) (k : Nat) (s : CSt) (n : Nat) : CSt :=
 if ed l ((dX (l.getD k default)).getD n default) < 0 then s
 else ⟨s.es.set k (s.es.getD k [] ++ [(ed l ((dX (l.getD k default)).getD n default), decide ((n : Int) = 0))]),
  s.into.set (ed l ((dX (l.getD k default)).getD n default)).toNat (s.into.getD (ed l ((dX (l.getD k default)).getD n default)).toNat [] ++ [(k : Int)])⟩
def jH (l : List Ins) (k : Nat) (s : CSt) : Nat → CSt
 | 0 => s
 | n + 1 => stepJ l k (jH l k s n) n
def jQ (l : List Ins) : Nat → CSt
 | 0 => ⟨List.replicate l.length [], List.replicate l.length []⟩
 | k + 1 => if ed l (l.getD k default).addr = k then jH l k (jQ l k) (dX (l.getD k default)).length else jQ l k
def m7 (l : List Ins) (e : Nat) (into : List (List Int)) (k : Nat) : Int :=
 if (l.getD k default).op = 20 ∧ jn (l.getD k default) = 0 ∧ (l.getD k default).addr ≠ (l.getD e default).addr ∧ (into.getD k []).length = 1 ∧ BK (l.getD ((into.getD k []).getD 0 default).toNat default) = true
 then (into.getD k []).getD 0 default else -1
def ly (l : List Ins) : List (List (Int × Bool)) := (jQ l l.length).es
def fc (l : List Ins) (e : Nat) : List Int := (List.range l.length).map (m7 l e (jQ l l.length).into)
structure COk (l : List Ins) (s : CSt) (k : Nat) : Prop where
 le : s.es.length = l.length
 li : s.into.length = l.length
 e : ∀ t ∈ s.es, ∀ x ∈ t, 0 ≤ x.1 ∧ x.1 < (l.length : Int)
 i : ∀ t ∈ s.into, ∀ x ∈ t, 0 ≤ x ∧ x < (l.length : Int)
 eb : ∀ j, (s.es.getD j []).length ≤ 2
 ib : ∀ j, (s.into.getD j []).length ≤ 2 * k
theorem vh {α : Type} {l : List α} {k : Nat} {x y : α} (h : y ∈ l.set k x) : y = x ∨ y ∈ l := by
 rcases List.mem_or_eq_of_mem_set h with h | h
 ·exact .inr h
 ·exact .inl h
theorem getD_mem {α : Type} {l : List (List α)} {k : Nat} {x : α} (h : x ∈ l.getD k []) : l.getD k [] ∈ l := by
 by_cases hk : k < l.length
 ·have := cM (l := l) hk
  have e : (default : List α) = [] := rfl
  rwa [e] at this
 ·rw [List.getD_eq_getElem?_getD, List.getElem?_eq_none (by omega)] at h; simp at h
theorem pU {l : List Ins} {k : Nat} {s : CSt} (hk : k < l.length) (h : COk l s k) (h0 : (s.es.getD k []).length = 0) : ∀ n, n ≤ 2 → 
    (jH l k s n).es.length = l.length ∧ (jH l k s n).into.length = l.length ∧ (∀ t ∈ (jH l k s n).es, ∀ x ∈ t, 0 ≤ x.1 ∧ x.1 < (l.length : Int)) ∧ (∀ t ∈ (jH l k s n).into, ∀ x ∈ t, 0 ≤ x ∧ x < (l.length : Int)) ∧
    (∀ j, ((jH l k s n).es.getD j []).length ≤ if j = k then n else 2) ∧ (∀ j, ((jH l k s n).into.getD j []).length ≤ 2 * k + n) ∧ (∀ j, j ≠ k → (jH l k s n).es.getD j [] = s.es.getD j [])
  | 0, _ => ⟨h.le, h.li, h.e, h.i, fun j => by
      by_cases hj : j = k
      · rw [if_pos hj, hj]; exact Nat.le_of_eq h0
      · rw [if_neg hj]; exact h.eb j, h.ib, fun _ _ => rfl⟩
  | n + 1, hn => by
    obtain ⟨h1, h2, h3, h4, h5, h6, h7⟩ := pU hk h h0 n (by omega)
    simp only [jH]
    have hf := rU l ((dX (l.getD k default)).getD n default)
    unfold stepJ
    by_cases hc : ed l ((dX (l.getD k default)).getD n default) < 0
    · rw [if_pos hc]
      refine ⟨h1, h2, h3, h4, fun j => ?_, fun j => Nat.le_trans (h6 j) (by omega), h7⟩
      have := h5 j
      split at this <;> rename_i q
      · rw [if_pos q]; omega
      · rw [if_neg q]; omega
    · rw [if_neg hc]
      refine ⟨by rw [List.length_set]; exact h1, by rw [List.length_set]; exact h2, fun t ht x hx => ?_, fun t ht x hx => ?_, fun j => ?_, fun j => ?_, fun j hj => ?_⟩
      · rcases vh ht with rfl | ht
        · rcases List.mem_append.1 hx with hx | hx
          · exact h3 _ (getD_mem hx) x hx
          · rw [List.mem_singleton.1 hx]; exact ⟨by omega, hf.2⟩
        · exact h3 t ht x hx
      · rcases vh ht with rfl | ht
        · rcases List.mem_append.1 hx with hx | hx
          · exact h4 _ (getD_mem hx) x hx
          · rw [List.mem_singleton.1 hx]; omega
        · exact h4 t ht x hx
      · rw [pQ]
        have hkk := h5 k
        rw [if_pos rfl] at hkk
        by_cases hj : j = k
        · subst hj
          rw [if_pos ⟨rfl, by omega⟩, if_pos rfl, List.length_append]
          simp only [List.length_cons, List.length_nil]; omega
        · rw [if_neg (by omega), if_neg hj]
          have := h5 j; rw [if_neg hj] at this; exact this
      · rw [pQ]
        split
        · rename_i q
          rw [List.length_append]
          have := h6 (ed l ((dX (l.getD k default)).getD n default)).toNat
          simp only [List.length_cons, List.length_nil]; omega
        · exact Nat.le_trans (h6 j) (by omega)
      · rw [pQ, if_neg (by omega)]; exact h7 j hj
theorem vE (l : List Ins) : ∀ k, k ≤ l.length → COk l (jQ l k) k ∧ ∀ j, k ≤ j → (jQ l k).es.getD j [] = []
 | 0, _ => by
  refine ⟨⟨by simp [jQ], by simp [jQ], fun t ht x hx => ?_, fun t ht x hx => ?_, fun j => ?_, fun j => ?_⟩, fun j _ => ?_⟩
  ·rw [(List.mem_replicate.1 ht).2] at hx; simp at hx
  ·rw [(List.mem_replicate.1 ht).2] at hx; simp at hx
  all_goals
   simp only [jQ, List.getD_eq_getElem?_getD, List.getElem?_replicate]
   split <;> simp
 | k + 1, h => by
  obtain ⟨ih, ihe⟩ := vE l k (by omega)
  unfold jQ
  split
  ·have hsl : (dX (l.getD k default)).length ≤ 2 := ki _
   obtain ⟨h1, h2, h3, h4, h5, h6, h7⟩ := pU (l := l) (k := k) (by omega) ih (by rw [ihe k (Nat.le_refl _)]; rfl) _ hsl
   exact ⟨⟨h1, h2, h3, h4, fun j => Nat.le_trans (h5 j) (by split <;> omega), fun j => Nat.le_trans (h6 j) (by omega)⟩, fun j hj => by rw [h7 j (by omega)]; exact ihe j (by omega)⟩
  ·exact ⟨⟨ih.le, ih.li, ih.e, ih.i, ih.eb, fun j => Nat.le_trans (ih.ib j) (by omega)⟩, fun j hj => ihe j (by omega)⟩
theorem rY (l : List Ins) {k : Nat} (h : k ≤ l.length) : COk l (jQ l k) k := (vE l k h).1
theorem Ed (l : List Ins) (e k : Nat) : m7 l e (jQ l l.length).into k < (l.length : Int) := by
 unfold m7
 split
 ·rename_i h
  have hm : ((jQ l l.length).into.getD k []).getD 0 default ∈ (jQ l l.length).into.getD k [] := cM (by omega)
  exact ((rY l (Nat.le_refl _)).i _ (getD_mem hm) _ hm).2
 ·omega
def m8 (mb : List Bool) : Int := dw (fun x : Bool => decide (true = x)) 0 mb
def iU (l : List Ins) (gd : List Int) (es : List (List (Int × Bool))) : Nat → VSt → List StV × Int
 | 0, s => if m8 s.mb < 0 then (s.st, 0) else ([], 15)
 | n + 1, s => if m8 s.mb < 0 then (s.st, 0) else iU l gd es n (jK l gd (es.getD (m8 s.mb).toNat []) (m8 s.mb).toNat s)
def qQ (l : List Ins) (e : Nat) : VSt := ⟨(List.replicate l.length (jg 8)).set e (xN 8), List.replicate l.length 0, (List.replicate l.length false).set e true⟩
def eR (l : List Ins) (entry : UInt32) (rounds : Nat) : List StV × Int :=
 if 4096 < l.length then ([], 6) else if ed l entry < 0 then ([], 9)
 else iU l (fc l (ed l entry).toNat) (ly l) rounds (qQ l (ed l entry).toNat)
end Go.HL
namespace Go.HL
open Go
section
variable {P : Program} {N : Nat} {F : Bg} {L A B : List Ent} {M : Fr} {X : Act → World → Prop}
theorem getD_at {α : Type} [Inhabited α] {l : List α} {i : Nat} (h : i < l.length) : l[i] = l.getD i default := by simp [List.getD_eq_getElem?_getD, h]
theorem AL {α : Type} [Inhabited α] {f : α → Ent} {rs : List α} (i : Nat) (h : i < rs.length) (K : Tr N F (f (rs.getD i default) :: (A ++ ((rs.eraseIdx i).map f ++ L))) M X) : Tr N F (A ++ (rs.map f ++ L)) M X :=
 H7 i h (by rw [getD_at h]; exact K)
theorem GM {α : Type} [Inhabited α] {f : α → Ent} {rs : List α} (i : Nat) (h : i < rs.length) (K : Tr N F (f (rs.getD i default) :: (A ++ (B ++ ((rs.eraseIdx i).map f ++ L)))) M X) : Tr N F (A ++ (B ++ (rs.map f ++ L))) M X := by
 rw [← List.append_assoc] at K ⊢
 exact AL i h K
theorem GL {α : Type} {f : α → Ent} {rs : List α} (i : Nat) (y : α) (h : i < rs.length) (K : Tr N F (A ++ (B ++ ((rs.set i y).map f ++ L))) M X) : Tr N F (f y :: (A ++ (B ++ ((rs.eraseIdx i).map f ++ L)))) M X := by
 rw [← List.append_assoc] at K ⊢
 exact yO i y h K
theorem u2 {α : Type} {w : World} (T : TypeId) (E : Enc α) (h : HpOK F L w) : ∀ n, HpOK F ((List.replicate n (default : RV α)).map (rvE T E) ++ L) w
 | 0 => h
 | n + 1 => Cx T E (u2 T E h n)
theorem GN {α β : Type} (T T' : TypeId) (E : Enc α) (E' : Enc β) (n : Nat) (K : Tr N F (L ++ ((List.replicate n (default : RV α)).map (rvE T E) ++ ((List.replicate n (default : RV β)).map (rvE T' E') ++ []))) M X) : Tr N F L M X :=
 fun a w ha hw => K a w ha ((u2 T E (u2 T' E' hw n) n).perm (by
  rw [List.append_nil]
  refine List.perm_append_comm.trans ?_
  rw [List.append_assoc]))
theorem oS {α : Type} {T : TypeId} {E : Enc α} (rs : List (RV α)) {F : Bg} (K : ∀ F', F.le F' → RvIn E F'.blk rs → Tr N F' A M X) : Tr N F (A ++ (rs.map (rvE T E) ++ [])) M X := by
 refine qD (L' := (rs.map (fun r : RV α => (Value.slice r.dp r.data.length r.dc, r.data))).map (fun r : Value × List α => rowE r.1 T E r.2) ++ A) ?_ (sf (rs.map (fun r : RV α => (Value.slice r.dp r.data.length r.dc, r.data))) fun F' h1 h2 => K F' h1 fun t ht => ?_)
 ·rw [List.append_nil, List.map_map]
  exact List.perm_append_comm
 ·exact h2 _ (List.mem_map.2 ⟨t, ht, rfl⟩)
theorem wu {α : Type} {T : TypeId} {E : Enc α} (rs : List (RV α)) {F : Bg} (K : ∀ F', F.le F' → RvIn E F'.blk rs → Tr N F' (A ++ (B ++ [])) M X) : Tr N F (A ++ (B ++ (rs.map (rvE T E) ++ []))) M X := by
 rw [← List.append_assoc]
 refine oS rs fun F' h1 h2 => ?_
 have := K F' h1 h2
 rwa [List.append_nil] at this
end
def iI (x : Int) : Value := .int .i64 x
theorem vb (o : Option Int) : uc iI (.int .i64 0) o = .int .i64 (o.getD 0) := by cases o <;> rfl
section
variable {P : Program} {N : Nat} {F : Bg} {L : List Ent} {M : Fr} {dst : Option Tmp} {ty : TypeId} {pos : String} {after : Array Edge} {g : Option (Nat × Bool)} {l : List (UInt32 × Int)} {x y : Operand} {t K e : TypeId} {b : Nat} {k : UInt32}
theorem yW {x y : Operand} {V : Value} {bb n c kz i : Nat} {kk : IntKind} (hx : opv M x = some V) (hy : opv M y = some (.int kk i)) (hV : V = .slice (some ⟨bb, 0, none⟩) n c) (ht : P.underlying t = some (.slice e)) (hz : ∀ w, (sizeOf e).run P w = .ok kz w) (hi : i < n) :
  QS P N F L M ⟨dst, .indexAddr t x y, ty, pos, after, g⟩ (.pointer (some ⟨bk V, ofs V + i * kz, none⟩)) :=
 co fun A w ha hw => by
  have := mK (V := .nilFunc) (c := c) (kk := kk) (n := n) (i := (i : Int)) ht hz w ⟨Int.natCast_nonneg _, Int.ofNat_lt.2 hi⟩ bb 0 rfl
  subst hV
  simp [execOp, ha.eval hx, ha.eval hy, this, bk, ofs]
theorem vM (hx : opv M x = some (.map (some b))) (hy : opv M y = some (.int .u32 k.toNat)) (hm : mapE b iI l ∈ L) (ht : P.underlying t = some (.map K e)) (hK : P.underlying K = some (.int .u32)) (hz : ∀ w, (zeroValue e).run P w = .ok (.int .i64 0) w) :
  QS P N F L M ⟨dst, .lookup t x y true, ty, pos, after, g⟩ (.tuple #[.int .i64 ((dJ l k).getD 0), .bool (dJ l k).isSome]) := by
 have h := xC (P := P) (N := N) (F := F) (L := L) (M := M) (dst := dst) (ty := ty) (pos := pos) (after := after) (g := g) hx hy hm ht hK hz
 rw [vb] at h; exact h
theorem Ep (hx : opv M x = some (.map (some b))) (hy : opv M y = some (.int .u32 k.toNat)) (hm : MapIn F.blk b iI l) (ht : P.underlying t = some (.map K e)) (hK : P.underlying K = some (.int .u32)) (hz : ∀ w, (zeroValue e).run P w = .ok (.int .i64 0) w) :
  QS P N F L M ⟨dst, .lookup t x y false, ty, pos, after, g⟩ (.int .i64 ((dJ l k).getD 0)) := by
 have h := vN (P := P) (N := N) (F := F) (L := L) (M := M) (dst := dst) (ty := ty) (pos := pos) (after := after) (g := g) hx hy hm ht hK hz
 rw [vb] at h; exact h
theorem AT (hx : opv M x = some (.map (some b))) (hy : opv M y = some (.int .u32 k.toNat)) (hm : MapIn F.blk b iI l) (ht : P.underlying t = some (.map K e)) (hK : P.underlying K = some (.int .u32)) (hz : ∀ w, (zeroValue e).run P w = .ok (.int .i64 0) w) :
  QS P N F L M ⟨dst, .lookup t x y true, ty, pos, after, g⟩ (.tuple #[.int .i64 ((dJ l k).getD 0), .bool (dJ l k).isSome]) := by
 have h := re (P := P) (N := N) (F := F) (L := L) (M := M) (dst := dst) (ty := ty) (pos := pos) (after := after) (g := g) hx hy hm ht hK hz
 rw [vb] at h; exact h
end
section
variable {P : Program} {ops : Array Oper} {Q : Exit → Act → World → Prop} {N : Nat} {F : Bg} {L : List Ent} {M : Fr} {ty : TypeId} {pos : String} {after : Array Edge} {d : Nat} {L0 : List Ent} {fuel : Nat} {listed : Array Bool}
theorem C3 {x : Operand} {t e : TypeId} {a : Option Addr} {n c : Nat} (i : Nat) (hi : ops[i]? = some ⟨some d, .call { callee := .builtin .len, args := #[x], argTypes := #[t] }, ty, pos, after, none⟩) (hB : takeB ops listed i = true) (hQ : ∀ c a d v w, Q (.panic c) (a.put d v) w → Q (.panic c) a w)
  (hx : opv M x = some (.slice a n c)) (ht : P.underlying t = some (.slice e)) (k : Tr N F L ((d, .int .i64 (n : Nat)) :: M) (wpAnyH P .any ops Q (HpOK F L0) fuel (listed.setIfInBounds i true)))
  (hd : Nat.ble (d + 1) N = true := by rfl) (hL : Pick L L0 := by repeat' (first | exact Pick.nil _ | exact Del.here _ | apply Pick.cons | apply Del.there)) :
  Tr N F L M (wpAnyH P .any ops Q (HpOK F L0) (fuel + 1) listed) := by
 simp only [takeB, Bool.and_eq_true] at hB
 intro A w ha hw
 exact wpAnyH_take hi hB.1.1 hB.1.2 hB.2 (fun c a w => hQ c a _ _ w) (.inl ⟨by simp [Region.wanted], fun w' hw' => by simp [execOp, resolve, invoke, builtin, Builtin.len_, ha.eval hx, run_underlying ht, goInt]⟩) (hL.heap hw) (k _ _ (ha.put (Nat.le_of_ble_eq_true hd)) hw)
end
theorem CV {l : List Ins} {k : Nat} (h : ed l (l.getD k default).addr ≠ (k : Int)) : jQ l (k + 1) = jQ l k := if_neg h
theorem Ar {l : List Ins} {k : Nat} (h : ed l (l.getD k default).addr = (k : Int)) : jQ l (k + 1) = jH l k (jQ l k) (dX (l.getD k default)).length := if_pos h
theorem As {l : List Ins} {k j : Nat} {s : CSt} (h : ed l ((dX (l.getD k default)).getD j default) < 0) : jH l k s (j + 1) = jH l k s j := if_pos h
theorem xh {l : List Ins} {k j : Nat} {s : CSt} (h : ¬ ed l ((dX (l.getD k default)).getD j default) < 0) : jH l k s (j + 1) =
  ⟨(jH l k s j).es.set k ((jH l k s j).es.getD k [] ++ [(ed l ((dX (l.getD k default)).getD j default), decide ((j : Int) = 0))]),
  (jH l k s j).into.set (ed l ((dX (l.getD k default)).getD j default)).toNat ((jH l k s j).into.getD (ed l ((dX (l.getD k default)).getD j default)).toNat [] ++ [(k : Int)])⟩ := if_neg h
theorem mE {α : Type} {rs : List (RV α)} {L : List (List α)} (h : rs.map (·.data) = L) (j : Nat) : (rs.getD j default).data = L.getD j [] := by
 subst h
 simp only [List.getD_eq_getElem?_getD, List.getElem?_map]
 cases rs[j]? <;> rfl
theorem EX {α : Type} {rs : List (RV α)} {L : List (List α)} (h : rs.map (·.data) = L) (k : Nat) (x : α) (p : Option Addr) (c : Nat) : (rs.set k ⟨(rs.getD k default).data ++ [x], p, c⟩).map (·.data) = L.set k (L.getD k [] ++ [x]) := by
 rw [List.map_set, h, mE h]
theorem I0 {gd : List Int} {n k : Nat} {f : Nat → Int} (hl : gd.length = n) (h : ∀ j, j < k → gd.getD j default = f j) (hk : k < n) : ∀ j, j < k + 1 → (gd.set k (f k)).getD j default = f j := by
 intro j hj
 rw [pQ]
 by_cases e : k = j
 ·subst e; rw [if_pos ⟨rfl, by omega⟩]
 ·rw [if_neg (by omega)]; exact h j (by omega)
theorem JD {gd : List Int} {n k : Nat} {f : Nat → Int} (hl : gd.length = n) (h : ∀ j, j < k → gd.getD j default = f j) (h2 : gd.getD k default = f k) : ∀ j, j < k + 1 → gd.getD j default = f j := by
 intro j hj
 by_cases e : j = k
 ·subst e; exact h2
 ·exact h j (by omega)
theorem JC {gd : List Int} {n k : Nat} {x c : Int} (h : ∀ j, k ≤ j → j < n → gd.getD j default = c) : ∀ j, k + 1 ≤ j → j < n → (gd.set k x).getD j default = c := by
 intro j h1 h2
 rw [pQ, if_neg (by omega)]; exact h j (by omega) h2
theorem Ee {gd : List Int} {l : List Ins} {e : Nat} (hl : gd.length = l.length) (h : ∀ j, j < l.length → gd.getD j default = m7 l e (jQ l l.length).into j) : gd = fc l e := by
 unfold fc
 apply List.ext_getElem
 ·simp [hl]
 ·intro i h1 h2
  have := h i (by omega)
  rw [← getD_at h1] at this
  rw [this]; simp
section
variable {N : Nat} {F : Bg} {L A : List Ent} {M : Fr} {X : Act → World → Prop}
theorem yR {α : Type} {T : TypeId} {E : Enc α} (rs : List (RV α)) (K : ∀ F', F.le F' → RvIn E F'.blk rs → Tr N F' (A ++ L) M X) : Tr N F (A ++ (rs.map (rvE T E) ++ L)) M X := by
 refine qD (L' := (A ++ L) ++ (rs.map (rvE T E) ++ [])) ?_ (oS rs fun F' h1 h2 => K F' h1 h2)
 rw [List.append_nil, List.append_assoc]
 exact (List.perm_append_comm (l₁ := L)).append_left _
end
theorem vw (l : List Ins) (e : Nat) : (fc l e).length = l.length := by unfold fc; simp
theorem Ec (l : List Ins) (e : Nat) : ∀ j, j < (fc l e).length → (fc l e).getD j default < (l.length : Int) := by
 intro j h
 rw [vw] at h
 unfold fc
 rw [← getD_at (by simpa using h)]
 simp only [List.getElem_map]
 exact Ed l e _
theorem Eh {l : List Ins} {rs : List EdV} (h : rs.map (·.data) = ly l) : rs.length = l.length := by
 have := congrArg List.length h
 rw [List.length_map] at this
 exact this.trans (rY l (Nat.le_refl _)).le
theorem HT {l : List Ins} {rs : List EdV} (h : rs.map (·.data) = ly l) (k : Nat) : ∀ e ∈ (rs.getD k default).data, 0 ≤ e.1 ∧ e.1 < (l.length : Int) := by
 intro e he
 rw [mE h] at he
 exact (rY l (Nat.le_refl _)).e _ (getD_mem he) e he
theorem wq {l : List Ins} {gd : List Int} {es : List (List (Int × Bool))} {n : Nat} {s : VSt} (h : m8 s.mb < 0) : iU l gd es n s = (s.st, 0) := by
 cases n <;> exact if_pos h
theorem wo {l : List Ins} {gd : List Int} {es : List (List (Int × Bool))} {n : Nat} {s : VSt} (h : ¬ m8 s.mb < 0) : iU l gd es (n + 1) s = iU l gd es n (jK l gd (es.getD (m8 s.mb).toNat []) (m8 s.mb).toNat s) := if_neg h
theorem yJ {l : List Ins} {gd : List Int} {es : List (List (Int × Bool))} {s : VSt} (h : ¬ m8 s.mb < 0) : iU l gd es 0 s = ([], 15) := if_neg h
theorem A5 (l : List Ins) (gd : List Int) (es : List (Int × Bool)) (k : Nat) (s : VSt) : (jK l gd es k s).st.length = s.st.length ∧ (jK l gd es k s).vs.length = s.vs.length ∧ (jK l gd es k s).mb.length = s.mb.length := by
 have h := oe l gd k es (ip k s)
 exact ⟨h.1, (congrArg List.length h.2.1).trans List.length_set, h.2.2.trans List.length_set⟩
theorem EH {l : List Ins} {gd : List Int} {es : List (Int × Bool)} {k n : Nat} {s : VSt} (hk : k < s.vs.length) (h : ∀ v ∈ s.vs, 0 ≤ v ∧ v ≤ (n : Int)) : ∀ v ∈ (jK l gd es k s).vs, 0 ≤ v ∧ v ≤ ((n + 1 : Nat) : Int) := by
 intro v hv
 have e : (jK l gd es k s).vs = s.vs.set k (s.vs.getD k default + 1) := (oe l gd k es (ip k s)).2.1
 rw [e] at hv
 rcases vh hv with rfl | hv
 ·have := h _ (cM hk); omega
 ·have := h v hv; omega
end Go.HL
namespace Go.Proofs.YtiajjbhcpeadfaaGreat
open Go Go.HL Go.RowKit
theorem Aq (l : List Ins) (e bx bm : Nat) (VI VB VV VM : Value) (w : World) (ho : OwnAt w [cellE bx [VI, .map (some bm), .slice none 0 0, .slice none 0 0, VB, VV, VM] 228]) (hI : Sl (Bg.lessB w [bx] 0).blk aO l VI) (hA : MapIn (Bg.lessB w [bx] 0).blk bm iI (atK l l.length)) (hIO : ∀ x ∈ l, InsOK x) (he : e < l.length) (hll : l.length ≤ 4096) :
  Calls Tryz.prog 161 #[.pointer (some ⟨bx, 0, none⟩), .int .i64 (e : Nat)] w (fun e' w' => ∃ i : Value × Value × List EdV, e' = .returned (.tuple #[]) ∧ Upd 0 w w' (cZ [cellE bx [VI, .map (some bm), .slice none 0 0, .slice none 0 0, VB, VV, VM] 228]) (cellE bx [VI, .map (some bm), i.1, i.2.1, VB, VV, VM] 228 :: rowE i.2.1 3 bP (fc l e) :: rowE i.1 272 gX i.2.2 :: i.2.2.map (rvE 274 eX)) ∧ i.2.2.map (·.data) = ly l) := by
 refine qX (L := [cellE bx [VI, .map (some bm), .slice none 0 0, .slice none 0 0, VB, VV, VM] 228]) ho rfl (Nat.zero_le _) Tryz.func161 rfl Tryz.ntmps161 rfl ?_
 refine af (zz0 (aa rfl) (zz0 (aY rfl) ?_))
 refine zz0 (zz3 (off := 0) (ft := 50) rfl bE rfl dz) ?_
 refine zz0 (jI rfl dR) ?_
 refine zz0 (gW rfl aM) ?_
 refine iP (E := (dL (α := Int))) default rfl rfl gA A0 rfl rfl rfl (by constructor <;> omega) rfl (fun b1 => ?_)
 obtain ⟨VQ, hVQ⟩ : ∃ V, V = Value.slice (some ⟨b1, 0, none⟩) (List.replicate l.length (default : RV Int)).length l.length := ⟨_, rfl⟩
 rw [← hVQ]
 refine zz0 (ab rfl) (aH (zz0 (aa rfl) (zz0 (aa rfl) (zz0 (aY rfl) ?_))))
 refine zz0 (zz3 (off := 0) (ft := 50) rfl bE rfl dz) ?_
 refine zz0 (jI rfl dR) ?_
 refine zz0 (gW rfl aM) ?_
 refine iP (E := gX) default rfl rfl iy AZ rfl rfl rfl (by constructor <;> omega) rfl (fun b2 => ?_)
 refine zz0 (aY rfl) ?_
 refine zz0 (zz3 (off := 2) (ft := 226) rfl bE rfl ku) ?_
 refine zz2 rfl rfl ku rfl ?_
 refine aH (zz0 (aa rfl) (zz0 (aa rfl) (zz0 (aY rfl) ?_)))
 refine zz0 (zz3 (off := 0) (ft := 50) rfl bE rfl dz) ?_
 refine zz0 (jI rfl dR) ?_
 refine zz0 (gW rfl aM) ?_
 refine iP (E := bP) 0 rfl rfl cU kL rfl rfl rfl (by constructor <;> omega) rfl (fun b3 => ?_)
 refine zz0 (aY rfl) ?_
 refine zz0 (zz3 (off := 3) (ft := 224) rfl bE rfl eS) ?_
 refine zz2 rfl rfl eS rfl ?_
 change Tr _ _ [rowE (Value.slice (some ⟨b3, 0, none⟩) (List.replicate l.length (0 : Int)).length l.length) 3 bP (List.replicate l.length 0), rowE (Value.slice (some ⟨b2, 0, none⟩) (List.replicate l.length (default : EdV)).length l.length) 272 gX (List.replicate l.length default), rowE VQ 224 dL (List.replicate l.length default), cellE bx [VI, .map (some bm), Value.slice (some ⟨b2, 0, none⟩) (List.replicate l.length (default : EdV)).length l.length, Value.slice (some ⟨b3, 0, none⟩) (List.replicate l.length (0 : Int)).length l.length, VB, VV, VM] 228] _ _
 obtain ⟨VE, hVE⟩ : ∃ V, V = Value.slice (some ⟨b2, 0, none⟩) (List.replicate l.length (default : EdV)).length l.length := ⟨_, rfl⟩
 rw [← hVE]
 obtain ⟨VG, hVG⟩ : ∃ V, V = Value.slice (some ⟨b3, 0, none⟩) (List.replicate l.length (0 : Int)).length l.length := ⟨_, rfl⟩
 rw [← hVG]
 refine ad (al (af (zz0 (aa rfl) (zz0 (aY rfl) ?_))))
 refine zz0 (zz3 (off := 0) (ft := 50) rfl bE rfl dz) ?_
 refine zz0 (jI rfl dR) ?_
 refine zz0 (gW rfl aM) ?_
 refine zz0 (aa rfl) (ad (aF (GN 274 3 eX bP l.length ?_)))
 refine bL (ι := Nat × List EdV × List (RV Int) × List Int) (fun ⟨k, rs, qs, gd⟩ => k ≤ l.length ∧ (rs.map (·.data) = (jQ l k).es ∧ qs.map (·.data) = (jQ l k).into) ∧ gd.length = l.length ∧ ∀ j, j < k → gd.getD j default = -1) (fun _ => (Bg.lessB w [bx] 0)) (fun ⟨k, rs, qs, gd⟩ => (cellE bx [VI, .map (some bm), VE, VG, VB, VV, VM] 228 :: rowE VG 3 bP gd :: rowE VE 272 gX rs :: rowE VQ 224 dL qs :: (rs.map (rvE 274 eX) ++ (qs.map (rvE 3 bP) ++ [])))) (fun ⟨k, rs, qs, gd⟩ => [(42, .int .i64 (k : Nat))]) (fun ⟨k, rs, qs, gd⟩ => l.length - k) (0, List.replicate l.length default, List.replicate l.length default, List.replicate l.length 0) ⟨Nat.zero_le _, ⟨List.map_replicate, List.map_replicate⟩, List.length_replicate, fun j hj => absurd hj (Nat.not_lt_zero _)⟩ (Front.c Front.nil) (by repeat' (first | exact Pick.refl _ | exact Del.here _ | apply Pick.cons | apply Del.there | apply Pick.skip | exact Pick.nil _)) rfl (fun i hi m hm => ?_)
 obtain ⟨k, rs, qs, gd⟩ := i
 replace hi : k ≤ l.length ∧ (rs.map (·.data) = (jQ l k).es ∧ qs.map (·.data) = (jQ l k).into) ∧ gd.length = l.length ∧ ∀ j, j < k → gd.getD j default = -1 := hi
 replace hm : m = l.length - k := hm
 change Tr _ _ (cellE bx [VI, .map (some bm), VE, VG, VB, VV, VM] 228 :: rowE VG 3 bP gd :: rowE VE 272 gX rs :: rowE VQ 224 dL qs :: (rs.map (rvE 274 eX) ++ (qs.map (rvE 3 bP) ++ []))) ([(42, .int .i64 (k : Nat))] ++ _) _
 obtain ⟨hk, ⟨hrs, hqs⟩, hgl, hgm⟩ := hi
 have hco := rY l hk
 have hrl : rs.length = l.length := by have := congrArg List.length hrs; rw [List.length_map, hco.le] at this; exact this
 have hql : qs.length = l.length := by have := congrArg List.length hqs; rw [List.length_map, hco.li] at this; exact this
 refine af (zz0 (bU rfl rfl) (ad (al ?_)))
 refine ar rfl ?_ ?_ <;> intro h4 <;> try simp only [bs] at h4
 ·refine bF (al (aF (af (zz0 (aa rfl) (zz0 (je rfl rfl aM ax) ?_)))))
  refine zz0 (o7 rfl aR ax) ?_
  refine dB bV rfl (fun b5 => ?_)
  refine zz0 (ab rfl) (az aO rfl rfl ax ?_)
  refine aH (zz0 (aa rfl) (zz0 (aY rfl) ?_))
  refine zz0 (zz3 (off := 3) (ft := 224) rfl bE rfl eS) ?_
  refine zz0 (jI rfl gw) ?_
  refine zz0 (aa rfl) (zz0 (zz7 rfl rfl cU aC) ?_)
  refine gg (l := gd) (i := k) ((-1)) rfl rfl aC ?_
  have hls6 : (List.set gd (k) ((-1))).length = (gd).length := List.length_set
  refine ad (al (al (io aQ ?_)))
  refine aw (aa rfl) (aw (aY rfl) ?_)
  refine aw (zz3 (off := 1) (ft := 223) rfl bE rfl kw) ?_
  refine aw (jI rfl lj) ?_
  refine aw (zz3 (off := 0) (ft := 23) rfl ak rfl ae) ?_
  refine aw (aJ rfl am) ?_
  refine aw (Ep rfl rfl hA iz aP ja) ?_
  rw [BR, if_neg (by have := Ai (l := l) (k := k) (by omega); omega), Option.getD_some]
  refine aw (aa rfl) (aw (fV rfl rfl) (bK ?_))
  refine ac ?_
  refine ar rfl ?_ ?_ <;> intro h7 <;> try simp only [bs] at h7
  ·refine bJ (aG (bv (ac (an (zz0 (cp rfl rfl) ?_)))))
   refine zz0 (aa rfl) (ad ?_)
   refine oV (k + 1, rs, qs, gd.set k (-1)) (Front.c Front.nil) (bC 24 rfl) (o := ⟨by omega, ⟨by rw [CV (by assumption)]; exact hrs, by rw [CV (by assumption)]; exact hqs⟩, List.length_set.trans hgl, I0 (f := fun _ => -1) hgl hgm (by omega)⟩)
  ·refine bF (al ?_)
   have hne0 : ((jQ l k).es.getD k []).length = 0 := by rw [(vE l k hk).2 k (Nat.le_refl _)]; rfl
   refine an (zz0 (bH rfl aR ax) ?_)
   refine fG rfl Tryz.call224 (fun w hw => zg (l.getD k default) w (hIO _ (cM (by omega)))) rfl (fun V8 => ?_)
   refine zz0 (ln rfl ah) ?_
   refine zz0 (aa rfl) (ad (aF ?_))
   refine bL (ι := Nat × List EdV × List (RV Int)) (fun ⟨j, rs', qs'⟩ => j ≤ (dX (l.getD k default)).length ∧ rs'.map (·.data) = (jH l k (jQ l k) j).es ∧ qs'.map (·.data) = (jH l k (jQ l k) j).into) (fun _ => (Bg.lessB w [bx] 0)) (fun ⟨j, rs', qs'⟩ => (rowE V8 23 ao (dX (l.getD k default)) :: cellE b5 (aO.enc (l.getD k default)) 36 :: cellE bx [VI, .map (some bm), VE, VG, VB, VV, VM] 228 :: rowE VG 3 bP (gd.set k (-1)) :: rowE VE 272 gX rs' :: rowE VQ 224 dL qs' :: (rs'.map (rvE 274 eX) ++ (qs'.map (rvE 3 bP) ++ [])))) (fun ⟨j, rs', qs'⟩ => [(65, .int .i64 (j : Nat))]) (fun ⟨j, rs', qs'⟩ => (dX (l.getD k default)).length - j) (0, rs, qs) ⟨Nat.zero_le _, hrs, hqs⟩ (Front.c Front.nil) (by repeat' (first | exact Pick.refl _ | exact Del.here _ | apply Pick.cons | apply Del.there | apply Pick.skip | exact Pick.nil _)) rfl (fun i hi m hm => ?_)
   obtain ⟨j, rs', qs'⟩ := i
   replace hi : j ≤ (dX (l.getD k default)).length ∧ rs'.map (·.data) = (jH l k (jQ l k) j).es ∧ qs'.map (·.data) = (jH l k (jQ l k) j).into := hi
   replace hm : m = (dX (l.getD k default)).length - j := hm
   change Tr _ _ (rowE V8 23 ao (dX (l.getD k default)) :: cellE b5 (aO.enc (l.getD k default)) 36 :: cellE bx [VI, .map (some bm), VE, VG, VB, VV, VM] 228 :: rowE VG 3 bP (gd.set k (-1)) :: rowE VE 272 gX rs' :: rowE VQ 224 dL qs' :: (rs'.map (rvE 274 eX) ++ (qs'.map (rvE 3 bP) ++ []))) ([(65, .int .i64 (j : Nat))] ++ _) _
   obtain ⟨hj, hrs', hqs'⟩ := hi
   have hjs0 := ki (l.getD k default)
   have hrl' : rs'.length = l.length := by have := congrArg List.length hrs'; rw [List.length_map, (pU (by omega) hco hne0 j (Nat.le_trans hj (ki _))).1] at this; exact this
   have hql' : qs'.length = l.length := by have := congrArg List.length hqs'; rw [List.length_map, (pU (by omega) hco hne0 j (Nat.le_trans hj (ki _))).2.1] at this; exact this
   refine af (zz0 (bU rfl rfl) (ad (al ?_)))
   refine ar rfl ?_ ?_ <;> intro h9 <;> try simp only [bs] at h9
   ·refine bF (al (aF (af (zz0 (aa rfl) (zz0 (zz7 rfl rfl ah ae) ?_)))))
    refine zz0 (eF rfl am) ?_
    refine zz0 (ab rfl) (zz0 (ab rfl) (aH (zz0 (aa rfl) (zz0 (aY rfl) ?_))))
    refine zz0 (zz3 (off := 1) (ft := 223) rfl bE rfl kw) ?_
    refine zz0 (jI rfl lj) ?_
    refine zz0 (aa rfl) (zz0 (AT rfl rfl hA iz aP ja) ?_)
    rw [BR]
    obtain ⟨to, hto⟩ : ∃ to, to = (ed l ((dX (l.getD k default)).getD j default)) := ⟨_, rfl⟩
    rw [← hto]
    refine zz0 (aa rfl) (zz0 (aL rfl rfl) (zz0 (aL rfl rfl) (zz0 (ab rfl) (zz0 (ab rfl) (aH (zz0 (aa rfl) (ad ?_)))))))
    refine ar rfl ?_ ?_ <;> intro h10 <;> try simp only [bs] at h10
    ·have hok := pU (by omega) hco hne0 j (Nat.le_trans hj (ki _))
     have hdl : (rs'.getD k default).data.length ≤ 2 := by rw [mE hrs' k]; exact Nat.le_trans (hok.2.2.2.2.1 k) (by split <;> (have := ki (l.getD k default); omega))
     have hdq : (qs'.getD to.toNat default).data.length ≤ 2 * k + j := by rw [mE hqs']; exact hok.2.2.2.2.2.1 _
     have hjs := ki (l.getD k default)
     have ht1 : (if to < 0 then none else some to).isSome = true := by assumption
     have ht0 : ¬ to < 0 := fun q => by rw [if_pos q] at ht1; simp at ht1
     have htl := (rU l ((dX (l.getD k default)).getD j default)).2
     rw [← hto] at htl
     rw [if_neg ht0, Option.getD_some]
     refine di (ι := Option Addr × Nat) (fun ⟨pe, ce⟩ => True) (fun _ => (Bg.lessB w [bx] 0)) (fun ⟨pe, ce⟩ => (rowE V8 23 ao (dX (l.getD k default)) :: cellE b5 (aO.enc (l.getD k default)) 36 :: cellE bx [VI, .map (some bm), VE, VG, VB, VV, VM] 228 :: rowE VG 3 bP (gd.set k (-1)) :: rowE VE 272 gX (rs'.set k ⟨(rs'.getD k default).data ++ [(to, decide ((j : Int) = 0))], pe, ce⟩) :: rowE VQ 224 dL qs' :: ((rs'.set k ⟨(rs'.getD k default).data ++ [(to, decide ((j : Int) = 0))], pe, ce⟩).map (rvE 274 eX) ++ (qs'.map (rvE 3 bP) ++ [])))) (fun ⟨pe, ce⟩ => []) ?_ (fun i hi => ?_)
     ·skip
      refine AL (A := [rowE V8 23 ao (dX (l.getD k default)), cellE b5 (aO.enc (l.getD k default)) 36, cellE bx [VI, .map (some bm), VE, VG, VB, VV, VM] 228, rowE VG 3 bP (gd.set k (-1)), rowE VE 272 gX rs', rowE VQ 224 dL qs']) (f := (rvE 274 eX)) (rs := rs') k (by omega) ?_
      change Tr _ _ ((rvE 274 eX) (rs'.getD k default) :: rowE V8 23 ao (dX (l.getD k default)) :: cellE b5 (aO.enc (l.getD k default)) 36 :: cellE bx [VI, .map (some bm), VE, VG, VB, VV, VM] 228 :: rowE VG 3 bP (gd.set k (-1)) :: rowE VE 272 gX rs' :: rowE VQ 224 dL qs' :: ((rs'.eraseIdx k).map (rvE 274 eX) ++ (qs'.map (rvE 3 bP) ++ []))) _ _
      refine dW ([cellE bx [VI, .map (some bm), VE, VG, VB, VV, VM] 228]) 20 rfl aQ ?_
      refine zz4 0 rfl (aa rfl) ?_
      refine zz4 1 rfl (aY rfl) ?_
      refine zz4 2 rfl (zz3 (off := 2) (ft := 226) rfl bE rfl ku) ?_
      refine zz4 3 rfl (jI rfl Tryz.isAgg226) ?_
      refine zz4 4 rfl (aa rfl) ?_
      refine zz4 5 rfl (aa rfl) ?_
      refine zz4 6 rfl (aY rfl) ?_
      refine zz4 7 rfl (zz3 (off := 2) (ft := 226) rfl bE rfl ku) ?_
      refine zz4 8 rfl (jI rfl Tryz.isAgg226) ?_
      refine zz4 9 rfl (aa rfl) ?_
      refine iW 10 rfl (by kernel_rfl) (bD (dN (bD (bD (dN (dN (bD (bD (dN (bD dh)))))))))) (yW rfl rfl hVE iy jA (by rw [List.length_replicate]; omega)) ?_
      refine zz4 12 rfl (aa rfl) ?_
      refine zz4 13 rfl (aa rfl) ?_
      refine zz4 14 rfl (bB rfl rfl) ?_
      refine zz4 15 rfl (bG (vs := [(0, _), (1, _)]) rfl rfl (tn _ _)) ?_
      refine cY [11, 16] (fun iq hq => ?_)
      rcases List.mem_cons.1 hq with rfl | hq
      ·skip
       refine bj rfl ?_
       refine zz0 (eF (V := VE) (E := gX) (l := rs') (i := k) rfl Tryz.isAgg272) ?_
       refine bN ?_
       refine cY [16] (fun iq hq => ?_)
       obtain rfl := List.mem_singleton.1 hq
       refine bj rfl ?_
       refine iQ (E := eX) (to, decide ((j : Int) = 0)) rfl rfl gz jz lA (fun V11 => ?_)
       refine bN ?_
       refine cY [17] (fun iq hq => ?_)
       obtain rfl := List.mem_singleton.1 hq
       refine bj rfl ?_
       refine zz1 rfl rfl gz tX (fun V12 => ?_)
       refine dA (.head _) (fun pe ce hpv => ?_)
       subst hpv
       refine bN ?_
       refine iW 18 rfl (by kernel_rfl) (bD (dN (bD (bD (dN (dN (bD (bD (dN (bD dh)))))))))) (yW rfl rfl hVE iy jA (by rw [List.length_replicate]; omega)) ?_
       refine cY [19] (fun iq hq => ?_)
       obtain rfl := List.mem_singleton.1 hq
       refine bj rfl ?_
       refine gg (l := rs') (i := k) (⟨(rs'.getD k default).data ++ [(to, decide ((j : Int) = 0))], pe, ce⟩) rfl rfl jA ?_
       have hls13 : (List.set rs' (k) (⟨(rs'.getD k default).data ++ [(to, decide ((j : Int) = 0))], pe, ce⟩)).length = (rs').length := List.length_set
       refine yO (A := [rowE V8 23 ao (dX (l.getD k default)), cellE b5 (aO.enc (l.getD k default)) 36, cellE bx [VI, .map (some bm), VE, VG, VB, VV, VM] 228, rowE VG 3 bP (gd.set k (-1)), rowE VE 272 gX (rs'.set k ⟨(rs'.getD k default).data ++ [(to, decide ((j : Int) = 0))], pe, ce⟩), rowE VQ 224 dL qs']) (f := (rvE 274 eX)) (rs := rs') k ⟨(rs'.getD k default).data ++ [(to, decide ((j : Int) = 0))], pe, ce⟩ (by omega) ?_
       change Tr _ _ (rowE V8 23 ao (dX (l.getD k default)) :: cellE b5 (aO.enc (l.getD k default)) 36 :: cellE bx [VI, .map (some bm), VE, VG, VB, VV, VM] 228 :: rowE VG 3 bP (gd.set k (-1)) :: rowE VE 272 gX (rs'.set k ⟨(rs'.getD k default).data ++ [(to, decide ((j : Int) = 0))], pe, ce⟩) :: rowE VQ 224 dL qs' :: ((rs'.set k ⟨(rs'.getD k default).data ++ [(to, decide ((j : Int) = 0))], pe, ce⟩).map (rvE 274 eX) ++ (qs'.map (rvE 3 bP) ++ []))) _ _
       refine bN ?_
       refine ij ?_
       refine ac ?_
       apply eC (pe, ce)
       ·exact rfl
       ·exact Front.nil
       ·exact bC 19 rfl
       ·exact (Pick.refl _)
       ·exact trivial
      obtain rfl := List.mem_singleton.1 hq
      refine bj rfl ?_
      refine iQ (E := eX) (to, decide ((j : Int) = 0)) rfl rfl gz jz lA (fun V14 => ?_)
      refine bN ?_
      refine cY [11] (fun iq hq => ?_)
      obtain rfl := List.mem_singleton.1 hq
      refine bj rfl ?_
      refine zz0 (eF (V := VE) (E := gX) (l := rs') (i := k) rfl Tryz.isAgg272) ?_
      refine bN ?_
      refine cY [17] (fun iq hq => ?_)
      obtain rfl := List.mem_singleton.1 hq
      refine bj rfl ?_
      refine zz1 rfl rfl gz tX (fun V15 => ?_)
      refine dA (.head _) (fun pe ce hpv => ?_)
      subst hpv
      refine bN ?_
      refine iW 18 rfl (by kernel_rfl) (bD (dN (bD (bD (dN (dN (bD (bD (dN (bD dh)))))))))) (yW rfl rfl hVE iy jA (by rw [List.length_replicate]; omega)) ?_
      refine cY [19] (fun iq hq => ?_)
      obtain rfl := List.mem_singleton.1 hq
      refine bj rfl ?_
      refine gg (l := rs') (i := k) (⟨(rs'.getD k default).data ++ [(to, decide ((j : Int) = 0))], pe, ce⟩) rfl rfl jA ?_
      have hls16 : (List.set rs' (k) (⟨(rs'.getD k default).data ++ [(to, decide ((j : Int) = 0))], pe, ce⟩)).length = (rs').length := List.length_set
      refine yO (A := [rowE V8 23 ao (dX (l.getD k default)), cellE b5 (aO.enc (l.getD k default)) 36, cellE bx [VI, .map (some bm), VE, VG, VB, VV, VM] 228, rowE VG 3 bP (gd.set k (-1)), rowE VE 272 gX (rs'.set k ⟨(rs'.getD k default).data ++ [(to, decide ((j : Int) = 0))], pe, ce⟩), rowE VQ 224 dL qs']) (f := (rvE 274 eX)) (rs := rs') k ⟨(rs'.getD k default).data ++ [(to, decide ((j : Int) = 0))], pe, ce⟩ (by omega) ?_
      change Tr _ _ (rowE V8 23 ao (dX (l.getD k default)) :: cellE b5 (aO.enc (l.getD k default)) 36 :: cellE bx [VI, .map (some bm), VE, VG, VB, VV, VM] 228 :: rowE VG 3 bP (gd.set k (-1)) :: rowE VE 272 gX (rs'.set k ⟨(rs'.getD k default).data ++ [(to, decide ((j : Int) = 0))], pe, ce⟩) :: rowE VQ 224 dL qs' :: ((rs'.set k ⟨(rs'.getD k default).data ++ [(to, decide ((j : Int) = 0))], pe, ce⟩).map (rvE 274 eX) ++ (qs'.map (rvE 3 bP) ++ []))) _ _
      refine bN ?_
      refine ij ?_
      refine ac ?_
      apply eC (pe, ce)
      ·exact rfl
      ·exact Front.nil
      ·exact bC 19 rfl
      ·exact (Pick.refl _)
      ·exact trivial
     ·obtain ⟨pe, ce⟩ := i
      replace hi : True := hi
      change Tr _ _ (rowE V8 23 ao (dX (l.getD k default)) :: cellE b5 (aO.enc (l.getD k default)) 36 :: cellE bx [VI, .map (some bm), VE, VG, VB, VV, VM] 228 :: rowE VG 3 bP (gd.set k (-1)) :: rowE VE 272 gX (rs'.set k ⟨(rs'.getD k default).data ++ [(to, decide ((j : Int) = 0))], pe, ce⟩) :: rowE VQ 224 dL qs' :: ((rs'.set k ⟨(rs'.getD k default).data ++ [(to, decide ((j : Int) = 0))], pe, ce⟩).map (rvE 274 eX) ++ (qs'.map (rvE 3 bP) ++ []))) ([] ++ _) _
      refine GM (A := [rowE V8 23 ao (dX (l.getD k default)), cellE b5 (aO.enc (l.getD k default)) 36, cellE bx [VI, .map (some bm), VE, VG, VB, VV, VM] 228, rowE VG 3 bP (gd.set k (-1)), rowE VE 272 gX (rs'.set k ⟨(rs'.getD k default).data ++ [(to, decide ((j : Int) = 0))], pe, ce⟩), rowE VQ 224 dL qs']) (B := (rs'.set k ⟨(rs'.getD k default).data ++ [(to, decide ((j : Int) = 0))], pe, ce⟩).map (rvE 274 eX)) (f := (rvE 3 bP)) (rs := qs') to.toNat (by omega) ?_
      change Tr _ _ ((rvE 3 bP) (qs'.getD to.toNat default) :: rowE V8 23 ao (dX (l.getD k default)) :: cellE b5 (aO.enc (l.getD k default)) 36 :: cellE bx [VI, .map (some bm), VE, VG, VB, VV, VM] 228 :: rowE VG 3 bP (gd.set k (-1)) :: rowE VE 272 gX (rs'.set k ⟨(rs'.getD k default).data ++ [(to, decide ((j : Int) = 0))], pe, ce⟩) :: rowE VQ 224 dL qs' :: ((rs'.set k ⟨(rs'.getD k default).data ++ [(to, decide ((j : Int) = 0))], pe, ce⟩).map (rvE 274 eX) ++ ((qs'.eraseIdx to.toNat).map (rvE 3 bP) ++ []))) _ _
      refine an (zz0 (aa rfl) (zz0 (aa rfl) (zz0 (aa rfl) (zz0 (aa rfl) (zz0 (jJ rfl rfl gA eS) ?_)))))
      refine zz0 (eF rfl gw) ?_
      refine zz0 (aa rfl) ?_
      refine iQ (E := bP) (k : Int) rfl rfl cU aC ja (fun V17 => ?_)
      refine zz1 rfl rfl cU kL (fun V18 => ?_)
      refine dA (.head _) (fun pq cq hpv => ?_)
      subst hpv
      refine zz0 (jJ rfl rfl gA eS) ?_
      refine gg (l := qs') (i := to.toNat) (⟨(qs'.getD to.toNat default).data ++ [(k : Int)], pq, cq⟩) rfl rfl eS ?_
      have hls19 : (List.set qs' (to.toNat) (⟨(qs'.getD to.toNat default).data ++ [(k : Int)], pq, cq⟩)).length = (qs').length := List.length_set
      refine GL (A := [rowE V8 23 ao (dX (l.getD k default)), cellE b5 (aO.enc (l.getD k default)) 36, cellE bx [VI, .map (some bm), VE, VG, VB, VV, VM] 228, rowE VG 3 bP (gd.set k (-1)), rowE VE 272 gX (rs'.set k ⟨(rs'.getD k default).data ++ [(to, decide ((j : Int) = 0))], pe, ce⟩), rowE VQ 224 dL (qs'.set to.toNat ⟨(qs'.getD to.toNat default).data ++ [(k : Int)], pq, cq⟩)]) (B := (rs'.set k ⟨(rs'.getD k default).data ++ [(to, decide ((j : Int) = 0))], pe, ce⟩).map (rvE 274 eX)) (f := (rvE 3 bP)) (rs := qs') to.toNat ⟨(qs'.getD to.toNat default).data ++ [(k : Int)], pq, cq⟩ (by omega) ?_
      change Tr _ _ (rowE V8 23 ao (dX (l.getD k default)) :: cellE b5 (aO.enc (l.getD k default)) 36 :: cellE bx [VI, .map (some bm), VE, VG, VB, VV, VM] 228 :: rowE VG 3 bP (gd.set k (-1)) :: rowE VE 272 gX (rs'.set k ⟨(rs'.getD k default).data ++ [(to, decide ((j : Int) = 0))], pe, ce⟩) :: rowE VQ 224 dL (qs'.set to.toNat ⟨(qs'.getD to.toNat default).data ++ [(k : Int)], pq, cq⟩) :: ((rs'.set k ⟨(rs'.getD k default).data ++ [(to, decide ((j : Int) = 0))], pe, ce⟩).map (rvE 274 eX) ++ ((qs'.set to.toNat ⟨(qs'.getD to.toNat default).data ++ [(k : Int)], pq, cq⟩).map (rvE 3 bP) ++ []))) _ _
      refine aD (aX (ac (an (zz0 (cp rfl rfl) ?_))))
      refine zz0 (aa rfl) (ad ?_)
      refine oV (j + 1, (rs'.set k ⟨(rs'.getD k default).data ++ [(to, decide ((j : Int) = 0))], pe, ce⟩), (qs'.set to.toNat ⟨(qs'.getD to.toNat default).data ++ [(k : Int)], pq, cq⟩)) (Front.c Front.nil) (bC 31 rfl) (o := ⟨by omega, by rw [xh (by rw [← hto]; exact ht0), ← hto]; exact EX hrs' k _ _ _, by rw [xh (by rw [← hto]; exact ht0), ← hto]; exact EX hqs' _ _ _ _⟩)
    ·refine cg (aX (ac (an (zz0 (cp rfl rfl) ?_))))
     refine zz0 (aa rfl) (ad ?_)
     have hlt0 : (ed l ((dX (l.getD k default)).getD j default)) < 0 := by
      rw [← hto]
      by_cases q : to < 0
      ·exact q
      ·have ht1 : (if to < 0 then none else some to).isSome = false := by first | assumption | simp_all
       rw [if_neg q] at ht1; simp at ht1
     refine oV (j + 1, rs', qs') (Front.c Front.nil) (bC 21 rfl) (o := ⟨by omega, by rw [As hlt0]; exact hrs', by rw [As hlt0]; exact hqs'⟩)
   ·refine bJ (aG (aG (bv (aX (ac (an (zz0 (cp rfl rfl) ?_)))))))
    refine zz0 (aa rfl) (ad ?_)
    have hje : j = (dX (l.getD k default)).length := by omega
    refine oV (k + 1, rs', qs', gd.set k (-1)) (Front.c Front.nil) (bC 30 rfl) (o := ⟨by omega, ⟨by rw [Ar (by assumption), ← hje]; exact hrs', by rw [Ar (by assumption), ← hje]; exact hqs'⟩, List.length_set.trans hgl, I0 (f := fun _ => -1) hgl hgm (by omega)⟩)
 ·refine bJ (aG (aG (bv (ac (al ?_)))))
  obtain rfl : k = l.length := by omega
  refine wu (A := [cellE bx [VI, .map (some bm), VE, VG, VB, VV, VM] 228, rowE VG 3 bP gd, rowE VE 272 gX rs, rowE VQ 224 dL qs]) (B := rs.map (rvE 274 eX)) qs (fun F8 hF8 hQ8 => ?_)
  change Tr _ _ (cellE bx [VI, .map (some bm), VE, VG, VB, VV, VM] 228 :: rowE VG 3 bP gd :: rowE VE 272 gX rs :: rowE VQ 224 dL qs :: (rs.map (rvE 274 eX) ++ [])) _ _
  refine kH (V := VQ) (T := 224) (E := dL) (l := qs) (.there _ (.there _ (.there _ (.here _)))) (fun F9 hF89 hSQ => ?_)
  have hF9 := hF8.trans hF89
  have hQ9 := hQ8.mono hF89.blk
  have hI9 := hI.mono hF9.blk
  refine an (zz0 (aa rfl) (zz0 (aY rfl) ?_))
  refine zz0 (zz3 (off := 0) (ft := 50) rfl bE rfl dz) ?_
  refine zz0 (jI rfl dR) ?_
  refine zz0 (gW rfl aM) ?_
  refine zz0 (aa rfl) (ad (aF ?_))
  refine bL (ι := Nat × List Int) (fun ⟨k, gd⟩ => k ≤ l.length ∧ gd.length = l.length ∧ (∀ j, j < k → gd.getD j default = m7 l e (jQ l l.length).into j) ∧ ∀ j, k ≤ j → j < l.length → gd.getD j default = -1) (fun _ => F9) (fun ⟨k, gd⟩ => (cellE bx [VI, .map (some bm), VE, VG, VB, VV, VM] 228 :: rowE VG 3 bP gd :: rowE VE 272 gX rs :: (rs.map (rvE 274 eX) ++ []))) (fun ⟨k, gd⟩ => [(116, .int .i64 (k : Nat))]) (fun ⟨k, gd⟩ => l.length - k) (0, gd) ⟨Nat.zero_le _, hgl, fun j hj => absurd hj (Nat.not_lt_zero _), fun j _ hj => hgm j hj⟩ (Front.c Front.nil) (by repeat' (first | exact Pick.refl _ | exact Del.here _ | apply Pick.cons | apply Del.there | apply Pick.skip | exact Pick.nil _)) rfl (fun i hi m hm => ?_)
  obtain ⟨k, gd⟩ := i
  replace hi : k ≤ l.length ∧ gd.length = l.length ∧ (∀ j, j < k → gd.getD j default = m7 l e (jQ l l.length).into j) ∧ ∀ j, k ≤ j → j < l.length → gd.getD j default = -1 := hi
  replace hm : m = l.length - k := hm
  change Tr _ _ (cellE bx [VI, .map (some bm), VE, VG, VB, VV, VM] 228 :: rowE VG 3 bP gd :: rowE VE 272 gX rs :: (rs.map (rvE 274 eX) ++ [])) ([(116, .int .i64 (k : Nat))] ++ _) _
  obtain ⟨hk2, hgl2, hgm2, hgm3⟩ := hi
  refine af (zz0 (bU rfl rfl) (ad (al ?_)))
  refine ar rfl ?_ ?_ <;> intro h20 <;> try simp only [bs] at h20
  ·refine bF (al (aF (af (zz0 (aa rfl) (zz0 (je rfl rfl aM ax) ?_)))))
   refine zz0 (o7 rfl aR ax) ?_
   refine dB bV rfl (fun b21 => ?_)
   refine zz0 (ab rfl) (az aO rfl rfl ax ?_)
   refine ad (al ?_)
   have hqk : Sl F9.blk bP (qs.getD k default).data (.slice (qs.getD k default).dp (qs.getD k default).data.length (qs.getD k default).dc) := hQ9 _ (cM (by omega))
   have hib : ∀ x ∈ (qs.getD k default).data, 0 ≤ x ∧ x < (l.length : Int) := fun x hx => by
    rw [mE hqs k] at hx
    exact (rY l (Nat.le_refl _)).i _ (getD_mem hx) x hx
   refine io aQ ?_
   refine aw (zz3 (off := 2) (ft := 3) rfl ak rfl aC) ?_
   refine aw (aJ rfl aN) ?_
   refine aw (bB rfl rfl) (aw (aa rfl) ?_)
   apply fN
   ·exact (rfl : _ = (3, 124, 127))
   ·exact rfl
   ·intro hT22; have hT22' := hT22
    try simp only [bs] at hT22'
    refine bY hT22 (bH rfl aR ax) ?_
    refine bY hT22 (aA rfl kE (fun w hw => kB _ w (hIO _ (cM (by omega))))) ?_
    refine aw (aS rfl hT22 rfl) ?_
    exact du (Sub.cons rfl (zz9 3 rfl))
   ·intro hF22
    refine bX hF22 (bX hF22 (aw (aT rfl hF22 rfl) ?_))
    exact du (Sub.cons rfl (zz9 3 rfl))
   refine aw (aa rfl) ?_
   apply fN
   ·exact (rfl : _ = (12, 128, 140))
   ·exact rfl
   ·intro hT23; have hT23' := hT23
    try simp only [bs] at hT23'
    refine bY hT23 (zz3 (off := 0) (ft := 23) rfl ak rfl ae) ?_
    refine bY hT23 (aJ rfl am) ?_
    refine bY hT23 (aa rfl) (bY hT23 (aY rfl) ?_)
    refine bY hT23 (zz3 (off := 0) (ft := 50) rfl bE rfl dz) ?_
    refine bY hT23 (jI rfl dR) ?_
    refine bY hT23 (aa rfl) (bY hT23 (je rfl rfl aM ax) ?_)
    refine bY hT23 (zz3 (off := 0) (ft := 23) rfl ak rfl ae) ?_
    refine bY hT23 (qe rfl (by assumption) am (by omega) (by rfl)) ?_
    refine bY hT23 (jW rfl rfl) ?_
    refine aw (aS rfl hT23 rfl) ?_
    exact du (Sub.cons rfl (zz9 12 rfl))
   ·intro hF23
    refine bX hF23 (bX hF23 (bX hF23 (bX hF23 (bX hF23 (bX hF23 (bX hF23 (bX hF23 (bX hF23 (bX hF23 (bX hF23 (aw (aT rfl hF23 rfl) ?_)))))))))))
    exact du (Sub.cons rfl (zz9 12 rfl))
   refine aw (aa rfl) ?_
   apply fN
   ·exact (rfl : _ = (7, 141, 148))
   ·exact rfl
   ·intro hT24; have hT24' := hT24
    try simp only [bs] at hT24'
    refine bY hT24 (aa rfl) (bY hT24 (aa rfl) (bY hT24 (je rfl rfl gA eS) ?_))
    refine bY hT24 (j2 rfl gw) ?_
    refine bY hT24 (gW rfl cU) ?_
    refine bY hT24 (bB rfl rfl) (aw (aS rfl hT24 rfl) ?_)
    exact du (Sub.cons rfl (zz9 7 rfl))
   ·intro hF24
    refine bX hF24 (bX hF24 (bX hF24 (bX hF24 (bX hF24 (bX hF24 (aw (aT rfl hF24 rfl) ?_))))))
    exact du (Sub.cons rfl (zz9 7 rfl))
   refine aw (aa rfl) ?_
   apply fN
   ·exact (rfl : _ = (14, 149, 163))
   ·exact rfl
   ·intro hT25; have hT25' := hT25
    try simp only [bs] at hT25'
    have hx0 := hib _ (cM (k := 0) (by omega))
    refine bY hT25 (aa rfl) (bY hT25 (aY rfl) ?_)
    refine bY hT25 (zz3 (off := 0) (ft := 50) rfl bE rfl dz) ?_
    refine bY hT25 (jI rfl dR) ?_
    refine bY hT25 (aa rfl) (bY hT25 (aa rfl) (bY hT25 (je rfl rfl gA eS) ?_))
    refine bY hT25 (j2 rfl gw) ?_
    refine bY hT25 (yX (i := 0) rfl rfl hqk cU aC (by rfl) (by omega)) ?_
    refine bY hT25 (j2 rfl aN) ?_
    refine bY hT25 (o8 rfl rfl aM ax) ?_
    refine bY hT25 (o7 rfl aR ax) ?_
    refine bY hT25 (aA rfl Tryz.call225 (fun w hw => tM _ w (hIO _ (cM (by omega))))) ?_
    refine aw (aS rfl hT25 rfl) ?_
    exact du (Sub.cons rfl (zz9 14 rfl))
   ·intro hF25
    refine bX hF25 (bX hF25 (bX hF25 (bX hF25 (bX hF25 (bX hF25 (bX hF25 (bX hF25 (bX hF25 (bX hF25 (bX hF25 (bX hF25 (bX hF25 (aw (aT rfl hF25 rfl) ?_)))))))))))))
    exact du (Sub.cons rfl (zz9 14 rfl))
   refine bK ?_
   refine ac ?_
   refine ar rfl ?_ ?_ <;> intro h26 <;> try simp only [bs] at h26
   ·have hgq := h26
    refine fO 0 12 aQ ?_
    refine bI ?_
    refine aw (aa rfl) (aw (aY rfl) ?_)
    refine aw (zz3 (off := 3) (ft := 224) rfl bE rfl eS) ?_
    refine aw (jI rfl gw) ?_
    refine aw (aa rfl) (aw (aa rfl) (aw (aa rfl) (aw (je rfl rfl gA eS) ?_)))
    refine aw (j2 rfl gw) ?_
    refine aw (yX (i := 0) rfl rfl hqk cU aC (by rfl) (by omega)) ?_
    refine aw (j2 rfl aN) ?_
    refine aw (zz7 rfl rfl cU aC) ?_
    refine bK ?_
    refine gg (l := gd) (i := k) (((qs.getD k default).data.getD 0 default)) rfl rfl aC ?_
    have hls27 : (List.set gd (k) (((qs.getD k default).data.getD 0 default))).length = (gd).length := List.length_set
    refine aD (aX (ac (an (zz0 (cp rfl rfl) ?_))))
    refine zz0 (aa rfl) (ad ?_)
    have hgv : m7 l e (jQ l l.length).into k = ((qs.getD k default).data.getD 0 default) := by
     unfold m7
     rw [← mE hqs k]
     exact if_pos ⟨hgq.1.1.1.1, hgq.1.1.1.2, hgq.1.1.2, by omega, hgq.2⟩
    have hgy := I0 (n := l.length) hgl2 hgm2 (by omega)
    rw [hgv] at hgy
    refine oV (k + 1, gd.set k ((qs.getD k default).data.getD 0 default)) (Front.c Front.nil) (bC 32 rfl) (o := ⟨by omega, List.length_set.trans hgl2, hgy, JC hgm3⟩)
   ·have hgq := h26
    refine cg (aX (ac (an (zz0 (cp rfl rfl) ?_))))
    refine zz0 (aa rfl) (ad ?_)
    have hgv : m7 l e (jQ l l.length).into k = -1 := by
     unfold m7
     rw [← mE hqs k]
     refine if_neg (fun hq => ?_)
     rcases hgq with (((q | q) | q) | q) | q
     ·exact q hq.1
     ·exact q hq.2.1
     ·exact hq.2.2.1 q
     ·exact q (by omega)
     ·rw [hq.2.2.2.2] at q; cases q
    refine oV (k + 1, gd) (Front.c Front.nil) (bC 20 rfl) (o := ⟨by omega, hgl2, JD hgl2 hgm2 ((hgm3 k (Nat.le_refl _) (by omega)).trans hgv.symm), fun j h1 h2 => hgm3 j (by omega) h2⟩)
  ·refine bJ (aG (aG (bv ?_)))
   refine fx Tryz.results161 (fun w' hw => ?_)
   have hgg := Ee hgl2 (fun j hj => hgm2 j (by omega))
   rw [hgg, List.append_nil] at hw
   exact ⟨(VE, VG, rs), rfl, hw.upd hF9 (by repeat' (first | exact Pick.refl _ | exact Del.here _ | apply Pick.cons | apply Del.there | apply Pick.skip | exact Pick.nil _)), hrs⟩
end Go.Proofs.YtiajjbhcpeadfaaGreat
namespace Go.Proofs.YtiajjbhcpeadfaaGreat
open Go Go.HL Go.RowKit
theorem By (l : List Bool) (V : Value) (a : Bool) (w : World) (hV : Sl (hp w) cD l V) :
  Calls Tryz.prog 163 #[V, .bool a] w (fun e w' => e = .returned (.int .i64 (dw (fun x => decide (a = x)) 0 l)) ∧ Ext w w') := by
 have hV' : Sl (Bg.of w).blk cD l V := hV
 have hlV := hV'.len_le
 refine enter Tryz.func163 rfl Tryz.ntmps163 rfl ?_
 refine af (zz0 (ab rfl) (ad (al (af (zz0 (aa rfl) (zz0 (gW rfl eO) ?_))))))
 refine zz0 (aa rfl) (ad (aF ?_))
 refine bL (ι := Nat) (fun k => k ≤ l.length ∧ dw (fun x => decide (a = x)) k (l.drop k) = dw (fun x => decide (a = x)) 0 l) (fun _ => _) (fun k => []) (fun k => [(8, .int .i64 (k : Nat))]) (fun k => l.length - k) 0 ⟨Nat.zero_le _, rfl⟩ (Front.c Front.nil) (by repeat' constructor) rfl (fun k hi m hm => ?_)
 replace hi : k ≤ l.length ∧ dw (fun x => decide (a = x)) k (l.drop k) = dw (fun x => decide (a = x)) 0 l := hi
 replace hm : m = l.length - k := hm
 change Tr _ _ [] ([(8, .int .i64 (k : Nat))] ++ _) _
 obtain ⟨hk1, hk2⟩ := hi
 refine af (zz0 (bU rfl rfl) (ad (al ?_)))
 refine ar rfl ?_ ?_ <;> intro h1 <;> try simp only [bs] at h1
 ·refine bF (al (aF (af (zz0 (aa rfl) (zz0 (ab rfl) (aH (zz0 (aa rfl) (zz0 (aa rfl) ?_))))))))
  refine zz0 (aa rfl) (zz0 (je rfl rfl eO bT) ?_)
  refine zz0 (j2 rfl cB) ?_
  refine zz0 (AW rfl rfl Tryz.underlying4) ?_
  refine ad ?_
  refine ar rfl ?_ ?_ <;> intro h2 <;> try simp only [bs] at h2
  ·refine af (zz0 (aa rfl) (zz0 (ab rfl) (ad (aB (bA (ay (ay (bA (ay ?_)))))))))
   refine aV Tryz.results163 rfl (fun w' hw => ?_)
   exact ⟨by rw [← hk2, drop_cons (k := k) (by omega), dw, if_pos (by simp_all)], hw.b0⟩
  ·refine cg (aX (ac (an (zz0 (cp rfl rfl) ?_))))
   refine zz0 (aa rfl) (ad ?_)
   refine cH (k + 1) (Front.c Front.nil) (bC 12 rfl) (o := ⟨by omega, by rw [← hk2, drop_cons (k := k) (by omega), dw, if_neg (by simp_all)]⟩)
 ·refine bJ (aG (aG (bv (ac (af (zz0 (ab rfl) (ad (aB ?_))))))))
  refine aV Tryz.results163 rfl (fun w' hw => ?_)
  exact ⟨by rw [← hk2, List.drop_of_length_le (by omega)]; rfl, hw.b0⟩
theorem AE (l : List Ins) (entry : UInt32) (rounds : Nat) (V : Value) (w : World) (hI : Sl (hp w) aO l V) (hIO : ∀ x ∈ l, InsOK x) (hrd : rounds ≤ 100000) :
  Calls Tryz.prog 107 #[V, .int .u32 entry.toNat, .int .i64 (rounds : Nat)] w (fun e w' => ∃ V : Value, e = .returned (.tuple #[V, .int .i64 (eR l entry rounds).2]) ∧ Below w.heap.size w w' ∧ NewEnts w w' [rowE V 37 cL (eR l entry rounds).1]) := by
 obtain ⟨pV, cV, hvp, _⟩ := hI.shape
 subst hvp
 have hI0 : Sl (Bg.of0 w).blk aO l (.slice pV l.length cV) := hI
 have hlI := hI0.len_le
 refine lx Tryz.func107 rfl Tryz.ntmps107 rfl ?_
 refine af (zz0 (ab rfl) (zz0 (ab rfl) (ad (al (af (zz0 (aa rfl) (zz0 (gW rfl aM) ?_)))))))
 refine zz0 (fj rfl rfl) (ad ?_)
 refine ar rfl ?_ ?_ <;> intro h1 <;> try simp only [bs] at h1
 ·refine al (bZ 37 cL ?_)
  refine an (zz0 (ab rfl) (zz0 (ab rfl) (ad (aB (ay ?_)))))
  refine dq kT rfl rfl (fun w' hw => ?_)
  have e : eR l entry rounds = ([], 6) := if_pos (by omega)
  refine ⟨.slice none 0 0, by rw [e], hw.below0 (Bg.le.refl _), by rw [e]; exact hw.ents0 rfl (by repeat' constructor)⟩
 ·refine bF ?_
  refine di (ι := Nat × Nat × Nat × Nat) (fun ⟨bm, bvv, bww, bq⟩ => True) (fun _ => (Bg.of0 w)) (fun ⟨bm, bvv, bww, bq⟩ => [cellE bq [(.slice pV l.length cV), .map (some bm), .slice none 0 0, .slice none 0 0, .slice none 0 0, .slice (some ⟨bvv, 0, none⟩) (List.replicate l.length (0 : Int)).length l.length, .slice (some ⟨bww, 0, none⟩) (List.replicate l.length false).length l.length] 228, mapE bm iI [], rowE (.slice (some ⟨bvv, 0, none⟩) (List.replicate l.length (0 : Int)).length l.length) 3 bP (List.replicate l.length 0), rowE (.slice (some ⟨bww, 0, none⟩) (List.replicate l.length false).length l.length) 4 cD (List.replicate l.length false)]) (fun ⟨bm, bvv, bww, bq⟩ => [(8, .pointer (some ⟨bq, 0, none⟩))]) ?_ (fun i hi => ?_)
  ·skip
   refine dW ([]) 11 rfl aQ ?_
   refine zz4 0 rfl (aa rfl) ?_
   refine zz4 2 rfl (aa rfl) ?_
   refine C3 3 rfl (by kernel_rfl) (bD dh) rfl aM ?_
   refine zz4 5 rfl (aa rfl) ?_
   refine C3 6 rfl (by kernel_rfl) (bD dh) rfl aM ?_
   refine cY [1, 4, 7] (fun iq hq => ?_)
   rcases List.mem_cons.1 hq with rfl | hq
   ·skip
    refine bj rfl ?_
    refine gl iI rfl (fun bm => ?_)
    refine bN ?_
    refine cY [4, 7] (fun iq hq => ?_)
    rcases List.mem_cons.1 hq with rfl | hq
    ·skip
     refine bj rfl ?_
     refine iP (E := bP) 0 rfl rfl cU kL rfl rfl rfl (by constructor <;> omega) rfl (fun bvv => ?_)
     refine bN ?_
     refine cY [7] (fun iq hq => ?_)
     obtain rfl := List.mem_singleton.1 hq
     refine bj rfl ?_
     refine iP (E := cD) false rfl rfl eO nZ rfl rfl rfl (by constructor <;> omega) rfl (fun bww => ?_)
     refine bN ?_
     refine iW 8 rfl (by kernel_rfl) (bD dh) (bG (vs := [(0, _), (1, _), (5, _), (6, _)]) (cs := #[(.slice pV l.length cV), .map (some bm), .slice none 0 0, .slice none 0 0, .slice none 0 0, .slice (some ⟨bvv, 0, none⟩) (List.replicate l.length (0 : Int)).length l.length, .slice (some ⟨bww, 0, none⟩) (List.replicate l.length false).length l.length]) rfl rfl (by kernel_rfl)) ?_
     refine cY [9] (fun iq hq => ?_)
     obtain rfl := List.mem_singleton.1 hq
     refine bj rfl ?_
     refine dO (cs := [(.slice pV l.length cV), .map (some bm), .slice none 0 0, .slice none 0 0, .slice none 0 0, .slice (some ⟨bvv, 0, none⟩) (List.replicate l.length (0 : Int)).length l.length, .slice (some ⟨bww, 0, none⟩) (List.replicate l.length false).length l.length]) rfl rfl (fun bq => ?_)
     refine bN ?_
     refine zz4 10 rfl (ab rfl) ?_
     refine ij ?_
     refine ac ?_
     refine cw (_, _, _, _) (Front.c Front.nil) (bC 11 rfl) (o := trivial)
    obtain rfl := List.mem_singleton.1 hq
    refine bj rfl ?_
    refine iP (E := cD) false rfl rfl eO nZ rfl rfl rfl (by constructor <;> omega) rfl (fun bww => ?_)
    refine bN ?_
    refine cY [4] (fun iq hq => ?_)
    obtain rfl := List.mem_singleton.1 hq
    refine bj rfl ?_
    refine iP (E := bP) 0 rfl rfl cU kL rfl rfl rfl (by constructor <;> omega) rfl (fun bvv => ?_)
    refine bN ?_
    refine iW 8 rfl (by kernel_rfl) (bD dh) (bG (vs := [(0, _), (1, _), (5, _), (6, _)]) (cs := #[(.slice pV l.length cV), .map (some bm), .slice none 0 0, .slice none 0 0, .slice none 0 0, .slice (some ⟨bvv, 0, none⟩) (List.replicate l.length (0 : Int)).length l.length, .slice (some ⟨bww, 0, none⟩) (List.replicate l.length false).length l.length]) rfl rfl (by kernel_rfl)) ?_
    refine cY [9] (fun iq hq => ?_)
    obtain rfl := List.mem_singleton.1 hq
    refine bj rfl ?_
    refine dO (cs := [(.slice pV l.length cV), .map (some bm), .slice none 0 0, .slice none 0 0, .slice none 0 0, .slice (some ⟨bvv, 0, none⟩) (List.replicate l.length (0 : Int)).length l.length, .slice (some ⟨bww, 0, none⟩) (List.replicate l.length false).length l.length]) rfl rfl (fun bq => ?_)
    refine bN ?_
    refine zz4 10 rfl (ab rfl) ?_
    refine ij ?_
    refine ac ?_
    refine cw (_, _, _, _) (Front.c Front.nil) (bC 11 rfl) (o := trivial)
   rcases List.mem_cons.1 hq with rfl | hq
   ·skip
    refine bj rfl ?_
    refine iP (E := bP) 0 rfl rfl cU kL rfl rfl rfl (by constructor <;> omega) rfl (fun bvv => ?_)
    refine bN ?_
    refine cY [1, 7] (fun iq hq => ?_)
    rcases List.mem_cons.1 hq with rfl | hq
    ·skip
     refine bj rfl ?_
     refine gl iI rfl (fun bm => ?_)
     refine bN ?_
     refine cY [7] (fun iq hq => ?_)
     obtain rfl := List.mem_singleton.1 hq
     refine bj rfl ?_
     refine iP (E := cD) false rfl rfl eO nZ rfl rfl rfl (by constructor <;> omega) rfl (fun bww => ?_)
     refine bN ?_
     refine iW 8 rfl (by kernel_rfl) (bD dh) (bG (vs := [(0, _), (1, _), (5, _), (6, _)]) (cs := #[(.slice pV l.length cV), .map (some bm), .slice none 0 0, .slice none 0 0, .slice none 0 0, .slice (some ⟨bvv, 0, none⟩) (List.replicate l.length (0 : Int)).length l.length, .slice (some ⟨bww, 0, none⟩) (List.replicate l.length false).length l.length]) rfl rfl (by kernel_rfl)) ?_
     refine cY [9] (fun iq hq => ?_)
     obtain rfl := List.mem_singleton.1 hq
     refine bj rfl ?_
     refine dO (cs := [(.slice pV l.length cV), .map (some bm), .slice none 0 0, .slice none 0 0, .slice none 0 0, .slice (some ⟨bvv, 0, none⟩) (List.replicate l.length (0 : Int)).length l.length, .slice (some ⟨bww, 0, none⟩) (List.replicate l.length false).length l.length]) rfl rfl (fun bq => ?_)
     refine bN ?_
     refine zz4 10 rfl (ab rfl) ?_
     refine ij ?_
     refine ac ?_
     refine cw (_, _, _, _) (Front.c Front.nil) (bC 11 rfl) (o := trivial)
    obtain rfl := List.mem_singleton.1 hq
    refine bj rfl ?_
    refine iP (E := cD) false rfl rfl eO nZ rfl rfl rfl (by constructor <;> omega) rfl (fun bww => ?_)
    refine bN ?_
    refine cY [1] (fun iq hq => ?_)
    obtain rfl := List.mem_singleton.1 hq
    refine bj rfl ?_
    refine gl iI rfl (fun bm => ?_)
    refine bN ?_
    refine iW 8 rfl (by kernel_rfl) (bD dh) (bG (vs := [(0, _), (1, _), (5, _), (6, _)]) (cs := #[(.slice pV l.length cV), .map (some bm), .slice none 0 0, .slice none 0 0, .slice none 0 0, .slice (some ⟨bvv, 0, none⟩) (List.replicate l.length (0 : Int)).length l.length, .slice (some ⟨bww, 0, none⟩) (List.replicate l.length false).length l.length]) rfl rfl (by kernel_rfl)) ?_
    refine cY [9] (fun iq hq => ?_)
    obtain rfl := List.mem_singleton.1 hq
    refine bj rfl ?_
    refine dO (cs := [(.slice pV l.length cV), .map (some bm), .slice none 0 0, .slice none 0 0, .slice none 0 0, .slice (some ⟨bvv, 0, none⟩) (List.replicate l.length (0 : Int)).length l.length, .slice (some ⟨bww, 0, none⟩) (List.replicate l.length false).length l.length]) rfl rfl (fun bq => ?_)
    refine bN ?_
    refine zz4 10 rfl (ab rfl) ?_
    refine ij ?_
    refine ac ?_
    refine cw (_, _, _, _) (Front.c Front.nil) (bC 11 rfl) (o := trivial)
   obtain rfl := List.mem_singleton.1 hq
   refine bj rfl ?_
   refine iP (E := cD) false rfl rfl eO nZ rfl rfl rfl (by constructor <;> omega) rfl (fun bww => ?_)
   refine bN ?_
   refine cY [1, 4] (fun iq hq => ?_)
   rcases List.mem_cons.1 hq with rfl | hq
   ·skip
    refine bj rfl ?_
    refine gl iI rfl (fun bm => ?_)
    refine bN ?_
    refine cY [4] (fun iq hq => ?_)
    obtain rfl := List.mem_singleton.1 hq
    refine bj rfl ?_
    refine iP (E := bP) 0 rfl rfl cU kL rfl rfl rfl (by constructor <;> omega) rfl (fun bvv => ?_)
    refine bN ?_
    refine iW 8 rfl (by kernel_rfl) (bD dh) (bG (vs := [(0, _), (1, _), (5, _), (6, _)]) (cs := #[(.slice pV l.length cV), .map (some bm), .slice none 0 0, .slice none 0 0, .slice none 0 0, .slice (some ⟨bvv, 0, none⟩) (List.replicate l.length (0 : Int)).length l.length, .slice (some ⟨bww, 0, none⟩) (List.replicate l.length false).length l.length]) rfl rfl (by kernel_rfl)) ?_
    refine cY [9] (fun iq hq => ?_)
    obtain rfl := List.mem_singleton.1 hq
    refine bj rfl ?_
    refine dO (cs := [(.slice pV l.length cV), .map (some bm), .slice none 0 0, .slice none 0 0, .slice none 0 0, .slice (some ⟨bvv, 0, none⟩) (List.replicate l.length (0 : Int)).length l.length, .slice (some ⟨bww, 0, none⟩) (List.replicate l.length false).length l.length]) rfl rfl (fun bq => ?_)
    refine bN ?_
    refine zz4 10 rfl (ab rfl) ?_
    refine ij ?_
    refine ac ?_
    refine cw (_, _, _, _) (Front.c Front.nil) (bC 11 rfl) (o := trivial)
   obtain rfl := List.mem_singleton.1 hq
   refine bj rfl ?_
   refine iP (E := bP) 0 rfl rfl cU kL rfl rfl rfl (by constructor <;> omega) rfl (fun bvv => ?_)
   refine bN ?_
   refine cY [1] (fun iq hq => ?_)
   obtain rfl := List.mem_singleton.1 hq
   refine bj rfl ?_
   refine gl iI rfl (fun bm => ?_)
   refine bN ?_
   refine iW 8 rfl (by kernel_rfl) (bD dh) (bG (vs := [(0, _), (1, _), (5, _), (6, _)]) (cs := #[(.slice pV l.length cV), .map (some bm), .slice none 0 0, .slice none 0 0, .slice none 0 0, .slice (some ⟨bvv, 0, none⟩) (List.replicate l.length (0 : Int)).length l.length, .slice (some ⟨bww, 0, none⟩) (List.replicate l.length false).length l.length]) rfl rfl (by kernel_rfl)) ?_
   refine cY [9] (fun iq hq => ?_)
   obtain rfl := List.mem_singleton.1 hq
   refine bj rfl ?_
   refine dO (cs := [(.slice pV l.length cV), .map (some bm), .slice none 0 0, .slice none 0 0, .slice none 0 0, .slice (some ⟨bvv, 0, none⟩) (List.replicate l.length (0 : Int)).length l.length, .slice (some ⟨bww, 0, none⟩) (List.replicate l.length false).length l.length]) rfl rfl (fun bq => ?_)
   refine bN ?_
   refine zz4 10 rfl (ab rfl) ?_
   refine ij ?_
   refine ac ?_
   refine cw (_, _, _, _) (Front.c Front.nil) (bC 11 rfl) (o := trivial)
  ·obtain ⟨bm, bvv, bww, bq⟩ := i
   replace hi : True := hi
   change Tr _ _ [cellE bq [(.slice pV l.length cV), .map (some bm), .slice none 0 0, .slice none 0 0, .slice none 0 0, .slice (some ⟨bvv, 0, none⟩) (List.replicate l.length (0 : Int)).length l.length, .slice (some ⟨bww, 0, none⟩) (List.replicate l.length false).length l.length] 228, mapE bm iI [], rowE (.slice (some ⟨bvv, 0, none⟩) (List.replicate l.length (0 : Int)).length l.length) 3 bP (List.replicate l.length 0), rowE (.slice (some ⟨bww, 0, none⟩) (List.replicate l.length false).length l.length) 4 cD (List.replicate l.length false)] ([(8, .pointer (some ⟨bq, 0, none⟩))] ++ _) _
   obtain ⟨VV, hVV⟩ : ∃ V, V = Value.slice (some ⟨bvv, 0, none⟩) (List.replicate l.length (0 : Int)).length l.length := ⟨_, rfl⟩
   obtain ⟨VM, hVM⟩ : ∃ V, V = Value.slice (some ⟨bww, 0, none⟩) (List.replicate l.length false).length l.length := ⟨_, rfl⟩
   rw [← hVV, ← hVM]
   refine al (af (zz0 (aa rfl) (zz0 (gW rfl aM) ?_)))
   refine zz0 (aa rfl) (ad (aF (bZ 37 cL ?_)))
   refine bL (ι := Nat × Value) (fun ⟨k, Vb⟩ => k ≤ l.length) (fun _ => _) (fun ⟨k, Vb⟩ => [cellE bq [(.slice pV l.length cV), .map (some bm), .slice none 0 0, .slice none 0 0, Vb, VV, VM] 228, rowE Vb 37 cL (List.replicate k (jg 8)), mapE bm iI (atK l k), rowE VV 3 bP (List.replicate l.length 0), rowE VM 4 cD (List.replicate l.length false)]) (fun ⟨k, Vb⟩ => [(32, .int .i64 (k : Nat))]) (fun ⟨k, Vb⟩ => l.length - k) (0, _) (Nat.zero_le _) (Front.c Front.nil) (by repeat' constructor) rfl (fun i hi m hm => ?_)
   obtain ⟨k, Vb⟩ := i
   replace hi : k ≤ l.length := hi
   replace hm : m = l.length - k := hm
   change Tr _ _ [cellE bq [(.slice pV l.length cV), .map (some bm), .slice none 0 0, .slice none 0 0, Vb, VV, VM] 228, rowE Vb 37 cL (List.replicate k (jg 8)), mapE bm iI (atK l k), rowE VV 3 bP (List.replicate l.length 0), rowE VM 4 cD (List.replicate l.length false)] ([(32, .int .i64 (k : Nat))] ++ _) _
   have hrk : (List.replicate k (jg 8)).length = k := List.length_replicate
   refine af (zz0 (bU rfl rfl) (ad (al ?_)))
   refine ar rfl ?_ ?_ <;> intro h2 <;> try simp only [bs] at h2
   ·refine bF (al (aF (af (zz0 (aa rfl) (zz0 (je rfl rfl aM ax) ?_)))))
    refine zz0 (o7 rfl aR ax) ?_
    refine dB bV rfl (fun b3 => ?_)
    refine zz0 (ab rfl) (az aO rfl rfl ax ?_)
    refine ad ?_
    refine di (ι := List (UInt32 × Int)) (fun m1 => m1 = atK l (k + 1)) (fun _ => (Bg.of0 w)) (fun m1 => [cellE b3 (aO.enc (l.getD k default)) 36, cellE bq [(.slice pV l.length cV), .map (some bm), .slice none 0 0, .slice none 0 0, Vb, VV, VM] 228, rowE Vb 37 cL (List.replicate k (jg 8)), mapE bm iI m1, rowE VV 3 bP (List.replicate l.length 0), rowE VM 4 cD (List.replicate l.length false)]) (fun m1 => []) ?_ (fun m1 hi => ?_)
    ·skip
     refine al (io aQ ?_)
     refine aw (aa rfl) (aw (aY rfl) ?_)
     refine aw (zz3 (off := 1) (ft := 223) rfl bE rfl kw) ?_
     refine aw (jI rfl lj) ?_
     refine aw (zz3 (off := 0) (ft := 23) rfl ak rfl ae) ?_
     refine aw (aJ rfl am) ?_
     refine aw (vM rfl rfl (by repeat constructor) iz aP ja) ?_
     refine aw (aa rfl) (aw (aL rfl rfl) (aw (aL rfl rfl) (aw (ab rfl) (aw (ab rfl) (bK ?_)))))
     refine ac (af (zz0 (aa rfl) (zz0 (cQ rfl) (ad ?_))))
     refine ar rfl ?_ ?_ <;> intro h4 <;> try simp only [bs] at h4
     ·refine fO 0 7 aQ ?_
      refine bI ?_
      refine aw (aa rfl) (aw (aY rfl) ?_)
      refine aw (zz3 (off := 1) (ft := 223) rfl bE rfl kw) ?_
      refine aw (jI rfl lj) ?_
      refine aw (zz3 (off := 0) (ft := 23) rfl ak rfl ae) ?_
      refine aw (aJ rfl am) ?_
      refine aw (aa rfl) (bK ?_)
      refine gp (k : Int) rfl rfl rfl (by repeat constructor) iz aP rfl ?_
      refine ad ?_
      refine cw _ Front.nil (bC 21 rfl) (o := (show _ = atK l (k + 1) from (if_neg (by simp_all)).symm))
     ·refine bF ?_
      refine cw _ Front.nil (bC 14 rfl) (o := (show _ = atK l (k + 1) from (if_pos (by simp_all)).symm))
    ·skip
     replace hi : m1 = atK l (k + 1) := hi
     change Tr _ _ [cellE b3 (aO.enc (l.getD k default)) 36, cellE bq [(.slice pV l.length cV), .map (some bm), .slice none 0 0, .slice none 0 0, Vb, VV, VM] 228, rowE Vb 37 cL (List.replicate k (jg 8)), mapE bm iI m1, rowE VV 3 bP (List.replicate l.length 0), rowE VM 4 cD (List.replicate l.length false)] ([] ++ _) _
     subst hi
     refine dW ([]) 11 rfl aQ ?_
     refine zz4 0 rfl (aa rfl) ?_
     refine zz4 1 rfl (aa rfl) ?_
     refine zz4 2 rfl (aY rfl) ?_
     refine zz4 3 rfl (zz3 (off := 4) (ft := 177) rfl bE rfl eT) ?_
     refine cY [4, 5] (fun iq hq => ?_)
     rcases List.mem_cons.1 hq with rfl | hq
     ·skip
      refine bj rfl ?_
      refine zz0 (jI rfl g8) ?_
      refine bN ?_
      refine cY [5] (fun iq hq => ?_)
      obtain rfl := List.mem_singleton.1 hq
      refine bj rfl ?_
      refine zz0 (aA rfl Tryz.call160 (fun w hw => xe w)) ?_
      refine bN ?_
      refine cY [6] (fun iq hq => ?_)
      obtain rfl := List.mem_singleton.1 hq
      refine bj rfl ?_
      refine iQ (E := cL) (jg 8) rfl rfl d5 aU cS (fun V5 => ?_)
      refine bN ?_
      refine cY [7] (fun iq hq => ?_)
      obtain rfl := List.mem_singleton.1 hq
      refine bj rfl ?_
      refine zz1 rfl rfl d5 ri (fun V6 => ?_)
      refine dA (.head _) (fun pb cb hpb => ?_)
      subst hpb
      refine bN ?_
      refine zz4 8 rfl (aY rfl) ?_
      refine zz4 9 rfl (zz3 (off := 4) (ft := 177) rfl bE rfl eT) ?_
      refine cY [10] (fun iq hq => ?_)
      obtain rfl := List.mem_singleton.1 hq
      refine bj rfl ?_
      refine zz2 rfl rfl eT rfl ?_
      change Tr _ _ [rowE (.slice pb ((List.replicate k (jg 8)) ++ [jg 8]).length cb) 37 cL ((List.replicate k (jg 8)) ++ [jg 8]), cellE b3 (aO.enc (l.getD k default)) 36, cellE bq [(.slice pV l.length cV), .map (some bm), .slice none 0 0, .slice none 0 0, (.slice pb ((List.replicate k (jg 8)) ++ [jg 8]).length cb), VV, VM] 228, mapE bm iI (atK l (k + 1)), rowE VV 3 bP (List.replicate l.length 0), rowE VM 4 cD (List.replicate l.length false)] _ _
      refine bN ?_
      refine ij ?_
      refine aX (ac (an (zz0 (cp rfl rfl) ?_)))
      refine zz0 (aa rfl) (ad ?_)
      rw [← List.replicate_succ']
      refine cH (k + 1, _) (Front.c Front.nil) (bC 19 rfl) (o := (by show k + 1 ≤ _; omega))
     obtain rfl := List.mem_singleton.1 hq
     refine bj rfl ?_
     refine zz0 (aA rfl Tryz.call160 (fun w hw => xe w)) ?_
     refine bN ?_
     refine cY [4, 6] (fun iq hq => ?_)
     rcases List.mem_cons.1 hq with rfl | hq
     ·skip
      refine bj rfl ?_
      refine zz0 (jI rfl g8) ?_
      refine bN ?_
      refine cY [6] (fun iq hq => ?_)
      obtain rfl := List.mem_singleton.1 hq
      refine bj rfl ?_
      refine iQ (E := cL) (jg 8) rfl rfl d5 aU cS (fun V7 => ?_)
      refine bN ?_
      refine cY [7] (fun iq hq => ?_)
      obtain rfl := List.mem_singleton.1 hq
      refine bj rfl ?_
      refine zz1 rfl rfl d5 ri (fun V8 => ?_)
      refine dA (.head _) (fun pb cb hpb => ?_)
      subst hpb
      refine bN ?_
      refine zz4 8 rfl (aY rfl) ?_
      refine zz4 9 rfl (zz3 (off := 4) (ft := 177) rfl bE rfl eT) ?_
      refine cY [10] (fun iq hq => ?_)
      obtain rfl := List.mem_singleton.1 hq
      refine bj rfl ?_
      refine zz2 rfl rfl eT rfl ?_
      change Tr _ _ [rowE (.slice pb ((List.replicate k (jg 8)) ++ [jg 8]).length cb) 37 cL ((List.replicate k (jg 8)) ++ [jg 8]), cellE b3 (aO.enc (l.getD k default)) 36, cellE bq [(.slice pV l.length cV), .map (some bm), .slice none 0 0, .slice none 0 0, (.slice pb ((List.replicate k (jg 8)) ++ [jg 8]).length cb), VV, VM] 228, mapE bm iI (atK l (k + 1)), rowE VV 3 bP (List.replicate l.length 0), rowE VM 4 cD (List.replicate l.length false)] _ _
      refine bN ?_
      refine ij ?_
      refine aX (ac (an (zz0 (cp rfl rfl) ?_)))
      refine zz0 (aa rfl) (ad ?_)
      rw [← List.replicate_succ']
      refine cH (k + 1, _) (Front.c Front.nil) (bC 19 rfl) (o := (by show k + 1 ≤ _; omega))
     obtain rfl := List.mem_singleton.1 hq
     refine bj rfl ?_
     refine iQ (E := cL) (jg 8) rfl rfl d5 aU cS (fun V9 => ?_)
     refine bN ?_
     refine cY [4] (fun iq hq => ?_)
     obtain rfl := List.mem_singleton.1 hq
     refine bj rfl ?_
     refine zz0 (jI rfl g8) ?_
     refine bN ?_
     refine cY [7] (fun iq hq => ?_)
     obtain rfl := List.mem_singleton.1 hq
     refine bj rfl ?_
     refine zz1 rfl rfl d5 ri (fun V10 => ?_)
     refine dA (.head _) (fun pb cb hpb => ?_)
     subst hpb
     refine bN ?_
     refine zz4 8 rfl (aY rfl) ?_
     refine zz4 9 rfl (zz3 (off := 4) (ft := 177) rfl bE rfl eT) ?_
     refine cY [10] (fun iq hq => ?_)
     obtain rfl := List.mem_singleton.1 hq
     refine bj rfl ?_
     refine zz2 rfl rfl eT rfl ?_
     change Tr _ _ [rowE (.slice pb ((List.replicate k (jg 8)) ++ [jg 8]).length cb) 37 cL ((List.replicate k (jg 8)) ++ [jg 8]), cellE b3 (aO.enc (l.getD k default)) 36, cellE bq [(.slice pV l.length cV), .map (some bm), .slice none 0 0, .slice none 0 0, (.slice pb ((List.replicate k (jg 8)) ++ [jg 8]).length cb), VV, VM] 228, mapE bm iI (atK l (k + 1)), rowE VV 3 bP (List.replicate l.length 0), rowE VM 4 cD (List.replicate l.length false)] _ _
     refine bN ?_
     refine ij ?_
     refine aX (ac (an (zz0 (cp rfl rfl) ?_)))
     refine zz0 (aa rfl) (ad ?_)
     rw [← List.replicate_succ']
     refine cH (k + 1, _) (Front.c Front.nil) (bC 19 rfl) (o := (by show k + 1 ≤ _; omega))
   ·refine bJ (aG (aG (bv (ac (al ?_)))))
    obtain rfl : k = l.length := by omega
    refine an (zz0 (aa rfl) (zz0 (aY rfl) ?_))
    refine zz0 (zz3 (off := 1) (ft := 223) rfl bE rfl kw) ?_
    refine zz0 (jI rfl lj) ?_
    refine zz0 (aa rfl) (zz0 (vM rfl rfl (by repeat constructor) iz aP ja) ?_)
    rw [BR]
    obtain ⟨fe, hfe⟩ : ∃ fe, fe = ed l entry := ⟨_, rfl⟩
    rw [← hfe]
    refine zz0 (aa rfl) (zz0 (aL rfl rfl) (zz0 (aL rfl rfl) (zz0 (ab rfl) (zz0 (ab rfl) (ad (al (af (zz0 (aa rfl) (zz0 (cQ rfl) (ad ?_))))))))))
    refine ar rfl ?_ ?_ <;> intro h11 <;> try simp only [bs] at h11
    ·refine al (bZ 37 cL ?_)
     refine an (zz0 (ab rfl) (zz0 (ab rfl) (ad (aB (ay ?_)))))
     refine dq kT rfl rfl (fun w' hw => ?_)
     have ht1 : (if fe < 0 then none else some fe).isSome = false := by first | assumption | simp_all
     have ht0 : fe < 0 := by
      by_cases q : fe < 0
      ·exact q
      ·rw [if_neg q] at ht1; simp at ht1
     have e : eR l entry rounds = ([], 9) := by unfold eR; rw [if_neg (by omega), if_pos (by rw [← hfe]; exact ht0)]
     refine ⟨.slice none 0 0, by rw [e], hw.below0 (Bg.le.refl _), by rw [e]; exact hw.ents0 rfl (by repeat' constructor)⟩
    ·refine bF (al ?_)
     have ht1 : (if fe < 0 then none else some fe).isSome = true := by first | assumption | simp_all
     have ht0 : ¬ fe < 0 := fun q => by rw [if_pos q] at ht1; simp at ht1
     have htl := (rU l entry).2
     rw [← hfe] at htl
     rw [if_neg ht0, Option.getD_some]
     obtain ⟨fn, hfn⟩ : ∃ fn : Nat, fe = (fn : Int) := ⟨fe.toNat, by omega⟩
     subst hfn
     refine mr (b := bm) (by repeat constructor) (fun F1 hF1 hA1 => ?_)
     refine an (zz0 (aa rfl) (zz0 (aa rfl) ?_))
     refine iY (fun _ : Value × Value × List EdV => .tuple #[]) [cellE bq [(.slice pV l.length cV), .map (some bm), .slice none 0 0, .slice none 0 0, Vb, VV, VM] 228] (fun i : Value × Value × List EdV => cellE bq [(.slice pV l.length cV), .map (some bm), i.1, i.2.1, Vb, VV, VM] 228 :: rowE i.2.1 3 bP (fc l fn) :: rowE i.1 272 gX i.2.2 :: i.2.2.map (rvE 274 eX)) (ok := fun i => i.2.2.map (·.data) = ly l) (dd := fun _ => 0) rfl Tryz.call161 (by repeat' constructor) (fun w hw => Nat.le_of_eq hF1.dr) (fun w hw => Aq l fn bq bm (.slice pV l.length cV) Vb VV VM w (hw.own (by repeat' constructor)) ((hI0.mono hF1.blk).mono (show Hp.le F1.blk (Bg.lessB w [bq] 0).blk from hw.lessB (Lo := [cellE bq [(.slice pV l.length cV), .map (some bm), .slice none 0 0, .slice none 0 0, Vb, VV, VM] 228]) (by repeat' constructor))) (hA1.mono (show Hp.le F1.blk (Bg.lessB w [bq] 0).blk from hw.lessB (Lo := [cellE bq [(.slice pV l.length cV), .map (some bm), .slice none 0 0, .slice none 0 0, Vb, VV, VM] 228]) (by repeat' constructor))) hIO (by omega) (by omega)) rfl (fun i15 hrs => ?_)
     obtain ⟨VE, VG, rs⟩ := i15
     replace hrs : rs.map (·.data) = ly l := hrs
     refine yR (A := [cellE bq [(.slice pV l.length cV), .map (some bm), VE, VG, Vb, VV, VM] 228, rowE VG 3 bP (fc l fn), rowE VE 272 gX rs]) rs (fun F2 hF2 hEI2 => ?_)
     change Tr _ _ [cellE bq [(.slice pV l.length cV), .map (some bm), VE, VG, Vb, VV, VM] 228, rowE VG 3 bP (fc l fn), rowE VE 272 gX rs, rowE Vb 37 cL (List.replicate l.length (jg 8)), rowE VV 3 bP (List.replicate l.length 0), rowE VM 4 cD (List.replicate l.length false)] _ _
     refine vJ (b := bq) (.here _) (fun F3 hF3 hcx3 => ?_)
     refine kH (V := VG) (T := 3) (E := bP) (.here _) (fun F4 hF4 hG4 => ?_)
     refine kH (V := VE) (T := 272) (E := gX) (.here _) (fun F5 hF5 hE5 => ?_)
     have hF15 := hF2.trans (hF3.trans (hF4.trans hF5))
     have hF05 := hF1.trans hF15
     have hEI5 := hEI2.mono (hF3.trans (hF4.trans hF5)).blk
     have hcx5 := hcx3.mono (hF4.trans hF5).blk
     have hG5 := hG4.mono hF5.blk
     have hI5 := hI0.mono hF05.blk
     have hdr5 : F5.dr = 0 := hF05.dr
     refine ad (al ?_)
     have hr1 : (List.replicate l.length (jg 8)).length = l.length := List.length_replicate
     have hr2 : (List.replicate l.length false).length = l.length := List.length_replicate
     refine fO 0 7 aQ ?_
     refine bI ?_
     refine aw (aa rfl) (aw (aY rfl) ?_)
     refine aw (zz3 (off := 4) (ft := 177) rfl bE rfl eT) ?_
     refine aw (e8 rfl hcx5 g8 (by rfl)) ?_
     refine aw (aa rfl) (aw (aA rfl Tryz.call162 (fun w hw => po w)) ?_)
     refine aw (zz7 rfl rfl d5 aU) ?_
     refine bK ?_
     refine gg (l := (List.replicate l.length (jg 8))) (i := fn) ((xN 8)) rfl rfl aU ?_
     have hls12 : (List.set (List.replicate l.length (jg 8)) (fn) ((xN 8))).length = ((List.replicate l.length (jg 8))).length := List.length_set
     refine aH (zz0 (aa rfl) (zz0 (aY rfl) ?_))
     refine zz0 (zz3 (off := 6) (ft := 225) rfl bE rfl lQ) ?_
     refine zz0 (e8 rfl hcx5 mS (by rfl)) ?_
     refine zz0 (aa rfl) (zz0 (zz7 rfl rfl eO bT) ?_)
     refine gg (l := (List.replicate l.length false)) (i := fn) (true) rfl rfl bT ?_
     have hls13 : (List.set (List.replicate l.length false) (fn) (true)).length = ((List.replicate l.length false)).length := List.length_set
     refine aH (zz0 (ab rfl) (ad (aF ?_)))
     refine bL (ι := Nat × VSt) (fun ⟨n, s⟩ => (n ≤ rounds ∧ iU l (fc l fn) (ly l) (rounds - n) s = iU l (fc l fn) (ly l) rounds (qQ l fn)) ∧ (s.st.length = l.length ∧ s.vs.length = l.length ∧ s.mb.length = l.length) ∧ ∀ v ∈ s.vs, 0 ≤ v ∧ v ≤ (n : Int)) (fun _ => F5) (fun ⟨n, s⟩ => [rowE Vb 37 cL s.st, rowE VV 3 bP s.vs, rowE VM 4 cD s.mb]) (fun ⟨n, s⟩ => [(15, .int .i64 (n : Nat))]) (fun ⟨n, s⟩ => rounds - n) (0, (qQ l fn)) ⟨⟨Nat.zero_le _, by rw [Nat.sub_zero]⟩, ⟨by simp [qQ], by simp [qQ], by simp [qQ]⟩, fun v hv => by rw [(List.mem_replicate.1 hv).2]; omega⟩ (Front.c Front.nil) (by repeat' constructor) rfl (fun i hi m hm => ?_)
     obtain ⟨n, s⟩ := i
     replace hi : (n ≤ rounds ∧ iU l (fc l fn) (ly l) (rounds - n) s = iU l (fc l fn) (ly l) rounds (qQ l fn)) ∧ (s.st.length = l.length ∧ s.vs.length = l.length ∧ s.mb.length = l.length) ∧ ∀ v ∈ s.vs, 0 ≤ v ∧ v ≤ (n : Int) := hi
     replace hm : m = rounds - n := hm
     change Tr _ _ [rowE Vb 37 cL s.st, rowE VV 3 bP s.vs, rowE VM 4 cD s.mb] ([(15, .int .i64 (n : Nat))] ++ _) _
     obtain ⟨⟨hnr, han⟩, ⟨hst, hvt, hmt⟩, hvn⟩ := hi
     refine al (aF (af (zz0 (aa rfl) (zz0 (aY rfl) ?_))))
     refine zz0 (zz3 (off := 6) (ft := 225) rfl bE rfl lQ) ?_
     refine zz0 (e8 rfl hcx5 mS (by rfl)) ?_
     refine zz0 (aA rfl Tryz.call163 (fun w hw => By s.mb VM true w (hw.row (by repeat constructor)))) ?_
     refine zz0 (ab rfl) (ad (al (af (zz0 (aa rfl) (zz0 (bU rfl rfl) (ad ?_))))))
     refine ar rfl ?_ ?_ <;> intro h14 <;> try simp only [bs] at h14
     ·refine af (zz0 (aa rfl) (zz0 (aY rfl) ?_))
      refine zz0 (zz3 (off := 4) (ft := 177) rfl bE rfl eT) ?_
      refine zz0 (e8 rfl hcx5 g8 (by rfl)) ?_
      refine zz0 (ab rfl) (zz0 (ab rfl) (ad (aB (ay (bA (ay (ay (bA ?_))))))))
      refine dq kT rfl rfl (fun w' hw => ?_)
      have e : eR l entry rounds = (s.st, 0) := by
       unfold eR
       rw [if_neg (by omega), if_neg (by rw [← hfe]; exact ht0), ← hfe, Int.toNat_natCast, ← han]
       exact wq (by show dw _ _ _ < 0; assumption)
      refine ⟨Vb, by rw [e], hw.below0 hF05, by rw [e]; exact hw.ents0 hF05.lo (by repeat' constructor)⟩
     ·refine bF (al (af (zz0 (aa rfl) (zz0 (aa rfl) (zz0 (eJ rfl rfl) (ad ?_))))))
      refine ar rfl ?_ ?_ <;> intro h15 <;> try simp only [bs] at h15
      ·refine al (bZ 37 cL ?_)
       refine an (zz0 (ab rfl) (zz0 (ab rfl) (ad (aB (ay (bA (ay (ay (bA ?_)))))))))
       refine dq kT rfl rfl (fun w' hw => ?_)
       have e : eR l entry rounds = ([], 15) := by
        unfold eR
        rw [if_neg (by omega), if_neg (by rw [← hfe]; exact ht0), ← hfe, Int.toNat_natCast, ← han, show rounds - n = 0 by omega]
        exact yJ (by show ¬ dw _ _ _ < 0; omega)
       refine ⟨.slice none 0 0, by rw [e], hw.below0 hF05, by rw [e]; exact hw.ents0 hF05.lo (by repeat' constructor)⟩
      ·refine bF ?_
       obtain ⟨km, hkm⟩ : ∃ km : Nat, dw (fun x => decide (true = x)) 0 s.mb = (km : Int) := ⟨_, (Int.toNat_of_nonneg (by omega)).symm⟩
       rw [hkm]
       have hkl := iJ (fun x => decide (true = x)) s.mb 0
       refine an (zz0 (aa rfl) (zz0 (aa rfl) ?_))
       refine iY (fun _ : Unit => .tuple #[]) [rowE Vb 37 cL s.st, rowE VV 3 bP s.vs, rowE VM 4 cD s.mb] (fun _ => [rowE Vb 37 cL (jK l (fc l fn) (rs.getD km default).data km s).st, rowE VV 3 bP (jK l (fc l fn) (rs.getD km default).data km s).vs, rowE VM 4 cD (jK l (fc l fn) (rs.getD km default).data km s).mb]) (ok := fun _ => True) (dd := fun _ => 0) rfl Tryz.call164 (by repeat' constructor) (fun w hw => Nat.le_of_eq hdr5) (fun w hw => Dk l (fc l fn) rs s bq bm km (.slice pV l.length cV) VE VG Vb VV VM w (hw.own (by repeat' constructor)) (hcx5.mono (show Hp.le F5.blk (Bg.lessB w (cZ [rowE Vb 37 cL s.st, rowE VV 3 bP s.vs, rowE VM 4 cD s.mb]) 0).blk from hw.lessB (Lo := [rowE Vb 37 cL s.st, rowE VV 3 bP s.vs, rowE VM 4 cD s.mb]) (by repeat' constructor))) (hI5.mono (show Hp.le F5.blk (Bg.lessB w (cZ [rowE Vb 37 cL s.st, rowE VV 3 bP s.vs, rowE VM 4 cD s.mb]) 0).blk from hw.lessB (Lo := [rowE Vb 37 cL s.st, rowE VV 3 bP s.vs, rowE VM 4 cD s.mb]) (by repeat' constructor))) (hG5.mono (show Hp.le F5.blk (Bg.lessB w (cZ [rowE Vb 37 cL s.st, rowE VV 3 bP s.vs, rowE VM 4 cD s.mb]) 0).blk from hw.lessB (Lo := [rowE Vb 37 cL s.st, rowE VV 3 bP s.vs, rowE VM 4 cD s.mb]) (by repeat' constructor))) (hE5.mono (show Hp.le F5.blk (Bg.lessB w (cZ [rowE Vb 37 cL s.st, rowE VV 3 bP s.vs, rowE VM 4 cD s.mb]) 0).blk from hw.lessB (Lo := [rowE Vb 37 cL s.st, rowE VV 3 bP s.vs, rowE VM 4 cD s.mb]) (by repeat' constructor))) (hEI5.mono (show Hp.le F5.blk (Bg.lessB w (cZ [rowE Vb 37 cL s.st, rowE VV 3 bP s.vs, rowE VM 4 cD s.mb]) 0).blk from hw.lessB (Lo := [rowE Vb 37 cL s.st, rowE VV 3 bP s.vs, rowE VM 4 cD s.mb]) (by repeat' constructor))) hIO (vw _ _) hst hvt hmt (Eh hrs) (Ec _ _) (HT hrs km) (fun v hv => by have := hvn v hv; omega) (by omega)) rfl (fun _ _ => ?_)
       refine aD (aX (ac (an (zz0 (aa rfl) (zz0 (cp rfl rfl) ?_)))))
       refine zz0 (ab rfl) (ad ?_)
       have hfm : m8 s.mb = (km : Int) := hkm
       have hstep : iU l (fc l fn) (ly l) (rounds - n) s = iU l (fc l fn) (ly l) (rounds - (n + 1)) (jK l (fc l fn) (rs.getD km default).data km s) := by
        rw [show rounds - n = rounds - (n + 1) + 1 by omega, wo (by rw [hfm]; omega), hfm, Int.toNat_natCast, mE hrs km]
       have hvl := A5 l (fc l fn) (rs.getD km default).data km s
       have hvv := EH (l := l) (gd := (fc l fn)) (es := (rs.getD km default).data) (k := km) (by omega) hvn
       refine cH (n + 1, jK l (fc l fn) (rs.getD km default).data km s) (Front.c Front.nil) (bC 18 rfl) (o := ⟨⟨by omega, hstep.symm.trans han⟩, ⟨hvl.1.trans hst, hvl.2.1.trans hvt, hvl.2.2.trans hmt⟩, hvv⟩)
end Go.Proofs.YtiajjbhcpeadfaaGreat
namespace Go.HL
open Go
section
variable {P : Program} {N : Nat} {F : Bg} {L : List Ent} {M : Fr} {dst : Option Tmp} {ty : TypeId} {pos : String} {after : Array Edge} {g : Option (Nat × Bool)}
theorem Ey {fo : Operand} {f : FuncId} {us : List Value} {xs : List Operand} {vs : List Value} {ts : Array TypeId} {v : Value} (hf : opv M fo = some (.func (.func f) us.toArray #[])) (hx : lJ M xs = some vs)
  (he : ∀ (args : Array Value) (w : World), (callFunc f args).run P w = .ok (.enter f args) w)
  (hc : ∀ w, HpOK F L w → Calls P f (us ++ vs).toArray w fun e w' => e = .returned v ∧ Ext w w') :
  QS P N F L M ⟨dst, .call { callee := .value fo, args := xs.toArray, argTypes := ts }, ty, pos, after, g⟩ v := by
 intro a w ha hw
 unfold Oper.quietAt
 have h1 := ha.evals hx
 have h2 := ha.eval hf
 have hr : (execOp a.eval ⟨dst, .call { callee := .value fo, args := xs.toArray, argTypes := ts }, ty, pos, after, g⟩).run P w = .ok (.enter f (us ++ vs).toArray) w := by
  simp [execOp, resolve, Deferred.ofValue, invoke, he, h1, h2]
 rw [hr]
 exact ⟨rfl, (hc w hw).mono fun e w' ⟨h1, h2⟩ => ⟨h1, hw.grow h2⟩⟩
end
def oZ (l : List SecV) (a : UInt32) : UInt32 × Bool :=
 if (iD l a 4).2 ≠ 0 ∨ (iD l a 4).1.length ≠ 4 then (0, false)
 else if cK l a < 0 ∨ (l.getD (cK l a).toNat default).wr = true then (0, false) else (leP (iD l a 4).1, true)
def EL (l : List SecV) (a : UInt32) : Bool := decide (0 ≤ cK l a) && (l.getD (cK l a).toNat default).ex
def vr (i : Ins) : Bool := decide (jn i = 0) && vq i.op
def jo (l : List SecV) (t j : UInt32) : UInt32 × Bool := ((oZ l (t + 4 * j)).1, (oZ l (t + 4 * j)).2 && EL l (oZ l (t + 4 * j)).1)
theorem IW {l : List UInt8} (h : l.length = 4) :
  (((l.getD 0 default).toUInt32 ||| nE (l.getD 1 default).toUInt32 8) ||| nE (l.getD 2 default).toUInt32 16) ||| nE (l.getD 3 default).toUInt32 24 = leP l := by
 have h0 : leP (l.take 1) = (l.getD 0 default).toUInt32 := by
  rw [← mI (l := l) (k := 0) (by omega) (by omega) (c := 0) rfl]
  rw [← UInt32.toNat_inj, UInt32.toNat_or, mD]
  simp [leP]
 have h1 := mI (l := l) (k := 1) (by omega) (by omega) (c := 8) rfl
 have h2 := mI (l := l) (k := 2) (by omega) (by omega) (c := 16) rfl
 have h3 := mI (l := l) (k := 3) (by omega) (by omega) (c := 24) rfl
 rw [List.take_of_length_le (l := l) (i := 3 + 1) (by omega)] at h3
 rw [← h3, ← h2, ← h1, ← h0]; rfl
def sy (s : VSet) (j : UInt32) : UInt32 := if pP s j = true then j else s.lo
def nA (l : List SecV) (t : UInt32) (s : VSet) : Nat → Option (List UInt32)
 | 0 => some []
 | n + 1 => match nA l t s n with
  | none => none
  | some out => if (jo l t (sy s (u32 (n : Int)))).2 = true then some (out ++ [(jo l t (sy s (u32 (n : Int)))).1]) else none
theorem pw {l : List SecV} {t : UInt32} {s : VSet} : ∀ {n : Nat} {out : List UInt32}, nA l t s n = some out → out.length = n
 | 0, out, h => by simp only [nA, Option.some.injEq] at h; subst h; rfl
 | n + 1, out, h => by
  simp only [nA] at h
  cases hk : nA l t s n with
  | none => rw [hk] at h; cases h
  | some o =>
   rw [hk] at h
   simp only at h
   split at h
   ·cases h; rw [List.length_append, pw hk]; rfl
   ·cases h
theorem EO {l : List SecV} {t : UInt32} {s : VSet} {n : Nat} {out : List UInt32} (h : nA l t s n = some out) (h2 : (jo l t (sy s (u32 (n : Int)))).2 = true) : nA l t s (n + 1) = some (out ++ [(jo l t (sy s (u32 (n : Int)))).1]) := by
 simp only [nA, h]; rw [if_pos h2]
theorem Hf {l : List SecV} {t : UInt32} {s : VSet} {n : Nat} {out : List UInt32} (h : nA l t s n = some out) (h2 : (jo l t (sy s (u32 (n : Int)))).2 = false) : nA l t s (n + 1) = none := by
 simp only [nA, h]; rw [if_neg (by rw [h2]; simp)]
theorem Dn {l : List SecV} {t : UInt32} {s : VSet} {n : Nat} (h : nA l t s n = none) : ∀ m, n ≤ m → nA l t s m = none := by
  intro m hm
  induction m with
  | zero => obtain rfl : n = 0 := by omega
            exact h
  | succ m ih =>
    rcases Nat.lt_or_ge n (m + 1) with q | q
    · simp only [nA, ih (by omega)]
    · obtain rfl : n = m + 1 := by omega
      exact h
def cC (l : List SecV) (i : Ins) (x : VSet) : List UInt32 × Int :=
 if vr i = false then ([], 2) else if dT l ≠ 0 then ([], dT l)
 else if (ir x = false ∨ x.em = true) ∨ x.top = true then ([], 19)
 else if i.op ≠ 22 then (if (fh x).2 ≠ 0 ∨ ((fh x).1.any fun a => !EL l a) = true then ([], 19) else ((fh x).1, 0))
 else if 64 ≤ x.hi then ([], 19)
 else match nA l i.imm x (x.hi.toNat + 1) with
  | none => ([], 19)
  | some out => (out, 0)
def m6 (l : List SecV) (a : UInt32) : Nat → Bool
 | 0 => true
 | n + 1 => m6 l a n && (jo l a (u32 (n : Int))).2
theorem zX {l : List SecV} {a : UInt32} {n : Nat} (h : m6 l a n = false) : ∀ m, n ≤ m → m6 l a m = false := by
  intro m hm
  induction m with
  | zero => obtain rfl : n = 0 := by omega
            exact h
  | succ m ih =>
    rcases Nat.lt_or_ge n (m + 1) with q | q
    · simp only [m6, ih (by omega), Bool.false_and]
    · obtain rfl : n = m + 1 := by omega
      exact h
def sR (l : List SecV) (a : UInt32) (n : Int) : Bool := if (n < 1 ∨ 64 < n) ∨ dT l ≠ 0 then false else m6 l a n.toNat
theorem EK {j : Nat} (h : j < 4294967295) : u32 (j : Int) + 1 = u32 ((j + 1 : Nat) : Int) := by
 have h1 := sw (j : Int)
 have h2 := sw ((j + 1 : Nat) : Int)
 rw [← UInt32.toNat_inj, UInt32.toNat_add]
 have e : (1 : UInt32).toNat = 1 := rfl
 rw [e]; omega
theorem CM {x : UInt32} (h : x < 64) : (x + 1).toNat = x.toNat + 1 := by
 rw [UInt32.lt_iff_toNat_lt] at h
 have e : (64 : UInt32).toNat = 64 := rfl
 have e1 : (1 : UInt32).toNat = 1 := rfl
 rw [UInt32.toNat_add, e1]; omega
end Go.HL
namespace Go.Proofs.YtiajjbhcpeadfaaGreat
open Go Go.HL Go.RowKit
theorem G8 (l : List SecV) (pV : Option Addr) (cV : Nat) (a : UInt32) (w : World) (hV : Sl (hp w) dx l (.slice pV l.length cV)) (hB : SecB l) (hD : DataIn (hp w) l) :
  Calls Tryz.prog 104 #[.agg #[(.slice pV l.length cV)], .int .u32 a.toNat] w (fun e w' => e = .returned (.tuple #[.int .u32 (oZ l a).1.toNat, .bool (oZ l a).2]) ∧ Ext w w') := by
 have hV' : Sl (Bg.of w).blk dx l (.slice pV l.length cV) := hV
 have hff := gQ (l := l) (a := a)
 have hD' : DataIn (Bg.of w).blk l := hD
 refine enter Tryz.func104 rfl Tryz.ntmps104 rfl ?_
 refine af ?_
 refine dO rfl rfl (fun b1 => ?_)
 refine zz0 (ab rfl) (zz0 (ab rfl) (aH (zz0 (zz3 (off := 0) (ft := 22) rfl iV rfl lg) ?_)))
 refine zz0 (aJ rfl mn) ?_
 refine zz0 (aa rfl) ?_
 refine gx (fun V => .tuple #[V, .int .i64 (iD l a 4).2]) rfl Tryz.call157 (fun w hw => E7 l (.slice pV l.length cV) a 4 w (hw.slF hV') hB (hD'.mono hw.bg) (by omega)) rfl (fun V2 => ?_)
 refine zz0 (aa rfl) (zz0 (aL rfl rfl) (zz0 (aL rfl rfl) (zz0 (ab rfl) (zz0 (ab rfl) (ad (al (af (zz0 (aa rfl) (zz0 (fV rfl rfl) (zz0 (aa rfl) ?_))))))))))
 apply dH
 ·exact (rfl : _ = (4, 18, 22))
 ·exact rfl
 ·intro hF3; have hF3' := hF3
  try simp only [bs] at hF3'
  refine zz5 hF3 (aa rfl) (zz5 hF3 (ln rfl bh) ?_)
  refine zz5 hF3 (fV rfl rfl) (zz0 (aT rfl hF3 rfl) ?_)
  refine aD (ac ?_)
  exact aI (Sub.cons rfl (zz9 4 rfl))
 ·intro hT3
  refine zz8 hT3 (zz8 hT3 (zz8 hT3 (zz0 (aS rfl hT3 rfl) ?_)))
  refine aD (ac ?_)
  exact aI (Sub.cons rfl (zz9 4 rfl))
 refine ad ?_
 refine ar rfl ?_ ?_ <;> intro h4 <;> try simp only [bs] at h4
 ·have hq1 := h4
  refine af (zz0 (ab rfl) (zz0 (ab rfl) (ad (aB (ay ?_)))))
  refine dq nv rfl rfl (fun w' hw => ?_)
  exact ⟨by unfold oZ; rw [if_pos (by omega)]; rfl, hw.b0⟩
 ·have hq1 := h4
  refine dl (zz0 (zz3 (off := 0) (ft := 22) rfl iV rfl lg) ?_)
  refine zz0 (aJ rfl mn) ?_
  refine zz0 (aa rfl) (zz0 (aA rfl oR (fun w hw => rV l (.slice pV l.length cV) a w (hw.slF hV') hB)) ?_)
  refine zz0 (ab rfl) (ad (al (af (zz0 (aa rfl) (zz0 (bU rfl rfl) (zz0 (aa rfl) ?_))))))
  apply dH
  ·exact (rfl : _ = (7, 29, 36))
  ·exact rfl
  ·intro hF5; have hF5' := hF5
   try simp only [bs] at hF5'
   refine zz5 hF5 (zz3 (off := 0) (ft := 22) rfl iV rfl lg) ?_
   refine zz5 hF5 (aJ rfl mn) ?_
   refine zz5 hF5 (aa rfl) (zz5 hF5 (o8 rfl rfl cG de) ?_)
   refine zz5 hF5 (zz3 (off := 3) (ft := 4) rfl cT rfl bT) ?_
   refine zz5 hF5 (qe rfl (by assumption) cB (by omega) (by rfl)) ?_
   refine zz0 (aT rfl hF5 rfl) ?_
   refine aD (ac ?_)
   exact aI (Sub.cons rfl (zz9 7 rfl))
  ·intro hT5
   refine zz8 hT5 (zz8 hT5 (zz8 hT5 (zz8 hT5 (zz8 hT5 (zz8 hT5 (zz0 (aS rfl hT5 rfl) ?_))))))
   refine aD (ac ?_)
   exact aI (Sub.cons rfl (zz9 7 rfl))
  refine ad ?_
  refine ar rfl ?_ ?_ <;> intro h6 <;> try simp only [bs] at h6
  ·have hq2 := h6
   refine af (zz0 (ab rfl) (zz0 (ab rfl) (ad (aB (ay ?_)))))
   refine dq nv rfl rfl (fun w' hw => ?_)
   exact ⟨by unfold oZ; rw [if_neg (by omega), if_pos hq2]; rfl, hw.b0⟩
  ·have hq2 := h6
   refine bF (al (io aQ ?_))
   refine aw (aa rfl) (aw (zz7 (E := dQ) (l := (iD l a 4).1) (i := 0) rfl rfl bh dF) ?_)
   refine aw (eF rfl gB) ?_
   refine aw (iG rfl bW aP) (aw (aa rfl) (aw (zz7 (E := dQ) (l := (iD l a 4).1) (i := 1) rfl rfl bh dF) ?_))
   refine aw (eF rfl gB) ?_
   refine aw (iG rfl bW aP) (aw (mw rfl rfl (by omega)) ?_)
   refine aw (qE rfl rfl) ?_
   refine aw (aa rfl) (aw (zz7 (E := dQ) (l := (iD l a 4).1) (i := 2) rfl rfl bh dF) ?_)
   refine aw (eF rfl gB) ?_
   refine aw (iG rfl bW aP) (aw (mw rfl rfl (by omega)) ?_)
   refine aw (qE rfl rfl) ?_
   refine aw (aa rfl) (aw (zz7 (E := dQ) (l := (iD l a 4).1) (i := 3) rfl rfl bh dF) ?_)
   refine aw (eF rfl gB) ?_
   refine aw (iG rfl bW aP) (aw (mw rfl rfl (by omega)) ?_)
   refine aw (qE rfl rfl) ?_
   refine aw (ab rfl) (aw (ab rfl) (bK ?_))
   refine ac (aB ?_)
   refine dq nv rfl rfl (fun w' hw => ?_)
   refine ⟨?_, hw.b0⟩
   unfold oZ
   rw [if_neg (by omega), if_neg (fun q => q.elim (fun q => hq2.1 q) (fun q => by rw [hq2.2] at q; cases q))]
   exact congrArg (fun x : UInt32 => Ending.returned (.tuple #[.int .u32 x.toNat, .bool true])) (IW (by omega))
theorem wB (l : List SecV) (pV : Option Addr) (cV : Nat) (a : UInt32) (w : World) (hV : Sl (hp w) dx l (.slice pV l.length cV)) (hB : SecB l) :
  Calls Tryz.prog 44 #[.agg #[(.slice pV l.length cV)], .int .u32 a.toNat] w (fun e w' => e = .returned (.bool (EL l a)) ∧ Ext w w') := by
 have hV' : Sl (Bg.of w).blk dx l (.slice pV l.length cV) := hV
 have hff := gQ (l := l) (a := a)
 refine enter Tryz.func44 rfl Tryz.ntmps44 rfl ?_
 refine af ?_
 refine dO rfl rfl (fun b1 => ?_)
 refine zz0 (ab rfl) (aH (zz0 (zz3 (off := 0) (ft := 22) rfl iV rfl lg) ?_))
 refine zz0 (aJ rfl mn) ?_
 refine zz0 (aa rfl) (zz0 (aA rfl oR (fun w hw => rV l (.slice pV l.length cV) a w (hw.slF hV') hB)) ?_)
 refine zz0 (ab rfl) (aH (zz0 (aa rfl) (zz0 (eJ rfl rfl) (zz0 (aa rfl) ?_))))
 apply cE
 ·exact (rfl : _ = (7, 12, 19))
 ·exact rfl
 ·intro hT2; have hT2' := hT2
  try simp only [bs] at hT2'
  refine zz5 hT2 (zz3 (off := 0) (ft := 22) rfl iV rfl lg) ?_
  refine zz5 hT2 (aJ rfl mn) ?_
  refine zz5 hT2 (aa rfl) (zz5 hT2 (o8 rfl rfl cG de) ?_)
  refine zz5 hT2 (zz3 (off := 4) (ft := 4) rfl cT rfl bT) ?_
  refine zz5 hT2 (qe rfl (by assumption) cB (by omega) (by rfl)) ?_
  refine zz0 (aS rfl hT2 rfl) ?_
  refine aD (ac ?_)
  exact aI (Sub.cons rfl (zz9 7 rfl))
 ·intro hF2
  refine zz8 hF2 (zz8 hF2 (zz8 hF2 (zz8 hF2 (zz8 hF2 (zz8 hF2 (zz0 (aT rfl hF2 rfl) ?_))))))
  refine aD (ac ?_)
  exact aI (Sub.cons rfl (zz9 7 rfl))
 refine zz0 (ab rfl) (ad (aB ?_))
 refine aV Tryz.results44 rfl (fun w' hw => ?_)
 exact ⟨rfl, hw.b0⟩
theorem Am (l : List SecV) (pV : Option Addr) (cV : Nat) (t j : UInt32) (w : World) (hV : Sl (hp w) dx l (.slice pV l.length cV)) (hB : SecB l) (hD : DataIn (hp w) l) :
  Calls Tryz.prog 45 #[.agg #[(.slice pV l.length cV)], .int .u32 t.toNat, .int .u32 j.toNat] w (fun e w' => e = .returned (.tuple #[.int .u32 (jo l t j).1.toNat, .bool (jo l t j).2]) ∧ Ext w w') := by
 have hV' : Sl (Bg.of w).blk dx l (.slice pV l.length cV) := hV
 have hD' : DataIn (Bg.of w).blk l := hD
 refine enter Tryz.func45 rfl Tryz.ntmps45 rfl ?_
 refine af ?_
 refine dO rfl rfl (fun b1 => ?_)
 refine zz0 (ab rfl) (zz0 (ab rfl) (aH (zz0 (bH rfl mm jp) ?_)))
 refine zz0 (aa rfl) (zz0 (aa rfl) (zz0 (my (m := 4) rfl rfl) ?_))
 refine zz0 (gV rfl rfl) ?_
 refine zz0 (aA rfl Tryz.call104 (fun w hw => G8 l pV cV (t + 4 * j) w (hw.slF hV') hB (hD'.mono hw.bg))) ?_
 refine zz0 (aa rfl) (zz0 (aL rfl rfl) (zz0 (aL rfl rfl) (zz0 (ab rfl) (zz0 (ab rfl) (aH (zz0 (aa rfl) (zz0 (aa rfl) (zz0 (aa rfl) ?_))))))))
 apply cE
 ·exact (rfl : _ = (4, 21, 25))
 ·exact rfl
 ·intro hT2; have hT2' := hT2
  try simp only [bs] at hT2'
  refine zz5 hT2 (bH rfl mm jp) ?_
  refine zz5 hT2 (aa rfl) (zz5 hT2 (aA rfl Tryz.call44 (fun w hw => wB l pV cV (oZ l (t + 4 * j)).1 w (hw.slF hV') hB)) ?_)
  refine zz0 (aS rfl hT2 rfl) ?_
  refine aD (ac ?_)
  exact aI (Sub.cons rfl (zz9 4 rfl))
 ·intro hF2
  refine zz8 hF2 (zz8 hF2 (zz8 hF2 (zz0 (aT rfl hF2 rfl) ?_)))
  refine aD (ac ?_)
  exact aI (Sub.cons rfl (zz9 4 rfl))
 refine zz0 (ab rfl) (zz0 (ab rfl) (ad (aB ?_)))
 refine dq Tryz.results45 rfl rfl (fun w' hw => ?_)
 exact ⟨rfl, hw.b0⟩
theorem tI (i : Ins) (w : World) (hI : InsOK i) :
  Calls Tryz.prog 38 #[.agg (aO.enc i).toArray] w (fun e w' => e = .returned (.bool (vr i)) ∧ Ext w w') := by
 refine enter Tryz.func38 rfl Tryz.ntmps38 rfl ?_
 refine af ?_
 refine dO rfl rfl (fun b1 => ?_)
 refine zz0 (ab rfl) (aH (zz0 (bH rfl aR ax) ?_))
 refine zz0 (aA rfl kE (fun w hw => kB i w hI)) ?_
 refine zz0 (aa rfl) ?_
 apply cE
 ·exact (rfl : _ = (14, 5, 19))
 ·exact rfl
 ·intro hT2; have hT2' := hT2
  try simp only [bs] at hT2'
  refine zz5 hT2 (zz3 (off := 2) (ft := 3) rfl ak rfl aC) ?_
  refine zz5 hT2 (aJ rfl aN) ?_
  refine zz5 hT2 (bB rfl rfl) (zz5 hT2 (aa rfl) ?_)
  apply dH
  ·exact (rfl : _ = (4, 9, 13))
  ·exact rfl
  ·intro hF3; have hF3' := hF3
   try simp only [bs] at hF3'
   refine zz5 hF3 (zz3 (off := 2) (ft := 3) rfl ak rfl aC) ?_
   refine zz5 hF3 (aJ rfl aN) ?_
   refine zz5 hF3 (bB rfl rfl) (zz5 hT2 (aT rfl hF3 rfl) ?_)
   refine aD (ac ?_)
   exact aI (Sub.cons rfl (zz9 4 rfl))
  ·intro hT3
   refine zz8 hT3 (zz8 hT3 (zz8 hT3 (zz5 hT2 (aS rfl hT3 rfl) ?_)))
   refine aD (ac ?_)
   exact aI (Sub.cons rfl (zz9 4 rfl))
  refine zz5 hT2 (aa rfl) ?_
  apply dH
  ·exact (rfl : _ = (4, 14, 18))
  ·exact rfl
  ·intro hF4; have hF4' := hF4
   try simp only [bs] at hF4'
   refine zz5 hF4 (zz3 (off := 2) (ft := 3) rfl ak rfl aC) ?_
   refine zz5 hF4 (aJ rfl aN) ?_
   refine zz5 hF4 (bB rfl rfl) (zz5 hT2 (aT rfl hF4 rfl) ?_)
   refine aD (ac ?_)
   exact aI (Sub.cons rfl (zz9 4 rfl))
  ·intro hT4
   refine zz8 hT4 (zz8 hT4 (zz8 hT4 (zz5 hT2 (aS rfl hT4 rfl) ?_)))
   refine aD (ac ?_)
   exact aI (Sub.cons rfl (zz9 4 rfl))
  refine zz0 (aS rfl hT2 rfl) ?_
  refine aD (ac ?_)
  exact aI (Sub.cons rfl (zz9 8 rfl))
 ·intro hF2
  refine zz8 hF2 (zz8 hF2 (zz8 hF2 (zz8 hF2 (gY ?_))))
  refine gY ?_
  refine gY ?_
  refine zz8 hF2 (zz8 hF2 (gY ?_))
  refine gY ?_
  refine gY ?_
  refine zz8 hF2 (zz0 (aT rfl hF2 rfl) ?_)
  refine aD (ac ?_)
  exact aI (Sub.cons rfl (zz9 14 rfl))
 refine zz0 (ab rfl) (ad (aB ?_))
 refine aV Tryz.results38 rfl (fun w' hw => ?_)
 exact ⟨by unfold vr vq; congr 2; rw [Bool.eq_iff_iff]; simp only [Bool.and_eq_true, Bool.or_eq_true, decide_eq_true_eq]; omega, hw.b0⟩
theorem wa (l : List UInt32) (V : Value) (g : FuncId) (cb : List Value) (w : World) (hV : Sl (hp w) ao l V) (eg : ∀ (args : Array Value) (w : World), (callFunc g args).run Tryz.prog w = .ok (.enter g args) w) (p : UInt32 → Bool) (hp : ∀ x ∈ l, ∀ w', Ext w w' → Calls Tryz.prog g ([Value.int .u32 x.toNat] ++ cb).toArray w' fun e w'' => e = .returned (.bool (p x)) ∧ Ext w' w'') :
  Calls Tryz.prog 101 #[V, .func (.func g) #[] cb.toArray] w (fun e w' => e = .returned (.int .i64 (dw p 0 l)) ∧ Ext w w') := by
 have hV' : Sl (Bg.of w).blk ao l V := hV
 have hlen := hV.len_le
 refine enter Tryz.func101 rfl Tryz.ntmps101 rfl ?_
 refine af (zz0 (ab rfl) (ad (al (af (zz0 (aa rfl) (zz0 (gW rfl ah) ?_))))))
 refine zz0 (aa rfl) (ad (aF ?_))
 refine bL (ι := Nat) (fun k => k ≤ l.length ∧ dw p k (l.drop k) = dw p 0 l) (fun _ => _) (fun k => []) (fun k => [(8, .int .i64 (k : Nat))]) (fun k => l.length - k) 0 ⟨Nat.zero_le _, rfl⟩ (Front.c Front.nil) (by repeat' constructor) rfl (fun k hi m hm => ?_)
 replace hi : k ≤ l.length ∧ dw p k (l.drop k) = dw p 0 l := hi
 replace hm : m = l.length - k := hm
 change Tr _ _ [] ([(8, .int .i64 (k : Nat))] ++ _) _
 obtain ⟨hk1, hk2⟩ := hi
 refine af (zz0 (bU rfl rfl) (ad (al ?_)))
 refine ar rfl ?_ ?_ <;> intro h1 <;> try simp only [bs] at h1
 ·refine bF (al (aF (af (zz0 (aa rfl) (zz0 (ab rfl) (aH (zz0 (aa rfl) (zz0 (aa rfl) ?_))))))))
  refine zz0 (aa rfl) (zz0 (je rfl rfl ah ae) ?_)
  refine zz0 (j2 rfl am) ?_
  refine zz0 (iC rfl rfl eg (fun w hw => hp _ (cM (by omega)) w (hw.b0))) ?_
  refine ad ?_
  refine ar rfl ?_ ?_ <;> intro h2 <;> try simp only [bs] at h2
  ·refine af (zz0 (aa rfl) (zz0 (ab rfl) (ad (aB (bA (ay (ay (bA (ay ?_)))))))))
   refine aV Tryz.results101 rfl (fun w' hw => ?_)
   exact ⟨by rw [← hk2, drop_cons (k := k) (by omega), dw, if_pos (by assumption)], hw.b0⟩
  ·refine cg (aX (ac (an (zz0 (cp rfl rfl) ?_))))
   refine zz0 (aa rfl) (ad ?_)
   refine cH (k + 1) (Front.c Front.nil) (bC 12 rfl) (o := ⟨by omega, by rw [← hk2, drop_cons (k := k) (by omega), dw, if_neg (by simp_all)]⟩)
 ·refine bJ (aG (aG (bv (ac (af (zz0 (ab rfl) (ad (aB ?_))))))))
  refine aV Tryz.results101 rfl (fun w' hw => ?_)
  exact ⟨by rw [← hk2, List.drop_of_length_le (by omega)]; rfl, hw.b0⟩
theorem sZ (l : List UInt32) (V : Value) (g : FuncId) (cb : List Value) (w : World) (hV : Sl (hp w) ao l V) (eg : ∀ (args : Array Value) (w : World), (callFunc g args).run Tryz.prog w = .ok (.enter g args) w) (p : UInt32 → Bool) (hp : ∀ x ∈ l, ∀ w', Ext w w' → Calls Tryz.prog g ([Value.int .u32 x.toNat] ++ cb).toArray w' fun e w'' => e = .returned (.bool (p x)) ∧ Ext w' w'') :
  Calls Tryz.prog 42 #[V, .func (.func g) #[] cb.toArray] w (fun e w' => e = .returned (.bool (l.any p)) ∧ Ext w w') := by
 have hV' : Sl (Bg.of w).blk ao l V := hV
 refine enter Tryz.func42 rfl Tryz.ntmps42 rfl ?_
 refine af (zz0 (ab rfl) (aH (zz0 (aa rfl) (zz0 (aa rfl) (zz0 (aA rfl Tryz.call101 (fun w hw => wa l V g cb w (hw.slF hV') eg p (fun x hx w'' h => hp x hx w'' ((hw.b0).trans h)))) ?_)))))
 refine zz0 (eJ rfl rfl) (zz0 (ab rfl) (ad (aB ?_)))
 refine aV Tryz.results42 rfl (fun w' hw => ?_)
 exact ⟨by rw [rP], hw.b0⟩
theorem IO (l : List SecV) (pV : Option Addr) (cV : Nat) (w : World) :
  Calls Tryz.prog 43 #[.func (.func 44) #[.agg #[(.slice pV l.length cV)]] #[]] w (fun e w' => ∃ b : Nat, e = .returned (.func (.func 102) #[] #[.pointer (some ⟨b, 0, none⟩)]) ∧ Ext w w' ∧ NewEnts w w' [cellE b [.func (.func 44) #[.agg #[(.slice pV l.length cV)]] #[]] 95] ∧ True) := by
 refine enter Tryz.func43 rfl Tryz.ntmps43 rfl ?_
 refine af ?_
 refine dO rfl rfl (fun b1 => ?_)
 refine zz0 (ab rfl) (aH (zz0 (fy rfl rfl) ?_))
 refine zz0 (ab rfl) (ad (aB ?_))
 refine aV Tryz.results43 rfl (fun w' hw => ?_)
 exact ⟨_, rfl, hw.b0, hw.ents (Bg.le.refl _) (Pick.refl _), trivial⟩
theorem Hv (l : List SecV) (pV : Option Addr) (cV : Nat) (a : UInt32) (b : Nat) (w : World) (hV : Sl (hp w) dx l (.slice pV l.length cV)) (hB : SecB l) (hc : Cell (hp w) b 0 (.func (.func 44) #[.agg #[(.slice pV l.length cV)]] #[])) :
  Calls Tryz.prog 102 #[.int .u32 a.toNat, .pointer (some ⟨b, 0, none⟩)] w (fun e w' => e = .returned (.bool (!EL l a)) ∧ Ext w w') := by
 have hV' : Sl (Bg.of w).blk dx l (.slice pV l.length cV) := hV
 have hc' : Cell (Bg.of w).blk b 0 (.func (.func 44) #[.agg #[(.slice pV l.length cV)]] #[]) := hc
 refine enter Tryz.func102 rfl Tryz.ntmps102 rfl ?_
 refine af (zz0 (ab rfl) (aH (zz0 (nV rfl (by assumption) Tryz.isAgg95) ?_)))
 refine zz0 (aa rfl) (zz0 (Ey (us := [.agg #[(.slice pV l.length cV)]]) rfl rfl Tryz.call44 (fun w hw => wB l pV cV a w (hw.slF hV') hB)) ?_)
 refine zz0 (cQ rfl) (zz0 (ab rfl) (ad (aB ?_)))
 refine aV Tryz.results102 rfl (fun w' hw => ?_)
 exact ⟨rfl, hw.b0⟩
end Go.Proofs.YtiajjbhcpeadfaaGreat
namespace Go.Proofs.YtiajjbhcpeadfaaGreat
open Go Go.HL Go.RowKit
theorem j4 (l : List SecV) (pV : Option Addr) (cV : Nat) (i : Ins) (s : StV) (w : World) (hV : Sl (hp w) dx l (.slice pV l.length cV)) (hB : SecB l) (hD : DataIn (hp w) l) (hN : ∀ s ∈ l, s.name.size ≤ 140737488351232) (hI : InsOK i) :
  Calls Tryz.prog 12 #[(.slice pV l.length cV), .agg (aO.enc i).toArray, .agg (cL.enc s).toArray] w (fun e w' => ∃ V' : Value, e = .returned (.tuple #[V', .int .i64 (cC l i (s.get i.a)).2]) ∧ Ext w w' ∧ ju w w' 23 ao (cC l i (s.get i.a)).1 V') := by
 have hV' : Sl (Bg.of w).blk dx l (.slice pV l.length cV) := hV
 have hD' : DataIn (Bg.of w).blk l := hD
 refine enter Tryz.func12 rfl Tryz.ntmps12 rfl ?_
 refine af ?_
 refine dO rfl rfl (fun b1 => ?_)
 refine dO rfl rfl (fun b2 => ?_)
 refine zz0 (ab rfl) (zz0 (ab rfl) (ad (al (af (zz0 (bH rfl aR ax) ?_)))))
 refine zz0 (aA rfl Tryz.call38 (fun w hw => tI i w hI)) ?_
 refine zz0 (cQ rfl) (ad ?_)
 refine ar rfl ?_ ?_ <;> intro h3 <;> try simp only [bs] at h3
 ·have hq1 : vr i = false := h3
  refine af (zz0 (ab rfl) (zz0 (ab rfl) (ad (aB (ay ?_)))))
  refine dq g7 rfl rfl (fun w' hw => ?_)
  have e : cC l i (s.get i.a) = ([], 2) := by
   unfold cC
   rw [if_pos hq1]
  exact ⟨.slice none 0 0, by rw [e], hw.b0, by rw [e]; exact fR rfl⟩
 ·have hq1 : vr i = true := by simpa using h3
  refine bF (al (af (zz0 (aa rfl) (zz0 (aA rfl qB (fun w hw => qx l (.slice pV l.length cV) w (hw.slF hV') hB (fun s hs => by have := hN s hs; omega))) ?_))))
  refine zz0 (ab rfl) (aH (zz0 (aa rfl) (zz0 (fV rfl rfl) (ad ?_))))
  refine ar rfl ?_ ?_ <;> intro h4 <;> try simp only [bs] at h4
  ·have hq2 : dT l ≠ 0 := h4
   refine af (zz0 (aa rfl) (zz0 (ab rfl) (zz0 (ab rfl) (ad (aB (ay ?_))))))
   refine dq g7 rfl rfl (fun w' hw => ?_)
   have e : cC l i (s.get i.a) = ([], dT l) := by
    unfold cC
    rw [if_neg (by rw [hq1]; simp)]
    rw [if_pos hq2]
   exact ⟨.slice none 0 0, by rw [e], hw.b0, by rw [e]; exact fR rfl⟩
  ·have hq2 : dT l = 0 := by simpa using h4
   refine bF (al ?_)
   have hA := qw (show jn i = 0 by unfold vr at hq1; simp at hq1; exact hq1.1)
   refine an (zz0 (zz3 (off := 6) (ft := 3) rfl ak rfl aC) ?_)
   refine zz0 (aJ rfl aN) ?_
   refine zz0 (zz3 (off := 0) (ft := 26) rfl cm rfl cX) ?_
   refine zz0 (dI rfl rfl cj aj (by omega)) ?_
   refine zz0 (fW (vs := bQ.enc (s.get i.a)) rfl (by repeat constructor) aK aj (kj ⟨by omega, by omega⟩ (by simp)) rfl) ?_
   obtain ⟨x, hx⟩ : ∃ x, x = s.get i.a := ⟨_, rfl⟩
   rw [← hx]
   refine dB cN rfl (fun b5 => ?_)
   refine az bQ rfl rfl aj ?_
   refine ad (al (af (zz0 (bH rfl aK aj) ?_)))
   refine zz0 (aA rfl Tryz.call40 (fun w hw => uJ _ w)) ?_
   refine zz0 (cQ rfl) (zz0 (aa rfl) ?_)
   apply dH
   ·exact (rfl : _ = (3, 34, 37))
   ·exact rfl
   ·intro hF6; have hF6' := hF6
    try simp only [bs] at hF6'
    refine zz5 hF6 (zz3 (off := 0) (ft := 4) rfl au rfl bT) ?_
    refine zz5 hF6 (aJ rfl cB) ?_
    refine zz0 (aT rfl hF6 rfl) ?_
    refine aD (ac ?_)
    exact aI (Sub.cons rfl (zz9 3 rfl))
   ·intro hT6
    refine zz8 hT6 (zz8 hT6 (zz0 (aS rfl hT6 rfl) ?_))
    refine aD (ac ?_)
    exact aI (Sub.cons rfl (zz9 3 rfl))
   refine zz0 (aa rfl) ?_
   apply dH
   ·exact (rfl : _ = (3, 38, 41))
   ·exact rfl
   ·intro hF7; have hF7' := hF7
    try simp only [bs] at hF7'
    refine zz5 hF7 (zz3 (off := 1) (ft := 4) rfl au rfl bT) ?_
    refine zz5 hF7 (aJ rfl cB) ?_
    refine zz0 (aT rfl hF7 rfl) ?_
    refine aD (ac ?_)
    exact aI (Sub.cons rfl (zz9 3 rfl))
   ·intro hT7
    refine zz8 hT7 (zz8 hT7 (zz0 (aS rfl hT7 rfl) ?_))
    refine aD (ac ?_)
    exact aI (Sub.cons rfl (zz9 3 rfl))
   refine ad ?_
   refine ar rfl ?_ ?_ <;> intro h8 <;> try simp only [bs] at h8
   ·have hq3 := h8
    refine af (zz0 (ab rfl) (zz0 (ab rfl) (ad (aB (ay ?_)))))
    refine dq g7 rfl rfl (fun w' hw => ?_)
    have e : cC l i x = ([], 19) := by
     unfold cC
     rw [if_neg (by rw [hq1]; simp)]
     rw [if_neg (fun q => q hq2)]
     rw [if_pos (by rcases hq3 with (q | q) | q <;> simp_all)]
    exact ⟨.slice none 0 0, by rw [e], hw.b0, by rw [e]; exact fR rfl⟩
   ·have hq3 := h8
    refine dl (zz0 (aa rfl) (zz0 (bG (vs := [(0, _)]) rfl rfl rfl) ?_))
    refine dB Tryz.zeroValue92 rfl (fun b9 => ?_)
    refine zz6 rfl rfl jp ?_
    refine ad (al (af (zz0 (zz3 (off := 2) (ft := 3) rfl ak rfl aC) ?_)))
    refine zz0 (aJ rfl aN) ?_
    refine zz0 (fV rfl rfl) (ad ?_)
    refine ar rfl ?_ ?_ <;> intro h10 <;> try simp only [bs] at h10
    ·have hqo : i.op ≠ 22 := h10
     refine af (zz0 (bH rfl aK aj) ?_)
     refine gx (fun V => .tuple #[V, .int .i64 (fh x).2]) rfl Tryz.call41 (fun w hw => tL x w) rfl (fun VE => ?_)
     refine zz0 (aa rfl) (zz0 (aL rfl rfl) (zz0 (aL rfl rfl) (zz0 (ab rfl) (zz0 (ab rfl) (ad (al (af (zz0 (aa rfl) (zz0 (fV rfl rfl) (zz0 (aa rfl) ?_))))))))))
     apply dH
     ·exact (rfl : _ = (6, 54, 60))
     ·exact rfl
     ·intro hF11; have hF11' := hF11
      try simp only [bs] at hF11'
      refine zz5 hF11 (aa rfl) (zz5 hF11 (bH rfl mm jp) ?_)
      refine zz5 hF11 (fy rfl rfl) ?_
      refine vI rfl rfl hF11 ?_
      refine jt (fun b : Nat => .func (.func 102) #[] #[.pointer (some ⟨b, 0, none⟩)]) (fun b => [cellE b [.func (.func 44) #[.agg #[(.slice pV l.length cV)]] #[]] 95]) (ok := fun _ => True) rfl Tryz.call43 (fun w hw => IO l pV cV w) rfl (fun bf _ => ?_)
      refine zz5 hF11 (aA rfl Tryz.call42 (fun w hw => sZ (fh x).1 VE _ [.pointer (some ⟨bf, 0, none⟩)] w (hw.row (by repeat constructor)) Tryz.call102 (fun a => !EL l a) (fun y hy w'' h => Hv l pV cV y bf w'' ((hw.slF hV').mono h.hp) hB (cellE.cell (hw.ent _ (by repeat constructor)) h rfl)))) ?_
      refine zz0 (aT rfl hF11 rfl) ?_
      refine aD (ac ?_)
      exact aI (Sub.cons rfl (zz9 6 rfl))
     ·intro hT11
      refine zz8 hT11 (zz8 hT11 (zz8 hT11 (zz8 hT11 (zz8 hT11 (zz0 (aS rfl hT11 rfl) ?_)))))
      refine aD (ac ?_)
      exact aI (Sub.cons rfl (zz9 6 rfl))
     refine ad ?_
     refine ar rfl ?_ ?_ <;> intro h12 <;> try simp only [bs] at h12
     ·have hq6 := h12
      refine af (zz0 (ab rfl) (zz0 (ab rfl) (ad (aB (ay (ay ?_))))))
      refine dq g7 rfl rfl (fun w' hw => ?_)
      have e : cC l i x = ([], 19) := by
       unfold cC
       rw [if_neg (by rw [hq1]; simp)]
       rw [if_neg (fun q => q hq2)]
       rw [if_neg (show ¬((ir x = false ∨ x.em = true) ∨ x.top = true) from fun q => by rcases q with (q | q) | q <;> simp_all)]
       rw [if_pos hqo, if_pos (by rcases hq6 with q | q <;> simp_all)]
      exact ⟨.slice none 0 0, by rw [e], hw.b0, by rw [e]; exact fR rfl⟩
     ·have hq6 := h12
      refine dl (zz0 (aa rfl) (zz0 (ab rfl) (zz0 (ab rfl) (ad (aB (ay ?_))))))
      refine dq g7 rfl rfl (fun w' hw => ?_)
      have e : cC l i x = ((fh x).1, 0) := by
       unfold cC
       rw [if_neg (by rw [hq1]; simp)]
       rw [if_neg (fun q => q hq2)]
       rw [if_neg (show ¬((ir x = false ∨ x.em = true) ∨ x.top = true) from fun q => by rcases q with (q | q) | q <;> simp_all)]
       rw [if_pos hqo, if_neg (by simp_all)]
      exact ⟨VE, by rw [e]; rfl, hw.b0, by rw [e]; exact hw.new (by repeat constructor)⟩
    ·have hqo : i.op = 22 := by simpa using h10
     refine bF (al (af (zz0 (zz3 (off := 3) (ft := 23) rfl au rfl ae) ?_)))
     refine zz0 (aJ rfl am) ?_
     refine zz0 (nX (n := 64) rfl rfl) ?_
     refine ad ?_
     refine ar rfl ?_ ?_ <;> intro h13 <;> try simp only [bs] at h13
     ·have hq4 : 64 ≤ x.hi := h13
      refine af (zz0 (ab rfl) (zz0 (ab rfl) (ad (aB (ay ?_)))))
      refine dq g7 rfl rfl (fun w' hw => ?_)
      have e : cC l i x = ([], 19) := by
       unfold cC
       rw [if_neg (by rw [hq1]; simp)]
       rw [if_neg (fun q => q hq2)]
       rw [if_neg (show ¬((ir x = false ∨ x.em = true) ∨ x.top = true) from fun q => by rcases q with (q | q) | q <;> simp_all)]
       rw [if_neg (fun q => q hqo), if_pos hq4]
      exact ⟨.slice none 0 0, by rw [e], hw.b0, by rw [e]; exact fR rfl⟩
     ·have hq4 : x.hi < 64 := by have := h13; rw [UInt32.not_le] at this; exact this
      refine dl (zz0 (ab rfl) (ad (al (af (zz0 (zz3 (off := 3) (ft := 23) rfl au rfl ae) ?_)))))
      refine zz0 (aJ rfl am) ?_
      refine zz0 (gV (n := 1) rfl rfl) ?_
      refine zz0 (aa rfl) (ad (aF (bZ 23 ao ?_)))
      refine bL (ι := Nat × List UInt32 × Value) (fun ⟨j, out, Vo⟩ => j ≤ x.hi.toNat + 1 ∧ nA l i.imm x j = some out) (fun _ => _) (fun ⟨j, out, Vo⟩ => [rowE Vo 23 ao out, cellE b9 [(.slice pV l.length cV)] 92, cellE b5 (bQ.enc x) 25, cellE b2 (cL.enc s) 37, cellE b1 (aO.enc i) 36]) (fun ⟨j, out, Vo⟩ => [(68, .int .u32 (u32 (j : Int)).toNat), (13, Vo)]) (fun ⟨j, out, Vo⟩ => 65 - j) (0, [], _) ⟨Nat.zero_le _, rfl⟩ (Front.c (Front.c Front.nil)) (by repeat' constructor) rfl (fun i hi m hm => ?_)
      obtain ⟨j, out, Vo⟩ := i
      replace hi : j ≤ x.hi.toNat + 1 ∧ nA l i.imm x j = some out := hi
      replace hm : m = 65 - j := hm
      change Tr _ _ [rowE Vo 23 ao out, cellE b9 [(.slice pV l.length cV)] 92, cellE b5 (bQ.enc x) 25, cellE b2 (cL.enc s) 37, cellE b1 (aO.enc i) 36] ([(68, .int .u32 (u32 (j : Int)).toNat), (13, Vo)] ++ _) _
      obtain ⟨hj, hto⟩ := hi
      have hol := pw hto
      have h64 : x.hi.toNat < 64 := by rw [UInt32.lt_iff_toNat_lt] at hq4; exact hq4
      refine af (zz0 (iZ rfl rfl) ?_)
      refine ad (al ?_)
      refine ar rfl ?_ ?_ <;> intro h14 <;> try simp only [bs] at h14
      ·have hq5 := h14
       refine bF (al (aF (al ?_)))
       have hhs := CM hq4
       have hju := sx (x := (j : Int)) (by omega)
       rw [UInt32.lt_iff_toNat_lt] at hq5
       refine an (zz0 (aa rfl) (zz0 (ab rfl) (aH (zz0 (aa rfl) (zz0 (ab rfl) (ad ?_))))))
       refine di (ι := UInt32) (fun k1 => k1 = sy x (u32 (j : Int))) (fun _ => Bg.of w) (fun k1 => [rowE Vo 23 ao out, cellE b9 [(.slice pV l.length cV)] 92, cellE b5 (bQ.enc x) 25, cellE b2 (cL.enc s) 37, cellE b1 (aO.enc i) 36]) (fun k1 => [(15, .int .u32 k1.toNat)]) ?_ (fun k1 hi => ?_)
       ·skip
        refine af (zz0 (bH rfl aK aj) ?_)
        refine zz0 (aa rfl) (zz0 (aA rfl l4 (fun w hw => kd x _ w)) ?_)
        refine zz0 (cQ rfl) (ad ?_)
        refine ar rfl ?_ ?_ <;> intro h15 <;> try simp only [bs] at h15
        ·refine an (zz0 (zz3 (off := 2) (ft := 23) rfl au rfl ae) ?_)
         refine zz0 (aJ rfl am) ?_
         refine zz0 (ab rfl) (ad ?_)
         refine cw _ (Front.c Front.nil) (bC 7 rfl) (o := (by show _ = _; unfold sy; rw [if_neg (by simp_all)]))
        ·refine bF ?_
         refine cw _ (Front.c Front.nil) (bC 4 rfl) (o := (by show _ = _; unfold sy; rw [if_pos (by simp_all)]))
       ·skip
        replace hi : k1 = sy x (u32 (j : Int)) := hi
        change Tr _ _ [rowE Vo 23 ao out, cellE b9 [(.slice pV l.length cV)] 92, cellE b5 (bQ.enc x) 25, cellE b2 (cL.enc s) 37, cellE b1 (aO.enc i) 36] ([(15, .int .u32 k1.toNat)] ++ _) _
        refine af (zz0 (bH rfl mm jp) ?_)
        refine zz0 (zz3 (off := 1) (ft := 23) rfl ak rfl ae) ?_
        refine zz0 (aJ rfl am) ?_
        refine zz0 (aa rfl) (zz0 (aA rfl Tryz.call45 (fun w hw => Am l pV cV i.imm k1 w (hw.slF hV') hB (hD'.mono hw.bg))) ?_)
        refine zz0 (aa rfl) (zz0 (aL rfl rfl) (zz0 (aL rfl rfl) (zz0 (ab rfl) (zz0 (ab rfl) (ad (al (af (zz0 (aa rfl) (zz0 (cQ rfl) (ad ?_))))))))))
        refine ar rfl ?_ ?_ <;> intro h16 <;> try simp only [bs] at h16
        ·have hq7 : (jo l i.imm k1).2 = false := h16
         refine af (zz0 (ab rfl) (zz0 (ab rfl) (ad (aB (ay (bA (ay (ay (bA (ay ?_))))))))))
         refine dq g7 rfl rfl (fun w' hw => ?_)
         have htn := Dn (Hf hto (by rw [← hi]; exact hq7)) (x.hi.toNat + 1) (by omega)
         have e : cC l i x = ([], 19) := by
          unfold cC
          rw [if_neg (by rw [hq1]; simp)]
          rw [if_neg (fun q => q hq2)]
          rw [if_neg (show ¬((ir x = false ∨ x.em = true) ∨ x.top = true) from fun q => by rcases q with (q | q) | q <;> simp_all)]
          rw [if_neg (fun q => q hqo), if_neg (by rw [UInt32.not_le]; exact hq4), htn]
         exact ⟨.slice none 0 0, by rw [e], hw.b0, by rw [e]; exact fR rfl⟩
        ·have hq7 : (jo l i.imm k1).2 = true := by simpa using h16
         refine bF (an (zz0 (aa rfl) (zz0 (aa rfl) ?_)))
         refine iQ (E := ao) (jo l i.imm k1).1 rfl rfl ah ae c9 (fun V17 => ?_)
         refine zz1 rfl rfl ah fb (fun V18 => ?_)
         refine zz0 (ab rfl) (aD (aX (ac (an (zz0 (gV (n := 1) rfl rfl) ?_)))))
         refine zz0 (aa rfl) (ad ?_)
         rw [EK (by omega)]
         refine cH (j + 1, out ++ [(jo l i.imm k1).1], _) (Front.c (Front.c Front.nil)) (bC 27 rfl) (o := ⟨by omega, by rw [hi]; exact EO hto (by rw [← hi]; exact hq7)⟩)
      ·have hq5 := h14
       refine bJ (aG (aG (bv (ac (al ?_)))))
       have hhs := CM hq4
       have hju := sx (x := (j : Int)) (by omega)
       rw [UInt32.lt_iff_toNat_lt] at hq5
       obtain rfl : j = x.hi.toNat + 1 := by omega
       refine an (zz0 (aa rfl) (zz0 (ab rfl) (zz0 (ab rfl) (ad (aB ?_)))))
       refine dq g7 rfl rfl (fun w' hw => ?_)
       have e : cC l i x = (out, 0) := by
        unfold cC
        rw [if_neg (by rw [hq1]; simp)]
        rw [if_neg (fun q => q hq2)]
        rw [if_neg (show ¬((ir x = false ∨ x.em = true) ∨ x.top = true) from fun q => by rcases q with (q | q) | q <;> simp_all)]
        rw [if_neg (fun q => q hqo), if_neg (by rw [UInt32.not_le]; exact hq4), hto]
       exact ⟨Vo, by rw [e], hw.b0, by rw [e]; exact hw.new (by repeat constructor)⟩
theorem vp (l : List SecV) (pV : Option Addr) (cV : Nat) (a : UInt32) (n : Int) (w : World) (hV : Sl (hp w) dx l (.slice pV l.length cV)) (hB : SecB l) (hD : DataIn (hp w) l) (hN : ∀ s ∈ l, s.name.size ≤ 140737488351232) :
  Calls Tryz.prog 23 #[(.slice pV l.length cV), .int .u32 a.toNat, .int .i64 n] w (fun e w' => e = .returned (.bool (sR l a n)) ∧ Ext w w') := by
 have hV' : Sl (Bg.of w).blk dx l (.slice pV l.length cV) := hV
 have hD' : DataIn (Bg.of w).blk l := hD
 refine enter Tryz.func23 rfl Tryz.ntmps23 rfl ?_
 refine af (zz0 (ab rfl) (ad (al (af (zz0 (aa rfl) (zz0 (bU rfl rfl) (zz0 (aa rfl) ?_)))))))
 apply dH
 ·exact (rfl : _ = (3, 13, 16))
 ·exact rfl
 ·intro hF1; have hF1' := hF1
  try simp only [bs] at hF1'
  refine zz5 hF1 (aa rfl) (zz5 hF1 (fj rfl rfl) (zz0 (aT rfl hF1 rfl) ?_))
  refine aD (ac ?_)
  exact aI (Sub.cons rfl (zz9 3 rfl))
 ·intro hT1
  refine zz8 hT1 (zz8 hT1 (zz0 (aS rfl hT1 rfl) ?_))
  refine aD (ac ?_)
  exact aI (Sub.cons rfl (zz9 3 rfl))
 refine zz0 (aa rfl) ?_
 apply dH
 ·exact (rfl : _ = (4, 17, 21))
 ·exact rfl
 ·intro hF2; have hF2' := hF2
  try simp only [bs] at hF2'
  refine zz5 hF2 (aa rfl) (zz5 hF2 (aA rfl qB (fun w hw => qx l (.slice pV l.length cV) w (hw.slF hV') hB (fun s hs => by have := hN s hs; omega))) ?_)
  refine zz5 hF2 (fV rfl rfl) (zz0 (aT rfl hF2 rfl) ?_)
  refine aD (ac ?_)
  exact aI (Sub.cons rfl (zz9 4 rfl))
 ·intro hT2
  refine zz8 hT2 (zz8 hT2 (zz8 hT2 (zz0 (aS rfl hT2 rfl) ?_)))
  refine aD (ac ?_)
  exact aI (Sub.cons rfl (zz9 4 rfl))
 refine ad ?_
 refine ar rfl ?_ ?_ <;> intro h3 <;> try simp only [bs] at h3
 ·have hq1 := h3
  refine af (zz0 (ab rfl) (ad (aB (ay ?_))))
  refine aV Tryz.results23 rfl (fun w' hw => ?_)
  exact ⟨by unfold sR; rw [if_pos (by omega)], hw.b0⟩
 ·have hq1 := h3
  refine dl (zz0 (aa rfl) (zz0 (bG (vs := [(0, _)]) rfl rfl rfl) ?_))
  refine dB Tryz.zeroValue92 rfl (fun b4 => ?_)
  refine zz6 rfl rfl jp ?_
  refine ad (al (af (zz0 (aa rfl) (zz0 (aa rfl) (ad (aF ?_))))))
  refine bL (ι := Nat) (fun j => (j : Int) ≤ n ∧ m6 l a j = true) (fun _ => _) (fun j => [cellE b4 [(.slice pV l.length cV)] 92]) (fun j => [(25, .int .i64 (j : Nat))]) (fun j => n.toNat - j) 0 ⟨by omega, rfl⟩ (Front.c Front.nil) (by repeat' constructor) rfl (fun j hi m hm => ?_)
  replace hi : (j : Int) ≤ n ∧ m6 l a j = true := hi
  replace hm : m = n.toNat - j := hm
  change Tr _ _ [cellE b4 [(.slice pV l.length cV)] 92] ([(25, .int .i64 (j : Nat))] ++ _) _
  obtain ⟨hj, hto⟩ := hi
  refine af (zz0 (bU rfl rfl) (ad (al ?_)))
  refine ar rfl ?_ ?_ <;> intro h5 <;> try simp only [bs] at h5
  ·refine bF (al (aF (af (zz0 (aa rfl) (zz0 (ab rfl) (aH (zz0 (bH rfl mm jp) ?_)))))))
   refine zz0 (aa rfl) (zz0 (aa rfl) (zz0 (ie rfl aZ aP) (zz0 (aA rfl Tryz.call45 (fun w hw => Am l pV cV a _ w (hw.slF hV') hB (hD'.mono hw.bg))) ?_)))
   refine zz0 (aa rfl) (zz0 (aL rfl rfl) (zz0 (aL rfl rfl) (zz0 (ab rfl) (zz0 (ab rfl) (aH (zz0 (aa rfl) (zz0 (cQ rfl) (ad ?_))))))))
   refine ar rfl ?_ ?_ <;> intro h6 <;> try simp only [bs] at h6
   ·have hq2 : (jo l a (u32 (j : Int))).2 = false := h6
    refine af (zz0 (ab rfl) (ad (aB (bA (ay (ay (bA (ay ?_))))))))
    refine aV Tryz.results23 rfl (fun w' hw => ?_)
    have hf := zX (show m6 l a (j + 1) = false by simp only [m6, hq2, Bool.and_false]) n.toNat (by omega)
    exact ⟨by unfold sR; rw [if_neg (by omega), hf], hw.b0⟩
   ·have hq2 : (jo l a (u32 (j : Int))).2 = true := by simpa using h6
    refine cg (aX (ac (an (zz0 (cp rfl rfl) ?_))))
    refine zz0 (aa rfl) (ad ?_)
    refine cH (j + 1) (Front.c Front.nil) (bC 18 rfl) (o := ⟨by omega, by simp only [m6, hto, hq2, Bool.and_self]⟩)
  ·refine bJ (aG (aG (bv (ac (af (zz0 (ab rfl) (ad (aB ?_))))))))
   refine aV Tryz.results23 rfl (fun w' hw => ?_)
   exact ⟨by unfold sR; rw [if_neg (by omega), show n.toNat = j by omega, hto], hw.b0⟩
end Go.Proofs.YtiajjbhcpeadfaaGreat
