/- Own rules and walks, part 4. -/
import Derived.Test.YtnmaokalpbnmaaaB3
set_option linter.unusedSimpArgs false
set_option linter.unusedVariables false
set_option linter.unusedSectionVars false
namespace Go.HL
open Go Go.RowKit Go.ChangeMaps Go.MapKept
section
variable {P : Program} {ops : Array Oper} {Q : Exit → Act → World → Prop} {N : Nat} {F : Bg} {L : List Ent} {M : Fr} {rest : List Oper} {d : Nat}
/-- An iterator over a map on its way: these keys have come. -/
structure IterOK (b : Nat) (es : Array MapEntry) (ck : Nat) (done : List UInt32) (o : Option Obj) : Prop where
  it : ∃ since seen c0, o = some (.mapIter (some b) since seen c0) ∧ (∀ x ∈ es.toList, x.born < since) ∧ since ≤ c0 ∧ since ≤ ck ∧ (∀ x ∈ es.toList, seen.contains x.born = true ↔ ∃ k ∈ done, x.key = keyV k) ∧
    (∀ k, done.getLast? = some k → c0 = ck ∧ ∃ (seen0 : Array Nat) (e : MapEntry), seen = seen0.push e.born ∧ e ∈ es.toList ∧ e.key = keyV k)
theorem mapSt {α : Type} {f : α → Value} {l : List (UInt32 × α)} {es : Array MapEntry} {ck : Nat} (h : MapIs f l es ck) : (∀ x ∈ es.toList, x.born < ck) ∧ (es.toList.map (·.born)).Nodup ∧ es.toList.Pairwise (fun x y => x.key ≠ y.key) := (stamped_iff es ck).1 h.st
theorem mem_ent {α : Type} {f : α → Value} {l : List (UInt32 × α)} {es : Array MapEntry} {ck : Nat} (h : MapIs f l es ck) {e : MapEntry} (he : e ∈ es.toList) : ∃ k x, mget l k = some x ∧ e.key = keyV k ∧ e.val = f x ∧ k ∈ l.map (·.1) := by
  obtain ⟨j, hj⟩ := List.getElem?_of_mem he
  obtain ⟨p, hp, h1, h2⟩ := h.at_ hj
  exact ⟨p.1, p.2, mget_of_mem h.nodup (List.mem_of_getElem? hp), h1, h2, List.mem_map.2 ⟨p, List.mem_of_getElem? hp, rfl⟩⟩
theorem ent_of {α : Type} {f : α → Value} {l : List (UInt32 × α)} {es : Array MapEntry} {ck : Nat} (h : MapIs f l es ck) {k : UInt32} (hk : k ∈ l.map (·.1)) : ∃ e ∈ es.toList, e.key = keyV k := by
  have : keyV k ∈ es.toList.map (·.key) := by rw [h.keys]; obtain ⟨p, hp, rfl⟩ := List.mem_map.1 hk; exact List.mem_map.2 ⟨p, hp, rfl⟩
  obtain ⟨e, he, h1⟩ := List.mem_map.1 this
  exact ⟨e, he, h1⟩
theorem IterOK.start {α : Type} {f : α → Value} {l : List (UInt32 × α)} {b : Nat} {es : Array MapEntry} {ck : Nat} (h : MapIs f l es ck) : IterOK b es ck [] (some (.mapIter (some b) ck #[] ck)) :=
  ⟨ck, #[], ck, rfl, (mapSt h).1, Nat.le_refl _, Nat.le_refl _, fun x _ => by simp, fun k hk => by simp at hk⟩
/-- What the step gives. -/
theorem next_iter {α : Type} {f : α → Value} {l : List (UInt32 × α)} {b r : Nat} {es : Array MapEntry} {ck : Nat} {done : List UInt32} {w : World} (hm : MapIs f l es ck) (hb : w.heap[b]? = some (.map es ck)) (hI : IterOK b es ck done (w.heap[r]?)) (ty : TypeId) :
    ((∀ k ∈ l.map (·.1), k ∈ done) ∧ (Instr.next (.pointer (some ⟨r, 0, none⟩)) false ty).run P w = .ok (.tuple #[.bool false]) w) ∨
    ∃ k x w1 o, (w1 = w ∨ w1 = w.drew) ∧ mget l k = some x ∧ k ∈ l.map (·.1) ∧ k ∉ done ∧ IterOK b es ck (done ++ [k]) (some o) ∧
      (Instr.next (.pointer (some ⟨r, 0, none⟩)) false ty).run P w = .ok (.tuple #[.bool true, keyV k, f x]) (setBlock w1 r o) := by
  obtain ⟨since, seen, c0, hr, hold, hsc, hsk, hl, hlast⟩ := hI.it
  rcases run_next_at (P := P) w ty r b since c0 seen es ck hr hb hold hsc with ⟨h0, hrun⟩ | ⟨e, he, w1, hal, hrun⟩
  · refine .inl ⟨fun k hk => ?_, hrun⟩
    obtain ⟨e, he, hek⟩ := ent_of hm hk
    obtain ⟨k', hk', e2⟩ := (hl e he).1 (all_seen es seen h0 e he)
    rw [hek] at e2
    rw [keyV_inj e2]; exact hk'
  · obtain ⟨hem, hes⟩ := mem_left he
    obtain ⟨k, x, hx, h1, h2, h3⟩ := mem_ent hm hem
    have hnd : k ∉ done := fun hk => by
      have := (hl e hem).2 ⟨k, hk, h1⟩
      rw [hes] at this; cases this
    refine .inr ⟨k, x, w1, _, hal, hx, h3, hnd, ⟨since, seen.push e.born, ck, rfl, hold, hsk, hsk, fun y hy => ?_, fun k' hk' => ?_⟩, by rw [← h1, ← h2]; exact hrun⟩
    · rw [contains_push, Bool.or_eq_true, hl y hy, beq_iff_eq]
      constructor
      · rintro (⟨k', q1, q2⟩ | q)
        · exact ⟨k', List.mem_append_left _ q1, q2⟩
        · obtain rfl := born_inj (mapSt hm).2.1 hy hem q
          exact ⟨k, by simp, h1⟩
      · rintro ⟨k', q1, q2⟩
        rcases List.mem_append.1 q1 with q1 | q1
        · exact .inl ⟨k', q1, q2⟩
        · right
          obtain rfl := List.mem_singleton.1 q1
          rw [entry_eq_of_key (mapSt hm).2.2 hy hem (by rw [q2, h1])]
    · simp only [List.getLast?_append, List.getLast?_singleton, Option.some_or, Option.some.injEq] at hk'
      subst hk'
      exact ⟨rfl, seen, e, rfl, hem, h1⟩
theorem entry_iter {α : Type} {f : α → Value} {l : List (UInt32 × α)} {b r : Nat} {es : Array MapEntry} {ck : Nat} {done : List UInt32} {w : World} {k : UInt32} {x : α} (hm : MapIs f l es ck) (hb : w.heap[b]? = some (.map es ck)) (hI : IterOK b es ck done (w.heap[r]?)) (hl : done.getLast? = some k) (hx : mget l k = some x) :
    (Instr.entry (.pointer (some ⟨r, 0, none⟩))).run P w = .ok (.tuple #[keyV k, f x]) w := by
  obtain ⟨since, seen, c0, hr, hold, hsc, hsk, _, hlast⟩ := hI.it
  obtain ⟨rfl, seen0, e, rfl, he, hek⟩ := hlast k hl
  obtain ⟨k', x', h0, h1, h2, h3⟩ := mem_ent hm he
  obtain rfl := keyV_inj (hek.symm.trans h1)
  rw [hx] at h0; cases h0
  rw [run_entry_at w r b since seen0 es c0 e hr hb he (mapSt hm).2.1, hek, h2]
theorem setBlock_other {w : World} {r k : Nat} {o : Obj} (h : k ≠ r) : (setBlock w r o).heap[k]? = w.heap[k]? := by
  simp [setBlock, Array.getElem?_setIfInBounds, Ne.symm h]
theorem setBlock_same {w : World} {r : Nat} {o : Obj} (h : r < w.heap.size) : (setBlock w r o).heap[r]? = some o := by
  simp [setBlock, h]
structure IterAt (w : World) (b r : Nat) (es : Array MapEntry) (ck : Nat) (done : List UInt32) : Prop where
  map : w.heap[b]? = some (.map es ck)
  it : IterOK b es ck done (w.heap[r]?)
theorem IterAt.walk {w : World} {b r : Nat} {es : Array MapEntry} {ck : Nat} {done : List UInt32} (h : IterAt w b r es ck done) : ∃ o, w.heap[r]? = some o ∧ o.isWalk = true := by
  obtain ⟨_, _, _, hr, _⟩ := h.it.it
  exact ⟨_, hr, rfl⟩
theorem IterAt.keeps {w w' : World} {b r : Nat} {es : Array MapEntry} {ck : Nat} {done : List UInt32} (h : IterAt w b r es ck done) (k : KeepsWalks w w') : IterAt w' b r es ck done := by
  obtain ⟨o, ho, hw⟩ := h.walk
  refine ⟨k.same _ _ h.map rfl, ?_⟩
  rw [k.same _ _ ho hw, ← ho]; exact h.it
theorem IterAt.grown {w w' : World} {b r : Nat} {es : Array MapEntry} {ck : Nat} {done : List UInt32} (h : IterAt w b r es ck done) (g : w.grownBy w' none) : IterAt w' b r es ck done := by
  obtain ⟨o, ho, hw⟩ := h.walk
  refine ⟨(g.block b (Array.getElem?_eq_some_iff.1 h.map).1 (by simp)).trans h.map, ?_⟩
  rw [g.block r (Array.getElem?_eq_some_iff.1 ho).1 (by simp)]; exact h.it
theorem Tr.rangeW {α : Type} {f : α → Value} {l : List (UInt32 × α)} {x : Operand} {t K e ty : TypeId} {pos : String} {after : Array Edge} {b : Nat} {es : Array MapEntry} {ck : Nat} {Ws : World} (hx : opv M x = some (.map (some b))) (hm : MapIs f l es ck) (hb : Ws.heap[b]? = some (.map es ck)) (ht : P.underlying t = some (.map K e)) (hd : Nat.ble (d + 1) N = true)
    (Kk : ∀ W1 r, Ws.grownBy W1 none → Ws.heap.size ≤ r → IterAt W1 b r es ck [] → Tr N (Bg.of0 W1) [] ((d, .pointer (some ⟨r, 0, none⟩)) :: M) (wpList P ops Q rest)) :
    Tr N (Bg.of0 Ws) [] M (wpList P ops Q (⟨some d, .range t x, ty, pos, after, none⟩ :: rest)) := by
  intro a w ha hw
  refine wpList_plain rfl fun K' hK => ?_
  have hg := hw.grown
  have hb' : w.heap[b]? = some (.map es ck) := (hg.block b (Array.getElem?_eq_some_iff.1 hb).1 (by simp)).trans hb
  have hrun := run_range_map (P := P) w t K e b es ck ht hb'
  unfold Oper.wp
  simp only [execOp, ha.eval hx, Sem.run_bind, hrun, Result.andThen_ok, Sem.run_pure, Oper.upon]
  have hlt : b < w.heap.size := (Array.getElem?_eq_some_iff.1 hb').1
  refine hK _ _ (Kk (w.alloc (.mapIter (some b) ck #[] ck)) w.heap.size ⟨hg.os, hg.tape, hg.output, ?_, fun k hk _ => ?_⟩ hg.size ⟨?_, ?_⟩ _ _ (ha.put (Nat.le_of_ble_eq_true hd)) (HpOK.start0 _))
  · have := hg.size; simp; omega
  · exact (Below.heap_alloc w _ k (Nat.lt_of_lt_of_le hk hg.size)).trans (hg.block k hk (by simp))
  · exact (Below.heap_alloc w _ b hlt).trans hb'
  · rw [World.alloc_heap_new]; exact IterOK.start hm
/-- The loop's head: 'next', and whether there was one. -/
theorem Tr.nextW {α : Type} {f : α → Value} {l : List (UInt32 × α)} {it id d1 d2 : Nat} {t1 t2 : TypeId} {p1 p2 : String} {a1 a2 : Array Edge} {b r : Nat} {es : Array MapEntry} {ck : Nat} {done : List UInt32} {Ws : World} (hx : look M it = some (.pointer (some ⟨r, 0, none⟩))) (hm : MapIs f l es ck) (hI : IterAt Ws b r es ck done)
    (hd1 : Nat.ble (d1 + 1) N = true) (hd2 : Nat.ble (d2 + 1) N = true)
    (K1 : ∀ k x W1 W2, mget l k = some x → k ∈ l.map (·.1) → k ∉ done → Ws.grownBy W1 none → W1.grownBy W2 (some r) → IterAt W1 b r es ck done → IterAt W2 b r es ck (done ++ [k]) →
      Tr N (Bg.of0 W2) [] ((d2, .bool true) :: (d1, .tuple #[.bool true, keyV k, f x]) :: M) (Q .normal))
    (K0 : (∀ k ∈ l.map (·.1), k ∈ done) → Tr N (Bg.of0 Ws) [] ((d2, .bool false) :: (d1, .tuple #[.bool false]) :: M) (Q .normal)) :
    Tr N (Bg.of0 Ws) [] M ((Code.region id #[⟨some d1, .next (.tmp it) false, t1, p1, a1, none⟩, ⟨some d2, .extract (.tmp d1) 0, t2, p2, a2, none⟩] false).wp P Q) := by
  intro a w ha hw
  have hI' := hI.grown hw.grown
  have hit := ha.eval (x := .tmp it) (v := .pointer (some ⟨r, 0, none⟩)) hx
  refine wp_region_lit (l := [_, _]) (wpList_plain rfl fun K' hK => ?_)
  rcases next_iter (P := P) hm hI'.map hI'.it t1 with ⟨h0, hrun⟩ | ⟨k, x, w1, o, hal, hx2, hkl, hkd, hI2, hrun⟩
  · unfold Oper.wp
    simp only [execOp, hit, Sem.run_bind, hrun, Result.andThen_ok, Sem.run_pure, Oper.upon]
    refine hK _ _ ?_
    exact Tr.q (QS.extract (x := .tmp d1) (vs := #[.bool false]) (by show look _ d1 = _; rw [look_cons, if_pos rfl]) rfl) hd2 (Tr.nil (K0 h0)) _ _ (ha.put (Nat.le_of_ble_eq_true hd1)) hw
  · unfold Oper.wp
    simp only [execOp, hit, Sem.run_bind, hrun, Result.andThen_ok, Sem.run_pure, Oper.upon]
    refine hK _ _ ?_
    obtain ⟨o0, ho0, _⟩ := hI'.walk
    have hrl : r < w.heap.size := (Array.getElem?_eq_some_iff.1 ho0).1
    have hw1 : w1.heap = w.heap := by rcases hal with rfl | rfl <;> rfl
    have hg1 : w.grownBy (setBlock w1 r o) (some r) := by
      rcases hal with rfl | rfl <;> exact ⟨rfl, rfl, rfl, by simp [setBlock], fun i _ hi => setBlock_other (fun e1 => hi (by rw [e1]))⟩
    have hne : b ≠ r := fun e => by
      obtain ⟨_, _, _, hr, _⟩ := hI'.it.it
      rw [← e, hI'.map] at hr; cases hr
    have hI3 : IterAt (setBlock w1 r o) b r es ck (done ++ [k]) := by
      refine ⟨?_, ?_⟩
      · rw [setBlock_other hne, hw1]; exact hI'.map
      · rw [setBlock_same (by rw [hw1]; exact hrl)]; exact hI2
    exact Tr.q (QS.extract (x := .tmp d1) (vs := #[.bool true, keyV k, f x]) (by show look _ d1 = _; rw [look_cons, if_pos rfl]) rfl) hd2 (Tr.nil (K1 k x w (setBlock w1 r o) hx2 hkl hkd hw.grown hg1 hI' hI3)) _ _ (ha.put (Nat.le_of_ble_eq_true hd1)) (HpOK.start0 _)
theorem QS.entryW {α : Type} {f : α → Value} {l : List (UInt32 × α)} {x : Operand} {dst : Option Tmp} {ty : TypeId} {pos : String} {after : Array Edge} {g : Option (Nat × Bool)} {b r : Nat} {es : Array MapEntry} {ck : Nat} {done : List UInt32} {Ws : World} {k : UInt32} {y : α} (hx : opv M x = some (.pointer (some ⟨r, 0, none⟩))) (hm : MapIs f l es ck) (hI : IterAt Ws b r es ck done) (hl : done.getLast? = some k) (hy : mget l k = some y) :
    QS P N (Bg.of0 Ws) [] M ⟨dst, .entry x, ty, pos, after, g⟩ (.tuple #[keyV k, f y]) :=
  QS.of_run fun A w ha hw => by
    have hI' := hI.grown hw.grown
    simp [execOp, ha.eval hx, entry_iter (P := P) hm hI'.map hI'.it hl hy]
end
theorem SeqStopsK.later {α : Type} {Fe : Fence} {n : Nat} {P : Program} {g : Nat} {lb : Array Value} {encs : α → Array Value} {Kp : World → World → Prop} {S Sp : List α → Prop} {Nm : Nat} {w w' : World} (h : SeqStopsK Fe n P g lb encs Kp S Sp Nm w) (hb : Below w.heap.size w w') : SeqStopsK Fe n P g lb encs Kp S Sp Nm w' :=
  fun l J Jx W hW h1 h2 h3 h4 => h l J Jx W (hb.trans (hW.mono hb.size)) h1 h2 h3 h4
section
variable {P : Program} {Q : Exit → Act → World → Prop} {N : Nat} {F : Bg} {L : List Ent} {M : Fr}
theorem Tr.rangeFK {α ι : Type} {gO : Operand} {p d rid : Nat} {ty : TypeId} {pos : String} {after : Array Edge} {body : Code} {gf : Nat} {lb : List Value} (enc : α → Value) (S : List α → Prop) (okI : List α → ι → Prop) (L' : ι → List Ent) (Nm : Nat) (j0 : ι)
    (hF0 : F.dr = 0) (hM : look M mk0 = some undef) (hg : opv M gO = some (.func (.func gf) #[] lb.toArray)) (eg : ∀ (args : Array Value) (w : World), (callFunc gf args).run P w = .ok (.enter gf args) w)
    (hp : Nat.ble (p + 1) N = true) (hd : Nat.ble (d + 1) N = true) (hL : Pick L (L' j0)) (h0 : okI [] j0) (hc : ∀ j, CellsOnly (L' j))
    (hseq : ∀ w F1, F.le F1 → HpOK F1 (L' j0) w → SeqStopsK Fence.wide 2 P gf lb.toArray (fun x => #[enc x]) KeepsWalks S (fun _ => True) Nm w)
    (hbody : ∀ pre x j l0 F1, F.le F1 → okI pre j → pre.length < Nm → Tr N F1 (L' j) ((d, enc x) :: (p, enc x) :: M) (body.wpIn (Fence.wide.inRound l0) 1 P (fun e a W' => e = .normal ∧ ∃ j', okI (pre ++ [x]) j' ∧ HpOK F1 (L' j') W')))
    (hdone : ∀ xs j D F1, F.le F1 → S xs → okI xs j → Tr N F1 (markE D :: L' j) (dropMk M ++ [(mk0 + 1 + D, undef)]) (Q .normal)) :
    Tr N F L M ((Code.rangeFunc gO #[p] (Code.region rid #[⟨some d, .assign (.tmp p), ty, pos, after, none⟩] false) body).wp P Q) := by
  intro a w ha hw
  have ha0 := ha.defers0 hM
  obtain ⟨F1, e1, h1, full1⟩ := (hL.heap hw).freeze
  have hF1 : F1.dr = 0 := e1.dr.trans hF0
  have hB : ∀ b o, F1.blk b = some o → b < w.heap.size := fun b o e => (Array.getElem?_eq_some_iff.1 (h1.bg b o e)).1
  refine (wpIn_wide (n := 3)).1 ?_
  refine wpIn_rangeFunc_ownF (n := 3) rfl (by omega) (ha.eval hg) trivial eg (hseq w F1 e1 h1) KeepsWalks.trans (fun W l o o' hl ho hc hw => KeepsWalks.putObj o' ho hw) (Below.refl _ _) (fun _ => rfl)
    (fun pre W => ∃ j, okI pre j ∧ HpOK F1 (L' j) W) (fun _ _ _ => False) (fun pre W W' row ⟨j, k1, k2⟩ hgr hr => ⟨j, k1, k2.turned (hc j) hF1 hB hgr hr⟩) (fun _ _ _ _ _ h _ _ => h) ⟨j0, h0, h1⟩
    (fun x => { tmps := (a.tmps.setIfInBounds p (enc x)).setIfInBounds d (enc x), defers := [] }) ?_ ?_ ?_ (fun _ _ _ _ _ _ h _ => h.elim)
  · intro l x W K hK
    refine wpIn_region_lit (l := [⟨some d, .assign (.tmp p), ty, pos, after, none⟩]) (wpListIn_plain rfl fun K' hK' => ?_)
    refine ⟨fun _ _ => trivial, ?_⟩
    rw [Oper.semAt_eq _ _ _ (fun c h => by cases h)]
    have hpN : p < a.tmps.size := by rw [ha.size]; exact Nat.le_of_ble_eq_true hp
    simp only [execOp, Sem.run_pure, Oper.uponIn, Act.put, Act.eval]
    refine hK' _ _ ?_
    show wpListIn _ _ _ _ _ [] _ W
    unfold wpListIn
    show K _ W
    have e : ((#[p].zip #[enc x]).foldl (fun t (pv : Nat × Value) => t.setIfInBounds pv.1 pv.2) a.tmps) = a.tmps.setIfInBounds p (enc x) := by simp
    have e2 : (a.tmps.setIfInBounds p (enc x)).getD p undef = enc x := by simp [Array.getD_eq_getD_getElem?, hpN]
    have e3 : ((#[p].zip #[enc x]).foldl (fun t (pv : Nat × Value) => t.setIfInBounds pv.1 pv.2) a.tmps).getD p undef = enc x := by rw [e]; exact e2
    simp only [e] at e3 ⊢
    first
      | (rw [e3]; exact hK)
      | (simp only [e2]; exact hK)
      | (simpa [e2] using hK)
  · rintro l pre x W ⟨j, k1, k2⟩ hlen
    obtain ⟨F2, e2, h2, hn2, full2⟩ := k2.freezeN
    have ht := hbody pre x j l F2 (e1.trans e2) k1 hlen
    have hfr : FrOK N ((d, enc x) :: (p, enc x) :: M) { tmps := (a.tmps.setIfInBounds p (enc x)).setIfInBounds d (enc x), defers := [] } := by
      have hz := (ha.put (v := enc x) (Nat.le_of_ble_eq_true hp)).put (v := enc x) (Nat.le_of_ble_eq_true hd)
      have hz' : ((a.put (some p) (enc x)).put (some d) (enc x)) = { tmps := (a.tmps.setIfInBounds p (enc x)).setIfInBounds d (enc x), defers := a.defers } := rfl
      rw [hz', ha0] at hz
      exact hz
    refine wpIn_mono (ht _ W hfr h2) fun e a' W' hq => ?_
    obtain ⟨rfl, j', k3, k4⟩ := hq
    have keep : ∀ k o, W.heap[k]? = some o → k ∉ blks (L' j) → W'.heap[k]? = some o := fun k o hk hn => k4.bg k o (full2 k o hn hk)
    have hsz : W.heap.size ≤ W'.heap.size := by rw [← hn2]; exact k4.n
    refine ⟨⟨hsz, fun k o hk ho => keep k o hk fun hm => ?_⟩, ⟨hsz, fun k o hk ho => keep k o hk fun hm => ?_⟩, ⟨j', k3, k4.weaken e2⟩⟩
    · obtain ⟨o2, ho2, hc2⟩ := ent_obj h2 (hc j) hm
      rw [hk] at ho2; cases ho2; rw [ho] at hc2; cases hc2
    · obtain ⟨o2, ho2, hc2⟩ := ent_obj h2 (hc j) hm
      rw [hk] at ho2; cases ho2
      cases o <;> simp_all [Obj.isCells, Obj.isWalk]
  · rintro D xs W hD hS ⟨j, k1, k2⟩ hK
    have hDl : D < W.heap.size := (Array.getElem?_eq_some_iff.1 hK).1
    have hDn : D ∉ blks (L' j) := fun hm => by
      obtain ⟨o, ho, hcc⟩ := ent_obj k2 (hc j) hm
      rw [hK] at ho; cases ho; cases hcc
    refine hdone xs j D F1 e1 hS k1 _ W (ha.marked' ha0) ⟨k2.os, k2.tape, k2.out, k2.n, k2.dr, k2.bg, fun e he => ?_, ?_, ?_, ?_⟩
    · rcases List.mem_cons.1 he with rfl | he
      · exact hK
      · exact k2.ent e he
    · exact List.nodup_cons.2 ⟨hDn, k2.nodup⟩
    · intro b hb
      rcases List.mem_cons.1 hb with rfl | hb
      · exact hDl
      · exact k2.lt b hb
    · intro b hb
      rcases List.mem_cons.1 hb with rfl | hb
      · refine ⟨?_, Nat.le_trans (Nat.le_trans F1.lo_le h1.n) hD⟩
        cases e : F1.blk b with
        | none => rfl
        | some o => have := hB b o e; omega
      · exact k2.sep b hb
theorem Tr.retM1 {D : Nat} {fn : Func} {R : Ending → World → Prop} {t : Tmp} {v : Value} {L1 : List Ent} (hr : fn.results = #[.tmp t]) (hv : look M t = some v) (hD : look M (mk0 + 1 + D) = some undef) (hm : Del (markE D) L L1)
    (h : ∀ w, HpOK F L1 w → R (.returned v) w) : Tr N F L M (retOnly (bodyPostM Fence.wide 3 P fn R) .ret) := by
  intro a w ha hw
  refine ⟨rfl, ?_⟩
  have hf := hw.front hm
  have hK : w.heap[D]? = some (.deferred (some [])) := hf.ent _ (.head _)
  show LeavesInM Fence.wide 3 P fn a.tmps R a.defers .returning w
  rw [ha.defersD D hD]
  refine ⟨by simp, .inl ⟨_, _, rfl, run_takeDeferred hK, ?_⟩⟩
  have h2 : HpOK F (⟨some D, fun _ => True⟩ :: L1) (w.putObj D (.deferred none)) :=
    HpOK.set (p := fun o => o = some (.deferred (some []))) (p' := fun _ => True) hf (.here _) rfl rfl rfl (grownBy_putObj' w D _).size (Nat.le_refl _) (fun k hk hkb => (grownBy_putObj' w D _).block k hk (fun e => hkb (Option.some.inj e))) trivial
  have h3 : HpOK F L1 (w.putObj D (.deferred none)) := h2.mem (List.sublist_cons_self _ _)
  exact ⟨_, results_tmp hr a.tmps P _, by rw [ha.val t v hv]; exact h _ h3⟩
end
theorem keys_all {α : Type} {l : List (UInt32 × α)} {done : List UInt32} (hn : (l.map (·.1)).Nodup) (h1 : done.Nodup) (h2 : ∀ k ∈ done, k ∈ l.map (·.1)) (h3 : ∀ k ∈ l.map (·.1), k ∈ done) : done.Perm (l.map (·.1)) :=
  (List.perm_ext_iff_of_nodup h1 hn).2 fun a => ⟨h2 a, h3 a⟩
theorem nodup_len : ∀ {l l' : List UInt32}, l.Nodup → (∀ x ∈ l, x ∈ l') → l.length ≤ l'.length
  | [], _, _, _ => Nat.zero_le _
  | x :: l, l', hn, hs => by
    have hx : x ∈ l' := hs x (.head _)
    have h1 := List.nodup_cons.1 hn
    have h2 := nodup_len (l' := l'.erase x) h1.2 fun y hy => (List.mem_erase_of_ne (fun (e : y = x) => h1.1 (by rw [← e]; exact hy))).2 (hs y (.tail _ hy))
    rw [List.length_erase_of_mem hx] at h2
    have := List.length_pos_of_mem hx
    simp only [List.length_cons]
    omega
theorem keys_lt {α : Type} {l : List (UInt32 × α)} {done : List UInt32} {k : UInt32} (h1 : done.Nodup) (h2 : ∀ k ∈ done, k ∈ l.map (·.1)) (hk : k ∈ l.map (·.1)) (hd : k ∉ done) : done.length < l.length := by
  have h3 : (k :: done).Nodup := List.nodup_cons.2 ⟨hd, h1⟩
  have := nodup_len (l := k :: done) (l' := l.map (·.1)) h3 fun x hx => by
    rcases List.mem_cons.1 hx with rfl | hx
    · exact hk
    · exact h2 x hx
  simp at this
  omega
theorem nodup_snoc {done : List UInt32} {k : UInt32} (h1 : done.Nodup) (hd : k ∉ done) : (done ++ [k]).Nodup := by
  rw [List.nodup_append]
  exact ⟨h1, by simp, fun a ha b hb => by rw [List.mem_singleton.1 hb]; rintro rfl; exact hd ha⟩
section
open Go.Sort
def srtU (l : List UInt32) : List UInt32 := l.mergeSort fun x y => decide (x ≤ y)
theorem srtU_perm (l : List UInt32) : (srtU l).Perm l := List.mergeSort_perm _ _
theorem srtU_len (l : List UInt32) : (srtU l).length = l.length := (srtU_perm l).length_eq
theorem le_tr (a b c : UInt32) : decide (a ≤ b) = true → decide (b ≤ c) = true → decide (a ≤ c) = true := by
  simp only [decide_eq_true_eq, UInt32.le_iff_toNat_le]; omega
theorem srtU_sorted (l : List UInt32) : (srtU l).Pairwise (fun x y => x ≤ y) := by
  have := List.pairwise_mergeSort (le := fun x y : UInt32 => decide (x ≤ y)) le_tr (fun a b => by simp only [Bool.or_eq_true, decide_eq_true_eq, UInt32.le_iff_toNat_le]; omega) l
  exact this.imp (fun h => of_decide_eq_true h)
theorem sorted_eq {l l' : List UInt32} (hp : l.Perm l') (h : l.Pairwise (fun x y => x ≤ y)) (h' : l'.Pairwise (fun x y => x ≤ y)) : l = l' :=
  hp.eq_of_pairwise (fun a b _ _ h1 h2 => by rw [UInt32.le_iff_toNat_le] at h1 h2; exact UInt32.toNat_inj.1 (by omega)) h h'
theorem srtU_of_perm {l l' : List UInt32} (h : l.Perm l') : srtU l = srtU l' :=
  sorted_eq ((srtU_perm l).trans (h.trans (srtU_perm l').symm)) (srtU_sorted l) (srtU_sorted l')
end
end Go.HL
namespace Go.Proofs.Ytnmaokalpbnmaaa
open Go Go.HL Go.RowKit
theorem sort_srt (l : List UInt32) : (Go.Sort.sort ltW l.toArray).toList = srtU l := by
 rw [sort_u32, List.toList_toArray]
 unfold srtU
 congr 1
 funext x y
 simp only [ltW]
 by_cases h : x ≤ y
 ·rw [decide_eq_true h, decide_eq_false (by rw [UInt32.lt_iff_toNat_lt]; rw [UInt32.le_iff_toNat_le] at h; omega)]; rfl
 ·rw [decide_eq_false h, decide_eq_true (by rw [UInt32.lt_iff_toNat_lt]; rw [UInt32.le_iff_toNat_le] at h; omega)]; rfl
set_option maxRecDepth 100000 in
set_option maxHeartbeats 2000000 in
theorem keys_bool (b : Nat) (w : World) :
  Calls Try.prog 77 #[.map (some b)] w (fun e w' => ∃ i : Nat, e = .returned (.func (.func 95) #[] #[.pointer (some ⟨i, 0, none⟩)]) ∧ Ext w w' ∧ CellsIn (newHp w w') i [.map (some b)]) := by
 refine enter Try.func77 rfl Try.ntmps77 rfl ?_
 refine Tr.seq (Tr.region ?_)
 refine Tr.box rfl rfl rfl (fun b1 => ?_)
 refine Tr.q (QS.assign rfl) rfl ?_
 refine Tr.nil (Tr.thenN (Tr.seq (Tr.region ?_)))
 refine Tr.q (QS.makeFunc rfl rfl) rfl ?_
 refine Tr.q (QS.assign rfl) rfl ?_
 refine Tr.nil (Tr.thenN (Tr.ret ?_))
 refine Tr.ret1 Try.results77 rfl (fun w' hw => ?_)
 exact ⟨b1, rfl, hw.below (Bg.le.refl _), hw.cellNew rfl (by repeat constructor)⟩
set_option maxRecDepth 100000 in
set_option maxHeartbeats 2000000 in
theorem keys1_bool {α : Type} {f : α → Value} {l : List (UInt32 × α)} (b Bm : Nat) (es : Array MapEntry) (ck : Nat) (hmI : MapIs f l es ck) (w : World) (c1 : CellsIn (hp w) Bm [.map (some b)]) (hb : w.heap[b]? = some (.map es ck)) (lv B : Nat) (hB : B ≤ w.heap.size) (J Jx : List UInt32 → World → Prop) (hJ : AbidesFrom B J) (hJx : AbidesFrom B Jx) (hY : ∀ pre x W1, J pre W1 → pre.length < l.length → YieldAt Fence.wide 1 Try.prog lv #[.int .u32 x.toNat] W1 fun e W' => (e = .returned (.bool true) ∧ J (pre ++ [x]) W' ∧ KeepsWalks W1 W') ∨ (e = .returned (.bool false) ∧ Jx (pre ++ [x]) W')) (h0 : J [] w) :
  Calls Try.prog 95 #[.func (.yield lv) #[] #[], .pointer (some ⟨Bm, 0, none⟩)] w (fun e W' => (∃ v, e = .returned v) ∧ ((∃ xs, xs.Perm (l.map (·.1)) ∧ J xs W') ∨ (∃ pre, True ∧ Jx pre W'))) := by
 have c1' : CellsIn (Bg.of0 w).blk Bm [.map (some b)] := c1
 refine enter0 Try.func95 rfl Try.ntmps95 rfl ?_
 refine Tr.seq (Tr.region ?_)
 refine Tr.q (QS.loadCF rfl c1' Try.isAgg74 (by rfl)) rfl ?_
 refine Tr.rangeW rfl hmI hb Try.underlying74 rfl (fun W1 r hg1 hr1 hI1 => ?_)
 refine Tr.nil (Tr.thenN (Tr.block ?_))
 refine Tr.loop (ι := World × List UInt32) (fun ⟨Ws, done⟩ => IterAt Ws b r es ck done ∧ done.Nodup ∧ (∀ k ∈ done, k ∈ l.map (·.1)) ∧ J done Ws) (fun ⟨Ws, done⟩ => Bg.of0 Ws) (fun ⟨Ws, done⟩ => []) (fun ⟨Ws, done⟩ => []) (fun ⟨Ws, done⟩ => l.length - done.length) (W1, []) ⟨hI1, List.nodup_nil, fun k h => (by cases h), hJ [] w W1 none h0 hg1 (fun r e => by cases e)⟩ Front.nil (by repeat' constructor) rfl (fun i hi m hm => ?_)
 obtain ⟨Ws, done⟩ := i
 replace hi : IterAt Ws b r es ck done ∧ done.Nodup ∧ (∀ k ∈ done, k ∈ l.map (·.1)) ∧ J done Ws := hi
 replace hm : m = l.length - done.length := hm
 change Tr _ (Bg.of0 Ws) [] ([] ++ _) _
 obtain ⟨q1, q2, q3, q4⟩ := hi
 refine Tr.seq ?_
 refine Tr.nextW (l := l) rfl hmI q1 rfl rfl (fun k x W2 W3 hx2 hk1 hk2 g1 g2 i1 i2 => ?_) (fun hall => ?_)
 ·skip
  have hlen : done.length < l.length := keys_lt q2 q3 hk1 hk2
  have hJ3 : J done W3 := hJ done W2 W3 (some r) (hJ done Ws W2 none q4 g1 (fun r e => by cases e)) g2 (fun r' e => by cases e; exact ⟨by omega, i1.walk⟩)
  refine Tr.thenN (Tr.seq ?_)
  refine Tr.cond rfl (fun h1 => ?_) (fun h1 => ?_)
  ·try simp only [bs] at h1
   refine Tr.skip (Tr.thenN (Tr.block (Tr.seq (Tr.region ?_))))
   refine Tr.q (QS.entryW rfl hmI i2 (by simp) hx2) rfl ?_
   refine Tr.q (QS.extract rfl rfl) rfl ?_
   refine Tr.q (QS.assign rfl) rfl ?_
   refine Tr.nil (Tr.thenN (Tr.seq ?_))
   refine Tr.yield (x := k) (fun x : UInt32 => .int .u32 x.toNat) rfl rfl rfl rfl hJ3 hJ (fun W4 h => hY done k W4 h hlen) rfl rfl rfl rfl (fun W4 W' y1 y2 y3 => ?_) (fun W' y1 => ?_)
   ·skip
    refine Tr.thenN ?_
    refine Tr.cond rfl (fun h2 => ?_) (fun h2 => ?_)
    ·try simp only [bs] at h2
     first | contradiction | (exfalso; omega) | simp_all
    ·try simp only [bs] at h2
     refine Tr.skip (Tr.inN (Tr.thenN ?_))
     have hdl : (done ++ [k]).length = done.length + 1 := by simp
     apply Tr.again (W', done ++ [k])
     ·exact rfl
     ·exact Front.nil
     ·exact SubX.dropN 9 (by kernel_rfl) rfl
     ·exact (by repeat' constructor)
     ·exact ⟨(i2.grown y1.grown).keeps y2, nodup_snoc q2 hk2, fun j hj => (List.mem_append.1 hj).elim (q3 j) (fun h => (List.mem_singleton.1 h) ▸ hk1), y3⟩
     ·exact (by show l.length - (done ++ [k]).length < m; omega)
   ·skip
    refine Tr.thenN ?_
    refine Tr.cond rfl (fun h3 => ?_) (fun h3 => ?_)
    ·try simp only [bs] at h3
     refine Tr.ret ?_
     refine Tr.inR ?_
     refine Tr.thenR ?_
     refine Tr.inR ?_
     refine Tr.ret0 Try.results95 (fun w' hw => ?_)
     exact ⟨⟨_, rfl⟩, .inr ⟨_, trivial, hJx _ W' _ none y1 hw.grown (fun r e => by cases e)⟩⟩
    ·try simp only [bs] at h3
     first | contradiction | (exfalso; omega) | simp_all
  ·try simp only [bs] at h1
   first | contradiction | (exfalso; omega) | simp_all
 ·skip
  refine Tr.thenN (Tr.seq ?_)
  refine Tr.cond rfl (fun h4 => ?_) (fun h4 => ?_)
  ·try simp only [bs] at h4
   first | contradiction | (exfalso; omega) | simp_all
  ·try simp only [bs] at h4
   refine Tr.exit ?_
   refine Tr.thenE (Tr.thenE (Tr.inHit ?_))
   refine Tr.ret0n Try.results95 (fun w' hw => ?_)
   exact ⟨⟨_, rfl⟩, .inl ⟨done, keys_all hmI.nodup q2 q3 hall, hJ done Ws _ none q4 hw.grown (fun r e => by cases e)⟩⟩
theorem keys_stops_bool {α : Type} {f : α → Value} {l : List (UInt32 × α)} (b Bm : Nat) (w : World) (hm : MapIn (hp w) b f l) (c1 : CellsIn (hp w) Bm [.map (some b)]) :
  SeqStopsK Fence.wide 2 Try.prog 95 [.pointer (some ⟨Bm, 0, none⟩)].toArray (fun x : UInt32 => #[.int .u32 x.toNat]) KeepsWalks (fun xs => xs.Perm (l.map (·.1))) (fun _ => True) l.length w := by
 obtain ⟨es, ck, hb, hm⟩ := hm
 intro lv J Jx W hBel hJ hJx hY h0
 have hle : Hp.le (hp w) (hp W) := fun k o e => (hBel.block k (Array.getElem?_eq_some_iff.1 (show w.heap[k]? = some o from e)).1).trans e
 exact callsIn_wide.2 (keys1_bool b Bm es ck hm W (c1.mono hle) (hle b _ hb) lv W.heap.size (Nat.le_refl _) J Jx hJ hJx hY h0)
set_option maxRecDepth 100000 in
set_option maxHeartbeats 2000000 in
theorem keys_ins (b : Nat) (w : World) :
  Calls Try.prog 46 #[.map (some b)] w (fun e w' => ∃ i : Nat, e = .returned (.func (.func 80) #[] #[.pointer (some ⟨i, 0, none⟩)]) ∧ Ext w w' ∧ CellsIn (newHp w w') i [.map (some b)]) := by
 refine enter Try.func46 rfl Try.ntmps46 rfl ?_
 refine Tr.seq (Tr.region ?_)
 refine Tr.box rfl rfl rfl (fun b1 => ?_)
 refine Tr.q (QS.assign rfl) rfl ?_
 refine Tr.nil (Tr.thenN (Tr.seq (Tr.region ?_)))
 refine Tr.q (QS.makeFunc rfl rfl) rfl ?_
 refine Tr.q (QS.assign rfl) rfl ?_
 refine Tr.nil (Tr.thenN (Tr.ret ?_))
 refine Tr.ret1 Try.results46 rfl (fun w' hw => ?_)
 exact ⟨b1, rfl, hw.below (Bg.le.refl _), hw.cellNew rfl (by repeat constructor)⟩
set_option maxRecDepth 100000 in
set_option maxHeartbeats 2000000 in
theorem keys1_ins {α : Type} {f : α → Value} {l : List (UInt32 × α)} (b Bm : Nat) (es : Array MapEntry) (ck : Nat) (hmI : MapIs f l es ck) (w : World) (c1 : CellsIn (hp w) Bm [.map (some b)]) (hb : w.heap[b]? = some (.map es ck)) (lv B : Nat) (hB : B ≤ w.heap.size) (J Jx : List UInt32 → World → Prop) (hJ : AbidesFrom B J) (hJx : AbidesFrom B Jx) (hY : ∀ pre x W1, J pre W1 → pre.length < l.length → YieldAt Fence.wide 1 Try.prog lv #[.int .u32 x.toNat] W1 fun e W' => (e = .returned (.bool true) ∧ J (pre ++ [x]) W' ∧ KeepsWalks W1 W') ∨ (e = .returned (.bool false) ∧ Jx (pre ++ [x]) W')) (h0 : J [] w) :
  Calls Try.prog 80 #[.func (.yield lv) #[] #[], .pointer (some ⟨Bm, 0, none⟩)] w (fun e W' => (∃ v, e = .returned v) ∧ ((∃ xs, xs.Perm (l.map (·.1)) ∧ J xs W') ∨ (∃ pre, True ∧ Jx pre W'))) := by
 have c1' : CellsIn (Bg.of0 w).blk Bm [.map (some b)] := c1
 refine enter0 Try.func80 rfl Try.ntmps80 rfl ?_
 refine Tr.seq (Tr.region ?_)
 refine Tr.q (QS.loadCF rfl c1' Try.isAgg73 (by rfl)) rfl ?_
 refine Tr.rangeW rfl hmI hb Try.underlying73 rfl (fun W1 r hg1 hr1 hI1 => ?_)
 refine Tr.nil (Tr.thenN (Tr.block ?_))
 refine Tr.loop (ι := World × List UInt32) (fun ⟨Ws, done⟩ => IterAt Ws b r es ck done ∧ done.Nodup ∧ (∀ k ∈ done, k ∈ l.map (·.1)) ∧ J done Ws) (fun ⟨Ws, done⟩ => Bg.of0 Ws) (fun ⟨Ws, done⟩ => []) (fun ⟨Ws, done⟩ => []) (fun ⟨Ws, done⟩ => l.length - done.length) (W1, []) ⟨hI1, List.nodup_nil, fun k h => (by cases h), hJ [] w W1 none h0 hg1 (fun r e => by cases e)⟩ Front.nil (by repeat' constructor) rfl (fun i hi m hm => ?_)
 obtain ⟨Ws, done⟩ := i
 replace hi : IterAt Ws b r es ck done ∧ done.Nodup ∧ (∀ k ∈ done, k ∈ l.map (·.1)) ∧ J done Ws := hi
 replace hm : m = l.length - done.length := hm
 change Tr _ (Bg.of0 Ws) [] ([] ++ _) _
 obtain ⟨q1, q2, q3, q4⟩ := hi
 refine Tr.seq ?_
 refine Tr.nextW (l := l) rfl hmI q1 rfl rfl (fun k x W2 W3 hx2 hk1 hk2 g1 g2 i1 i2 => ?_) (fun hall => ?_)
 ·skip
  have hlen : done.length < l.length := keys_lt q2 q3 hk1 hk2
  have hJ3 : J done W3 := hJ done W2 W3 (some r) (hJ done Ws W2 none q4 g1 (fun r e => by cases e)) g2 (fun r' e => by cases e; exact ⟨by omega, i1.walk⟩)
  refine Tr.thenN (Tr.seq ?_)
  refine Tr.cond rfl (fun h1 => ?_) (fun h1 => ?_)
  ·try simp only [bs] at h1
   refine Tr.skip (Tr.thenN (Tr.block (Tr.seq (Tr.region ?_))))
   refine Tr.q (QS.entryW rfl hmI i2 (by simp) hx2) rfl ?_
   refine Tr.q (QS.extract rfl rfl) rfl ?_
   refine Tr.q (QS.assign rfl) rfl ?_
   refine Tr.nil (Tr.thenN (Tr.seq ?_))
   refine Tr.yield (x := k) (fun x : UInt32 => .int .u32 x.toNat) rfl rfl rfl rfl hJ3 hJ (fun W4 h => hY done k W4 h hlen) rfl rfl rfl rfl (fun W4 W' y1 y2 y3 => ?_) (fun W' y1 => ?_)
   ·skip
    refine Tr.thenN ?_
    refine Tr.cond rfl (fun h2 => ?_) (fun h2 => ?_)
    ·try simp only [bs] at h2
     first | contradiction | (exfalso; omega) | simp_all
    ·try simp only [bs] at h2
     refine Tr.skip (Tr.inN (Tr.thenN ?_))
     have hdl : (done ++ [k]).length = done.length + 1 := by simp
     apply Tr.again (W', done ++ [k])
     ·exact rfl
     ·exact Front.nil
     ·exact SubX.dropN 9 (by kernel_rfl) rfl
     ·exact (by repeat' constructor)
     ·exact ⟨(i2.grown y1.grown).keeps y2, nodup_snoc q2 hk2, fun j hj => (List.mem_append.1 hj).elim (q3 j) (fun h => (List.mem_singleton.1 h) ▸ hk1), y3⟩
     ·exact (by show l.length - (done ++ [k]).length < m; omega)
   ·skip
    refine Tr.thenN ?_
    refine Tr.cond rfl (fun h3 => ?_) (fun h3 => ?_)
    ·try simp only [bs] at h3
     refine Tr.ret ?_
     refine Tr.inR ?_
     refine Tr.thenR ?_
     refine Tr.inR ?_
     refine Tr.ret0 Try.results80 (fun w' hw => ?_)
     exact ⟨⟨_, rfl⟩, .inr ⟨_, trivial, hJx _ W' _ none y1 hw.grown (fun r e => by cases e)⟩⟩
    ·try simp only [bs] at h3
     first | contradiction | (exfalso; omega) | simp_all
  ·try simp only [bs] at h1
   first | contradiction | (exfalso; omega) | simp_all
 ·skip
  refine Tr.thenN (Tr.seq ?_)
  refine Tr.cond rfl (fun h4 => ?_) (fun h4 => ?_)
  ·try simp only [bs] at h4
   first | contradiction | (exfalso; omega) | simp_all
  ·try simp only [bs] at h4
   refine Tr.exit ?_
   refine Tr.thenE (Tr.thenE (Tr.inHit ?_))
   refine Tr.ret0n Try.results80 (fun w' hw => ?_)
   exact ⟨⟨_, rfl⟩, .inl ⟨done, keys_all hmI.nodup q2 q3 hall, hJ done Ws _ none q4 hw.grown (fun r e => by cases e)⟩⟩
theorem keys_stops_ins {α : Type} {f : α → Value} {l : List (UInt32 × α)} (b Bm : Nat) (w : World) (hm : MapIn (hp w) b f l) (c1 : CellsIn (hp w) Bm [.map (some b)]) :
  SeqStopsK Fence.wide 2 Try.prog 80 [.pointer (some ⟨Bm, 0, none⟩)].toArray (fun x : UInt32 => #[.int .u32 x.toNat]) KeepsWalks (fun xs => xs.Perm (l.map (·.1))) (fun _ => True) l.length w := by
 obtain ⟨es, ck, hb, hm⟩ := hm
 intro lv J Jx W hBel hJ hJx hY h0
 have hle : Hp.le (hp w) (hp W) := fun k o e => (hBel.block k (Array.getElem?_eq_some_iff.1 (show w.heap[k]? = some o from e)).1).trans e
 exact callsIn_wide.2 (keys1_ins b Bm es ck hm W (c1.mono hle) (hle b _ hb) lv W.heap.size (Nat.le_refl _) J Jx hJ hJx hY h0)
set_option maxRecDepth 100000 in
set_option maxHeartbeats 2000000 in
theorem appendSeq_any (g : Nat) (lb : List Value) (keys : List UInt32) (Nm : Nat) (hN : Nm ≤ 1000000) (eg : ∀ (args : Array Value) (w : World), (callFunc g args).run Try.prog w = .ok (.enter g args) w) (w : World) (hseq : SeqStopsK Fence.wide 2 Try.prog g lb.toArray (fun x : UInt32 => #[.int .u32 x.toNat]) KeepsWalks (fun xs => xs.Perm keys) (fun _ => True) Nm w) :
  Calls Try.prog 96 #[.slice none 0 0, .func (.func g) #[] lb.toArray] w (fun e w' => ∃ i : Value × List UInt32, e = .returned i.1 ∧ Below w.heap.size w w' ∧ NewEnts w w' [rowE i.1 39 encU32 i.2] ∧ i.2.Perm keys) := by
 refine enterM Try.func96 rfl Try.ntmps96 rfl ?_
 refine Tr.seq (Tr.region ?_)
 refine Tr.box rfl rfl rfl (fun b1 => ?_)
 refine Tr.q (QS.assign rfl) rfl ?_
 refine Tr.nil (Tr.thenN (Tr.seq (Tr.seq (Tr.region ?_))))
 refine Tr.q (QS.move rfl) rfl ?_
 refine Tr.nil (Tr.thenN (Tr.block ?_))
 refine Tr.ownNil 39 encU32 ?_
 refine Tr.rangeFK (α := UInt32) (ι := Value × List UInt32) (lb := lb) (fun x => .int .u32 x.toNat) (fun xs => xs.Perm keys) (fun pre j => j.2 = pre) (fun j => [cellE b1 [j.1] 23, rowE j.1 39 encU32 j.2]) Nm (.slice none 0 0, []) rfl rfl rfl eg rfl rfl (by repeat' constructor) rfl (fun j => .cell (.row .nil)) ?_ ?_ ?_
 ·exact fun w2 F1 hf h1 => SeqStopsK.later hseq (h1.below0 hf)
 ·intro pre x j l0 F1 hF1 hok hlen
  obtain ⟨V, xs⟩ := j
  replace hok : xs = pre := hok
  subst hok
  change Tr _ _ [cellE b1 [V] 23, rowE V 39 encU32 xs] _ _
  refine Tr.blockIn ?_
  refine Tr.regionI (noIn noNormal) rfl ?_
  refine Tr.q (QS.lV rfl Try.isAgg23) rfl ?_
  refine Tr.q (QS.move rfl) rfl ?_
  refine Tr.lit1 (E := encU32) x rfl rfl Try.underlying23 Try.sizeOf39 Try.zeroValue39 (by rfl) (by rfl) rfl (fun V2 => ?_)
  refine Tr.append1 rfl rfl (by repeat constructor) (by repeat constructor) Try.underlying23 HLF.info39 (by rfl) (by rfl) (by (try simp only [List.length_cons, List.length_nil, List.length_append, List.length_take]); omega) (by unfold maxLen; (try simp only [List.length_cons, List.length_nil, List.length_append, List.length_take]); omega) rfl (fun V3 => ?_)
  refine Tr.rowShape (.head _) (fun pa pc hpv => ?_)
  subst hpv
  refine Tr.storeW rfl rfl Try.sizeOf23 (by repeat constructor) (by rfl) (by rfl) (by first | exact List.all_eq_true.1 rfl | exact Enc.one _ _) rfl ?_
  refine Tr.nil (Tr.inN ?_)
  exact fun a w ha hw => ⟨rfl, (.slice pa (xs ++ [x]).length pc, xs ++ [x]), rfl, Pick.heap (L' := [cellE b1 [.slice pa (xs ++ [x]).length pc] 23, rowE (.slice pa (xs ++ [x]).length pc) 39 encU32 (xs ++ [x])]) (by repeat' constructor) hw⟩
 ·intro xs j D F1 hF1 hS hok
  obtain ⟨V, ys⟩ := j
  replace hok : ys = xs := hok
  subst hok
  change Tr _ _ [markE D, cellE b1 [V] 23, rowE V 39 encU32 ys] _ _
  refine Tr.inN (Tr.thenN (Tr.seq (Tr.region ?_)))
  refine Tr.q (QS.lV rfl Try.isAgg23) rfl ?_
  refine Tr.q (QS.assign rfl) rfl ?_
  refine Tr.nil (Tr.thenN (Tr.ret ?_))
  refine Tr.retM1 (D := D) Try.results96 rfl (by (repeat rw [look_cons, if_neg (by unfold mk0; omega)]); exact look_mark) (by repeat constructor) (fun w' hw => ?_)
  exact ⟨(V, ys), rfl, hw.below0 hF1, hw.ents0 hF1.lo (by repeat' constructor), hS⟩
set_option maxRecDepth 100000 in
set_option maxHeartbeats 2000000 in
theorem collect_any (g : Nat) (lb : List Value) (keys : List UInt32) (Nm : Nat) (hN : Nm ≤ 1000000) (eg : ∀ (args : Array Value) (w : World), (callFunc g args).run Try.prog w = .ok (.enter g args) w) (w : World) (hseq : SeqStopsK Fence.wide 2 Try.prog g lb.toArray (fun x : UInt32 => #[.int .u32 x.toNat]) KeepsWalks (fun xs => xs.Perm keys) (fun _ => True) Nm w) :
  Calls Try.prog 78 #[.func (.func g) #[] lb.toArray] w (fun e w' => ∃ i : Value × List UInt32, e = .returned i.1 ∧ Below w.heap.size w w' ∧ NewEnts w w' [rowE i.1 39 encU32 i.2] ∧ i.2.Perm keys) := by
 refine enter0 Try.func78 rfl Try.ntmps78 rfl ?_
 refine Tr.seq (Tr.region ?_)
 refine Tr.q (QS.assign rfl) rfl ?_
 refine Tr.nil (Tr.thenN (Tr.seq (Tr.region ?_)))
 refine Tr.q (QS.move rfl) rfl ?_
 refine Tr.callEnts0 (fun i : Value × List UInt32 => i.1) (fun i => [rowE i.1 39 encU32 i.2]) (ok := fun i => i.2.Perm keys) rfl rfl Try.call96 (fun w hw => appendSeq_any g lb keys Nm hN eg w (SeqStopsK.later hseq (hw.below0 (Bg.le.refl _)))) rfl (fun i hi => ?_)
 obtain ⟨V, ys⟩ := i
 change Tr _ _ [rowE V 39 encU32 ys] _ _
 refine Tr.q (QS.assign rfl) rfl ?_
 refine Tr.nil (Tr.thenN (Tr.ret ?_))
 refine Tr.ret1 Try.results78 rfl (fun w' hw => ?_)
 exact ⟨(V, ys), rfl, hw.below0 (Bg.le.refl _), hw.ents0 rfl (by repeat' constructor), hi⟩
set_option maxRecDepth 100000 in
set_option maxHeartbeats 2000000 in
theorem sorted_any (g : Nat) (lb : List Value) (keys : List UInt32) (Nm : Nat) (hN : Nm ≤ 1000000) (eg : ∀ (args : Array Value) (w : World), (callFunc g args).run Try.prog w = .ok (.enter g args) w) (hK : keys.length ≤ 1000000) (w : World) (hseq : SeqStopsK Fence.wide 2 Try.prog g lb.toArray (fun x : UInt32 => #[.int .u32 x.toNat]) KeepsWalks (fun xs => xs.Perm keys) (fun _ => True) Nm w) :
  Calls Try.prog 45 #[.func (.func g) #[] lb.toArray] w (fun e w' => ∃ V : Value, e = .returned V ∧ Below w.heap.size w w' ∧ NewEnts w w' [rowE V 39 encU32 (srtU keys)] ∧ True) := by
 refine enter0 Try.func45 rfl Try.ntmps45 rfl ?_
 refine Tr.seq (Tr.region ?_)
 refine Tr.q (QS.assign rfl) rfl ?_
 refine Tr.nil (Tr.thenN (Tr.seq (Tr.region ?_)))
 refine Tr.q (QS.move rfl) rfl ?_
 refine Tr.callEnts0 (fun i : Value × List UInt32 => i.1) (fun i => [rowE i.1 39 encU32 i.2]) (ok := fun i => i.2.Perm keys) rfl rfl Try.call78 (fun w hw => collect_any g lb keys Nm hN eg w (SeqStopsK.later hseq (hw.below0 (Bg.le.refl _)))) rfl (fun i hi => ?_)
 obtain ⟨V, ys⟩ := i
 replace hi : ys.Perm keys := hi
 have hyl := hi.length_eq
 change Tr _ _ [rowE V 39 encU32 ys] _ _
 refine Tr.q (QS.assign rfl) rfl ?_
 refine Tr.nil (Tr.thenN (Tr.seq (Tr.region ?_)))
 refine Tr.q (QS.move rfl) rfl ?_
 refine Tr.callMut rfl Try.call79 (by repeat constructor) (fun w hw => sortU_any ys.toArray V w (hw.ent _ (.head _)) (by rw [List.size_toArray]; omega)) rfl ?_
 rw [sort_srt, srtU_of_perm hi]
 refine Tr.nil (Tr.thenN (Tr.seq (Tr.region ?_)))
 refine Tr.q (QS.move rfl) rfl ?_
 refine Tr.q (QS.assign rfl) rfl ?_
 refine Tr.nil (Tr.thenN (Tr.ret ?_))
 refine Tr.ret1 Try.results45 rfl (fun w' hw => ?_)
 exact ⟨V, rfl, hw.below0 (Bg.le.refl _), hw.ents0 rfl (by repeat' constructor), trivial⟩
set_option maxRecDepth 100000 in
set_option maxHeartbeats 2000000 in
theorem dsorted_any (l : List (UInt32 × Bool)) (b : Nat) (w : World) (hm : MapIn (hp w) b boolV l) (hl : l.length ≤ 1000000) :
  Calls Try.prog 44 #[.map (some b)] w (fun e w' => ∃ V : Value, e = .returned V ∧ Below w.heap.size w w' ∧ NewEnts w w' [rowE V 39 encU32 (srtU (l.map (·.1)))] ∧ True) := by
 have hm' : MapIn (Bg.of0 w).blk b boolV l := hm
 refine enter0 Try.func44 rfl Try.ntmps44 rfl ?_
 refine Tr.seq (Tr.region ?_)
 refine Tr.q (QS.assign rfl) rfl ?_
 refine Tr.nil (Tr.thenN (Tr.seq (Tr.region ?_)))
 refine Tr.q (QS.move rfl) rfl ?_
 refine Tr.callBg (fun i : Nat => .func (.func 95) #[] #[.pointer (some ⟨i, 0, none⟩)]) (R := fun h i => CellsIn h i [.map (some b)]) (fun h h' i hh r => r.mono hh) rfl Try.call77 (fun w hw => keys_bool b w) rfl (fun i7 F7 hF7 hR7 => ?_)
 refine Tr.callEnts0 (fun V : Value => V) (fun V => [rowE V 39 encU32 (srtU (l.map (·.1)))]) (ok := fun _ => True) (hF7.dr) rfl Try.call45 (fun w hw => sorted_any _ _ (l.map (·.1)) l.length hl Try.call95 (by rw [List.length_map]; exact hl) w (keys_stops_bool b i7 w ((hm'.mono hF7.blk).mono hw.bg) (hR7.mono hw.bg))) rfl (fun V7 _ => ?_)
 refine Tr.q (QS.assign rfl) rfl ?_
 refine Tr.nil (Tr.thenN (Tr.ret ?_))
 refine Tr.ret1 Try.results44 rfl (fun w' hw => ?_)
 exact ⟨V7, rfl, hw.below0 hF7, hw.ents0 hF7.lo (by repeat' constructor), trivial⟩
end Go.Proofs.Ytnmaokalpbnmaaa
namespace Go.HL
open Go
theorem body_keeps (k : Ins) (s : Int) (b : List UInt8) (addr : UInt32) : (bodyP k s b addr).size = sizeP s ∧ (bodyP k s b addr).addr = addr := by
  unfold bodyP applyP
  repeat' split
  all_goals exact ⟨rfl, rfl⟩
theorem sizeP_le6 (s : Int) : 1 ≤ sizeP s ∧ sizeP s ≤ 6 := by unfold sizeP; repeat' split <;> omega
theorem dec_size {b : List UInt8} {addr : UInt32} (h : (decP b addr).2 = 0) : 1 ≤ (decP b addr).1.size ∧ (decP b addr).1.size ≤ b.length ∧ (decP b addr).1.addr = addr := by
  unfold decP at h ⊢
  split at h
  · simp at h
  · rename_i h1
    rw [if_neg h1]
    split at h
    · simp at h
    · rename_i h2
      rw [if_neg h2]
      split at h
      · simp at h
      · rename_i h3
        rw [if_neg h3]
        dsimp only at h ⊢
        split at h
        · simp at h
        · rename_i h4
          rw [if_neg h4]
          obtain ⟨q1, q2⟩ := body_keeps (rowP (b.getD 0 default)).1 (opcodeP (rowP (b.getD 0 default)).1).2.1 b addr
          have := sizeP_le6 (opcodeP (rowP (b.getD 0 default)).1).2.1
          refine ⟨?_, ?_, q2⟩
          · rw [q1]; omega
          · rw [q1]; omega
end Go.HL
namespace Go.HL
open Go
theorem dec_ok {b : List UInt8} {addr : UInt32} : InsOK (decP b addr).1 := by
  unfold decP
  split
  · exact ⟨by simp [zeroIns, I64], by simp [zeroIns, I64], by simp [zeroIns, I64], by simp [zeroIns, I64], by simp [zeroIns, I64], by simp [zeroIns, I64], by simp [zeroIns, I64]⟩
  split
  · exact ⟨by simp [zeroIns, I64], by simp [zeroIns, I64], by simp [zeroIns, I64], by simp [zeroIns, I64], by simp [zeroIns, I64], by simp [zeroIns, I64], by simp [zeroIns, I64]⟩
  split
  · exact ⟨by simp [zeroIns, I64], by simp [zeroIns, I64], by simp [zeroIns, I64], by simp [zeroIns, I64], by simp [zeroIns, I64], by simp [zeroIns, I64], by simp [zeroIns, I64]⟩
  simp only
  split
  · exact ⟨by simp [zeroIns, I64], by simp [zeroIns, I64], by simp [zeroIns, I64], by simp [zeroIns, I64], by simp [zeroIns, I64], by simp [zeroIns, I64], by simp [zeroIns, I64]⟩
  rename_i hr
  simp only [not_or, Bool.not_eq_false] at hr
  have ha := regP_iff.1 hr.1
  have hb := regP_iff.1 hr.2
  have hk := row_ok (b.getD 0 default)
  generalize (rowP (b.getD 0 default)).1 = k at *
  generalize (opcodeP k).2.1 = s at *
  have hs : ∀ s k b nx, (applyP s k b nx).op = k.op ∧ (applyP s k b nx).form = k.form ∧ (applyP s k b nx).width = k.width ∧ (applyP s k b nx).cc = k.cc ∧ (applyP s k b nx).size = k.size := fun s k b nx => by
    unfold applyP; repeat' split
    all_goals exact ⟨rfl, rfl, rfl, rfl, rfl⟩
  have hsz : 0 ≤ sizeP s ∧ sizeP s ≤ 6 := by unfold sizeP; repeat' split
                                             all_goals omega
  have h1 := hs s { k with addr := addr, size := sizeP s } b (addr + u32 (sizeP s))
  unfold bodyP at *
  show InsOK (applyP s { k with addr := addr, size := sizeP s } b (addr + u32 (sizeP s)))
  exact ⟨by rw [h1.1]; exact hk.op, by rw [h1.2.1]; exact hk.form, by rw [h1.2.2.1]; exact hk.width, by rw [h1.2.2.2.1]; exact hk.cc, by unfold I64; omega, by unfold I64; omega, by rw [h1.2.2.2.2]; unfold I64; show _ ≤ sizeP s ∧ sizeP s ≤ _; omega⟩
end Go.HL
namespace Go.HL
open Go Go.RowKit
def insV (i : Ins) : Value := .agg (encIns.enc i).toArray
theorem mval_ins {z : Value} (hz : z = insV zeroIns) (o : Option Ins) : mval insV z o = .agg (encIns.enc (o.getD zeroIns)).toArray := by
  subst hz
  cases o <;> rfl
section
variable {P : Program} {ops : Array Oper} {Q : Exit → Act → World → Prop} {N : Nat} {F : Bg} {L : List Ent} {M : Fr} {dst : Option Tmp} {ty : TypeId} {pos : String} {after : Array Edge} {g : Option (Nat × Bool)} {rest : List Oper} {d : Nat}
theorem QS.lookI {l : List (UInt32 × Ins)} {x y : Operand} {t K e : TypeId} {z : Value} {b : Nat} {k : UInt32} (hx : opv M x = some (.map (some b))) (hy : opv M y = some (.int .u32 k.toNat)) (hm : mapE b insV l ∈ L)
    (ht : P.underlying t = some (.map K e)) (hK : P.underlying K = some (.int .u32)) (hz : ∀ w, (zeroValue e).run P w = .ok z w) (hzz : z = insV zeroIns) : QS P N F L M ⟨dst, .lookup t x y false, ty, pos, after, g⟩ (.agg (encIns.enc ((mget l k).getD zeroIns)).toArray) := by
  have h := QS.look (P := P) (N := N) (F := F) (L := L) (M := M) (dst := dst) (ty := ty) (pos := pos) (after := after) (g := g) hx hy hm ht hK hz
  rw [mval_ins hzz] at h; exact h
theorem QS.lookIB {l : List (UInt32 × Ins)} {x y : Operand} {t K e : TypeId} {z : Value} {b : Nat} {k : UInt32} (hx : opv M x = some (.map (some b))) (hy : opv M y = some (.int .u32 k.toNat)) (hm : MapIn F.blk b insV l)
    (ht : P.underlying t = some (.map K e)) (hK : P.underlying K = some (.int .u32)) (hz : ∀ w, (zeroValue e).run P w = .ok z w) (hzz : z = insV zeroIns) : QS P N F L M ⟨dst, .lookup t x y false, ty, pos, after, g⟩ (.agg (encIns.enc ((mget l k).getD zeroIns)).toArray) := by
  have h := QS.lookB (P := P) (N := N) (F := F) (L := L) (M := M) (dst := dst) (ty := ty) (pos := pos) (after := after) (g := g) hx hy hm ht hK hz
  rw [mval_ins hzz] at h; exact h
theorem QS.lookIOk {l : List (UInt32 × Ins)} {x y : Operand} {t K e : TypeId} {z : Value} {b : Nat} {k : UInt32} (hx : opv M x = some (.map (some b))) (hy : opv M y = some (.int .u32 k.toNat)) (hm : mapE b insV l ∈ L)
    (ht : P.underlying t = some (.map K e)) (hK : P.underlying K = some (.int .u32)) (hz : ∀ w, (zeroValue e).run P w = .ok z w) (hzz : z = insV zeroIns) : QS P N F L M ⟨dst, .lookup t x y true, ty, pos, after, g⟩ (.tuple #[.agg (encIns.enc ((mget l k).getD zeroIns)).toArray, .bool (mget l k).isSome]) := by
  have h := QS.lookOk (P := P) (N := N) (F := F) (L := L) (M := M) (dst := dst) (ty := ty) (pos := pos) (after := after) (g := g) hx hy hm ht hK hz
  rw [mval_ins hzz] at h; exact h
theorem QS.lookIBOk {l : List (UInt32 × Ins)} {x y : Operand} {t K e : TypeId} {z : Value} {b : Nat} {k : UInt32} (hx : opv M x = some (.map (some b))) (hy : opv M y = some (.int .u32 k.toNat)) (hm : MapIn F.blk b insV l)
    (ht : P.underlying t = some (.map K e)) (hK : P.underlying K = some (.int .u32)) (hz : ∀ w, (zeroValue e).run P w = .ok z w) (hzz : z = insV zeroIns) : QS P N F L M ⟨dst, .lookup t x y true, ty, pos, after, g⟩ (.tuple #[.agg (encIns.enc ((mget l k).getD zeroIns)).toArray, .bool (mget l k).isSome]) := by
  have h := QS.lookBOk (P := P) (N := N) (F := F) (L := L) (M := M) (dst := dst) (ty := ty) (pos := pos) (after := after) (g := g) hx hy hm ht hK hz
  rw [mval_ins hzz] at h; exact h
/-- xs[:n] of one's own slice: it is one's own again. -/
theorem Tr.shrink {α : Type} {E : Enc α} {xs : List α} {x hi : Operand} {t e T : TypeId} {V : Value} {k : Nat} {kk : IntKind} {n : Int} {L1 : List Ent} (hx : opv M x = some V) (hV : Del (rowE V T E xs) L L1) (hhi : opv M hi = some (.int kk n))
    (ht : P.underlying t = some (.slice e)) (hz : ∀ w, (sizeOf e).run P w = .ok k w) (hn : 0 ≤ n ∧ n ≤ xs.length) (hd : Nat.ble (d + 1) N = true)
    (K : ∀ V', Tr N F (rowE V' T E (xs.take n.toNat) :: L1) ((d, V') :: M) (wpList P ops Q rest)) : Tr N F L M (wpList P ops Q (⟨some d, .slice t x none (some hi) none, ty, pos, after, none⟩ :: rest)) := by
  intro a w ha hw
  refine wpList_plain rfl fun K' hK => ?_
  have hf := hw.front hV
  have hrow : RowOK V T E xs (V.ownBlock.bind (w.heap[·]?)) := hf.ent _ (.head _)
  obtain ⟨m, rfl⟩ : ∃ m : Nat, n = (m : Int) := ⟨n.toNat, by omega⟩
  have hm : m ≤ xs.length := by omega
  obtain ⟨av, cv, hV', hle⟩ : ∃ av cv, V = .slice av xs.length cv ∧ xs.length ≤ cv := by
    rcases hrow with ⟨rfl, rfl⟩ | ⟨gb, cap, cur, rfl, _, h1, _⟩
    · exact ⟨none, 0, rfl, Nat.le_refl _⟩
    · exact ⟨_, _, rfl, h1⟩
  have hb : ∀ w, (Instr.sliceBounds true xs.length cv none (some (.int kk (m : Int))) none).run P w = .ok (0, m, cv) w := by
    intro w
    have := boundsRun (P := P) (n := xs.length) (c := cv) (lo := none) (hi := some (kk, (m : Int))) w (by simp [loOf]) (by simp [loOf, hiOf]) (by simp only [hiOf]; omega) hle
    simpa [loOf, hiOf] using this
  have hr := sliceRun (P := P) ht hz w (a := av) hb
  have hv : (if cv = 0 then av else av.map (·.add (0 * k))) = av := by
    split
    · rfl
    · cases av with
      | none => rfl
      | some a0 => simp [Addr.add]
  rw [hv] at hr
  simp only [Nat.sub_zero] at hr
  unfold Oper.wp
  simp only [execOp, ha.eval hx, ha.eval hhi, Option.map_none, Option.map_some, Sem.run_bind, hV', hr, Result.andThen_ok, Sem.run_pure, Oper.upon]
  refine hK _ _ (K _ _ _ (ha.put (Nat.le_of_ble_eq_true hd)) ?_)
  subst hV'
  have hL1 : HpOK F (rowE (.slice av xs.length cv) T E xs :: L1) w := hf
  have htk : (xs.take ((m : Int)).toNat).length = m := by rw [List.length_take, Int.toNat_natCast]; omega
  rcases hrow with ⟨h1, h2⟩ | ⟨gb, cap, cur, h1, ho, hc1, hc2, hc3, hc4⟩
  · subst h2
    simp only [Value.slice.injEq] at h1
    obtain ⟨rfl, _, rfl⟩ := h1
    have hm0 : m = 0 := by simpa using hm
    subst hm0
    exact hL1
  · simp only [Value.slice.injEq] at h1
    obtain ⟨rfl, _, rfl⟩ := h1
    have e1 : rowE (.slice (some ⟨gb, 0, none⟩) xs.length cv) T E xs = ⟨some gb, RowOK (.slice (some ⟨gb, 0, none⟩) xs.length cv) T E xs⟩ := rfl
    have e2 : rowE (.slice (some ⟨gb, 0, none⟩) m cv) T E (xs.take ((m : Int)).toNat) = ⟨some gb, RowOK (.slice (some ⟨gb, 0, none⟩) m cv) T E (xs.take ((m : Int)).toNat)⟩ := rfl
    rw [e1] at hL1
    rw [e2]
    refine HpOK.set hL1 (.here _) rfl rfl rfl (Nat.le_refl _) (Nat.le_refl _) (fun _ _ _ => rfl) ?_
    refine .inr ⟨gb, cv, cur, by rw [htk], ho, by rw [htk]; omega, hc2, hc3, ?_⟩
    rw [htk, Int.toNat_natCast]
    have hle2 : m * E.k ≤ xs.length * E.k := Nat.mul_le_mul_right _ hm
    have h3 : cur.toList.take (m * E.k) = (cur.toList.take (xs.length * E.k)).take (m * E.k) := by rw [List.take_take, Nat.min_eq_left hle2]
    rw [h3, hc4]
    have h4 : xs.flatMap E.enc = (xs.take m).flatMap E.enc ++ (xs.drop m).flatMap E.enc := by rw [← List.flatMap_append, List.take_append_drop]
    have h5 : ((xs.take m).flatMap E.enc).length = m * E.k := by rw [flatMap_length, List.length_take, Nat.min_eq_left hm]
    rw [h4, ← h5, List.take_left]
end
end Go.HL
namespace Go.HL
open Go
/-- A table of targets, and where it lies. -/
structure TabV where
  data : List UInt32
  dp : Option Addr
  dc : Nat
  deriving Inhabited
def encTab : Enc TabV := ⟨1, fun t => [.slice t.dp t.data.length t.dc], fun _ => rfl, fun x v h => by simp at h; subst h; rfl⟩
def TabIn (h : Hp) (l : List TabV) : Prop := ∀ t ∈ l, Sl h encU32 t.data (.slice t.dp t.data.length t.dc)
theorem TabIn.mono {h h' : Hp} {l : List TabV} (d : TabIn h l) (hh : Hp.le h h') : TabIn h' l := fun s hs => (d s hs).mono hh
def TabB (ts : List TabV) : Prop := ts.length ≤ 6 ∧ ∀ t ∈ ts, t.data.length ≤ 12
def winD (l : List SecV) (a : UInt32) : List UInt8 := ((l.getD (findP l a).toNat default).data.drop (a - (l.getD (findP l a).toNat default).addr).toNat).take 6
def noAt (l : List SecV) (a : UInt32) : Bool := decide (findP l a < 0) || !(l.getD (findP l a).toNat default).ex
def atP (l : List SecV) (a : UInt32) : Ins × Bool := if noAt l a = true then (zeroIns, false) else ((decP (winD l a) a).1, decide ((decP (winD l a) a).2 = 0))
def indP (op : Int) : Bool := decide (op = 21 ∨ op = 22 ∨ op = 24)
def knownP (ts : List TabV) (at_ : List UInt32) (a : UInt32) : Option (List UInt32) :=
  if idxP (fun x => decide (a = x)) 0 at_ < 0 then none else some (ts.getD (idxP (fun x => decide (a = x)) 0 at_).toNat default).data
def succP (i : Ins) : List UInt32 := if errP i = 0 then (if (targetP i).2 = true then [(targetP i).1] else []) ++ (if endsP i = true then [] else [nextP i]) else []
def leadP (ts : List TabV) (at_ : List UInt32) (i : Ins) : List UInt32 := succP i ++ (if indP i.op = true then (knownP ts at_ i.addr).getD [] else [])
def callP (ts : List TabV) (at_ : List UInt32) (i : Ins) : List UInt32 := if i.op = 23 then [i.imm] else if i.op = 24 then (knownP ts at_ i.addr).getD [] else []
def unkP (ts : List TabV) (at_ : List UInt32) (i : Ins) : Bool := indP i.op && (knownP ts at_ i.addr).isNone
/-- The slice value that goes with it. -/
def knownV (ts : List TabV) (at_ : List UInt32) (a : UInt32) : Value :=
  if idxP (fun x => decide (a = x)) 0 at_ < 0 then .slice none 0 0 else
    .slice (ts.getD (idxP (fun x => decide (a = x)) 0 at_).toNat default).dp (ts.getD (idxP (fun x => decide (a = x)) 0 at_).toNat default).data.length (ts.getD (idxP (fun x => decide (a = x)) 0 at_).toNat default).dc
section
variable {ts : List TabV} {at_ : List UInt32} {a : UInt32}
theorem knownV_no (h : idxP (fun x => decide (a = x)) 0 at_ < 0) : knownV ts at_ a = .slice none 0 0 := by unfold knownV; rw [if_pos h]
theorem knownP_no (h : idxP (fun x => decide (a = x)) 0 at_ < 0) : knownP ts at_ a = none := by unfold knownP; rw [if_pos h]
theorem knownV_yes (h : ¬ idxP (fun x => decide (a = x)) 0 at_ < 0) : knownV ts at_ a = .slice (ts.getD (idxP (fun x => decide (a = x)) 0 at_).toNat default).dp (ts.getD (idxP (fun x => decide (a = x)) 0 at_).toNat default).data.length (ts.getD (idxP (fun x => decide (a = x)) 0 at_).toNat default).dc := by unfold knownV; rw [if_neg h]
theorem knownP_yes (h : ¬ idxP (fun x => decide (a = x)) 0 at_ < 0) : knownP ts at_ a = some (ts.getD (idxP (fun x => decide (a = x)) 0 at_).toNat default).data := by unfold knownP; rw [if_neg h]
theorem known_sl {H : Hp} (hTI : TabIn H ts) (hTB : TabB ts) (hl : ts.length = at_.length) : Sl H encU32 ((knownP ts at_ a).getD []) (knownV ts at_ a) := by
  by_cases h : idxP (fun x => decide (a = x)) 0 at_ < 0
  · rw [knownP_no h, knownV_no h]; exact Sl.nil _ _
  · rw [knownP_yes h, knownV_yes h]
    have := idxP_bound (fun x => decide (a = x)) at_ 0
    exact hTI _ (mem_getD (by omega))
end
theorem succ_len (i : Ins) : (succP i).length ≤ 2 := by
  unfold succP
  repeat' split
  all_goals simp
theorem known_len {ts : List TabV} (hT : TabB ts) (at_ : List UInt32) (a : UInt32) : ((knownP ts at_ a).getD []).length ≤ 12 := by
  unfold knownP
  split
  · simp
  · simp only [Option.getD_some]
    by_cases h : (idxP (fun x => decide (a = x)) 0 at_).toNat < ts.length
    · exact hT.2 _ (mem_getD h)
    · rw [List.getD_eq_getElem?_getD, List.getElem?_eq_none (by omega)]; exact Nat.zero_le _
theorem lead_len {ts : List TabV} (hT : TabB ts) (at_ : List UInt32) (i : Ins) : (leadP ts at_ i).length ≤ 14 := by
  have h1 := succ_len i
  have h2 := known_len hT at_ i.addr
  unfold leadP
  rw [List.length_append]
  split
  · omega
  · simp; omega
theorem at_addr {l : List SecV} {a : UInt32} (h : (atP l a).2 = true) : (atP l a).1.addr = a ∧ noAt l a = false ∧ (decP (winD l a) a).2 = 0 := by
  unfold atP at h ⊢
  split at h
  · cases h
  · rename_i hn
    rw [if_neg hn]
    have h' := of_decide_eq_true h
    exact ⟨(dec_size h').2.2, by simpa using hn, h'⟩
/-- Where a walk comes to. -/
inductive Reach (l : List SecV) (ts : List TabV) (at_ es : List UInt32) : UInt32 → Prop
  | ent (a : UInt32) (h : a ∈ es) : Reach l ts at_ es a
  | step (b a : UInt32) (h : Reach l ts at_ es b) (hf : (atP l b).2 = true) (ha : a ∈ leadP ts at_ (atP l b).1) : Reach l ts at_ es a
structure CodeP where
  ins : List Ins
  ents : List UInt32
  unk : List UInt32
  bad : List UInt32
structure IsCode (l : List SecV) (ts : List TabV) (at_ es : List UInt32) (c : CodeP) : Prop where
  ins : ∃ ks : List UInt32, ks.Pairwise (· < ·) ∧ (∀ a, a ∈ ks ↔ Reach l ts at_ es a ∧ (atP l a).2 = true) ∧ c.ins = ks.map fun a => (atP l a).1
  bad : c.bad.Pairwise (· < ·) ∧ ∀ a, a ∈ c.bad ↔ Reach l ts at_ es a ∧ (atP l a).2 = false
  ents : c.ents.Pairwise (· < ·) ∧ ∀ a, a ∈ c.ents ↔ (Reach l ts at_ es a ∧ (atP l a).2 = true) ∧ (a ∈ es ∨ ∃ b, (Reach l ts at_ es b ∧ (atP l b).2 = true) ∧ a ∈ callP ts at_ (atP l b).1)
  unk : c.unk.Pairwise (· < ·) ∧ ∀ a, a ∈ c.unk ↔ (Reach l ts at_ es a ∧ (atP l a).2 = true) ∧ unkP ts at_ (atP l a).1 = true
/-- What a walk answers. -/
inductive WalkIs (l : List SecV) (ts : List TabV) (at_ es : List UInt32) (c : CodeP) (e : Int) : Prop
  | arg (h : ts.length ≠ at_.length) (he : e = 2) (hc : c = ⟨[], [], [], []⟩) : WalkIs l ts at_ es c e
  | chk (h : ts.length = at_.length) (h1 : checkS l ≠ 0) (he : e = checkS l) (hc : c = ⟨[], [], [], []⟩) : WalkIs l ts at_ es c e
  | ok (h : ts.length = at_.length) (h1 : checkS l = 0) (he : e = 0) (hc : IsCode l ts at_ es c) : WalkIs l ts at_ es c e
theorem lt_le {l : List UInt32} (h : l.Pairwise (· < ·)) : l.Pairwise (fun x y => x ≤ y) := h.imp fun h => by rw [UInt32.lt_iff_toNat_lt] at h; rw [UInt32.le_iff_toNat_le]; omega
theorem lt_nodup {l : List UInt32} (h : l.Pairwise (· < ·)) : l.Nodup := h.imp fun h e => by subst e; simp at h
theorem asc_eq {l l' : List UInt32} (h : l.Pairwise (· < ·)) (h' : l'.Pairwise (· < ·)) (hm : ∀ a, a ∈ l ↔ a ∈ l') : l = l' :=
  sorted_eq ((List.perm_ext_iff_of_nodup (lt_nodup h) (lt_nodup h')).2 hm) (lt_le h) (lt_le h')
theorem srtU_asc {l : List UInt32} (h : l.Nodup) : (srtU l).Pairwise (· < ·) := by
  have h1 := srtU_sorted l
  have h2 : (srtU l).Nodup := (srtU_perm l).nodup_iff.2 h
  exact (List.pairwise_and_iff.2 ⟨h1, h2⟩).imp fun ⟨a, b⟩ => by
    rw [UInt32.le_iff_toNat_le] at a
    rw [UInt32.lt_iff_toNat_lt]
    have : ¬ (_ : UInt32).toNat = (_ : UInt32).toNat := fun e => b (UInt32.toNat_inj.1 e)
    omega
theorem mem_srtU {l : List UInt32} {a : UInt32} : a ∈ srtU l ↔ a ∈ l := (srtU_perm l).mem_iff
theorem IsCode.eq {l : List SecV} {ts : List TabV} {at_ es es' : List UInt32} {c c' : CodeP} (h : IsCode l ts at_ es c) (h' : IsCode l ts at_ es' c') (hr : ∀ a, Reach l ts at_ es a ↔ Reach l ts at_ es' a) (he : ∀ a, a ∈ es ↔ a ∈ es') : c = c' := by
  obtain ⟨ks, k1, k2, k3⟩ := h.ins
  obtain ⟨ks', k1', k2', k3'⟩ := h'.ins
  have e1 : ks = ks' := asc_eq k1 k1' fun a => by rw [k2, k2', hr]
  have e2 : c.bad = c'.bad := asc_eq h.bad.1 h'.bad.1 fun a => by rw [h.bad.2, h'.bad.2, hr]
  have e3 : c.unk = c'.unk := asc_eq h.unk.1 h'.unk.1 fun a => by rw [h.unk.2, h'.unk.2, hr]
  have e4 : c.ents = c'.ents := asc_eq h.ents.1 h'.ents.1 fun a => by rw [h.ents.2, h'.ents.2, hr, he]; simp only [hr]
  cases c; cases c'
  simp only at *
  rw [k3, k3', e1, e2, e3, e4]
theorem mem_mput {α : Type} {m : List (UInt32 × α)} {k j : UInt32} {x : α} : j ∈ (mput m k x).map (·.1) ↔ j = k ∨ j ∈ m.map (·.1) := by
  rw [mput_keys]
  split
  · rename_i h
    constructor
    · exact .inr
    · rintro (rfl | h')
      · exact mget_mem.1 h
      · exact h'
  · simp only [List.mem_append, List.mem_singleton]
    exact ⟨fun h => h.symm, fun h => h.symm⟩
def mputs (m : List (UInt32 × Bool)) (ks : List UInt32) : List (UInt32 × Bool) := ks.foldl (fun m k => mput m k true) m
theorem mem_mputs : ∀ (ks : List UInt32) (m : List (UInt32 × Bool)) {j : UInt32}, j ∈ (mputs m ks).map (·.1) ↔ j ∈ ks ∨ j ∈ m.map (·.1)
  | [], m, j => by simp [mputs]
  | k :: ks, m, j => by
    have ih := mem_mputs ks (mput m k true) (j := j)
    show j ∈ (mputs (mput m k true) ks).map (·.1) ↔ _
    rw [ih, mem_mput, List.mem_cons]
    constructor
    · rintro (h | h | h)
      · exact .inl (.inr h)
      · exact .inl (.inl h)
      · exact .inr h
    · rintro ((h | h) | h)
      · exact .inr (.inl h)
      · exact .inl h
      · exact .inr (.inr h)
theorem mputs_snoc (m : List (UInt32 × Bool)) (ks : List UInt32) (k : UInt32) : mputs m (ks ++ [k]) = mput (mputs m ks) k true := by simp [mputs]
theorem call_plain {ts : List TabV} {at_ : List UInt32} {i : Ins} {ents m1 : List (UInt32 × Bool)} (h : m1 = if i.op = 23 then mput ents i.imm true else ents) (hn : indP i.op = false) : mputs ents (callP ts at_ i) = m1 := by
  have hq : ¬ i.op = 24 := fun e => by unfold indP at hn; rw [e] at hn; exact absurd hn (by decide)
  subst h
  unfold callP
  rw [if_neg hq]
  split <;> rfl
theorem call_ind {ts : List TabV} {at_ : List UInt32} {i : Ins} {ents m1 m2 : List (UInt32 × Bool)} (h : m1 = if i.op = 23 then mput ents i.imm true else ents) (h2 : m2 = if i.op = 24 then mputs m1 ((knownP ts at_ i.addr).getD []) else m1) (hn : indP i.op = true) : mputs ents (callP ts at_ i) = m2 := by
  have hq : ¬ i.op = 23 := fun e => by unfold indP at hn; rw [e] at hn; exact absurd hn (by decide)
  rw [if_neg hq] at h
  subst h
  subst h2
  unfold callP
  rw [if_neg hq]
  split <;> rfl
theorem unk_ind {ts : List TabV} {at_ : List UInt32} {i : Ins} {unk u1 : List (UInt32 × Bool)} (h : u1 = if (knownP ts at_ i.addr).isSome = true then unk else mput unk i.addr true) (hn : indP i.op = true) : (if unkP ts at_ i = true then mput unk i.addr true else unk) = u1 := by
  subst h
  unfold unkP
  rw [hn, Bool.true_and]
  cases knownP ts at_ i.addr <;> rfl
theorem mputs_len : ∀ (ks : List UInt32) (m : List (UInt32 × Bool)), (mputs m ks).length ≤ m.length + ks.length
  | [], m => by simp [mputs]
  | k :: ks, m => by
    have ih := mputs_len ks (mput m k true)
    have := mput_len m k true
    show (mputs (mput m k true) ks).length ≤ _
    rw [List.length_cons]; omega
structure DSt where
  ins : List (UInt32 × Ins)
  bad : List (UInt32 × Bool)
  ents : List (UInt32 × Bool)
  unk : List (UInt32 × Bool)
  rest : List UInt32
def stepD (l : List SecV) (ts : List TabV) (at_ : List UInt32) (a : UInt32) (s : DSt) (r : List UInt32) : DSt :=
  ⟨mput s.ins a (atP l a).1, s.bad, mputs s.ents (callP ts at_ (atP l a).1), if unkP ts at_ (atP l a).1 = true then mput s.unk (atP l a).1.addr true else s.unk, r ++ leadP ts at_ (atP l a).1⟩
structure DInv (l : List SecV) (ts : List TabV) (at_ es : List UInt32) (s : DSt) : Prop where
  nIns : (s.ins.map (·.1)).Nodup
  nBad : (s.bad.map (·.1)).Nodup
  nEnts : (s.ents.map (·.1)).Nodup
  nUnk : (s.unk.map (·.1)).Nodup
  ins : ∀ k x, mget s.ins k = some x → Reach l ts at_ es k ∧ (atP l k).2 = true ∧ x = (atP l k).1
  bad : ∀ k x, mget s.bad k = some x → Reach l ts at_ es k ∧ (atP l k).2 = false ∧ x = true
  rest : ∀ a ∈ s.rest, Reach l ts at_ es a
  start : ∀ a ∈ es, a ∈ s.ins.map (·.1) ∨ a ∈ s.bad.map (·.1) ∨ a ∈ s.rest
  close : ∀ k ∈ s.ins.map (·.1), ∀ a ∈ leadP ts at_ (atP l k).1, a ∈ s.ins.map (·.1) ∨ a ∈ s.bad.map (·.1) ∨ a ∈ s.rest
  ents : ∀ a, a ∈ s.ents.map (·.1) ↔ a ∈ es ∨ ∃ k ∈ s.ins.map (·.1), a ∈ callP ts at_ (atP l k).1
  unk : ∀ a, a ∈ s.unk.map (·.1) ↔ a ∈ s.ins.map (·.1) ∧ unkP ts at_ (atP l a).1 = true
  lRest : s.rest.length + s.bad.length ≤ es.length + 14 * s.ins.length
  lEnts : s.ents.length ≤ es.length + 14 * s.ins.length
  lUnk : s.unk.length ≤ s.ins.length
section
variable {l : List SecV} {ts : List TabV} {at_ es : List UInt32} {s : DSt} {r : List UInt32} {a : UInt32}
theorem mem_key {α : Type} {m : List (UInt32 × α)} {k : UInt32} (h : k ∈ m.map (·.1)) : ∃ x, mget m k = some x := Option.isSome_iff_exists.1 (mget_mem.2 h)
theorem key_mem {α : Type} {m : List (UInt32 × α)} {k : UInt32} {x : α} (h : mget m k = some x) : k ∈ m.map (·.1) := mget_mem.1 (by rw [h]; rfl)
theorem DInv.begin : DInv l ts at_ es ⟨[], [], mputs [] es, [], es⟩ := by
  refine ⟨List.nodup_nil, List.nodup_nil, ?_, List.nodup_nil, fun k x h => by simp [mget] at h, fun k x h => by simp [mget] at h, fun a h => .ent a h, fun a h => .inr (.inr h), fun k h => by simp at h, fun a => ?_, fun a => by simp, by simp, ?_, by simp⟩
  · have : ∀ (ks : List UInt32) (m : List (UInt32 × Bool)), (m.map (·.1)).Nodup → ((mputs m ks).map (·.1)).Nodup := by
      intro ks
      induction ks with
      | nil => intro m h; exact h
      | cons k ks ih => intro m h; exact ih _ (mput_nodup k true h)
    exact this es [] List.nodup_nil
  · show a ∈ (mputs [] es).map (·.1) ↔ _
    rw [mem_mputs]; simp
  · have := mputs_len es []
    simpa using this
theorem DInv.skip (h : DInv l ts at_ es s) (hr : s.rest = r ++ [a]) (hk : a ∈ s.ins.map (·.1) ∨ a ∈ s.bad.map (·.1)) : DInv l ts at_ es { s with rest := r } := by
  have mv : ∀ b, b ∈ s.ins.map (·.1) ∨ b ∈ s.bad.map (·.1) ∨ b ∈ s.rest → b ∈ s.ins.map (·.1) ∨ b ∈ s.bad.map (·.1) ∨ b ∈ r := by
    rintro b (h1 | h1 | h1)
    · exact .inl h1
    · exact .inr (.inl h1)
    · rw [hr] at h1
      rcases List.mem_append.1 h1 with h2 | h2
      · exact .inr (.inr h2)
      · rw [List.mem_singleton.1 h2]
        rcases hk with hk | hk
        · exact .inl hk
        · exact .inr (.inl hk)
  refine ⟨h.nIns, h.nBad, h.nEnts, h.nUnk, h.ins, h.bad, fun b hb => h.rest b (by rw [hr]; exact List.mem_append_left _ hb), fun b hb => mv b (h.start b hb), fun k hk b hb => mv b (h.close k hk b hb), h.ents, h.unk, ?_, h.lEnts, h.lUnk⟩
  have := h.lRest
  rw [hr, List.length_append, List.length_singleton] at this
  show r.length + s.bad.length ≤ es.length + 14 * s.ins.length
  omega
theorem DInv.isBad (h : DInv l ts at_ es s) (hr : s.rest = r ++ [a]) (hf : (atP l a).2 = false) : DInv l ts at_ es { s with rest := r, bad := mput s.bad a true } := by
  have mv : ∀ b, b ∈ s.ins.map (·.1) ∨ b ∈ s.bad.map (·.1) ∨ b ∈ s.rest → b ∈ s.ins.map (·.1) ∨ b ∈ (mput s.bad a true).map (·.1) ∨ b ∈ r := by
    rintro b (h1 | h1 | h1)
    · exact .inl h1
    · exact .inr (.inl (mem_mput.2 (.inr h1)))
    · rw [hr] at h1
      rcases List.mem_append.1 h1 with h2 | h2
      · exact .inr (.inr h2)
      · exact .inr (.inl (mem_mput.2 (.inl (List.mem_singleton.1 h2))))
  refine ⟨h.nIns, mput_nodup a true h.nBad, h.nEnts, h.nUnk, h.ins, fun k x hx => ?_, fun b hb => h.rest b (by rw [hr]; exact List.mem_append_left _ hb), fun b hb => mv b (h.start b hb), fun k hk b hb => mv b (h.close k hk b hb), h.ents, h.unk, ?_, h.lEnts, h.lUnk⟩
  · have hx' : mget (mput s.bad a true) k = some x := hx
    rw [mget_put] at hx'
    split at hx'
    · rename_i e
      subst e
      cases hx'
      exact ⟨h.rest k (by rw [hr]; simp), hf, rfl⟩
    · exact h.bad k x hx'
  · have := h.lRest
    have h2 := mput_len s.bad a true
    rw [hr, List.length_append, List.length_singleton] at this
    show r.length + (mput s.bad a true).length ≤ es.length + 14 * s.ins.length
    omega
theorem DInv.found (hT : TabB ts) (h : DInv l ts at_ es s) (hr : s.rest = r ++ [a]) (hf : (atP l a).2 = true) (hn : a ∉ s.ins.map (·.1)) : DInv l ts at_ es (stepD l ts at_ a s r) := by
  have ha := (at_addr hf).1
  have hra : Reach l ts at_ es a := h.rest a (by rw [hr]; simp)
  have mv : ∀ b, b ∈ s.ins.map (·.1) ∨ b ∈ s.bad.map (·.1) ∨ b ∈ s.rest → b ∈ (mput s.ins a (atP l a).1).map (·.1) ∨ b ∈ s.bad.map (·.1) ∨ b ∈ r ++ leadP ts at_ (atP l a).1 := by
    rintro b (h1 | h1 | h1)
    · exact .inl (mem_mput.2 (.inr h1))
    · exact .inr (.inl h1)
    · rw [hr] at h1
      rcases List.mem_append.1 h1 with h2 | h2
      · exact .inr (.inr (List.mem_append_left _ h2))
      · exact .inl (mem_mput.2 (.inl (List.mem_singleton.1 h2)))
  have hlen : (mput s.ins a (atP l a).1).length = s.ins.length + 1 := by
    rw [mput_new]
    · simp
    · cases hq : mget s.ins a with
      | none => rfl
      | some x => exact absurd (key_mem hq) hn
  have hl := lead_len hT at_ (atP l a).1
  have hcl : (callP ts at_ (atP l a).1).length ≤ 14 := by
    have := known_len hT at_ (atP l a).1.addr
    unfold callP
    repeat' split
    all_goals simp <;> omega
  refine ⟨mput_nodup a _ h.nIns, h.nBad, ?_, ?_, fun k x hx => ?_, h.bad, fun b hb => ?_, fun b hb => mv b (h.start b hb), fun k hk b hb => ?_, fun b => ?_, fun b => ?_, ?_, ?_, ?_⟩
  · have : ∀ (ks : List UInt32) (m : List (UInt32 × Bool)), (m.map (·.1)).Nodup → ((mputs m ks).map (·.1)).Nodup := by
      intro ks
      induction ks with
      | nil => intro m h; exact h
      | cons k ks ih => intro m h; exact ih _ (mput_nodup k true h)
    exact this _ _ h.nEnts
  · show ((if unkP ts at_ (atP l a).1 = true then mput s.unk (atP l a).1.addr true else s.unk).map (·.1)).Nodup
    split
    · exact mput_nodup _ _ h.nUnk
    · exact h.nUnk
  · have hx' : mget (mput s.ins a (atP l a).1) k = some x := hx
    rw [mget_put] at hx'
    split at hx'
    · rename_i e
      subst e
      cases hx'
      exact ⟨hra, hf, rfl⟩
    · exact h.ins k x hx'
  · rcases List.mem_append.1 (show b ∈ r ++ leadP ts at_ (atP l a).1 from hb) with h1 | h1
    · exact h.rest b (by rw [hr]; exact List.mem_append_left _ h1)
    · exact .step a b hra hf h1
  · rcases mem_mput.1 (show k ∈ (mput s.ins a (atP l a).1).map (·.1) from hk) with rfl | hk
    · exact .inr (.inr (List.mem_append_right _ hb))
    · exact mv b (h.close k hk b hb)
  · show b ∈ (mputs s.ents (callP ts at_ (atP l a).1)).map (·.1) ↔ b ∈ es ∨ ∃ k ∈ (mput s.ins a (atP l a).1).map (·.1), _
    rw [mem_mputs, h.ents]
    constructor
    · rintro (h1 | h1 | ⟨k, h1, h2⟩)
      · exact .inr ⟨a, mem_mput.2 (.inl rfl), h1⟩
      · exact .inl h1
      · exact .inr ⟨k, mem_mput.2 (.inr h1), h2⟩
    · rintro (h1 | ⟨k, h1, h2⟩)
      · exact .inr (.inl h1)
      · rcases mem_mput.1 h1 with rfl | h1
        · exact .inl h2
        · exact .inr (.inr ⟨k, h1, h2⟩)
  · show b ∈ (if unkP ts at_ (atP l a).1 = true then mput s.unk (atP l a).1.addr true else s.unk).map (·.1) ↔ b ∈ (mput s.ins a (atP l a).1).map (·.1) ∧ _
    rw [mem_mput]
    split
    · rename_i hu
      rw [mem_mput, h.unk, ha]
      constructor
      · rintro (rfl | ⟨h1, h2⟩)
        · exact ⟨.inl rfl, hu⟩
        · exact ⟨.inr h1, h2⟩
      · rintro ⟨h1 | h1, h2⟩
        · exact .inl h1
        · exact .inr ⟨h1, h2⟩
    · rename_i hu
      rw [h.unk]
      constructor
      · rintro ⟨h1, h2⟩
        exact ⟨.inr h1, h2⟩
      · rintro ⟨h1 | h1, h2⟩
        · subst h1; exact absurd h2 hu
        · exact ⟨h1, h2⟩
  · have := h.lRest
    rw [hr, List.length_append, List.length_singleton] at this
    show (r ++ leadP ts at_ (atP l a).1).length + s.bad.length ≤ es.length + 14 * (mput s.ins a (atP l a).1).length
    rw [hlen, List.length_append]
    omega
  · have := h.lEnts
    have h2 := mputs_len (callP ts at_ (atP l a).1) s.ents
    show (mputs s.ents (callP ts at_ (atP l a).1)).length ≤ es.length + 14 * (mput s.ins a (atP l a).1).length
    rw [hlen]; omega
  · have := h.lUnk
    show (if unkP ts at_ (atP l a).1 = true then mput s.unk (atP l a).1.addr true else s.unk).length ≤ (mput s.ins a (atP l a).1).length
    rw [hlen]
    split
    · have := mput_len s.unk (atP l a).1.addr true; omega
    · omega
/-- Nothing is left: what has come is what can be reached. -/
theorem DInv.all (h : DInv l ts at_ es s) (hr : s.rest = []) : ∀ b, Reach l ts at_ es b → b ∈ s.ins.map (·.1) ∨ b ∈ s.bad.map (·.1) := by
  intro b hb
  have cut : ∀ c, c ∈ s.ins.map (·.1) ∨ c ∈ s.bad.map (·.1) ∨ c ∈ s.rest → c ∈ s.ins.map (·.1) ∨ c ∈ s.bad.map (·.1) := by
    rintro c (h1 | h1 | h1)
    · exact .inl h1
    · exact .inr h1
    · rw [hr] at h1; cases h1
  induction hb with
  | ent a ha => exact cut a (h.start a ha)
  | step b a hb hf ha ih =>
    rcases ih with h1 | h1
    · exact cut a (h.close b h1 a ha)
    · obtain ⟨x, hx⟩ := mem_key h1
      have := (h.bad b x hx).2.1
      rw [hf] at this; cases this
theorem DInv.insKeys (h : DInv l ts at_ es s) (hr : s.rest = []) (b : UInt32) : b ∈ s.ins.map (·.1) ↔ Reach l ts at_ es b ∧ (atP l b).2 = true := by
  constructor
  · intro h1
    obtain ⟨x, hx⟩ := mem_key h1
    exact ⟨(h.ins b x hx).1, (h.ins b x hx).2.1⟩
  · rintro ⟨h1, h2⟩
    rcases h.all hr b h1 with h3 | h3
    · exact h3
    · obtain ⟨x, hx⟩ := mem_key h3
      have := (h.bad b x hx).2.1
      rw [h2] at this; cases this
theorem DInv.code (h : DInv l ts at_ es s) (hr : s.rest = []) : IsCode l ts at_ es ⟨(srtU (s.ins.map (·.1))).map fun a => (atP l a).1, (srtU (s.ents.map (·.1))).filter fun a => (mget s.ins a).isSome, srtU (s.unk.map (·.1)), srtU (s.bad.map (·.1))⟩ := by
  refine ⟨⟨_, srtU_asc h.nIns, fun a => by rw [mem_srtU]; exact h.insKeys hr a, rfl⟩, ⟨srtU_asc h.nBad, fun a => ?_⟩, ⟨(srtU_asc h.nEnts).filter _, fun a => ?_⟩, ⟨srtU_asc h.nUnk, fun a => ?_⟩⟩
  · show a ∈ srtU _ ↔ _
    rw [mem_srtU]
    constructor
    · intro h1
      obtain ⟨x, hx⟩ := mem_key h1
      exact ⟨(h.bad a x hx).1, (h.bad a x hx).2.1⟩
    · rintro ⟨h1, h2⟩
      rcases h.all hr a h1 with h3 | h3
      · have := ((h.insKeys hr a).1 h3).2
        rw [h2] at this; cases this
      · exact h3
  · show a ∈ (srtU _).filter _ ↔ _
    rw [List.mem_filter, mem_srtU, h.ents, mget_mem, h.insKeys hr]
    constructor
    · rintro ⟨h1 | ⟨k, h1, h2⟩, h3⟩
      · exact ⟨h3, .inl h1⟩
      · exact ⟨h3, .inr ⟨k, (h.insKeys hr k).1 h1, h2⟩⟩
    · rintro ⟨h3, h1 | ⟨k, h1, h2⟩⟩
      · exact ⟨.inl h1, h3⟩
      · exact ⟨.inr ⟨k, (h.insKeys hr k).2 h1, h2⟩, h3⟩
  · show a ∈ srtU _ ↔ _
    rw [mem_srtU, h.unk, h.insKeys hr]
end
theorem last_split {α : Type} [Inhabited α] {xs : List α} (h : 0 < xs.length) : xs = xs.take ((xs.length : Int) - 1).toNat ++ [xs.getD ((xs.length : Int) - 1).toNat default] := by
  obtain ⟨n, hn⟩ : ∃ n, ((xs.length : Int) - 1).toNat = n := ⟨_, rfl⟩
  rw [hn]
  have h1 : n + 1 = xs.length := by omega
  have := take_succ (l := xs) (k := n) (by omega)
  rw [← this, h1, List.take_length]
theorem skip_key {ins : List (UInt32 × Ins)} {bad : List (UInt32 × Bool)} {a : UInt32} (h : (mget ins a).isSome = true ∨ (mget bad a).getD false = true) : a ∈ ins.map (·.1) ∨ a ∈ bad.map (·.1) := by
  rcases h with h | h
  · exact .inl (mget_mem.1 h)
  · right
    cases hq : mget bad a with
    | none => rw [hq] at h; cases h
    | some x => exact key_mem hq
theorem skip_no {ins : List (UInt32 × Ins)} {bad : List (UInt32 × Bool)} {a : UInt32} (h : (mget ins a).isSome = false ∧ (mget bad a).getD false = false) : a ∉ ins.map (·.1) := fun hq => by
  have := mget_mem.2 hq
  rw [h.1] at this; cases this
theorem ins_at {l : List SecV} {ts : List TabV} {at_ es : List UInt32} {s : DSt} (h : DInv l ts at_ es s) {k : UInt32} (hk : k ∈ s.ins.map (·.1)) : (mget s.ins k).getD zeroIns = (atP l k).1 := by
  obtain ⟨x, hx⟩ := mem_key hk
  rw [hx]; exact (h.ins k x hx).2.2
theorem map_take_snoc {α β : Type} [Inhabited α] (f : α → β) {l : List α} {k : Nat} (h : k < l.length) : (l.take k).map f ++ [f (l.getD k default)] = (l.take (k + 1)).map f := by
  rw [take_succ h, List.map_append]; rfl
theorem filter_take_yes {α : Type} [Inhabited α] {p : α → Bool} {l : List α} {k : Nat} (h : k < l.length) (hp : p (l.getD k default) = true) : (l.take k).filter p ++ [l.getD k default] = (l.take (k + 1)).filter p := by
  rw [take_succ h, List.filter_append, List.filter_cons_of_pos hp]; rfl
theorem filter_take_no {α : Type} [Inhabited α] {p : α → Bool} {l : List α} {k : Nat} (h : k < l.length) (hp : p (l.getD k default) = false) : (l.take k).filter p = (l.take (k + 1)).filter p := by
  rw [take_succ h, List.filter_append, List.filter_cons_of_neg (by rw [hp]; simp)]; simp
theorem at_ok (l : List SecV) (a : UInt32) : InsOK (atP l a).1 := by
  unfold atP
  split
  · constructor <;> exact ⟨by decide, by decide⟩
  · exact dec_ok
def spotL (l : List SecV) : List UInt32 := l.flatMap fun s => (List.range s.data.length).map fun i => s.addr + UInt32.ofNat i
def totD (l : List SecV) : Nat := (l.map fun s => s.data.length).sum
theorem spot_len (l : List SecV) : (spotL l).length = totD l := by
  induction l with
  | nil => rfl
  | cons s l ih =>
    show (((List.range s.data.length).map fun i => s.addr + UInt32.ofNat i) ++ spotL l).length = _
    rw [List.length_append, List.length_map, List.length_range, ih]
    simp [totD]
theorem at_spot {l : List SecV} {a : UInt32} (h : (atP l a).2 = true) : a ∈ spotL l := by
  obtain ⟨_, h1, _⟩ := at_addr h
  unfold noAt at h1
  simp only [Bool.or_eq_false_iff, decide_eq_false_iff_not] at h1
  have hf : 0 ≤ findP l a := by omega
  have hlt := findP_lt (l := l) (a := a)
  have hin := inS_iff.1 (findP_in (l := l) (a := a) hf)
  refine List.mem_flatMap.2 ⟨l.getD (findP l a).toNat default, mem_getD (by omega), ?_⟩
  obtain ⟨s, hs⟩ : ∃ s, s = l.getD (findP l a).toNat default := ⟨_, rfl⟩
  rw [← hs] at hin ⊢
  have hen : endP s ≤ (s.addr.toNat : Int) + s.data.length := by unfold endP; omega
  have ha := a.toNat_lt
  refine List.mem_map.2 ⟨a.toNat - s.addr.toNat, List.mem_range.2 (by omega), ?_⟩
  rw [← UInt32.toNat_inj, UInt32.toNat_add, UInt32.toNat_ofNat']
  omega
theorem DInv.count {l : List SecV} {ts : List TabV} {at_ es : List UInt32} {s : DSt} (h : DInv l ts at_ es s) : s.ins.length ≤ totD l := by
  have := nodup_len (l := s.ins.map (·.1)) (l' := spotL l) h.nIns fun k hk => by
    obtain ⟨x, hx⟩ := mem_key hk
    exact at_spot (h.ins k x hx).2.1
  rw [List.length_map, spot_len] at this
  exact this
end Go.HL
namespace Go.HL
section
variable {α : Type} [Inhabited α]
structure WO (lt : α → α → Bool) : Prop where
  irr : ∀ x, lt x x = false
  tr : ∀ x y z, lt x y = true → lt y z = true → lt x z = true
  ntr : ∀ x y z, lt x y = false → lt y z = false → lt x z = false
/-- x < y ≤ z -/
theorem WO.lt_le {lt : α → α → Bool} (h : WO lt) {x y z : α} (e : lt x y = true) (e2 : lt z y = false) : lt x z = true := by
  cases e3 : lt x z
  · rw [h.ntr _ _ _ e3 e2] at e; cases e
  · rfl
def eqv (lt : α → α → Bool) (z x : α) : Bool := !lt z x && !lt x z
/-- The same elements; those that the order holds equal in their old order. -/
def Stab (lt : α → α → Bool) (l l' : List α) : Prop := l.Perm l' ∧ ∀ z, l.filter (eqv lt z) = l'.filter (eqv lt z)
theorem Stab.refl (lt : α → α → Bool) (l : List α) : Stab lt l l := ⟨.refl _, fun _ => rfl⟩
theorem Stab.trans {lt : α → α → Bool} {a b c : List α} (h : Stab lt a b) (k : Stab lt b c) : Stab lt a c := ⟨h.1.trans k.1, fun z => (h.2 z).trans (k.2 z)⟩
theorem Stab.len {lt : α → α → Bool} {a b : List α} (h : Stab lt a b) : b.length = a.length := h.1.length_eq.symm
theorem Stab.symm {lt : α → α → Bool} {a b : List α} (h : Stab lt a b) : Stab lt b a := ⟨h.1.symm, fun z => (h.2 z).symm⟩
theorem filter_nil_or {lt : α → α → Bool} (h : WO lt) {X Y : List α} (hc : ∀ x ∈ X, ∀ y ∈ Y, lt y x = true) (z : α) : X.filter (eqv lt z) = [] ∨ Y.filter (eqv lt z) = [] := by
  cases hX : X.filter (eqv lt z) with
  | nil => exact .inl rfl
  | cons x t =>
    refine .inr ?_
    rw [List.filter_eq_nil_iff]
    intro y hy he
    have hx : x ∈ X.filter (eqv lt z) := by rw [hX]; exact .head _
    obtain ⟨hx1, hx2⟩ := List.mem_filter.1 hx
    simp only [eqv, Bool.and_eq_true, Bool.not_eq_true'] at he hx2
    have := hc x hx1 y hy
    rw [h.ntr _ _ _ he.2 hx2.1] at this
    cases this
theorem Stab.swap {lt : α → α → Bool} (h : WO lt) (P X Y S : List α) (hc : ∀ x ∈ X, ∀ y ∈ Y, lt y x = true) : Stab lt (P ++ (X ++ (Y ++ S))) (P ++ (Y ++ (X ++ S))) := by
  refine ⟨List.Perm.append_left _ (by rw [← List.append_assoc, ← List.append_assoc]; exact List.perm_append_comm.append_right _), fun z => ?_⟩
  simp only [List.filter_append]
  rcases filter_nil_or h hc z with e | e <;> rw [e] <;> simp
/-- Sorted lists with the same elements, equal ones in the same order, are the same. -/
theorem stab_uniq {lt : α → α → Bool} (h : WO lt) : ∀ (l l' : List α), Stab lt l l' → l.Pairwise (fun x y => lt y x = false) → l'.Pairwise (fun x y => lt y x = false) → l = l'
  | [], l', s, _, _ => by have := s.len; simp at this; exact this.symm
  | x :: t, [], s, _, _ => by have := s.len; simp at this
  | x :: t, y :: t', s, h1, h2 => by
    rw [List.pairwise_cons] at h1 h2
    have hxy : lt x y = false := by
      have : x ∈ y :: t' := s.1.subset (.head _)
      rcases List.mem_cons.1 this with rfl | hm
      · exact h.irr _
      · exact h2.1 _ hm
    have hyx : lt y x = false := by
      have : y ∈ x :: t := s.1.symm.subset (.head _)
      rcases List.mem_cons.1 this with rfl | hm
      · exact h.irr _
      · exact h1.1 _ hm
    have ex : x = y := by
      have := s.2 x
      rw [List.filter_cons_of_pos (by simp [eqv, h.irr]), List.filter_cons_of_pos (by simp [eqv, hxy, hyx])] at this
      exact (List.cons.inj this).1
    subst ex
    have st : Stab lt t t' := ⟨(List.perm_cons x).1 s.1, fun z => by
      have := s.2 z
      simp only [List.filter_cons] at this
      split at this
      · exact (List.cons.inj this).2
      · exact this⟩
    rw [stab_uniq h t t' st h1.2 h2.2]
theorem ext_at {l l' : List α} (h : l.length = l'.length) (e : ∀ k, k < l.length → l.getD k default = l'.getD k default) : l = l' := by
  refine List.ext_getElem h fun k h1 h2 => ?_
  have := e k h1
  simpa [List.getD_eq_getElem?_getD, h1, h2] using this
theorem list_parts {l : List α} {a m b : Nat} (h1 : a ≤ m) (h2 : m ≤ b) (h3 : b ≤ l.length) :
    l = l.take a ++ ((l.take m).drop a ++ ((l.take b).drop m ++ l.drop b)) := by
  refine ext_at (by simp; omega) fun k hk => ?_
  simp only [List.getD_eq_getElem?_getD, List.getElem?_append, List.length_take, List.length_drop, List.getElem?_take, List.getElem?_drop]
  congr 1
  grind
theorem mem_win {l : List α} {a b : Nat} {x : α} (h : x ∈ (l.take b).drop a) : ∃ k, a ≤ k ∧ k < b ∧ k < l.length ∧ x = l.getD k default := by
  obtain ⟨i, hi⟩ := List.mem_iff_getElem?.1 h
  rw [List.getElem?_drop, List.getElem?_take] at hi
  split at hi
  · refine ⟨a + i, by omega, by omega, (List.getElem?_eq_some_iff.1 hi).1, by simp [List.getD_eq_getElem?_getD, hi]⟩
  · cases hi
theorem win_mem {l : List α} {a b k : Nat} (h1 : a ≤ k) (h2 : k < b) (h3 : k < l.length) : l.getD k default ∈ (l.take b).drop a := by
  refine List.mem_iff_getElem?.2 ⟨k - a, ?_⟩
  rw [List.getElem?_drop, List.getElem?_take, if_pos (by omega), show a + (k - a) = k by omega]
  simp [List.getD_eq_getElem?_getD, h3]
/-- Nothing outside [a, b) has changed. -/
def Fram (a b : Nat) (l l' : List α) : Prop := l'.length = l.length ∧ ∀ k, k < a ∨ b ≤ k → l'.getD k default = l.getD k default
theorem Fram.refl (a b : Nat) (l : List α) : Fram a b l l := ⟨rfl, fun _ _ => rfl⟩
theorem Fram.trans {a b : Nat} {l m n : List α} (h : Fram a b l m) (k : Fram a b m n) : Fram a b l n := ⟨k.1.trans h.1, fun x hx => (k.2 x hx).trans (h.2 x hx)⟩
theorem Fram.mono {a b c d : Nat} {l m : List α} (h : Fram a b l m) (h1 : c ≤ a) (h2 : b ≤ d) : Fram c d l m := ⟨h.1, fun x hx => h.2 x (by omega)⟩
theorem win_of {lt : α → α → Bool} {l l' : List α} {a b k : Nat} (s : Stab lt l l') (f : Fram a b l l') (hb : b ≤ l.length) (h1 : a ≤ k) (h2 : k < b) : ∃ j, a ≤ j ∧ j < b ∧ l'.getD k default = l.getD j default := by
  have hl := f.1
  have e1 : l'.take a = l.take a := ext_at (by simp [hl]) fun x hx => by
    have hx' : x < a := by simp at hx; omega
    have := f.2 x (.inl hx')
    simpa [List.getD_eq_getElem?_getD, List.getElem?_take, hx'] using this
  have e2 : l'.drop b = l.drop b := ext_at (by simp [hl]) fun x hx => by
    have := f.2 (b + x) (.inr (by omega))
    simpa [List.getD_eq_getElem?_getD, List.getElem?_drop] using this
  have p1 := s.1
  rw [list_parts (l := l) (a := a) (m := b) (b := b) (by omega) (Nat.le_refl _) hb, list_parts (l := l') (a := a) (m := b) (b := b) (by omega) (Nat.le_refl _) (by omega), e1, e2] at p1
  have p2 := (List.perm_append_left_iff _).1 p1
  have e3 : ∀ x : List α, (x.take b).drop b = [] := fun x => by simp
  rw [e3, e3, List.nil_append] at p2
  have p3 := (List.perm_append_right_iff _).1 p2
  obtain ⟨j, a1, a2, a3, a4⟩ := mem_win (p3.symm.subset (win_mem (l := l') h1 h2 (by omega)))
  exact ⟨j, a1, a2, a4⟩
/-- Sorted from a up to b. -/
def Srt (lt : α → α → Bool) (l : List α) (a b : Nat) : Prop := ∀ p q, a ≤ p → p < q → q < b → lt (l.getD q default) (l.getD p default) = false
theorem Srt.sub {lt : α → α → Bool} {l : List α} {a b c d : Nat} (h : Srt lt l a b) (h1 : a ≤ c) (h2 : d ≤ b) : Srt lt l c d := fun p q x y z => h p q (by omega) y (by omega)
theorem Srt.one {lt : α → α → Bool} {l : List α} {a b : Nat} (h : b ≤ a + 1) : Srt lt l a b := fun p q x y z => by omega
theorem Srt.fram {lt : α → α → Bool} {l l' : List α} {a b c d : Nat} (h : Srt lt l a b) (f : Fram c d l l') (hd : b ≤ c ∨ d ≤ a) : Srt lt l' a b := fun p q x y z => by
  rw [f.2 p (by omega), f.2 q (by omega)]; exact h p q x y z
theorem Srt.all {lt : α → α → Bool} {l : List α} (h : Srt lt l 0 l.length) : l.Pairwise fun x y => lt y x = false := by
  rw [List.pairwise_iff_getElem]
  intro i j hi hj hij
  have := h i j (Nat.zero_le _) hij hj
  simpa [List.getD_eq_getElem?_getD, hi, hj] using this
theorem Srt.le {lt : α → α → Bool} (h : WO lt) {l : List α} {a b p q : Nat} (s : Srt lt l a b) (h1 : a ≤ p) (h2 : p ≤ q) (h3 : q < b) : lt (l.getD q default) (l.getD p default) = false := by
  rcases Nat.eq_or_lt_of_le h2 with rfl | h2
  · exact h.irr _
  · exact s p q h1 h2 h3
theorem Srt.glue {lt : α → α → Bool} {l : List α} {a m b : Nat} (h1 : Srt lt l a m) (h2 : Srt lt l m b) (hc : ∀ p q, a ≤ p → p < m → m ≤ q → q < b → lt (l.getD q default) (l.getD p default) = false) : Srt lt l a b := fun p q x y z => by
  by_cases hq : q < m
  · exact h1 p q x y hq
  · by_cases hp : p < m
    · exact hc p q x hp (by omega) z
    · exact h2 p q (by omega) y z
/-- What the rotation leaves: two halves, each of two sorted parts; none of the right before one of the left. -/
structure Half (lt : α → α → Bool) (l cur : List α) (a s mid e b : Nat) : Prop where
  st : Stab lt l cur
  fr : Fram a b l cur
  cr : ∀ p q, a ≤ p → p < mid → mid ≤ q → q < b → lt (cur.getD q default) (cur.getD p default) = false
  s1 : Srt lt cur a s
  s2 : Srt lt cur s mid
  s3 : Srt lt cur mid e
  s4 : Srt lt cur e b
theorem Half.left {lt : α → α → Bool} {l c1 c2 : List α} {a s mid e b : Nat} (h : Half lt l c1 a s mid e b) (hb : b ≤ l.length) (hm : mid ≤ e) (hmb : e ≤ b) (st : Stab lt c1 c2) (fr : Fram a mid c1 c2) (so : Srt lt c2 a mid) : Half lt l c2 a mid mid e b := by
  have hl := h.fr.1
  refine ⟨h.st.trans st, h.fr.trans (fr.mono (Nat.le_refl _) (by omega)), fun p q a1 a2 a3 a4 => ?_, so, .one (by omega), h.s3.fram fr (.inr (Nat.le_refl _)), h.s4.fram fr (.inr hm)⟩
  obtain ⟨j, b1, b2, b3⟩ := win_of st fr (by omega) a1 a2
  rw [b3, fr.2 q (.inr a3)]
  exact h.cr _ _ b1 b2 a3 a4
theorem Half.right {lt : α → α → Bool} {l c2 c3 : List α} {a mid e b : Nat} (h : Half lt l c2 a mid mid e b) (hb : b ≤ l.length) (ha : a ≤ mid) (hm : mid ≤ b) (st : Stab lt c2 c3) (fr : Fram mid b c2 c3) (so : Srt lt c3 mid b) : Stab lt l c3 ∧ Fram a b l c3 ∧ Srt lt c3 a b := by
  have hl := h.fr.1
  refine ⟨h.st.trans st, h.fr.trans (fr.mono ha (Nat.le_refl _)), (h.s1.fram fr (.inl (Nat.le_refl _))).glue so fun p q a1 a2 a3 a4 => ?_⟩
  obtain ⟨j, b1, b2, b3⟩ := win_of st fr (by omega) a3 a4
  rw [b3, fr.2 p (.inl a2)]
  exact h.cr _ _ a1 a2 b1 b2
/-- Each block of bs is sorted, up to n. -/
def Blk (lt : α → α → Bool) (l : List α) (bs n : Nat) : Prop := ∀ t p q, t * bs ≤ p → p < q → q < (t + 1) * bs → q < n → lt (l.getD q default) (l.getD p default) = false
theorem Blk.all {lt : α → α → Bool} {l : List α} {bs n : Nat} (h : Blk lt l bs n) (hn : n ≤ bs) : Srt lt l 0 n := fun p q a1 a2 a3 => h 0 p q (by omega) a2 (by omega) a3
end
end Go.HL
namespace Go.HL
open Go
theorem bless_irr : ∀ a : List UInt8, Op.bytesLess a a = false
  | [] => rfl
  | x :: a => by unfold Op.bytesLess; simp [bless_irr a, UInt8.lt_irrefl]
theorem bless_tr : ∀ a b c : List UInt8, Op.bytesLess a b = true → Op.bytesLess b c = true → Op.bytesLess a c = true
  | _, [], _, h, _ => by cases ‹List UInt8› <;> simp [Op.bytesLess] at h
  | [], _ :: _, [], _, h => by simp [Op.bytesLess] at h
  | [], _ :: _, _ :: _, _, _ => rfl
  | _ :: _, _ :: _, [], _, h => by simp [Op.bytesLess] at h
  | x :: a, y :: b, z :: c, h1, h2 => by
    have ih := bless_tr a b c
    unfold Op.bytesLess at h1 h2 ⊢
    simp only [Bool.or_eq_true, Bool.and_eq_true, decide_eq_true_eq, beq_iff_eq, UInt8.lt_iff_toNat_lt, ← UInt8.toNat_inj] at *
    grind
theorem bless_tri : ∀ a b : List UInt8, Op.bytesLess a b = false → Op.bytesLess b a = false → a = b
  | [], [], _, _ => rfl
  | [], _ :: _, h, _ => by simp [Op.bytesLess] at h
  | _ :: _, [], _, h => by simp [Op.bytesLess] at h
  | x :: a, y :: b, h1, h2 => by
    have ih := bless_tri a b
    unfold Op.bytesLess at h1 h2
    simp only [Bool.or_eq_false_iff, Bool.and_eq_false_iff, decide_eq_false_iff_not, beq_eq_false_iff_ne, UInt8.lt_iff_toNat_lt, ne_eq, ← UInt8.toNat_inj] at h1 h2
    have hxy : x = y := UInt8.toNat_inj.1 (by omega)
    subst hxy
    rw [ih (by simpa using h1.2) (by simpa using h2.2)]
def bl (a b : ByteArray) : Bool := Op.bytesLess a.toList b.toList
def ltS (x y : Sec) : Bool := decide (x.addr < y.addr) || (decide (x.addr = y.addr) && bl x.name y.name)
def ltP (x y : SecV) : Bool := ltS x.pl y.pl
theorem ltS_tri {x y : Sec} (h1 : ltS x y = false) (h2 : ltS y x = false) : x.addr = y.addr ∧ x.name = y.name := by
  simp only [ltS, Bool.or_eq_false_iff, Bool.and_eq_false_iff, decide_eq_false_iff_not] at h1 h2
  have ha : x.addr = y.addr := by
    have a1 := h1.1
    have a2 := h2.1
    rw [UInt32.lt_iff_toNat_lt] at a1 a2
    exact UInt32.toNat_inj.1 (by omega)
  refine ⟨ha, ?_⟩
  have b1 := h1.2.resolve_left (by simp [ha])
  have b2 := h2.2.resolve_left (by simp [ha])
  have := bless_tri _ _ b1 b2
  have e : x.name.data.toList = y.name.data.toList := by rwa [Go.ByteArray.toList_eq, Go.ByteArray.toList_eq] at this
  generalize x.name = p at e ⊢
  generalize y.name = q at e ⊢
  cases p; cases q
  simp only [ByteArray.mk.injEq]
  exact Array.toList_inj.1 e
theorem ltS_key {x y x' y' : Sec} (h1 : x.addr = x'.addr) (h2 : x.name = x'.name) (h3 : y.addr = y'.addr) (h4 : y.name = y'.name) : ltS x y = ltS x' y' := by simp only [ltS, h1, h2, h3, h4]
theorem ltS_tr {x y z : Sec} (h1 : ltS x y = true) (h2 : ltS y z = true) : ltS x z = true := by
  simp only [ltS, Bool.or_eq_true, Bool.and_eq_true, decide_eq_true_eq] at *
  rcases h1 with h1 | ⟨h1, k1⟩ <;> rcases h2 with h2 | ⟨h2, k2⟩
  · left; rw [UInt32.lt_iff_toNat_lt] at *; omega
  · left; rw [← h2]; exact h1
  · left; rw [h1]; exact h2
  · right; exact ⟨h1.trans h2, bless_tr _ _ _ k1 k2⟩
theorem wo_ltS : WO ltS where
  irr x := by simp [ltS, bl, bless_irr, UInt32.lt_irrefl]
  tr x y z := ltS_tr
  ntr x y z h1 h2 := by
    cases h3 : ltS x z
    · rfl
    · cases h4 : ltS y x
      · obtain ⟨k1, k2⟩ := ltS_tri h1 h4
        rw [ltS_key k1 k2 rfl rfl] at h3
        rw [h3] at h2; cases h2
      · rw [ltS_tr h4 h3] at h2; cases h2
theorem Stab.pl {xs ys : List SecV} (h : Stab ltP xs ys) : Stab ltS (xs.map SecV.pl) (ys.map SecV.pl) :=
  ⟨h.1.map _, fun z => by
    rw [List.filter_map, List.filter_map]
    have := h.2 ⟨z.name, z.addr, z.data, none, 0, z.wr, z.ex⟩
    exact congrArg (List.map SecV.pl) this⟩
theorem Stab.append {α : Type} {lt : α → α → Bool} {a b : List α} (h : Stab lt a b) (c : List α) : Stab lt (a ++ c) (b ++ c) :=
  ⟨h.1.append_right c, fun z => by rw [List.filter_append, List.filter_append, h.2 z]⟩
/-- ys is ls sorted. -/
def SortedOf (ls ys : List Sec) : Prop := Stab ltS ls ys ∧ ys.Pairwise fun x y => ltS y x = false
theorem SortedOf.eq {ls xs ys : List Sec} (h : SortedOf ls xs) (k : SortedOf ls ys) : xs = ys := stab_uniq wo_ltS _ _ (h.1.symm.trans k.1) h.2 k.2
theorem Pick.tl (e : Ent) : ∀ L : List Ent, Pick (e :: L) L
  | [] => .nil _
  | _ :: L => .cons (.there _ (.here _)) (Pick.tl e L)
def SrtAt (ls : List Sec) (h : Hp) (i : Value × List Sec) : Prop := SecsAt h i.2 i.1 ∧ SortedOf ls i.2
theorem SrtAt.mono {ls : List Sec} {h h' : Hp} {i : Value × List Sec} (s : SrtAt ls h i) (hh : Hp.le h h') : SrtAt ls h' i := ⟨s.1.mono hh, s.2⟩
end Go.HL
namespace Go.HL
open Go
theorem kept_iff (i : Ins) (s : Int) : keptP i s = i ↔ ((s = 4 ∨ s = 5 ∨ s = 6 ∨ s = 7 ∨ s = 8) ∨ i.imm = 0) ∧ ((5 ≤ i.op ∧ i.op ≤ 15 ∨ i.op = 20) ∨ i.form = 0) ∧ ((i.op = 16 ∨ i.op = 17 ∨ i.op = 18) ∨ i.width = 0) ∧
    ((i.op = 20 ∨ i.op = 25) ∨ i.cc = 0) ∧ ((s = 1 ∨ s = 2 ∨ s = 3 ∨ s = 4 ∨ s = 5 ∨ s = 6) ∨ i.a = 0) ∧ ((s = 3 ∨ s = 5) ∨ i.b = 0) := by
  obtain ⟨addr, imm, op, form, width, cc, a, b, size⟩ := i
  have key : ∀ (p : Prop) [Decidable p] (x : Int), ((if p then x else 0) = x) ↔ (p ∨ x = 0) := fun p _ x => by
    by_cases h : p
    · simp [h]
    · simp [h]; exact eq_comm
  have key2 : ∀ (p : Prop) [Decidable p] (x : UInt32), ((if p then x else 0) = x) ↔ (p ∨ x = 0) := fun p _ x => by
    by_cases h : p
    · simp [h]
    · simp [h]; exact eq_comm
  simp only [keptP, Ins.mk.injEq, key, key2, true_and, and_true]
theorem err_of {i : Ins} {c : UInt8} {s : Int} (h : opcodeP i = (c, s, true)) : errP i = if ¬ (regP i.a = true ∧ regP i.b = true ∧ keptP i s = i) then 2 else if (s = 4 ∨ s = 5) ∧ narrowP i.imm = false ∨ s = 7 ∧ narrowP (i.imm - i.addr - 2) = false then 7 else 0 := by
  unfold errP
  simp only [h]
  by_cases h1 : regP i.a = true <;> by_cases h2 : regP i.b = true <;> by_cases h3 : keptP i s = i <;> simp [h1, h2, h3]
end Go.HL
namespace Go.HL
open Go
theorem u8_of_byte (x : UInt8) : u8 (x.toNat : Nat) = x := by
  apply UInt8.toNat_inj.1
  have h := u8_toNat (x.toNat : Nat)
  have := x.toNat_lt
  omega
theorem sub_add32 (a b c : UInt32) : a - (b + c) = a - b - c := by
  apply UInt32.toNat_inj.1
  have ha := a.toNat_lt; have hb := b.toNat_lt; have hc := c.toNat_lt
  simp only [UInt32.toNat_sub, UInt32.toNat_add]
  omega
end Go.HL
namespace Go.HL
open Go Go.Sort
open Go.Proofs (ltOf)
def compF {α : Type} [DecidableEq α] : α → List α → List α
  | _, [] => []
  | x, y :: t => if y = x then compF x t else y :: compF y t
def compactP {α : Type} [DecidableEq α] : List α → List α
  | [] => []
  | x :: t => x :: compF x t
theorem compF_snoc {α : Type} [DecidableEq α] : ∀ (x : α) (l : List α) (y : α), compF x (l ++ [y]) = if y = (x :: l).getLast (by simp) then compF x l else compF x l ++ [y]
  | x, [], y => by simp only [List.nil_append, compF, List.getLast_singleton]; by_cases h : y = x <;> simp [h]
  | x, z :: t, y => by
    have ih1 := compF_snoc z t y
    have ih2 := compF_snoc x t y
    have e : (x :: z :: t).getLast (by simp) = (z :: t).getLast (by simp) := by simp
    rw [e]
    by_cases h : z = x
    · subst h
      simp only [List.cons_append, compF, if_true, ih1]
    · simp only [List.cons_append, compF, h, if_false, ih1]
      split <;> rfl
theorem compact_snoc {α : Type} [DecidableEq α] [Inhabited α] {l : List α} {k : Nat} (h0 : 0 < k) (h : k < l.length) : compactP (l.take (k + 1)) = if l.getD k default = l.getD (k - 1) default then compactP (l.take k) else compactP (l.take k) ++ [l.getD k default] := by
  rw [take_succ h]
  cases l with
  | nil => simp at h
  | cons x t =>
    obtain ⟨j, rfl⟩ : ∃ j, k = j + 1 := ⟨k - 1, by omega⟩
    simp only [List.take_succ_cons, List.cons_append, compactP]
    rw [compF_snoc]
    have e : (x :: t.take j).getLast (by simp) = (x :: t).getD (j + 1 - 1) default := by
      rw [List.getLast_eq_getElem]
      simp only [List.length_cons, List.length_take, Nat.add_sub_cancel]
      have hj : j ≤ t.length := by simp at h; omega
      simp only [Nat.min_eq_left hj]
      cases j with
      | zero => simp
      | succ j => simp [List.getD_eq_getElem?_getD, show j < t.length by omega]
    rw [e]
    split <;> rfl
/-- No two neighbours alike. -/
theorem compact_same {α : Type} [DecidableEq α] [Inhabited α] {l : List α} : ∀ {k : Nat}, k ≤ l.length → (∀ j, 0 < j → j < k → l.getD j default ≠ l.getD (j - 1) default) → compactP (l.take k) = l.take k
  | 0, _, _ => by simp [compactP]
  | k + 1, h, hne => by
    by_cases h0 : k = 0
    · subst h0
      cases l with
      | nil => simp at h
      | cons x t => simp [compactP, compF]
    · rw [compact_snoc (by omega) (by omega), if_neg (hne k (by omega) (by omega)), compact_same (by omega) (fun j a b => hne j a (by omega)), take_succ (by omega)]
def hasU (l : List UInt32) (a : UInt32) : Bool := l.any fun x => decide (a = x)
end Go.HL
namespace Go.HL
open Go Go.Sort
open Go.Proofs (ltOf)
section
variable {α : Type} [DecidableEq α] [Inhabited α]
/-- How many at the front satisfy p. -/
def idxW (p : α → Bool) (l : List α) : Nat := (l.takeWhile p).length
theorem idxW_lt {p : α → Bool} : ∀ {l : List α} {j : Nat}, j < idxW p l → p (l.getD j default) = true
  | [], j, h => by simp [idxW] at h
  | x :: t, j, h => by
    unfold idxW at h
    rw [List.takeWhile_cons] at h
    split at h
    · rename_i hx
      cases j with
      | zero => exact hx
      | succ j => simpa [List.getD_eq_getElem?_getD] using idxW_lt (p := p) (l := t) (j := j) (by unfold idxW; simpa using h)
    · simp at h
theorem idxW_stop {p : α → Bool} : ∀ {l : List α}, idxW p l < l.length → p (l.getD (idxW p l) default) = false
  | [], h => by simp at h
  | x :: t, h => by
    unfold idxW at h ⊢
    rw [List.takeWhile_cons] at h ⊢
    split at h
    · rename_i hx
      rw [if_pos hx]
      have ih := idxW_stop (p := p) (l := t) (by unfold idxW; simpa using h)
      unfold idxW at ih
      simpa [List.getD_eq_getElem?_getD] using ih
    · rename_i hx; rw [if_neg hx]; simpa using hx
def insR (lt : α → α → Bool) (l : List α) (x : α) : List α :=
  if idxW (fun y => lt y x) l < l.length ∧ l.getD (idxW (fun y => lt y x) l) default = x then l else l.take (idxW (fun y => lt y x) l) ++ [x] ++ l.drop (idxW (fun y => lt y x) l)
theorem insR_len (lt : α → α → Bool) (l : List α) (x : α) : (insR lt l x).length ≤ l.length + 1 := by
  unfold insR
  split
  · omega
  · simp; omega
/-- A strict order in which any two differ or are the same. -/
structure LO (lt : α → α → Bool) : Prop where
  irr : ∀ x, lt x x = false
  tr : ∀ x y z, lt x y = true → lt y z = true → lt x z = true
  tri : ∀ x y, lt x y = false → lt y x = false → x = y
theorem insR_mem {lt : α → α → Bool} {l : List α} {x y : α} : y ∈ insR lt l x ↔ y ∈ l ∨ y = x := by
  unfold insR
  split
  · rename_i h
    refine ⟨.inl, fun h2 => ?_⟩
    rcases h2 with h2 | rfl
    · exact h2
    · rw [← h.2]; exact mem_getD h.1
  · rw [List.mem_append, List.mem_append, List.mem_singleton]
    constructor
    · rintro ((h | h) | h)
      · exact .inl (List.mem_of_mem_take h)
      · exact .inr h
      · exact .inl (List.mem_of_mem_drop h)
    · rintro (h | h)
      · rw [← List.take_append_drop (idxW (fun y => lt y x) l) l] at h
        rcases List.mem_append.1 h with h | h
        · exact .inl (.inl h)
        · exact .inr h
      · exact .inl (.inr h)
theorem pair_get {R : α → α → Prop} {l : List α} (h : l.Pairwise R) {i j : Nat} (hi : i < j) (hj : j < l.length) : R (l.getD i default) (l.getD j default) := by
  have := List.pairwise_iff_getElem.1 h i j (by omega) hj hi
  rw [List.getD_eq_getElem?_getD, List.getD_eq_getElem?_getD, List.getElem?_eq_getElem (by omega), List.getElem?_eq_getElem hj]
  exact this
theorem insR_sorted {lt : α → α → Bool} (hO : LO lt) {l : List α} {x : α} (h : l.Pairwise fun a b => lt a b = true) : (insR lt l x).Pairwise fun a b => lt a b = true := by
  unfold insR
  split
  · exact h
  · rename_i hne
    have hp := h
    have h1 : ∀ a ∈ l.take (idxW (fun y => lt y x) l), lt a x = true := fun a ha => by
      obtain ⟨j, hj, rfl⟩ := List.mem_take_iff_getElem.1 ha
      have := idxW_lt (p := fun y => lt y x) (l := l) (j := j) (by omega)
      rw [List.getD_eq_getElem?_getD, List.getElem?_eq_getElem (by omega)] at this
      exact this
    have h2 : ∀ b ∈ l.drop (idxW (fun y => lt y x) l), lt x b = true := fun b hb => by
      obtain ⟨j, hj, rfl⟩ := List.mem_drop_iff_getElem.1 hb
      have hlt : idxW (fun y => lt y x) l < l.length := by omega
      have hs := idxW_stop (p := fun y => lt y x) hlt
      have hx : lt x (l.getD (idxW (fun y => lt y x) l) default) = true := by
        cases c : lt x (l.getD (idxW (fun y => lt y x) l) default)
        · exact absurd ⟨hlt, hO.tri _ _ hs c⟩ hne
        · rfl
      have e : l[idxW (fun y => lt y x) l + j] = l.getD (idxW (fun y => lt y x) l + j) default := by rw [List.getD_eq_getElem?_getD, List.getElem?_eq_getElem (by omega)]; rfl
      rw [e]
      by_cases c : j = 0
      · subst c; exact hx
      · exact hO.tr _ _ _ hx (pair_get hp (by omega) (by omega))
    rw [List.append_assoc]
    refine List.pairwise_append.2 ⟨h.sublist (List.take_sublist _ _), List.pairwise_append.2 ⟨by simp, h.sublist (List.drop_sublist _ _), fun a ha b hb => ?_⟩, fun a ha b hb => ?_⟩
    · simp at ha; subst ha; exact h2 b hb
    · rcases List.mem_append.1 hb with hb | hb
      · simp at hb; subst hb; exact h1 a ha
      · exact hO.tr _ _ _ (h1 a ha) (h2 b hb)
theorem compact_mem {lt : α → α → Bool} : ∀ (x : α) (l : List α) (y : α), y ∈ x :: compF x l ↔ y ∈ x :: l
  | x, [], y => by simp [compF]
  | x, z :: t, y => by
    unfold compF
    split
    · rename_i e
      subst e
      rw [compact_mem (lt := lt) z t y]; simp
    · rw [List.mem_cons, compact_mem (lt := lt) z t y]; simp
/-- A sorted list without repeats. -/
theorem compact_lo {lt : α → α → Bool} (hO : LO lt) {l : List α} (h : l.Pairwise fun a b => lt b a = false) : (compactP l).Pairwise (fun a b => lt a b = true) ∧ ∀ y, y ∈ compactP l ↔ y ∈ l := by
  have key : ∀ (t : List α) (x : α), (x :: t).Pairwise (fun a b => lt b a = false) → (x :: compF x t).Pairwise (fun a b => lt a b = true) := by
    intro t
    induction t with
    | nil => intro x _; simp [compF]
    | cons z t ih =>
      intro x hx
      have hp := List.pairwise_cons.1 hx
      have hp2 := List.pairwise_cons.1 hp.2
      unfold compF
      split
      · rename_i e; subst e; exact ih z hp.2
      · rename_i hne
        refine List.pairwise_cons.2 ⟨fun y hy => ?_, ih z hp.2⟩
        have hxz : lt x z = true := by
          cases c : lt x z
          · exact absurd (hO.tri _ _ (hp.1 z (.head _)) c) hne
          · rfl
        have hy' := (compact_mem (lt := lt) z t y).1 hy
        rcases List.mem_cons.1 hy' with e | hy'
        · subst e; exact hxz
        · cases c : lt z y
          · have := hO.tri _ _ c (hp2.1 y hy')
            rw [← this]; exact hxz
          · exact hO.tr _ _ _ hxz c
  cases l with
  | nil => exact ⟨by simp [compactP], fun y => by simp [compactP]⟩
  | cons x t => exact ⟨key t x h, fun y => compact_mem (lt := lt) x t y⟩
end
def ltU (x y : UInt32) : Bool := decide (x < y)
theorem lo_ltU : LO ltU where
  irr x := by simp [ltU]
  tr x y z h1 h2 := by simp only [ltU, decide_eq_true_eq, UInt32.lt_iff_toNat_lt] at *; omega
  tri x y h1 h2 := by
    simp only [ltU, decide_eq_false_iff_not, UInt32.lt_iff_toNat_lt] at *
    exact UInt32.toNat_inj.1 (by omega)
end Go.HL
namespace Go.HL
open Go Go.RowKit
section
variable {P : Program} {ops : Array Oper} {Q : Exit → Act → World → Prop} {N : Nat} {F : Bg} {L : List Ent} {M : Fr} {dst : Option Tmp} {ty : TypeId} {pos : String} {after : Array Edge} {g : Option (Nat × Bool)} {rest : List Oper} {d : Nat}
theorem resl_row {α : Type} {E : Enc α} {xs : List α} {V : Value} {T : TypeId} {w : World} (h : (rowE V T E xs).holds w) {l m : Nat} (hl : l < m) (hm : m ≤ xs.length) :
    ∃ gb cap, V = .slice (some ⟨gb, 0, none⟩) xs.length cap ∧ HL.resl V l m E.k = .slice (some ⟨gb, l * E.k, none⟩) (m - l) (cap - l) := by
  have hV' : RowOK V T E xs (V.ownBlock.bind (w.heap[·]?)) := h
  rcases hV' with ⟨rfl, rfl⟩ | ⟨gb, cap, cur, rfl, ho, k1, k2, k3, k4⟩
  · simp at hm; omega
  · refine ⟨gb, cap, rfl, ?_⟩
    have : cap ≠ l := by omega
    simp only [HL.resl, this, if_false, Option.map_some, Addr.add_lit, Nat.zero_add]
theorem QS.idxResl {α : Type} {E : Enc α} {xs : List α} {x y : Operand} {t e T : TypeId} {V : Value} {k l m : Nat} {kk : IntKind} {i : Int} (hx : opv M x = some (HL.resl V l m E.k)) (hy : opv M y = some (.int kk i)) (hs : rowE V T E xs ∈ L)
    (ht : P.underlying t = some (.slice e)) (hz : ∀ w, (sizeOf e).run P w = .ok k w) (hk : k = E.k) (hi : 0 ≤ i ∧ (l : Int) + i < m) (hm : m ≤ xs.length) :
    QS P N F L M ⟨dst, .indexAddr t x y, ty, pos, after, g⟩ (.pointer (some ⟨bk V, ofs V + (l + i.toNat) * E.k, none⟩)) :=
  QS.of_run fun A w ha hw => by
    obtain ⟨gb, cap, hV, hr⟩ := resl_row (hw.ent _ hs) (l := l) (m := m) (by omega) hm
    have h := indexAt_run (P := P) (V := V) (c := cap - l) (n := m - l) (kk := kk) (i := i) ht hz w (by omega) gb (l * E.k) rfl
    subst hk
    rw [hr] at hx
    have e1 : bk V = gb := by rw [hV]; rfl
    have e2 : ofs V = 0 := by rw [hV]; rfl
    rw [e1, e2]
    simp [execOp, ha.eval hx, ha.eval hy, h, Nat.add_mul]
theorem QS.lenResl {α : Type} {E : Enc α} {xs : List α} {x : Operand} {t e T : TypeId} {V : Value} {l m k : Nat} (hx : opv M x = some (HL.resl V l m k)) (hs : rowE V T E xs ∈ L) (ht : P.underlying t = some (.slice e)) :
    QS P N F L M ⟨dst, .call { callee := .builtin .len, args := #[x], argTypes := #[t] }, ty, pos, after, g⟩ (.int .i64 ((m - l : Nat) : Int)) :=
  QS.lenOf (a := none) (c := 0) hx (fun w hw => by
    have hV' : RowOK V T E xs (V.ownBlock.bind (w.heap[·]?)) := hw.ent _ hs
    rcases hV' with ⟨rfl, rfl⟩ | ⟨gb, cap, cur, rfl, _⟩
    · exact ⟨_, _, rfl⟩
    · exact ⟨_, _, rfl⟩) ht
theorem QS.sliceFrom {α : Type} {E : Enc α} {xs : List α} {x y : Operand} {t e T : TypeId} {V : Value} {k n : Nat} (hx : opv M x = some V) (hs : rowE V T E xs ∈ L) (hy : opv M y = some (.int .i64 (n : Nat)))
    (ht : P.underlying t = some (.slice e)) (hz : ∀ w, (sizeOf e).run P w = .ok k w) (hk : k = E.k) (hn : n ≤ xs.length) : QS P N F L M ⟨dst, .slice t x (some y) none none, ty, pos, after, g⟩ (HL.resl V n xs.length E.k) :=
  QS.sliceRow (lv := some (.i64, (n : Int))) (hv := none) hx hs (by simp [hy]) rfl ht hz hk (by simp [loOf]) (by simp [loOf, hiOf]; omega) (by simp [hiOf])
theorem QS.sliceTo {α : Type} {E : Enc α} {xs : List α} {x y : Operand} {t e T : TypeId} {V : Value} {k n : Nat} (hx : opv M x = some V) (hs : rowE V T E xs ∈ L) (hy : opv M y = some (.int .i64 (n : Nat)))
    (ht : P.underlying t = some (.slice e)) (hz : ∀ w, (sizeOf e).run P w = .ok k w) (hk : k = E.k) (hn : n ≤ xs.length) : QS P N F L M ⟨dst, .slice t x none (some y) none, ty, pos, after, g⟩ (HL.resl V 0 n E.k) :=
  QS.sliceRow (lv := none) (hv := some (.i64, (n : Int))) hx hs rfl (by simp [hy]) ht hz hk (by simp [loOf]) (by simp [loOf, hiOf]) (by simp [hiOf]; omega)
theorem rowE.resl0 {α : Type} {E : Enc α} {xs : List α} {V : Value} {T : TypeId} {w : World} (h : (rowE V T E xs).holds w) {k : Nat} (hk : k ≤ xs.length) : (rowE (HL.resl V 0 k E.k) T E (xs.take k)).holds w ∧ (HL.resl V 0 k E.k).ownBlock = V.ownBlock := by
  have hV' : RowOK V T E xs (V.ownBlock.bind (w.heap[·]?)) := h
  rcases hV' with ⟨rfl, rfl⟩ | ⟨gb, cap, cur, rfl, ho, k1, k2, k3, k4⟩
  · have : k = 0 := by simpa using hk
    subst this
    exact ⟨.inl ⟨rfl, rfl⟩, rfl⟩
  · have e : HL.resl (.slice (some ⟨gb, 0, none⟩) xs.length cap) 0 k E.k = .slice (some ⟨gb, 0, none⟩) k cap := by
      simp only [HL.resl, Nat.zero_mul, Nat.sub_zero]
      split
      · rfl
      · simp [Addr.add_lit]
    rw [e]
    refine ⟨.inr ⟨gb, cap, cur, ?_, ho, ?_, k2, k3, ?_⟩, rfl⟩
    · rw [List.length_take, Nat.min_eq_left hk]
    · rw [List.length_take]; omega
    · rw [List.length_take, Nat.min_eq_left hk]
      have e2 : k * E.k ≤ xs.length * E.k := Nat.mul_le_mul_right _ hk
      have : cur.toList.take (k * E.k) = (cur.toList.take (xs.length * E.k)).take (k * E.k) := by rw [List.take_take, Nat.min_eq_left e2]
      rw [this, k4]
      have h3 : xs.flatMap E.enc = (xs.take k).flatMap E.enc ++ (xs.drop k).flatMap E.enc := by rw [← List.flatMap_append, List.take_append_drop]
      have h4 : ((xs.take k).flatMap E.enc).length = k * E.k := by rw [flatMap_length, List.length_take, Nat.min_eq_left hk]
      rw [h3, ← h4, List.take_left]
theorem zeroCells_toList (z : Array Value) : ∀ n, (Builtin.zeroCells z n).toList = (List.replicate n z.toList).flatten
  | 0 => by simp [Builtin.zeroCells]
  | n + 1 => by
    have ih := zeroCells_toList z n
    rw [List.replicate_succ', List.flatten_append, ← ih]
    simp only [Builtin.zeroCells, Array.toList_map, Array.toList_range, Nat.add_mul, Nat.one_mul, List.range_add, List.map_append, List.map_map, List.flatten_cons, List.flatten_nil, List.append_nil]
    congr 1
    apply List.ext_getElem (by simp)
    intro i h1 h2
    simp only [List.length_map, List.length_range] at h1
    simp [Nat.mul_add_mod_self_right, Nat.mod_eq_of_lt h1, h1]
theorem flat_replicate {α : Type} (E : Enc α) (z : α) : ∀ n, (List.replicate n z).flatMap E.enc = (List.replicate n (E.enc z)).flatten
  | 0 => rfl
  | n + 1 => by rw [List.replicate_succ, List.replicate_succ, List.flatMap_cons, List.flatten_cons, flat_replicate E z n]
/-- clear(s[k:]) of one's own slice. -/
theorem Tr.clearResl {α : Type} {E : Enc α} {xs : List α} (z : α) {x : Operand} {V zv : Value} {t e : TypeId} {k kk : Nat} {L' : List Ent} {dst : Option Tmp} (hx : opv M x = some (HL.resl V k xs.length E.k)) (hput : Put (rowE V e E xs) (rowE V e E (xs.take k ++ List.replicate (xs.length - k) z)) L L')
    (hk : k < xs.length) (ht : P.underlying t = some (.slice e)) (hz : ∀ w, (zeroValue e).run P w = .ok zv w) (hzc : zv.cells.toList = E.enc z) (hk0 : kk = E.k) (hdst : dst = none)
    (K : Tr N F L' M (wpList P ops Q rest)) : Tr N F L M (wpList P ops Q (⟨dst, .call { callee := .builtin .clear, args := #[x], argTypes := #[t] }, ty, pos, after, none⟩ :: rest)) := by
  subst hdst
  intro a w ha hw
  refine wpList_plain rfl fun K' hK => ?_
  have hV := hw.ent _ hput.mem
  obtain ⟨gb, cap, hVe, hr⟩ := resl_row hV hk (Nat.le_refl _)
  have hV' : RowOK V e E xs (V.ownBlock.bind (w.heap[·]?)) := hV
  rcases hV' with ⟨rfl, rfl⟩ | ⟨gb', cap', cur, hVe', ho, k1, k2, k3, k4⟩
  · simp at hk
  · rw [hVe] at hVe'
    injection hVe' with q1 q2 q3
    injection q1 with q1
    injection q1 with q1
    subst q1 q3
    have ho' : w.heap[gb]? = some (.cells cur e (0, 0)) := by rw [hVe] at ho; exact ho
    obtain ⟨m, hm⟩ : ∃ m, xs.length - k = m + 1 := ⟨xs.length - k - 1, by omega⟩
    have hvs : (Builtin.zeroCells zv.cells (m + 1)).toList = (List.replicate (m + 1) z).flatMap E.enc := by rw [zeroCells_toList, hzc, flat_replicate]
    have hlen : ((List.replicate (m + 1) z).flatMap E.enc).length = (m + 1) * E.k := by rw [flatMap_length, List.length_replicate]
    have hkm : k * E.k + (m + 1) * E.k = xs.length * E.k := by rw [← Nat.add_mul, ← hm]; congr 1; omega
    have hxc : xs.length * E.k ≤ cap * E.k := Nat.mul_le_mul_right _ k1
    have hst := run_storeCells_at P gb (k * E.k) e ((List.replicate (m + 1) z).flatMap E.enc) 0 cur w ho' (by rw [hlen]; omega) (fun v hv => by
      obtain ⟨y, _, hy⟩ := List.mem_flatMap.1 hv
      exact E.one y v hy)
    rw [Nat.add_zero] at hst
    have hrun : (Builtin.clear_ #[t] ty #[HL.resl V k xs.length E.k]).run P w = .ok (.tuple #[]) (w.setRow gb (cur.toList.take (k * E.k) ++ (List.replicate (m + 1) z).flatMap E.enc ++ cur.toList.drop (k * E.k + ((List.replicate (m + 1) z).flatMap E.enc).length)).toArray) := by
      rw [hr, hm]
      simp only [Builtin.clear_]
      simp [run_underlying ht, hz, hvs, hst, Result.andThen]
    unfold Oper.wp execOp
    simp only [resolve, invoke, builtin, Sem.run_bind, Sem.run_pure, Result.andThen_ok, List.map_toArray, List.map_cons, List.map_nil, ha.eval hx, hrun]
    refine hK _ _ (K _ _ ha (hw.mut hput ⟨rfl, rfl, rfl, by simp, Nat.le_refl _, fun j hj hne => setRow_other w gb j _ (fun q => hne (by rw [hVe, q]; rfl))⟩ ?_))
    refine .inr ⟨gb, cap, (cur.toList.take (k * E.k) ++ (List.replicate (m + 1) z).flatMap E.enc ++ cur.toList.drop (k * E.k + ((List.replicate (m + 1) z).flatMap E.enc).length)).toArray, ?_, ?_, ?_, k2, ?_, ?_⟩
    · rw [hVe, List.length_append, List.length_take, List.length_replicate]; congr 1; omega
    · rw [hVe]; exact setRow_heap w gb _ _ e (0, 0) ho'
    · rw [List.length_append, List.length_take, List.length_replicate]; omega
    · rw [List.size_toArray, List.length_append, List.length_append, List.length_take, List.length_drop, hlen, Array.length_toList]; omega
    · rw [hm, List.length_append, List.length_take, List.length_replicate, Nat.min_eq_left (by omega), Nat.add_mul, List.flatMap_append]
      have e1 : cur.toList.take (k * E.k) = (xs.take k).flatMap E.enc := by
        have e2 : k * E.k ≤ xs.length * E.k := Nat.mul_le_mul_right _ (by omega)
        have : cur.toList.take (k * E.k) = (cur.toList.take (xs.length * E.k)).take (k * E.k) := by rw [List.take_take, Nat.min_eq_left e2]
        rw [this, k4]
        have h3 : xs.flatMap E.enc = (xs.take k).flatMap E.enc ++ (xs.drop k).flatMap E.enc := by rw [← List.flatMap_append, List.take_append_drop]
        have h4 : ((xs.take k).flatMap E.enc).length = k * E.k := by rw [flatMap_length, List.length_take, Nat.min_eq_left (by omega)]
        rw [h3, ← h4, List.take_left]
      have e5 : (cur.toList.take (k * E.k)).length = k * E.k := by rw [e1, flatMap_length, List.length_take, Nat.min_eq_left (by omega)]
      rw [← hlen, List.append_assoc]
      show ((cur.toList.take (k * E.k) ++ _).take _) = _
      rw [show k * E.k + ((List.replicate (m + 1) z).flatMap E.enc).length = (cur.toList.take (k * E.k) ++ (List.replicate (m + 1) z).flatMap E.enc).length by rw [List.length_append, e5], ← List.append_assoc, List.take_left, e1]
end
end Go.HL
namespace Go.Proofs.Ytnmaokalpbnmaaa
open Go Go.HL Go.RowKit
set_option maxRecDepth 100000 in
set_option maxHeartbeats 2000000 in
theorem index_u32 (l : List UInt32) (V : Value) (a : UInt32) (w : World) (hV : Sl (hp w) encU32 l V) :
  Calls Try.prog 94 #[V, .int .u32 a.toNat] w (fun e w' => e = .returned (.int .i64 (idxP (fun x => decide (a = x)) 0 l)) ∧ Ext w w') := by
 have hV' : Sl (Bg.of w).blk encU32 l V := hV
 have hlen := hV.len_le
 refine enter Try.func94 rfl Try.ntmps94 rfl ?_
 refine Tr.seq (Tr.region ?_)
 refine Tr.q (QS.assign rfl) rfl ?_
 refine Tr.nil (Tr.thenN (Tr.seq (Tr.seq (Tr.region ?_))))
 refine Tr.q (QS.move rfl) rfl ?_
 refine Tr.q (QS.len rfl (by assumption) Try.underlying23) rfl ?_
 refine Tr.q (QS.move rfl) rfl ?_
 refine Tr.nil (Tr.thenN (Tr.block ?_))
 refine Tr.loop (ι := Nat) (fun k => k ≤ l.length ∧ idxP (fun x => decide (a = x)) k (l.drop k) = idxP (fun x => decide (a = x)) 0 l) (fun _ => _) (fun k => []) (fun k => [(8, .int .i64 (k : Nat))]) (fun k => l.length - k) 0 ⟨Nat.zero_le _, rfl⟩ (.cons (by first | rfl | exact lookI rfl (by omega) | exact lookI rfl (by simp) | exact lookB rfl (by simp)) Front.nil) (by repeat' constructor) rfl (fun k hi m hm => ?_)
 replace hi : k ≤ l.length ∧ idxP (fun x => decide (a = x)) k (l.drop k) = idxP (fun x => decide (a = x)) 0 l := hi
 replace hm : m = l.length - k := hm
 change Tr _ _ [] ([(8, .int .i64 (k : Nat))] ++ _) _
 obtain ⟨hk1, hk2⟩ := hi
 refine Tr.seq (Tr.region ?_)
 refine Tr.q (QS.lss rfl rfl) rfl ?_
 refine Tr.nil (Tr.thenN (Tr.seq ?_))
 refine Tr.cond rfl (fun h1 => ?_) (fun h1 => ?_)
 ·try simp only [bs] at h1
  refine Tr.skip (Tr.thenN (Tr.seq (Tr.block (Tr.seq (Tr.region ?_)))))
  refine Tr.q (QS.move rfl) rfl ?_
  refine Tr.q (QS.assign rfl) rfl ?_
  refine Tr.nil (Tr.thenN (Tr.seq (Tr.region ?_)))
  refine Tr.q (QS.move rfl) rfl ?_
  refine Tr.q (QS.move rfl) rfl ?_
  refine Tr.q (QS.move rfl) rfl ?_
  refine Tr.q (QS.idxN rfl rfl (by assumption) Try.underlying23 Try.sizeOf39 (by rfl) (by omega)) rfl ?_
  refine Tr.q (QS.el1 rfl (by assumption) Try.isAgg39 (by omega) (by rfl)) rfl ?_
  refine Tr.q (QS.eql32 rfl rfl) rfl ?_
  refine Tr.nil (Tr.thenN ?_)
  refine Tr.cond rfl (fun h2 => ?_) (fun h2 => ?_)
  ·try simp only [bs] at h2
   refine Tr.seq (Tr.region ?_)
   refine Tr.q (QS.move rfl) rfl ?_
   refine Tr.q (QS.assign rfl) rfl ?_
   refine Tr.nil (Tr.thenN (Tr.ret ?_))
   refine Tr.inR ?_
   refine Tr.thenR (Tr.thenR ?_)
   refine Tr.inR ?_
   refine Tr.thenR ?_
   refine Tr.ret1 Try.results94 rfl (fun w' hw => ?_)
   exact ⟨by rw [← hk2, drop_cons (k := k) (by omega), idxP, if_pos (by simp_all)], hw.below (Bg.le.refl _)⟩
  ·try simp only [bs] at h2
   refine Tr.skip (Tr.inN (Tr.thenN (Tr.region ?_)))
   refine Tr.q (QS.addI rfl rfl (by omega)) rfl ?_
   refine Tr.q (QS.move rfl) rfl ?_
   refine Tr.nil (Tr.thenN ?_)
   apply Tr.again (k + 1)
   ·exact rfl
   ·exact (.cons (by first | rfl | exact lookI rfl (by omega) | exact lookI rfl (by simp) | exact lookB rfl (by simp)) Front.nil)
   ·exact SubX.dropN 12 (by kernel_rfl) rfl
   ·exact (by repeat' constructor)
   ·exact ⟨by omega, by rw [← hk2, drop_cons (k := k) (by omega), idxP, if_neg (by simp_all)]⟩
   ·exact (by (try dsimp only); omega)
 ·try simp only [bs] at h1
  refine Tr.exit ?_
  refine Tr.thenE (Tr.thenE (Tr.inHit (Tr.thenN (Tr.seq (Tr.region ?_)))))
  refine Tr.q (QS.assign rfl) rfl ?_
  refine Tr.nil (Tr.thenN (Tr.ret ?_))
  refine Tr.ret1 Try.results94 rfl (fun w' hw => ?_)
  exact ⟨by rw [← hk2, List.drop_of_length_le (by omega)]; rfl, hw.below (Bg.le.refl _)⟩
set_option maxRecDepth 100000 in
set_option maxHeartbeats 2000000 in
theorem clone_u32 (l : List UInt32) (V : Value) (w : World) (hV : Sl (hp w) encU32 l V) (hb : l.length ≤ 1000000) :
  Calls Try.prog 41 #[V] w (fun e w' => ∃ V', e = .returned V' ∧ Ext w w' ∧ NewRow w w' 39 encU32 (l) V') := by
 have hV' : Sl (Bg.of w).blk encU32 l V := hV
 refine enter Try.func41 rfl Try.ntmps41 rfl ?_
 refine Tr.seq (Tr.region ?_)
 refine Tr.q (QS.assign rfl) rfl ?_
 refine Tr.nil (Tr.thenN (Tr.seq (Tr.seq (Tr.region ?_))))
 refine Tr.q (QS.move rfl) rfl ?_
 refine Tr.q (QS.eqlNilS rfl (by assumption) Try.underlying23) rfl ?_
 refine Tr.nil (Tr.thenN ?_)
 refine Tr.cond rfl (fun h1 => ?_) (fun h1 => ?_)
 ·try simp only [bs] at h1
  refine Tr.seq (Tr.region ?_)
  refine Tr.q (QS.assign rfl) rfl ?_
  refine Tr.nil (Tr.thenN (Tr.ret (Tr.thenR ?_)))
  refine Tr.ret1 Try.results41 rfl (fun w' hw => ?_)
  exact ⟨_, rfl, hw.below (Bg.le.refl _), newRow_nil (hV.isNil h1)⟩
 ·try simp only [bs] at h1
  refine Tr.skip (Tr.thenN (Tr.seq (Tr.region ?_)))
  refine Tr.lit0 encU32 Try.underlying23 Try.sizeOf39 rfl (fun V2 => ?_)
  refine Tr.q (QS.move rfl) rfl ?_
  refine Tr.appendOf rfl rfl (by repeat constructor) (fun w hw => hw.slF (by assumption)) Try.underlying23 HLF.info39 (by rfl) (by rfl) (by (try simp only [List.length_cons, List.length_nil, List.length_append, List.length_take]); omega) (by unfold maxLen; (try simp only [List.length_cons, List.length_nil, List.length_append, List.length_take]); omega) rfl (fun V3 => ?_)
  refine Tr.q (QS.assign rfl) rfl ?_
  refine Tr.nil (Tr.thenN (Tr.ret ?_))
  refine Tr.ret1 Try.results41 rfl (fun w' hw => ?_)
  exact ⟨_, rfl, hw.below (Bg.le.refl _), hw.new (.head _)⟩
set_option maxRecDepth 100000 in
set_option maxHeartbeats 2000000 in
theorem indexFunc_ins (l : List Ins) (V : Value) (g : FuncId) (cb : List Value) (w : World) (hV : Sl (hp w) encIns l V) (eg : ∀ args w, (callFunc g args).run Try.prog w = .ok (.enter g args) w) (p : Ins → Bool) (hp : ∀ x, x ∈ l → ∀ w', Ext w w' → Calls Try.prog g ([Value.agg (encIns.enc x).toArray] ++ cb).toArray w' fun e w'' => e = .returned (.bool (p x)) ∧ Ext w' w'') :
  Calls Try.prog 66 #[V, .func (.func g) #[] cb.toArray] w (fun e w' => e = .returned (.int .i64 (idxP p 0 l)) ∧ Ext w w') := by
 have hV' : Sl (Bg.of w).blk encIns l V := hV
 have hlen := hV.len_le
 refine enter Try.func66 rfl Try.ntmps66 rfl ?_
 refine Tr.seq (Tr.region ?_)
 refine Tr.q (QS.assign rfl) rfl ?_
 refine Tr.nil (Tr.thenN (Tr.seq (Tr.seq (Tr.region ?_))))
 refine Tr.q (QS.move rfl) rfl ?_
 refine Tr.q (QS.len rfl (by assumption) Try.underlying29) rfl ?_
 refine Tr.q (QS.move rfl) rfl ?_
 refine Tr.nil (Tr.thenN (Tr.block ?_))
 refine Tr.loop (ι := Nat) (fun k => k ≤ l.length ∧ idxP p k (l.drop k) = idxP p 0 l) (fun _ => _) (fun k => []) (fun k => [(8, .int .i64 (k : Nat))]) (fun k => l.length - k) 0 ⟨Nat.zero_le _, rfl⟩ (.cons (by first | rfl | exact lookI rfl (by omega) | exact lookI rfl (by simp) | exact lookB rfl (by simp)) Front.nil) (by repeat' constructor) rfl (fun k hi m hm => ?_)
 replace hi : k ≤ l.length ∧ idxP p k (l.drop k) = idxP p 0 l := hi
 replace hm : m = l.length - k := hm
 change Tr _ _ [] ([(8, .int .i64 (k : Nat))] ++ _) _
 obtain ⟨hk1, hk2⟩ := hi
 refine Tr.seq (Tr.region ?_)
 refine Tr.q (QS.lss rfl rfl) rfl ?_
 refine Tr.nil (Tr.thenN (Tr.seq ?_))
 refine Tr.cond rfl (fun h1 => ?_) (fun h1 => ?_)
 ·try simp only [bs] at h1
  refine Tr.skip (Tr.thenN (Tr.seq (Tr.block (Tr.seq (Tr.region ?_)))))
  refine Tr.q (QS.move rfl) rfl ?_
  refine Tr.q (QS.assign rfl) rfl ?_
  refine Tr.nil (Tr.thenN (Tr.seq (Tr.region ?_)))
  refine Tr.q (QS.move rfl) rfl ?_
  refine Tr.q (QS.move rfl) rfl ?_
  refine Tr.q (QS.move rfl) rfl ?_
  refine Tr.q (QS.idxN rfl rfl (by assumption) Try.underlying29 Try.sizeOf41 (by rfl) (by omega)) rfl ?_
  refine Tr.q (QS.elA rfl (by assumption) Try.isAgg41 Try.sizeOf41 (by rfl) (by omega)) rfl ?_
  refine Tr.q (QS.callV rfl rfl eg (fun w hw => hp _ (mem_getD (by omega)) w (hw.below (Bg.le.refl _)))) rfl ?_
  refine Tr.nil (Tr.thenN ?_)
  refine Tr.cond rfl (fun h2 => ?_) (fun h2 => ?_)
  ·try simp only [bs] at h2
   refine Tr.seq (Tr.region ?_)
   refine Tr.q (QS.move rfl) rfl ?_
   refine Tr.q (QS.assign rfl) rfl ?_
   refine Tr.nil (Tr.thenN (Tr.ret ?_))
   refine Tr.inR ?_
   refine Tr.thenR (Tr.thenR ?_)
   refine Tr.inR ?_
   refine Tr.thenR ?_
   refine Tr.ret1 Try.results66 rfl (fun w' hw => ?_)
   exact ⟨by rw [← hk2, drop_cons (k := k) (by omega), idxP, if_pos (by assumption)], hw.below (Bg.le.refl _)⟩
  ·try simp only [bs] at h2
   refine Tr.skip (Tr.inN (Tr.thenN (Tr.region ?_)))
   refine Tr.q (QS.addI rfl rfl (by omega)) rfl ?_
   refine Tr.q (QS.move rfl) rfl ?_
   refine Tr.nil (Tr.thenN ?_)
   apply Tr.again (k + 1)
   ·exact rfl
   ·exact (.cons (by first | rfl | exact lookI rfl (by omega) | exact lookI rfl (by simp) | exact lookB rfl (by simp)) Front.nil)
   ·exact SubX.dropN 12 (by kernel_rfl) rfl
   ·exact (by repeat' constructor)
   ·exact ⟨by omega, by rw [← hk2, drop_cons (k := k) (by omega), idxP, if_neg (by simp_all)]⟩
   ·exact (by (try dsimp only); omega)
 ·try simp only [bs] at h1
  refine Tr.exit ?_
  refine Tr.thenE (Tr.thenE (Tr.inHit (Tr.thenN (Tr.seq (Tr.region ?_)))))
  refine Tr.q (QS.assign rfl) rfl ?_
  refine Tr.nil (Tr.thenN (Tr.ret ?_))
  refine Tr.ret1 Try.results66 rfl (fun w' hw => ?_)
  exact ⟨by rw [← hk2, List.drop_of_length_le (by omega)]; rfl, hw.below (Bg.le.refl _)⟩
set_option maxRecDepth 100000 in
set_option maxHeartbeats 2000000 in
theorem containsFunc_ins (l : List Ins) (V : Value) (g : FuncId) (cb : List Value) (w : World) (hV : Sl (hp w) encIns l V) (eg : ∀ args w, (callFunc g args).run Try.prog w = .ok (.enter g args) w) (p : Ins → Bool) (hp : ∀ x, x ∈ l → ∀ w', Ext w w' → Calls Try.prog g ([Value.agg (encIns.enc x).toArray] ++ cb).toArray w' fun e w'' => e = .returned (.bool (p x)) ∧ Ext w' w'') :
  Calls Try.prog 38 #[V, .func (.func g) #[] cb.toArray] w (fun e w' => e = .returned (.bool (l.any p)) ∧ Ext w w') := by
 have hV' : Sl (Bg.of w).blk encIns l V := hV
 refine enter Try.func38 rfl Try.ntmps38 rfl ?_
 refine Tr.seq (Tr.region ?_)
 refine Tr.q (QS.assign rfl) rfl ?_
 refine Tr.nil (Tr.thenN (Tr.seq (Tr.region ?_)))
 refine Tr.q (QS.move rfl) rfl ?_
 refine Tr.q (QS.move rfl) rfl ?_
 refine Tr.q (QS.call rfl Try.call66 (fun w hw => indexFunc_ins l V g cb w (hw.slF hV') eg p (fun x hx w'' h => hp x hx w'' ((hw.below (Bg.le.refl _)).trans h)))) rfl ?_
 refine Tr.q (QS.geq rfl rfl) rfl ?_
 refine Tr.q (QS.assign rfl) rfl ?_
 refine Tr.nil (Tr.thenN (Tr.ret ?_))
 refine Tr.ret1 Try.results38 rfl (fun w' hw => ?_)
 exact ⟨by rw [idxP_any], hw.below (Bg.le.refl _)⟩
set_option maxRecDepth 100000 in
set_option maxHeartbeats 2000000 in
theorem words_any (a b : List UInt32) (V W : Value) (w : World) (hV : Sl (hp w) encU32 a V) (hW : Sl (hp w) encU32 b W) :
  Calls Try.prog 48 #[V, W] w (fun e w' => e = .returned (.bool (decide (a = b))) ∧ Ext w w') := by
 have hV' : Sl (Bg.of w).blk encU32 a V := hV
 have hW' : Sl (Bg.of w).blk encU32 b W := hW
 have hl1 := hV.len_le
 have hl2 := hW.len_le
 refine enter Try.func48 rfl Try.ntmps48 rfl ?_
 refine Tr.seq (Tr.region ?_)
 refine Tr.q (QS.assign rfl) rfl ?_
 refine Tr.nil (Tr.thenN (Tr.seq (Tr.seq (Tr.region ?_))))
 refine Tr.q (QS.move rfl) rfl ?_
 refine Tr.q (QS.len rfl (by assumption) Try.underlying23) rfl ?_
 refine Tr.q (QS.move rfl) rfl ?_
 refine Tr.q (QS.len rfl (by assumption) Try.underlying23) rfl ?_
 refine Tr.q (QS.neq rfl rfl) rfl ?_
 refine Tr.nil (Tr.thenN ?_)
 refine Tr.cond rfl (fun h1 => ?_) (fun h1 => ?_)
 ·try simp only [bs] at h1
  refine Tr.seq (Tr.region ?_)
  refine Tr.q (QS.assign rfl) rfl ?_
  refine Tr.nil (Tr.thenN (Tr.ret (Tr.thenR ?_)))
  refine Tr.ret1 Try.results48 rfl (fun w' hw => ?_)
  exact ⟨by rw [decide_eq_false (fun e => by subst e; omega)], hw.below (Bg.le.refl _)⟩
 ·try simp only [bs] at h1
  refine Tr.skip (Tr.thenN (Tr.seq (Tr.seq (Tr.region ?_))))
  refine Tr.q (QS.assign rfl) rfl ?_
  refine Tr.nil (Tr.thenN (Tr.block ?_))
  refine Tr.loop (ι := Nat) (fun k => k ≤ a.length ∧ a.take k = b.take k) (fun _ => _) (fun k => []) (fun k => [(5, .int .i64 (k : Nat))]) (fun k => a.length - k) 0 ⟨by omega, rfl⟩ (.cons (by first | rfl | exact lookI rfl (by omega) | exact lookI rfl (by simp) | exact lookB rfl (by simp)) Front.nil) (by repeat' constructor) rfl (fun k hi m hm => ?_)
  replace hi : k ≤ a.length ∧ a.take k = b.take k := hi
  replace hm : m = a.length - k := hm
  change Tr _ _ [] ([(5, .int .i64 (k : Nat))] ++ _) _
  obtain ⟨hk1, hk3⟩ := hi
  refine Tr.seq (Tr.seq (Tr.region ?_))
  refine Tr.q (QS.move rfl) rfl ?_
  refine Tr.q (QS.move rfl) rfl ?_
  refine Tr.q (QS.len rfl (by assumption) Try.underlying23) rfl ?_
  refine Tr.q (QS.lss rfl rfl) rfl ?_
  refine Tr.nil (Tr.thenN ?_)
  refine Tr.cond rfl (fun h2 => ?_) (fun h2 => ?_)
  ·try simp only [bs] at h2
   refine Tr.skip (Tr.thenN (Tr.seq (Tr.block (Tr.seq ?_))))
   refine Tr.regionQ HLF.mixed (by kernel_rfl) ?_
   refine TrQ.q (QS.move rfl) rfl ?_
   refine TrQ.q (QS.move rfl) rfl ?_
   refine TrQ.q (QS.idxN rfl rfl (by assumption) Try.underlying23 Try.sizeOf39 (by rfl) (by omega)) rfl ?_
   refine TrQ.q (QS.el1 rfl (by assumption) Try.isAgg39 (by omega) (by rfl)) rfl ?_
   refine TrQ.q (QS.move rfl) rfl ?_
   refine TrQ.q (QS.move rfl) rfl ?_
   refine TrQ.q (QS.idxN rfl rfl (by assumption) Try.underlying23 Try.sizeOf39 (by rfl) (by omega)) rfl ?_
   refine TrQ.q (QS.el1 rfl (by assumption) Try.isAgg39 (by omega) (by rfl)) rfl ?_
   refine TrQ.q (QS.neq32 rfl rfl) rfl ?_
   refine TrQ.nil ?_
   refine Tr.thenN ?_
   refine Tr.cond rfl (fun h3 => ?_) (fun h3 => ?_)
   ·try simp only [bs] at h3
    refine Tr.seq (Tr.region ?_)
    refine Tr.q (QS.assign rfl) rfl ?_
    refine Tr.nil (Tr.thenN (Tr.ret ?_))
    refine Tr.inR ?_
    refine Tr.thenR (Tr.thenR ?_)
    refine Tr.inR ?_
    refine Tr.thenR ?_
    refine Tr.ret1 Try.results48 rfl (fun w' hw => ?_)
    exact ⟨by rw [decide_eq_false (fun e => by subst e; simp_all)], hw.below (Bg.le.refl _)⟩
   ·try simp only [bs] at h3
    refine Tr.skip (Tr.inN (Tr.thenN (Tr.region ?_)))
    refine Tr.q (QS.move rfl) rfl ?_
    refine Tr.q (QS.addI rfl rfl (by omega)) rfl ?_
    refine Tr.q (QS.assign rfl) rfl ?_
    refine Tr.nil (Tr.thenN ?_)
    apply Tr.again (k + 1)
    ·exact rfl
    ·exact (.cons (by first | rfl | exact lookI rfl (by omega) | exact lookI rfl (by simp) | exact lookB rfl (by simp)) Front.nil)
    ·exact SubX.dropN 17 (by kernel_rfl) rfl
    ·exact (by repeat' constructor)
    ·exact ⟨by omega, by rw [take_succ (by omega), take_succ (by omega), hk3]; congr 2⟩
    ·exact (by (try dsimp only); omega)
  ·try simp only [bs] at h2
   refine Tr.exit ?_
   refine Tr.thenE (Tr.thenE (Tr.inHit (Tr.thenN (Tr.seq (Tr.region ?_)))))
   refine Tr.q (QS.assign rfl) rfl ?_
   refine Tr.nil (Tr.thenN (Tr.ret ?_))
   refine Tr.ret1 Try.results48 rfl (fun w' hw => ?_)
   exact ⟨by rw [decide_eq_true (show a = b by rw [← List.take_of_length_le (show a.length ≤ k by omega), hk3, List.take_of_length_le (by omega)])], hw.below (Bg.le.refl _)⟩
end Go.Proofs.Ytnmaokalpbnmaaa
namespace Go.Proofs.Ytnmaokalpbnmaaa
open Go Go.HL Go.RowKit
set_option maxRecDepth 100000 in
set_option maxHeartbeats 2000000 in
theorem indirect_any (i : Ins) (w : World) :
  Calls Try.prog 75 #[.agg (encIns.enc i).toArray] w (fun e w' => e = .returned (.bool (indP i.op)) ∧ Ext w w') := by
 refine enter Try.func75 rfl Try.ntmps75 rfl ?_
 refine Tr.seq (Tr.region ?_)
 refine Tr.box rfl rfl rfl (fun b1 => ?_)
 refine Tr.q (QS.assign rfl) rfl ?_
 refine Tr.nil (Tr.thenN (Tr.seq (Tr.region ?_)))
 refine Tr.q (QS.fieldAddr (off := 2) (ft := 3) rfl Try.underlying41 rfl rfl Try.sizeOf3 (by decide)) rfl ?_
 refine Tr.q (QS.lV rfl Try.isAgg3) rfl ?_
 refine Tr.q (QS.eql rfl rfl) rfl ?_
 refine Tr.q (QS.move rfl) rfl ?_
 apply Tr.orP
 ·exact (rfl : _ = (4, 6, 10))
 ·exact rfl
 ·intro hF2; have hF2' := hF2
  try simp only [bs] at hF2'
  refine Tr.gq rfl rfl hF2 (QS.fieldAddr (off := 2) (ft := 3) rfl Try.underlying41 rfl rfl Try.sizeOf3 (by decide)) rfl ?_
  refine Tr.gq rfl rfl hF2 (QS.lV rfl Try.isAgg3) rfl ?_
  refine Tr.gq rfl rfl hF2 (QS.eql rfl rfl) rfl ?_
  refine Tr.q (QS.pickF rfl hF2 rfl) rfl ?_
  refine Tr.nil (Tr.thenN ?_)
  exact Tr.endX (Sub.cons rfl (Sub.dropN 4 (by kernel_rfl) rfl))
 ·intro hT2
  refine Tr.gskip rfl rfl hT2 rfl ?_
  refine Tr.gskip rfl rfl hT2 rfl ?_
  refine Tr.gskip rfl rfl hT2 rfl ?_
  refine Tr.q (QS.pickT rfl hT2 rfl) rfl ?_
  refine Tr.nil (Tr.thenN ?_)
  exact Tr.endX (Sub.cons rfl (Sub.dropN 4 (by kernel_rfl) rfl))
 refine Tr.q (QS.move rfl) rfl ?_
 apply Tr.orP
 ·exact (rfl : _ = (4, 11, 15))
 ·exact rfl
 ·intro hF3; have hF3' := hF3
  try simp only [bs] at hF3'
  refine Tr.gq rfl rfl hF3 (QS.fieldAddr (off := 2) (ft := 3) rfl Try.underlying41 rfl rfl Try.sizeOf3 (by decide)) rfl ?_
  refine Tr.gq rfl rfl hF3 (QS.lV rfl Try.isAgg3) rfl ?_
  refine Tr.gq rfl rfl hF3 (QS.eql rfl rfl) rfl ?_
  refine Tr.q (QS.pickF rfl hF3 rfl) rfl ?_
  refine Tr.nil (Tr.thenN ?_)
  exact Tr.endX (Sub.cons rfl (Sub.dropN 4 (by kernel_rfl) rfl))
 ·intro hT3
  refine Tr.gskip rfl rfl hT3 rfl ?_
  refine Tr.gskip rfl rfl hT3 rfl ?_
  refine Tr.gskip rfl rfl hT3 rfl ?_
  refine Tr.q (QS.pickT rfl hT3 rfl) rfl ?_
  refine Tr.nil (Tr.thenN ?_)
  exact Tr.endX (Sub.cons rfl (Sub.dropN 4 (by kernel_rfl) rfl))
 refine Tr.q (QS.assign rfl) rfl ?_
 refine Tr.nil (Tr.thenN (Tr.ret ?_))
 refine Tr.ret1 Try.results75 rfl (fun w' hw => ?_)
 exact ⟨by unfold indP; congr 2; rw [Bool.eq_iff_iff]; simp [or_assoc], hw.below (Bg.le.refl _)⟩
set_option maxRecDepth 100000 in
set_option maxHeartbeats 2000000 in
theorem succ_any (i : Ins) (w : World) (hI : InsOK i) :
  Calls Try.prog 17 #[.agg (encIns.enc i).toArray] w (fun e w' => ∃ V', e = .returned V' ∧ Ext w w' ∧ NewRow w w' 39 encU32 (succP i) V') := by
 refine enter Try.func17 rfl Try.ntmps17 rfl ?_
 refine Tr.seq (Tr.region ?_)
 refine Tr.box rfl rfl rfl (fun b1 => ?_)
 refine Tr.q (QS.assign rfl) rfl ?_
 refine Tr.nil (Tr.thenN (Tr.seq (Tr.seq (Tr.region ?_))))
 refine Tr.q (QS.lW rfl Try.isAgg41 Try.sizeOf41) rfl ?_
 refine Tr.q (QS.call rfl Try.call32 (fun w hw => valid_isa i w hI)) rfl ?_
 refine Tr.q (QS.not rfl) rfl ?_
 refine Tr.nil (Tr.thenN ?_)
 refine Tr.cond rfl (fun h2 => ?_) (fun h2 => ?_)
 ·try simp only [bs] at h2
  refine Tr.seq ?_
  refine Tr.ownNil 39 encU32 ?_
  refine Tr.region ?_
  refine Tr.q (QS.assign rfl) rfl ?_
  refine Tr.nil (Tr.thenN (Tr.ret (Tr.thenR ?_)))
  refine Tr.ret1 Try.results17 rfl (fun w' hw => ?_)
  exact ⟨_, rfl, hw.below (Bg.le.refl _), by rw [show succP i = [] by unfold succP; rw [if_neg (by simp_all)]]; exact hw.new (.head _)⟩
 ·try simp only [bs] at h2
  refine Tr.skip (Tr.thenN (Tr.seq ?_))
  refine Tr.ownNil 39 encU32 ?_
  refine Tr.region ?_
  refine Tr.q (QS.assign rfl) rfl ?_
  refine Tr.nil (Tr.thenN ?_)
  refine Tr.seqJ (ι := Value) (fun V1 => True) (fun _ => Bg.of w) (fun V1 => [rowE V1 39 encU32 (if (targetP i).2 = true then [(targetP i).1] else []), cellE b1 (encIns.enc i) 41]) (fun V1 => [(3, V1)]) ?_ (fun V1 hi => ?_)
  ·skip
   refine Tr.seq (Tr.region ?_)
   refine Tr.q (QS.lW rfl Try.isAgg41 Try.sizeOf41) rfl ?_
   refine Tr.q (QS.call rfl Try.call33 (fun w hw => target_isa i w)) rfl ?_
   refine Tr.q (QS.move rfl) rfl ?_
   refine Tr.q (QS.extract rfl rfl) rfl ?_
   refine Tr.q (QS.extract rfl rfl) rfl ?_
   refine Tr.q (QS.assign rfl) rfl ?_
   refine Tr.q (QS.assign rfl) rfl ?_
   refine Tr.nil (Tr.thenN (Tr.seq (Tr.region ?_)))
   refine Tr.q (QS.move rfl) rfl ?_
   refine Tr.nil (Tr.thenN ?_)
   refine Tr.cond rfl (fun h3 => ?_) (fun h3 => ?_)
   ·try simp only [bs] at h3
    refine Tr.region ?_
    refine Tr.q (QS.move rfl) rfl ?_
    refine Tr.q (QS.move rfl) rfl ?_
    refine Tr.lit1 (E := encU32) (targetP i).1 rfl rfl Try.underlying23 Try.sizeOf39 Try.zeroValue39 (by rfl) (by rfl) rfl (fun V4 => ?_)
    refine Tr.append1 rfl rfl (by repeat constructor) (by repeat constructor) Try.underlying23 HLF.info39 (by rfl) (by rfl) (by (try simp only [List.length_cons, List.length_nil, List.length_append, List.length_take]); omega) (by unfold maxLen; (try simp only [List.length_cons, List.length_nil, List.length_append, List.length_take]); omega) rfl (fun V5 => ?_)
    refine Tr.q (QS.assign rfl) rfl ?_
    refine Tr.nil (Tr.thenN ?_)
    refine Tr.rowEq (l' := if (targetP i).2 = true then [(targetP i).1] else []) (by rw [if_pos (by assumption)]; rfl) ?_
    apply Tr.joined _
    ·exact rfl
    ·exact (.cons (by first | rfl | exact lookI rfl (by omega) | exact lookI rfl (by simp) | exact lookB rfl (by simp)) Front.nil)
    ·exact SubX.dropN 13 (by kernel_rfl) rfl
    ·exact (by repeat' constructor)
    ·exact trivial
   ·try simp only [bs] at h3
    refine Tr.skip (Tr.thenN ?_)
    refine Tr.rowEq (l' := if (targetP i).2 = true then [(targetP i).1] else []) (by rw [if_neg (by simp_all)]) ?_
    apply Tr.joined _
    ·exact rfl
    ·exact (.cons (by first | rfl | exact lookI rfl (by omega) | exact lookI rfl (by simp) | exact lookB rfl (by simp)) Front.nil)
    ·exact SubX.dropN 8 (by kernel_rfl) rfl
    ·exact (by repeat' constructor)
    ·exact trivial
  ·skip
   replace hi : True := hi
   change Tr _ _ [rowE V1 39 encU32 (if (targetP i).2 = true then [(targetP i).1] else []), cellE b1 (encIns.enc i) 41] ([(3, V1)] ++ _) _
   have htl : (if (targetP i).2 = true then [(targetP i).1] else []).length ≤ 1 := by split <;> simp
   refine Tr.seqJ (ι := Value) (fun V2 => True) (fun _ => Bg.of w) (fun V2 => [rowE V2 39 encU32 ((if (targetP i).2 = true then [(targetP i).1] else []) ++ (if endsP i = true then [] else [nextP i])), cellE b1 (encIns.enc i) 41]) (fun V2 => [(3, V2)]) ?_ (fun V2 hi => ?_)
   ·skip
    refine Tr.seq (Tr.region ?_)
    refine Tr.q (QS.lW rfl Try.isAgg41 Try.sizeOf41) rfl ?_
    refine Tr.q (QS.call rfl Try.call34 (fun w hw => ends_isa i w)) rfl ?_
    refine Tr.q (QS.not rfl) rfl ?_
    refine Tr.nil (Tr.thenN ?_)
    refine Tr.cond rfl (fun h6 => ?_) (fun h6 => ?_)
    ·try simp only [bs] at h6
     refine Tr.region ?_
     refine Tr.q (QS.move rfl) rfl ?_
     refine Tr.q (QS.lW rfl Try.isAgg41 Try.sizeOf41) rfl ?_
     refine Tr.q (QS.call rfl Try.call35 (fun w hw => next_isa i w hI)) rfl ?_
     refine Tr.lit1 (E := encU32) (nextP i) rfl rfl Try.underlying23 Try.sizeOf39 Try.zeroValue39 (by rfl) (by rfl) rfl (fun V7 => ?_)
     refine Tr.append1 rfl rfl (by repeat constructor) (by repeat constructor) Try.underlying23 HLF.info39 (by rfl) (by rfl) (by (try simp only [List.length_cons, List.length_nil, List.length_append, List.length_take]); omega) (by unfold maxLen; (try simp only [List.length_cons, List.length_nil, List.length_append, List.length_take]); omega) rfl (fun V8 => ?_)
     refine Tr.q (QS.assign rfl) rfl ?_
     refine Tr.nil (Tr.thenN ?_)
     refine Tr.rowEq (l' := (if (targetP i).2 = true then [(targetP i).1] else []) ++ (if endsP i = true then [] else [nextP i])) (by rw [if_neg (c := endsP i = true) (by simp_all)]) ?_
     apply Tr.joined _
     ·exact rfl
     ·exact (.cons (by first | rfl | exact lookI rfl (by omega) | exact lookI rfl (by simp) | exact lookB rfl (by simp)) Front.nil)
     ·exact SubX.dropN 9 (by kernel_rfl) rfl
     ·exact (by repeat' constructor)
     ·exact trivial
    ·try simp only [bs] at h6
     refine Tr.skip (Tr.thenN ?_)
     refine Tr.rowEq (l' := (if (targetP i).2 = true then [(targetP i).1] else []) ++ (if endsP i = true then [] else [nextP i])) (by rw [if_pos (c := endsP i = true) (by simp_all), List.append_nil]) ?_
     apply Tr.joined _
     ·exact rfl
     ·exact (.cons (by first | rfl | exact lookI rfl (by omega) | exact lookI rfl (by simp) | exact lookB rfl (by simp)) Front.nil)
     ·exact SubX.dropN 3 (by kernel_rfl) rfl
     ·exact (by repeat' constructor)
     ·exact trivial
   ·skip
    replace hi : True := hi
    change Tr _ _ [rowE V2 39 encU32 ((if (targetP i).2 = true then [(targetP i).1] else []) ++ (if endsP i = true then [] else [nextP i])), cellE b1 (encIns.enc i) 41] ([(3, V2)] ++ _) _
    refine Tr.seq (Tr.region ?_)
    refine Tr.q (QS.move rfl) rfl ?_
    refine Tr.q (QS.assign rfl) rfl ?_
    refine Tr.nil (Tr.thenN (Tr.ret ?_))
    refine Tr.ret1 Try.results17 rfl (fun w' hw => ?_)
    exact ⟨_, rfl, hw.below (Bg.le.refl _), by rw [show succP i = _ by unfold succP; rw [if_pos (by simp_all)]]; exact hw.new (.head _)⟩
set_option maxRecDepth 100000 in
set_option maxHeartbeats 2000000 in
theorem dat_any (l : List SecV) (V : Value) (a : UInt32) (w : World) (hV : Sl (hp w) encSec l V) (hB : SecB l) (hD : DataIn (hp w) l) :
  Calls Try.prog 42 #[V, .int .u32 a.toNat] w (fun e w' => e = .returned (.tuple #[.agg (encIns.enc (atP l a).1).toArray, .bool (atP l a).2]) ∧ Ext w w') := by
 have hV' : Sl (Bg.of w).blk encSec l V := hV
 have hlen := hB.1
 have hf := findP_lt (l := l) (a := a)
 have ha := a.toNat_lt
 refine enter Try.func42 rfl Try.ntmps42 rfl ?_
 refine Tr.seq (Tr.region ?_)
 refine Tr.alloc Try.zeroValue41 rfl rfl (fun b1 => ?_)
 refine Tr.q (QS.assign rfl) rfl ?_
 refine Tr.nil (Tr.thenN (Tr.seq (Tr.region ?_)))
 refine Tr.q (QS.move rfl) rfl ?_
 refine Tr.q (QS.move rfl) rfl ?_
 refine Tr.q (QS.call rfl Try.call74 (fun w hw => find_any l V a w (hw.slF hV') hB)) rfl ?_
 refine Tr.q (QS.assign rfl) rfl ?_
 refine Tr.nil (Tr.thenN (Tr.seq (Tr.seq (Tr.region ?_))))
 refine Tr.q (QS.move rfl) rfl ?_
 refine Tr.q (QS.lss rfl rfl) rfl ?_
 refine Tr.q (QS.move rfl) rfl ?_
 apply Tr.orP
 ·exact (rfl : _ = (7, 15, 22))
 ·exact rfl
 ·intro hF2; have hF2' := hF2
  try simp only [bs] at hF2'
  refine Tr.gq rfl rfl hF2 (QS.move rfl) rfl ?_
  refine Tr.gq rfl rfl hF2 (QS.move rfl) rfl ?_
  refine Tr.gq rfl rfl hF2 (QS.idx rfl rfl (by assumption) Try.underlying22 Try.sizeOf63 (by rfl) (by omega)) rfl ?_
  refine Tr.gq rfl rfl hF2 (QS.fieldAddr (off := 4) (ft := 4) rfl Try.underlying63 rfl rfl Try.sizeOf4 (by decide)) rfl ?_
  refine Tr.gq rfl rfl hF2 (QS.elF rfl (by assumption) Try.isAgg4 (by omega) (by rfl)) rfl ?_
  refine Tr.gq rfl rfl hF2 (QS.not rfl) rfl ?_
  refine Tr.q (QS.pickF rfl hF2 rfl) rfl ?_
  refine Tr.nil (Tr.thenN ?_)
  exact Tr.endX (Sub.cons rfl (Sub.dropN 7 (by kernel_rfl) rfl))
 ·intro hT2
  refine Tr.gskip rfl rfl hT2 rfl ?_
  refine Tr.gskip rfl rfl hT2 rfl ?_
  refine Tr.gskip rfl rfl hT2 rfl ?_
  refine Tr.gskip rfl rfl hT2 rfl ?_
  refine Tr.gskip rfl rfl hT2 rfl ?_
  refine Tr.gskip rfl rfl hT2 rfl ?_
  refine Tr.q (QS.pickT rfl hT2 rfl) rfl ?_
  refine Tr.nil (Tr.thenN ?_)
  exact Tr.endX (Sub.cons rfl (Sub.dropN 7 (by kernel_rfl) rfl))
 refine Tr.nil (Tr.thenN ?_)
 refine Tr.cond rfl (fun h3 => ?_) (fun h3 => ?_)
 ·try simp only [bs] at h3
  refine Tr.seq (Tr.region ?_)
  refine Tr.q (QS.build (vs := []) rfl rfl (HLF.built41)) rfl ?_
  refine Tr.storeW rfl rfl Try.sizeOf41 (by repeat constructor) (by rfl) (by rfl) (by first | exact List.all_eq_true.1 rfl | exact Enc.one _ _ | exact Enc.one encIns _) rfl ?_
  refine Tr.q (QS.assign rfl) rfl ?_
  refine Tr.nil (Tr.thenN (Tr.ret (Tr.thenR ?_)))
  refine Tr.retC2 Try.results42 rfl rfl (by repeat constructor) Try.isAgg41 Try.sizeOf41 (by rfl) (fun w' hw => ?_)
  exact ⟨by unfold atP; rw [if_pos (by unfold noAt; simp_all)]; rfl, hw.below (Bg.le.refl _)⟩
 ·try simp only [bs] at h3
  refine Tr.skip (Tr.thenN (Tr.seq ?_))
  have hna : noAt l a = false := by unfold noAt; rw [Bool.or_eq_false_iff]; exact ⟨decide_eq_false h3.1, by rw [h3.2]; rfl⟩
  have hin := inS_iff.1 (findP_in (l := l) (a := a) (by omega))
  have hen : endP (l.getD (findP l a).toNat default) ≤ ((l.getD (findP l a).toNat default).addr.toNat : Int) + (l.getD (findP l a).toNat default).data.length := by unfold endP; omega
  have hsub : (a - (l.getD (findP l a).toNat default).addr).toNat = a.toNat - (l.getD (findP l a).toNat default).addr.toNat := UInt32.toNat_sub_of_le _ _ (UInt32.le_iff_toNat_le.2 hin.1)
  have hdl := hB.at (k := (findP l a).toNat) (by omega)
  have hDk : Sl (Bg.of w).blk encU8 (l.getD (findP l a).toNat default).data (.slice (l.getD (findP l a).toNat default).dp (l.getD (findP l a).toNat default).data.length (l.getD (findP l a).toNat default).dc) := hD _ (mem_getD (by omega))
  refine Tr.regionQ HLF.mixed (by kernel_rfl) ?_
  refine TrQ.q (QS.move rfl) rfl ?_
  refine TrQ.q (QS.move rfl) rfl ?_
  refine TrQ.q (QS.idx rfl rfl (by assumption) Try.underlying22 Try.sizeOf63 (by rfl) (by omega)) rfl ?_
  refine TrQ.q (QS.fieldAddr (off := 2) (ft := 61) rfl Try.underlying63 rfl rfl Try.sizeOf61 (by decide)) rfl ?_
  refine TrQ.q (QS.elF rfl (by assumption) Try.isAgg61 (by omega) (by rfl)) rfl ?_
  refine TrQ.q (QS.move rfl) rfl ?_
  refine TrQ.q (QS.move rfl) rfl ?_
  refine TrQ.q (QS.move rfl) rfl ?_
  refine TrQ.q (QS.idx rfl rfl (by assumption) Try.underlying22 Try.sizeOf63 (by rfl) (by omega)) rfl ?_
  refine TrQ.q (QS.fieldAddr (off := 1) (ft := 39) rfl Try.underlying63 rfl rfl Try.sizeOf39 (by decide)) rfl ?_
  refine TrQ.q (QS.elF rfl (by assumption) Try.isAgg39 (by omega) (by rfl)) rfl ?_
  refine TrQ.q (QS.sub32 rfl rfl) rfl ?_
  refine TrQ.q (QS.slice (lv := some (_, _)) (hv := none) rfl (by assumption) rfl rfl Try.underlying61 Try.sizeOf5 (by rfl) (by simp only [loOf, hiOf] <;> first | omega | assumption | (simp only [NatCast.natCast, Int.ofNat_eq_natCast]; omega)) (by simp only [loOf, hiOf] <;> first | omega | assumption | (simp only [NatCast.natCast, Int.ofNat_eq_natCast]; omega)) (by simp only [loOf, hiOf] <;> first | omega | assumption | (simp only [NatCast.natCast, Int.ofNat_eq_natCast]; omega))) rfl ?_
  refine TrQ.q (QS.assign rfl) rfl ?_
  refine TrQ.nil ?_
  refine Tr.thenN (Tr.seq ?_)
  have hs1 := Sl.resl (l := (a - (l.getD (findP l a).toNat default).addr).toNat) (h := (l.getD (findP l a).toNat default).data.length) hDk (by omega) (Nat.le_refl _)
  rw [List.take_length] at hs1
  have hs1l : (List.drop (a - (l.getD (findP l a).toNat default).addr).toNat (l.getD (findP l a).toNat default).data).length = (l.getD (findP l a).toNat default).data.length - (a - (l.getD (findP l a).toNat default).addr).toNat := List.length_drop
  have hs3 := Sl.resl (l := 0) (h := (min (((l.getD (findP l a).toNat default).data.drop (a - (l.getD (findP l a).toNat default).addr).toNat).length : Int) 6).toNat) hs1 (Nat.zero_le _) (by omega)
  rw [List.drop_zero, show ((l.getD (findP l a).toNat default).data.drop (a - (l.getD (findP l a).toNat default).addr).toNat).take (min (((l.getD (findP l a).toNat default).data.drop (a - (l.getD (findP l a).toNat default).addr).toNat).length : Int) 6).toNat = winD l a by unfold winD; rw [List.take_eq_take_iff]; omega] at hs3
  refine Tr.region ?_
  refine Tr.q (QS.move rfl) rfl ?_
  refine Tr.q (QS.move rfl) rfl ?_
  refine Tr.q (QS.len rfl (by assumption) Try.underlying61) rfl ?_
  refine Tr.q (QS.min2 rfl rfl) rfl ?_
  refine Tr.q (QS.slice (lv := none) (hv := some (_, _)) rfl (by assumption) rfl rfl Try.underlying61 Try.sizeOf5 (by rfl) (by simp only [loOf, hiOf] <;> first | omega | assumption | (simp only [NatCast.natCast, Int.ofNat_eq_natCast]; omega)) (by simp only [loOf, hiOf] <;> first | omega | assumption | (simp only [NatCast.natCast, Int.ofNat_eq_natCast]; omega)) (by simp only [loOf, hiOf] <;> first | omega | assumption | (simp only [NatCast.natCast, Int.ofNat_eq_natCast]; omega))) rfl ?_
  refine Tr.q (QS.move rfl) rfl ?_
  refine Tr.q (QS.call rfl Try.call37 (fun w hw => decode_isa (winD l a) _ a w (hw.slF hs3))) rfl ?_
  refine Tr.q (QS.move rfl) rfl ?_
  refine Tr.q (QS.extract rfl rfl) rfl ?_
  refine Tr.q (QS.extract rfl rfl) rfl ?_
  refine Tr.alloc Try.zeroValue41 rfl rfl (fun b4 => ?_)
  refine Tr.storeW rfl rfl Try.sizeOf41 (by repeat constructor) (by rfl) (by rfl) (by first | exact List.all_eq_true.1 rfl | exact Enc.one _ _ | exact Enc.one encIns _) rfl ?_
  refine Tr.q (QS.assign rfl) rfl ?_
  refine Tr.nil (Tr.thenN (Tr.seq (Tr.region ?_)))
  refine Tr.q (QS.lW rfl Try.isAgg41 Try.sizeOf41) rfl ?_
  refine Tr.q (QS.move rfl) rfl ?_
  refine Tr.q (QS.eql rfl rfl) rfl ?_
  refine Tr.storeW rfl rfl Try.sizeOf41 (by repeat constructor) (by rfl) (by rfl) (by first | exact List.all_eq_true.1 rfl | exact Enc.one _ _ | exact Enc.one encIns _) rfl ?_
  refine Tr.q (QS.assign rfl) rfl ?_
  refine Tr.nil (Tr.thenN (Tr.ret ?_))
  refine Tr.retC2 Try.results42 rfl rfl (by repeat constructor) Try.isAgg41 Try.sizeOf41 (by rfl) (fun w' hw => ?_)
  exact ⟨by unfold atP; rw [if_neg (by simp [hna])]; rfl, hw.below (Bg.le.refl _)⟩
set_option maxRecDepth 100000 in
set_option maxHeartbeats 2000000 in
theorem dknown_any (bw bi bb be bu : Nat) (VT VP : Value) (ts : List TabV) (at_ : List UInt32) (a : UInt32) (w : World) (hcw : CellsIn (hp w) bw [.map (some bi), .map (some bb), .map (some be), .map (some bu), VT, VP]) (hT : Sl (hp w) encTab ts VT) (hP : Sl (hp w) encU32 at_ VP) (hl : ts.length = at_.length) :
  Calls Try.prog 76 #[.pointer (some ⟨bw, 0, none⟩), .int .u32 a.toNat] w (fun e w' => e = .returned (.tuple #[knownV ts at_ a, .bool (knownP ts at_ a).isSome]) ∧ Ext w w') := by
 have hcw' : CellsIn (Bg.of w).blk bw [.map (some bi), .map (some bb), .map (some be), .map (some bu), VT, VP] := hcw
 have hT' : Sl (Bg.of w).blk encTab ts VT := hT
 have hP' : Sl (Bg.of w).blk encU32 at_ VP := hP
 have hib := idxP_bound (fun x => decide (a = x)) at_ 0
 refine enter Try.func76 rfl Try.ntmps76 rfl ?_
 refine Tr.seq (Tr.region ?_)
 refine Tr.q (QS.assign rfl) rfl ?_
 refine Tr.q (QS.assign rfl) rfl ?_
 refine Tr.nil (Tr.thenN (Tr.seq (Tr.region ?_)))
 refine Tr.q (QS.move rfl) rfl ?_
 refine Tr.q (QS.nilCheck rfl) rfl ?_
 refine Tr.q (QS.fieldAddr (off := 5) (ft := 23) rfl Try.underlying76 rfl rfl Try.sizeOf23 (by decide)) rfl ?_
 refine Tr.q (QS.loadCF rfl (by assumption) Try.isAgg23 (by rfl)) rfl ?_
 refine Tr.q (QS.move rfl) rfl ?_
 refine Tr.q (QS.call rfl Try.call94 (fun w hw => index_u32 at_ VP a w (hw.slF hP'))) rfl ?_
 refine Tr.q (QS.assign rfl) rfl ?_
 refine Tr.nil (Tr.thenN (Tr.seq (Tr.seq (Tr.region ?_))))
 refine Tr.q (QS.move rfl) rfl ?_
 refine Tr.q (QS.lss rfl rfl) rfl ?_
 refine Tr.nil (Tr.thenN ?_)
 refine Tr.cond rfl (fun h1 => ?_) (fun h1 => ?_)
 ·try simp only [bs] at h1
  refine Tr.seq (Tr.region ?_)
  refine Tr.q (QS.assign rfl) rfl ?_
  refine Tr.q (QS.assign rfl) rfl ?_
  refine Tr.nil (Tr.thenN (Tr.ret (Tr.thenR ?_)))
  refine Tr.ret2 Try.results76 rfl rfl (fun w' hw => ?_)
  exact ⟨by rw [knownV_no (by omega), knownP_no (by omega)]; rfl, hw.below (Bg.le.refl _)⟩
 ·try simp only [bs] at h1
  refine Tr.skip (Tr.thenN (Tr.seq (Tr.region ?_)))
  refine Tr.q (QS.move rfl) rfl ?_
  refine Tr.q (QS.nilCheck rfl) rfl ?_
  refine Tr.q (QS.fieldAddr (off := 4) (ft := 24) rfl Try.underlying76 rfl rfl Try.sizeOf24 (by decide)) rfl ?_
  refine Tr.q (QS.loadCF rfl (by assumption) Try.isAgg24 (by rfl)) rfl ?_
  refine Tr.q (QS.move rfl) rfl ?_
  refine Tr.q (QS.idx rfl rfl (by assumption) Try.underlying24 Try.sizeOf23 (by rfl) (by omega)) rfl ?_
  refine Tr.q (QS.el1 rfl (by assumption) Try.isAgg23 (by omega) (by rfl)) rfl ?_
  refine Tr.q (QS.assign rfl) rfl ?_
  refine Tr.q (QS.assign rfl) rfl ?_
  refine Tr.nil (Tr.thenN (Tr.ret ?_))
  refine Tr.ret2 Try.results76 rfl rfl (fun w' hw => ?_)
  exact ⟨by rw [knownV_yes (by omega), knownP_yes (by omega)]; rfl, hw.below (Bg.le.refl _)⟩
set_option maxRecDepth 100000 in
set_option maxHeartbeats 8000000 in
theorem follow_any (bw bi bb be bu : Nat) (VT VP : Value) (ts : List TabV) (at_ : List UInt32) (i : Ins) (ents unk : List (UInt32 × Bool)) (w : World) (ho : OwnAt w [mapE be boolV ents, mapE bu boolV unk]) (hcw : CellsIn (Bg.lessB w [be, bu] 0).blk bw [.map (some bi), .map (some bb), .map (some be), .map (some bu), VT, VP]) (hT : Sl (Bg.lessB w [be, bu] 0).blk encTab ts VT) (hTI : TabIn (Bg.lessB w [be, bu] 0).blk ts) (hTB : TabB ts) (hP : Sl (Bg.lessB w [be, bu] 0).blk encU32 at_ VP) (hl : ts.length = at_.length) (hI : InsOK i) :
  Calls Try.prog 43 #[.pointer (some ⟨bw, 0, none⟩), .agg (encIns.enc i).toArray] w (fun e w' => ∃ V : Value, e = .returned V ∧ Upd 0 w w' (blks [mapE be boolV ents, mapE bu boolV unk]) [rowE V 39 encU32 (leadP ts at_ i), mapE be boolV (mputs ents (callP ts at_ i)), mapE bu boolV (if unkP ts at_ i = true then mput unk i.addr true else unk)] ∧ True) := by
 have hKS := known_sl hTI hTB (at_ := at_) (a := i.addr) hl
 have hkl := known_len hTB at_ i.addr
 have hsl := succ_len i
 refine enterB (L := [mapE be boolV ents, mapE bu boolV unk]) ho rfl (Nat.zero_le _) Try.func43 rfl Try.ntmps43 rfl ?_
 refine Tr.seq (Tr.region ?_)
 refine Tr.box rfl rfl rfl (fun b1 => ?_)
 refine Tr.q (QS.assign rfl) rfl ?_
 refine Tr.nil (Tr.thenN (Tr.seq (Tr.region ?_)))
 refine Tr.q (QS.lW rfl Try.isAgg41 Try.sizeOf41) rfl ?_
 refine Tr.callRow rfl Try.call17 (fun w hw => succ_any i w hI) rfl (fun V2 => ?_)
 refine Tr.q (QS.assign rfl) rfl ?_
 refine Tr.nil (Tr.thenN ?_)
 refine Tr.seqJ (ι := List (UInt32 × Bool)) (fun m1 => m1 = (if i.op = 23 then mput ents i.imm true else ents)) (fun _ => (Bg.lessB w [be, bu] 0)) (fun m1 => [rowE V2 39 encU32 (succP i), mapE be boolV m1, mapE bu boolV unk, cellE b1 (encIns.enc i) 41]) (fun m1 => []) ?_ (fun m1 hi => ?_)
 ·skip
  refine Tr.seq (Tr.region ?_)
  refine Tr.q (QS.fieldAddr (off := 2) (ft := 3) rfl Try.underlying41 rfl rfl Try.sizeOf3 (by decide)) rfl ?_
  refine Tr.q (QS.lV rfl Try.isAgg3) rfl ?_
  refine Tr.q (QS.eql rfl rfl) rfl ?_
  refine Tr.nil (Tr.thenN ?_)
  refine Tr.cond rfl (fun h3 => ?_) (fun h3 => ?_)
  ·try simp only [bs] at h3
   refine Tr.regionT 0 6 HLF.mixed (by kernel_rfl) (panicThen panicBody) ?_
   refine TrQ.pureNil ?_
   refine TrQ.q (QS.move rfl) rfl ?_
   refine TrQ.q (QS.nilCheck rfl) rfl ?_
   refine TrQ.q (QS.fieldAddr (off := 2) (ft := 74) rfl Try.underlying76 rfl rfl Try.sizeOf74 (by decide)) rfl ?_
   refine TrQ.q (QS.loadCF rfl (by assumption) Try.isAgg74 (by rfl)) rfl ?_
   refine TrQ.q (QS.fieldAddr (off := 1) (ft := 39) rfl Try.underlying41 rfl rfl Try.sizeOf39 (by decide)) rfl ?_
   refine TrQ.q (QS.lV rfl Try.isAgg39) rfl ?_
   refine TrQ.nil ?_
   refine Tr.mapUpdate true rfl rfl rfl (by repeat constructor) Try.underlying74 Try.underlying39 rfl ?_
   refine Tr.nil (Tr.thenN ?_)
   apply Tr.joined _
   ·exact rfl
   ·exact Front.nil
   ·exact SubX.dropN 9 (by kernel_rfl) rfl
   ·exact (by repeat' constructor)
   ·exact (by show _ = _; rw [if_pos (by assumption)])
  ·try simp only [bs] at h3
   refine Tr.skip (Tr.thenN ?_)
   apply Tr.joined _
   ·exact rfl
   ·exact Front.nil
   ·exact SubX.dropN 3 (by kernel_rfl) rfl
   ·exact (by repeat' constructor)
   ·exact (by show _ = _; rw [if_neg (by assumption)])
 ·skip
  replace hi : m1 = (if i.op = 23 then mput ents i.imm true else ents) := hi
  change Tr _ _ [rowE V2 39 encU32 (succP i), mapE be boolV m1, mapE bu boolV unk, cellE b1 (encIns.enc i) 41] ([] ++ _) _
  have hm1 := hi
  refine Tr.seq (Tr.seq (Tr.region ?_))
  refine Tr.q (QS.lW rfl Try.isAgg41 Try.sizeOf41) rfl ?_
  refine Tr.q (QS.call rfl Try.call75 (fun w hw => indirect_any i w)) rfl ?_
  refine Tr.q (QS.not rfl) rfl ?_
  refine Tr.nil (Tr.thenN ?_)
  refine Tr.cond rfl (fun h4 => ?_) (fun h4 => ?_)
  ·try simp only [bs] at h4
   refine Tr.seq (Tr.region ?_)
   refine Tr.q (QS.move rfl) rfl ?_
   refine Tr.q (QS.assign rfl) rfl ?_
   refine Tr.nil (Tr.thenN (Tr.ret (Tr.thenR ?_)))
   refine Tr.ret1 Try.results43 rfl (fun w' hw => ?_)
   have hb1 : leadP ts at_ i = succP i := by unfold leadP; rw [if_neg (by simp_all), List.append_nil]
   have hb2 : mputs ents (callP ts at_ i) = m1 := call_plain hm1 (by simp_all)
   have hb3 : unkP ts at_ i = false := by unfold unkP; simp_all
   exact ⟨_, rfl, by rw [hb1, hb2, hb3, if_neg (by decide)]; exact hw.upd (Bg.le.refl _) (by repeat' constructor), trivial⟩
  ·try simp only [bs] at h4
   refine Tr.skip (Tr.thenN (Tr.seq (Tr.region ?_)))
   refine Tr.q (QS.move rfl) rfl ?_
   refine Tr.q (QS.fieldAddr (off := 0) (ft := 39) rfl Try.underlying41 rfl rfl Try.sizeOf39 (by decide)) rfl ?_
   refine Tr.q (QS.lV rfl Try.isAgg39) rfl ?_
   refine Tr.q (QS.call rfl Try.call76 (fun w hw => dknown_any bw bi bb be bu VT VP ts at_ i.addr w (hcw.mono hw.bg) (hw.slF hT) (hw.slF hP) hl)) rfl ?_
   refine Tr.q (QS.move rfl) rfl ?_
   refine Tr.q (QS.extract rfl rfl) rfl ?_
   refine Tr.q (QS.extract rfl rfl) rfl ?_
   refine Tr.q (QS.assign rfl) rfl ?_
   refine Tr.q (QS.assign rfl) rfl ?_
   refine Tr.nil (Tr.thenN ?_)
   refine Tr.seqJ (ι := List (UInt32 × Bool)) (fun u1 => u1 = (if (knownP ts at_ i.addr).isSome = true then unk else mput unk i.addr true)) (fun _ => (Bg.lessB w [be, bu] 0)) (fun u1 => [rowE V2 39 encU32 (succP i), mapE be boolV m1, mapE bu boolV u1, cellE b1 (encIns.enc i) 41]) (fun u1 => []) ?_ (fun u1 hi => ?_)
   ·skip
    refine Tr.seq (Tr.region ?_)
    refine Tr.q (QS.move rfl) rfl ?_
    refine Tr.q (QS.not rfl) rfl ?_
    refine Tr.nil (Tr.thenN ?_)
    refine Tr.cond rfl (fun h5 => ?_) (fun h5 => ?_)
    ·try simp only [bs] at h5
     refine Tr.regionT 0 6 HLF.mixed (by kernel_rfl) (panicThen panicBody) ?_
     refine TrQ.pureNil ?_
     refine TrQ.q (QS.move rfl) rfl ?_
     refine TrQ.q (QS.nilCheck rfl) rfl ?_
     refine TrQ.q (QS.fieldAddr (off := 3) (ft := 74) rfl Try.underlying76 rfl rfl Try.sizeOf74 (by decide)) rfl ?_
     refine TrQ.q (QS.loadCF rfl (by assumption) Try.isAgg74 (by rfl)) rfl ?_
     refine TrQ.q (QS.fieldAddr (off := 0) (ft := 39) rfl Try.underlying41 rfl rfl Try.sizeOf39 (by decide)) rfl ?_
     refine TrQ.q (QS.lV rfl Try.isAgg39) rfl ?_
     refine TrQ.nil ?_
     refine Tr.mapUpdate true rfl rfl rfl (by repeat constructor) Try.underlying74 Try.underlying39 rfl ?_
     refine Tr.nil (Tr.thenN ?_)
     apply Tr.joined _
     ·exact rfl
     ·exact Front.nil
     ·exact SubX.dropN 8 (by kernel_rfl) rfl
     ·exact (by repeat' constructor)
     ·exact (by show _ = _; rw [if_neg (by simp_all)])
    ·try simp only [bs] at h5
     refine Tr.skip (Tr.thenN ?_)
     apply Tr.joined _
     ·exact rfl
     ·exact Front.nil
     ·exact SubX.dropN 2 (by kernel_rfl) rfl
     ·exact (by repeat' constructor)
     ·exact (by show _ = _; rw [if_pos (by assumption)])
   ·skip
    replace hi : u1 = (if (knownP ts at_ i.addr).isSome = true then unk else mput unk i.addr true) := hi
    change Tr _ _ [rowE V2 39 encU32 (succP i), mapE be boolV m1, mapE bu boolV u1, cellE b1 (encIns.enc i) 41] ([] ++ _) _
    have hu1 := hi
    refine Tr.seqJ (ι := List (UInt32 × Bool)) (fun m2 => m2 = if i.op = 24 then mputs m1 ((knownP ts at_ i.addr).getD []) else m1) (fun _ => (Bg.lessB w [be, bu] 0)) (fun m2 => [rowE V2 39 encU32 (succP i), mapE be boolV m2, mapE bu boolV u1, cellE b1 (encIns.enc i) 41]) (fun m2 => []) ?_ (fun m2 hi => ?_)
    ·skip
     refine Tr.seq (Tr.region ?_)
     refine Tr.q (QS.fieldAddr (off := 2) (ft := 3) rfl Try.underlying41 rfl rfl Try.sizeOf3 (by decide)) rfl ?_
     refine Tr.q (QS.lV rfl Try.isAgg3) rfl ?_
     refine Tr.q (QS.eql rfl rfl) rfl ?_
     refine Tr.nil (Tr.thenN ?_)
     refine Tr.cond rfl (fun h6 => ?_) (fun h6 => ?_)
     ·try simp only [bs] at h6
      refine Tr.seq (Tr.region ?_)
      refine Tr.q (QS.move rfl) rfl ?_
      refine Tr.q (QS.len rfl (by assumption) Try.underlying23) rfl ?_
      refine Tr.q (QS.move rfl) rfl ?_
      refine Tr.nil (Tr.thenN (Tr.block ?_))
      refine Tr.loop (ι := Nat) (fun k => k ≤ ((knownP ts at_ i.addr).getD []).length) (fun _ => (Bg.lessB w [be, bu] 0)) (fun k => [rowE V2 39 encU32 (succP i), mapE be boolV (mputs m1 (((knownP ts at_ i.addr).getD []).take k)), mapE bu boolV u1, cellE b1 (encIns.enc i) 41]) (fun k => [(45, .int .i64 (k : Nat))]) (fun k => ((knownP ts at_ i.addr).getD []).length - k) 0 (Nat.zero_le _) (.cons (by first | rfl | exact lookI rfl (by omega) | exact lookI rfl (by simp) | exact lookB rfl (by simp)) Front.nil) (by repeat' constructor) rfl (fun k hi m hm => ?_)
      replace hi : k ≤ ((knownP ts at_ i.addr).getD []).length := hi
      replace hm : m = ((knownP ts at_ i.addr).getD []).length - k := hm
      change Tr _ _ [rowE V2 39 encU32 (succP i), mapE be boolV (mputs m1 (((knownP ts at_ i.addr).getD []).take k)), mapE bu boolV u1, cellE b1 (encIns.enc i) 41] ([(45, .int .i64 (k : Nat))] ++ _) _
      refine Tr.seq (Tr.region ?_)
      refine Tr.q (QS.lss rfl rfl) rfl ?_
      refine Tr.nil (Tr.thenN (Tr.seq ?_))
      refine Tr.cond rfl (fun h7 => ?_) (fun h7 => ?_)
      ·try simp only [bs] at h7
       refine Tr.skip (Tr.thenN (Tr.seq (Tr.block (Tr.seq (Tr.region ?_)))))
       refine Tr.q (QS.idxN rfl rfl (by assumption) Try.underlying23 Try.sizeOf39 (by rfl) (by omega)) rfl ?_
       refine Tr.q (QS.el1 rfl (by assumption) Try.isAgg39 (by omega) (by rfl)) rfl ?_
       refine Tr.q (QS.assign rfl) rfl ?_
       refine Tr.nil (Tr.thenN (Tr.region ?_))
       refine Tr.q (QS.move rfl) rfl ?_
       refine Tr.q (QS.nilCheck rfl) rfl ?_
       refine Tr.q (QS.fieldAddr (off := 2) (ft := 74) rfl Try.underlying76 rfl rfl Try.sizeOf74 (by decide)) rfl ?_
       refine Tr.q (QS.loadCF rfl (by assumption) Try.isAgg74 (by rfl)) rfl ?_
       refine Tr.q (QS.move rfl) rfl ?_
       refine Tr.mapUpdate true rfl rfl rfl (by repeat constructor) Try.underlying74 Try.underlying39 rfl ?_
       refine Tr.nil (Tr.inN (Tr.thenN (Tr.region ?_)))
       refine Tr.q (QS.addI rfl rfl (by omega)) rfl ?_
       refine Tr.q (QS.move rfl) rfl ?_
       refine Tr.nil (Tr.thenN ?_)
       rw [← mputs_snoc, ← take_succ (by omega)]
       apply Tr.again (k + 1)
       ·exact rfl
       ·exact (.cons (by first | rfl | exact lookI rfl (by omega) | exact lookI rfl (by simp) | exact lookB rfl (by simp)) Front.nil)
       ·exact SubX.dropN 12 (by kernel_rfl) rfl
       ·exact (by repeat' constructor)
       ·exact (by show k + 1 ≤ _; omega)
       ·exact (by (try dsimp only); omega)
      ·try simp only [bs] at h7
       refine Tr.exit ?_
       refine Tr.thenE (Tr.thenE (Tr.inHit (Tr.thenN ?_)))
       apply Tr.joined _
       ·exact rfl
       ·exact Front.nil
       ·exact SubX.dropN 8 (by kernel_rfl) rfl
       ·exact (by repeat' constructor)
       ·exact (by show _ = _; rw [if_pos (by assumption), List.take_of_length_le (by omega)])
     ·try simp only [bs] at h6
      refine Tr.skip (Tr.thenN ?_)
      apply Tr.joined _
      ·exact rfl
      ·exact Front.nil
      ·exact SubX.dropN 3 (by kernel_rfl) rfl
      ·exact (by repeat' constructor)
      ·exact (by show _ = _; rw [if_neg (by assumption)])
    ·skip
     replace hi : m2 = if i.op = 24 then mputs m1 ((knownP ts at_ i.addr).getD []) else m1 := hi
     change Tr _ _ [rowE V2 39 encU32 (succP i), mapE be boolV m2, mapE bu boolV u1, cellE b1 (encIns.enc i) 41] ([] ++ _) _
     have hm2 := hi
     refine Tr.seq (Tr.region ?_)
     refine Tr.q (QS.move rfl) rfl ?_
     refine Tr.q (QS.move rfl) rfl ?_
     refine Tr.appendOf rfl rfl (by repeat constructor) (fun w hw => hw.slF (by assumption)) Try.underlying23 HLF.info39 (by rfl) (by rfl) (by (try simp only [List.length_cons, List.length_nil, List.length_append, List.length_take]); omega) (by unfold maxLen; (try simp only [List.length_cons, List.length_nil, List.length_append, List.length_take]); omega) rfl (fun V8 => ?_)
     refine Tr.q (QS.assign rfl) rfl ?_
     refine Tr.nil (Tr.thenN (Tr.ret ?_))
     refine Tr.ret1 Try.results43 rfl (fun w' hw => ?_)
     have hb1 : leadP ts at_ i = succP i ++ ((knownP ts at_ i.addr).getD []) := by unfold leadP; rw [if_pos (by simp_all)]
     have hb2 : mputs ents (callP ts at_ i) = m2 := call_ind hm1 hm2 (by simp_all)
     have hb3 : (if unkP ts at_ i = true then mput unk i.addr true else unk) = u1 := unk_ind hu1 (by simp_all)
     exact ⟨_, rfl, by rw [hb1, hb2, hb3]; exact hw.upd (Bg.le.refl _) (by repeat' constructor), trivial⟩
set_option maxRecDepth 100000 in
set_option maxHeartbeats 16000000 in
theorem walk_any (l : List SecV) (ts : List TabV) (at_ es : List UInt32) (V VE VT VP : Value) (w : World) (hV : Sl (hp w) encSec l V) (hB : SecB l) (hD : DataIn (hp w) l) (hN : ∀ s ∈ l, s.name.size ≤ 140737488351232) (hE : Sl (hp w) encU32 es VE) (hT : Sl (hp w) encTab ts VT) (hTI : TabIn (hp w) ts) (hTB : TabB ts) (hP : Sl (hp w) encU32 at_ VP) (ht : totD l ≤ 480) (hel : es.length ≤ 100) :
  Calls Try.prog 22 #[V, VE, VT, VP] w (fun e w' => ∃ i : ((Value × Value × Value × Value) × CodeP × Int), e = .returned ((fun i : ((Value × Value × Value × Value) × CodeP × Int) => .tuple #[.agg #[i.1.1, i.1.2.1, i.1.2.2.1, i.1.2.2.2], .int .i64 i.2.2]) i) ∧ Below w.heap.size w w' ∧ NewEnts w w' ((fun i : ((Value × Value × Value × Value) × CodeP × Int) => [rowE i.1.1 41 encIns i.2.1.ins, rowE i.1.2.1 39 encU32 i.2.1.ents, rowE i.1.2.2.1 39 encU32 i.2.1.unk, rowE i.1.2.2.2 39 encU32 i.2.1.bad]) i) ∧ WalkIs l ts at_ es i.2.1 i.2.2) := by
 obtain ⟨ta, tc, hvt, _⟩ := hT.shape
 subst hvt
 obtain ⟨pa, pc, hvp, _⟩ := hP.shape
 subst hvp
 have hV0 : Sl (Bg.of0 w).blk encSec l V := hV
 have hD0 : DataIn (Bg.of0 w).blk l := hD
 have hE0 : Sl (Bg.of0 w).blk encU32 es VE := hE
 have hT0 : Sl (Bg.of0 w).blk encTab ts (.slice ta ts.length tc) := hT
 have hTI0 : TabIn (Bg.of0 w).blk ts := hTI
 have hP0 : Sl (Bg.of0 w).blk encU32 at_ (.slice pa at_.length pc) := hP
 refine enter0 Try.func22 rfl Try.ntmps22 rfl ?_
 refine Tr.seq (Tr.region ?_)
 refine Tr.alloc Try.zeroValue31 rfl rfl (fun b1 => ?_)
 refine Tr.q (QS.assign rfl) rfl ?_
 refine Tr.nil (Tr.thenN ?_)
 refine Tr.scope ?_
 refine Tr.seq (Tr.seq (Tr.region ?_))
 refine Tr.q (QS.move rfl) rfl ?_
 refine Tr.q (QS.len rfl (by assumption) Try.underlying24) rfl ?_
 refine Tr.q (QS.move rfl) rfl ?_
 refine Tr.q (QS.len rfl (by assumption) Try.underlying23) rfl ?_
 refine Tr.q (QS.neq rfl rfl) rfl ?_
 refine Tr.nil (Tr.thenN ?_)
 refine Tr.cond rfl (fun h2 => ?_) (fun h2 => ?_)
 ·try simp only [bs] at h2
  refine Tr.seq ?_
  refine Tr.ownNil 41 encIns ?_
  refine Tr.ownNil 39 encU32 ?_
  refine Tr.ownNil 39 encU32 ?_
  refine Tr.ownNil 39 encU32 ?_
  refine Tr.region ?_
  refine Tr.q (QS.build (vs := []) rfl rfl (HLF.built31)) rfl ?_
  refine Tr.storeW rfl rfl Try.sizeOf31 (by repeat constructor) (by rfl) (by rfl) (by first | exact List.all_eq_true.1 rfl | exact Enc.one _ _ | (intro u hu; simp [Value.cells] at hu; simp_all [Value.oneCell'])) rfl ?_
  refine Tr.q (QS.assign rfl) rfl ?_
  refine Tr.nil (Tr.thenN (Tr.ret (Tr.thenR ?_)))
  refine Tr.scopeR ?_
  refine Tr.retC2 Try.results22 rfl rfl (by repeat constructor) Try.isAgg31 Try.sizeOf31 (by rfl) (fun w' hw => ?_)
  exact ⟨((.slice none 0 0, .slice none 0 0, .slice none 0 0, .slice none 0 0), ⟨[], [], [], []⟩, 2), rfl, hw.below0 (Bg.le.refl _), hw.ents0 rfl (by repeat' constructor), .arg (by show ts.length ≠ at_.length; omega) rfl rfl⟩
 ·try simp only [bs] at h2
  refine Tr.skip (Tr.thenN (Tr.seq (Tr.seq (Tr.region ?_))))
  refine Tr.q (QS.move rfl) rfl ?_
  refine Tr.q (QS.call rfl Try.call40 (fun w hw => check_sec l V w (hw.slF hV0) hB (fun s hs => by have := hN s hs; omega))) rfl ?_
  refine Tr.q (QS.assign rfl) rfl ?_
  refine Tr.nil (Tr.thenN (Tr.seq (Tr.region ?_)))
  refine Tr.q (QS.move rfl) rfl ?_
  refine Tr.q (QS.neq rfl rfl) rfl ?_
  refine Tr.nil (Tr.thenN ?_)
  refine Tr.cond rfl (fun h3 => ?_) (fun h3 => ?_)
  ·try simp only [bs] at h3
   refine Tr.seq ?_
   refine Tr.ownNil 41 encIns ?_
   refine Tr.ownNil 39 encU32 ?_
   refine Tr.ownNil 39 encU32 ?_
   refine Tr.ownNil 39 encU32 ?_
   refine Tr.region ?_
   refine Tr.q (QS.build (vs := []) rfl rfl (HLF.built31)) rfl ?_
   refine Tr.q (QS.move rfl) rfl ?_
   refine Tr.storeW rfl rfl Try.sizeOf31 (by repeat constructor) (by rfl) (by rfl) (by first | exact List.all_eq_true.1 rfl | exact Enc.one _ _ | (intro u hu; simp [Value.cells] at hu; simp_all [Value.oneCell'])) rfl ?_
   refine Tr.q (QS.assign rfl) rfl ?_
   refine Tr.nil (Tr.thenN (Tr.ret (Tr.thenR ?_)))
   refine Tr.scopeR ?_
   refine Tr.retC2 Try.results22 rfl rfl (by repeat constructor) Try.isAgg31 Try.sizeOf31 (by rfl) (fun w' hw => ?_)
   exact ⟨((.slice none 0 0, .slice none 0 0, .slice none 0 0, .slice none 0 0), ⟨[], [], [], []⟩, checkS l), rfl, hw.below0 (Bg.le.refl _), hw.ents0 rfl (by repeat' constructor), .chk (by show ts.length = at_.length; omega) (by assumption) rfl rfl⟩
  ·try simp only [bs] at h3
   refine Tr.skip (Tr.thenN (Tr.seq ?_))
   have hl : ts.length = at_.length := by omega
   refine Tr.region ?_
   refine Tr.makeMap insV rfl (fun b4 => ?_)
   refine Tr.makeMap boolV rfl (fun b5 => ?_)
   refine Tr.makeMap boolV rfl (fun b6 => ?_)
   refine Tr.makeMap boolV rfl (fun b7 => ?_)
   refine Tr.q (QS.move rfl) rfl ?_
   refine Tr.q (QS.move rfl) rfl ?_
   refine Tr.q (QS.build (vs := [(0, _), (1, _), (2, _), (3, _), (4, _), (5, _)]) (cs := #[.map (some b4), .map (some b5), .map (some b6), .map (some b7), (.slice ta ts.length tc), (.slice pa at_.length pc)]) rfl rfl (by kernel_rfl)) rfl ?_
   refine Tr.box (cs := [.map (some b4), .map (some b5), .map (some b6), .map (some b7), (.slice ta ts.length tc), (.slice pa at_.length pc)]) rfl rfl rfl (fun b8 => ?_)
   refine Tr.frozenC (b := b8) (by repeat constructor) (fun F1 hF1 hcw => ?_)
   have hV1 := hV0.mono hF1.blk
   have hD1 := hD0.mono hF1.blk
   have hE1 := hE0.mono hF1.blk
   have hT1 := hT0.mono hF1.blk
   have hTI1 := hTI0.mono hF1.blk
   have hP1 := hP0.mono hF1.blk
   refine Tr.q (QS.assign rfl) rfl ?_
   refine Tr.nil (Tr.thenN (Tr.seq (Tr.seq (Tr.region ?_))))
   refine Tr.q (QS.move rfl) rfl ?_
   refine Tr.q (QS.len rfl (by assumption) Try.underlying23) rfl ?_
   refine Tr.q (QS.move rfl) rfl ?_
   refine Tr.nil (Tr.thenN (Tr.block ?_))
   refine Tr.loop (ι := Nat) (fun k => k ≤ es.length) (fun _ => _) (fun k => [mapE b6 boolV (mputs [] (es.take k)), mapE b4 insV [], mapE b5 boolV [], mapE b7 boolV [], cellE b1 [.slice none 0 0, .slice none 0 0, .slice none 0 0, .slice none 0 0] 31]) (fun k => [(50, .int .i64 (k : Nat))]) (fun k => es.length - k) 0 (Nat.zero_le _) (.cons (by first | rfl | exact lookI rfl (by omega) | exact lookI rfl (by simp) | exact lookB rfl (by simp)) Front.nil) (by repeat' constructor) rfl (fun k hi m hm => ?_)
   replace hi : k ≤ es.length := hi
   replace hm : m = es.length - k := hm
   change Tr _ _ [mapE b6 boolV (mputs [] (es.take k)), mapE b4 insV [], mapE b5 boolV [], mapE b7 boolV [], cellE b1 [.slice none 0 0, .slice none 0 0, .slice none 0 0, .slice none 0 0] 31] ([(50, .int .i64 (k : Nat))] ++ _) _
   refine Tr.seq (Tr.region ?_)
   refine Tr.q (QS.lss rfl rfl) rfl ?_
   refine Tr.nil (Tr.thenN (Tr.seq ?_))
   refine Tr.cond rfl (fun h8 => ?_) (fun h8 => ?_)
   ·try simp only [bs] at h8
    refine Tr.skip (Tr.thenN (Tr.seq (Tr.block (Tr.seq (Tr.region ?_)))))
    refine Tr.q (QS.idxN rfl rfl (by assumption) Try.underlying23 Try.sizeOf39 (by rfl) (by omega)) rfl ?_
    refine Tr.q (QS.el1 rfl (by assumption) Try.isAgg39 (by omega) (by rfl)) rfl ?_
    refine Tr.q (QS.assign rfl) rfl ?_
    refine Tr.nil (Tr.thenN (Tr.region ?_))
    refine Tr.q (QS.move rfl) rfl ?_
    refine Tr.q (QS.nilCheck rfl) rfl ?_
    refine Tr.q (QS.fieldAddr (off := 2) (ft := 74) rfl Try.underlying76 rfl rfl Try.sizeOf74 (by decide)) rfl ?_
    refine Tr.q (QS.loadCF rfl hcw Try.isAgg74 (by rfl)) rfl ?_
    refine Tr.q (QS.move rfl) rfl ?_
    refine Tr.mapUpdate true rfl rfl rfl (by repeat constructor) Try.underlying74 Try.underlying39 rfl ?_
    refine Tr.nil (Tr.inN (Tr.thenN (Tr.region ?_)))
    refine Tr.q (QS.addI rfl rfl (by omega)) rfl ?_
    refine Tr.q (QS.move rfl) rfl ?_
    refine Tr.nil (Tr.thenN ?_)
    rw [← mputs_snoc, ← take_succ (by omega)]
    apply Tr.again (k + 1)
    ·exact rfl
    ·exact (.cons (by first | rfl | exact lookI rfl (by omega) | exact lookI rfl (by simp) | exact lookB rfl (by simp)) Front.nil)
    ·exact SubX.dropN 12 (by kernel_rfl) rfl
    ·exact (by repeat' constructor)
    ·exact (by show k + 1 ≤ _; omega)
    ·exact (by (try dsimp only); omega)
   ·try simp only [bs] at h8
    refine Tr.exit ?_
    refine Tr.thenE (Tr.thenE (Tr.inHit (Tr.thenN (Tr.seq ?_))))
    obtain rfl : k = es.length := by omega
    rw [List.take_length]
    refine Tr.region ?_
    refine Tr.q (QS.move rfl) rfl ?_
    refine Tr.callRow rfl Try.call41 (fun w hw => clone_u32 es VE w (hw.slF hE1) (by omega)) rfl (fun V9 => ?_)
    refine Tr.q (QS.assign rfl) rfl ?_
    refine Tr.nil (Tr.thenN (Tr.seq (Tr.region ?_)))
    refine Tr.q (QS.assign rfl) rfl ?_
    refine Tr.nil (Tr.thenN (Tr.seq ?_))
    refine Tr.label ?_
    refine Tr.thenN (Tr.seq (Tr.block ?_))
    refine Tr.loop (ι := DSt × Value) (fun ⟨s, Vr⟩ => DInv l ts at_ es s) (fun _ => _) (fun ⟨s, Vr⟩ => [rowE Vr 39 encU32 s.rest, mapE b4 insV s.ins, mapE b5 boolV s.bad, mapE b6 boolV s.ents, mapE b7 boolV s.unk, cellE b1 [.slice none 0 0, .slice none 0 0, .slice none 0 0, .slice none 0 0] 31]) (fun ⟨s, Vr⟩ => [(14, Vr), (15, .bool false)]) (fun ⟨s, Vr⟩ => (481 - s.ins.length) * 16 + s.rest.length) (⟨[], [], mputs [] es, [], es⟩, _) DInv.begin (.cons (by first | rfl | exact lookI rfl (by omega) | exact lookI rfl (by simp) | exact lookB rfl (by simp)) (.cons (by first | rfl | exact lookI rfl (by omega) | exact lookI rfl (by simp) | exact lookB rfl (by simp)) Front.nil)) (by repeat' constructor) rfl (fun i hi m hm => ?_)
    obtain ⟨s, Vr⟩ := i
    replace hi : DInv l ts at_ es s := hi
    replace hm : m = (481 - s.ins.length) * 16 + s.rest.length := hm
    change Tr _ _ [rowE Vr 39 encU32 s.rest, mapE b4 insV s.ins, mapE b5 boolV s.bad, mapE b6 boolV s.ents, mapE b7 boolV s.unk, cellE b1 [.slice none 0 0, .slice none 0 0, .slice none 0 0, .slice none 0 0] 31] ([(14, Vr), (15, .bool false)] ++ _) _
    have hinv := hi
    have hic := hinv.count
    have hil := hinv.lRest
    refine Tr.seq (Tr.seq (Tr.region ?_))
    refine Tr.q (QS.move rfl) rfl ?_
    refine Tr.q (QS.lenRow rfl (by repeat constructor) Try.underlying23) rfl ?_
    refine Tr.q (QS.gtr rfl rfl) rfl ?_
    refine Tr.nil (Tr.thenN ?_)
    refine Tr.cond rfl (fun h10 => ?_) (fun h10 => ?_)
    ·try simp only [bs] at h10
     refine Tr.skip (Tr.thenN (Tr.block (Tr.seq (Tr.region ?_))))
     refine Tr.q (QS.move rfl) rfl ?_
     refine Tr.q (QS.move rfl) rfl ?_
     refine Tr.q (QS.lenRow rfl (by repeat constructor) Try.underlying23) rfl ?_
     refine Tr.q (QS.subI rfl rfl (by omega)) rfl ?_
     refine Tr.q (QS.idxRow rfl rfl (by repeat constructor) Try.underlying23 Try.sizeOf39 (by rfl) (by omega)) rfl ?_
     refine Tr.q (QS.elR1 rfl (by repeat constructor) Try.isAgg39 (by omega) (by rfl)) rfl ?_
     obtain ⟨a, ha⟩ : ∃ a, a = s.rest.getD ((s.rest.length : Int) - 1).toNat default := ⟨_, rfl⟩
     obtain ⟨r, hre⟩ : ∃ r, r = s.rest.take ((s.rest.length : Int) - 1).toNat := ⟨_, rfl⟩
     have hr : s.rest = r ++ [a] := by rw [ha, hre]; exact last_split (by omega)
     have hrl : r.length + 1 = s.rest.length := by rw [hr, List.length_append]; rfl
     rw [← ha]
     refine Tr.q (QS.assign rfl) rfl ?_
     refine Tr.nil (Tr.thenN (Tr.seq (Tr.region ?_)))
     refine Tr.q (QS.move rfl) rfl ?_
     refine Tr.q (QS.move rfl) rfl ?_
     refine Tr.q (QS.lenRow rfl (by repeat constructor) Try.underlying23) rfl ?_
     refine Tr.q (QS.subI rfl rfl (by omega)) rfl ?_
     refine Tr.shrink rfl (by repeat constructor) rfl Try.underlying23 Try.sizeOf39 (by omega) rfl (fun Vr2 => ?_)
     rw [← hre]
     refine Tr.q (QS.assign rfl) rfl ?_
     refine Tr.nil (Tr.thenN (Tr.seq (Tr.seq (Tr.region ?_))))
     refine Tr.q (QS.move rfl) rfl ?_
     refine Tr.q (QS.nilCheck rfl) rfl ?_
     refine Tr.q (QS.fieldAddr (off := 0) (ft := 73) rfl Try.underlying76 rfl rfl Try.sizeOf73 (by decide)) rfl ?_
     refine Tr.q (QS.loadCF rfl hcw Try.isAgg73 (by rfl)) rfl ?_
     refine Tr.q (QS.move rfl) rfl ?_
     refine Tr.q (QS.lookIOk rfl rfl (by repeat constructor) Try.underlying73 Try.underlying39 Try.zeroValue41 (by rfl)) rfl ?_
     refine Tr.q (QS.move rfl) rfl ?_
     refine Tr.q (QS.extract rfl rfl) rfl ?_
     refine Tr.q (QS.extract rfl rfl) rfl ?_
     refine Tr.alloc Try.zeroValue41 rfl rfl (fun b11 => ?_)
     refine Tr.storeW rfl rfl Try.sizeOf41 (by repeat constructor) (by rfl) (by rfl) (by first | exact List.all_eq_true.1 rfl | exact Enc.one _ _ | exact Enc.one encIns _) rfl ?_
     refine Tr.q (QS.assign rfl) rfl ?_
     refine Tr.nil (Tr.thenN (Tr.seq (Tr.region ?_)))
     refine Tr.q (QS.move rfl) rfl ?_
     refine Tr.q (QS.move rfl) rfl ?_
     apply Tr.orP
     ·exact (rfl : _ = (7, 86, 93))
     ·exact rfl
     ·intro hF12; have hF12' := hF12
      try simp only [bs] at hF12'
      refine Tr.gq rfl rfl hF12 (QS.move rfl) rfl ?_
      refine Tr.gq rfl rfl hF12 (QS.nilCheck rfl) rfl ?_
      refine Tr.gq rfl rfl hF12 (QS.fieldAddr (off := 1) (ft := 74) rfl Try.underlying76 rfl rfl Try.sizeOf74 (by decide)) rfl ?_
      refine Tr.gq rfl rfl hF12 (QS.loadCF rfl hcw Try.isAgg74 (by rfl)) rfl ?_
      refine Tr.gq rfl rfl hF12 (QS.move rfl) rfl ?_
      refine Tr.gq rfl rfl hF12 (QS.lookT rfl rfl (by repeat constructor) Try.underlying74 Try.underlying39 Try.zeroValue4) rfl ?_
      refine Tr.q (QS.pickF rfl hF12 rfl) rfl ?_
      refine Tr.nil (Tr.thenN ?_)
      exact Tr.endX (Sub.cons rfl (Sub.dropN 7 (by kernel_rfl) rfl))
     ·intro hT12
      refine Tr.gskip rfl rfl hT12 rfl ?_
      refine Tr.gskip rfl rfl hT12 rfl ?_
      refine Tr.gskip rfl rfl hT12 rfl ?_
      refine Tr.gskip rfl rfl hT12 rfl ?_
      refine Tr.gskip rfl rfl hT12 rfl ?_
      refine Tr.gskip rfl rfl hT12 rfl ?_
      refine Tr.q (QS.pickT rfl hT12 rfl) rfl ?_
      refine Tr.nil (Tr.thenN ?_)
      exact Tr.endX (Sub.cons rfl (Sub.dropN 7 (by kernel_rfl) rfl))
     refine Tr.nil (Tr.thenN ?_)
     refine Tr.cond rfl (fun h13 => ?_) (fun h13 => ?_)
     ·try simp only [bs] at h13
      refine Tr.exit ?_
      refine Tr.thenE (Tr.inHit (Tr.thenN ?_))
      apply Tr.again (⟨s.ins, s.bad, s.ents, s.unk, r⟩, _)
      ·exact rfl
      ·exact (.cons (by first | rfl | exact lookI rfl (by omega) | exact lookI rfl (by simp) | exact lookB rfl (by simp)) (.cons (by first | rfl | exact lookI rfl (by omega) | exact lookI rfl (by simp) | exact lookB rfl (by simp)) Front.nil))
      ·exact SubX.dropN 32 (by kernel_rfl) rfl
      ·exact (by repeat' constructor)
      ·exact (hinv.skip hr (skip_key (by assumption)))
      ·exact (by show (481 - s.ins.length) * 16 + r.length < m; omega)
     ·try simp only [bs] at h13
      refine Tr.skip (Tr.thenN (Tr.seq (Tr.region ?_)))
      refine Tr.q (QS.move rfl) rfl ?_
      refine Tr.q (QS.move rfl) rfl ?_
      refine Tr.q (QS.call rfl Try.call42 (fun w hw => dat_any l V a w (hw.slF hV1) hB (hD1.mono hw.bg))) rfl ?_
      refine Tr.q (QS.move rfl) rfl ?_
      refine Tr.q (QS.extract rfl rfl) rfl ?_
      refine Tr.q (QS.extract rfl rfl) rfl ?_
      refine Tr.alloc Try.zeroValue41 rfl rfl (fun b14 => ?_)
      refine Tr.storeW rfl rfl Try.sizeOf41 (by repeat constructor) (by rfl) (by rfl) (by first | exact List.all_eq_true.1 rfl | exact Enc.one _ _ | exact Enc.one encIns _) rfl ?_
      refine Tr.q (QS.assign rfl) rfl ?_
      refine Tr.nil (Tr.thenN (Tr.seq (Tr.seq (Tr.region ?_))))
      refine Tr.q (QS.move rfl) rfl ?_
      refine Tr.q (QS.not rfl) rfl ?_
      refine Tr.nil (Tr.thenN ?_)
      refine Tr.cond rfl (fun h15 => ?_) (fun h15 => ?_)
      ·try simp only [bs] at h15
       refine Tr.seq (Tr.region ?_)
       refine Tr.q (QS.move rfl) rfl ?_
       refine Tr.q (QS.nilCheck rfl) rfl ?_
       refine Tr.q (QS.fieldAddr (off := 1) (ft := 74) rfl Try.underlying76 rfl rfl Try.sizeOf74 (by decide)) rfl ?_
       refine Tr.q (QS.loadCF rfl hcw Try.isAgg74 (by rfl)) rfl ?_
       refine Tr.q (QS.move rfl) rfl ?_
       refine Tr.mapUpdate true rfl rfl rfl (by repeat constructor) Try.underlying74 Try.underlying39 rfl ?_
       refine Tr.nil (Tr.thenN ?_)
       refine Tr.exit ?_
       refine Tr.thenE (Tr.inHit (Tr.thenN ?_))
       apply Tr.again (⟨s.ins, mput s.bad a true, s.ents, s.unk, r⟩, _)
       ·exact rfl
       ·exact (.cons (by first | rfl | exact lookI rfl (by omega) | exact lookI rfl (by simp) | exact lookB rfl (by simp)) (.cons (by first | rfl | exact lookI rfl (by omega) | exact lookI rfl (by simp) | exact lookB rfl (by simp)) Front.nil))
       ·exact SubX.dropN 47 (by kernel_rfl) rfl
       ·exact (by repeat' constructor)
       ·exact (hinv.isBad hr (by assumption))
       ·exact (by show (481 - s.ins.length) * 16 + r.length < m; omega)
      ·try simp only [bs] at h15
       refine Tr.skip (Tr.thenN (Tr.seq ?_))
       have hok : (atP l a).2 = true := by assumption
       have hnk : a ∉ s.ins.map (·.1) := skip_no (by assumption)
       have hinv2 := DInv.found hTB hinv hr hok hnk
       have hct : (mput s.ins a (atP l a).1).length ≤ totD l := hinv2.count
       have hml := mput_new (l := s.ins) (k := a) (by cases hq : mget s.ins a with | none => rfl | some x => exact absurd (key_mem hq) hnk) (atP l a).1
       have hml2 : (mput s.ins a (atP l a).1).length = s.ins.length + 1 := by rw [hml, List.length_append]; rfl
       have hld := lead_len hTB at_ (atP l a).1
       refine Tr.regionT 0 6 HLF.mixed (by kernel_rfl) (panicThen (panicIn (panicThen (panicIn (panicThen (panicScope panicBody)))))) ?_
       refine TrQ.pureNil ?_
       refine TrQ.q (QS.move rfl) rfl ?_
       refine TrQ.q (QS.nilCheck rfl) rfl ?_
       refine TrQ.q (QS.fieldAddr (off := 0) (ft := 73) rfl Try.underlying76 rfl rfl Try.sizeOf73 (by decide)) rfl ?_
       refine TrQ.q (QS.loadCF rfl hcw Try.isAgg73 (by rfl)) rfl ?_
       refine TrQ.q (QS.move rfl) rfl ?_
       refine TrQ.q (QS.lW rfl Try.isAgg41 Try.sizeOf41) rfl ?_
       refine TrQ.nil ?_
       refine Tr.mapUpdate (atP l a).1 rfl rfl rfl (by repeat constructor) Try.underlying73 Try.underlying39 rfl ?_
       refine Tr.nil (Tr.thenN (Tr.seq (Tr.seq (Tr.region ?_))))
       refine Tr.q (QS.move rfl) rfl ?_
       refine Tr.q (QS.nilCheck rfl) rfl ?_
       refine Tr.q (QS.fieldAddr (off := 0) (ft := 73) rfl Try.underlying76 rfl rfl Try.sizeOf73 (by decide)) rfl ?_
       refine Tr.q (QS.loadCF rfl hcw Try.isAgg73 (by rfl)) rfl ?_
       refine Tr.q (QS.lenMap rfl (by repeat constructor) Try.underlying73) rfl ?_
       refine Tr.q (QS.gtr rfl rfl) rfl ?_
       refine Tr.nil (Tr.thenN ?_)
       refine Tr.cond rfl (fun h16 => ?_) (fun h16 => ?_)
       ·try simp only [bs] at h16
        first | contradiction | (exfalso; omega) | simp_all
       ·try simp only [bs] at h16
        refine Tr.skip (Tr.thenN (Tr.region ?_))
        refine Tr.q (QS.move rfl) rfl ?_
        refine Tr.q (QS.move rfl) rfl ?_
        refine Tr.q (QS.lW rfl Try.isAgg41 Try.sizeOf41) rfl ?_
        refine Tr.callO (fun V : Value => V) [mapE b6 boolV s.ents, mapE b7 boolV s.unk] (fun V => [rowE V 39 encU32 (leadP ts at_ (atP l a).1), mapE b6 boolV (mputs s.ents (callP ts at_ (atP l a).1)), mapE b7 boolV (if unkP ts at_ (atP l a).1 = true then mput s.unk (atP l a).1.addr true else s.unk)]) (ok := fun _ => True) (dd := fun _ => 0) rfl Try.call43 (by repeat' (first | exact Split.nil _ | exact Del.here _ | apply Split.cons | apply Del.there)) (fun w hw => Nat.le_of_eq hF1.dr) (fun w hw => follow_any b8 b4 b5 b6 b7 (.slice ta ts.length tc) (.slice pa at_.length pc) ts at_ (atP l a).1 s.ents s.unk w (hw.own (by repeat' (first | exact Split.nil _ | exact Del.here _ | apply Split.cons | apply Del.there))) (hcw.mono (show Hp.le F1.blk (Bg.lessB w [b6, b7] 0).blk from hw.lessB (Lo := [mapE b6 boolV s.ents, mapE b7 boolV s.unk]) (by repeat' (first | exact Split.nil _ | exact Del.here _ | apply Split.cons | apply Del.there)))) (hT1.mono (show Hp.le F1.blk (Bg.lessB w [b6, b7] 0).blk from hw.lessB (Lo := [mapE b6 boolV s.ents, mapE b7 boolV s.unk]) (by repeat' (first | exact Split.nil _ | exact Del.here _ | apply Split.cons | apply Del.there)))) (hTI1.mono (show Hp.le F1.blk (Bg.lessB w [b6, b7] 0).blk from hw.lessB (Lo := [mapE b6 boolV s.ents, mapE b7 boolV s.unk]) (by repeat' (first | exact Split.nil _ | exact Del.here _ | apply Split.cons | apply Del.there)))) hTB (hP1.mono (show Hp.le F1.blk (Bg.lessB w [b6, b7] 0).blk from hw.lessB (Lo := [mapE b6 boolV s.ents, mapE b7 boolV s.unk]) (by repeat' (first | exact Split.nil _ | exact Del.here _ | apply Split.cons | apply Del.there)))) hl (at_ok l a)) rfl (fun V25 _ => ?_)
        refine Tr.appendOf rfl rfl (by repeat constructor) (fun w hw => hw.row (by repeat constructor)) Try.underlying23 HLF.info39 (by rfl) (by rfl) (by (try simp only [List.length_cons, List.length_nil, List.length_append, List.length_take]); omega) (by unfold maxLen; (try simp only [List.length_cons, List.length_nil, List.length_append, List.length_take]); omega) rfl (fun V17 => ?_)
        refine Tr.q (QS.assign rfl) rfl ?_
        refine Tr.nil (Tr.inN (Tr.thenN ?_))
        apply Tr.again (stepD l ts at_ a s r, _)
        ·exact rfl
        ·exact (.cons (by first | rfl | exact lookI rfl (by omega) | exact lookI rfl (by simp) | exact lookB rfl (by simp)) (.cons (by first | rfl | exact lookI rfl (by omega) | exact lookI rfl (by simp) | exact lookB rfl (by simp)) Front.nil))
        ·exact SubX.dropN 60 (by kernel_rfl) rfl
        ·exact (by repeat' constructor)
        ·exact hinv2
        ·exact (by show (481 - (mput s.ins a (atP l a).1).length) * 16 + (r ++ leadP ts at_ (atP l a).1).length < m; rw [List.length_append]; omega)
    ·try simp only [bs] at h10
     refine Tr.exit ?_
     refine Tr.thenE (Tr.thenE (Tr.inHit (Tr.thenN (Tr.seq (Tr.seq ?_)))))
     have hr0 : s.rest = [] := List.length_eq_zero_iff.1 (by omega)
     have hcode := hinv.code hr0
     have hcnt := hinv.count
     have hl1 := hinv.lRest
     have hl2 := hinv.lEnts
     have hl3 := hinv.lUnk
     refine Tr.region ?_
     refine Tr.q (QS.move rfl) rfl ?_
     refine Tr.nil (Tr.thenN ?_)
     refine Tr.cond rfl (fun h18 => ?_) (fun h18 => ?_)
     ·try simp only [bs] at h18
      first | contradiction | (exfalso; omega) | simp_all
     ·try simp only [bs] at h18
      refine Tr.skip (Tr.thenN ?_)
      refine Tr.frozenM (b := b4) (by repeat constructor) (fun F2 hF2 hmI => ?_)
      refine Tr.frozenM (b := b5) (by repeat constructor) (fun F3 hF3 hmB => ?_)
      refine Tr.frozenM (b := b6) (by repeat constructor) (fun F4 hF4 hmE => ?_)
      refine Tr.frozenM (b := b7) (by repeat constructor) (fun F5 hF5 hmU5 => ?_)
      have hmI5 := hmI.mono (hF3.trans (hF4.trans hF5)).blk
      have hmB5 := hmB.mono (hF4.trans hF5).blk
      have hmE5 := hmE.mono hF5.blk
      have hF15 := hF2.trans (hF3.trans (hF4.trans hF5))
      have hdr5 : F5.dr = 0 := hF15.dr.trans hF1.dr
      have hcw5 := hcw.mono hF15.blk
      refine Tr.seqJ (ι := Value × Value × Nat) (fun ⟨Vu, Vb, bc⟩ => True) (fun _ => F5) (fun ⟨Vu, Vb, bc⟩ => [cellE bc [.slice none 0 0, .slice none 0 0, Vu, Vb] 31, rowE Vu 39 encU32 (srtU (s.unk.map (·.1))), rowE Vb 39 encU32 (srtU (s.bad.map (·.1))), cellE b1 [.slice none 0 0, .slice none 0 0, .slice none 0 0, .slice none 0 0] 31]) (fun ⟨Vu, Vb, bc⟩ => [(21, .pointer (some ⟨bc, 0, none⟩))]) ?_ (fun i hi => ?_)
      ·skip
       refine Tr.regionH ([cellE b1 [.slice none 0 0, .slice none 0 0, .slice none 0 0, .slice none 0 0] 31]) 13 rfl HLF.mixed ?_
       refine Tr.hT 0 rfl (by kernel_rfl) (panicThen (panicScope panicBody)) (QS.move rfl) ?_
       refine Tr.hT 5 rfl (by kernel_rfl) (panicThen (panicScope panicBody)) (QS.move rfl) ?_
       refine Tr.hAll [1, 6, 11] (by kernel_rfl) (by simp) (fun iq hq => ?_)
       rcases List.mem_cons.1 hq with rfl | hq
       ·skip
        refine Tr.hOp rfl ?_
        refine Tr.q (QS.nilCheck rfl) rfl ?_
        refine Tr.hN ?_
        refine Tr.hT 2 rfl (by kernel_rfl) (panicThen (panicScope panicBody)) (QS.fieldAddr (off := 3) (ft := 74) rfl Try.underlying76 rfl rfl Try.sizeOf74 (by decide)) ?_
        refine Tr.hT 3 rfl (by kernel_rfl) (panicThen (panicScope panicBody)) (QS.loadCF rfl hcw5 Try.isAgg74 (by rfl)) ?_
        refine Tr.hAll [4, 6, 11] (by kernel_rfl) (by simp) (fun iq hq => ?_)
        rcases List.mem_cons.1 hq with rfl | hq
        ·skip
         refine Tr.hOp rfl ?_
         refine Tr.callEnts0 (fun V : Value => V) (fun V => [rowE V 39 encU32 (srtU (s.unk.map (·.1)))]) (ok := fun _ => True) (hdr5) rfl Try.call44 (fun w hw => dsorted_any s.unk b7 w (hmU5.mono hw.bg) (by omega)) rfl (fun V28 _ => ?_)
         refine Tr.rowShape (V := V28) (by repeat constructor) (fun pu cu hpv => ?_)
         subst hpv
         refine Tr.hN ?_
         refine Tr.hAll [6, 11] (by kernel_rfl) (by simp) (fun iq hq => ?_)
         rcases List.mem_cons.1 hq with rfl | hq
         ·skip
          refine Tr.hOp rfl ?_
          refine Tr.q (QS.nilCheck rfl) rfl ?_
          refine Tr.hN ?_
          refine Tr.hT 7 rfl (by kernel_rfl) (panicThen (panicScope panicBody)) (QS.fieldAddr (off := 1) (ft := 74) rfl Try.underlying76 rfl rfl Try.sizeOf74 (by decide)) ?_
          refine Tr.hT 8 rfl (by kernel_rfl) (panicThen (panicScope panicBody)) (QS.loadCF rfl hcw5 Try.isAgg74 (by rfl)) ?_
          refine Tr.hAll [9, 11] (by kernel_rfl) (by simp) (fun iq hq => ?_)
          rcases List.mem_cons.1 hq with rfl | hq
          ·skip
           refine Tr.hOp rfl ?_
           refine Tr.callEnts0 (fun V : Value => V) (fun V => [rowE V 39 encU32 (srtU (s.bad.map (·.1)))]) (ok := fun _ => True) (hdr5) rfl Try.call44 (fun w hw => dsorted_any s.bad b5 w (hmB5.mono hw.bg) (by omega)) rfl (fun V29 _ => ?_)
           refine Tr.rowShape (V := V29) (by repeat constructor) (fun pb cb hpv => ?_)
           subst hpv
           refine Tr.hN ?_
           refine Tr.hT 10 rfl (by kernel_rfl) (panicThen (panicScope panicBody)) (QS.build (vs := [(2, _), (3, _)]) (cs := #[.slice none 0 0, .slice none 0 0, .slice pu (srtU (s.unk.map (·.1))).length cu, .slice pb (srtU (s.bad.map (·.1))).length cb]) rfl rfl (by kernel_rfl)) ?_
           refine Tr.hAll [11] (by kernel_rfl) (by simp) (fun iq hq => ?_)
           obtain rfl := List.mem_singleton.1 hq
           refine Tr.hOp rfl ?_
           refine Tr.alloc Try.zeroValue31 rfl rfl (fun b19 => ?_)
           refine Tr.hN ?_
           refine Tr.hAll [12] (by kernel_rfl) (by simp) (fun iq hq => ?_)
           obtain rfl := List.mem_singleton.1 hq
           refine Tr.hOp rfl ?_
           refine Tr.storeW rfl rfl Try.sizeOf31 (by repeat constructor) (by rfl) (by rfl) (by first | exact List.all_eq_true.1 rfl | exact Enc.one _ _ | (intro u hu; simp [Value.cells] at hu; simp_all [Value.oneCell'])) rfl ?_
           refine Tr.hN ?_
           refine Tr.hDone (by kernel_rfl) ?_
           refine Tr.thenN ?_
           apply Tr.joined (_, _, _)
           ·exact rfl
           ·exact (.cons (by first | rfl | exact lookI rfl (by omega) | exact lookI rfl (by simp) | exact lookB rfl (by simp)) Front.nil)
           ·exact SubX.dropN 12 (by kernel_rfl) rfl
           ·exact (by repeat' constructor)
           ·exact trivial
          obtain rfl := List.mem_singleton.1 hq
          refine Tr.hOp rfl ?_
          refine Tr.alloc Try.zeroValue31 rfl rfl (fun b20 => ?_)
          refine Tr.hN ?_
          refine Tr.hAll [9] (by kernel_rfl) (by simp) (fun iq hq => ?_)
          obtain rfl := List.mem_singleton.1 hq
          refine Tr.hOp rfl ?_
          refine Tr.callEnts0 (fun V : Value => V) (fun V => [rowE V 39 encU32 (srtU (s.bad.map (·.1)))]) (ok := fun _ => True) (hdr5) rfl Try.call44 (fun w hw => dsorted_any s.bad b5 w (hmB5.mono hw.bg) (by omega)) rfl (fun V29 _ => ?_)
          refine Tr.rowShape (V := V29) (by repeat constructor) (fun pb cb hpv => ?_)
          subst hpv
          refine Tr.hN ?_
          refine Tr.hT 10 rfl (by kernel_rfl) (panicThen (panicScope panicBody)) (QS.build (vs := [(2, _), (3, _)]) (cs := #[.slice none 0 0, .slice none 0 0, .slice pu (srtU (s.unk.map (·.1))).length cu, .slice pb (srtU (s.bad.map (·.1))).length cb]) rfl rfl (by kernel_rfl)) ?_
          refine Tr.hAll [12] (by kernel_rfl) (by simp) (fun iq hq => ?_)
          obtain rfl := List.mem_singleton.1 hq
          refine Tr.hOp rfl ?_
          refine Tr.storeW rfl rfl Try.sizeOf31 (by repeat constructor) (by rfl) (by rfl) (by first | exact List.all_eq_true.1 rfl | exact Enc.one _ _ | (intro u hu; simp [Value.cells] at hu; simp_all [Value.oneCell'])) rfl ?_
          refine Tr.hN ?_
          refine Tr.hDone (by kernel_rfl) ?_
          refine Tr.thenN ?_
          apply Tr.joined (_, _, _)
          ·exact rfl
          ·exact (.cons (by first | rfl | exact lookI rfl (by omega) | exact lookI rfl (by simp) | exact lookB rfl (by simp)) Front.nil)
          ·exact SubX.dropN 12 (by kernel_rfl) rfl
          ·exact (by repeat' constructor)
          ·exact trivial
         obtain rfl := List.mem_singleton.1 hq
         refine Tr.hOp rfl ?_
         refine Tr.alloc Try.zeroValue31 rfl rfl (fun b21 => ?_)
         refine Tr.hN ?_
         refine Tr.hAll [6] (by kernel_rfl) (by simp) (fun iq hq => ?_)
         obtain rfl := List.mem_singleton.1 hq
         refine Tr.hOp rfl ?_
         refine Tr.q (QS.nilCheck rfl) rfl ?_
         refine Tr.hN ?_
         refine Tr.hT 7 rfl (by kernel_rfl) (panicThen (panicScope panicBody)) (QS.fieldAddr (off := 1) (ft := 74) rfl Try.underlying76 rfl rfl Try.sizeOf74 (by decide)) ?_
         refine Tr.hT 8 rfl (by kernel_rfl) (panicThen (panicScope panicBody)) (QS.loadCF rfl hcw5 Try.isAgg74 (by rfl)) ?_
         refine Tr.hAll [9] (by kernel_rfl) (by simp) (fun iq hq => ?_)
         obtain rfl := List.mem_singleton.1 hq
         refine Tr.hOp rfl ?_
         refine Tr.callEnts0 (fun V : Value => V) (fun V => [rowE V 39 encU32 (srtU (s.bad.map (·.1)))]) (ok := fun _ => True) (hdr5) rfl Try.call44 (fun w hw => dsorted_any s.bad b5 w (hmB5.mono hw.bg) (by omega)) rfl (fun V29 _ => ?_)
         refine Tr.rowShape (V := V29) (by repeat constructor) (fun pb cb hpv => ?_)
         subst hpv
         refine Tr.hN ?_
         refine Tr.hT 10 rfl (by kernel_rfl) (panicThen (panicScope panicBody)) (QS.build (vs := [(2, _), (3, _)]) (cs := #[.slice none 0 0, .slice none 0 0, .slice pu (srtU (s.unk.map (·.1))).length cu, .slice pb (srtU (s.bad.map (·.1))).length cb]) rfl rfl (by kernel_rfl)) ?_
         refine Tr.hAll [12] (by kernel_rfl) (by simp) (fun iq hq => ?_)
         obtain rfl := List.mem_singleton.1 hq
         refine Tr.hOp rfl ?_
         refine Tr.storeW rfl rfl Try.sizeOf31 (by repeat constructor) (by rfl) (by rfl) (by first | exact List.all_eq_true.1 rfl | exact Enc.one _ _ | (intro u hu; simp [Value.cells] at hu; simp_all [Value.oneCell'])) rfl ?_
         refine Tr.hN ?_
         refine Tr.hDone (by kernel_rfl) ?_
         refine Tr.thenN ?_
         apply Tr.joined (_, _, _)
         ·exact rfl
         ·exact (.cons (by first | rfl | exact lookI rfl (by omega) | exact lookI rfl (by simp) | exact lookB rfl (by simp)) Front.nil)
         ·exact SubX.dropN 12 (by kernel_rfl) rfl
         ·exact (by repeat' constructor)
         ·exact trivial
        rcases List.mem_cons.1 hq with rfl | hq
        ·skip
         refine Tr.hOp rfl ?_
         refine Tr.q (QS.nilCheck rfl) rfl ?_
         refine Tr.hN ?_
         refine Tr.hT 7 rfl (by kernel_rfl) (panicThen (panicScope panicBody)) (QS.fieldAddr (off := 1) (ft := 74) rfl Try.underlying76 rfl rfl Try.sizeOf74 (by decide)) ?_
         refine Tr.hT 8 rfl (by kernel_rfl) (panicThen (panicScope panicBody)) (QS.loadCF rfl hcw5 Try.isAgg74 (by rfl)) ?_
         refine Tr.hAll [4, 11] (by kernel_rfl) (by simp) (fun iq hq => ?_)
         rcases List.mem_cons.1 hq with rfl | hq
         ·skip
          refine Tr.hOp rfl ?_
          refine Tr.callEnts0 (fun V : Value => V) (fun V => [rowE V 39 encU32 (srtU (s.unk.map (·.1)))]) (ok := fun _ => True) (hdr5) rfl Try.call44 (fun w hw => dsorted_any s.unk b7 w (hmU5.mono hw.bg) (by omega)) rfl (fun V28 _ => ?_)
          refine Tr.rowShape (V := V28) (by repeat constructor) (fun pu cu hpv => ?_)
          subst hpv
          refine Tr.hN ?_
          refine Tr.hAll [9, 11] (by kernel_rfl) (by simp) (fun iq hq => ?_)
          rcases List.mem_cons.1 hq with rfl | hq
          ·skip
           refine Tr.hOp rfl ?_
           refine Tr.callEnts0 (fun V : Value => V) (fun V => [rowE V 39 encU32 (srtU (s.bad.map (·.1)))]) (ok := fun _ => True) (hdr5) rfl Try.call44 (fun w hw => dsorted_any s.bad b5 w (hmB5.mono hw.bg) (by omega)) rfl (fun V29 _ => ?_)
           refine Tr.rowShape (V := V29) (by repeat constructor) (fun pb cb hpv => ?_)
           subst hpv
           refine Tr.hN ?_
           refine Tr.hT 10 rfl (by kernel_rfl) (panicThen (panicScope panicBody)) (QS.build (vs := [(2, _), (3, _)]) (cs := #[.slice none 0 0, .slice none 0 0, .slice pu (srtU (s.unk.map (·.1))).length cu, .slice pb (srtU (s.bad.map (·.1))).length cb]) rfl rfl (by kernel_rfl)) ?_
           refine Tr.hAll [11] (by kernel_rfl) (by simp) (fun iq hq => ?_)
           obtain rfl := List.mem_singleton.1 hq
           refine Tr.hOp rfl ?_
           refine Tr.alloc Try.zeroValue31 rfl rfl (fun b22 => ?_)
           refine Tr.hN ?_
           refine Tr.hAll [12] (by kernel_rfl) (by simp) (fun iq hq => ?_)
           obtain rfl := List.mem_singleton.1 hq
           refine Tr.hOp rfl ?_
           refine Tr.storeW rfl rfl Try.sizeOf31 (by repeat constructor) (by rfl) (by rfl) (by first | exact List.all_eq_true.1 rfl | exact Enc.one _ _ | (intro u hu; simp [Value.cells] at hu; simp_all [Value.oneCell'])) rfl ?_
           refine Tr.hN ?_
           refine Tr.hDone (by kernel_rfl) ?_
           refine Tr.thenN ?_
           apply Tr.joined (_, _, _)
           ·exact rfl
           ·exact (.cons (by first | rfl | exact lookI rfl (by omega) | exact lookI rfl (by simp) | exact lookB rfl (by simp)) Front.nil)
           ·exact SubX.dropN 12 (by kernel_rfl) rfl
           ·exact (by repeat' constructor)
           ·exact trivial
          obtain rfl := List.mem_singleton.1 hq
          refine Tr.hOp rfl ?_
          refine Tr.alloc Try.zeroValue31 rfl rfl (fun b23 => ?_)
          refine Tr.hN ?_
          refine Tr.hAll [9] (by kernel_rfl) (by simp) (fun iq hq => ?_)
          obtain rfl := List.mem_singleton.1 hq
          refine Tr.hOp rfl ?_
          refine Tr.callEnts0 (fun V : Value => V) (fun V => [rowE V 39 encU32 (srtU (s.bad.map (·.1)))]) (ok := fun _ => True) (hdr5) rfl Try.call44 (fun w hw => dsorted_any s.bad b5 w (hmB5.mono hw.bg) (by omega)) rfl (fun V29 _ => ?_)
          refine Tr.rowShape (V := V29) (by repeat constructor) (fun pb cb hpv => ?_)
          subst hpv
          refine Tr.hN ?_
          refine Tr.hT 10 rfl (by kernel_rfl) (panicThen (panicScope panicBody)) (QS.build (vs := [(2, _), (3, _)]) (cs := #[.slice none 0 0, .slice none 0 0, .slice pu (srtU (s.unk.map (·.1))).length cu, .slice pb (srtU (s.bad.map (·.1))).length cb]) rfl rfl (by kernel_rfl)) ?_
          refine Tr.hAll [12] (by kernel_rfl) (by simp) (fun iq hq => ?_)
          obtain rfl := List.mem_singleton.1 hq
          refine Tr.hOp rfl ?_
          refine Tr.storeW rfl rfl Try.sizeOf31 (by repeat constructor) (by rfl) (by rfl) (by first | exact List.all_eq_true.1 rfl | exact Enc.one _ _ | (intro u hu; simp [Value.cells] at hu; simp_all [Value.oneCell'])) rfl ?_
          refine Tr.hN ?_
          refine Tr.hDone (by kernel_rfl) ?_
          refine Tr.thenN ?_
          apply Tr.joined (_, _, _)
          ·exact rfl
          ·exact (.cons (by first | rfl | exact lookI rfl (by omega) | exact lookI rfl (by simp) | exact lookB rfl (by simp)) Front.nil)
          ·exact SubX.dropN 12 (by kernel_rfl) rfl
          ·exact (by repeat' constructor)
          ·exact trivial
         obtain rfl := List.mem_singleton.1 hq
         refine Tr.hOp rfl ?_
         refine Tr.alloc Try.zeroValue31 rfl rfl (fun b24 => ?_)
         refine Tr.hN ?_
         refine Tr.hAll [4] (by kernel_rfl) (by simp) (fun iq hq => ?_)
         obtain rfl := List.mem_singleton.1 hq
         refine Tr.hOp rfl ?_
         refine Tr.callEnts0 (fun V : Value => V) (fun V => [rowE V 39 encU32 (srtU (s.unk.map (·.1)))]) (ok := fun _ => True) (hdr5) rfl Try.call44 (fun w hw => dsorted_any s.unk b7 w (hmU5.mono hw.bg) (by omega)) rfl (fun V28 _ => ?_)
         refine Tr.rowShape (V := V28) (by repeat constructor) (fun pu cu hpv => ?_)
         subst hpv
         refine Tr.hN ?_
         refine Tr.hAll [9] (by kernel_rfl) (by simp) (fun iq hq => ?_)
         obtain rfl := List.mem_singleton.1 hq
         refine Tr.hOp rfl ?_
         refine Tr.callEnts0 (fun V : Value => V) (fun V => [rowE V 39 encU32 (srtU (s.bad.map (·.1)))]) (ok := fun _ => True) (hdr5) rfl Try.call44 (fun w hw => dsorted_any s.bad b5 w (hmB5.mono hw.bg) (by omega)) rfl (fun V29 _ => ?_)
         refine Tr.rowShape (V := V29) (by repeat constructor) (fun pb cb hpv => ?_)
         subst hpv
         refine Tr.hN ?_
         refine Tr.hT 10 rfl (by kernel_rfl) (panicThen (panicScope panicBody)) (QS.build (vs := [(2, _), (3, _)]) (cs := #[.slice none 0 0, .slice none 0 0, .slice pu (srtU (s.unk.map (·.1))).length cu, .slice pb (srtU (s.bad.map (·.1))).length cb]) rfl rfl (by kernel_rfl)) ?_
         refine Tr.hAll [12] (by kernel_rfl) (by simp) (fun iq hq => ?_)
         obtain rfl := List.mem_singleton.1 hq
         refine Tr.hOp rfl ?_
         refine Tr.storeW rfl rfl Try.sizeOf31 (by repeat constructor) (by rfl) (by rfl) (by first | exact List.all_eq_true.1 rfl | exact Enc.one _ _ | (intro u hu; simp [Value.cells] at hu; simp_all [Value.oneCell'])) rfl ?_
         refine Tr.hN ?_
         refine Tr.hDone (by kernel_rfl) ?_
         refine Tr.thenN ?_
         apply Tr.joined (_, _, _)
         ·exact rfl
         ·exact (.cons (by first | rfl | exact lookI rfl (by omega) | exact lookI rfl (by simp) | exact lookB rfl (by simp)) Front.nil)
         ·exact SubX.dropN 12 (by kernel_rfl) rfl
         ·exact (by repeat' constructor)
         ·exact trivial
        obtain rfl := List.mem_singleton.1 hq
        refine Tr.hOp rfl ?_
        refine Tr.alloc Try.zeroValue31 rfl rfl (fun b25 => ?_)
        refine Tr.hN ?_
        refine Tr.hAll [4, 6] (by kernel_rfl) (by simp) (fun iq hq => ?_)
        rcases List.mem_cons.1 hq with rfl | hq
        ·skip
         refine Tr.hOp rfl ?_
         refine Tr.callEnts0 (fun V : Value => V) (fun V => [rowE V 39 encU32 (srtU (s.unk.map (·.1)))]) (ok := fun _ => True) (hdr5) rfl Try.call44 (fun w hw => dsorted_any s.unk b7 w (hmU5.mono hw.bg) (by omega)) rfl (fun V28 _ => ?_)
         refine Tr.rowShape (V := V28) (by repeat constructor) (fun pu cu hpv => ?_)
         subst hpv
         refine Tr.hN ?_
         refine Tr.hAll [6] (by kernel_rfl) (by simp) (fun iq hq => ?_)
         obtain rfl := List.mem_singleton.1 hq
         refine Tr.hOp rfl ?_
         refine Tr.q (QS.nilCheck rfl) rfl ?_
         refine Tr.hN ?_
         refine Tr.hT 7 rfl (by kernel_rfl) (panicThen (panicScope panicBody)) (QS.fieldAddr (off := 1) (ft := 74) rfl Try.underlying76 rfl rfl Try.sizeOf74 (by decide)) ?_
         refine Tr.hT 8 rfl (by kernel_rfl) (panicThen (panicScope panicBody)) (QS.loadCF rfl hcw5 Try.isAgg74 (by rfl)) ?_
         refine Tr.hAll [9] (by kernel_rfl) (by simp) (fun iq hq => ?_)
         obtain rfl := List.mem_singleton.1 hq
         refine Tr.hOp rfl ?_
         refine Tr.callEnts0 (fun V : Value => V) (fun V => [rowE V 39 encU32 (srtU (s.bad.map (·.1)))]) (ok := fun _ => True) (hdr5) rfl Try.call44 (fun w hw => dsorted_any s.bad b5 w (hmB5.mono hw.bg) (by omega)) rfl (fun V29 _ => ?_)
         refine Tr.rowShape (V := V29) (by repeat constructor) (fun pb cb hpv => ?_)
         subst hpv
         refine Tr.hN ?_
         refine Tr.hT 10 rfl (by kernel_rfl) (panicThen (panicScope panicBody)) (QS.build (vs := [(2, _), (3, _)]) (cs := #[.slice none 0 0, .slice none 0 0, .slice pu (srtU (s.unk.map (·.1))).length cu, .slice pb (srtU (s.bad.map (·.1))).length cb]) rfl rfl (by kernel_rfl)) ?_
         refine Tr.hAll [12] (by kernel_rfl) (by simp) (fun iq hq => ?_)
         obtain rfl := List.mem_singleton.1 hq
         refine Tr.hOp rfl ?_
         refine Tr.storeW rfl rfl Try.sizeOf31 (by repeat constructor) (by rfl) (by rfl) (by first | exact List.all_eq_true.1 rfl | exact Enc.one _ _ | (intro u hu; simp [Value.cells] at hu; simp_all [Value.oneCell'])) rfl ?_
         refine Tr.hN ?_
         refine Tr.hDone (by kernel_rfl) ?_
         refine Tr.thenN ?_
         apply Tr.joined (_, _, _)
         ·exact rfl
         ·exact (.cons (by first | rfl | exact lookI rfl (by omega) | exact lookI rfl (by simp) | exact lookB rfl (by simp)) Front.nil)
         ·exact SubX.dropN 12 (by kernel_rfl) rfl
         ·exact (by repeat' constructor)
         ·exact trivial
        obtain rfl := List.mem_singleton.1 hq
        refine Tr.hOp rfl ?_
        refine Tr.q (QS.nilCheck rfl) rfl ?_
        refine Tr.hN ?_
        refine Tr.hT 7 rfl (by kernel_rfl) (panicThen (panicScope panicBody)) (QS.fieldAddr (off := 1) (ft := 74) rfl Try.underlying76 rfl rfl Try.sizeOf74 (by decide)) ?_
        refine Tr.hT 8 rfl (by kernel_rfl) (panicThen (panicScope panicBody)) (QS.loadCF rfl hcw5 Try.isAgg74 (by rfl)) ?_
        refine Tr.hAll [4] (by kernel_rfl) (by simp) (fun iq hq => ?_)
        obtain rfl := List.mem_singleton.1 hq
        refine Tr.hOp rfl ?_
        refine Tr.callEnts0 (fun V : Value => V) (fun V => [rowE V 39 encU32 (srtU (s.unk.map (·.1)))]) (ok := fun _ => True) (hdr5) rfl Try.call44 (fun w hw => dsorted_any s.unk b7 w (hmU5.mono hw.bg) (by omega)) rfl (fun V28 _ => ?_)
        refine Tr.rowShape (V := V28) (by repeat constructor) (fun pu cu hpv => ?_)
        subst hpv
        refine Tr.hN ?_
        refine Tr.hAll [9] (by kernel_rfl) (by simp) (fun iq hq => ?_)
        obtain rfl := List.mem_singleton.1 hq
        refine Tr.hOp rfl ?_
        refine Tr.callEnts0 (fun V : Value => V) (fun V => [rowE V 39 encU32 (srtU (s.bad.map (·.1)))]) (ok := fun _ => True) (hdr5) rfl Try.call44 (fun w hw => dsorted_any s.bad b5 w (hmB5.mono hw.bg) (by omega)) rfl (fun V29 _ => ?_)
        refine Tr.rowShape (V := V29) (by repeat constructor) (fun pb cb hpv => ?_)
        subst hpv
        refine Tr.hN ?_
        refine Tr.hT 10 rfl (by kernel_rfl) (panicThen (panicScope panicBody)) (QS.build (vs := [(2, _), (3, _)]) (cs := #[.slice none 0 0, .slice none 0 0, .slice pu (srtU (s.unk.map (·.1))).length cu, .slice pb (srtU (s.bad.map (·.1))).length cb]) rfl rfl (by kernel_rfl)) ?_
        refine Tr.hAll [12] (by kernel_rfl) (by simp) (fun iq hq => ?_)
        obtain rfl := List.mem_singleton.1 hq
        refine Tr.hOp rfl ?_
        refine Tr.storeW rfl rfl Try.sizeOf31 (by repeat constructor) (by rfl) (by rfl) (by first | exact List.all_eq_true.1 rfl | exact Enc.one _ _ | (intro u hu; simp [Value.cells] at hu; simp_all [Value.oneCell'])) rfl ?_
        refine Tr.hN ?_
        refine Tr.hDone (by kernel_rfl) ?_
        refine Tr.thenN ?_
        apply Tr.joined (_, _, _)
        ·exact rfl
        ·exact (.cons (by first | rfl | exact lookI rfl (by omega) | exact lookI rfl (by simp) | exact lookB rfl (by simp)) Front.nil)
        ·exact SubX.dropN 12 (by kernel_rfl) rfl
        ·exact (by repeat' constructor)
        ·exact trivial
       rcases List.mem_cons.1 hq with rfl | hq
       ·skip
        refine Tr.hOp rfl ?_
        refine Tr.q (QS.nilCheck rfl) rfl ?_
        refine Tr.hN ?_
        refine Tr.hT 7 rfl (by kernel_rfl) (panicThen (panicScope panicBody)) (QS.fieldAddr (off := 1) (ft := 74) rfl Try.underlying76 rfl rfl Try.sizeOf74 (by decide)) ?_
        refine Tr.hT 8 rfl (by kernel_rfl) (panicThen (panicScope panicBody)) (QS.loadCF rfl hcw5 Try.isAgg74 (by rfl)) ?_
        refine Tr.hAll [1, 11] (by kernel_rfl) (by simp) (fun iq hq => ?_)
        rcases List.mem_cons.1 hq with rfl | hq
        ·skip
         refine Tr.hOp rfl ?_
         refine Tr.q (QS.nilCheck rfl) rfl ?_
         refine Tr.hN ?_
         refine Tr.hT 2 rfl (by kernel_rfl) (panicThen (panicScope panicBody)) (QS.fieldAddr (off := 3) (ft := 74) rfl Try.underlying76 rfl rfl Try.sizeOf74 (by decide)) ?_
         refine Tr.hT 3 rfl (by kernel_rfl) (panicThen (panicScope panicBody)) (QS.loadCF rfl hcw5 Try.isAgg74 (by rfl)) ?_
         refine Tr.hAll [4, 11] (by kernel_rfl) (by simp) (fun iq hq => ?_)
         rcases List.mem_cons.1 hq with rfl | hq
         ·skip
          refine Tr.hOp rfl ?_
          refine Tr.callEnts0 (fun V : Value => V) (fun V => [rowE V 39 encU32 (srtU (s.unk.map (·.1)))]) (ok := fun _ => True) (hdr5) rfl Try.call44 (fun w hw => dsorted_any s.unk b7 w (hmU5.mono hw.bg) (by omega)) rfl (fun V28 _ => ?_)
          refine Tr.rowShape (V := V28) (by repeat constructor) (fun pu cu hpv => ?_)
          subst hpv
          refine Tr.hN ?_
          refine Tr.hAll [9, 11] (by kernel_rfl) (by simp) (fun iq hq => ?_)
          rcases List.mem_cons.1 hq with rfl | hq
          ·skip
           refine Tr.hOp rfl ?_
           refine Tr.callEnts0 (fun V : Value => V) (fun V => [rowE V 39 encU32 (srtU (s.bad.map (·.1)))]) (ok := fun _ => True) (hdr5) rfl Try.call44 (fun w hw => dsorted_any s.bad b5 w (hmB5.mono hw.bg) (by omega)) rfl (fun V29 _ => ?_)
           refine Tr.rowShape (V := V29) (by repeat constructor) (fun pb cb hpv => ?_)
           subst hpv
           refine Tr.hN ?_
           refine Tr.hT 10 rfl (by kernel_rfl) (panicThen (panicScope panicBody)) (QS.build (vs := [(2, _), (3, _)]) (cs := #[.slice none 0 0, .slice none 0 0, .slice pu (srtU (s.unk.map (·.1))).length cu, .slice pb (srtU (s.bad.map (·.1))).length cb]) rfl rfl (by kernel_rfl)) ?_
           refine Tr.hAll [11] (by kernel_rfl) (by simp) (fun iq hq => ?_)
           obtain rfl := List.mem_singleton.1 hq
           refine Tr.hOp rfl ?_
           refine Tr.alloc Try.zeroValue31 rfl rfl (fun b26 => ?_)
           refine Tr.hN ?_
           refine Tr.hAll [12] (by kernel_rfl) (by simp) (fun iq hq => ?_)
           obtain rfl := List.mem_singleton.1 hq
           refine Tr.hOp rfl ?_
           refine Tr.storeW rfl rfl Try.sizeOf31 (by repeat constructor) (by rfl) (by rfl) (by first | exact List.all_eq_true.1 rfl | exact Enc.one _ _ | (intro u hu; simp [Value.cells] at hu; simp_all [Value.oneCell'])) rfl ?_
           refine Tr.hN ?_
           refine Tr.hDone (by kernel_rfl) ?_
           refine Tr.thenN ?_
           apply Tr.joined (_, _, _)
           ·exact rfl
           ·exact (.cons (by first | rfl | exact lookI rfl (by omega) | exact lookI rfl (by simp) | exact lookB rfl (by simp)) Front.nil)
           ·exact SubX.dropN 12 (by kernel_rfl) rfl
           ·exact (by repeat' constructor)
           ·exact trivial
          obtain rfl := List.mem_singleton.1 hq
          refine Tr.hOp rfl ?_
          refine Tr.alloc Try.zeroValue31 rfl rfl (fun b27 => ?_)
          refine Tr.hN ?_
          refine Tr.hAll [9] (by kernel_rfl) (by simp) (fun iq hq => ?_)
          obtain rfl := List.mem_singleton.1 hq
          refine Tr.hOp rfl ?_
          refine Tr.callEnts0 (fun V : Value => V) (fun V => [rowE V 39 encU32 (srtU (s.bad.map (·.1)))]) (ok := fun _ => True) (hdr5) rfl Try.call44 (fun w hw => dsorted_any s.bad b5 w (hmB5.mono hw.bg) (by omega)) rfl (fun V29 _ => ?_)
          refine Tr.rowShape (V := V29) (by repeat constructor) (fun pb cb hpv => ?_)
          subst hpv
          refine Tr.hN ?_
          refine Tr.hT 10 rfl (by kernel_rfl) (panicThen (panicScope panicBody)) (QS.build (vs := [(2, _), (3, _)]) (cs := #[.slice none 0 0, .slice none 0 0, .slice pu (srtU (s.unk.map (·.1))).length cu, .slice pb (srtU (s.bad.map (·.1))).length cb]) rfl rfl (by kernel_rfl)) ?_
          refine Tr.hAll [12] (by kernel_rfl) (by simp) (fun iq hq => ?_)
          obtain rfl := List.mem_singleton.1 hq
          refine Tr.hOp rfl ?_
          refine Tr.storeW rfl rfl Try.sizeOf31 (by repeat constructor) (by rfl) (by rfl) (by first | exact List.all_eq_true.1 rfl | exact Enc.one _ _ | (intro u hu; simp [Value.cells] at hu; simp_all [Value.oneCell'])) rfl ?_
          refine Tr.hN ?_
          refine Tr.hDone (by kernel_rfl) ?_
          refine Tr.thenN ?_
          apply Tr.joined (_, _, _)
          ·exact rfl
          ·exact (.cons (by first | rfl | exact lookI rfl (by omega) | exact lookI rfl (by simp) | exact lookB rfl (by simp)) Front.nil)
          ·exact SubX.dropN 12 (by kernel_rfl) rfl
          ·exact (by repeat' constructor)
          ·exact trivial
         obtain rfl := List.mem_singleton.1 hq
         refine Tr.hOp rfl ?_
         refine Tr.alloc Try.zeroValue31 rfl rfl (fun b28 => ?_)
         refine Tr.hN ?_
         refine Tr.hAll [4] (by kernel_rfl) (by simp) (fun iq hq => ?_)
         obtain rfl := List.mem_singleton.1 hq
         refine Tr.hOp rfl ?_
         refine Tr.callEnts0 (fun V : Value => V) (fun V => [rowE V 39 encU32 (srtU (s.unk.map (·.1)))]) (ok := fun _ => True) (hdr5) rfl Try.call44 (fun w hw => dsorted_any s.unk b7 w (hmU5.mono hw.bg) (by omega)) rfl (fun V28 _ => ?_)
         refine Tr.rowShape (V := V28) (by repeat constructor) (fun pu cu hpv => ?_)
         subst hpv
         refine Tr.hN ?_
         refine Tr.hAll [9] (by kernel_rfl) (by simp) (fun iq hq => ?_)
         obtain rfl := List.mem_singleton.1 hq
         refine Tr.hOp rfl ?_
         refine Tr.callEnts0 (fun V : Value => V) (fun V => [rowE V 39 encU32 (srtU (s.bad.map (·.1)))]) (ok := fun _ => True) (hdr5) rfl Try.call44 (fun w hw => dsorted_any s.bad b5 w (hmB5.mono hw.bg) (by omega)) rfl (fun V29 _ => ?_)
         refine Tr.rowShape (V := V29) (by repeat constructor) (fun pb cb hpv => ?_)
         subst hpv
         refine Tr.hN ?_
         refine Tr.hT 10 rfl (by kernel_rfl) (panicThen (panicScope panicBody)) (QS.build (vs := [(2, _), (3, _)]) (cs := #[.slice none 0 0, .slice none 0 0, .slice pu (srtU (s.unk.map (·.1))).length cu, .slice pb (srtU (s.bad.map (·.1))).length cb]) rfl rfl (by kernel_rfl)) ?_
         refine Tr.hAll [12] (by kernel_rfl) (by simp) (fun iq hq => ?_)
         obtain rfl := List.mem_singleton.1 hq
         refine Tr.hOp rfl ?_
         refine Tr.storeW rfl rfl Try.sizeOf31 (by repeat constructor) (by rfl) (by rfl) (by first | exact List.all_eq_true.1 rfl | exact Enc.one _ _ | (intro u hu; simp [Value.cells] at hu; simp_all [Value.oneCell'])) rfl ?_
         refine Tr.hN ?_
         refine Tr.hDone (by kernel_rfl) ?_
         refine Tr.thenN ?_
         apply Tr.joined (_, _, _)
         ·exact rfl
         ·exact (.cons (by first | rfl | exact lookI rfl (by omega) | exact lookI rfl (by simp) | exact lookB rfl (by simp)) Front.nil)
         ·exact SubX.dropN 12 (by kernel_rfl) rfl
         ·exact (by repeat' constructor)
         ·exact trivial
        obtain rfl := List.mem_singleton.1 hq
        refine Tr.hOp rfl ?_
        refine Tr.alloc Try.zeroValue31 rfl rfl (fun b29 => ?_)
        refine Tr.hN ?_
        refine Tr.hAll [1] (by kernel_rfl) (by simp) (fun iq hq => ?_)
        obtain rfl := List.mem_singleton.1 hq
        refine Tr.hOp rfl ?_
        refine Tr.q (QS.nilCheck rfl) rfl ?_
        refine Tr.hN ?_
        refine Tr.hT 2 rfl (by kernel_rfl) (panicThen (panicScope panicBody)) (QS.fieldAddr (off := 3) (ft := 74) rfl Try.underlying76 rfl rfl Try.sizeOf74 (by decide)) ?_
        refine Tr.hT 3 rfl (by kernel_rfl) (panicThen (panicScope panicBody)) (QS.loadCF rfl hcw5 Try.isAgg74 (by rfl)) ?_
        refine Tr.hAll [4] (by kernel_rfl) (by simp) (fun iq hq => ?_)
        obtain rfl := List.mem_singleton.1 hq
        refine Tr.hOp rfl ?_
        refine Tr.callEnts0 (fun V : Value => V) (fun V => [rowE V 39 encU32 (srtU (s.unk.map (·.1)))]) (ok := fun _ => True) (hdr5) rfl Try.call44 (fun w hw => dsorted_any s.unk b7 w (hmU5.mono hw.bg) (by omega)) rfl (fun V28 _ => ?_)
        refine Tr.rowShape (V := V28) (by repeat constructor) (fun pu cu hpv => ?_)
        subst hpv
        refine Tr.hN ?_
        refine Tr.hAll [9] (by kernel_rfl) (by simp) (fun iq hq => ?_)
        obtain rfl := List.mem_singleton.1 hq
        refine Tr.hOp rfl ?_
        refine Tr.callEnts0 (fun V : Value => V) (fun V => [rowE V 39 encU32 (srtU (s.bad.map (·.1)))]) (ok := fun _ => True) (hdr5) rfl Try.call44 (fun w hw => dsorted_any s.bad b5 w (hmB5.mono hw.bg) (by omega)) rfl (fun V29 _ => ?_)
        refine Tr.rowShape (V := V29) (by repeat constructor) (fun pb cb hpv => ?_)
        subst hpv
        refine Tr.hN ?_
        refine Tr.hT 10 rfl (by kernel_rfl) (panicThen (panicScope panicBody)) (QS.build (vs := [(2, _), (3, _)]) (cs := #[.slice none 0 0, .slice none 0 0, .slice pu (srtU (s.unk.map (·.1))).length cu, .slice pb (srtU (s.bad.map (·.1))).length cb]) rfl rfl (by kernel_rfl)) ?_
        refine Tr.hAll [12] (by kernel_rfl) (by simp) (fun iq hq => ?_)
        obtain rfl := List.mem_singleton.1 hq
        refine Tr.hOp rfl ?_
        refine Tr.storeW rfl rfl Try.sizeOf31 (by repeat constructor) (by rfl) (by rfl) (by first | exact List.all_eq_true.1 rfl | exact Enc.one _ _ | (intro u hu; simp [Value.cells] at hu; simp_all [Value.oneCell'])) rfl ?_
        refine Tr.hN ?_
        refine Tr.hDone (by kernel_rfl) ?_
        refine Tr.thenN ?_
        apply Tr.joined (_, _, _)
        ·exact rfl
        ·exact (.cons (by first | rfl | exact lookI rfl (by omega) | exact lookI rfl (by simp) | exact lookB rfl (by simp)) Front.nil)
        ·exact SubX.dropN 12 (by kernel_rfl) rfl
        ·exact (by repeat' constructor)
        ·exact trivial
       obtain rfl := List.mem_singleton.1 hq
       refine Tr.hOp rfl ?_
       refine Tr.alloc Try.zeroValue31 rfl rfl (fun b30 => ?_)
       refine Tr.hN ?_
       refine Tr.hAll [1, 6] (by kernel_rfl) (by simp) (fun iq hq => ?_)
       rcases List.mem_cons.1 hq with rfl | hq
       ·skip
        refine Tr.hOp rfl ?_
        refine Tr.q (QS.nilCheck rfl) rfl ?_
        refine Tr.hN ?_
        refine Tr.hT 2 rfl (by kernel_rfl) (panicThen (panicScope panicBody)) (QS.fieldAddr (off := 3) (ft := 74) rfl Try.underlying76 rfl rfl Try.sizeOf74 (by decide)) ?_
        refine Tr.hT 3 rfl (by kernel_rfl) (panicThen (panicScope panicBody)) (QS.loadCF rfl hcw5 Try.isAgg74 (by rfl)) ?_
        refine Tr.hAll [4, 6] (by kernel_rfl) (by simp) (fun iq hq => ?_)
        rcases List.mem_cons.1 hq with rfl | hq
        ·skip
         refine Tr.hOp rfl ?_
         refine Tr.callEnts0 (fun V : Value => V) (fun V => [rowE V 39 encU32 (srtU (s.unk.map (·.1)))]) (ok := fun _ => True) (hdr5) rfl Try.call44 (fun w hw => dsorted_any s.unk b7 w (hmU5.mono hw.bg) (by omega)) rfl (fun V28 _ => ?_)
         refine Tr.rowShape (V := V28) (by repeat constructor) (fun pu cu hpv => ?_)
         subst hpv
         refine Tr.hN ?_
         refine Tr.hAll [6] (by kernel_rfl) (by simp) (fun iq hq => ?_)
         obtain rfl := List.mem_singleton.1 hq
         refine Tr.hOp rfl ?_
         refine Tr.q (QS.nilCheck rfl) rfl ?_
         refine Tr.hN ?_
         refine Tr.hT 7 rfl (by kernel_rfl) (panicThen (panicScope panicBody)) (QS.fieldAddr (off := 1) (ft := 74) rfl Try.underlying76 rfl rfl Try.sizeOf74 (by decide)) ?_
         refine Tr.hT 8 rfl (by kernel_rfl) (panicThen (panicScope panicBody)) (QS.loadCF rfl hcw5 Try.isAgg74 (by rfl)) ?_
         refine Tr.hAll [9] (by kernel_rfl) (by simp) (fun iq hq => ?_)
         obtain rfl := List.mem_singleton.1 hq
         refine Tr.hOp rfl ?_
         refine Tr.callEnts0 (fun V : Value => V) (fun V => [rowE V 39 encU32 (srtU (s.bad.map (·.1)))]) (ok := fun _ => True) (hdr5) rfl Try.call44 (fun w hw => dsorted_any s.bad b5 w (hmB5.mono hw.bg) (by omega)) rfl (fun V29 _ => ?_)
         refine Tr.rowShape (V := V29) (by repeat constructor) (fun pb cb hpv => ?_)
         subst hpv
         refine Tr.hN ?_
         refine Tr.hT 10 rfl (by kernel_rfl) (panicThen (panicScope panicBody)) (QS.build (vs := [(2, _), (3, _)]) (cs := #[.slice none 0 0, .slice none 0 0, .slice pu (srtU (s.unk.map (·.1))).length cu, .slice pb (srtU (s.bad.map (·.1))).length cb]) rfl rfl (by kernel_rfl)) ?_
         refine Tr.hAll [12] (by kernel_rfl) (by simp) (fun iq hq => ?_)
         obtain rfl := List.mem_singleton.1 hq
         refine Tr.hOp rfl ?_
         refine Tr.storeW rfl rfl Try.sizeOf31 (by repeat constructor) (by rfl) (by rfl) (by first | exact List.all_eq_true.1 rfl | exact Enc.one _ _ | (intro u hu; simp [Value.cells] at hu; simp_all [Value.oneCell'])) rfl ?_
         refine Tr.hN ?_
         refine Tr.hDone (by kernel_rfl) ?_
         refine Tr.thenN ?_
         apply Tr.joined (_, _, _)
         ·exact rfl
         ·exact (.cons (by first | rfl | exact lookI rfl (by omega) | exact lookI rfl (by simp) | exact lookB rfl (by simp)) Front.nil)
         ·exact SubX.dropN 12 (by kernel_rfl) rfl
         ·exact (by repeat' constructor)
         ·exact trivial
        obtain rfl := List.mem_singleton.1 hq
        refine Tr.hOp rfl ?_
        refine Tr.q (QS.nilCheck rfl) rfl ?_
        refine Tr.hN ?_
        refine Tr.hT 7 rfl (by kernel_rfl) (panicThen (panicScope panicBody)) (QS.fieldAddr (off := 1) (ft := 74) rfl Try.underlying76 rfl rfl Try.sizeOf74 (by decide)) ?_
        refine Tr.hT 8 rfl (by kernel_rfl) (panicThen (panicScope panicBody)) (QS.loadCF rfl hcw5 Try.isAgg74 (by rfl)) ?_
        refine Tr.hAll [4] (by kernel_rfl) (by simp) (fun iq hq => ?_)
        obtain rfl := List.mem_singleton.1 hq
        refine Tr.hOp rfl ?_
        refine Tr.callEnts0 (fun V : Value => V) (fun V => [rowE V 39 encU32 (srtU (s.unk.map (·.1)))]) (ok := fun _ => True) (hdr5) rfl Try.call44 (fun w hw => dsorted_any s.unk b7 w (hmU5.mono hw.bg) (by omega)) rfl (fun V28 _ => ?_)
        refine Tr.rowShape (V := V28) (by repeat constructor) (fun pu cu hpv => ?_)
        subst hpv
        refine Tr.hN ?_
        refine Tr.hAll [9] (by kernel_rfl) (by simp) (fun iq hq => ?_)
        obtain rfl := List.mem_singleton.1 hq
        refine Tr.hOp rfl ?_
        refine Tr.callEnts0 (fun V : Value => V) (fun V => [rowE V 39 encU32 (srtU (s.bad.map (·.1)))]) (ok := fun _ => True) (hdr5) rfl Try.call44 (fun w hw => dsorted_any s.bad b5 w (hmB5.mono hw.bg) (by omega)) rfl (fun V29 _ => ?_)
        refine Tr.rowShape (V := V29) (by repeat constructor) (fun pb cb hpv => ?_)
        subst hpv
        refine Tr.hN ?_
        refine Tr.hT 10 rfl (by kernel_rfl) (panicThen (panicScope panicBody)) (QS.build (vs := [(2, _), (3, _)]) (cs := #[.slice none 0 0, .slice none 0 0, .slice pu (srtU (s.unk.map (·.1))).length cu, .slice pb (srtU (s.bad.map (·.1))).length cb]) rfl rfl (by kernel_rfl)) ?_
        refine Tr.hAll [12] (by kernel_rfl) (by simp) (fun iq hq => ?_)
        obtain rfl := List.mem_singleton.1 hq
        refine Tr.hOp rfl ?_
        refine Tr.storeW rfl rfl Try.sizeOf31 (by repeat constructor) (by rfl) (by rfl) (by first | exact List.all_eq_true.1 rfl | exact Enc.one _ _ | (intro u hu; simp [Value.cells] at hu; simp_all [Value.oneCell'])) rfl ?_
        refine Tr.hN ?_
        refine Tr.hDone (by kernel_rfl) ?_
        refine Tr.thenN ?_
        apply Tr.joined (_, _, _)
        ·exact rfl
        ·exact (.cons (by first | rfl | exact lookI rfl (by omega) | exact lookI rfl (by simp) | exact lookB rfl (by simp)) Front.nil)
        ·exact SubX.dropN 12 (by kernel_rfl) rfl
        ·exact (by repeat' constructor)
        ·exact trivial
       obtain rfl := List.mem_singleton.1 hq
       refine Tr.hOp rfl ?_
       refine Tr.q (QS.nilCheck rfl) rfl ?_
       refine Tr.hN ?_
       refine Tr.hT 7 rfl (by kernel_rfl) (panicThen (panicScope panicBody)) (QS.fieldAddr (off := 1) (ft := 74) rfl Try.underlying76 rfl rfl Try.sizeOf74 (by decide)) ?_
       refine Tr.hT 8 rfl (by kernel_rfl) (panicThen (panicScope panicBody)) (QS.loadCF rfl hcw5 Try.isAgg74 (by rfl)) ?_
       refine Tr.hAll [1] (by kernel_rfl) (by simp) (fun iq hq => ?_)
       obtain rfl := List.mem_singleton.1 hq
       refine Tr.hOp rfl ?_
       refine Tr.q (QS.nilCheck rfl) rfl ?_
       refine Tr.hN ?_
       refine Tr.hT 2 rfl (by kernel_rfl) (panicThen (panicScope panicBody)) (QS.fieldAddr (off := 3) (ft := 74) rfl Try.underlying76 rfl rfl Try.sizeOf74 (by decide)) ?_
       refine Tr.hT 3 rfl (by kernel_rfl) (panicThen (panicScope panicBody)) (QS.loadCF rfl hcw5 Try.isAgg74 (by rfl)) ?_
       refine Tr.hAll [4] (by kernel_rfl) (by simp) (fun iq hq => ?_)
       obtain rfl := List.mem_singleton.1 hq
       refine Tr.hOp rfl ?_
       refine Tr.callEnts0 (fun V : Value => V) (fun V => [rowE V 39 encU32 (srtU (s.unk.map (·.1)))]) (ok := fun _ => True) (hdr5) rfl Try.call44 (fun w hw => dsorted_any s.unk b7 w (hmU5.mono hw.bg) (by omega)) rfl (fun V28 _ => ?_)
       refine Tr.rowShape (V := V28) (by repeat constructor) (fun pu cu hpv => ?_)
       subst hpv
       refine Tr.hN ?_
       refine Tr.hAll [9] (by kernel_rfl) (by simp) (fun iq hq => ?_)
       obtain rfl := List.mem_singleton.1 hq
       refine Tr.hOp rfl ?_
       refine Tr.callEnts0 (fun V : Value => V) (fun V => [rowE V 39 encU32 (srtU (s.bad.map (·.1)))]) (ok := fun _ => True) (hdr5) rfl Try.call44 (fun w hw => dsorted_any s.bad b5 w (hmB5.mono hw.bg) (by omega)) rfl (fun V29 _ => ?_)
       refine Tr.rowShape (V := V29) (by repeat constructor) (fun pb cb hpv => ?_)
       subst hpv
       refine Tr.hN ?_
       refine Tr.hT 10 rfl (by kernel_rfl) (panicThen (panicScope panicBody)) (QS.build (vs := [(2, _), (3, _)]) (cs := #[.slice none 0 0, .slice none 0 0, .slice pu (srtU (s.unk.map (·.1))).length cu, .slice pb (srtU (s.bad.map (·.1))).length cb]) rfl rfl (by kernel_rfl)) ?_
       refine Tr.hAll [12] (by kernel_rfl) (by simp) (fun iq hq => ?_)
       obtain rfl := List.mem_singleton.1 hq
       refine Tr.hOp rfl ?_
       refine Tr.storeW rfl rfl Try.sizeOf31 (by repeat constructor) (by rfl) (by rfl) (by first | exact List.all_eq_true.1 rfl | exact Enc.one _ _ | (intro u hu; simp [Value.cells] at hu; simp_all [Value.oneCell'])) rfl ?_
       refine Tr.hN ?_
       refine Tr.hDone (by kernel_rfl) ?_
       refine Tr.thenN ?_
       apply Tr.joined (_, _, _)
       ·exact rfl
       ·exact (.cons (by first | rfl | exact lookI rfl (by omega) | exact lookI rfl (by simp) | exact lookB rfl (by simp)) Front.nil)
       ·exact SubX.dropN 12 (by kernel_rfl) rfl
       ·exact (by repeat' constructor)
       ·exact trivial
      ·obtain ⟨Vu, Vb, bc⟩ := i
       replace hi : True := hi
       change Tr _ _ [cellE bc [.slice none 0 0, .slice none 0 0, Vu, Vb] 31, rowE Vu 39 encU32 (srtU (s.unk.map (·.1))), rowE Vb 39 encU32 (srtU (s.bad.map (·.1))), cellE b1 [.slice none 0 0, .slice none 0 0, .slice none 0 0, .slice none 0 0] 31] ([(21, .pointer (some ⟨bc, 0, none⟩))] ++ _) _
       refine Tr.seq (Tr.seq (Tr.region ?_))
       refine Tr.q (QS.move rfl) rfl ?_
       refine Tr.q (QS.nilCheck rfl) rfl ?_
       refine Tr.q (QS.fieldAddr (off := 0) (ft := 73) rfl Try.underlying76 rfl rfl Try.sizeOf73 (by decide)) rfl ?_
       refine Tr.q (QS.loadCF rfl hcw5 Try.isAgg73 (by rfl)) rfl ?_
       refine Tr.callBg (fun i : Nat => .func (.func 80) #[] #[.pointer (some ⟨i, 0, none⟩)]) (R := fun h i => CellsIn h i [.map (some b4)]) (fun h h' i hh r => r.mono hh) rfl Try.call46 (fun w hw => keys_ins b4 w) rfl (fun i9 F9 hF9 hR9 => ?_)
       have hmI9 := hmI5.mono hF9.blk
       have hmB9 := hmB5.mono hF9.blk
       have hcw9 := hcw5.mono hF9.blk
       refine Tr.callEnts0 (fun V : Value => V) (fun V => [rowE V 39 encU32 (srtU (s.ins.map (·.1)))]) (ok := fun _ => True) (hF9.dr.trans hdr5) rfl Try.call45 (fun w hw => sorted_any _ _ (s.ins.map (·.1)) s.ins.length (by omega) Try.call80 (by rw [List.length_map]; omega) w (keys_stops_ins b4 i9 w (hmI9.mono hw.bg) (hR9.mono hw.bg))) rfl (fun V30 _ => ?_)
       obtain ⟨ks, hks⟩ : ∃ ks, ks = srtU (s.ins.map (·.1)) := ⟨_, rfl⟩
       rw [← hks]
       refine Tr.q (QS.lenRow rfl (by repeat constructor) Try.underlying23) rfl ?_
       refine Tr.q (QS.move rfl) rfl ?_
       refine Tr.nil (Tr.thenN (Tr.block ?_))
       refine Tr.ownNil 41 encIns ?_
       refine Tr.loop (ι := Nat × Value) (fun ⟨k, Vi⟩ => k ≤ ks.length) (fun _ => _) (fun ⟨k, Vi⟩ => [rowE V30 39 encU32 ks, cellE bc [Vi, .slice none 0 0, Vu, Vb] 31, rowE Vi 41 encIns ((ks.take k).map fun a => (atP l a).1), rowE Vu 39 encU32 (srtU (s.unk.map (·.1))), rowE Vb 39 encU32 (srtU (s.bad.map (·.1))), cellE b1 [.slice none 0 0, .slice none 0 0, .slice none 0 0, .slice none 0 0] 31]) (fun ⟨k, Vi⟩ => [(144, .int .i64 (k : Nat))]) (fun ⟨k, Vi⟩ => ks.length - k) (0, _) (Nat.zero_le _) (.cons (by first | rfl | exact lookI rfl (by omega) | exact lookI rfl (by simp) | exact lookB rfl (by simp)) Front.nil) (by repeat' constructor) rfl (fun i hi m hm => ?_)
       obtain ⟨k, Vi⟩ := i
       replace hi : k ≤ ks.length := hi
       replace hm : m = ks.length - k := hm
       change Tr _ _ [rowE V30 39 encU32 ks, cellE bc [Vi, .slice none 0 0, Vu, Vb] 31, rowE Vi 41 encIns ((ks.take k).map fun a => (atP l a).1), rowE Vu 39 encU32 (srtU (s.unk.map (·.1))), rowE Vb 39 encU32 (srtU (s.bad.map (·.1))), cellE b1 [.slice none 0 0, .slice none 0 0, .slice none 0 0, .slice none 0 0] 31] ([(144, .int .i64 (k : Nat))] ++ _) _
       have hksl : ks.length ≤ 480 := by rw [hks, srtU_len, List.length_map]; omega
       have hkml : ((ks.take k).map fun a => (atP l a).1).length ≤ 480 := by rw [List.length_map, List.length_take]; omega
       refine Tr.seq (Tr.region ?_)
       refine Tr.q (QS.lss rfl rfl) rfl ?_
       refine Tr.nil (Tr.thenN (Tr.seq ?_))
       refine Tr.cond rfl (fun h31 => ?_) (fun h31 => ?_)
       ·try simp only [bs] at h31
        refine Tr.skip (Tr.thenN (Tr.seq (Tr.block (Tr.seq (Tr.region ?_)))))
        refine Tr.q (QS.idxRowN rfl rfl (by repeat constructor) Try.underlying23 Try.sizeOf39 (by rfl) (by omega)) rfl ?_
        refine Tr.q (QS.elR1 rfl (by repeat constructor) Try.isAgg39 (by omega) (by rfl)) rfl ?_
        refine Tr.q (QS.assign rfl) rfl ?_
        refine Tr.nil (Tr.thenN ?_)
        have hga : (mget s.ins (ks.getD k default)).getD zeroIns = (atP l (ks.getD k default)).1 := ins_at hinv (by rw [← mem_srtU, ← hks]; exact mem_getD (by omega))
        refine Tr.regionH ([cellE b1 [.slice none 0 0, .slice none 0 0, .slice none 0 0, .slice none 0 0] 31]) 12 rfl HLF.mixed ?_
        refine Tr.hT 0 rfl (by kernel_rfl) (panicIn (panicThen (panicThen (panicIn (panicThen (panicScope panicBody)))))) (QS.fieldAddr (off := 0) (ft := 29) rfl Try.underlying31 rfl rfl Try.sizeOf29 (by decide)) ?_
        refine Tr.hT 2 rfl (by kernel_rfl) (panicIn (panicThen (panicThen (panicIn (panicThen (panicScope panicBody)))))) (QS.move rfl) ?_
        refine Tr.hT 6 rfl (by kernel_rfl) (panicIn (panicThen (panicThen (panicIn (panicThen (panicScope panicBody)))))) (QS.move rfl) ?_
        refine Tr.hAll [1, 3] (by kernel_rfl) (by simp) (fun iq hq => ?_)
        rcases List.mem_cons.1 hq with rfl | hq
        ·skip
         refine Tr.hOp rfl ?_
         refine Tr.q (QS.lV rfl Try.isAgg29) rfl ?_
         refine Tr.hN ?_
         refine Tr.hAll [3] (by kernel_rfl) (by simp) (fun iq hq => ?_)
         obtain rfl := List.mem_singleton.1 hq
         refine Tr.hOp rfl ?_
         refine Tr.q (QS.nilCheck rfl) rfl ?_
         refine Tr.hN ?_
         refine Tr.hT 4 rfl (by kernel_rfl) (panicIn (panicThen (panicThen (panicIn (panicThen (panicScope panicBody)))))) (QS.fieldAddr (off := 0) (ft := 73) rfl Try.underlying76 rfl rfl Try.sizeOf73 (by decide)) ?_
         refine Tr.hT 5 rfl (by kernel_rfl) (panicIn (panicThen (panicThen (panicIn (panicThen (panicScope panicBody)))))) (QS.loadCF rfl hcw9 Try.isAgg73 (by rfl)) ?_
         refine Tr.hAll [7] (by kernel_rfl) (by simp) (fun iq hq => ?_)
         obtain rfl := List.mem_singleton.1 hq
         refine Tr.hOp rfl ?_
         refine Tr.q (QS.lookIB rfl rfl (by assumption) Try.underlying73 Try.underlying39 Try.zeroValue41 (by rfl)) rfl ?_
         rw [hga]
         refine Tr.hN ?_
         refine Tr.hAll [8] (by kernel_rfl) (by simp) (fun iq hq => ?_)
         obtain rfl := List.mem_singleton.1 hq
         refine Tr.hOp rfl ?_
         refine Tr.lit1 (E := encIns) (atP l (ks.getD k default)).1 rfl rfl Try.underlying29 Try.sizeOf41 Try.zeroValue41 (by rfl) (by rfl) rfl (fun V32 => ?_)
         refine Tr.hN ?_
         refine Tr.hAll [9] (by kernel_rfl) (by simp) (fun iq hq => ?_)
         obtain rfl := List.mem_singleton.1 hq
         refine Tr.hOp rfl ?_
         refine Tr.append1 rfl rfl (by repeat constructor) (by repeat constructor) Try.underlying29 HLF.info41 (by rfl) (by rfl) (by (try simp only [List.length_cons, List.length_nil, List.length_append, List.length_take]); omega) (by unfold maxLen; (try simp only [List.length_cons, List.length_nil, List.length_append, List.length_take]); omega) rfl (fun V33 => ?_)
         refine Tr.rowShape (.head _) (fun pi ci hpv => ?_)
         subst hpv
         refine Tr.hN ?_
         refine Tr.hT 10 rfl (by kernel_rfl) (panicIn (panicThen (panicThen (panicIn (panicThen (panicScope panicBody)))))) (QS.fieldAddr (off := 0) (ft := 29) rfl Try.underlying31 rfl rfl Try.sizeOf29 (by decide)) ?_
         refine Tr.hAll [11] (by kernel_rfl) (by simp) (fun iq hq => ?_)
         obtain rfl := List.mem_singleton.1 hq
         refine Tr.hOp rfl ?_
         refine Tr.storeV (cs' := [_, _, _, _]) rfl rfl Try.sizeOf29 (by repeat constructor) rfl (by rfl) (by first | exact Nat.le_of_ble_eq_true rfl | simp) (by first | exact List.all_eq_true.1 rfl | (intro u hu; simp [Value.cells] at hu; simp_all [Value.oneCell'])) rfl ?_
         refine Tr.hN ?_
         refine Tr.hDone (by kernel_rfl) ?_
         refine Tr.inN (Tr.thenN (Tr.region ?_))
         refine Tr.q (QS.addI rfl rfl (by omega)) rfl ?_
         refine Tr.q (QS.move rfl) rfl ?_
         refine Tr.nil (Tr.thenN ?_)
         rw [map_take_snoc (fun a => (atP l a).1) (by omega)]
         apply Tr.again (k + 1, _)
         ·exact rfl
         ·exact (.cons (by first | rfl | exact lookI rfl (by omega) | exact lookI rfl (by simp) | exact lookB rfl (by simp)) Front.nil)
         ·exact SubX.dropN 18 (by kernel_rfl) rfl
         ·exact (by repeat' constructor)
         ·exact (by show k + 1 ≤ _; omega)
         ·exact (by (try dsimp only); omega)
        obtain rfl := List.mem_singleton.1 hq
        refine Tr.hOp rfl ?_
        refine Tr.q (QS.nilCheck rfl) rfl ?_
        refine Tr.hN ?_
        refine Tr.hT 4 rfl (by kernel_rfl) (panicIn (panicThen (panicThen (panicIn (panicThen (panicScope panicBody)))))) (QS.fieldAddr (off := 0) (ft := 73) rfl Try.underlying76 rfl rfl Try.sizeOf73 (by decide)) ?_
        refine Tr.hT 5 rfl (by kernel_rfl) (panicIn (panicThen (panicThen (panicIn (panicThen (panicScope panicBody)))))) (QS.loadCF rfl hcw9 Try.isAgg73 (by rfl)) ?_
        refine Tr.hAll [1, 7] (by kernel_rfl) (by simp) (fun iq hq => ?_)
        rcases List.mem_cons.1 hq with rfl | hq
        ·skip
         refine Tr.hOp rfl ?_
         refine Tr.q (QS.lV rfl Try.isAgg29) rfl ?_
         refine Tr.hN ?_
         refine Tr.hAll [7] (by kernel_rfl) (by simp) (fun iq hq => ?_)
         obtain rfl := List.mem_singleton.1 hq
         refine Tr.hOp rfl ?_
         refine Tr.q (QS.lookIB rfl rfl (by assumption) Try.underlying73 Try.underlying39 Try.zeroValue41 (by rfl)) rfl ?_
         rw [hga]
         refine Tr.hN ?_
         refine Tr.hAll [8] (by kernel_rfl) (by simp) (fun iq hq => ?_)
         obtain rfl := List.mem_singleton.1 hq
         refine Tr.hOp rfl ?_
         refine Tr.lit1 (E := encIns) (atP l (ks.getD k default)).1 rfl rfl Try.underlying29 Try.sizeOf41 Try.zeroValue41 (by rfl) (by rfl) rfl (fun V34 => ?_)
         refine Tr.hN ?_
         refine Tr.hAll [9] (by kernel_rfl) (by simp) (fun iq hq => ?_)
         obtain rfl := List.mem_singleton.1 hq
         refine Tr.hOp rfl ?_
         refine Tr.append1 rfl rfl (by repeat constructor) (by repeat constructor) Try.underlying29 HLF.info41 (by rfl) (by rfl) (by (try simp only [List.length_cons, List.length_nil, List.length_append, List.length_take]); omega) (by unfold maxLen; (try simp only [List.length_cons, List.length_nil, List.length_append, List.length_take]); omega) rfl (fun V35 => ?_)
         refine Tr.rowShape (.head _) (fun pi ci hpv => ?_)
         subst hpv
         refine Tr.hN ?_
         refine Tr.hT 10 rfl (by kernel_rfl) (panicIn (panicThen (panicThen (panicIn (panicThen (panicScope panicBody)))))) (QS.fieldAddr (off := 0) (ft := 29) rfl Try.underlying31 rfl rfl Try.sizeOf29 (by decide)) ?_
         refine Tr.hAll [11] (by kernel_rfl) (by simp) (fun iq hq => ?_)
         obtain rfl := List.mem_singleton.1 hq
         refine Tr.hOp rfl ?_
         refine Tr.storeV (cs' := [_, _, _, _]) rfl rfl Try.sizeOf29 (by repeat constructor) rfl (by rfl) (by first | exact Nat.le_of_ble_eq_true rfl | simp) (by first | exact List.all_eq_true.1 rfl | (intro u hu; simp [Value.cells] at hu; simp_all [Value.oneCell'])) rfl ?_
         refine Tr.hN ?_
         refine Tr.hDone (by kernel_rfl) ?_
         refine Tr.inN (Tr.thenN (Tr.region ?_))
         refine Tr.q (QS.addI rfl rfl (by omega)) rfl ?_
         refine Tr.q (QS.move rfl) rfl ?_
         refine Tr.nil (Tr.thenN ?_)
         rw [map_take_snoc (fun a => (atP l a).1) (by omega)]
         apply Tr.again (k + 1, _)
         ·exact rfl
         ·exact (.cons (by first | rfl | exact lookI rfl (by omega) | exact lookI rfl (by simp) | exact lookB rfl (by simp)) Front.nil)
         ·exact SubX.dropN 18 (by kernel_rfl) rfl
         ·exact (by repeat' constructor)
         ·exact (by show k + 1 ≤ _; omega)
         ·exact (by (try dsimp only); omega)
        obtain rfl := List.mem_singleton.1 hq
        refine Tr.hOp rfl ?_
        refine Tr.q (QS.lookIB rfl rfl (by assumption) Try.underlying73 Try.underlying39 Try.zeroValue41 (by rfl)) rfl ?_
        rw [hga]
        refine Tr.hN ?_
        refine Tr.hAll [1, 8] (by kernel_rfl) (by simp) (fun iq hq => ?_)
        rcases List.mem_cons.1 hq with rfl | hq
        ·skip
         refine Tr.hOp rfl ?_
         refine Tr.q (QS.lV rfl Try.isAgg29) rfl ?_
         refine Tr.hN ?_
         refine Tr.hAll [8] (by kernel_rfl) (by simp) (fun iq hq => ?_)
         obtain rfl := List.mem_singleton.1 hq
         refine Tr.hOp rfl ?_
         refine Tr.lit1 (E := encIns) (atP l (ks.getD k default)).1 rfl rfl Try.underlying29 Try.sizeOf41 Try.zeroValue41 (by rfl) (by rfl) rfl (fun V36 => ?_)
         refine Tr.hN ?_
         refine Tr.hAll [9] (by kernel_rfl) (by simp) (fun iq hq => ?_)
         obtain rfl := List.mem_singleton.1 hq
         refine Tr.hOp rfl ?_
         refine Tr.append1 rfl rfl (by repeat constructor) (by repeat constructor) Try.underlying29 HLF.info41 (by rfl) (by rfl) (by (try simp only [List.length_cons, List.length_nil, List.length_append, List.length_take]); omega) (by unfold maxLen; (try simp only [List.length_cons, List.length_nil, List.length_append, List.length_take]); omega) rfl (fun V37 => ?_)
         refine Tr.rowShape (.head _) (fun pi ci hpv => ?_)
         subst hpv
         refine Tr.hN ?_
         refine Tr.hT 10 rfl (by kernel_rfl) (panicIn (panicThen (panicThen (panicIn (panicThen (panicScope panicBody)))))) (QS.fieldAddr (off := 0) (ft := 29) rfl Try.underlying31 rfl rfl Try.sizeOf29 (by decide)) ?_
         refine Tr.hAll [11] (by kernel_rfl) (by simp) (fun iq hq => ?_)
         obtain rfl := List.mem_singleton.1 hq
         refine Tr.hOp rfl ?_
         refine Tr.storeV (cs' := [_, _, _, _]) rfl rfl Try.sizeOf29 (by repeat constructor) rfl (by rfl) (by first | exact Nat.le_of_ble_eq_true rfl | simp) (by first | exact List.all_eq_true.1 rfl | (intro u hu; simp [Value.cells] at hu; simp_all [Value.oneCell'])) rfl ?_
         refine Tr.hN ?_
         refine Tr.hDone (by kernel_rfl) ?_
         refine Tr.inN (Tr.thenN (Tr.region ?_))
         refine Tr.q (QS.addI rfl rfl (by omega)) rfl ?_
         refine Tr.q (QS.move rfl) rfl ?_
         refine Tr.nil (Tr.thenN ?_)
         rw [map_take_snoc (fun a => (atP l a).1) (by omega)]
         apply Tr.again (k + 1, _)
         ·exact rfl
         ·exact (.cons (by first | rfl | exact lookI rfl (by omega) | exact lookI rfl (by simp) | exact lookB rfl (by simp)) Front.nil)
         ·exact SubX.dropN 18 (by kernel_rfl) rfl
         ·exact (by repeat' constructor)
         ·exact (by show k + 1 ≤ _; omega)
         ·exact (by (try dsimp only); omega)
        obtain rfl := List.mem_singleton.1 hq
        refine Tr.hOp rfl ?_
        refine Tr.lit1 (E := encIns) (atP l (ks.getD k default)).1 rfl rfl Try.underlying29 Try.sizeOf41 Try.zeroValue41 (by rfl) (by rfl) rfl (fun V38 => ?_)
        refine Tr.hN ?_
        refine Tr.hAll [1] (by kernel_rfl) (by simp) (fun iq hq => ?_)
        obtain rfl := List.mem_singleton.1 hq
        refine Tr.hOp rfl ?_
        refine Tr.q (QS.lV rfl Try.isAgg29) rfl ?_
        refine Tr.hN ?_
        refine Tr.hAll [9] (by kernel_rfl) (by simp) (fun iq hq => ?_)
        obtain rfl := List.mem_singleton.1 hq
        refine Tr.hOp rfl ?_
        refine Tr.append1 rfl rfl (by repeat constructor) (by repeat constructor) Try.underlying29 HLF.info41 (by rfl) (by rfl) (by (try simp only [List.length_cons, List.length_nil, List.length_append, List.length_take]); omega) (by unfold maxLen; (try simp only [List.length_cons, List.length_nil, List.length_append, List.length_take]); omega) rfl (fun V39 => ?_)
        refine Tr.rowShape (.head _) (fun pi ci hpv => ?_)
        subst hpv
        refine Tr.hN ?_
        refine Tr.hT 10 rfl (by kernel_rfl) (panicIn (panicThen (panicThen (panicIn (panicThen (panicScope panicBody)))))) (QS.fieldAddr (off := 0) (ft := 29) rfl Try.underlying31 rfl rfl Try.sizeOf29 (by decide)) ?_
        refine Tr.hAll [11] (by kernel_rfl) (by simp) (fun iq hq => ?_)
        obtain rfl := List.mem_singleton.1 hq
        refine Tr.hOp rfl ?_
        refine Tr.storeV (cs' := [_, _, _, _]) rfl rfl Try.sizeOf29 (by repeat constructor) rfl (by rfl) (by first | exact Nat.le_of_ble_eq_true rfl | simp) (by first | exact List.all_eq_true.1 rfl | (intro u hu; simp [Value.cells] at hu; simp_all [Value.oneCell'])) rfl ?_
        refine Tr.hN ?_
        refine Tr.hDone (by kernel_rfl) ?_
        refine Tr.inN (Tr.thenN (Tr.region ?_))
        refine Tr.q (QS.addI rfl rfl (by omega)) rfl ?_
        refine Tr.q (QS.move rfl) rfl ?_
        refine Tr.nil (Tr.thenN ?_)
        rw [map_take_snoc (fun a => (atP l a).1) (by omega)]
        apply Tr.again (k + 1, _)
        ·exact rfl
        ·exact (.cons (by first | rfl | exact lookI rfl (by omega) | exact lookI rfl (by simp) | exact lookB rfl (by simp)) Front.nil)
        ·exact SubX.dropN 18 (by kernel_rfl) rfl
        ·exact (by repeat' constructor)
        ·exact (by show k + 1 ≤ _; omega)
        ·exact (by (try dsimp only); omega)
       ·try simp only [bs] at h31
        refine Tr.exit ?_
        refine Tr.thenE (Tr.thenE (Tr.inHit (Tr.thenN (Tr.seq (Tr.seq ?_)))))
        obtain rfl : k = ks.length := by omega
        rw [List.take_length]
        refine Tr.region ?_
        refine Tr.q (QS.move rfl) rfl ?_
        refine Tr.q (QS.nilCheck rfl) rfl ?_
        refine Tr.q (QS.fieldAddr (off := 2) (ft := 74) rfl Try.underlying76 rfl rfl Try.sizeOf74 (by decide)) rfl ?_
        refine Tr.q (QS.loadCF rfl hcw9 Try.isAgg74 (by rfl)) rfl ?_
        refine Tr.callEnts0 (fun V : Value => V) (fun V => [rowE V 39 encU32 (srtU (s.ents.map (·.1)))]) (ok := fun _ => True) (hF9.dr.trans hdr5) rfl Try.call44 (fun w hw => dsorted_any s.ents b6 w ((hmE5.mono hF9.blk).mono hw.bg) (by omega)) rfl (fun V31 _ => ?_)
        obtain ⟨se, hse⟩ : ∃ se, se = srtU (s.ents.map (·.1)) := ⟨_, rfl⟩
        rw [← hse]
        refine Tr.q (QS.lenRow rfl (by repeat constructor) Try.underlying23) rfl ?_
        refine Tr.q (QS.move rfl) rfl ?_
        refine Tr.nil (Tr.thenN (Tr.block ?_))
        refine Tr.ownNil 39 encU32 ?_
        refine Tr.loop (ι := Nat × Value) (fun ⟨j, Ve⟩ => j ≤ se.length) (fun _ => _) (fun ⟨j, Ve⟩ => [rowE V31 39 encU32 se, cellE bc [Vi, Ve, Vu, Vb] 31, rowE Ve 39 encU32 ((se.take j).filter fun a => (mget s.ins a).isSome), rowE Vi 41 encIns ((ks).map fun a => (atP l a).1), rowE Vu 39 encU32 (srtU (s.unk.map (·.1))), rowE Vb 39 encU32 (srtU (s.bad.map (·.1))), cellE b1 [.slice none 0 0, .slice none 0 0, .slice none 0 0, .slice none 0 0] 31]) (fun ⟨j, Ve⟩ => [(166, .int .i64 (j : Nat))]) (fun ⟨j, Ve⟩ => se.length - j) (0, _) (Nat.zero_le _) (.cons (by first | rfl | exact lookI rfl (by omega) | exact lookI rfl (by simp) | exact lookB rfl (by simp)) Front.nil) (by repeat' constructor) rfl (fun i hi m hm => ?_)
        obtain ⟨j, Ve⟩ := i
        replace hi : j ≤ se.length := hi
        replace hm : m = se.length - j := hm
        change Tr _ _ [rowE V31 39 encU32 se, cellE bc [Vi, Ve, Vu, Vb] 31, rowE Ve 39 encU32 ((se.take j).filter fun a => (mget s.ins a).isSome), rowE Vi 41 encIns ((ks).map fun a => (atP l a).1), rowE Vu 39 encU32 (srtU (s.unk.map (·.1))), rowE Vb 39 encU32 (srtU (s.bad.map (·.1))), cellE b1 [.slice none 0 0, .slice none 0 0, .slice none 0 0, .slice none 0 0] 31] ([(166, .int .i64 (j : Nat))] ++ _) _
        have hsel : se.length ≤ 10000 := by rw [hse, srtU_len, List.length_map]; omega
        have hfl : ((se.take j).filter fun a => (mget s.ins a).isSome).length ≤ 10000 := Nat.le_trans (List.length_filter_le _ _) (by rw [List.length_take]; omega)
        refine Tr.seq (Tr.region ?_)
        refine Tr.q (QS.lss rfl rfl) rfl ?_
        refine Tr.nil (Tr.thenN (Tr.seq ?_))
        refine Tr.cond rfl (fun h40 => ?_) (fun h40 => ?_)
        ·try simp only [bs] at h40
         refine Tr.skip (Tr.thenN (Tr.seq (Tr.block (Tr.seq (Tr.region ?_)))))
         refine Tr.q (QS.idxRowN rfl rfl (by repeat constructor) Try.underlying23 Try.sizeOf39 (by rfl) (by omega)) rfl ?_
         refine Tr.q (QS.elR1 rfl (by repeat constructor) Try.isAgg39 (by omega) (by rfl)) rfl ?_
         refine Tr.q (QS.assign rfl) rfl ?_
         refine Tr.nil (Tr.thenN (Tr.seq (Tr.region ?_)))
         refine Tr.q (QS.move rfl) rfl ?_
         refine Tr.q (QS.nilCheck rfl) rfl ?_
         refine Tr.q (QS.fieldAddr (off := 0) (ft := 73) rfl Try.underlying76 rfl rfl Try.sizeOf73 (by decide)) rfl ?_
         refine Tr.q (QS.loadCF rfl hcw9 Try.isAgg73 (by rfl)) rfl ?_
         refine Tr.q (QS.move rfl) rfl ?_
         refine Tr.q (QS.lookIBOk rfl rfl (by assumption) Try.underlying73 Try.underlying39 Try.zeroValue41 (by rfl)) rfl ?_
         refine Tr.q (QS.move rfl) rfl ?_
         refine Tr.q (QS.extract rfl rfl) rfl ?_
         refine Tr.q (QS.extract rfl rfl) rfl ?_
         refine Tr.alloc Try.zeroValue41 rfl rfl (fun b41 => ?_)
         refine Tr.storeW rfl rfl Try.sizeOf41 (by repeat constructor) (by rfl) (by rfl) (by first | exact List.all_eq_true.1 rfl | exact Enc.one _ _ | exact Enc.one encIns _) rfl ?_
         refine Tr.q (QS.assign rfl) rfl ?_
         refine Tr.nil (Tr.thenN (Tr.seq (Tr.region ?_)))
         refine Tr.q (QS.move rfl) rfl ?_
         refine Tr.nil (Tr.thenN ?_)
         refine Tr.cond rfl (fun h42 => ?_) (fun h42 => ?_)
         ·try simp only [bs] at h42
          refine Tr.region ?_
          refine Tr.q (QS.fieldAddr (off := 1) (ft := 23) rfl Try.underlying31 rfl rfl Try.sizeOf23 (by decide)) rfl ?_
          refine Tr.q (QS.lV rfl Try.isAgg23) rfl ?_
          refine Tr.q (QS.move rfl) rfl ?_
          refine Tr.lit1 (E := encU32) (se.getD j default) rfl rfl Try.underlying23 Try.sizeOf39 Try.zeroValue39 (by rfl) (by rfl) rfl (fun V43 => ?_)
          refine Tr.append1 rfl rfl (by repeat constructor) (by repeat constructor) Try.underlying23 HLF.info39 (by rfl) (by rfl) (by (try simp only [List.length_cons, List.length_nil, List.length_append, List.length_take]); omega) (by unfold maxLen; (try simp only [List.length_cons, List.length_nil, List.length_append, List.length_take]); omega) rfl (fun V44 => ?_)
          refine Tr.rowShape (.head _) (fun pe ce hpv => ?_)
          subst hpv
          refine Tr.q (QS.fieldAddr (off := 1) (ft := 23) rfl Try.underlying31 rfl rfl Try.sizeOf23 (by decide)) rfl ?_
          refine Tr.storeV (cs' := [_, _, _, _]) rfl rfl Try.sizeOf23 (by repeat constructor) rfl (by rfl) (by first | exact Nat.le_of_ble_eq_true rfl | simp) (by first | exact List.all_eq_true.1 rfl | (intro u hu; simp [Value.cells] at hu; simp_all [Value.oneCell'])) rfl ?_
          refine Tr.nil (Tr.inN (Tr.thenN (Tr.region ?_)))
          refine Tr.q (QS.addI rfl rfl (by omega)) rfl ?_
          refine Tr.q (QS.move rfl) rfl ?_
          refine Tr.nil (Tr.thenN ?_)
          rw [filter_take_yes (p := fun a => (mget s.ins a).isSome) (by omega) (by assumption)]
          apply Tr.again (j + 1, _)
          ·exact rfl
          ·exact (.cons (by first | rfl | exact lookI rfl (by omega) | exact lookI rfl (by simp) | exact lookB rfl (by simp)) Front.nil)
          ·exact SubX.dropN 25 (by kernel_rfl) rfl
          ·exact (by repeat' constructor)
          ·exact (by show j + 1 ≤ _; omega)
          ·exact (by (try dsimp only); omega)
         ·try simp only [bs] at h42
          refine Tr.skip (Tr.inN (Tr.thenN (Tr.region ?_)))
          refine Tr.q (QS.addI rfl rfl (by omega)) rfl ?_
          refine Tr.q (QS.move rfl) rfl ?_
          refine Tr.nil (Tr.thenN ?_)
          rw [filter_take_no (p := fun a => (mget s.ins a).isSome) (by omega) (by simp_all)]
          apply Tr.again (j + 1, _)
          ·exact rfl
          ·exact (.cons (by first | rfl | exact lookI rfl (by omega) | exact lookI rfl (by simp) | exact lookB rfl (by simp)) Front.nil)
          ·exact SubX.dropN 19 (by kernel_rfl) rfl
          ·exact (by repeat' constructor)
          ·exact (by show j + 1 ≤ _; omega)
          ·exact (by (try dsimp only); omega)
        ·try simp only [bs] at h40
         refine Tr.exit ?_
         refine Tr.thenE (Tr.thenE (Tr.inHit (Tr.thenN (Tr.seq ?_))))
         obtain rfl : j = se.length := by omega
         rw [List.take_length]
         refine Tr.rowShape (V := Vi) (by repeat constructor) (fun pVi cVi hpv => ?_)
         subst hpv
         refine Tr.rowShape (V := Ve) (by repeat constructor) (fun pVe cVe hpv => ?_)
         subst hpv
         refine Tr.rowShape (V := Vu) (by repeat constructor) (fun pVu cVu hpv => ?_)
         subst hpv
         refine Tr.rowShape (V := Vb) (by repeat constructor) (fun pVb cVb hpv => ?_)
         subst hpv
         refine Tr.region ?_
         refine Tr.q (QS.lW rfl Try.isAgg31 Try.sizeOf31) rfl ?_
         refine Tr.storeW rfl rfl Try.sizeOf31 (by repeat constructor) (by rfl) (by rfl) (by first | exact List.all_eq_true.1 rfl | exact Enc.one _ _ | (intro u hu; simp [Value.cells] at hu; simp_all [Value.oneCell'])) rfl ?_
         refine Tr.q (QS.assign rfl) rfl ?_
         refine Tr.nil (Tr.thenN (Tr.ret ?_))
         refine Tr.scopeR ?_
         refine Tr.retC2 Try.results22 rfl rfl (by repeat constructor) Try.isAgg31 Try.sizeOf31 (by rfl) (fun w' hw => ?_)
         rw [← hks, ← hse] at hcode
         exact ⟨((_, _, _, _), ⟨_, _, _, _⟩, 0), rfl, hw.below0 (hF1.trans (hF15.trans hF9)), hw.ents0 (hF1.trans (hF15.trans hF9)).lo (by repeat' constructor), .ok hl (by simp_all) rfl hcode⟩
end Go.Proofs.Ytnmaokalpbnmaaa
namespace Go.HL
open Go
def exB : List UInt8 := [96, 1, 1, 128, 2, 0, 0, 0, 2, 0, 1]
def exS (p : Option Addr) (c : Nat) : SecV := ⟨⟨#[99]⟩, 4096, exB, p, c, false, true⟩
def exK : List UInt32 := [4096, 4099, 4104, 4106]
def exI : List Ins := [⟨4096, 4099, 20, 1, 0, 0, 0, 0, 2⟩, ⟨4099, 4106, 23, 0, 0, 0, 0, 0, 5⟩, ⟨4104, 0, 2, 0, 0, 0, 0, 0, 1⟩, ⟨4106, 0, 1, 0, 0, 0, 0, 0, 1⟩]
def exE : List UInt32 := [4096, 4106]
theorem ex_at (p : Option Addr) (c : Nat) : ∀ a ∈ exK, (atP [exS p c] a).2 = true ∧ leadP [] [] (atP [exS p c] a).1 = (if a = 4096 then [4099] else if a = 4099 then [4106, 4104] else []) ∧ callP [] [] (atP [exS p c] a).1 = (if a = 4099 then [4106] else []) ∧ unkP [] [] (atP [exS p c] a).1 = false := by
  intro a ha
  simp only [exK, List.mem_cons, List.not_mem_nil, or_false] at ha
  rcases ha with rfl | rfl | rfl | rfl
  all_goals exact ⟨by kernel_rfl, by kernel_rfl, by kernel_rfl, by kernel_rfl⟩
theorem ex_reach (p : Option Addr) (c : Nat) (a : UInt32) : Reach [exS p c] [] [] [4096] a ↔ a ∈ exK := by
  have up : ∀ b ∈ exK, ∀ a ∈ leadP [] [] (atP [exS p c] b).1, a ∈ exK := by
    intro b hb a ha
    rw [(ex_at p c b hb).2.1] at ha
    simp only [exK, List.mem_cons, List.not_mem_nil, or_false] at hb
    rcases hb with rfl | rfl | rfl | rfl
    · rw [if_pos rfl] at ha; simp at ha; subst ha; decide
    · rw [if_neg (by decide), if_pos rfl] at ha; simp at ha; rcases ha with rfl | rfl <;> decide
    · rw [if_neg (by decide), if_neg (by decide)] at ha; cases ha
    · rw [if_neg (by decide), if_neg (by decide)] at ha; cases ha
  constructor
  · intro h
    induction h with
    | ent a h => simp at h; subst h; decide
    | step b a _ _ ha ih => exact up b ih a ha
  · intro h
    have h0 : Reach [exS p c] [] [] [4096] 4096 := .ent _ (by simp)
    have h1 : Reach [exS p c] [] [] [4096] 4099 := .step 4096 _ h0 (ex_at p c 4096 (by decide)).1 (by rw [(ex_at p c 4096 (by decide)).2.1]; decide)
    have h2 : Reach [exS p c] [] [] [4096] 4104 := .step 4099 _ h1 (ex_at p c 4099 (by decide)).1 (by rw [(ex_at p c 4099 (by decide)).2.1]; decide)
    have h3 : Reach [exS p c] [] [] [4096] 4106 := .step 4099 _ h1 (ex_at p c 4099 (by decide)).1 (by rw [(ex_at p c 4099 (by decide)).2.1]; decide)
    simp only [exK, List.mem_cons, List.not_mem_nil, or_false] at h
    rcases h with rfl | rfl | rfl | rfl <;> assumption
theorem asc_exK : exK.Pairwise (· < ·) := by decide
theorem ex_code (p : Option Addr) (c : Nat) : IsCode [exS p c] [] [] [4096] ⟨exI, exE, [], []⟩ := by
  refine ⟨⟨exK, asc_exK, fun a => ?_, by kernel_rfl⟩, ⟨List.Pairwise.nil, fun a => ?_⟩, ⟨by show exE.Pairwise _; decide, fun a => ?_⟩, ⟨List.Pairwise.nil, fun a => ?_⟩⟩
  · rw [ex_reach]
    exact ⟨fun h => ⟨h, (ex_at p c a h).1⟩, fun h => h.1⟩
  · rw [ex_reach]
    constructor
    · intro h; cases h
    · rintro ⟨h1, h2⟩
      rw [(ex_at p c a h1).1] at h2; cases h2
  · rw [ex_reach]
    constructor
    · intro h
      have h' : a = 4096 ∨ a = 4106 := by simpa [exE] using h
      rcases h' with rfl | rfl
      · exact ⟨⟨by decide, (ex_at p c _ (by decide)).1⟩, .inl (by simp)⟩
      · exact ⟨⟨by decide, (ex_at p c _ (by decide)).1⟩, .inr ⟨4099, ⟨by rw [ex_reach]; decide, (ex_at p c _ (by decide)).1⟩, by rw [(ex_at p c 4099 (by decide)).2.2.1]; decide⟩⟩
    · rintro ⟨⟨h1, _⟩, h2 | ⟨b, ⟨h2, _⟩, h3⟩⟩
      · simp at h2; subst h2; show (4096 : UInt32) ∈ exE; decide
      · rw [ex_reach] at h2
        rw [(ex_at p c b h2).2.2.1] at h3
        split at h3
        · simp at h3; subst h3; show (4106 : UInt32) ∈ exE; decide
        · cases h3
  · rw [ex_reach]
    constructor
    · intro h; cases h
    · rintro ⟨⟨h1, _⟩, h2⟩
      rw [(ex_at p c a h1).2.2.2] at h2; cases h2
theorem ex_walk {p : Option Addr} {n : Nat} {c : CodeP} {e : Int} (h : WalkIs [exS p n] [] [] [4096] c e) : c = ⟨exI, exE, [], []⟩ ∧ e = 0 := by
  cases h with
  | arg h => exact absurd rfl h
  | chk h h1 => exact absurd (show checkS [exS p n] = 0 by kernel_rfl) h1
  | ok h h1 he hc => exact ⟨hc.eq (ex_code p n) (fun a => Iff.rfl) (fun a => Iff.rfl), he⟩
def fewS (s : SecV) : Bool := !(decide (80 < (s.data.length : Int)) || decide (60 < (s.name.size : Int)))
def fewT (t : TabV) : Bool := !decide (12 < (t.data.length : Int))
def fewP (l : List SecV) (es : List UInt32) (ts : List TabV) (at_ : List UInt32) : Bool :=
  ((l.take 8).all fewS && (ts.take 8).all fewT) && (((decide ((l.length : Int) ≤ 6) && decide ((es.length : Int) ≤ 12)) && decide ((ts.length : Int) ≤ 6)) && decide ((at_.length : Int) ≤ 6))
structure Few (l : List SecV) (es : List UInt32) (ts : List TabV) (at_ : List UInt32) : Prop where
  secB : SecB l
  tot : totD l ≤ 480
  name : ∀ s ∈ l, s.name.size ≤ 60
  es : es.length ≤ 12
  tab : TabB ts
  atl : at_.length ≤ 6
theorem few_of {l : List SecV} {es : List UInt32} {ts : List TabV} {at_ : List UInt32} (h : fewP l es ts at_ = true) : Few l es ts at_ := by
  simp only [fewP, Bool.and_eq_true, decide_eq_true_eq] at h
  obtain ⟨⟨h1, h2⟩, ⟨⟨h3, h4⟩, h5⟩, h6⟩ := h
  rw [List.take_of_length_le (by omega), List.all_eq_true] at h1 h2
  have hs : ∀ s ∈ l, s.data.length ≤ 80 ∧ s.name.size ≤ 60 := fun s hs => by
    have := h1 s hs
    simp only [fewS, Bool.not_eq_true', Bool.or_eq_false_iff, decide_eq_false_iff_not] at this
    omega
  refine ⟨⟨by omega, fun s q => by have := (hs s q).1; omega⟩, ?_, fun s q => (hs s q).2, by omega, ⟨by omega, fun t q => by have := h2 t q; simp only [fewT, Bool.not_eq_true', decide_eq_false_iff_not] at this; omega⟩, by omega⟩
  have : ∀ l : List SecV, (∀ s ∈ l, s.data.length ≤ 80) → totD l ≤ 80 * l.length := by
    intro l
    induction l with
    | nil => intro _; simp [totD]
    | cons s l ih =>
      intro h
      have h1 := h s (.head _)
      have h2 := ih fun s hs => h s (.tail _ hs)
      simp only [totD, List.map_cons, List.sum_cons, List.length_cons] at h2 ⊢
      omega
  have := this l fun s q => (hs s q).1
  omega
def reachedP (ins : List Ins) (a : UInt32) : Bool := ins.any fun i => decide (i.addr = a)
def foundP12 (ins : List Ins) (bad : List UInt32) (a : UInt32) : Bool := reachedP ins a || hasU bad a
theorem hasU_iff {l : List UInt32} {a : UInt32} : hasU l a = true ↔ a ∈ l := by
  simp [hasU, List.any_eq_true]
section
variable {l : List SecV} {ts : List TabV} {at_ es : List UInt32} {c : CodeP}
theorem IsCode.mem (h : IsCode l ts at_ es c) {i : Ins} (hi : i ∈ c.ins) : Reach l ts at_ es i.addr ∧ (atP l i.addr).2 = true ∧ i = (atP l i.addr).1 := by
  obtain ⟨ks, k1, k2, k3⟩ := h.ins
  rw [k3] at hi
  obtain ⟨a, ha, rfl⟩ := List.mem_map.1 hi
  have h2 := (k2 a).1 ha
  rw [(at_addr h2.2).1]
  exact ⟨h2.1, h2.2, rfl⟩
theorem IsCode.reached (h : IsCode l ts at_ es c) (a : UInt32) : reachedP c.ins a = true ↔ Reach l ts at_ es a ∧ (atP l a).2 = true := by
  rw [reachedP, List.any_eq_true]
  constructor
  · rintro ⟨i, hi, ha⟩
    have ha := of_decide_eq_true ha
    have := h.mem hi
    rw [ha] at this
    exact ⟨this.1, this.2.1⟩
  · rintro ⟨h1, h2⟩
    obtain ⟨ks, k1, k2, k3⟩ := h.ins
    exact ⟨(atP l a).1, by rw [k3]; exact List.mem_map.2 ⟨a, (k2 a).2 ⟨h1, h2⟩, rfl⟩, decide_eq_true (at_addr h2).1⟩
theorem IsCode.found (h : IsCode l ts at_ es c) (a : UInt32) : foundP12 c.ins c.bad a = true ↔ Reach l ts at_ es a := by
  rw [foundP12, Bool.or_eq_true, h.reached, hasU_iff, h.bad.2]
  constructor
  · rintro (h | h) <;> exact h.1
  · intro q
    cases hq : (atP l a).2
    · exact .inr ⟨q, rfl⟩
    · exact .inl ⟨q, rfl⟩
theorem IsCode.all (h : IsCode l ts at_ es c) {xs : List UInt32} (hx : ∀ a ∈ xs, Reach l ts at_ es a) : xs.all (foundP12 c.ins c.bad) = true :=
  List.all_eq_true.2 fun a ha => (h.found a).2 (hx a ha)
end
end Go.HL
