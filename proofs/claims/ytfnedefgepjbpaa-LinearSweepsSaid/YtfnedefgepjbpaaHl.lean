/- A small logic of triples over the walk's 'wp': a frame known by an association list, memory known by separate blocks. No program in sight. -/
import Derived.WalkKit
import Derived.Deep.Quiet
import Derived.StillTail
set_option linter.unusedSimpArgs false
set_option linter.unusedVariables false
namespace Go.HL
open Go Go.RowKit

/-! ### The frame -/
abbrev Fr := List (Nat × Value)

def look : Fr → Nat → Option Value
  | [], _ => none
  | (d, v) :: M, t => bif Nat.beq d t then some v else look M t

theorem look_cons (d : Nat) (v : Value) (M : Fr) (t : Nat) : look ((d, v) :: M) t = if d = t then some v else look M t := by
  simp only [look]
  by_cases h : d = t
  · subst h; simp
  · have : Nat.beq d t = false := by
      cases hb : Nat.beq d t
      · rfl
      · exact absurd (Nat.eq_of_beq_eq_true hb) h
    simp [this, h]

/-- An entry at this place says that no call is deferred. -/
def mk0 : Nat := 1000001
structure FrOK (N : Nat) (M : Fr) (a : Act) : Prop where
  defers0 : look M mk0 = some undef → a.defers = []
  defersD : ∀ D, look M (mk0 + 1 + D) = some undef → a.defers = [{ target := .collected D, args := #[] }]
  size : a.tmps.size = N
  lt : N ≤ mk0
  val : ∀ t v, look M t = some v → a.tmps.getD t undef = v

theorem FrOK.put {N : Nat} {M : Fr} {a : Act} {d : Nat} {v : Value} (h : FrOK N M a) (hd : d < N) : FrOK N ((d, v) :: M) (a.put (some d) v) := by
  refine ⟨fun hu => h.defers0 ?_, fun D hu => h.defersD D ?_, by simp [Act.put, h.size], h.lt, fun t u hu => ?_⟩
  · rw [look_cons, if_neg (by have := h.lt; omega)] at hu; exact hu
  · rw [look_cons, if_neg (by have := h.lt; omega)] at hu; exact hu
  rw [look_cons] at hu
  by_cases e : d = t
  · subst e
    simp only [if_true] at hu
    cases hu
    have : d < a.tmps.size := by rw [h.size]; exact hd
    simp [Act.put, Array.getD_eq_getD_getElem?, this]
  · simp only [e, if_false] at hu
    have := h.val t u hu
    simp only [Act.put, Array.getD_eq_getD_getElem?] at this ⊢
    rw [Array.getElem?_setIfInBounds_ne e]
    exact this

theorem FrOK.put_none {N : Nat} {M : Fr} {a : Act} {v : Value} (h : FrOK N M a) : FrOK N M (a.put none v) := h

theorem FrOK.sub {N : Nat} {M M' : Fr} {a : Act} (h : FrOK N M a) (hs : ∀ t v, look M' t = some v → look M t = some v) : FrOK N M' a :=
  ⟨fun e => h.defers0 (hs _ _ e), fun D e => h.defersD D (hs _ _ e), h.size, h.lt, fun t v hv => h.val t v (hs t v hv)⟩

/-- What is known in M' is known in M. -/
def Sub (M M' : Fr) : Prop := ∀ t v, look M' t = some v → look M t = some v
theorem Sub.look {M M' : Fr} (h : Sub M M') : ∀ t v, look M' t = some v → look M t = some v := h
theorem Sub.nil {M : Fr} : Sub M [] := fun t v hv => by simp [HL.look] at hv
theorem Sub.refl (M : Fr) : Sub M M := fun _ _ h => h
theorem Sub.cons {M M' : Fr} {d : Nat} {v : Value} (h : HL.look M d = some v) (s : Sub M M') : Sub M ((d, v) :: M') := by
  intro t u hu
  rw [look_cons] at hu
  by_cases e : d = t
  · subst e; simp only [if_true] at hu; cases hu; exact h
  · simp only [e, if_false] at hu; exact s t u hu
/-- The first n entries speak of temporaries of which M' knows nothing. -/
theorem Sub.dropN {M M' : Fr} (n : Nat) (h : (M.take n).all (fun e => (HL.look M' e.1).isNone) = true) (hM : M.drop n = M') : Sub M M' := by
  subst hM
  induction n generalizing M with
  | zero => exact Sub.refl M
  | succ n ih =>
    cases M with
    | nil => exact Sub.refl _
    | cons e M =>
      obtain ⟨d, v⟩ := e
      simp only [List.take_succ_cons, List.drop_succ_cons, List.all_cons, Bool.and_eq_true] at h ⊢
      have h1 := ih h.2
      intro t u hu
      rw [look_cons]
      by_cases e : d = t
      · subst e; rw [hu] at h; simp at h
      · simp only [e, if_false]; exact h1 t u hu
/-- The same, but for temporaries of a list K. -/
def SubX (K : List Nat) (M M' : Fr) : Prop := ∀ t v, K.contains t = false → look M' t = some v → look M t = some v
theorem SubX.dropN {K : List Nat} {M M' : Fr} (n : Nat) (h : (M.take n).all (fun e => K.contains e.1 || (HL.look M' e.1).isNone) = true) (hM : M.drop n = M') : SubX K M M' := by
  subst hM
  induction n generalizing M with
  | zero => exact fun t v _ h => h
  | succ n ih =>
    cases M with
    | nil => exact fun t v _ h => h
    | cons e M =>
      obtain ⟨d, v⟩ := e
      simp only [List.take_succ_cons, List.drop_succ_cons, List.all_cons, Bool.and_eq_true] at h ⊢
      have h1 := ih h.2
      intro t u hk hu
      rw [look_cons]
      by_cases e : d = t
      · subst e; rw [hu] at h; rw [hk] at h; simp at h
      · simp only [e, if_false]; exact h1 t u hk hu
theorem SubX.front : ∀ (front : Fr) {M M' : Fr}, (∀ e ∈ front, HL.look M e.1 = some e.2) → SubX (front.map (·.1)) M M' → Sub M (front ++ M')
  | front, M, M', hf, hs => by
    intro t v hv
    have key : ∀ (f : Fr), (∀ e ∈ f, HL.look M e.1 = some e.2) → HL.look (f ++ M') t = some v → HL.look M t = some v ∨ ((f.map (·.1)).contains t = false ∧ HL.look M' t = some v) := by
      intro f
      induction f with
      | nil => intro _ h; exact .inr ⟨rfl, h⟩
      | cons e f ih =>
        obtain ⟨d, u⟩ := e
        intro he h
        simp only [List.cons_append, look_cons] at h
        by_cases e : d = t
        · subst e; simp only [if_true] at h; cases h; exact .inl (he _ (.head _))
        · simp only [e, if_false] at h
          rcases ih (fun x hx => he x (.tail _ hx)) h with h | ⟨h1, h2⟩
          · exact .inl h
          · refine .inr ⟨?_, h2⟩
            simp only [List.map_cons, List.contains_cons, Bool.or_eq_false_iff]
            exact ⟨by simp; exact fun h => e h.symm, h1⟩
    rcases key front hf hv with h | ⟨h1, h2⟩
    · exact h
    · exact hs t v h1 h2
/-- Each entry of a front holds. -/
def Front (M : Fr) : Fr → Prop
  | [] => True
  | e :: f => look M e.1 = some e.2 ∧ Front M f
theorem Front.all {M : Fr} : ∀ {f : Fr}, Front M f → ∀ e ∈ f, HL.look M e.1 = some e.2
  | [], _, e, he => by cases he
  | x :: f, h, e, he => by
    rcases List.mem_cons.1 he with rfl | he
    · exact h.1
    · exact Front.all h.2 e he

def opv (M : Fr) : Operand → Option Value
  | .tmp t => look M t
  | .const v => some v
  | .func f => some (.func (.func f) #[] #[])
  | .global g => some (.pointer (some ⟨g, 0, none⟩))

theorem FrOK.eval {N : Nat} {M : Fr} {a : Act} (h : FrOK N M a) {x : Operand} {v : Value} (hx : opv M x = some v) : a.eval x = v := by
  cases x with
  | tmp t => exact h.val t v hx
  | const u => cases hx; rfl
  | func f => cases hx; rfl
  | global g => cases hx; rfl

def opvs (M : Fr) : List Operand → Option (List Value)
  | [] => some []
  | x :: xs => match opv M x, opvs M xs with
    | some v, some vs => some (v :: vs)
    | _, _ => none

theorem FrOK.evals {N : Nat} {M : Fr} {a : Act} (h : FrOK N M a) : ∀ {xs : List Operand} {vs : List Value}, opvs M xs = some vs → xs.map a.eval = vs
  | [], vs, hx => by cases hx; rfl
  | x :: xs, vs, hx => by
    simp only [opvs] at hx
    cases h1 : opv M x with
    | none => simp [h1] at hx
    | some v =>
      cases h2 : opvs M xs with
      | none => simp [h1, h2] at hx
      | some us =>
        simp only [h1, h2, Option.some.injEq] at hx
        subst hx
        simp [h.eval h1, h.evals h2]

/-! ### Memory: what is only read, and blocks of one's own -/
/-- The world has grown: everything that was there is as it was. -/
structure Ext (w w' : World) : Prop where
  below : Below w.heap.size w w'
  dr : w.drawn ≤ w'.drawn
theorem Ext.refl (w : World) : Ext w w := ⟨Below.refl _ _, Nat.le_refl _⟩
theorem Ext.trans {a b c : World} (h : Ext a b) (k : Ext b c) : Ext a c := ⟨h.below.trans (k.below.mono h.below.size), Nat.le_trans h.dr k.dr⟩
theorem Ext.size {w w' : World} (h : Ext w w') : w.heap.size ≤ w'.heap.size := h.below.size

structure Bg where
  blk : Nat → Option Obj
  n : Nat
  dr : Nat
  os : Os
  tape : Nat → Question → Nat
  out : Array (Nat × ByteArray)
  lo : Nat
  lo_le : lo ≤ n

def Bg.of (w : World) : Bg := ⟨fun b => w.heap[b]?, w.heap.size, w.drawn, w.os, w.tape, w.output, w.heap.size, Nat.le_refl _⟩

structure Bg.le (F G : Bg) : Prop where
  blk : ∀ b o, F.blk b = some o → G.blk b = some o
  n : F.n ≤ G.n
  dr : G.dr = F.dr
  os : G.os = F.os
  tape : G.tape = F.tape
  out : G.out = F.out
  lo : G.lo = F.lo

theorem Bg.le.refl (F : Bg) : F.le F := ⟨fun _ _ h => h, Nat.le_refl _, rfl, rfl, rfl, rfl, rfl⟩
theorem Bg.le.trans {F G H : Bg} (h : F.le G) (k : G.le H) : F.le H :=
  ⟨fun b o e => k.blk b o (h.blk b o e), Nat.le_trans h.n k.n, k.dr.trans h.dr, k.os.trans h.os, k.tape.trans h.tape, k.out.trans h.out, k.lo.trans h.lo⟩

structure Ent where
  blk : Option Nat
  ok : Option Obj → Prop

def Ent.holds (e : Ent) (w : World) : Prop := e.ok (e.blk.bind (w.heap[·]?))

def blks (L : List Ent) : List Nat := L.filterMap (·.blk)

structure HpOK (F : Bg) (L : List Ent) (w : World) : Prop where
  os : w.os = F.os
  tape : w.tape = F.tape
  out : w.output = F.out
  n : F.n ≤ w.heap.size
  dr : F.dr ≤ w.drawn
  bg : ∀ b o, F.blk b = some o → w.heap[b]? = some o
  ent : ∀ e ∈ L, e.holds w
  nodup : (blks L).Nodup
  lt : ∀ b ∈ blks L, b < w.heap.size
  sep : ∀ b ∈ blks L, F.blk b = none ∧ F.lo ≤ b

theorem HpOK.start (w : World) : HpOK (Bg.of w) [] w :=
  ⟨rfl, rfl, rfl, Nat.le_refl _, Nat.le_refl _, fun _ _ h => h, fun _ h => (by cases h), (by simp [blks]), fun _ h => (by simp [blks] at h), fun _ h => (by simp [blks] at h)⟩

theorem HpOK.below {w0 w : World} {F : Bg} {L : List Ent} (h : HpOK F L w) (hF : (Bg.of w0).le F) : Ext w0 w :=
  ⟨⟨h.os.trans hF.os, h.tape.trans hF.tape, h.out.trans hF.out, Nat.le_trans hF.n h.n, fun k hk => by
    have e : (Bg.of w0).blk k = some w0.heap[k] := by simp [Bg.of, hk]
    rw [h.bg k _ (hF.blk k _ e)]; simp [hk]⟩, by have := h.dr; rw [hF.dr] at this; exact this⟩

theorem HpOK.grow {F : Bg} {L : List Ent} {w w' : World} (h : HpOK F L w) (hx : Ext w w') : HpOK F L w' := by
  have hb := hx.below
  have old : ∀ b, b < w.heap.size → w'.heap[b]? = w.heap[b]? := hb.block
  refine ⟨hb.os.trans h.os, hb.tape.trans h.tape, hb.output.trans h.out, Nat.le_trans h.n hb.size, Nat.le_trans h.dr hx.dr, fun b o e => ?_, fun e he => ?_, h.nodup, fun b hm => Nat.lt_of_lt_of_le (h.lt b hm) hb.size, h.sep⟩
  · have := h.bg b o e
    rw [old b (Array.getElem?_eq_some_iff.1 this).1]; exact this
  · have hh := h.ent e he
    unfold Ent.holds at *
    cases hk : e.blk with
    | none => rw [hk] at hh; exact hh
    | some b =>
      rw [hk] at hh
      simp only [Option.bind_some] at *
      rw [old b (h.lt b (by simp only [blks, List.mem_filterMap]; exact ⟨e, he, hk⟩))]
      exact hh

theorem HpOK.drew {F : Bg} {L : List Ent} {w : World} (h : HpOK F L w) : HpOK F L w.drew :=
  h.grow ⟨⟨rfl, rfl, rfl, Nat.le_refl _, fun _ _ => rfl⟩, Nat.le_succ _⟩

theorem HpOK.mem {F : Bg} {L L' : List Ent} {w : World} (h : HpOK F L w) (hs : L'.Sublist L) : HpOK F L' w := by
  have hb : (blks L').Sublist (blks L) := hs.filterMap _
  exact ⟨h.os, h.tape, h.out, h.n, h.dr, h.bg, fun e he => h.ent e (hs.subset he), h.nodup.sublist hb, fun b hm => h.lt b (hb.subset hm), fun b hm => h.sep b (hb.subset hm)⟩

theorem HpOK.perm {F : Bg} {L L' : List Ent} {w : World} (h : HpOK F L w) (hp : L'.Perm L) : HpOK F L' w := by
  have hb : (blks L').Perm (blks L) := hp.filterMap _
  exact ⟨h.os, h.tape, h.out, h.n, h.dr, h.bg, fun e he => h.ent e (hp.subset he), hb.nodup_iff.2 h.nodup, fun b hm => h.lt b (hb.subset hm), fun b hm => h.sep b (hb.subset hm)⟩

/-- A new block. -/
theorem HpOK.alloc {F : Bg} {L : List Ent} {w : World} (h : HpOK F L w) (o : Obj) (p : Option Obj → Prop) (hp : p (some o)) :
    HpOK F (⟨some w.heap.size, p⟩ :: L) (w.alloc o) := by
  have hg : HpOK F L (w.alloc o) := h.grow ⟨(Below.refl _ _).alloc (Nat.le_refl _) _, Nat.le_refl _⟩
  have hbl : blks (⟨some w.heap.size, p⟩ :: L) = w.heap.size :: blks L := rfl
  refine ⟨hg.os, hg.tape, hg.out, hg.n, hg.dr, hg.bg, fun e he => ?_, ?_, fun b hb => ?_, fun b hb => ?_⟩
  · rcases List.mem_cons.1 he with rfl | he
    · simp only [Ent.holds, Option.bind_some]
      have : (w.alloc o).heap[w.heap.size]? = some o := by show (w.heap.push o)[w.heap.size]? = _; simp
      rw [this]; exact hp
    · exact hg.ent e he
  · rw [hbl, List.nodup_cons]
    exact ⟨fun hm => Nat.lt_irrefl _ (h.lt _ hm), h.nodup⟩
  · rw [hbl] at hb
    rcases List.mem_cons.1 hb with rfl | hb
    · simp
    · exact hg.lt b hb
  · rw [hbl] at hb
    rcases List.mem_cons.1 hb with rfl | hb
    · refine ⟨?_, Nat.le_trans F.lo_le h.n⟩
      cases hF : F.blk w.heap.size with
      | none => rfl
      | some o' =>
        have := h.bg _ _ hF
        have := (Array.getElem?_eq_some_iff.1 this).1
        omega
    · exact h.sep b hb

/-- Entry e stands in L; L' is L with e' in its place. -/
inductive Put (e e' : Ent) : List Ent → List Ent → Prop
  | here (L : List Ent) : Put e e' (e :: L) (e' :: L)
  | there (x : Ent) {L L' : List Ent} (h : Put e e' L L') : Put e e' (x :: L) (x :: L')

theorem Put.mem {e e' : Ent} {L L' : List Ent} (h : Put e e' L L') : e ∈ L := by
  induction h with
  | here => exact .head _
  | there x _ ih => exact .tail _ ih

theorem Put.mem' {e e' : Ent} {L L' : List Ent} (h : Put e e' L L') : ∀ x ∈ L', x = e' ∨ x ∈ L := by
  induction h with
  | here L =>
    intro x hx
    rcases List.mem_cons.1 hx with h | h
    · exact .inl h
    · exact .inr (.tail _ h)
  | there y _ ih =>
    intro x hx
    rcases List.mem_cons.1 hx with h | h
    · exact .inr (h ▸ .head _)
    · exact (ih x h).imp id (.tail _)

theorem Put.blks {e e' : Ent} {L L' : List Ent} (h : Put e e' L L') (hb : e'.blk = e.blk) : blks L' = blks L := by
  induction h with
  | here L => simp [HL.blks, List.filterMap_cons, hb]
  | there x _ ih => simp only [HL.blks] at ih; simp [HL.blks, List.filterMap_cons, ih]

theorem blks_some {e : Ent} {b : Nat} {L : List Ent} (h : e.blk = some b) : blks (e :: L) = b :: blks L := by simp [blks, h]

/-- Splitting a list at an entry: the rest knows nothing of its block. -/
theorem Put.other {e e' : Ent} {L L' : List Ent} (h : Put e e' L L') (hn : (HL.blks L).Nodup) {b : Nat} (hb : e.blk = some b) (hb' : e'.blk = some b) :
    ∀ x ∈ L', x ≠ e' → x ∈ L ∧ x.blk ≠ some b := by
  induction h with
  | here L =>
    intro x hx hne
    rcases List.mem_cons.1 hx with h | h
    · exact absurd h hne
    · refine ⟨.tail _ h, fun hxb => ?_⟩
      rw [blks_some hb, List.nodup_cons] at hn
      exact hn.1 (List.mem_filterMap.2 ⟨x, h, hxb⟩)
  | @there y L0 L1 hp ih =>
    intro x hx hne
    have hs : (HL.blks L0).Sublist (HL.blks (y :: L0)) := (List.sublist_cons_self y L0).filterMap _
    have hn' : (HL.blks L0).Nodup := hn.sublist hs
    rcases List.mem_cons.1 hx with h | h
    · subst h
      refine ⟨.head _, fun hxb => ?_⟩
      have hm := hp.mem
      rw [blks_some hxb, List.nodup_cons] at hn
      exact hn.1 (List.mem_filterMap.2 ⟨e, hm, hb⟩)
    · obtain ⟨h1, h2⟩ := ih hn' x h hne
      exact ⟨.tail _ h1, h2⟩

/-- One block of one's own has changed, and nothing else. -/
theorem HpOK.set {F : Bg} {L L' : List Ent} {w w' : World} {b : Nat} {p p' : Option Obj → Prop} (h : HpOK F L w) (hput : Put ⟨some b, p⟩ ⟨some b, p'⟩ L L')
    (hos : w'.os = w.os) (ht : w'.tape = w.tape) (ho : w'.output = w.output) (hs : w.heap.size ≤ w'.heap.size) (hdr : w.drawn ≤ w'.drawn)
    (hother : ∀ k, k < w.heap.size → k ≠ b → w'.heap[k]? = w.heap[k]?) (hp : p' (w'.heap[b]?)) : HpOK F L' w' := by
  have hb : blks L' = blks L := hput.blks rfl
  have hbm : b ∈ blks L := List.mem_filterMap.2 ⟨_, hput.mem, rfl⟩
  refine ⟨hos.trans h.os, ht.trans h.tape, ho.trans h.out, Nat.le_trans h.n hs, Nat.le_trans h.dr hdr, fun k o e => ?_, fun e he => ?_, by rw [hb]; exact h.nodup, fun k hk => ?_, fun k hk => ?_⟩
  · have hk := h.bg k o e
    rw [hother k (Array.getElem?_eq_some_iff.1 hk).1 (fun hkb => by subst hkb; have := (h.sep _ hbm).1; rw [this] at e; cases e)]
    exact hk
  · by_cases hee : e = ⟨some b, p'⟩
    · subst hee; exact hp
    · obtain ⟨h1, h2⟩ := hput.other h.nodup rfl rfl e he hee
      have hh := h.ent e h1
      unfold Ent.holds at *
      cases hk : e.blk with
      | none => rw [hk] at hh; exact hh
      | some c =>
        rw [hk] at hh h2
        simp only [Option.bind_some] at *
        rw [hother c (h.lt c (List.mem_filterMap.2 ⟨e, h1, hk⟩)) (fun e => h2 (by rw [e]))]
        exact hh
  · rw [hb] at hk; exact Nat.lt_of_lt_of_le (h.lt k hk) hs
  · rw [hb] at hk; exact h.sep k hk

/-- Taking an entry out. -/
inductive Del (e : Ent) : List Ent → List Ent → Prop
  | here (L : List Ent) : Del e (e :: L) L
  | there (x : Ent) {L L' : List Ent} (h : Del e L L') : Del e (x :: L) (x :: L')
theorem Del.perm {e : Ent} {L L' : List Ent} (h : Del e L L') : L.Perm (e :: L') := by
  induction h with
  | here => exact .refl _
  | there x _ ih => exact (ih.cons x).trans (.swap _ _ _)
theorem HpOK.front {F : Bg} {e : Ent} {L L' : List Ent} {w : World} (h : HpOK F L w) (hd : Del e L L') : HpOK F (e :: L') w := h.perm hd.perm.symm

/-- The entries of L' stand in L, in whatever order. -/
inductive Pick : List Ent → List Ent → Prop
  | nil (L : List Ent) : Pick L []
  | cons {e : Ent} {L L1 L' : List Ent} (h : Del e L L1) (k : Pick L1 L') : Pick L (e :: L')
theorem Pick.sub {L L' : List Ent} (h : Pick L L') : ∃ L2, L.Perm (L' ++ L2) := by
  induction h with
  | nil L => exact ⟨L, .refl _⟩
  | cons h _ ih =>
    obtain ⟨L2, h2⟩ := ih
    exact ⟨L2, h.perm.trans (h2.cons _)⟩
theorem Pick.heap {F : Bg} {L L' : List Ent} {w : World} (h : Pick L L') (hw : HpOK F L w) : HpOK F L' w := by
  obtain ⟨L2, h2⟩ := h.sub
  exact (hw.perm h2.symm).mem (List.sublist_append_left _ _)

/-! ### Triples -/
def Tr (N : Nat) (F : Bg) (L : List Ent) (M : Fr) (X : Act → World → Prop) : Prop := ∀ a w, FrOK N M a → HpOK F L w → X a w

def TrQ (N : Nat) (M : Fr) (Y : Act → Prop) : Prop := ∀ a, FrOK N M a → Y a

/-- One operation, in any frame that knows M and any memory as told: it yields v and the memory is as told again. -/
def QS (P : Program) (N : Nat) (F : Bg) (L : List Ent) (M : Fr) (o : Oper) (v : Value) : Prop :=
  ∀ a w, FrOK N M a → HpOK F L w → o.quietAt P a (HpOK F L) w v

section
variable {P : Program} {ops : Array Oper} {Q : Exit → Act → World → Prop} {N : Nat} {F : Bg} {L : List Ent} {M : Fr} {rest : List Oper} {o : Oper}

theorem Tr.mono {X Y : Act → World → Prop} (h : Tr N F L M X) (hh : ∀ a w, X a w → Y a w) : Tr N F L M Y := fun a w ha hw => hh _ _ (h a w ha hw)

theorem Tr.nil (h : Tr N F L M (Q .normal)) : Tr N F L M (wpList P ops Q []) := h

theorem Oper.wp_quietAt {a : Act} {w : World} {v : Value} {C : World → Prop} {K : Act → World → Prop} (hC : C w) (h : o.quietAt P a C w v) (hK : ∀ w', C w' → K (a.put o.dst v) w') : o.wp P a w K Q := by
  unfold Oper.quietAt at h
  unfold Oper.wp
  generalize (execOp a.eval o).run P w = r at *
  cases r with
  | ok n w' =>
    cases n <;> simp only [Oper.quietUpon] at h <;> simp only [Oper.upon]
    case value u => obtain ⟨rfl, rfl⟩ := h; exact hK _ hC
    case skip => obtain ⟨rfl, rfl⟩ := h; exact hK _ hC
    case enter f args =>
      obtain ⟨rfl, hc⟩ := h
      exact hc.mono fun e w'' ⟨he, hw''⟩ => by subst he; exact hK _ hw''
  | halt x w' => simp only [Oper.quietUpon] at h

/-- A quiet operation without a guard. -/
theorem Tr.q {d : Nat} {op : Op} {ty : TypeId} {pos : String} {after : Array Edge} {v : Value} (h : QS P N F L M ⟨some d, op, ty, pos, after, none⟩ v) (hd : Nat.ble (d + 1) N = true)
    (k : Tr N F L ((d, v) :: M) (wpList P ops Q rest)) : Tr N F L M (wpList P ops Q (⟨some d, op, ty, pos, after, none⟩ :: rest)) := by
  intro a w ha hw
  refine wpList_plain rfl fun K hK => Oper.wp_quietAt (C := HpOK F L) hw (h a w ha hw) fun w' hw' => hK _ _ (k _ _ (ha.put (Nat.le_of_ble_eq_true hd)) hw')

theorem yielded_of {a : Act} {j t : Nat} {b : Bool} (ha : FrOK N M a) (hj : (ops[j]?).bind (·.dst) = some t) (ht : look M t = some (.bool b)) : yielded ops a.tmps j = some b := by
  have hv := ha.val t _ ht
  unfold yielded
  rw [hj]
  simp only [Option.bind_some]
  rw [Array.getD_eq_getD_getElem?] at hv
  cases he : a.tmps[t]? with
  | none => rw [he] at hv; simp [undef] at hv
  | some u => rw [he] at hv; simp only [Option.getD_some] at hv; subst hv; rfl

theorem yielded_undef {a : Act} {j t : Nat} (ha : FrOK N M a) (hj : (ops[j]?).bind (·.dst) = some t) (ht : look M t = some undef) : yielded ops a.tmps j = none := by
  have hv := ha.val t _ ht
  unfold yielded
  rw [hj]
  simp only [Option.bind_some]
  rw [Array.getD_eq_getD_getElem?] at hv
  cases he : a.tmps[t]? with
  | none => rfl
  | some u => rw [he] at hv; simp only [Option.getD_some] at hv; subst hv; rfl

/-- A quiet operation whose guard says yes. -/
theorem Tr.gq {d : Nat} {op : Op} {ty : TypeId} {pos : String} {after : Array Edge} {v : Value} {j t : Nat} {b b' : Bool} (hj : (ops[j]?).bind (·.dst) = some t) (ht : look M t = some (.bool b')) (hb : b' = b)
    (h : QS P N F L M ⟨some d, op, ty, pos, after, some (j, b)⟩ v) (hd : Nat.ble (d + 1) N = true)
    (k : Tr N F L ((d, v) :: M) (wpList P ops Q rest)) : Tr N F L M (wpList P ops Q (⟨some d, op, ty, pos, after, some (j, b)⟩ :: rest)) := by
  intro a w ha hw
  refine wpList_step fun K hK => ?_
  rw [if_pos (by simp [Region.wanted, yielded_of ha hj ht, hb])]
  exact Oper.wp_quietAt (C := HpOK F L) hw (h a w ha hw) fun w' hw' => hK _ _ (k _ _ (ha.put (Nat.le_of_ble_eq_true hd)) hw')

/-- Whatever operation whose guard says yes. -/
theorem Tr.gdo {dst : Option Tmp} {op : Op} {ty : TypeId} {pos : String} {after : Array Edge} {j t : Nat} {b b' : Bool} (hj : (ops[j]?).bind (·.dst) = some t) (ht : look M t = some (.bool b')) (hb : b' = b)
    (k : Tr N F L M (wpList P ops Q (⟨dst, op, ty, pos, after, none⟩ :: rest))) : Tr N F L M (wpList P ops Q (⟨dst, op, ty, pos, after, some (j, b)⟩ :: rest)) := by
  intro a w ha hw
  have h := k a w ha hw
  unfold wpList at h ⊢
  rw [if_pos (by simp [Region.wanted])] at h
  rw [if_pos (by simp [Region.wanted, yielded_of ha hj ht, hb])]
  exact h

/-- An operation whose guard says no. -/
theorem Tr.gskip {d : Nat} {op : Op} {ty : TypeId} {pos : String} {after : Array Edge} {j t : Nat} {b b' : Bool} (hj : (ops[j]?).bind (·.dst) = some t) (ht : look M t = some (.bool b')) (hb : b' = !b)
    (hd : Nat.ble (d + 1) N = true) (k : Tr N F L ((d, undef) :: M) (wpList P ops Q rest)) : Tr N F L M (wpList P ops Q (⟨some d, op, ty, pos, after, some (j, b)⟩ :: rest)) := by
  intro a w ha hw
  refine wpList_step fun K hK => ?_
  rw [if_neg (by simp [Region.wanted, yielded_of ha hj ht, hb])]
  exact hK _ _ (k _ _ (ha.put (Nat.le_of_ble_eq_true hd)) hw)

theorem Tr.gskipU {d : Nat} {op : Op} {ty : TypeId} {pos : String} {after : Array Edge} {j t : Nat} {b : Bool} (hj : (ops[j]?).bind (·.dst) = some t) (ht : look M t = some undef)
    (hd : Nat.ble (d + 1) N = true) (k : Tr N F L ((d, undef) :: M) (wpList P ops Q rest)) : Tr N F L M (wpList P ops Q (⟨some d, op, ty, pos, after, some (j, b)⟩ :: rest)) := by
  intro a w ha hw
  refine wpList_step fun K hK => ?_
  rw [if_neg (by simp [Region.wanted, yielded_undef ha hj ht])]
  exact hK _ _ (k _ _ (ha.put (Nat.le_of_ble_eq_true hd)) hw)

theorem wpList_append (l1 l2 : List Oper) : ∀ (a : Act) (w : World), wpList P ops (Exit.then (wpList P ops Q l2) Q) l1 a w → wpList P ops Q (l1 ++ l2) a w := by
  induction l1 with
  | nil => intro a w h; exact h
  | cons o l ih =>
    intro a w h
    simp only [List.cons_append]
    unfold wpList at h ⊢
    split
    · rename_i hw
      rw [if_pos hw] at h
      rcases h with h | ⟨h, a0, w0, h0⟩
      · left
        unfold Oper.wp at *
        generalize (execOp a.eval o).run P w = r at *
        cases r with
        | ok n w' =>
          cases n <;> simp only [Oper.upon] at h ⊢
          case value => exact ih _ _ h
          case skip => exact ih _ _ h
          case defer => exact ih _ _ h
          case enter => exact h.mono fun e w'' he => by cases e <;> first | exact ih _ _ he | exact he
          case row => exact h.mono fun v w'' he => ih _ _ he
        | halt x w' => cases x <;> simp only [Oper.upon] at h ⊢; exact h
      · exact .inr ⟨h, a0, w0, h0⟩
    · rename_i hw
      rw [if_neg hw] at h
      exact ih _ _ h

/-- A cut inside a region: k operations lead to M', L'. -/
theorem Tr.split {l : List Oper} (k : Nat) (L' : List Ent) (M' : Fr) (h1 : Tr N F L M (wpList P ops (Exit.then (fun a w => FrOK N M' a ∧ HpOK F L' w) Q) (l.take k)))
    (h2 : Tr N F L' M' (wpList P ops Q (l.drop k))) : Tr N F L M (wpList P ops Q l) := by
  intro a w ha hw
  have h := h1 a w ha hw
  rw [← List.take_append_drop k l]
  refine wpList_append _ _ _ _ (wpList_mono (fun e a' w' he => ?_) _ _ _ h)
  cases e <;> first | exact he | exact h2 _ _ he.1 he.2
where
  wpList_mono {P : Program} {ops : Array Oper} {Q Q' : Exit → Act → World → Prop} (hq : ∀ e a w, Q e a w → Q' e a w) : ∀ (l : List Oper) (a : Act) (w : World), wpList P ops Q l a w → wpList P ops Q' l a w := by
    intro l
    induction l with
    | nil => intro a w h; exact hq _ _ _ h
    | cons o l ih =>
      intro a w h
      unfold wpList at h ⊢
      split
      · rename_i hw
        rw [if_pos hw] at h
        rcases h with h | ⟨h, a0, w0, h0⟩
        · left
          unfold Oper.wp at *
          generalize (execOp a.eval o).run P w = r at *
          cases r with
          | ok n w' =>
            cases n <;> simp only [Oper.upon] at h ⊢
            case value => exact ih _ _ h
            case skip => exact ih _ _ h
            case defer => exact ih _ _ h
            case enter => exact h.mono fun e w'' he => by
                            cases e
                            · exact ih _ _ he
                            · exact hq _ _ _ he
                            · obtain ⟨a1, w1, h1⟩ := he; exact ⟨a1, w1, hq _ _ _ h1⟩
            case row => exact h.mono fun v w'' he => ih _ _ he
          | halt x w' => cases x <;> simp only [Oper.upon] at h ⊢; exact hq _ _ _ h
        · exact .inr ⟨h, a0, w0, hq _ _ _ h0⟩
      · rename_i hw
        rw [if_neg hw] at h
        exact ih _ _ h

theorem Tr.end {L' : List Ent} {M' : Fr} {K : Act → World → Prop} (hM : Sub M M') (hL : L' = L) (hK : K = fun a w => FrOK N M' a ∧ HpOK F L' w) : Tr N F L M K := by
  subst hL; subst hK
  exact fun a w ha hw => ⟨ha.sub hM.look, hw⟩

theorem Tr.endP {L' : List Ent} {M' : Fr} {K : Act → World → Prop} (hM : Sub M M') (hK : K = fun a w => FrOK N M' a ∧ HpOK F L' w) (hL : Pick L L') : Tr N F L M K := by
  subst hK
  exact fun a w ha hw => ⟨ha.sub hM.look, hL.heap hw⟩

/-- Back at a loop's head. -/
theorem Tr.again {ι : Type} {ok : ι → Prop} {μ : ι → Nat} {front : ι → Fr} {F' : ι → Bg} {L' : ι → List Ent} {M0 : Fr} {m : Nat} (j : ι) (hF : F' j = F) (hf : Front M (front j))
    (hM : SubX ((front j).map (·.1)) M M0) (hL : Pick L (L' j)) (hok : ok j) (hlt : μ j < m) : Tr N F L M (fun a w => ∃ j, ok j ∧ μ j < m ∧ FrOK N (front j ++ M0) a ∧ HpOK (F' j) (L' j) w) :=
  fun a w ha hw => ⟨j, hok, hlt, ha.sub (SubX.front _ hf.all hM), by rw [hF]; exact hL.heap hw⟩
theorem Tr.sub {M' : Fr} {X : Act → World → Prop} (hM : Sub M M') (h : Tr N F L M' X) : Tr N F L M X := fun a w ha hw => h a w (ha.sub hM.look) hw
theorem Tr.drop {L' : List Ent} {X : Act → World → Prop} (hL : L'.Sublist L) (h : Tr N F L' M X) : Tr N F L M X := fun a w ha hw => h a w ha (hw.mem hL)
theorem Tr.perm {L' : List Ent} {X : Act → World → Prop} (hL : L'.Perm L) (h : Tr N F L' M X) : Tr N F L M X := fun a w ha hw => h a w ha (hw.perm hL)
end

/-! ### Control -/
section
variable {P : Program} {Q : Exit → Act → World → Prop} {N : Nat} {F : Bg} {L : List Ent} {M : Fr}

theorem Tr.region {id : Nat} {l : List Oper} (h : Tr N F L M (wpList P l.toArray Q l)) : Tr N F L M ((Code.region id l.toArray false).wp P Q) :=
  fun a w ha hw => wp_region_lit (h a w ha hw)
theorem Tr.seq {x y : Code} (h : Tr N F L M (x.wp P (Exit.then (y.wp P Q) Q))) : Tr N F L M ((Code.seq x y).wp P Q) := fun a w ha hw => wp_seq (h a w ha hw)
theorem Tr.skip (h : Tr N F L M (Q .normal)) : Tr N F L M (Code.skip.wp P Q) := fun a w ha hw => wp_skip (h a w ha hw)
theorem Tr.label {l : Nat} (h : Tr N F L M (Q .normal)) : Tr N F L M ((Code.label l).wp P Q) := fun a w ha hw => wp_label (h a w ha hw)
theorem Tr.exit {id : Nat} (h : Tr N F L M (Q (.exit id))) : Tr N F L M ((Code.exit id).wp P Q) := fun a w ha hw => wp_exit (h a w ha hw)
theorem Tr.ret (h : Tr N F L M (Q .ret)) : Tr N F L M (Code.ret.wp P Q) := fun a w ha hw => wp_ret (h a w ha hw)
theorem Tr.block {id : Nat} {c : Code} (h : Tr N F L M (c.wp P (Exit.inBlock id Q))) : Tr N F L M ((Code.block id c).wp P Q) := fun a w ha hw => wp_block (h a w ha hw)
theorem Tr.cond {c : Operand} {x y : Code} {b : Bool} (hc : opv M c = some (.bool b)) (ht : b = true → Tr N F L M (x.wp P Q)) (hf : b = false → Tr N F L M (y.wp P Q)) :
    Tr N F L M ((Code.cond c x y).wp P Q) := fun a w ha hw => wp_cond_split (ha.eval hc) (fun h => ht h a w ha hw) (fun h => hf h a w ha hw)
theorem Tr.condD {c : Operand} {x y : Code} {p : Prop} [Decidable p] (hc : opv M c = some (.bool (decide p))) (ht : p → Tr N F L M (x.wp P Q)) (hf : ¬ p → Tr N F L M (y.wp P Q)) :
    Tr N F L M ((Code.cond c x y).wp P Q) := Tr.cond hc (fun h => ht (of_decide_eq_true h)) (fun h => hf (of_decide_eq_false h))
theorem Tr.condT {c : Operand} {x y : Code} (hc : opv M c = some (.bool true)) (ht : Tr N F L M (x.wp P Q)) : Tr N F L M ((Code.cond c x y).wp P Q) :=
  fun a w ha hw => wp_cond_true (ha.eval hc) (ht a w ha hw)
theorem Tr.condF {c : Operand} {x y : Code} (hc : opv M c = some (.bool false)) (ht : Tr N F L M (y.wp P Q)) : Tr N F L M ((Code.cond c x y).wp P Q) :=
  fun a w ha hw => wp_cond_false (ha.eval hc) (ht a w ha hw)

/-- A loop: states of a type ι, those that are 'ok', each with what is known of it: the temporaries that a round may change stand in front. -/
theorem Tr.loop {c : Code} {ι : Type} (ok : ι → Prop) (F' : ι → Bg) (L' : ι → List Ent) (front : ι → Fr) (μ : ι → Nat) (i0 : ι) (h0 : ok i0) (hf : Front M (front i0)) (hL : Pick L (L' i0)) (hF : F' i0 = F)
    (round : ∀ i, ok i → ∀ m, m = μ i → Tr N (F' i) (L' i) (front i ++ M) (c.wp P (Exit.then (fun a w => ∃ j, ok j ∧ μ j < m ∧ FrOK N (front j ++ M) a ∧ HpOK (F' j) (L' j) w) Q))) :
    Tr N F L M ((Code.loop c).wp P Q) := by
  subst hF
  intro a w ha hw
  intro b k cs
  have key : ∀ n i a w, μ i = n → ok i → FrOK N (front i ++ M) a → HpOK (F' i) (L' i) w →
      ∃ e a' w', Q e a' w' ∧ Arrives P (lone (b.at a (.code c :: .inLoop c :: k)) cs w) b k cs e a' w' := by
    intro n
    induction n using Nat.strongRecOn with
    | _ n ih =>
      intro i a w hn hi ha hw
      obtain ⟨e, a1, w1, hq, harr⟩ := round i hi _ rfl a w ha hw b (.inLoop c :: k) cs
      cases e with
      | normal =>
        obtain ⟨j, hj, hlt, ha1, hw1⟩ := hq
        obtain ⟨e2, a2, w2, hq2, harr2⟩ := ih (μ j) (hn ▸ hlt) j a1 w1 rfl hj ha1 hw1
        exact ⟨e2, a2, w2, hq2, .of_steps (Steps.trans harr (.one step_inLoop)) harr2⟩
      | exit id => exact ⟨_, a1, w1, hq, .pass (x := .inLoop c) rfl (fun _ _ => .inl (by simp)) harr⟩
      | goto l => exact ⟨_, a1, w1, hq, .pass (x := .inLoop c) rfl (fun _ _ => .inl (by simp)) harr⟩
      | ret => exact ⟨_, a1, w1, hq, .pass (x := .inLoop c) rfl (fun _ _ => .inl (by simp)) harr⟩
      | panic ch => exact ⟨_, a1, w1, hq, .pass (x := .inLoop c) rfl (fun _ _ => .inl (by simp)) harr⟩
      | outgrown => exact ⟨_, a1, w1, hq, .pass (x := .inLoop c) rfl (fun _ _ => .inl (by simp)) harr⟩
  obtain ⟨e, a', w', hq, harr⟩ := key _ i0 a w rfl h0 (ha.sub (SubX.front _ hf.all fun _ _ _ h => h)) (hL.heap hw)
  exact ⟨e, a', w', hq, .of_steps (.one step_loop) harr⟩

/-! ### What stands behind -/
theorem Tr.thenN {K : Act → World → Prop} (h : Tr N F L M K) : Tr N F L M (Exit.then K Q .normal) := h
theorem Tr.thenE {K : Act → World → Prop} {id : Nat} (h : Tr N F L M (Q (.exit id))) : Tr N F L M (Exit.then K Q (.exit id)) := h
theorem Tr.thenG {K : Act → World → Prop} {l : Nat} (h : Tr N F L M (Q (.goto l))) : Tr N F L M (Exit.then K Q (.goto l)) := h
theorem Tr.thenR {K : Act → World → Prop} (h : Tr N F L M (Q .ret)) : Tr N F L M (Exit.then K Q .ret) := h
theorem Tr.inN {id : Nat} (h : Tr N F L M (Q .normal)) : Tr N F L M (Exit.inBlock id Q .normal) := h
theorem Tr.inR {id : Nat} (h : Tr N F L M (Q .ret)) : Tr N F L M (Exit.inBlock id Q .ret) := h
theorem Tr.inHit {id : Nat} (h : Tr N F L M (Q .normal)) : Tr N F L M (Exit.inBlock id Q (.exit id)) := fun a w ha hw => by
  show (if id = id then Q .normal a w else Q (.exit id) a w)
  rw [if_pos rfl]; exact h a w ha hw
theorem Tr.inMiss {id id' : Nat} (hne : Nat.beq id' id = false) (h : Tr N F L M (Q (.exit id'))) : Tr N F L M (Exit.inBlock id Q (.exit id')) := fun a w ha hw => by
  show (if id' = id then Q .normal a w else Q (.exit id') a w)
  rw [if_neg (fun e => by subst e; simp at hne)]; exact h a w ha hw
/-- A cut: x ends in one of the states of ι. -/
theorem Tr.seqI {ι : Type} {x y : Code} (ok : ι → Prop) (F' : ι → Bg) (L' : ι → List Ent) (M' : ι → Fr) (hx : Tr N F L M (x.wp P (Exit.then (fun a w => ∃ i, ok i ∧ FrOK N (M' i) a ∧ HpOK (F' i) (L' i) w) Q)))
    (hy : ∀ i, ok i → Tr N (F' i) (L' i) (M' i) (y.wp P Q)) : Tr N F L M ((Code.seq x y).wp P Q) := by
  refine Tr.seq (fun a w ha hw => Code.wp_mono (fun e a w q => ?_) (hx a w ha hw))
  cases e <;> first | exact q | (obtain ⟨i, h1, h2, h3⟩ := q; exact hy i h1 a w h2 h3)
theorem Tr.join {ι : Type} {ok : ι → Prop} {M' : ι → Fr} {F' : ι → Bg} {L' : ι → List Ent} (j : ι) (hok : ok j) (hF : F' j = F) (hM : Sub M (M' j)) (hL : Pick L (L' j)) :
    Tr N F L M (fun a w => ∃ i, ok i ∧ FrOK N (M' i) a ∧ HpOK (F' i) (L' i) w) :=
  fun a w ha hw => ⟨j, hok, ha.sub hM, by rw [hF]; exact hL.heap hw⟩

/-- A cut behind a piece of code: the temporaries that it may change stand in front. -/
theorem Tr.seqJ {ι : Type} {x y : Code} (ok : ι → Prop) (F' : ι → Bg) (L' : ι → List Ent) (front : ι → Fr) (hx : Tr N F L M (x.wp P (Exit.then (fun a w => ∃ i, ok i ∧ FrOK N (front i ++ M) a ∧ HpOK (F' i) (L' i) w) Q)))
    (hy : ∀ i, ok i → Tr N (F' i) (L' i) (front i ++ M) (y.wp P Q)) : Tr N F L M ((Code.seq x y).wp P Q) := Tr.seqI ok F' L' (fun i => front i ++ M) hx hy
theorem Tr.joined {ι : Type} {ok : ι → Prop} {front : ι → Fr} {M0 : Fr} {F' : ι → Bg} {L' : ι → List Ent} (j : ι) (hF : F' j = F) (hf : Front M (front j)) (hM : SubX ((front j).map (·.1)) M M0) (hL : Pick L (L' j)) (hok : ok j) :
    Tr N F L M (fun a w => ∃ i, ok i ∧ FrOK N (front i ++ M0) a ∧ HpOK (F' i) (L' i) w) := Tr.join (M' := fun i => front i ++ M0) j hok hF (SubX.front _ hf.all hM) hL
theorem Front.nil : Front M [] := trivial
theorem Front.cons {d : Nat} {v : Value} {f : Fr} (h : look M d = some v) (k : Front M f) : Front M ((d, v) :: f) := ⟨h, k⟩
theorem lookI {t : Nat} {k : IntKind} {x y : Int} (h : look M t = some (.int k x)) (e : x = y) : look M t = some (.int k y) := e ▸ h
theorem lookB {t : Nat} {x y : Bool} (h : look M t = some (.bool x)) (e : x = y) : look M t = some (.bool y) := e ▸ h
end
end Go.HL
