/- Plain data and plain functions of chapter 05: sections. -/
import Derived.Test.YtfnedefgepjbpaaHw
import Derived.Test.YtfnedefgepjbpaaMb
set_option linter.unusedSimpArgs false
set_option linter.unusedVariables false
namespace Go.HL
open Go

/-- A section, and where its bytes lie. -/
structure SecV where
  name : ByteArray
  addr : UInt32
  data : List UInt8
  dp : Option Addr
  dc : Nat
  wr : Bool
  ex : Bool
  deriving Inhabited
def SecV.dv (s : SecV) : Value := .slice s.dp s.data.length s.dc
def encSec : Enc SecV := ⟨5, fun s => [.string s.name, .int .u32 s.addr.toNat, .slice s.dp s.data.length s.dc, .bool s.wr, .bool s.ex], fun _ => rfl,
  fun x v h => by simp at h; rcases h with h | h | h | h | h <;> subst h <;> rfl⟩
structure Sec where
  name : ByteArray
  addr : UInt32
  data : List UInt8
  wr : Bool
  ex : Bool
  deriving DecidableEq, Inhabited
def SecV.pl (s : SecV) : Sec := ⟨s.name, s.addr, s.data, s.wr, s.ex⟩
/-- The sections' bytes read. -/
def DataIn (h : Hp) (l : List SecV) : Prop := ∀ s ∈ l, Sl h encU8 s.data (.slice s.dp s.data.length s.dc)
theorem DataIn.mono {h h' : Hp} {l : List SecV} (d : DataIn h l) (hh : Hp.le h h') : DataIn h' l := fun s hs => (d s hs).mono hh
/-- Not too much. -/
def SecB (l : List SecV) : Prop := l.length ≤ 1000 ∧ ∀ s ∈ l, s.data.length ≤ 200000
theorem SecB.at {l : List SecV} (h : SecB l) {k : Nat} (hk : k < l.length) : (l.getD k default).data.length ≤ 200000 := h.2 _ (mem_getD hk)

def lowB (c : UInt8) : Bool := decide (c < 97) || decide (122 < c)
def uppB (c : UInt8) : Bool := decide (c < 65) || decide (90 < c)
def digB (c : UInt8) : Bool := decide (c < 48) || decide (57 < c)
/-- No sign of a name. -/
def badB (c : UInt8) : Bool := (((lowB c && uppB c) && digB c) && decide (c ≠ 95)) && decide (c ≠ 46)
def nameP (s : ByteArray) : Bool := !(bts s).any badB && (decide (1 ≤ (s.size : Int)) && decide ((s.size : Int) ≤ 32))

def endP (s : SecV) : Int := min ((s.addr.toNat : Int) + s.data.length) 4294967295
def spaceP (s : SecV) : Rng := ⟨s.addr, u32 (endP s)⟩
theorem endP_rng (s : SecV) : 0 ≤ endP s ∧ endP s ≤ 4294967295 := by unfold endP; omega
theorem endP_ge (s : SecV) : (s.addr.toNat : Int) ≤ endP s := by have := s.addr.toNat_lt; unfold endP; omega
theorem u32_val {n : Int} (h : 0 ≤ n ∧ n ≤ 4294967295) : ((u32 n).toNat : Int) = n := by
  unfold u32; rw [UInt32.toNat_ofNat']; omega
theorem space_hi (s : SecV) : ((spaceP s).hi.toNat : Int) = endP s := u32_val (endP_rng s)
def inS (a : UInt32) (s : SecV) : Bool := inR a (spaceP s)
theorem inS_iff {a : UInt32} {s : SecV} : inS a s = true ↔ s.addr.toNat ≤ a.toNat ∧ (a.toNat : Int) < endP s := by
  have h := space_hi s
  simp only [inS, inR, Bool.and_eq_true, decide_eq_true_eq, UInt32.le_iff_toNat_le, UInt32.lt_iff_toNat_lt]
  have : (spaceP s).lo = s.addr := rfl
  rw [this]; omega
def findP (l : List SecV) (a : UInt32) : Int := idxP (inS a) 0 l
theorem idxP_bound {α : Type} (p : α → Bool) : ∀ (l : List α) (k : Nat), -1 ≤ idxP p k l ∧ idxP p k l < (k : Int) + l.length
  | [], k => by simp [idxP]; omega
  | x :: l, k => by
    unfold idxP
    split
    · simp; omega
    · have := idxP_bound p l (k + 1); simp; omega
theorem findP_lt {l : List SecV} {a : UInt32} : -1 ≤ findP l a ∧ findP l a < l.length := by
  have := idxP_bound (inS a) l 0; unfold findP; omega
theorem idxP_at {α : Type} [Inhabited α] (p : α → Bool) : ∀ (l : List α) (k : Nat), 0 ≤ idxP p k l → (k : Int) ≤ idxP p k l ∧ p (l.getD (idxP p k l - k).toNat default) = true
  | [], k, h => by simp [idxP] at h
  | x :: l, k, h => by
    unfold idxP at h ⊢
    split
    · rename_i hx; simp [hx]
    · rename_i hx
      rw [if_neg hx] at h
      obtain ⟨h1, h2⟩ := idxP_at p l (k + 1) h
      refine ⟨by omega, ?_⟩
      rw [show (idxP p (k + 1) l - (k : Int)).toNat = (idxP p (k + 1) l - ((k + 1 : Nat) : Int)).toNat + 1 by omega, List.getD_cons_succ]
      exact h2
theorem findP_in {l : List SecV} {a : UInt32} (h : 0 ≤ findP l a) : inS a (l.getD (findP l a).toNat default) = true := by
  have := (idxP_at (inS a) l 0 h).2
  rwa [Int.natCast_zero, Int.sub_zero] at this
/-- The section that findP says, and how far a lies in it. -/
def placeP (l : List SecV) (a : UInt32) (n : Int) : Int × Int × Int :=
  if findP l a < 0 then (0, 0, 11) else if endP (l.getD (findP l a).toNat default) - a.toNat < n then (0, 0, 11) else (findP l a, (a.toNat : Int) - (l.getD (findP l a).toNat default).addr.toNat, 0)
theorem placeP_1 {l : List SecV} {a : UInt32} {n : Int} (h : findP l a < 0) : placeP l a n = (0, 0, 11) := by unfold placeP; rw [if_pos h]
theorem placeP_2 {l : List SecV} {a : UInt32} {n : Int} (h : ¬ findP l a < 0) (h2 : endP (l.getD (findP l a).toNat default) - a.toNat < n) : placeP l a n = (0, 0, 11) := by unfold placeP; rw [if_neg h, if_pos h2]
theorem placeP_3 {l : List SecV} {a : UInt32} {n : Int} (h : ¬ findP l a < 0) (h2 : ¬ endP (l.getD (findP l a).toNat default) - a.toNat < n) : placeP l a n = (findP l a, (a.toNat : Int) - (l.getD (findP l a).toNat default).addr.toNat, 0) := by unfold placeP; rw [if_neg h, if_neg h2]
theorem place_left {l : List SecV} {a : UInt32} (h : ¬ findP l a < 0) : (((spaceP (l.getD (findP l a).toNat default)).hi - a).toNat : Int) = endP (l.getD (findP l a).toNat default) - a.toNat := by
  have h1 := inS_iff.1 (findP_in (l := l) (a := a) (by omega))
  have h2 := space_hi (l.getD (findP l a).toNat default)
  rw [UInt32.toNat_sub_of_le]
  · omega
  · rw [UInt32.le_iff_toNat_le]; omega
theorem place_at {l : List SecV} {a : UInt32} (h : ¬ findP l a < 0) : ((a - (l.getD (findP l a).toNat default).addr).toNat : Int) = (a.toNat : Int) - (l.getD (findP l a).toNat default).addr.toNat := by
  have h1 := inS_iff.1 (findP_in (l := l) (a := a) (by omega))
  rw [UInt32.toNat_sub_of_le]
  · omega
  · rw [UInt32.le_iff_toNat_le]; omega
/-- What place hands back lies in the section. -/
theorem placeP_ok {l : List SecV} {a : UInt32} {n : Int} (h : (placeP l a n).2.2 = 0) : 0 ≤ (placeP l a n).1 ∧ (placeP l a n).1 < l.length ∧ (placeP l a n).1 = findP l a ∧ 0 ≤ (placeP l a n).2.1 ∧ (placeP l a n).2.1 + n ≤ (l.getD (placeP l a n).1.toNat default).data.length := by
  unfold placeP at h ⊢
  split at h
  · cases h
  · rename_i h1
    split at h
    · cases h
    · rename_i h2
      rw [if_neg h1, if_neg h2]
      have h3 := inS_iff.1 (findP_in (l := l) (a := a) (by omega))
      have h4 := findP_lt (l := l) (a := a)
      refine ⟨by omega, by omega, rfl, by dsimp only; omega, ?_⟩
      dsimp only
      unfold endP at h2 h3; omega
def readP (l : List SecV) (a : UInt32) (n : Int) : List UInt8 × Int :=
  if n < 0 then ([], 2) else if n = 0 then ([], 0) else if (placeP l a n).2.2 ≠ 0 then ([], (placeP l a n).2.2)
  else (((l.getD (placeP l a n).1.toNat default).data.take ((placeP l a n).2.1 + n).toNat).drop (placeP l a n).2.1.toNat, 0)
/-- The bytes of a section from n on. -/
def putS (s : Sec) (n : Nat) (b : List UInt8) : Sec := { s with data := s.data.take n ++ b ++ s.data.drop (n + b.length) }
def writeP (l : List SecV) (a : UInt32) (b : List UInt8) : List Sec × Int :=
  if b.length = 0 then (l.map SecV.pl, 0) else if (placeP l a b.length).2.2 ≠ 0 then ([], (placeP l a b.length).2.2)
  else if (l.getD (placeP l a b.length).1.toNat default).wr = false then ([], 12)
  else ((l.map SecV.pl).set (placeP l a b.length).1.toNat (putS (l.getD (placeP l a b.length).1.toNat default).pl (placeP l a b.length).2.1.toNat b), 0)
/-- A list of sections made anew. -/
def SecsAt (h : Hp) (ls : List Sec) (V : Value) : Prop := ∃ l, Sl h encSec l V ∧ DataIn h l ∧ l.map SecV.pl = ls
theorem SecsAt.mono {h h' : Hp} {ls : List Sec} {V : Value} (s : SecsAt h ls V) (hh : Hp.le h h') : SecsAt h' ls V := let ⟨l, a, b, c⟩ := s; ⟨l, a.mono hh, b.mono hh, c⟩
def meetP (a b : Rng) : Bool := decide ((if a.lo < b.lo then b.lo else a.lo) < (if b.hi < a.hi then b.hi else a.hi))
def stackP : Rng := ⟨978944, 983040⟩
/-- The first error of a section after others. -/
def oneP (l : List SecV) (i : Nat) : Int :=
  let s := l.getD i default
  if (s.data.length : Int) > 65536 then 6 else if nameP s.name = false then 3 else if (l.take i).any (fun x => decide (x.name = s.name)) = true then 8
  else if (s.addr.toNat : Int) + s.data.length > 4294967295 ∨ meetP (spaceP s) stackP = true then 7 else 0
def firstP (f : Nat → Int) : Nat → Nat → Int
  | _, 0 => 0
  | i, n + 1 => if f i ≠ 0 then f i else firstP f (i + 1) n
def overP (l : List SecV) (i : Nat) : Bool := (l.take i).any fun x => meetP (spaceP x) (spaceP (l.getD i default))
def checkS (l : List SecV) : Int :=
  if (l.length : Int) > 16 then 6 else if firstP (oneP l) 0 l.length ≠ 0 then firstP (oneP l) 0 l.length
  else firstP (fun i => if overP l i = true then 10 else 0) 0 l.length
def totalP : List SecV → Int → Nat → Int
  | l, t, 0 => t
  | l, t, k + 1 => totalP l t k + (l.getD k default).data.length
theorem any_take_succ {α : Type} [Inhabited α] {p : α → Bool} {l : List α} {k : Nat} (h : k < l.length) : (l.take (k + 1)).any p = ((l.take k).any p || p (l.getD k default)) := by
  rw [take_succ h, List.any_append]; simp
theorem any_take_all {α : Type} {p : α → Bool} {l : List α} {k : Nat} (h : l.length ≤ k) : (l.take k).any p = l.any p := by rw [List.take_of_length_le h]
theorem nameP_bad {s : ByteArray} {k : Nat} (hk : k < s.size) (hb : badB ((bts s).getD k default) = true) : nameP s = false := by
  have h1 : (bts s).any badB = true := List.any_eq_true.2 ⟨_, mem_getD (by rw [bts_len]; exact hk), hb⟩
  unfold nameP; rw [h1]; rfl
theorem nameP_end {s : ByteArray} {k : Nat} (hk : s.size ≤ k) (h : ((bts s).take k).any badB = false) : nameP s = (decide (1 ≤ (s.size : Int)) && decide ((s.size : Int) ≤ 32)) := by
  rw [any_take_all (by rw [bts_len]; exact hk)] at h
  unfold nameP; rw [h]; rfl
theorem firstP_hit {f : Nat → Int} {k n : Nat} (hn : 0 < n) (h : f k ≠ 0) : firstP f k n = f k := by
  obtain ⟨m, rfl⟩ : ∃ m, n = m + 1 := ⟨n - 1, by omega⟩
  unfold firstP; rw [if_pos h]
theorem firstP_next {f : Nat → Int} {k n : Nat} (hk : k < n) (h : f k = 0) : firstP f (k + 1) (n - (k + 1)) = firstP f k (n - k) := by
  obtain ⟨m, hm⟩ : ∃ m, n - k = m + 1 := ⟨n - k - 1, by omega⟩
  rw [hm, show n - (k + 1) = m by omega]
  conv => rhs; unfold firstP
  rw [if_neg (by simp [h])]
theorem check_0 {l : List SecV} (h : (16 : Int) < l.length) : checkS l = 6 := by unfold checkS; rw [if_pos h]
theorem check_1 {l : List SecV} {k : Nat} {v : Int} (hl : ¬ (16 : Int) < l.length) (hk : k < l.length) (hi : firstP (oneP l) k (l.length - k) = firstP (oneP l) 0 l.length) (h : oneP l k = v) (hv : v ≠ 0) : checkS l = v := by
  rw [firstP_hit (by omega) (by rw [h]; exact hv), h] at hi
  unfold checkS; rw [if_neg hl, ← hi, if_pos hv]
theorem check_2 {l : List SecV} {k : Nat} (hl : ¬ (16 : Int) < l.length) (h1 : firstP (oneP l) 0 l.length = 0) (hk : k < l.length) (hi : firstP (fun i => if overP l i = true then 10 else 0) k (l.length - k) = firstP (fun i => if overP l i = true then 10 else 0) 0 l.length) (h : overP l k = true) : checkS l = 10 := by
  rw [firstP_hit (by omega) (by rw [if_pos h]; decide), if_pos h] at hi
  unfold checkS; rw [if_neg hl, if_neg (by simp [h1]), ← hi]
theorem check_3 {l : List SecV} (hl : ¬ (16 : Int) < l.length) (h1 : firstP (oneP l) 0 l.length = 0) (h2 : firstP (fun i => if overP l i = true then 10 else 0) 0 l.length = 0) : checkS l = 0 := by
  unfold checkS; rw [if_neg hl, if_neg (by simp [h1]), h2]
theorem firstP_zero {f : Nat → Int} {k n : Nat} (hk : n ≤ k) : firstP f k (n - k) = 0 := by rw [show n - k = 0 by omega]; rfl
def upP (a : Int) : Int := (a + 16 - 1) / 16 * 16
def freeF (n : Int) : List Rng → Int → Int
  | [], a => a
  | r :: t, a => if (r.hi.toNat : Int) ≤ a ∨ n = 0 then freeF n t a else if a + n ≤ r.lo.toNat then a else freeF n t (upP r.hi.toNat)
theorem freeF_skip {n a : Int} {r : Rng} {t : List Rng} (h : (r.hi.toNat : Int) ≤ a ∨ n = 0) : freeF n (r :: t) a = freeF n t a := by rw [freeF, if_pos h]
theorem freeF_stop {n a : Int} {r : Rng} {t : List Rng} (h : ¬ ((r.hi.toNat : Int) ≤ a ∨ n = 0)) (h2 : a + n ≤ r.lo.toNat) : freeF n (r :: t) a = a := by rw [freeF, if_neg h, if_pos h2]
theorem freeF_go {n a : Int} {r : Rng} {t : List Rng} (h : ¬ ((r.hi.toNat : Int) ≤ a ∨ n = 0)) (h2 : ¬ a + n ≤ r.lo.toNat) : freeF n (r :: t) a = freeF n t (upP r.hi.toNat) := by rw [freeF, if_neg h, if_neg h2]
def takenP (l : List SecV) : List Rng := normalP (normalP (l.map spaceP) ++ [stackP])
def freeP (l : List SecV) (n : Int) (from_ : UInt32) : UInt32 × Int :=
  if n < 0 then (0, 2) else if 4294967295 < n ∨ 4294967295 < freeF n (takenP l) (upP from_.toNat) + n then (0, 7) else (u32 (freeF n (takenP l) (upP from_.toNat)), 0)
theorem freeP_1 {l : List SecV} {n : Int} {f : UInt32} (h : n < 0) : freeP l n f = (0, 2) := by unfold freeP; rw [if_pos h]
theorem freeP_2 {l : List SecV} {n : Int} {f : UInt32} (h : ¬ n < 0) (h2 : 4294967295 < n ∨ 4294967295 < freeF n (takenP l) (upP f.toNat) + n) : freeP l n f = (0, 7) := by unfold freeP; rw [if_neg h, if_pos h2]
theorem freeP_3 {l : List SecV} {n : Int} {f : UInt32} (h : ¬ n < 0) (h2 : ¬ (4294967295 < n ∨ 4294967295 < freeF n (takenP l) (upP f.toNat) + n)) : freeP l n f = (u32 (freeF n (takenP l) (upP f.toNat)), 0) := by unfold freeP; rw [if_neg h, if_neg h2]
theorem upP_bound {a : Int} (h : 0 ≤ a ∧ a ≤ 4294967296) : a ≤ upP a ∧ upP a ≤ a + 15 := by unfold upP; omega
theorem upP_u32 (x : UInt32) : 0 ≤ upP x.toNat ∧ upP x.toNat ≤ 4294967311 := by have := x.toNat_lt; unfold upP; omega
/-! ### lists of sections made anew -/
def dRow (U : TypeId) (s : SecV) : Ent := rowE (.slice s.dp s.data.length s.dc) U encU8 s.data
def secEnts (T U : TypeId) (V : Value) (l : List SecV) : List Ent := rowE V T encSec l :: l.reverse.map (dRow U)
theorem secEnts_mem {T U : TypeId} {V : Value} {l : List SecV} {s : SecV} (h : s ∈ l) : dRow U s ∈ secEnts T U V l := .tail _ (List.mem_map.2 ⟨s, List.mem_reverse.2 h, rfl⟩)
theorem NewEnts.secs {T U : TypeId} {V : Value} {l : List SecV} {w w' : World} (h : NewEnts w w' (secEnts T U V l)) : SecsAt (newHp w w') (l.map SecV.pl) V :=
  ⟨l, (h.row (.head _)).sl, fun s hs => (h.row (T := U) (secEnts_mem hs)).sl, rfl⟩
theorem SecsAt.nil {h : Hp} : SecsAt h [] (.slice none 0 0) := ⟨[], Sl.nil _ _, fun s hs => (by simp at hs), rfl⟩
theorem drow_step {U : TypeId} {xs : List SecV} {k : Nat} {x : SecV} (h : k < xs.length) : ((xs.set k x).take (k + 1)).reverse.map (dRow U) = dRow U x :: (xs.take k).reverse.map (dRow U) := by
  rw [List.take_succ_eq_append_getElem (by simpa using h)]
  simp [List.reverse_append, List.take_set]
  exact List.set_eq_of_length_le (by simp; omega)
theorem map_set_pl {xs : List SecV} {k : Nat} {x : SecV} (h : k < xs.length) (hx : x.pl = (xs.getD k default).pl) : (xs.set k x).map SecV.pl = xs.map SecV.pl := by
  rw [List.map_set, hx]
  apply List.ext_getElem?
  intro j
  rw [List.getElem?_set]
  split
  · rename_i e; subst e
    simp [h, List.getD_eq_getElem?_getD]
  · rfl
theorem map_pl_get {xs ys : List SecV} (h : xs.map SecV.pl = ys.map SecV.pl) (k : Nat) : (xs.getD k default).pl = (ys.getD k default).pl := by
  have := congrArg (·[k]?) h
  simp only [List.getElem?_map] at this
  simp only [List.getD_eq_getElem?_getD]
  cases h1 : xs[k]? <;> cases h2 : ys[k]? <;> simp_all
theorem map_pl_len {xs ys : List SecV} (h : xs.map SecV.pl = ys.map SecV.pl) : xs.length = ys.length := by simpa using congrArg List.length h
theorem pl_data {x y : SecV} (h : x.pl = y.pl) : x.name = y.name ∧ x.addr = y.addr ∧ x.data = y.data ∧ x.wr = y.wr ∧ x.ex = y.ex := by
  simpa [SecV.pl] using h
theorem getD_set_ne' {xs : List SecV} {k j : Nat} {x : SecV} (h : k ≠ j) : (xs.set k x).getD j default = xs.getD j default := by
  simp [List.getD_eq_getElem?_getD, List.getElem?_set_ne h]
theorem cons_eraseIdx_perm {α : Type} [Inhabited α] : ∀ (l : List α) (k : Nat), k < l.length → (l.getD k default :: l.eraseIdx k).Perm l
  | [], k, h => by simp at h
  | x :: l, 0, _ => by simp
  | x :: l, k + 1, h => by
    rw [List.getD_cons_succ, List.eraseIdx_cons_succ]
    exact (List.Perm.swap _ _ _).trans ((cons_eraseIdx_perm l k (by simpa using h)).cons x)
/-- The bytes of one section taken out in front. -/
theorem secEnts_front {T U : TypeId} {V : Value} {l : List SecV} {k : Nat} (h : k < l.length) (L : List Ent) : (dRow U (l.getD k default) :: rowE V T encSec l :: ((l.eraseIdx k).map (dRow U) ++ L)).Perm (secEnts T U V l ++ L) := by
  have h1 : (l.getD k default :: l.eraseIdx k).Perm l := cons_eraseIdx_perm l k h
  have h2 : (dRow U (l.getD k default) :: (l.eraseIdx k).map (dRow U)).Perm (l.reverse.map (dRow U)) := (h1.trans (List.reverse_perm l).symm).map (dRow U)
  refine (List.Perm.swap _ _ _).trans ?_
  unfold secEnts
  refine List.Perm.cons _ ?_
  rw [← List.cons_append]
  exact h2.append_right L
/-- One section's bytes have changed. -/
theorem secs_put {T U : TypeId} {V : Value} {l : List SecV} {k : Nat} {d : List UInt8} {w w' : World} {L : List Ent} (h : k < l.length) (hd : d.length = (l.getD k default).data.length)
    (hn : NewEnts w w' (rowE (.slice (l.getD k default).dp (l.getD k default).data.length (l.getD k default).dc) U encU8 d :: rowE V T encSec l :: ((l.eraseIdx k).map (dRow U) ++ L))) :
    SecsAt (newHp w w') ((l.map SecV.pl).set k { (l.getD k default).pl with data := d }) V := by
  refine ⟨l.set k { l.getD k default with data := d }, ?_, fun s hs => ?_, ?_⟩
  · have h1 := (hn.row (T := T) (E := encSec) (l := l) (V := V) (.tail _ (.head _))).sl
    obtain ⟨⟨a, c, e1, e2, e3, e4⟩, hc⟩ := h1
    refine ⟨⟨a, c, by rw [e1, List.length_set], by rw [List.length_set]; exact e2, e3, fun q => e4 (by intro z; subst z; simp at q)⟩, fun i x hx => ?_⟩
    rw [List.getElem?_set] at hx
    by_cases hk : k = i
    · subst hk
      simp only [h, if_true, Option.some.injEq] at hx
      subst hx
      have h2 := hc k (l.getD k default) (get_getD h)
      have e : encSec.enc { l.getD k default with data := d } = encSec.enc (l.getD k default) := by simp only [encSec, hd]
      rw [e]; exact h2
    · rw [if_neg hk] at hx; exact hc i x hx
  · obtain ⟨j, hj, rfl⟩ := List.mem_iff_getElem.1 hs
    rw [List.length_set] at hj
    rw [List.getElem_set]
    split
    · dsimp only
      rw [hd]
      exact (hn.row (.head _)).sl
    · rename_i hne
      have hm : l[j] ∈ l.eraseIdx k := List.mem_eraseIdx_iff_getElem.2 ⟨j, hj, fun e => hne e.symm, rfl⟩
      exact (hn.row (T := U) (.tail _ (.tail _ (List.mem_append.2 (.inl (List.mem_map.2 ⟨_, hm, rfl⟩)))))).sl
  · rw [List.map_set]; rfl
end Go.HL
