/- Chapter 11: plain functions of a sweep. -/
import Derived.Test.YtfnedefgepjbpaaSb
import Derived.Test.YtfnedefgepjbpaaIg
set_option linter.unusedSimpArgs false
set_option linter.unusedVariables false
set_option linter.unusedSectionVars false
namespace Go.HL
open Go
/-- The lowest address from a on that is in one of the ranges, by the first that ends behind a. -/
def nxtP : List Rng → UInt32 → Option UInt32
  | [], _ => none
  | r :: t, a => if a < r.hi then some (if a < r.lo then r.lo else a) else nxtP t a
/-- How many bytes an instruction at a may use. -/
def winN (s : SecV) (a to_ : UInt32) : Int := min (min (min ((s.data.drop (a - s.addr).toNat).length : Int) 6) ((to_ - a).toNat : Int)) (4294967295 - (a.toNat : Int))
def winP (l : List SecV) (a to_ : UInt32) : List UInt8 :=
  if findP l a < 0 then [] else ((l.getD (findP l a).toNat default).data.drop (a - (l.getD (findP l a).toNat default).addr).toNat).take (winN (l.getD (findP l a).toNat default) a to_).toNat
def decW (l : List SecV) (to_ a : UInt32) : Ins × Int := decP (winP l a to_) a
def okW (l : List SecV) (to_ a : UInt32) : Bool := decide ((decW l to_ a).2 = 0)
def szW (l : List SecV) (to_ a : UInt32) : UInt32 := if okW l to_ a = true then u32 (decW l to_ a).1.size else 1
/-- The addresses of a sweep from a on; f bounds their number. -/
def posF (l : List SecV) (rs : List Rng) (to_ : UInt32) : Nat → UInt32 → List UInt32
  | 0, _ => []
  | f + 1, a => match nxtP rs a with
    | none => []
    | some b => if b < to_ then b :: posF l rs to_ f (b + szW l to_ b) else []
def posP (l : List SecV) (from_ to_ : UInt32) : List UInt32 := posF l (normalP (l.map spaceP)) to_ 4294967296 from_
def foundP (l : List SecV) (to_ : UInt32) (ps : List UInt32) : List Ins := (ps.filter (okW l to_)).map fun a => (decW l to_ a).1
def badP (l : List SecV) (to_ : UInt32) (ps : List UInt32) : List Rng := (ps.filter fun a => !okW l to_ a).map fun a => ⟨a, a + 1⟩

theorem win_len (l : List SecV) (a to_ : UInt32) : ((winP l a to_).length : Int) ≤ 6 ∧ ((winP l a to_).length : Int) ≤ 4294967295 - a.toNat := by
  have ha := a.toNat_lt
  unfold winP
  split
  · simp; omega
  · rw [List.length_take]
    unfold winN
    omega
theorem body_keeps (k : Ins) (s : Int) (b : List UInt8) (addr : UInt32) : (bodyP k s b addr).size = sizeP s ∧ (bodyP k s b addr).addr = addr := by
  unfold bodyP applyP
  repeat' split
  all_goals exact ⟨rfl, rfl⟩
theorem sizeP_le6 (s : Int) : 1 ≤ sizeP s ∧ sizeP s ≤ 6 := by unfold sizeP; repeat' split <;> omega
theorem dec_size {b : List UInt8} {addr : UInt32} (h : (decP b addr).2 = 0) : 1 ≤ (decP b addr).1.size ∧ (decP b addr).1.size ≤ b.length ∧ (decP b addr).1.addr = addr := by
  unfold decP at h ⊢
  split at h
  · simp at h
  · rename_i h1
    rw [if_neg h1]
    split at h
    · simp at h
    · rename_i h2
      rw [if_neg h2]
      split at h
      · simp at h
      · rename_i h3
        rw [if_neg h3]
        dsimp only at h ⊢
        split at h
        · simp at h
        · rename_i h4
          rw [if_neg h4]
          obtain ⟨q1, q2⟩ := body_keeps (rowP (b.getD 0 default)).1 (opcodeP (rowP (b.getD 0 default)).1).2.1 b addr
          have := sizeP_le6 (opcodeP (rowP (b.getD 0 default)).1).2.1
          refine ⟨?_, ?_, q2⟩
          · rw [q1]; omega
          · rw [q1]; omega
/-- The step ahead: it does not run over. -/
theorem step_pos (l : List SecV) (to_ a : UInt32) (h : a < to_) : (a + szW l to_ a).toNat = a.toNat + (szW l to_ a).toNat ∧ 1 ≤ (szW l to_ a).toNat := by
  have ha := a.toNat_lt
  have ht := to_.toNat_lt
  rw [UInt32.lt_iff_toNat_lt] at h
  have hs : 1 ≤ (szW l to_ a).toNat ∧ (szW l to_ a).toNat + a.toNat ≤ 4294967295 := by
    unfold szW
    split
    · rename_i hk
      have hk' : (decP (winP l a to_) a).2 = 0 := of_decide_eq_true hk
      obtain ⟨h1, h2, _⟩ := dec_size hk'
      have hw := win_len l a to_
      have := u32_val (n := (decW l to_ a).1.size) (by unfold decW; omega)
      unfold decW at this ⊢
      omega
    · simp; omega
  rw [UInt32.toNat_add]
  omega
theorem nxtP_ge : ∀ {rs : List Rng} {a b : UInt32}, nxtP rs a = some b → a.toNat ≤ b.toNat
  | r :: t, a, b, h => by
    unfold nxtP at h
    split at h
    · cases h
      split
      · rename_i h; rw [UInt32.lt_iff_toNat_lt] at h; omega
      · exact Nat.le_refl _
    · exact nxtP_ge h
theorem posF_stop {l : List SecV} {rs : List Rng} {to_ a : UInt32} {f : Nat} (h : nxtP rs a = none) : posF l rs to_ f a = [] := by cases f <;> simp [posF, h]
theorem posF_stop2 {l : List SecV} {rs : List Rng} {to_ a b : UInt32} {f : Nat} (h : nxtP rs a = some b) (hb : ¬ b < to_) : posF l rs to_ f a = [] := by cases f <;> simp [posF, h, hb]
theorem posF_go {l : List SecV} {rs : List Rng} {to_ a b : UInt32} {f : Nat} (h : nxtP rs a = some b) (hb : b < to_) : posF l rs to_ (f + 1) a = b :: posF l rs to_ f (b + szW l to_ b) := by simp [posF, h, hb]
theorem found_len (l : List SecV) (to_ : UInt32) (ps : List UInt32) : (foundP l to_ ps).length ≤ ps.length := by unfold foundP; rw [List.length_map]; exact List.length_filter_le _ _
theorem bad_len (l : List SecV) (to_ : UInt32) (ps : List UInt32) : (badP l to_ ps).length ≤ ps.length := by unfold badP; rw [List.length_map]; exact List.length_filter_le _ _
theorem found_yes {l : List SecV} {to_ x : UInt32} {ps : List UInt32} (h : okW l to_ x = true) : foundP l to_ (ps ++ [x]) = foundP l to_ ps ++ [(decW l to_ x).1] := by simp [foundP, h]
theorem found_no {l : List SecV} {to_ x : UInt32} {ps : List UInt32} (h : okW l to_ x = false) : foundP l to_ (ps ++ [x]) = foundP l to_ ps := by simp [foundP, h]
theorem bad_yes {l : List SecV} {to_ x : UInt32} {ps : List UInt32} (h : okW l to_ x = true) : badP l to_ (ps ++ [x]) = badP l to_ ps := by simp [badP, h]
theorem bad_no {l : List SecV} {to_ x : UInt32} {ps : List UInt32} (h : okW l to_ x = false) : badP l to_ (ps ++ [x]) = badP l to_ ps ++ [⟨x, x + 1⟩] := by simp [badP, h]
end Go.HL
