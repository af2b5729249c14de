/- Chapter 11: plain functions of the reference. -/
import Derived.Test.YtfnedefgepjbpaaTa
set_option linter.unusedSimpArgs false
set_option linter.unusedVariables false
set_option linter.unusedSectionVars false
namespace Go.HL
open Go
theorem u32_self (a : UInt32) : u32 (a.toNat : Int) = a := by
  have := u32_val (n := (a.toNat : Int)) (by have := a.toNat_lt; omega)
  exact UInt32.toNat_inj.1 (by omega)
def lowR (a : Int) (s : SecV) : Int := if (s.addr.toNat : Int) < a then a else s.addr.toNat
def stepR (a best : Int) (s : SecV) : Int := if lowR a s < endP s ∧ (best < 0 ∨ lowR a s < best) then lowR a s else best
/-- The least address from a on that is in a section, or -1. -/
def nextR (l : List SecV) (a : Int) : Int := l.foldl (stepR a) (-1)
theorem lowR_rng {a : Int} (h : 0 ≤ a ∧ a ≤ 4294967300) (s : SecV) : 0 ≤ lowR a s ∧ lowR a s ≤ 4294967300 := by
  have := s.addr.toNat_lt
  unfold lowR; split <;> omega
theorem stepR_rng {a best : Int} (h : 0 ≤ a ∧ a ≤ 4294967300) (hb : -1 ≤ best ∧ best ≤ 4294967300) (s : SecV) : -1 ≤ stepR a best s ∧ stepR a best s ≤ 4294967300 := by
  have := lowR_rng h s
  unfold stepR; split <;> omega
theorem foldl_take_succ11 {α β : Type} [Inhabited α] {f : β → α → β} {b : β} {k : Nat} {l : List α} (h : k < l.length) : (l.take (k + 1)).foldl f b = f ((l.take k).foldl f b) (l.getD k default) := by
  rw [take_succ h, List.foldl_append]; rfl
/-- What the folding keeps: the least so far. -/
theorem nextR_spec {a : Int} (ha : 0 ≤ a) : ∀ (l : List SecV) (best : Int), (best = -1 ∨ a ≤ best) →
    let r := l.foldl (stepR a) best
    (r = -1 ∨ a ≤ r) ∧ (r = best ∨ ∃ s ∈ l, r = lowR a s ∧ lowR a s < endP s) ∧ (0 ≤ best → 0 ≤ r ∧ r ≤ best) ∧ ∀ s ∈ l, lowR a s < endP s → 0 ≤ r ∧ r ≤ lowR a s
  | [], best, hb => ⟨hb, .inl rfl, fun h => ⟨h, Int.le_refl _⟩, fun s hs => by cases hs⟩
  | s :: l, best, hb => by
    have hl : a ≤ lowR a s := by unfold lowR; split <;> omega
    have hb2 : stepR a best s = -1 ∨ a ≤ stepR a best s := by unfold stepR; split <;> omega
    obtain ⟨q1, q2, q3, q4⟩ := nextR_spec ha l (stepR a best s) hb2
    refine ⟨q1, ?_, fun h => ?_, fun x hx hlt => ?_⟩
    · rcases q2 with q2 | ⟨x, hx, q2⟩
      · have e : (s :: l).foldl (stepR a) best = stepR a best s := q2
        show (s :: l).foldl (stepR a) best = best ∨ _
        rw [e]
        unfold stepR
        split
        · rename_i h; exact .inr ⟨s, .head _, rfl, h.1⟩
        · exact .inl rfl
      · exact .inr ⟨x, .tail _ hx, q2⟩
    · have : 0 ≤ stepR a best s ∧ stepR a best s ≤ best := by unfold stepR; split <;> omega
      have := q3 this.1
      show 0 ≤ l.foldl (stepR a) (stepR a best s) ∧ l.foldl (stepR a) (stepR a best s) ≤ best
      omega
    · rcases List.mem_cons.1 hx with rfl | hx
      · have h2 : 0 ≤ stepR a best x ∧ stepR a best x ≤ lowR a x := by unfold stepR; split <;> omega
        have := q3 h2.1
        show 0 ≤ l.foldl (stepR a) (stepR a best x) ∧ l.foldl (stepR a) (stepR a best x) ≤ lowR a x
        omega
      · exact q4 x hx hlt
/-- The first instruction at an address. -/
def atP (l : List Ins) (a : UInt32) : Ins × Bool := if idxP (fun i : Ins => decide (i.addr = a)) 0 l < 0 then (zeroIns, false) else (l.getD (idxP (fun i : Ins => decide (i.addr = a)) 0 l).toNat default, true)
/-- The addresses of an instruction. -/
def coverR (i : Ins) : Rng := ⟨i.addr, u32 (min (min i.size 4294967296 + i.addr.toNat) 4294967295)⟩
def coverL (l : List Ins) : List Rng := (l.filter fun i => decide (1 ≤ i.size)).map coverR
theorem cover_len (l : List Ins) : (coverL l).length ≤ l.length := by unfold coverL; rw [List.length_map]; exact List.length_filter_le _ _
theorem cover_yes {l : List Ins} {k : Nat} (h : k < l.length) (hs : 1 ≤ (l.getD k default).size) : coverL (l.take (k + 1)) = coverL (l.take k) ++ [coverR (l.getD k default)] := by
  unfold coverL
  rw [take_succ h, List.filter_append, List.map_append, List.filter_cons_of_pos (by exact decide_eq_true hs)]; rfl
theorem cover_no {l : List Ins} {k : Nat} (h : k < l.length) (hs : ¬ 1 ≤ (l.getD k default).size) : coverL (l.take (k + 1)) = coverL (l.take k) := by
  unfold coverL
  rw [take_succ h, List.filter_append, List.filter_cons_of_neg (by simpa using hs)]; simp
theorem cover_hi1 {i : Ins} (h1 : 1 ≤ i.size) (h2 : i.size < 4294967295 - i.addr.toNat) : (coverR i).hi = i.addr + u32 i.size := by
  have ha := i.addr.toNat_lt
  have e1 := u32_val (n := i.size) (by omega)
  have e2 := u32_val (n := i.size + i.addr.toNat) (by omega)
  show u32 _ = _
  rw [show min (min i.size 4294967296 + (i.addr.toNat : Int)) 4294967295 = i.size + i.addr.toNat by omega]
  apply UInt32.toNat_inj.1
  rw [UInt32.toNat_add]
  omega
theorem cover_hi2 {i : Ins} (h1 : 1 ≤ i.size) (h2 : ¬ i.size < 4294967295 - i.addr.toNat) : (coverR i).hi = 4294967295 := by
  show u32 _ = _
  rw [show min (min i.size 4294967296 + (i.addr.toNat : Int)) 4294967295 = 4294967295 by omega]
  rfl
end Go.HL
