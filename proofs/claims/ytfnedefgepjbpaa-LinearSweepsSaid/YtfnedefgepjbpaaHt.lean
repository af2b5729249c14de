/- From what the statement reads (DataW.trod) to the words of XHm. -/
import Derived.Test.YtfnedefgepjbpaaMa
import Derived.WalkKit
import Derived.ProofKit
import Derived.OpenShut
import Derived.ShutString
import Derived.ChangeOld
import Derived.Deep.Slices
set_option linter.unusedSimpArgs false
set_option linter.unusedVariables false
namespace Go.HL
open Go Go.Deep Go.ChangeShapes Go.WideShapes
section
variable {H : Type} {enc : TypeId × Value → H} {P : Program} {w : World} {base : Nat} {spare : Nat → Bool} {held : Bool}

theorem sl_of_trod {α : Type} [Inhabited α] {E : Enc α} {R : α → Prop} {t e : TypeId} {fuel : Nat} {V : Value} {x : DataW H × List MemPlace} (ht : P.underlying t = some (.slice e)) (hc : P.cellsOf e = E.k) (hk : 0 < E.k)
    (hf : ∀ n cs y, cs.length = E.k → DataW.trod enc P w base spare held n e cs = some y → ∃ a : α, cs = E.enc a ∧ R a)
    (h : DataW.trod enc P w base spare held fuel t [V] = some x) : ∃ l : List α, Sl (hp w) E l V ∧ ∀ a ∈ l, R a := by
  rcases open_slice ht h with ⟨h0, _⟩ | ⟨a, len, cap, m, n, D, Pl, hv, hb, hl, hm, hmm, _, hx⟩
  · simp only [List.cons.injEq, and_true] at h0
    subst h0
    exact ⟨[], Sl.nil _ _, by simp⟩
  · simp only [List.cons.injEq, and_true] at hv
    subst hv
    have hlm : len ≤ m := by rw [hmm]; split <;> omega
    have each : ∀ i, i < len → ∃ q : α, w.cells? base (a.add (i * E.k)) E.k = some (E.enc q) ∧ R q := fun i hi => by
      obtain ⟨cs', h1, h2⟩ := hx i (by omega)
      rw [hc] at h1
      obtain ⟨q, rfl, hq⟩ := hf n cs' _ (World.cells?_some h1).2.1 h2
      exact ⟨q, h1, hq⟩
    obtain ⟨f, hfn⟩ := choose_lt each
    have hsp : 0 < len → a = ⟨a.block, a.off, none⟩ := fun hl0 => by
      have h1 := (World.cells?_some (hfn 0 hl0).1).2.2 0 hk
      have hlen : 0 < (E.enc (f 0)).length := by rw [E.len]; exact hk
      rw [List.getElem?_eq_getElem hlen] at h1
      have hsp := World.cell?_spot h1
      obtain ⟨b, o, sp⟩ := a
      have : sp = none := by simpa [Addr.add] using hsp
      subst this
      rfl
    refine ⟨(List.range len).map f, ⟨⟨some a, cap, by simp, by simpa using hl, hm, fun hne => ?_⟩, fun i q hq => ?_⟩, fun q hq => ?_⟩
    · have hl0 : 0 < len := by
        rcases Nat.eq_zero_or_pos len with h | h
        · subst h; simp at hne
        · exact h
      rw [hsp hl0]; rfl
    · have hi : i < len := by
        have := (List.getElem?_eq_some_iff.1 hq).1
        simpa using this
      have hq' : f i = q := by simpa [hi] using hq
      subst hq'
      have ha := hsp (by omega)
      obtain ⟨b, o, sp⟩ := a
      obtain rfl : sp = none := by simpa using ha
      have hc' := (World.cells?_some (hfn i hi).1).2.2
      have hlen : (E.enc (f i)).length = E.k := E.len _
      have eA : ∀ j, (((⟨b, o, none⟩ : Addr).add (i * E.k)).add j) = ⟨b, o + i * E.k + j, none⟩ := fun j => by
        rw [Go.Deep.add_add]; simp only [Addr.add]
        by_cases h0 : i * E.k + j = 0
        · rw [if_pos h0]
          have : i * E.k = 0 := by omega
          have : j = 0 := by omega
          simp_all
        · rw [if_neg h0, Nat.add_assoc]
      have h1 := hc' 0 hk
      rw [List.getElem?_eq_getElem (by omega), eA] at h1
      have hb1 : ∃ cs T fz, w.heap[b]? = some (.cells cs T fz) := by
        unfold World.cell? at h1
        split at h1
        · rename_i cs T fz hh; exact ⟨cs, T, fz, hh⟩
        · simp at h1
      obtain ⟨cs, T, fz, hh⟩ := hb1
      refine ⟨cs, T, fz, hh, fun j v hj => ?_⟩
      have hjk : j < E.k := by have := (List.getElem?_eq_some_iff.1 hj).1; omega
      have h2 := hc' j hjk
      rw [hj, eA] at h2
      unfold World.cell? at h2
      simp only [hh] at h2
      simp only [ofs]
      simpa using h2
    · obtain ⟨i, hi, rfl⟩ := List.mem_map.1 hq
      exact (hfn i (List.mem_range.1 hi)).2

theorem u8_of_wf {n : Int} (h : (Lit.int .u8 n).wf = true) : ∃ x : UInt8, n = (x.toNat : Int) := by
  have := bounds_u8 h
  refine ⟨UInt8.ofNat n.toNat, ?_⟩
  rw [UInt8.toNat_ofNat']; omega
theorem u32_of_wf {n : Int} (h : (Lit.int .u32 n).wf = true) : ∃ x : UInt32, n = (x.toNat : Int) := by
  have := bounds_u32 h
  refine ⟨UInt32.ofNat n.toNat, ?_⟩
  rw [UInt32.toNat_ofNat']; omega
theorem flat_u8 {e : TypeId} (he : P.underlying e = some (.int .u8)) {n : Nat} {cs : List Value} {y : DataW H × List MemPlace} (h : DataW.trod enc P w base spare held n e cs = some y) : ∃ a, cs = encU8.enc a ∧ True := by
  obtain ⟨z, rfl, _, hw⟩ := DataW.trod_int he h
  obtain ⟨x, rfl⟩ := u8_of_wf hw
  exact ⟨x, rfl, trivial⟩
theorem flat_rng {e t0 : TypeId} {f0 f1 : Field} (he : P.underlying e = some (.struct #[f0, f1])) (o0 : f0.offset = 0) (o1 : f1.offset = 1) (h0 : f0.type = t0) (h1 : f1.type = t0) (c0 : P.cellsOf t0 = 1) (hu : P.underlying t0 = some (.int .u32))
    {n : Nat} {cs : List Value} {y : DataW H × List MemPlace} (hl : cs.length = 2) (h : DataW.trod enc P w base spare held n e cs = some y) : ∃ a, cs = encRng.enc a ∧ True := by
  subst h0
  obtain ⟨xs, k, hk, hxy, _, hxl, hf⟩ := DataW.trod_struct he h
  match xs, hxl, cs, hl with
  | [y0, y1], _, [v0, v1], _ =>
    have g0 := hf 0 f0 rfl
    have g1 := hf 1 f1 rfl
    simp [o0, o1, c0, h1] at g0 g1
    obtain ⟨z0, e0, _, w0⟩ := DataW.trod_int hu g0
    obtain ⟨z1, e1, _, w1⟩ := DataW.trod_int hu g1
    obtain ⟨x0, rfl⟩ := u32_of_wf w0
    obtain ⟨x1, rfl⟩ := u32_of_wf w1
    simp only [List.cons.injEq, and_true] at e0 e1
    subst e0; subst e1
    exact ⟨⟨x0, x1⟩, rfl, trivial⟩
end
end Go.HL
