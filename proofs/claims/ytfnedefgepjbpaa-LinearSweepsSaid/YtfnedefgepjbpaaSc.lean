/- Plain laws of chapter 05's statements. -/
import Derived.Test.YtfnedefgepjbpaaSb
set_option linter.unusedSimpArgs false
set_option linter.unusedVariables false
namespace Go.HL
open Go Go.Sort

theorem totalP_mono (l : List SecV) (t : Int) (k : Nat) : ∀ n, totalP l t k ≤ totalP l t (k + n)
  | 0 => Int.le_refl _
  | n + 1 => by
    have := totalP_mono l t k n
    show _ ≤ totalP l t (k + n) + _
    omega
theorem totalP_le {l : List SecV} {t : Int} {k m : Nat} (h : k ≤ m) : totalP l t k ≤ totalP l t m := by
  obtain ⟨n, rfl⟩ : ∃ n, m = k + n := ⟨m - k, by omega⟩
  exact totalP_mono l t k n
def largeP (l : List SecV) : Bool := decide (40 < l.length) || decide (200000 < totalP l 0 l.length)
theorem large_1 {l : List SecV} (h : (40 : Int) < l.length) : largeP l = true := by
  unfold largeP; rw [decide_eq_true (by omega)]; rfl
theorem large_2 {l : List SecV} {k : Nat} (hk : k < l.length) (h : 200000 < totalP l 0 (k + 1)) : largeP l = true := by
  have := totalP_le (l := l) (t := 0) (show k + 1 ≤ l.length by omega)
  unfold largeP; rw [decide_eq_true (p := 200000 < totalP l 0 l.length) (by omega), Bool.or_true]
theorem large_3 {l : List SecV} {k : Nat} (h0 : ¬ (40 : Int) < l.length) (hk : k = l.length) (h : totalP l 0 k ≤ 200000) : largeP l = false := by
  subst hk
  unfold largeP; rw [decide_eq_false (by omega), decide_eq_false (by omega)]; rfl
theorem large_sec {l : List SecV} (h : largeP l = false) : SecB l ∧ l.length ≤ 40 := by
  simp only [largeP, Bool.or_eq_false_iff, decide_eq_false_iff_not] at h
  refine ⟨⟨by omega, fun s hs => ?_⟩, by omega⟩
  obtain ⟨j, hj, rfl⟩ := List.mem_iff_getElem.1 hs
  have h1 := totalP_le (l := l) (t := 0) (show j + 1 ≤ l.length by omega)
  have h2 : totalP l 0 (j + 1) = totalP l 0 j + (l.getD j default).data.length := rfl
  have h3 : totalP l 0 0 ≤ totalP l 0 j := totalP_le (Nat.zero_le _)
  have h4 : totalP l 0 0 = 0 := rfl
  have h5 : l.getD j default = l[j] := by simp [List.getD_eq_getElem?_getD, hj]
  rw [h5] at h2
  omega
def exSec (b : Nat) (n : Nat) : SecV := ⟨⟨#[97]⟩, 4096, List.replicate n 0, some ⟨b, 0, none⟩, n, false, false⟩
theorem exB (b n : Nat) (h : n ≤ 20) : SecB [exSec b n] := ⟨by simp, fun s hs => by simp only [List.mem_singleton] at hs; subst hs; simp only [exSec, List.length_replicate]; omega⟩
theorem exRead (b : Nat) : readP [exSec b 4] 4098 3 = ([], 11) := by
  have he : endP (exSec b 4) = 4100 := by
    have hx : (4096 : UInt32).toNat = 4096 := rfl
    unfold endP; simp only [exSec, List.length_replicate, hx]; omega
  have ha : (exSec b 4).addr.toNat = 4096 := rfl
  have hx : (4098 : UInt32).toNat = 4098 := rfl
  have hf : findP [exSec b 4] 4098 = 0 := by
    unfold findP idxP
    rw [if_pos (inS_iff.2 ⟨by rw [ha, hx]; omega, by rw [he, hx]; omega⟩)]; rfl
  have hp := placeP_2 (l := [exSec b 4]) (a := 4098) (n := 3) (by rw [hf]; omega) (by rw [hf]; show endP (exSec b 4) - _ < 3; rw [he, hx]; omega)
  unfold readP; rw [if_neg (by omega), if_neg (by omega), hp]; rfl
theorem exFreeAt (b : Nat) : freeP [exSec b 20] 8 4097 = (4128, 0) := by
  have h4 : upP (4097 : UInt32).toNat = 4112 := rfl
  have hs : endP (exSec b 20) = 4116 := by
    have hx : (4096 : UInt32).toNat = 4096 := rfl
    unfold endP; simp only [exSec, List.length_replicate, hx]; omega
  have ha : (exSec b 20).addr.toNat = 4096 := rfl
  have hf : freeF 8 (takenP [exSec b 20]) (upP (4097 : UInt32).toNat) = 4128 := by
    refine free_is (by omega) (by rw [h4]; omega) (by decide) (fun x h1 h2 hx => ?_) (fun m h1 h2 h3 hf => ?_)
    · rcases hx with hx | hx
      · obtain ⟨s, hs', k1, k2⟩ := has_space.1 hx
        simp only [List.mem_singleton] at hs'; subst hs'
        rw [hs] at k2; omega
      · omega
    · rw [h4] at h2
      refine hf m.toNat (by omega) (by omega) (.inl (has_space.2 ⟨_, .head _, by rw [ha]; omega, by rw [hs]; omega⟩))
  rw [freeP_3 (by omega) (by rw [hf]; omega), hf]; rfl
end Go.HL
