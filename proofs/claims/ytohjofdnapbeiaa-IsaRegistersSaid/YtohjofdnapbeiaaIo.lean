/- Plain laws of chapter 03: what is read and written. -/
import Derived.Test.YtohjofdnapbeiaaIj
import Derived.Test.YtohjofdnapbeiaaIk
import Derived.KernelRfl
set_option linter.unusedSimpArgs false
set_option linter.unusedVariables false
namespace Go.HL
open Go

theorem opcode_err0 {i : Ins} (h : errP i = 0) : ∃ c s, opcodeP i = (c, s, true) ∧ okOp i s ∧ keptP i s = i ∧ (0 ≤ i.a ∧ i.a < 8) ∧ (0 ≤ i.b ∧ i.b < 8) := by
  rcases opcode_ok i with ⟨c, s, h1, h2⟩ | ⟨⟨c, s, h1⟩, _⟩
  · refine ⟨c, s, h1, h2, ?_⟩
    have hr := errP_regs h
    rw [h1] at hr
    exact ⟨hr.2.2.2, hr.2.1, hr.2.2.1⟩
  · rw [err_bad h1] at h; cases h
/-- The list that reads one register, two registers, the flags. -/
theorem pick_congr {p q : Int → Bool} (h : ∀ v : Int, 0 ≤ v → v < 12 → p v = q v) : pickN p 12 = pickN q 12 := by
  unfold pickN
  refine List.filter_congr fun v hv => ?_
  obtain ⟨n, hn, rfl⟩ := List.mem_map.1 hv
  have := List.mem_range.1 hn
  exact h n (by omega) (by omega)
theorem int8 {a : Int} (h : 0 ≤ a ∧ a < 8) : ∃ n : Fin 8, a = (n.val : Int) := ⟨⟨a.toNat, by omega⟩, by simp; omega⟩
theorem pick_1 {a : Int} (h : 0 ≤ a ∧ a < 8) : pickN (fun v => decide (v = a)) 12 = [a] := by
  obtain ⟨n, rfl⟩ := int8 h
  revert n; decide +kernel
theorem pick_2 {a b : Int} (h : 0 ≤ a ∧ a < 8) (h2 : 0 ≤ b ∧ b < 8) : pickN (fun v => decide (v = a) || decide (v = b)) 12 = if a < b then [a, b] else if a = b then [a] else [b, a] := by
  obtain ⟨n, rfl⟩ := int8 h
  obtain ⟨m, rfl⟩ := int8 h2
  revert n m; decide +kernel
theorem pick_0 : pickN (fun _ => false) 12 = [] := by decide +kernel
theorem pick_f : pickN (fun v => decide (8 ≤ v)) 12 = [8, 9, 10, 11] := by decide +kernel
theorem pick_af {a : Int} (h : 0 ≤ a ∧ a < 8) : pickN (fun v => decide (v = a) || decide (8 ≤ v)) 12 = [a, 8, 9, 10, 11] := by
  obtain ⟨n, rfl⟩ := int8 h
  revert n; decide +kernel
theorem pick_cc {cc : Int} (h : 0 ≤ cc ∧ cc ≤ 14) : pickN (fun v => decide (8 ≤ v) && flagReadP cc v) 12 = condFlagsP cc := by
  obtain ⟨n, rfl⟩ : ∃ n : Fin 15, cc = (n.val : Int) := ⟨⟨cc.toNat, by omega⟩, by simp; omega⟩
  revert n; decide +kernel
theorem bool_eq {a b : Bool} (h : a = true ↔ b = true) : a = b := by cases a <;> cases b <;> simp_all
theorem usesStack_iff {op : Int} : usesStackP op = true ↔ op = 2 ∨ op = 3 ∨ op = 4 ∨ op = 23 ∨ op = 24 := by simp [usesStackP, or_assoc]
theorem readsA_iff {op : Int} : readsAP op = true ↔ op = 3 ∨ (6 ≤ op ∧ op ≤ 15) ∨ op = 18 ∨ op = 21 ∨ op = 22 ∨ op = 27 ∨ op = 24 := by simp [readsAP, or_assoc]
theorem writesA_iff {op : Int} : writesAP op = true ↔ op = 4 ∨ (5 ≤ op ∧ op ≤ 14) ∨ op = 16 ∨ op = 17 ∨ op = 19 ∨ op = 25 ∨ op = 26 := by simp [writesAP, or_assoc]
theorem readB_iff {i : Ins} {v : Int} : readB i v = true ↔ (v = 7 ∧ (i.op = 2 ∨ i.op = 3 ∨ i.op = 4 ∨ i.op = 23 ∨ i.op = 24)) ∨ (v < 8 ∧ ((i.op = 3 ∨ (6 ≤ i.op ∧ i.op ≤ 15) ∨ i.op = 18 ∨ i.op = 21 ∨ i.op = 22 ∨ i.op = 27 ∨ i.op = 24) ∧ v = i.a ∨
    ((5 ≤ i.op ∧ i.op ≤ 15) ∧ i.form = 0 ∨ (i.op = 16 ∨ i.op = 17 ∨ i.op = 18) ∨ i.op = 19) ∧ v = i.b)) ∨ ((8 ≤ v ∧ (i.op = 20 ∨ i.op = 25)) ∧ flagReadP i.cc v = true) := by
  simp only [readB, Bool.or_eq_true, Bool.and_eq_true, decide_eq_true_eq, usesStack_iff, readsA_iff, hasBP_iff, hasCcP_iff, or_assoc]
theorem writeB_iff {i : Ins} {v : Int} : writeB i v = true ↔ (v = 7 ∧ (i.op = 2 ∨ i.op = 3 ∨ i.op = 4 ∨ i.op = 23 ∨ i.op = 24)) ∨ ((v < 8 ∧ (i.op = 4 ∨ (5 ≤ i.op ∧ i.op ≤ 14) ∨ i.op = 16 ∨ i.op = 17 ∨ i.op = 19 ∨ i.op = 25 ∨ i.op = 26)) ∧ v = i.a) ∨ ((8 ≤ v ∧ 6 ≤ i.op) ∧ i.op ≤ 15) := by
  simp only [writeB, Bool.or_eq_true, Bool.and_eq_true, decide_eq_true_eq, usesStack_iff, writesA_iff, or_assoc]
theorem reads_ref (i : Ins) : refReadsP i = readsP i := by
  unfold refReadsP
  rw [err_ref]
  by_cases h : errP i = 0
  case neg => rw [if_neg h]; unfold readsP; rw [if_pos h]
  rw [if_pos h]
  obtain ⟨c, s, h1, h2, hk, ha, hb⟩ := opcode_err0 h
  have hcc := errP_cc h
  have go : ∀ q : Int → Bool, (∀ v : Int, 0 ≤ v → v < 12 → (readB i v = true ↔ q v = true)) → pickN (readB i) 12 = pickN q 12 := fun q hq => pick_congr fun v h0 h12 => bool_eq (hq v h0 h12)
  unfold readsP
  rw [if_neg (by rw [h]; simp)]
  by_cases c1 : i.op = 2 ∨ i.op = 4 ∨ i.op = 23
  · rw [if_pos c1, go (fun v => decide (v = 7)) (fun v h0 h12 => by rw [readB_iff]; simp only [decide_eq_true_eq]; omega), pick_1 (by omega)]
  rw [if_neg c1]
  by_cases c2 : i.op = 3 ∨ i.op = 24
  · rw [if_pos c2, go (fun v => decide (v = i.a) || decide (v = 7)) (fun v h0 h12 => by rw [readB_iff]; simp only [Bool.or_eq_true, decide_eq_true_eq]; omega), pick_2 ha (by omega), sorted_2]
  rw [if_neg c2]
  by_cases c3 : i.op = 16 ∨ i.op = 17 ∨ i.op = 19
  · rw [if_pos c3, go (fun v => decide (v = i.b)) (fun v h0 h12 => by rw [readB_iff]; simp only [decide_eq_true_eq]; omega), pick_1 hb]
  rw [if_neg c3]
  by_cases c4 : i.op = 18
  · rw [if_pos c4, go (fun v => decide (v = i.a) || decide (v = i.b)) (fun v h0 h12 => by rw [readB_iff]; simp only [Bool.or_eq_true, decide_eq_true_eq]; omega), pick_2 ha hb, sorted_2]
  rw [if_neg c4]
  by_cases c5 : i.op = 20 ∨ i.op = 25
  · rw [if_pos c5, go (fun v => decide (8 ≤ v) && flagReadP i.cc v) (fun v h0 h12 => by
      rw [readB_iff]; simp only [Bool.and_eq_true, decide_eq_true_eq]
      constructor
      · rintro (k | k | ⟨k, k2⟩)
        · omega
        · omega
        · exact ⟨k.1, k2⟩
      · exact fun k => .inr (.inr ⟨⟨k.1, c5⟩, k.2⟩)), pick_cc (hcc c5)]
  rw [if_neg c5]
  by_cases c6 : i.op = 21 ∨ i.op = 22 ∨ i.op = 27
  · rw [if_pos c6, go (fun v => decide (v = i.a)) (fun v h0 h12 => by rw [readB_iff]; simp only [decide_eq_true_eq]; omega), pick_1 ha]
  rw [if_neg c6]
  by_cases c7 : i.op < 5 ∨ 15 < i.op
  · rw [if_pos c7, go (fun v => false) (fun v h0 h12 => by
      rw [readB_iff]; simp only [Bool.false_eq_true, iff_false]
      rintro (k | k | ⟨k, k2⟩) <;> cases h2 <;> omega), pick_0]
  rw [if_neg c7]
  have h5 : 5 ≤ i.op ∧ i.op ≤ 15 := by omega
  by_cases d1 : i.op = 5 <;> by_cases d2 : i.form = 0
  · rw [if_neg (by omega), if_pos d2, List.nil_append, sorted_1, go (fun v => decide (v = i.b)) (fun v h0 h12 => by rw [readB_iff]; simp only [decide_eq_true_eq]; omega), pick_1 hb]
  · rw [if_neg (by omega), if_neg d2, List.nil_append, sorted_0, go (fun v => false) (fun v h0 h12 => by rw [readB_iff]; simp only [Bool.false_eq_true, iff_false]; omega), pick_0]
  · rw [if_pos (by omega), if_pos d2, List.cons_append, List.nil_append, sorted_2, go (fun v => decide (v = i.a) || decide (v = i.b)) (fun v h0 h12 => by rw [readB_iff]; simp only [Bool.or_eq_true, decide_eq_true_eq]; omega), pick_2 ha hb]
  · rw [if_pos (by omega), if_neg d2, List.append_nil, sorted_1, go (fun v => decide (v = i.a)) (fun v h0 h12 => by rw [readB_iff]; simp only [decide_eq_true_eq]; omega), pick_1 ha]
theorem writes_ref (i : Ins) : refWritesP i = writesP i := by
  unfold refWritesP
  rw [err_ref]
  by_cases h : errP i = 0
  case neg => rw [if_neg h]; unfold writesP; rw [if_pos h]
  rw [if_pos h]
  obtain ⟨c, s, h1, h2, hk, ha, hb⟩ := opcode_err0 h
  have go : ∀ q : Int → Bool, (∀ v : Int, 0 ≤ v → v < 12 → (writeB i v = true ↔ q v = true)) → pickN (writeB i) 12 = pickN q 12 := fun q hq => pick_congr fun v h0 h12 => bool_eq (hq v h0 h12)
  unfold writesP
  rw [if_neg (by rw [h]; simp)]
  by_cases c1 : i.op = 2 ∨ i.op = 3 ∨ i.op = 23 ∨ i.op = 24
  · rw [if_pos c1, go (fun v => decide (v = 7)) (fun v h0 h12 => by rw [writeB_iff]; simp only [decide_eq_true_eq]; omega), pick_1 (by omega)]
  rw [if_neg c1]
  by_cases c2 : i.op = 4
  · rw [if_pos c2, go (fun v => decide (v = i.a) || decide (v = 7)) (fun v h0 h12 => by rw [writeB_iff]; simp only [Bool.or_eq_true, decide_eq_true_eq]; omega), pick_2 ha (by omega), sorted_2]
  rw [if_neg c2]
  by_cases c3 : i.op = 5 ∨ i.op = 16 ∨ i.op = 17 ∨ i.op = 19 ∨ i.op = 25 ∨ i.op = 26
  · rw [if_pos c3, go (fun v => decide (v = i.a)) (fun v h0 h12 => by rw [writeB_iff]; simp only [decide_eq_true_eq]; omega), pick_1 ha]
  rw [if_neg c3]
  by_cases c4 : i.op = 15
  · rw [if_pos c4, go (fun v => decide (8 ≤ v)) (fun v h0 h12 => by rw [writeB_iff]; simp only [decide_eq_true_eq]; omega), pick_f]
  rw [if_neg c4]
  by_cases c5 : 6 ≤ i.op ∧ i.op ≤ 14
  · rw [if_pos c5, go (fun v => decide (v = i.a) || decide (8 ≤ v)) (fun v h0 h12 => by rw [writeB_iff]; simp only [Bool.or_eq_true, decide_eq_true_eq]; omega), pick_af ha]
  rw [if_neg c5, go (fun v => false) (fun v h0 h12 => by rw [writeB_iff]; simp only [Bool.false_eq_true, iff_false]; omega), pick_0]
end Go.HL
