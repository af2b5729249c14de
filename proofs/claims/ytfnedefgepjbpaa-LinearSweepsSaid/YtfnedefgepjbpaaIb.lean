/- Plain functions of chapter 03's reference. -/
import Derived.Test.YtfnedefgepjbpaaIa
set_option linter.unusedSimpArgs false
set_option linter.unusedVariables false
namespace Go.HL
open Go

def isByteP (n : UInt32) : Bool := decide (n ≤ 127) || decide (4294967168 ≤ n)
def isTwoP (op : Int) : Bool := decide (5 ≤ op) && decide (op ≤ 15)
def isAccP (op : Int) : Bool := (decide (op = 16) || decide (op = 17)) || decide (op = 18)
def hasAP (op : Int) : Bool := ((decide (3 ≤ op) && decide (op ≤ 27)) && decide (op ≠ 20)) && decide (op ≠ 23)
def hasBP (i : Ins) : Bool := ((isTwoP i.op && decide (i.form = 0)) || isAccP i.op) || decide (i.op = 19)
def hasImmP (i : Ins) : Bool := (((((isTwoP i.op && decide (i.form ≠ 0)) || isAccP i.op) || decide (i.op = 19)) || decide (i.op = 20)) || decide (i.op = 22)) || decide (i.op = 23)
def hasCcP (op : Int) : Bool := decide (op = 20) || decide (op = 25)
def isCcP (n : Int) : Bool := decide (0 ≤ n) && decide (n ≤ 14)
def formValidP (i : Ins) : Bool :=
  if isTwoP i.op = true then decide (0 ≤ i.form) && decide (i.form ≤ 2) else if i.op = 20 then decide (i.form = 1) || decide (i.form = 2) else decide (i.form = 0)
def widthValidP (i : Ins) : Bool :=
  if i.op = 17 then decide (i.width = 1) || decide (i.width = 2) else if isAccP i.op = true then (decide (i.width = 1) || decide (i.width = 2)) || decide (i.width = 4) else decide (i.width = 0)
def refErrP (i : Ins) : Int :=
  if i.op < 0 ∨ 27 < i.op ∨ formValidP i = false ∨ widthValidP i = false then 2
  else if (hasAP i.op = true ∧ regP i.a = false) ∨ (hasAP i.op = false ∧ i.a ≠ 0) ∨ (hasBP i = true ∧ regP i.b = false) ∨ (hasBP i = false ∧ i.b ≠ 0) then 2
  else if (hasCcP i.op = true ∧ isCcP i.cc = false) ∨ (hasCcP i.op = false ∧ i.cc ≠ 0) ∨ (hasImmP i = false ∧ i.imm ≠ 0) then 2
  else if ((isTwoP i.op = true ∧ i.form = 1) ∨ isAccP i.op = true ∨ i.op = 19) ∧ isByteP i.imm = false then 7
  else if i.op = 20 ∧ i.form = 1 ∧ isByteP (i.imm - i.addr - 2) = false then 7
  else 0
def wordP (n : UInt32) : List UInt8 := [(n % 256).toUInt8, (n / 256 % 256).toUInt8, (n / 65536 % 256).toUInt8, (n / 16777216).toUInt8]
def accCodeP (i : Ins) : Int :=
  if i.op = 17 then 80 + 2 * i.width
  else
    let n : Int := if i.op = 18 then 85 else 80
    if i.width = 1 then n + 1 else if i.width = 2 ∧ i.op = 16 then n + 3 else if i.width = 2 then n + 2 else n
def plainP (i : Ins) : List UInt8 :=
  if i.op = 3 then [8 + u8 i.a] else if i.op = 4 then [16 + u8 i.a] else if i.op = 24 then [129, u8 i.a] else if i.op = 21 then [130, u8 i.a]
  else if i.op = 25 then [u8 (144 + i.cc), u8 i.a] else if i.op = 26 then [160, u8 i.a] else if i.op = 27 then [161, u8 i.a] else [u8 i.op]
def bytesP (i : Ins) : List UInt8 :=
  if isTwoP i.op = true then
    if i.form = 0 then [u8 (32 + (i.op - 5)), u8 (16 * i.a + i.b)]
    else if i.form = 1 then [u8 (48 + (i.op - 5)), u8 i.a, (i.imm % 256).toUInt8]
    else [u8 (64 + (i.op - 5)), u8 i.a] ++ wordP i.imm
  else if isAccP i.op = true then [u8 (accCodeP i), u8 (16 * i.a + i.b), (i.imm % 256).toUInt8]
  else if i.op = 19 then [90, u8 (16 * i.a + i.b), (i.imm % 256).toUInt8]
  else if i.op = 20 then
    if i.form = 1 then [u8 (96 + i.cc), ((i.imm - i.addr - 2) % 256).toUInt8] else [u8 (112 + i.cc)] ++ wordP (i.imm - i.addr - 5)
  else if i.op = 23 then [128] ++ wordP (i.imm - i.addr - 5)
  else if i.op = 22 then [131, u8 i.a] ++ wordP i.imm
  else plainP i
def refEncP (i : Ins) : List UInt8 := if refErrP i = 0 then bytesP i else []
def refLenP (i : Ins) : Int := if refErrP i = 0 then ((bytesP i).length : Int) else 0

def sizedP (c : Int) : Int :=
  if c ≤ 2 ∨ 8 ≤ c ∧ c ≤ 23 then 1
  else if 32 ≤ c ∧ c ≤ 42 ∨ 96 ≤ c ∧ c ≤ 110 ∨ c = 129 ∨ c = 130 ∨ 144 ≤ c ∧ c ≤ 158 ∨ c = 160 ∨ c = 161 then 2
  else if 48 ≤ c ∧ c ≤ 58 ∨ 80 ≤ c ∧ c ≤ 87 ∨ c = 90 then 3
  else if 112 ≤ c ∧ c ≤ 126 ∨ c = 128 then 5
  else if 64 ≤ c ∧ c ≤ 74 ∨ c = 131 then 6
  else 0
theorem sizedP_spec {c : Int} : (c ≤ 2 ∨ 8 ≤ c ∧ c ≤ 23 → sizedP c = 1) ∧ (32 ≤ c ∧ c ≤ 42 ∨ 96 ≤ c ∧ c ≤ 110 ∨ c = 129 ∨ c = 130 ∨ 144 ≤ c ∧ c ≤ 158 ∨ c = 160 ∨ c = 161 → sizedP c = 2) ∧
    (48 ≤ c ∧ c ≤ 58 ∨ 80 ≤ c ∧ c ≤ 87 ∨ c = 90 → sizedP c = 3) ∧ (112 ≤ c ∧ c ≤ 126 ∨ c = 128 → sizedP c = 5) ∧ (64 ≤ c ∧ c ≤ 74 ∨ c = 131 → sizedP c = 6) := by
  unfold sizedP
  refine ⟨fun h => ?_, fun h => ?_, fun h => ?_, fun h => ?_, fun h => ?_⟩ <;> (repeat' split) <;> omega
def refAccP (c : Int) : Int × Int :=
  if c = 80 then (16, 4) else if c = 81 then (16, 1) else if c = 82 then (17, 1) else if c = 83 then (16, 2) else if c = 84 then (17, 2) else if c = 85 then (18, 4) else if c = 86 then (18, 1) else (18, 2)
/-- What an opcode stands for: the instruction without operands, and the shape of these. -/
def kindP (c : Int) : Ins × Int :=
  if 32 ≤ c ∧ c ≤ 42 then (opIns (5 + c - 32) 0 0 0, 3)
  else if 48 ≤ c ∧ c ≤ 58 then (opIns (5 + c - 48) 1 0 0, 4)
  else if 64 ≤ c ∧ c ≤ 74 then (opIns (5 + c - 64) 2 0 0, 6)
  else if c ≤ 2 then (opIns c 0 0 0, 0)
  else if c ≤ 15 then (opIns 3 0 0 (c - 8), 1)
  else if c ≤ 23 then (opIns 4 0 0 (c - 16), 1)
  else if c ≤ 87 then (⟨0, 0, (refAccP c).1, 0, (refAccP c).2, 0, 0, 0, 0⟩, 5)
  else if c = 90 then (opIns 19 0 0 0, 5)
  else if c ≤ 110 then (opIns 20 1 (c - 96) 0, 7)
  else if c ≤ 126 then (opIns 20 2 (c - 112) 0, 8)
  else if c = 128 then (opIns 23 0 0 0, 8)
  else if c = 129 then (opIns 24 0 0 0, 2)
  else if c = 130 then (opIns 21 0 0 0, 2)
  else if c = 131 then (opIns 22 0 0 0, 6)
  else if c ≤ 158 then (opIns 25 0 (c - 144) 0, 2)
  else if c = 160 then (opIns 26 0 0 0, 2)
  else (opIns 27 0 0 0, 2)
def refBodyP (c : Int) (b : List UInt8) (i : Ins) : Ins := applyP (kindP c).2 { (kindP c).1 with addr := i.addr, size := i.size } b (i.addr + u32 i.size)
def refDecP (b : List UInt8) (addr : UInt32) : Ins × Int :=
  if b.length = 0 then (zeroIns, 5)
  else if sizedP (b.getD 0 default).toNat = 0 then (zeroIns, 13)
  else if (b.length : Int) < sizedP (b.getD 0 default).toNat then (zeroIns, 5)
  else
    let i := refBodyP (b.getD 0 default).toNat (b.take (sizedP (b.getD 0 default).toNat).toNat) ⟨addr, 0, 0, 0, 0, 0, 0, 0, sizedP (b.getD 0 default).toNat⟩
    if regP i.a = false ∨ regP i.b = false then (zeroIns, 13) else (i, 0)

/-! ### agreement -/
theorem all_u8 {p : UInt8 → Prop} (h : ∀ n, n < 256 → p (UInt8.ofNat n)) (c : UInt8) : p c := by
  have h1 := h c.toNat c.toNat_lt
  rwa [UInt8.ofNat_toNat] at h1
theorem row_kind (c : UInt8) : (if (rowP c).2 = true then (rowP c).1 = (kindP c.toNat).1 ∧ (opcodeP (rowP c).1).2.1 = (kindP c.toNat).2 ∧ sizeP (opcodeP (rowP c).1).2.1 = sizedP c.toNat ∧ sizedP c.toNat ≠ 0 else sizedP c.toNat = 0) := by
  revert c
  exact all_u8 (by decide +kernel)
theorem getD_take {b : List UInt8} {n k : Nat} (h : k < n) : (b.take n).getD k default = b.getD k default := by
  simp only [List.getD_eq_getElem?_getD, List.getElem?_take, if_pos h]
theorem applyP_take {s : Int} {k : Ins} {b : List UInt8} {n : Nat} {next : UInt32} (h : sizeP s ≤ n) : applyP s k (b.take n) next = applyP s k b next := by
  unfold applyP longP
  by_cases h2 : s = 2
  · subst h2; have : (2 : Int) ≤ n := h
    simp only [if_true]; rw [getD_take (by omega)]
  by_cases h3 : s = 3
  · subst h3; have : (2 : Int) ≤ n := h
    simp only [if_true, if_neg h2]; rw [getD_take (by omega)]
  by_cases h4 : s = 4
  · subst h4; have : (3 : Int) ≤ n := h
    simp only [if_true, if_neg h2, if_neg h3]; rw [getD_take (by omega), getD_take (by omega)]
  by_cases h5 : s = 5
  · subst h5; have : (3 : Int) ≤ n := h
    simp only [if_true, if_neg h2, if_neg h3, if_neg h4]; rw [getD_take (by omega), getD_take (by omega)]
  by_cases h6 : s = 6
  · subst h6; have : (6 : Int) ≤ n := h
    simp only [if_true, if_neg h2, if_neg h3, if_neg h4, if_neg h5]; rw [getD_take (by omega), getD_take (by omega), getD_take (by omega), getD_take (by omega), getD_take (by omega)]
  by_cases h7 : s = 7
  · subst h7; have : (2 : Int) ≤ n := h
    simp only [if_true, if_neg h2, if_neg h3, if_neg h4, if_neg h5, if_neg h6]; rw [getD_take (by omega)]
  by_cases h8 : s = 8
  · subst h8; have : (5 : Int) ≤ n := h
    simp only [if_true, if_neg h2, if_neg h3, if_neg h4, if_neg h5, if_neg h6, if_neg h7]; rw [getD_take (by omega), getD_take (by omega), getD_take (by omega), getD_take (by omega)]
  simp only [if_neg h2, if_neg h3, if_neg h4, if_neg h5, if_neg h6, if_neg h7, if_neg h8]
theorem dec_ref (b : List UInt8) (addr : UInt32) : refDecP b addr = decP b addr := by
  unfold refDecP decP
  split
  · rfl
  have h := row_kind (b.getD 0 default)
  generalize b.getD 0 default = c at *
  cases hr : (rowP c).2
  · simp only [hr, Bool.false_eq_true, if_false] at h
    rw [if_pos h, if_pos rfl]
  · simp only [hr, if_true] at h
    obtain ⟨h1, h2, h3, h4⟩ := h
    rw [if_neg h4, if_neg (show ¬ (true = false) by simp), h3]
    split
    · rfl
    · have e : refBodyP c.toNat (b.take (sizedP c.toNat).toNat) ⟨addr, 0, 0, 0, 0, 0, 0, 0, sizedP c.toNat⟩ = bodyP (rowP c).1 (opcodeP (rowP c).1).2.1 b addr := by
        simp only [refBodyP, bodyP]
        rw [applyP_take (by rw [← h2, h3]; omega)]
        simp only [h3]
        rw [h2, h1]
      rw [e]
end Go.HL
