/- Plain functions of chapter 03: instructions, their encodings. -/
import Derived.Test.YtfnedefgepjbpaaMw
set_option linter.unusedSimpArgs false
set_option linter.unusedVariables false
namespace Go.HL
open Go

structure Ins where
  addr : UInt32
  imm : UInt32
  op : Int
  form : Int
  width : Int
  cc : Int
  a : Int
  b : Int
  size : Int
  deriving DecidableEq, Inhabited
def encIns : Enc Ins := ⟨9, fun i => [.int .u32 i.addr.toNat, .int .u32 i.imm.toNat, .int .i64 i.op, .int .i64 i.form, .int .i64 i.width, .int .i64 i.cc, .int .i64 i.a, .int .i64 i.b, .int .i64 i.size], fun _ => rfl,
  fun x v h => by simp at h; rcases h with h | h | h | h | h | h | h | h | h <;> subst h <;> rfl⟩
def I64 (x : Int) : Prop := -9223372036854775808 ≤ x ∧ x ≤ 9223372036854775807
structure InsOK (i : Ins) : Prop where
  op : I64 i.op
  form : I64 i.form
  width : I64 i.width
  cc : I64 i.cc
  a : I64 i.a
  b : I64 i.b
  size : I64 i.size

/-! ### opcodes -/
def accessP (i : Ins) : UInt8 :=
  if i.op = 16 ∧ i.width = 4 then 80 else if i.op = 16 ∧ i.width = 1 then 81 else if i.op = 17 ∧ i.width = 1 then 82 else if i.op = 16 ∧ i.width = 2 then 83
  else if i.op = 17 ∧ i.width = 2 then 84 else if i.op = 18 ∧ i.width = 4 then 85 else if i.op = 18 ∧ i.width = 1 then 86 else if i.op = 18 ∧ i.width = 2 then 87 else 0
def condP (i : Ins) : UInt8 × Int × Bool :=
  if i.cc < 0 ∨ 14 < i.cc then (0, 0, false) else if i.op = 25 then (144 + u8 i.cc, 2, true) else if i.form = 1 then (96 + u8 i.cc, 7, true) else if i.form = 2 then (112 + u8 i.cc, 8, true) else (0, 0, false)
def opcodeP (i : Ins) : UInt8 × Int × Bool :=
  if i.op = 0 ∨ i.op = 1 ∨ i.op = 2 then (u8 i.op, 0, true)
  else if i.op = 3 then (8 + u8 (i.a % 8), 1, true)
  else if i.op = 4 then (16 + u8 (i.a % 8), 1, true)
  else if 5 ≤ i.op ∧ i.op ≤ 15 then
    if i.form = 0 then (32 + u8 (i.op - 5), 3, true) else if i.form = 1 then (48 + u8 (i.op - 5), 4, true) else if i.form = 2 then (64 + u8 (i.op - 5), 6, true) else (0, 0, false)
  else if i.op = 16 ∨ i.op = 17 ∨ i.op = 18 then (accessP i, 5, decide (accessP i ≠ 0))
  else if i.op = 19 then (90, 5, true)
  else if i.op = 20 ∨ i.op = 25 then condP i
  else if i.op = 23 then (128, 8, true)
  else if i.op = 24 then (129, 2, true)
  else if i.op = 21 then (130, 2, true)
  else if i.op = 22 then (131, 6, true)
  else if i.op = 26 then (160, 2, true)
  else if i.op = 27 then (161, 2, true)
  else (0, 0, false)

def keptP (i : Ins) (s : Int) : Ins :=
  ⟨i.addr, if s = 4 ∨ s = 5 ∨ s = 6 ∨ s = 7 ∨ s = 8 then i.imm else 0, i.op,
   if 5 ≤ i.op ∧ i.op ≤ 15 ∨ i.op = 20 then i.form else 0, if i.op = 16 ∨ i.op = 17 ∨ i.op = 18 then i.width else 0, if i.op = 20 ∨ i.op = 25 then i.cc else 0,
   if s = 1 ∨ s = 2 ∨ s = 3 ∨ s = 4 ∨ s = 5 ∨ s = 6 then i.a else 0, if s = 3 ∨ s = 5 then i.b else 0, i.size⟩
def regP (r : Int) : Bool := decide (0 ≤ r) && decide (r < 8)
theorem regP_iff {r : Int} : regP r = true ↔ 0 ≤ r ∧ r < 8 := by simp [regP]
def narrowP (n : UInt32) : Bool := decide (n ≤ 127) || decide (4294967168 ≤ n)
def errP (i : Ins) : Int :=
  if (opcodeP i).2.2 = false ∨ regP i.a = false ∨ regP i.b = false ∨ keptP i (opcodeP i).2.1 ≠ i then 2
  else if ((opcodeP i).2.1 = 4 ∨ (opcodeP i).2.1 = 5) ∧ narrowP i.imm = false ∨ (opcodeP i).2.1 = 7 ∧ narrowP (i.imm - i.addr - 2) = false then 7
  else 0
def checkP (i : Ins) : UInt8 × Int × Int := if errP i = 0 then ((opcodeP i).1, (opcodeP i).2.1, 0) else (0, 0, errP i)
theorem checkP_err (i : Ins) : (checkP i).2.2 = errP i := by
  unfold checkP
  split
  · rename_i h; rw [h]
  · rfl
theorem checkP_ok {i : Ins} (h : errP i = 0) : checkP i = ((opcodeP i).1, (opcodeP i).2.1, 0) := by unfold checkP; rw [if_pos h]
theorem checkP_no {i : Ins} (h : errP i ≠ 0) : checkP i = (0, 0, errP i) := by unfold checkP; rw [if_neg h]
def sizeP (s : Int) : Int := if s = 0 ∨ s = 1 then 1 else if s = 2 ∨ s = 3 ∨ s = 7 then 2 else if s = 4 ∨ s = 5 then 3 else if s = 6 then 6 else 5
def lengthPI (i : Ins) : Int := if errP i = 0 then sizeP (opcodeP i).2.1 else 0
def nextP (i : Ins) : UInt32 := i.addr + u32 (lengthPI i)
def argsP (s : Int) (i : Ins) (next : UInt32) : List UInt8 :=
  if s = 2 then [u8 i.a] else if s = 3 then [u8 (i.a * 16 + i.b)] else if s = 4 then [u8 i.a, i.imm.toUInt8] else if s = 5 then [u8 (i.a * 16 + i.b), i.imm.toUInt8]
  else if s = 6 then u8 i.a :: putP [] i.imm 4 else if s = 7 then [(i.imm - next).toUInt8] else if s = 8 then putP [] (i.imm - next) 4 else []
def encodeP (i : Ins) : List UInt8 := if errP i = 0 then (opcodeP i).1 :: argsP (opcodeP i).2.1 i (i.addr + u32 (sizeP (opcodeP i).2.1)) else []

/-! ### decoding -/
def rowsP : List Ins := [⟨0, 0, 16, 0, 4, 0, 0, 0, 0⟩, ⟨0, 0, 16, 0, 1, 0, 0, 0, 0⟩, ⟨0, 0, 17, 0, 1, 0, 0, 0, 0⟩, ⟨0, 0, 16, 0, 2, 0, 0, 0, 0⟩, ⟨0, 0, 17, 0, 2, 0, 0, 0, 0⟩,
  ⟨0, 0, 18, 0, 4, 0, 0, 0, 0⟩, ⟨0, 0, 18, 0, 1, 0, 0, 0, 0⟩, ⟨0, 0, 18, 0, 2, 0, 0, 0, 0⟩,
  ⟨0, 0, 19, 0, 0, 0, 0, 0, 0⟩, ⟨0, 0, 23, 0, 0, 0, 0, 0, 0⟩, ⟨0, 0, 24, 0, 0, 0, 0, 0, 0⟩, ⟨0, 0, 21, 0, 0, 0, 0, 0, 0⟩, ⟨0, 0, 22, 0, 0, 0, 0, 0, 0⟩, ⟨0, 0, 26, 0, 0, 0, 0, 0, 0⟩, ⟨0, 0, 27, 0, 0, 0, 0, 0, 0⟩]
def findPI (c : UInt8) : List Ins → Ins × Bool
  | [] => (⟨0, 0, 0, 0, 0, 0, 0, 0, 0⟩, false)
  | i :: l => if (opcodeP i).2.2 = true ∧ (opcodeP i).1 = c then (i, true) else findPI c l
def opIns (op form cc a : Int) : Ins := ⟨0, 0, op, form, 0, cc, a, 0, 0⟩
def rowP (c : UInt8) : Ins × Bool :=
  if c ≤ 2 then (opIns c.toNat 0 0 0, true)
  else if 8 ≤ c ∧ c < 16 then (opIns 3 0 0 ((c % 16).toNat - 8), true)
  else if 16 ≤ c ∧ c < 24 then (opIns 4 0 0 (c % 16).toNat, true)
  else if 2 ≤ ((c / 16).toNat : Int) ∧ ((c / 16).toNat : Int) ≤ 4 ∧ ((c % 16).toNat : Int) ≤ 10 then (opIns (5 + (c % 16).toNat) ((c / 16).toNat - 2) 0 0, true)
  else if ((c / 16).toNat : Int) = 6 ∧ ((c % 16).toNat : Int) ≤ 14 then (opIns 20 1 (c % 16).toNat 0, true)
  else if ((c / 16).toNat : Int) = 7 ∧ ((c % 16).toNat : Int) ≤ 14 then (opIns 20 2 (c % 16).toNat 0, true)
  else if ((c / 16).toNat : Int) = 9 ∧ ((c % 16).toNat : Int) ≤ 14 then (opIns 25 0 (c % 16).toNat 0, true)
  else findPI c rowsP
/-- A byte, sign-extended. -/
def sextP (x : UInt8) : UInt32 := if x < 128 then x.toUInt32 else x.toUInt32 + 4294967040
/-- Four bytes from k on. -/
def longP (b : List UInt8) (k : Nat) : UInt32 := (b.getD k default).toUInt32 + 256 * (b.getD (k + 1) default).toUInt32 + 65536 * (b.getD (k + 2) default).toUInt32 + 16777216 * (b.getD (k + 3) default).toUInt32
/-- The operands of a shape, put into k. -/
def applyP (s : Int) (k : Ins) (b : List UInt8) (next : UInt32) : Ins :=
  if s = 2 then { k with a := (b.getD 1 default).toNat }
  else if s = 3 then { k with a := (b.getD 1 default / 16).toNat, b := (b.getD 1 default % 16).toNat }
  else if s = 4 then { k with a := (b.getD 1 default).toNat, imm := sextP (b.getD 2 default) }
  else if s = 5 then { k with a := (b.getD 1 default / 16).toNat, b := (b.getD 1 default % 16).toNat, imm := sextP (b.getD 2 default) }
  else if s = 6 then { k with a := (b.getD 1 default).toNat, imm := longP b 2 }
  else if s = 7 then { k with imm := next + sextP (b.getD 1 default) }
  else if s = 8 then { k with imm := next + longP b 1 }
  else k
def zeroIns : Ins := ⟨0, 0, 0, 0, 0, 0, 0, 0, 0⟩
/-- What the row of an opcode makes of the bytes. -/
def bodyP (k : Ins) (s : Int) (b : List UInt8) (addr : UInt32) : Ins := applyP s { k with addr := addr, size := sizeP s } b (addr + u32 (sizeP s))
def decP (b : List UInt8) (addr : UInt32) : Ins × Int :=
  if b.length = 0 then (zeroIns, 5)
  else if (rowP (b.getD 0 default)).2 = false then (zeroIns, 13)
  else if (b.length : Int) < sizeP (opcodeP (rowP (b.getD 0 default)).1).2.1 then (zeroIns, 5)
  else
    let i := bodyP (rowP (b.getD 0 default)).1 (opcodeP (rowP (b.getD 0 default)).1).2.1 b addr
    if regP i.a = false ∨ regP i.b = false then (zeroIns, 13) else (i, 0)
/-! ### flow -/
def endsP (i : Ins) : Bool := decide (i.op = 1 ∨ i.op = 2 ∨ i.op = 21 ∨ i.op = 22) || (decide (i.op = 20) && decide (i.cc = 0))
def targetP (i : Ins) : UInt32 × Bool := if i.op = 20 ∨ i.op = 23 then (i.imm, true) else (0, false)
end Go.HL
