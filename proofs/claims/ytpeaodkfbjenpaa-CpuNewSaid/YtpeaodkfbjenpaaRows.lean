/-
  No cell of these rows narrows 'for every input' (looked for: loops, veiled, ifaces, maps, wideKeys, modest, calm, conditions, laid).
  DERIVED. THE GIVEN ROWS OF THIS SEAT. 6 by the template 'for every input the law returns true; each argument reads behind the call as it read before'; 0 by the template 'total and deterministic' (their statements: YtpeaodkfbjenpaaTotals.lean).
  GIVEN WITH THE SEED: the statements are not yours to turn. If you find one false, say at which input.
  Laid BY PROGRAM, IN A SANDBOX (cutbox-rows.mjs): the forced cells as the released guide's own fill.sh prints them over the translation ff30dd802dc250d7… (all of the seat's roots in one cut). By AI agents, Wed Nov 11 2026. No macro, syntax, notation, axiom, sorry.
-/
import Derived.Test.YtpeaodkfbjenpaaChecked
import GoSem.Claim
import GoSem.ClaimJoined
import GoSem.ClaimMapViews
import Derived.JoinedTies
import Derived.KernelRfl
namespace Go.Proofs.Ytpeaodkfbjenpaa
/- THE CELL 'sum', in the pinned program and in every row, IS THE sha256 OF THE DUMP (.gsa) THAT YtpeaodkfbjenpaaProg.lean LOADS. Nothing in Lean hashes anything: it is a label: what it is worth is what the hold of that sum in a sandbox is worth. -/
noncomputable def Try.pinned : Pinned := { name := "ytpeaodkfbjenpaa", sum := "ff30dd802dc250d7f07cf75047b9acdfb0d6767826eba57d65cb6c14aed56783", checked := Try.checked }
namespace Rows
def none {H : Type} : Left H := { results := [], args := [] }

/-- 'decompilerlaw10.CpuNew': WHATEVER THE INPUT: true; the input reads as it did. -/
def cpuNewSpec : ChangeSpec := { name := "cpuNew", fn := fun _ => fun
  | [d1, d2] => { results := [.lit (.bool true)], args := [d1, d2] }
  | _ => none }
def cpuNewRow : OpenClaim := { program := "ytpeaodkfbjenpaa", sum := "ff30dd802dc250d7f07cf75047b9acdfb0d6767826eba57d65cb6c14aed56783", func := "decompiler/decompilerlaw10.CpuNew", spec := "cpuNew", inPlace := ["maps.clone"], unfollowed := true, recurses := true, apart := false }
def CpuNewSaid : Prop := cpuNewRow.holds Try.pinned (OpenSpec.ofChange cpuNewSpec)

/-- ITS FALSE NEIGHBOUR: 'it returns false'. Refute it at one input. -/
def cpuNewWrong : ChangeSpec := { name := "cpuNew", fn := fun _ => fun
  | [d1, d2] => { results := [.lit (.bool false)], args := [d1, d2] }
  | _ => none }
def CpuNewWrongFalsely : Prop := cpuNewRow.holds Try.pinned (OpenSpec.ofChange cpuNewWrong)

/-- 'decompilerlaw10.CpuArithmetic': WHATEVER THE INPUT: true; the input reads as it did. -/
def cpuArithmeticSpec : ChangeSpec := { name := "cpuArithmetic", fn := fun _ => fun
  | [d1, d2, d3] => { results := [.lit (.bool true)], args := [d1, d2, d3] }
  | _ => none }
def cpuArithmeticRow : OpenClaim := { program := "ytpeaodkfbjenpaa", sum := "ff30dd802dc250d7f07cf75047b9acdfb0d6767826eba57d65cb6c14aed56783", func := "decompiler/decompilerlaw10.CpuArithmetic", spec := "cpuArithmetic", inPlace := ["maps.clone"], unfollowed := true, recurses := true, apart := false }
def CpuArithmeticSaid : Prop := cpuArithmeticRow.holds Try.pinned (OpenSpec.ofChange cpuArithmeticSpec)

/-- ITS FALSE NEIGHBOUR: 'it returns false'. Refute it at one input. -/
def cpuArithmeticWrong : ChangeSpec := { name := "cpuArithmetic", fn := fun _ => fun
  | [d1, d2, d3] => { results := [.lit (.bool false)], args := [d1, d2, d3] }
  | _ => none }
def CpuArithmeticWrongFalsely : Prop := cpuArithmeticRow.holds Try.pinned (OpenSpec.ofChange cpuArithmeticWrong)

/-- 'decompilerlaw10.CpuStack': WHATEVER THE INPUT: true; the input reads as it did. -/
def cpuStackSpec : ChangeSpec := { name := "cpuStack", fn := fun _ => fun
  | [d1, d2, d3] => { results := [.lit (.bool true)], args := [d1, d2, d3] }
  | _ => none }
def cpuStackRow : OpenClaim := { program := "ytpeaodkfbjenpaa", sum := "ff30dd802dc250d7f07cf75047b9acdfb0d6767826eba57d65cb6c14aed56783", func := "decompiler/decompilerlaw10.CpuStack", spec := "cpuStack", inPlace := ["maps.clone"], unfollowed := true, recurses := true, apart := false }
def CpuStackSaid : Prop := cpuStackRow.holds Try.pinned (OpenSpec.ofChange cpuStackSpec)

/-- ITS FALSE NEIGHBOUR: 'it returns false'. Refute it at one input. -/
def cpuStackWrong : ChangeSpec := { name := "cpuStack", fn := fun _ => fun
  | [d1, d2, d3] => { results := [.lit (.bool false)], args := [d1, d2, d3] }
  | _ => none }
def CpuStackWrongFalsely : Prop := cpuStackRow.holds Try.pinned (OpenSpec.ofChange cpuStackWrong)

/-- 'decompilerlaw10.CpuBudget': WHATEVER THE INPUT: true; the input reads as it did. -/
def cpuBudgetSpec : ChangeSpec := { name := "cpuBudget", fn := fun _ => fun
  | [d] => { results := [.lit (.bool true)], args := [d] }
  | _ => none }
def cpuBudgetRow : OpenClaim := { program := "ytpeaodkfbjenpaa", sum := "ff30dd802dc250d7f07cf75047b9acdfb0d6767826eba57d65cb6c14aed56783", func := "decompiler/decompilerlaw10.CpuBudget", spec := "cpuBudget", inPlace := ["maps.clone"], unfollowed := true, recurses := true, apart := false }
def CpuBudgetSaid : Prop := cpuBudgetRow.holds Try.pinned (OpenSpec.ofChange cpuBudgetSpec)

/-- ITS FALSE NEIGHBOUR: 'it returns false'. Refute it at one input. -/
def cpuBudgetWrong : ChangeSpec := { name := "cpuBudget", fn := fun _ => fun
  | [d] => { results := [.lit (.bool false)], args := [d] }
  | _ => none }
def CpuBudgetWrongFalsely : Prop := cpuBudgetRow.holds Try.pinned (OpenSpec.ofChange cpuBudgetWrong)

/-- 'decompilerlaw10.CpuOutput': WHATEVER THE INPUT: true; the input reads as it did. -/
def cpuOutputSpec : ChangeSpec := { name := "cpuOutput", fn := fun _ => fun
  | [d] => { results := [.lit (.bool true)], args := [d] }
  | _ => none }
def cpuOutputRow : OpenClaim := { program := "ytpeaodkfbjenpaa", sum := "ff30dd802dc250d7f07cf75047b9acdfb0d6767826eba57d65cb6c14aed56783", func := "decompiler/decompilerlaw10.CpuOutput", spec := "cpuOutput", inPlace := ["maps.clone"], unfollowed := true, recurses := true, apart := false }
def CpuOutputSaid : Prop := cpuOutputRow.holds Try.pinned (OpenSpec.ofChange cpuOutputSpec)

/-- ITS FALSE NEIGHBOUR: 'it returns false'. Refute it at one input. -/
def cpuOutputWrong : ChangeSpec := { name := "cpuOutput", fn := fun _ => fun
  | [d] => { results := [.lit (.bool false)], args := [d] }
  | _ => none }
def CpuOutputWrongFalsely : Prop := cpuOutputRow.holds Try.pinned (OpenSpec.ofChange cpuOutputWrong)

/-- 'decompilerlaw10.CpuDeterminism': WHATEVER THE INPUT: true; the input reads as it did. -/
def cpuDeterminismSpec : ChangeSpec := { name := "cpuDeterminism", fn := fun _ => fun
  | [d1, d2, d3, d4, d5] => { results := [.lit (.bool true)], args := [d1, d2, d3, d4, d5] }
  | _ => none }
def cpuDeterminismRow : OpenClaim := { program := "ytpeaodkfbjenpaa", sum := "ff30dd802dc250d7f07cf75047b9acdfb0d6767826eba57d65cb6c14aed56783", func := "decompiler/decompilerlaw10.CpuDeterminism", spec := "cpuDeterminism", inPlace := ["maps.clone"], unfollowed := true, recurses := true, apart := false }
def CpuDeterminismSaid : Prop := cpuDeterminismRow.holds Try.pinned (OpenSpec.ofChange cpuDeterminismSpec)

/-- ITS FALSE NEIGHBOUR: 'it returns false'. Refute it at one input. -/
def cpuDeterminismWrong : ChangeSpec := { name := "cpuDeterminism", fn := fun _ => fun
  | [d1, d2, d3, d4, d5] => { results := [.lit (.bool false)], args := [d1, d2, d3, d4, d5] }
  | _ => none }
def CpuDeterminismWrongFalsely : Prop := cpuDeterminismRow.holds Try.pinned (OpenSpec.ofChange cpuDeterminismWrong)

/- THE SECOND FORM. 'bulk': how many values and letters a reading holds, each counted each time it is reached (what is shared counts as often as it is met; a slice's spare places count too). A statement '..UptoSaid' is the law's where the arguments, and the package variables that the reading takes, are together of bulk at most 1048576: NARROWER than '..Said'. Prove '..Said' where nothing that the law and all that it calls make is longer than what came in: it says more and counts as full. Else prove '..UptoSaid'. A law counts once. -/
mutual
def uptoBulk {H : Type} : DataW H → Nat
  | .lit (.string bytes) => bytes.length + 1
  | .lit _ => 1
  | .nil => 1
  | .ptr d => uptoBulk d + 1
  | .slice elems spare => uptoBulkAll elems + uptoBulkAll spare + 1
  | .agg parts => uptoBulkAll parts + 1
  | .iface _ d => uptoBulk d + 1
  | .map entries => uptoBulkEntries entries + 1
  | .held _ => 1
def uptoBulkAll {H : Type} : List (DataW H) → Nat
  | [] => 0
  | d :: r => uptoBulk d + uptoBulkAll r
def uptoBulkEntries {H : Type} : List (Lit × DataW H) → Nat
  | [] => 0
  | x :: r => uptoBulkEntry x + uptoBulkEntries r
def uptoBulkEntry {H : Type} : Lit × DataW H → Nat
  | (.string bytes, d) => bytes.length + uptoBulk d + 1
  | (_, d) => uptoBulk d + 1
 end
def uptoSmall : (H : Type) → List (DataW H) → Bool := fun _ ds => decide (uptoBulkAll ds ≤ 1048576)
def OpenSpec.upto (s : _root_.Go.ChangeSpec) : _root_.Go.OpenSpec := { _root_.Go.OpenSpec.ofChange s with cond := some uptoSmall }

/-- 'decompilerlaw10.CpuNew', WHERE WHAT IT READS IS OF BULK AT MOST 1048576: true; the input reads as it did. -/
def cpuNewUptoRow : OpenClaim := { program := "ytpeaodkfbjenpaa", sum := "ff30dd802dc250d7f07cf75047b9acdfb0d6767826eba57d65cb6c14aed56783", func := "decompiler/decompilerlaw10.CpuNew", spec := "cpuNew", inPlace := ["maps.clone"], unfollowed := true, recurses := true, apart := false, narrowed := true }
def CpuNewUptoSaid : Prop := cpuNewUptoRow.holds Try.pinned (OpenSpec.upto cpuNewSpec)

/-- 'decompilerlaw10.CpuArithmetic', WHERE WHAT IT READS IS OF BULK AT MOST 1048576: true; the input reads as it did. -/
def cpuArithmeticUptoRow : OpenClaim := { program := "ytpeaodkfbjenpaa", sum := "ff30dd802dc250d7f07cf75047b9acdfb0d6767826eba57d65cb6c14aed56783", func := "decompiler/decompilerlaw10.CpuArithmetic", spec := "cpuArithmetic", inPlace := ["maps.clone"], unfollowed := true, recurses := true, apart := false, narrowed := true }
def CpuArithmeticUptoSaid : Prop := cpuArithmeticUptoRow.holds Try.pinned (OpenSpec.upto cpuArithmeticSpec)

/-- 'decompilerlaw10.CpuStack', WHERE WHAT IT READS IS OF BULK AT MOST 1048576: true; the input reads as it did. -/
def cpuStackUptoRow : OpenClaim := { program := "ytpeaodkfbjenpaa", sum := "ff30dd802dc250d7f07cf75047b9acdfb0d6767826eba57d65cb6c14aed56783", func := "decompiler/decompilerlaw10.CpuStack", spec := "cpuStack", inPlace := ["maps.clone"], unfollowed := true, recurses := true, apart := false, narrowed := true }
def CpuStackUptoSaid : Prop := cpuStackUptoRow.holds Try.pinned (OpenSpec.upto cpuStackSpec)

/-- 'decompilerlaw10.CpuBudget', WHERE WHAT IT READS IS OF BULK AT MOST 1048576: true; the input reads as it did. -/
def cpuBudgetUptoRow : OpenClaim := { program := "ytpeaodkfbjenpaa", sum := "ff30dd802dc250d7f07cf75047b9acdfb0d6767826eba57d65cb6c14aed56783", func := "decompiler/decompilerlaw10.CpuBudget", spec := "cpuBudget", inPlace := ["maps.clone"], unfollowed := true, recurses := true, apart := false, narrowed := true }
def CpuBudgetUptoSaid : Prop := cpuBudgetUptoRow.holds Try.pinned (OpenSpec.upto cpuBudgetSpec)

/-- 'decompilerlaw10.CpuOutput', WHERE WHAT IT READS IS OF BULK AT MOST 1048576: true; the input reads as it did. -/
def cpuOutputUptoRow : OpenClaim := { program := "ytpeaodkfbjenpaa", sum := "ff30dd802dc250d7f07cf75047b9acdfb0d6767826eba57d65cb6c14aed56783", func := "decompiler/decompilerlaw10.CpuOutput", spec := "cpuOutput", inPlace := ["maps.clone"], unfollowed := true, recurses := true, apart := false, narrowed := true }
def CpuOutputUptoSaid : Prop := cpuOutputUptoRow.holds Try.pinned (OpenSpec.upto cpuOutputSpec)

/-- 'decompilerlaw10.CpuDeterminism', WHERE WHAT IT READS IS OF BULK AT MOST 1048576: true; the input reads as it did. -/
def cpuDeterminismUptoRow : OpenClaim := { program := "ytpeaodkfbjenpaa", sum := "ff30dd802dc250d7f07cf75047b9acdfb0d6767826eba57d65cb6c14aed56783", func := "decompiler/decompilerlaw10.CpuDeterminism", spec := "cpuDeterminism", inPlace := ["maps.clone"], unfollowed := true, recurses := true, apart := false, narrowed := true }
def CpuDeterminismUptoSaid : Prop := cpuDeterminismUptoRow.holds Try.pinned (OpenSpec.upto cpuDeterminismSpec)

end Rows
end Go.Proofs.Ytpeaodkfbjenpaa
