/-
  No cell of these rows narrows 'for every input' (looked for: loops, veiled, ifaces, maps, wideKeys, modest, calm, conditions, laid).
  DERIVED. THE GIVEN ROWS OF THIS SEAT. 7 by the template 'for every input the law returns true; each argument reads behind the call as it read before'; 0 by the template 'total and deterministic' (their statements: YtiajjbhcpeadfaaGreatTotals.lean).
  GIVEN WITH THE SEED: the statements are not yours to turn. If you find one false, say at which input.
  Laid BY PROGRAM, IN A SANDBOX (cutbox-rows.mjs): the forced cells as the released guide's own fill.sh prints them over the translation 4fabd5ef3bbeeb77… (all of the seat's roots in one cut). By AI agents, Wed Nov 11 2026. No macro, syntax, notation, axiom, sorry.
-/
import Derived.Test.YtiajjbhcpeadfaaGreatChecked
import GoSem.Claim
import GoSem.ClaimJoined
import GoSem.ClaimMapViews
import Derived.JoinedTies
import Derived.KernelRfl
namespace Go.Proofs.YtiajjbhcpeadfaaGreat
/- THE CELL 'sum', in the pinned program and in every row, IS THE sha256 OF THE DUMP (.gsa) THAT YtiajjbhcpeadfaaGreatProg.lean LOADS. Nothing in Lean hashes anything: it is a label: what it is worth is what the hold of that sum in a sandbox is worth. -/
noncomputable def Tryz.pinned : Pinned := { name := "ytiajjbhcpeadfaagreat", sum := "4fabd5ef3bbeeb77ca1531de3ed11c4fb5f4171ab902fa459c135c3581b7eede", checked := Tryz.checked }
namespace Rows
def none {H : Type} : Left H := { results := [], args := [] }

/-- 'decompilerlaw16.JumptableIndex': WHATEVER THE INPUT: true; the input reads as it did. -/
def jumptableIndexSpec : ChangeSpec := { name := "jumptableIndex", fn := fun _ => fun
  | [d1, d2, d3, d4, d5] => { results := [.lit (.bool true)], args := [d1, d2, d3, d4, d5] }
  | _ => none }
def jumptableIndexRow : OpenClaim := { program := "ytiajjbhcpeadfaagreat", sum := "4fabd5ef3bbeeb77ca1531de3ed11c4fb5f4171ab902fa459c135c3581b7eede", func := "decompiler/decompilerlaw16.JumptableIndex", spec := "jumptableIndex", unfollowed := true, recurses := true, apart := false }
def JumptableIndexSaid : Prop := jumptableIndexRow.holds Tryz.pinned (OpenSpec.ofChange jumptableIndexSpec)

/-- ITS FALSE NEIGHBOUR: 'it returns false'. Refute it at one input. -/
def jumptableIndexWrong : ChangeSpec := { name := "jumptableIndex", fn := fun _ => fun
  | [d1, d2, d3, d4, d5] => { results := [.lit (.bool false)], args := [d1, d2, d3, d4, d5] }
  | _ => none }
def JumptableIndexWrongFalsely : Prop := jumptableIndexRow.holds Tryz.pinned (OpenSpec.ofChange jumptableIndexWrong)

/-- 'decompilerlaw16.JumptableComplete': WHATEVER THE INPUT: true; the input reads as it did. -/
def jumptableCompleteSpec : ChangeSpec := { name := "jumptableComplete", fn := fun _ => fun
  | [d1, d2, d3] => { results := [.lit (.bool true)], args := [d1, d2, d3] }
  | _ => none }
def jumptableCompleteRow : OpenClaim := { program := "ytiajjbhcpeadfaagreat", sum := "4fabd5ef3bbeeb77ca1531de3ed11c4fb5f4171ab902fa459c135c3581b7eede", func := "decompiler/decompilerlaw16.JumptableComplete", spec := "jumptableComplete", inPlace := ["maps.clone"], unfollowed := true, recurses := true, apart := false }
def JumptableCompleteSaid : Prop := jumptableCompleteRow.holds Tryz.pinned (OpenSpec.ofChange jumptableCompleteSpec)

/-- ITS FALSE NEIGHBOUR: 'it returns false'. Refute it at one input. -/
def jumptableCompleteWrong : ChangeSpec := { name := "jumptableComplete", fn := fun _ => fun
  | [d1, d2, d3] => { results := [.lit (.bool false)], args := [d1, d2, d3] }
  | _ => none }
def JumptableCompleteWrongFalsely : Prop := jumptableCompleteRow.holds Tryz.pinned (OpenSpec.ofChange jumptableCompleteWrong)

/-- 'decompilerlaw16.JumptableTargets': WHATEVER THE INPUT: true; the input reads as it did. -/
def jumptableTargetsSpec : ChangeSpec := { name := "jumptableTargets", fn := fun _ => fun
  | [d1, d2, d3] => { results := [.lit (.bool true)], args := [d1, d2, d3] }
  | _ => none }
def jumptableTargetsRow : OpenClaim := { program := "ytiajjbhcpeadfaagreat", sum := "4fabd5ef3bbeeb77ca1531de3ed11c4fb5f4171ab902fa459c135c3581b7eede", func := "decompiler/decompilerlaw16.JumptableTargets", spec := "jumptableTargets", unfollowed := true, recurses := true, apart := false }
def JumptableTargetsSaid : Prop := jumptableTargetsRow.holds Tryz.pinned (OpenSpec.ofChange jumptableTargetsSpec)

/-- ITS FALSE NEIGHBOUR: 'it returns false'. Refute it at one input. -/
def jumptableTargetsWrong : ChangeSpec := { name := "jumptableTargets", fn := fun _ => fun
  | [d1, d2, d3] => { results := [.lit (.bool false)], args := [d1, d2, d3] }
  | _ => none }
def JumptableTargetsWrongFalsely : Prop := jumptableTargetsRow.holds Tryz.pinned (OpenSpec.ofChange jumptableTargetsWrong)

/-- 'decompilerlaw16.JumptableIsTable': WHATEVER THE INPUT: true; the input reads as it did. -/
def jumptableIsTableSpec : ChangeSpec := { name := "jumptableIsTable", fn := fun _ => fun
  | [d1, d2, d3] => { results := [.lit (.bool true)], args := [d1, d2, d3] }
  | _ => none }
def jumptableIsTableRow : OpenClaim := { program := "ytiajjbhcpeadfaagreat", sum := "4fabd5ef3bbeeb77ca1531de3ed11c4fb5f4171ab902fa459c135c3581b7eede", func := "decompiler/decompilerlaw16.JumptableIsTable", spec := "jumptableIsTable", unfollowed := true, recurses := true, apart := false }
def JumptableIsTableSaid : Prop := jumptableIsTableRow.holds Tryz.pinned (OpenSpec.ofChange jumptableIsTableSpec)

/-- ITS FALSE NEIGHBOUR: 'it returns false'. Refute it at one input. -/
def jumptableIsTableWrong : ChangeSpec := { name := "jumptableIsTable", fn := fun _ => fun
  | [d1, d2, d3] => { results := [.lit (.bool false)], args := [d1, d2, d3] }
  | _ => none }
def JumptableIsTableWrongFalsely : Prop := jumptableIsTableRow.holds Tryz.pinned (OpenSpec.ofChange jumptableIsTableWrong)

/-- 'decompilerlaw16.JumptableResolve': WHATEVER THE INPUT: true; the input reads as it did. -/
def jumptableResolveSpec : ChangeSpec := { name := "jumptableResolve", fn := fun _ => fun
  | [d1, d2] => { results := [.lit (.bool true)], args := [d1, d2] }
  | _ => none }
def jumptableResolveRow : OpenClaim := { program := "ytiajjbhcpeadfaagreat", sum := "4fabd5ef3bbeeb77ca1531de3ed11c4fb5f4171ab902fa459c135c3581b7eede", func := "decompiler/decompilerlaw16.JumptableResolve", spec := "jumptableResolve", unfollowed := true, recurses := true, apart := false }
def JumptableResolveSaid : Prop := jumptableResolveRow.holds Tryz.pinned (OpenSpec.ofChange jumptableResolveSpec)

/-- ITS FALSE NEIGHBOUR: 'it returns false'. Refute it at one input. -/
def jumptableResolveWrong : ChangeSpec := { name := "jumptableResolve", fn := fun _ => fun
  | [d1, d2] => { results := [.lit (.bool false)], args := [d1, d2] }
  | _ => none }
def JumptableResolveWrongFalsely : Prop := jumptableResolveRow.holds Tryz.pinned (OpenSpec.ofChange jumptableResolveWrong)

/-- 'decompilerlaw16.JumptableFixed': WHATEVER THE INPUT: true; the input reads as it did. -/
def jumptableFixedSpec : ChangeSpec := { name := "jumptableFixed", fn := fun _ => fun
  | [d1, d2] => { results := [.lit (.bool true)], args := [d1, d2] }
  | _ => none }
def jumptableFixedRow : OpenClaim := { program := "ytiajjbhcpeadfaagreat", sum := "4fabd5ef3bbeeb77ca1531de3ed11c4fb5f4171ab902fa459c135c3581b7eede", func := "decompiler/decompilerlaw16.JumptableFixed", spec := "jumptableFixed", unfollowed := true, recurses := true, apart := false }
def JumptableFixedSaid : Prop := jumptableFixedRow.holds Tryz.pinned (OpenSpec.ofChange jumptableFixedSpec)

/-- ITS FALSE NEIGHBOUR: 'it returns false'. Refute it at one input. -/
def jumptableFixedWrong : ChangeSpec := { name := "jumptableFixed", fn := fun _ => fun
  | [d1, d2] => { results := [.lit (.bool false)], args := [d1, d2] }
  | _ => none }
def JumptableFixedWrongFalsely : Prop := jumptableFixedRow.holds Tryz.pinned (OpenSpec.ofChange jumptableFixedWrong)

/-- 'decompilerlaw16.JumptableBounded': WHATEVER THE INPUT: true; the input reads as it did. -/
def jumptableBoundedSpec : ChangeSpec := { name := "jumptableBounded", fn := fun _ => fun
  | [d1, d2] => { results := [.lit (.bool true)], args := [d1, d2] }
  | _ => none }
def jumptableBoundedRow : OpenClaim := { program := "ytiajjbhcpeadfaagreat", sum := "4fabd5ef3bbeeb77ca1531de3ed11c4fb5f4171ab902fa459c135c3581b7eede", func := "decompiler/decompilerlaw16.JumptableBounded", spec := "jumptableBounded", unfollowed := true, recurses := true, apart := false }
def JumptableBoundedSaid : Prop := jumptableBoundedRow.holds Tryz.pinned (OpenSpec.ofChange jumptableBoundedSpec)

/-- ITS FALSE NEIGHBOUR: 'it returns false'. Refute it at one input. -/
def jumptableBoundedWrong : ChangeSpec := { name := "jumptableBounded", fn := fun _ => fun
  | [d1, d2] => { results := [.lit (.bool false)], args := [d1, d2] }
  | _ => none }
def JumptableBoundedWrongFalsely : Prop := jumptableBoundedRow.holds Tryz.pinned (OpenSpec.ofChange jumptableBoundedWrong)

/- THE SECOND FORM. 'bulk': how many values and letters a reading holds, each counted each time it is reached (what is shared counts as often as it is met; a slice's spare places count too). A statement '..UptoSaid' is the law's where the arguments, and the package variables that the reading takes, are together of bulk at most 1048576: NARROWER than '..Said'. Prove '..Said' where nothing that the law and all that it calls make is longer than what came in: it says more and counts as full. Else prove '..UptoSaid'. A law counts once. -/
mutual
def uptoBulk {H : Type} : DataW H → Nat
  | .lit (.string bytes) => bytes.length + 1
  | .lit _ => 1
  | .nil => 1
  | .ptr d => uptoBulk d + 1
  | .slice elems spare => uptoBulkAll elems + uptoBulkAll spare + 1
  | .agg parts => uptoBulkAll parts + 1
  | .iface _ d => uptoBulk d + 1
  | .map entries => uptoBulkEntries entries + 1
  | .held _ => 1
def uptoBulkAll {H : Type} : List (DataW H) → Nat
  | [] => 0
  | d :: r => uptoBulk d + uptoBulkAll r
def uptoBulkEntries {H : Type} : List (Lit × DataW H) → Nat
  | [] => 0
  | x :: r => uptoBulkEntry x + uptoBulkEntries r
def uptoBulkEntry {H : Type} : Lit × DataW H → Nat
  | (.string bytes, d) => bytes.length + uptoBulk d + 1
  | (_, d) => uptoBulk d + 1
 end
def uptoSmall : (H : Type) → List (DataW H) → Bool := fun _ ds => decide (uptoBulkAll ds ≤ 1048576)
def OpenSpec.upto (s : _root_.Go.ChangeSpec) : _root_.Go.OpenSpec := { _root_.Go.OpenSpec.ofChange s with cond := some uptoSmall }

/-- 'decompilerlaw16.JumptableIndex', WHERE WHAT IT READS IS OF BULK AT MOST 1048576: true; the input reads as it did. -/
def jumptableIndexUptoRow : OpenClaim := { program := "ytiajjbhcpeadfaagreat", sum := "4fabd5ef3bbeeb77ca1531de3ed11c4fb5f4171ab902fa459c135c3581b7eede", func := "decompiler/decompilerlaw16.JumptableIndex", spec := "jumptableIndex", unfollowed := true, recurses := true, apart := false, narrowed := true }
def JumptableIndexUptoSaid : Prop := jumptableIndexUptoRow.holds Tryz.pinned (OpenSpec.upto jumptableIndexSpec)

/-- 'decompilerlaw16.JumptableComplete', WHERE WHAT IT READS IS OF BULK AT MOST 1048576: true; the input reads as it did. -/
def jumptableCompleteUptoRow : OpenClaim := { program := "ytiajjbhcpeadfaagreat", sum := "4fabd5ef3bbeeb77ca1531de3ed11c4fb5f4171ab902fa459c135c3581b7eede", func := "decompiler/decompilerlaw16.JumptableComplete", spec := "jumptableComplete", inPlace := ["maps.clone"], unfollowed := true, recurses := true, apart := false, narrowed := true }
def JumptableCompleteUptoSaid : Prop := jumptableCompleteUptoRow.holds Tryz.pinned (OpenSpec.upto jumptableCompleteSpec)

/-- 'decompilerlaw16.JumptableTargets', WHERE WHAT IT READS IS OF BULK AT MOST 1048576: true; the input reads as it did. -/
def jumptableTargetsUptoRow : OpenClaim := { program := "ytiajjbhcpeadfaagreat", sum := "4fabd5ef3bbeeb77ca1531de3ed11c4fb5f4171ab902fa459c135c3581b7eede", func := "decompiler/decompilerlaw16.JumptableTargets", spec := "jumptableTargets", unfollowed := true, recurses := true, apart := false, narrowed := true }
def JumptableTargetsUptoSaid : Prop := jumptableTargetsUptoRow.holds Tryz.pinned (OpenSpec.upto jumptableTargetsSpec)

/-- 'decompilerlaw16.JumptableIsTable', WHERE WHAT IT READS IS OF BULK AT MOST 1048576: true; the input reads as it did. -/
def jumptableIsTableUptoRow : OpenClaim := { program := "ytiajjbhcpeadfaagreat", sum := "4fabd5ef3bbeeb77ca1531de3ed11c4fb5f4171ab902fa459c135c3581b7eede", func := "decompiler/decompilerlaw16.JumptableIsTable", spec := "jumptableIsTable", unfollowed := true, recurses := true, apart := false, narrowed := true }
def JumptableIsTableUptoSaid : Prop := jumptableIsTableUptoRow.holds Tryz.pinned (OpenSpec.upto jumptableIsTableSpec)

/-- 'decompilerlaw16.JumptableResolve', WHERE WHAT IT READS IS OF BULK AT MOST 1048576: true; the input reads as it did. -/
def jumptableResolveUptoRow : OpenClaim := { program := "ytiajjbhcpeadfaagreat", sum := "4fabd5ef3bbeeb77ca1531de3ed11c4fb5f4171ab902fa459c135c3581b7eede", func := "decompiler/decompilerlaw16.JumptableResolve", spec := "jumptableResolve", unfollowed := true, recurses := true, apart := false, narrowed := true }
def JumptableResolveUptoSaid : Prop := jumptableResolveUptoRow.holds Tryz.pinned (OpenSpec.upto jumptableResolveSpec)

/-- 'decompilerlaw16.JumptableFixed', WHERE WHAT IT READS IS OF BULK AT MOST 1048576: true; the input reads as it did. -/
def jumptableFixedUptoRow : OpenClaim := { program := "ytiajjbhcpeadfaagreat", sum := "4fabd5ef3bbeeb77ca1531de3ed11c4fb5f4171ab902fa459c135c3581b7eede", func := "decompiler/decompilerlaw16.JumptableFixed", spec := "jumptableFixed", unfollowed := true, recurses := true, apart := false, narrowed := true }
def JumptableFixedUptoSaid : Prop := jumptableFixedUptoRow.holds Tryz.pinned (OpenSpec.upto jumptableFixedSpec)

/-- 'decompilerlaw16.JumptableBounded', WHERE WHAT IT READS IS OF BULK AT MOST 1048576: true; the input reads as it did. -/
def jumptableBoundedUptoRow : OpenClaim := { program := "ytiajjbhcpeadfaagreat", sum := "4fabd5ef3bbeeb77ca1531de3ed11c4fb5f4171ab902fa459c135c3581b7eede", func := "decompiler/decompilerlaw16.JumptableBounded", spec := "jumptableBounded", unfollowed := true, recurses := true, apart := false, narrowed := true }
def JumptableBoundedUptoSaid : Prop := jumptableBoundedUptoRow.holds Tryz.pinned (OpenSpec.upto jumptableBoundedSpec)

end Rows
end Go.Proofs.YtiajjbhcpeadfaaGreat
