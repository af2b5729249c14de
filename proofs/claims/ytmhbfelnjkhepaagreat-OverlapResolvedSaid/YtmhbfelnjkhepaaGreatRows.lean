/-
  No cell of these rows narrows 'for every input' (looked for: loops, veiled, ifaces, maps, wideKeys, modest, calm, conditions, laid).
  DERIVED. THE GIVEN ROWS OF THIS SEAT. 7 by the template 'for every input the law returns true; each argument reads behind the call as it read before'; 0 by the template 'total and deterministic' (their statements: YtmhbfelnjkhepaaGreatTotals.lean).
  GIVEN WITH THE SEED: the statements are not yours to turn. If you find one false, say at which input.
  Laid BY PROGRAM, IN A SANDBOX (cutbox-rows.mjs): the forced cells as the released guide's own fill.sh prints them over the translation f825c2c105fcf72b… (all of the seat's roots in one cut). By AI agents, Wed Nov 11 2026. No macro, syntax, notation, axiom, sorry.
-/
import Derived.Test.YtmhbfelnjkhepaaGreatChecked
import GoSem.Claim
import GoSem.ClaimJoined
import GoSem.ClaimMapViews
import Derived.JoinedTies
import Derived.KernelRfl
namespace Go.Proofs.YtmhbfelnjkhepaaGreat
/- THE CELL 'sum', in the pinned program and in every row, IS THE sha256 OF THE DUMP (.gsa) THAT YtmhbfelnjkhepaaGreatProg.lean LOADS. Nothing in Lean hashes anything: it is a label: what it is worth is what the hold of that sum in a sandbox is worth. -/
noncomputable def Tryz.pinned : Pinned := { name := "ytmhbfelnjkhepaagreat", sum := "f825c2c105fcf72b0ea6fe7d1ff42a548954a2987e72dbd39fdc9b8f8eac29fc", checked := Tryz.checked }
namespace Rows
def none {H : Type} : Left H := { results := [], args := [] }

/-- 'decompilerlaw13.OverlapResolved': WHATEVER THE INPUT: true; the input reads as it did. -/
def overlapResolvedSpec : ChangeSpec := { name := "overlapResolved", fn := fun _ => fun
  | [d] => { results := [.lit (.bool true)], args := [d] }
  | _ => none }
def overlapResolvedRow : OpenClaim := { program := "ytmhbfelnjkhepaagreat", sum := "f825c2c105fcf72b0ea6fe7d1ff42a548954a2987e72dbd39fdc9b8f8eac29fc", func := "decompiler/decompilerlaw13.OverlapResolved", spec := "overlapResolved", unfollowed := true, recurses := true, apart := false }
def OverlapResolvedSaid : Prop := overlapResolvedRow.holds Tryz.pinned (OpenSpec.ofChange overlapResolvedSpec)

/-- ITS FALSE NEIGHBOUR: 'it returns false'. Refute it at one input. -/
def overlapResolvedWrong : ChangeSpec := { name := "overlapResolved", fn := fun _ => fun
  | [d] => { results := [.lit (.bool false)], args := [d] }
  | _ => none }
def OverlapResolvedWrongFalsely : Prop := overlapResolvedRow.holds Tryz.pinned (OpenSpec.ofChange overlapResolvedWrong)

/-- 'decompilerlaw13.OverlapConflicts': WHATEVER THE INPUT: true; the input reads as it did. -/
def overlapConflictsSpec : ChangeSpec := { name := "overlapConflicts", fn := fun _ => fun
  | [d] => { results := [.lit (.bool true)], args := [d] }
  | _ => none }
def overlapConflictsRow : OpenClaim := { program := "ytmhbfelnjkhepaagreat", sum := "f825c2c105fcf72b0ea6fe7d1ff42a548954a2987e72dbd39fdc9b8f8eac29fc", func := "decompiler/decompilerlaw13.OverlapConflicts", spec := "overlapConflicts", unfollowed := true, recurses := true, apart := false }
def OverlapConflictsSaid : Prop := overlapConflictsRow.holds Tryz.pinned (OpenSpec.ofChange overlapConflictsSpec)

/-- ITS FALSE NEIGHBOUR: 'it returns false'. Refute it at one input. -/
def overlapConflictsWrong : ChangeSpec := { name := "overlapConflicts", fn := fun _ => fun
  | [d] => { results := [.lit (.bool false)], args := [d] }
  | _ => none }
def OverlapConflictsWrongFalsely : Prop := overlapConflictsRow.holds Tryz.pinned (OpenSpec.ofChange overlapConflictsWrong)

/-- 'decompilerlaw13.OverlapShared': WHATEVER THE INPUT: true; the input reads as it did. -/
def overlapSharedSpec : ChangeSpec := { name := "overlapShared", fn := fun _ => fun
  | [d] => { results := [.lit (.bool true)], args := [d] }
  | _ => none }
def overlapSharedRow : OpenClaim := { program := "ytmhbfelnjkhepaagreat", sum := "f825c2c105fcf72b0ea6fe7d1ff42a548954a2987e72dbd39fdc9b8f8eac29fc", func := "decompiler/decompilerlaw13.OverlapShared", spec := "overlapShared", unfollowed := true, recurses := true, apart := false }
def OverlapSharedSaid : Prop := overlapSharedRow.holds Tryz.pinned (OpenSpec.ofChange overlapSharedSpec)

/-- ITS FALSE NEIGHBOUR: 'it returns false'. Refute it at one input. -/
def overlapSharedWrong : ChangeSpec := { name := "overlapShared", fn := fun _ => fun
  | [d] => { results := [.lit (.bool false)], args := [d] }
  | _ => none }
def OverlapSharedWrongFalsely : Prop := overlapSharedRow.holds Tryz.pinned (OpenSpec.ofChange overlapSharedWrong)

/-- 'decompilerlaw13.OverlapResolve': WHATEVER THE INPUT: true; the input reads as it did. -/
def overlapResolveSpec : ChangeSpec := { name := "overlapResolve", fn := fun _ => fun
  | [d] => { results := [.lit (.bool true)], args := [d] }
  | _ => none }
def overlapResolveRow : OpenClaim := { program := "ytmhbfelnjkhepaagreat", sum := "f825c2c105fcf72b0ea6fe7d1ff42a548954a2987e72dbd39fdc9b8f8eac29fc", func := "decompiler/decompilerlaw13.OverlapResolve", spec := "overlapResolve", unfollowed := true, recurses := true, apart := false }
def OverlapResolveSaid : Prop := overlapResolveRow.holds Tryz.pinned (OpenSpec.ofChange overlapResolveSpec)

/-- ITS FALSE NEIGHBOUR: 'it returns false'. Refute it at one input. -/
def overlapResolveWrong : ChangeSpec := { name := "overlapResolve", fn := fun _ => fun
  | [d] => { results := [.lit (.bool false)], args := [d] }
  | _ => none }
def OverlapResolveWrongFalsely : Prop := overlapResolveRow.holds Tryz.pinned (OpenSpec.ofChange overlapResolveWrong)

/-- 'decompilerlaw13.OverlapAgain': WHATEVER THE INPUT: true; the input reads as it did. -/
def overlapAgainSpec : ChangeSpec := { name := "overlapAgain", fn := fun _ => fun
  | [d] => { results := [.lit (.bool true)], args := [d] }
  | _ => none }
def overlapAgainRow : OpenClaim := { program := "ytmhbfelnjkhepaagreat", sum := "f825c2c105fcf72b0ea6fe7d1ff42a548954a2987e72dbd39fdc9b8f8eac29fc", func := "decompiler/decompilerlaw13.OverlapAgain", spec := "overlapAgain", unfollowed := true, recurses := true, apart := false }
def OverlapAgainSaid : Prop := overlapAgainRow.holds Tryz.pinned (OpenSpec.ofChange overlapAgainSpec)

/-- ITS FALSE NEIGHBOUR: 'it returns false'. Refute it at one input. -/
def overlapAgainWrong : ChangeSpec := { name := "overlapAgain", fn := fun _ => fun
  | [d] => { results := [.lit (.bool false)], args := [d] }
  | _ => none }
def OverlapAgainWrongFalsely : Prop := overlapAgainRow.holds Tryz.pinned (OpenSpec.ofChange overlapAgainWrong)

/-- 'decompilerlaw13.OverlapEntries': WHATEVER THE INPUT: true; the input reads as it did. -/
def overlapEntriesSpec : ChangeSpec := { name := "overlapEntries", fn := fun _ => fun
  | [d] => { results := [.lit (.bool true)], args := [d] }
  | _ => none }
def overlapEntriesRow : OpenClaim := { program := "ytmhbfelnjkhepaagreat", sum := "f825c2c105fcf72b0ea6fe7d1ff42a548954a2987e72dbd39fdc9b8f8eac29fc", func := "decompiler/decompilerlaw13.OverlapEntries", spec := "overlapEntries", unfollowed := true, recurses := true, apart := false }
def OverlapEntriesSaid : Prop := overlapEntriesRow.holds Tryz.pinned (OpenSpec.ofChange overlapEntriesSpec)

/-- ITS FALSE NEIGHBOUR: 'it returns false'. Refute it at one input. -/
def overlapEntriesWrong : ChangeSpec := { name := "overlapEntries", fn := fun _ => fun
  | [d] => { results := [.lit (.bool false)], args := [d] }
  | _ => none }
def OverlapEntriesWrongFalsely : Prop := overlapEntriesRow.holds Tryz.pinned (OpenSpec.ofChange overlapEntriesWrong)

/-- 'decompilerlaw13.OverlapSharedBytes': WHATEVER THE INPUT: true; the input reads as it did. -/
def overlapSharedBytesSpec : ChangeSpec := { name := "overlapSharedBytes", fn := fun _ => fun
  | [d1, d2] => { results := [.lit (.bool true)], args := [d1, d2] }
  | _ => none }
def overlapSharedBytesRow : OpenClaim := { program := "ytmhbfelnjkhepaagreat", sum := "f825c2c105fcf72b0ea6fe7d1ff42a548954a2987e72dbd39fdc9b8f8eac29fc", func := "decompiler/decompilerlaw13.OverlapSharedBytes", spec := "overlapSharedBytes", unfollowed := true, recurses := true, apart := false }
def OverlapSharedBytesSaid : Prop := overlapSharedBytesRow.holds Tryz.pinned (OpenSpec.ofChange overlapSharedBytesSpec)

/-- ITS FALSE NEIGHBOUR: 'it returns false'. Refute it at one input. -/
def overlapSharedBytesWrong : ChangeSpec := { name := "overlapSharedBytes", fn := fun _ => fun
  | [d1, d2] => { results := [.lit (.bool false)], args := [d1, d2] }
  | _ => none }
def OverlapSharedBytesWrongFalsely : Prop := overlapSharedBytesRow.holds Tryz.pinned (OpenSpec.ofChange overlapSharedBytesWrong)

/- THE SECOND FORM. 'bulk': how many values and letters a reading holds, each counted each time it is reached (what is shared counts as often as it is met; a slice's spare places count too). A statement '..UptoSaid' is the law's where the arguments, and the package variables that the reading takes, are together of bulk at most 1048576: NARROWER than '..Said'. Prove '..Said' where nothing that the law and all that it calls make is longer than what came in: it says more and counts as full. Else prove '..UptoSaid'. A law counts once. -/
mutual
def uptoBulk {H : Type} : DataW H → Nat
  | .lit (.string bytes) => bytes.length + 1
  | .lit _ => 1
  | .nil => 1
  | .ptr d => uptoBulk d + 1
  | .slice elems spare => uptoBulkAll elems + uptoBulkAll spare + 1
  | .agg parts => uptoBulkAll parts + 1
  | .iface _ d => uptoBulk d + 1
  | .map entries => uptoBulkEntries entries + 1
  | .held _ => 1
def uptoBulkAll {H : Type} : List (DataW H) → Nat
  | [] => 0
  | d :: r => uptoBulk d + uptoBulkAll r
def uptoBulkEntries {H : Type} : List (Lit × DataW H) → Nat
  | [] => 0
  | x :: r => uptoBulkEntry x + uptoBulkEntries r
def uptoBulkEntry {H : Type} : Lit × DataW H → Nat
  | (.string bytes, d) => bytes.length + uptoBulk d + 1
  | (_, d) => uptoBulk d + 1
 end
def uptoSmall : (H : Type) → List (DataW H) → Bool := fun _ ds => decide (uptoBulkAll ds ≤ 1048576)
def OpenSpec.upto (s : _root_.Go.ChangeSpec) : _root_.Go.OpenSpec := { _root_.Go.OpenSpec.ofChange s with cond := some uptoSmall }

/-- 'decompilerlaw13.OverlapResolved', WHERE WHAT IT READS IS OF BULK AT MOST 1048576: true; the input reads as it did. -/
def overlapResolvedUptoRow : OpenClaim := { program := "ytmhbfelnjkhepaagreat", sum := "f825c2c105fcf72b0ea6fe7d1ff42a548954a2987e72dbd39fdc9b8f8eac29fc", func := "decompiler/decompilerlaw13.OverlapResolved", spec := "overlapResolved", unfollowed := true, recurses := true, apart := false, narrowed := true }
def OverlapResolvedUptoSaid : Prop := overlapResolvedUptoRow.holds Tryz.pinned (OpenSpec.upto overlapResolvedSpec)

/-- 'decompilerlaw13.OverlapConflicts', WHERE WHAT IT READS IS OF BULK AT MOST 1048576: true; the input reads as it did. -/
def overlapConflictsUptoRow : OpenClaim := { program := "ytmhbfelnjkhepaagreat", sum := "f825c2c105fcf72b0ea6fe7d1ff42a548954a2987e72dbd39fdc9b8f8eac29fc", func := "decompiler/decompilerlaw13.OverlapConflicts", spec := "overlapConflicts", unfollowed := true, recurses := true, apart := false, narrowed := true }
def OverlapConflictsUptoSaid : Prop := overlapConflictsUptoRow.holds Tryz.pinned (OpenSpec.upto overlapConflictsSpec)

/-- 'decompilerlaw13.OverlapShared', WHERE WHAT IT READS IS OF BULK AT MOST 1048576: true; the input reads as it did. -/
def overlapSharedUptoRow : OpenClaim := { program := "ytmhbfelnjkhepaagreat", sum := "f825c2c105fcf72b0ea6fe7d1ff42a548954a2987e72dbd39fdc9b8f8eac29fc", func := "decompiler/decompilerlaw13.OverlapShared", spec := "overlapShared", unfollowed := true, recurses := true, apart := false, narrowed := true }
def OverlapSharedUptoSaid : Prop := overlapSharedUptoRow.holds Tryz.pinned (OpenSpec.upto overlapSharedSpec)

/-- 'decompilerlaw13.OverlapResolve', WHERE WHAT IT READS IS OF BULK AT MOST 1048576: true; the input reads as it did. -/
def overlapResolveUptoRow : OpenClaim := { program := "ytmhbfelnjkhepaagreat", sum := "f825c2c105fcf72b0ea6fe7d1ff42a548954a2987e72dbd39fdc9b8f8eac29fc", func := "decompiler/decompilerlaw13.OverlapResolve", spec := "overlapResolve", unfollowed := true, recurses := true, apart := false, narrowed := true }
def OverlapResolveUptoSaid : Prop := overlapResolveUptoRow.holds Tryz.pinned (OpenSpec.upto overlapResolveSpec)

/-- 'decompilerlaw13.OverlapAgain', WHERE WHAT IT READS IS OF BULK AT MOST 1048576: true; the input reads as it did. -/
def overlapAgainUptoRow : OpenClaim := { program := "ytmhbfelnjkhepaagreat", sum := "f825c2c105fcf72b0ea6fe7d1ff42a548954a2987e72dbd39fdc9b8f8eac29fc", func := "decompiler/decompilerlaw13.OverlapAgain", spec := "overlapAgain", unfollowed := true, recurses := true, apart := false, narrowed := true }
def OverlapAgainUptoSaid : Prop := overlapAgainUptoRow.holds Tryz.pinned (OpenSpec.upto overlapAgainSpec)

/-- 'decompilerlaw13.OverlapEntries', WHERE WHAT IT READS IS OF BULK AT MOST 1048576: true; the input reads as it did. -/
def overlapEntriesUptoRow : OpenClaim := { program := "ytmhbfelnjkhepaagreat", sum := "f825c2c105fcf72b0ea6fe7d1ff42a548954a2987e72dbd39fdc9b8f8eac29fc", func := "decompiler/decompilerlaw13.OverlapEntries", spec := "overlapEntries", unfollowed := true, recurses := true, apart := false, narrowed := true }
def OverlapEntriesUptoSaid : Prop := overlapEntriesUptoRow.holds Tryz.pinned (OpenSpec.upto overlapEntriesSpec)

/-- 'decompilerlaw13.OverlapSharedBytes', WHERE WHAT IT READS IS OF BULK AT MOST 1048576: true; the input reads as it did. -/
def overlapSharedBytesUptoRow : OpenClaim := { program := "ytmhbfelnjkhepaagreat", sum := "f825c2c105fcf72b0ea6fe7d1ff42a548954a2987e72dbd39fdc9b8f8eac29fc", func := "decompiler/decompilerlaw13.OverlapSharedBytes", spec := "overlapSharedBytes", unfollowed := true, recurses := true, apart := false, narrowed := true }
def OverlapSharedBytesUptoSaid : Prop := overlapSharedBytesUptoRow.holds Tryz.pinned (OpenSpec.upto overlapSharedBytesSpec)

end Rows
end Go.Proofs.YtmhbfelnjkhepaaGreat
