/-
  No cell of these rows narrows 'for every input' (looked for: loops, veiled, ifaces, maps, wideKeys, modest, calm, conditions, laid).
  DERIVED. THE GIVEN ROWS OF THIS SEAT. 7 by the template 'for every input the law returns true; each argument reads behind the call as it read before'; 0 by the template 'total and deterministic' (their statements: YtnmaokalpbnmaaaTotals.lean).
  GIVEN WITH THE SEED: the statements are not yours to turn. If you find one false, say at which input.
  Laid BY PROGRAM, IN A SANDBOX (cutbox-rows.mjs): the forced cells as the released guide's own fill.sh prints them over the translation cd4b5cffdfc708b6… (all of the seat's roots in one cut). By AI agents, Wed Nov 11 2026. No macro, syntax, notation, axiom, sorry.
-/
import Derived.Test.YtnmaokalpbnmaaaChecked
import GoSem.Claim
import GoSem.ClaimJoined
import GoSem.ClaimMapViews
import Derived.JoinedTies
import Derived.KernelRfl
namespace Go.Proofs.Ytnmaokalpbnmaaa
/- THE CELL 'sum', in the pinned program and in every row, IS THE sha256 OF THE DUMP (.gsa) THAT YtnmaokalpbnmaaaProg.lean LOADS. Nothing in Lean hashes anything: it is a label: what it is worth is what the hold of that sum in a sandbox is worth. -/
noncomputable def Try.pinned : Pinned := { name := "ytnmaokalpbnmaaa", sum := "cd4b5cffdfc708b6ff31e5de03777a5b6487350a00523c44d3a2dfda117eedd1", checked := Try.checked }
namespace Rows
def none {H : Type} : Left H := { results := [], args := [] }

/-- 'decompilerlaw12.DescentClosure': WHATEVER THE INPUT: true; the input reads as it did. -/
def descentClosureSpec : ChangeSpec := { name := "descentClosure", fn := fun _ => fun
  | [d] => { results := [.lit (.bool true)], args := [d] }
  | _ => none }
def descentClosureRow : OpenClaim := { program := "ytnmaokalpbnmaaa", sum := "cd4b5cffdfc708b6ff31e5de03777a5b6487350a00523c44d3a2dfda117eedd1", func := "decompiler/decompilerlaw12.DescentClosure", spec := "descentClosure", unfollowed := true, recurses := true, apart := false }
def DescentClosureSaid : Prop := descentClosureRow.holds Try.pinned (OpenSpec.ofChange descentClosureSpec)

/-- ITS FALSE NEIGHBOUR: 'it returns false'. Refute it at one input. -/
def descentClosureWrong : ChangeSpec := { name := "descentClosure", fn := fun _ => fun
  | [d] => { results := [.lit (.bool false)], args := [d] }
  | _ => none }
def DescentClosureWrongFalsely : Prop := descentClosureRow.holds Try.pinned (OpenSpec.ofChange descentClosureWrong)

/-- 'decompilerlaw12.DescentDecodes': WHATEVER THE INPUT: true; the input reads as it did. -/
def descentDecodesSpec : ChangeSpec := { name := "descentDecodes", fn := fun _ => fun
  | [d] => { results := [.lit (.bool true)], args := [d] }
  | _ => none }
def descentDecodesRow : OpenClaim := { program := "ytnmaokalpbnmaaa", sum := "cd4b5cffdfc708b6ff31e5de03777a5b6487350a00523c44d3a2dfda117eedd1", func := "decompiler/decompilerlaw12.DescentDecodes", spec := "descentDecodes", unfollowed := true, recurses := true, apart := false }
def DescentDecodesSaid : Prop := descentDecodesRow.holds Try.pinned (OpenSpec.ofChange descentDecodesSpec)

/-- ITS FALSE NEIGHBOUR: 'it returns false'. Refute it at one input. -/
def descentDecodesWrong : ChangeSpec := { name := "descentDecodes", fn := fun _ => fun
  | [d] => { results := [.lit (.bool false)], args := [d] }
  | _ => none }
def DescentDecodesWrongFalsely : Prop := descentDecodesRow.holds Try.pinned (OpenSpec.ofChange descentDecodesWrong)

/-- 'decompilerlaw12.DescentReasons': WHATEVER THE INPUT: true; the input reads as it did. -/
def descentReasonsSpec : ChangeSpec := { name := "descentReasons", fn := fun _ => fun
  | [d] => { results := [.lit (.bool true)], args := [d] }
  | _ => none }
def descentReasonsRow : OpenClaim := { program := "ytnmaokalpbnmaaa", sum := "cd4b5cffdfc708b6ff31e5de03777a5b6487350a00523c44d3a2dfda117eedd1", func := "decompiler/decompilerlaw12.DescentReasons", spec := "descentReasons", unfollowed := true, recurses := true, apart := false }
def DescentReasonsSaid : Prop := descentReasonsRow.holds Try.pinned (OpenSpec.ofChange descentReasonsSpec)

/-- ITS FALSE NEIGHBOUR: 'it returns false'. Refute it at one input. -/
def descentReasonsWrong : ChangeSpec := { name := "descentReasons", fn := fun _ => fun
  | [d] => { results := [.lit (.bool false)], args := [d] }
  | _ => none }
def DescentReasonsWrongFalsely : Prop := descentReasonsRow.holds Try.pinned (OpenSpec.ofChange descentReasonsWrong)

/-- 'decompilerlaw12.DescentOrder': WHATEVER THE INPUT: true; the input reads as it did. -/
def descentOrderSpec : ChangeSpec := { name := "descentOrder", fn := fun _ => fun
  | [d] => { results := [.lit (.bool true)], args := [d] }
  | _ => none }
def descentOrderRow : OpenClaim := { program := "ytnmaokalpbnmaaa", sum := "cd4b5cffdfc708b6ff31e5de03777a5b6487350a00523c44d3a2dfda117eedd1", func := "decompiler/decompilerlaw12.DescentOrder", spec := "descentOrder", unfollowed := true, recurses := true, apart := false }
def DescentOrderSaid : Prop := descentOrderRow.holds Try.pinned (OpenSpec.ofChange descentOrderSpec)

/-- ITS FALSE NEIGHBOUR: 'it returns false'. Refute it at one input. -/
def descentOrderWrong : ChangeSpec := { name := "descentOrder", fn := fun _ => fun
  | [d] => { results := [.lit (.bool false)], args := [d] }
  | _ => none }
def DescentOrderWrongFalsely : Prop := descentOrderRow.holds Try.pinned (OpenSpec.ofChange descentOrderWrong)

/-- 'decompilerlaw12.DescentSuccessors': WHATEVER THE INPUT: true; the input reads as it did. -/
def descentSuccessorsSpec : ChangeSpec := { name := "descentSuccessors", fn := fun _ => fun
  | [d] => { results := [.lit (.bool true)], args := [d] }
  | _ => none }
def descentSuccessorsRow : OpenClaim := { program := "ytnmaokalpbnmaaa", sum := "cd4b5cffdfc708b6ff31e5de03777a5b6487350a00523c44d3a2dfda117eedd1", func := "decompiler/decompilerlaw12.DescentSuccessors", spec := "descentSuccessors", unfollowed := true, recurses := true, apart := false }
def DescentSuccessorsSaid : Prop := descentSuccessorsRow.holds Try.pinned (OpenSpec.ofChange descentSuccessorsSpec)

/-- ITS FALSE NEIGHBOUR: 'it returns false'. Refute it at one input. -/
def descentSuccessorsWrong : ChangeSpec := { name := "descentSuccessors", fn := fun _ => fun
  | [d] => { results := [.lit (.bool false)], args := [d] }
  | _ => none }
def DescentSuccessorsWrongFalsely : Prop := descentSuccessorsRow.holds Try.pinned (OpenSpec.ofChange descentSuccessorsWrong)

/-- 'decompilerlaw12.DescentMore': WHATEVER THE INPUT: true; the input reads as it did. -/
def descentMoreSpec : ChangeSpec := { name := "descentMore", fn := fun _ => fun
  | [d1, d2] => { results := [.lit (.bool true)], args := [d1, d2] }
  | _ => none }
def descentMoreRow : OpenClaim := { program := "ytnmaokalpbnmaaa", sum := "cd4b5cffdfc708b6ff31e5de03777a5b6487350a00523c44d3a2dfda117eedd1", func := "decompiler/decompilerlaw12.DescentMore", spec := "descentMore", unfollowed := true, recurses := true, apart := false }
def DescentMoreSaid : Prop := descentMoreRow.holds Try.pinned (OpenSpec.ofChange descentMoreSpec)

/-- ITS FALSE NEIGHBOUR: 'it returns false'. Refute it at one input. -/
def descentMoreWrong : ChangeSpec := { name := "descentMore", fn := fun _ => fun
  | [d1, d2] => { results := [.lit (.bool false)], args := [d1, d2] }
  | _ => none }
def DescentMoreWrongFalsely : Prop := descentMoreRow.holds Try.pinned (OpenSpec.ofChange descentMoreWrong)

/-- 'decompilerlaw12.DescentMerges': WHATEVER THE INPUT: true; the input reads as it did. -/
def descentMergesSpec : ChangeSpec := { name := "descentMerges", fn := fun _ => fun
  | [d1, d2, d3] => { results := [.lit (.bool true)], args := [d1, d2, d3] }
  | _ => none }
def descentMergesRow : OpenClaim := { program := "ytnmaokalpbnmaaa", sum := "cd4b5cffdfc708b6ff31e5de03777a5b6487350a00523c44d3a2dfda117eedd1", func := "decompiler/decompilerlaw12.DescentMerges", spec := "descentMerges", unfollowed := true, recurses := true, apart := false }
def DescentMergesSaid : Prop := descentMergesRow.holds Try.pinned (OpenSpec.ofChange descentMergesSpec)

/-- ITS FALSE NEIGHBOUR: 'it returns false'. Refute it at one input. -/
def descentMergesWrong : ChangeSpec := { name := "descentMerges", fn := fun _ => fun
  | [d1, d2, d3] => { results := [.lit (.bool false)], args := [d1, d2, d3] }
  | _ => none }
def DescentMergesWrongFalsely : Prop := descentMergesRow.holds Try.pinned (OpenSpec.ofChange descentMergesWrong)

/- THE SECOND FORM. 'bulk': how many values and letters a reading holds, each counted each time it is reached (what is shared counts as often as it is met; a slice's spare places count too). A statement '..UptoSaid' is the law's where the arguments, and the package variables that the reading takes, are together of bulk at most 1048576: NARROWER than '..Said'. Prove '..Said' where nothing that the law and all that it calls make is longer than what came in: it says more and counts as full. Else prove '..UptoSaid'. A law counts once. -/
mutual
def uptoBulk {H : Type} : DataW H → Nat
  | .lit (.string bytes) => bytes.length + 1
  | .lit _ => 1
  | .nil => 1
  | .ptr d => uptoBulk d + 1
  | .slice elems spare => uptoBulkAll elems + uptoBulkAll spare + 1
  | .agg parts => uptoBulkAll parts + 1
  | .iface _ d => uptoBulk d + 1
  | .map entries => uptoBulkEntries entries + 1
  | .held _ => 1
def uptoBulkAll {H : Type} : List (DataW H) → Nat
  | [] => 0
  | d :: r => uptoBulk d + uptoBulkAll r
def uptoBulkEntries {H : Type} : List (Lit × DataW H) → Nat
  | [] => 0
  | x :: r => uptoBulkEntry x + uptoBulkEntries r
def uptoBulkEntry {H : Type} : Lit × DataW H → Nat
  | (.string bytes, d) => bytes.length + uptoBulk d + 1
  | (_, d) => uptoBulk d + 1
 end
def uptoSmall : (H : Type) → List (DataW H) → Bool := fun _ ds => decide (uptoBulkAll ds ≤ 1048576)
def OpenSpec.upto (s : _root_.Go.ChangeSpec) : _root_.Go.OpenSpec := { _root_.Go.OpenSpec.ofChange s with cond := some uptoSmall }

/-- 'decompilerlaw12.DescentClosure', WHERE WHAT IT READS IS OF BULK AT MOST 1048576: true; the input reads as it did. -/
def descentClosureUptoRow : OpenClaim := { program := "ytnmaokalpbnmaaa", sum := "cd4b5cffdfc708b6ff31e5de03777a5b6487350a00523c44d3a2dfda117eedd1", func := "decompiler/decompilerlaw12.DescentClosure", spec := "descentClosure", unfollowed := true, recurses := true, apart := false, narrowed := true }
def DescentClosureUptoSaid : Prop := descentClosureUptoRow.holds Try.pinned (OpenSpec.upto descentClosureSpec)

/-- 'decompilerlaw12.DescentDecodes', WHERE WHAT IT READS IS OF BULK AT MOST 1048576: true; the input reads as it did. -/
def descentDecodesUptoRow : OpenClaim := { program := "ytnmaokalpbnmaaa", sum := "cd4b5cffdfc708b6ff31e5de03777a5b6487350a00523c44d3a2dfda117eedd1", func := "decompiler/decompilerlaw12.DescentDecodes", spec := "descentDecodes", unfollowed := true, recurses := true, apart := false, narrowed := true }
def DescentDecodesUptoSaid : Prop := descentDecodesUptoRow.holds Try.pinned (OpenSpec.upto descentDecodesSpec)

/-- 'decompilerlaw12.DescentReasons', WHERE WHAT IT READS IS OF BULK AT MOST 1048576: true; the input reads as it did. -/
def descentReasonsUptoRow : OpenClaim := { program := "ytnmaokalpbnmaaa", sum := "cd4b5cffdfc708b6ff31e5de03777a5b6487350a00523c44d3a2dfda117eedd1", func := "decompiler/decompilerlaw12.DescentReasons", spec := "descentReasons", unfollowed := true, recurses := true, apart := false, narrowed := true }
def DescentReasonsUptoSaid : Prop := descentReasonsUptoRow.holds Try.pinned (OpenSpec.upto descentReasonsSpec)

/-- 'decompilerlaw12.DescentOrder', WHERE WHAT IT READS IS OF BULK AT MOST 1048576: true; the input reads as it did. -/
def descentOrderUptoRow : OpenClaim := { program := "ytnmaokalpbnmaaa", sum := "cd4b5cffdfc708b6ff31e5de03777a5b6487350a00523c44d3a2dfda117eedd1", func := "decompiler/decompilerlaw12.DescentOrder", spec := "descentOrder", unfollowed := true, recurses := true, apart := false, narrowed := true }
def DescentOrderUptoSaid : Prop := descentOrderUptoRow.holds Try.pinned (OpenSpec.upto descentOrderSpec)

/-- 'decompilerlaw12.DescentSuccessors', WHERE WHAT IT READS IS OF BULK AT MOST 1048576: true; the input reads as it did. -/
def descentSuccessorsUptoRow : OpenClaim := { program := "ytnmaokalpbnmaaa", sum := "cd4b5cffdfc708b6ff31e5de03777a5b6487350a00523c44d3a2dfda117eedd1", func := "decompiler/decompilerlaw12.DescentSuccessors", spec := "descentSuccessors", unfollowed := true, recurses := true, apart := false, narrowed := true }
def DescentSuccessorsUptoSaid : Prop := descentSuccessorsUptoRow.holds Try.pinned (OpenSpec.upto descentSuccessorsSpec)

/-- 'decompilerlaw12.DescentMore', WHERE WHAT IT READS IS OF BULK AT MOST 1048576: true; the input reads as it did. -/
def descentMoreUptoRow : OpenClaim := { program := "ytnmaokalpbnmaaa", sum := "cd4b5cffdfc708b6ff31e5de03777a5b6487350a00523c44d3a2dfda117eedd1", func := "decompiler/decompilerlaw12.DescentMore", spec := "descentMore", unfollowed := true, recurses := true, apart := false, narrowed := true }
def DescentMoreUptoSaid : Prop := descentMoreUptoRow.holds Try.pinned (OpenSpec.upto descentMoreSpec)

/-- 'decompilerlaw12.DescentMerges', WHERE WHAT IT READS IS OF BULK AT MOST 1048576: true; the input reads as it did. -/
def descentMergesUptoRow : OpenClaim := { program := "ytnmaokalpbnmaaa", sum := "cd4b5cffdfc708b6ff31e5de03777a5b6487350a00523c44d3a2dfda117eedd1", func := "decompiler/decompilerlaw12.DescentMerges", spec := "descentMerges", unfollowed := true, recurses := true, apart := false, narrowed := true }
def DescentMergesUptoSaid : Prop := descentMergesUptoRow.holds Try.pinned (OpenSpec.upto descentMergesSpec)

end Rows
end Go.Proofs.Ytnmaokalpbnmaaa
