/-
  No cell of these rows narrows 'for every input' (looked for: loops, veiled, ifaces, maps, wideKeys, modest, calm, conditions, laid).
  DERIVED. THE GIVEN ROWS OF THIS SEAT. 6 by the template 'for every input the law returns true; each argument reads behind the call as it read before'; 0 by the template 'total and deterministic' (their statements: YtfnedefgepjbpaaTotals.lean).
  GIVEN WITH THE SEED: the statements are not yours to turn. If you find one false, say at which input.
  Laid BY PROGRAM, IN A SANDBOX (cutbox-rows.mjs): the forced cells as the released guide's own fill.sh prints them over the translation cef1850d1df5bec3… (all of the seat's roots in one cut). By AI agents, Wed Nov 11 2026. No macro, syntax, notation, axiom, sorry.
-/
import Derived.Test.YtfnedefgepjbpaaChecked
import GoSem.Claim
import GoSem.ClaimJoined
import GoSem.ClaimMapViews
import Derived.JoinedTies
import Derived.KernelRfl
namespace Go.Proofs.Ytfnedefgepjbpaa
/- THE CELL 'sum', in the pinned program and in every row, IS THE sha256 OF THE DUMP (.gsa) THAT YtfnedefgepjbpaaProg.lean LOADS. Nothing in Lean hashes anything: it is a label: what it is worth is what the hold of that sum in a sandbox is worth. -/
noncomputable def Try.pinned : Pinned := { name := "ytfnedefgepjbpaa", sum := "cef1850d1df5bec339411361953b4c94642b5c22440ab5cc98b6d4e7e7e137b3", checked := Try.checked }
namespace Rows
def none {H : Type} : Left H := { results := [], args := [] }

/-- 'decompilerlaw11.LinearSweeps': WHATEVER THE INPUT: true; the input reads as it did. -/
def linearSweepsSpec : ChangeSpec := { name := "linearSweeps", fn := fun _ => fun
  | [d1, d2, d3] => { results := [.lit (.bool true)], args := [d1, d2, d3] }
  | _ => none }
def linearSweepsRow : OpenClaim := { program := "ytfnedefgepjbpaa", sum := "cef1850d1df5bec339411361953b4c94642b5c22440ab5cc98b6d4e7e7e137b3", func := "decompiler/decompilerlaw11.LinearSweeps", spec := "linearSweeps", unfollowed := true, recurses := true, apart := false }
def LinearSweepsSaid : Prop := linearSweepsRow.holds Try.pinned (OpenSpec.ofChange linearSweepsSpec)

/-- ITS FALSE NEIGHBOUR: 'it returns false'. Refute it at one input. -/
def linearSweepsWrong : ChangeSpec := { name := "linearSweeps", fn := fun _ => fun
  | [d1, d2, d3] => { results := [.lit (.bool false)], args := [d1, d2, d3] }
  | _ => none }
def LinearSweepsWrongFalsely : Prop := linearSweepsRow.holds Try.pinned (OpenSpec.ofChange linearSweepsWrong)

/-- 'decompilerlaw11.LinearFinds': WHATEVER THE INPUT: true; the input reads as it did. -/
def linearFindsSpec : ChangeSpec := { name := "linearFinds", fn := fun _ => fun
  | [d1, d2] => { results := [.lit (.bool true)], args := [d1, d2] }
  | _ => none }
def linearFindsRow : OpenClaim := { program := "ytfnedefgepjbpaa", sum := "cef1850d1df5bec339411361953b4c94642b5c22440ab5cc98b6d4e7e7e137b3", func := "decompiler/decompilerlaw11.LinearFinds", spec := "linearFinds", unfollowed := true, recurses := true, apart := false }
def LinearFindsSaid : Prop := linearFindsRow.holds Try.pinned (OpenSpec.ofChange linearFindsSpec)

/-- ITS FALSE NEIGHBOUR: 'it returns false'. Refute it at one input. -/
def linearFindsWrong : ChangeSpec := { name := "linearFinds", fn := fun _ => fun
  | [d1, d2] => { results := [.lit (.bool false)], args := [d1, d2] }
  | _ => none }
def LinearFindsWrongFalsely : Prop := linearFindsRow.holds Try.pinned (OpenSpec.ofChange linearFindsWrong)

/-- 'decompilerlaw11.LinearRestarts': WHATEVER THE INPUT: true; the input reads as it did. -/
def linearRestartsSpec : ChangeSpec := { name := "linearRestarts", fn := fun _ => fun
  | [d1, d2, d3, d4] => { results := [.lit (.bool true)], args := [d1, d2, d3, d4] }
  | _ => none }
def linearRestartsRow : OpenClaim := { program := "ytfnedefgepjbpaa", sum := "cef1850d1df5bec339411361953b4c94642b5c22440ab5cc98b6d4e7e7e137b3", func := "decompiler/decompilerlaw11.LinearRestarts", spec := "linearRestarts", unfollowed := true, recurses := true, apart := false }
def LinearRestartsSaid : Prop := linearRestartsRow.holds Try.pinned (OpenSpec.ofChange linearRestartsSpec)

/-- ITS FALSE NEIGHBOUR: 'it returns false'. Refute it at one input. -/
def linearRestartsWrong : ChangeSpec := { name := "linearRestarts", fn := fun _ => fun
  | [d1, d2, d3, d4] => { results := [.lit (.bool false)], args := [d1, d2, d3, d4] }
  | _ => none }
def LinearRestartsWrongFalsely : Prop := linearRestartsRow.holds Try.pinned (OpenSpec.ofChange linearRestartsWrong)

/-- 'decompilerlaw11.LinearCover': WHATEVER THE INPUT: true; the input reads as it did. -/
def linearCoverSpec : ChangeSpec := { name := "linearCover", fn := fun _ => fun
  | [d1, d2, d3, d4] => { results := [.lit (.bool true)], args := [d1, d2, d3, d4] }
  | _ => none }
def linearCoverRow : OpenClaim := { program := "ytfnedefgepjbpaa", sum := "cef1850d1df5bec339411361953b4c94642b5c22440ab5cc98b6d4e7e7e137b3", func := "decompiler/decompilerlaw11.LinearCover", spec := "linearCover", unfollowed := true, recurses := true, apart := false }
def LinearCoverSaid : Prop := linearCoverRow.holds Try.pinned (OpenSpec.ofChange linearCoverSpec)

/-- ITS FALSE NEIGHBOUR: 'it returns false'. Refute it at one input. -/
def linearCoverWrong : ChangeSpec := { name := "linearCover", fn := fun _ => fun
  | [d1, d2, d3, d4] => { results := [.lit (.bool false)], args := [d1, d2, d3, d4] }
  | _ => none }
def LinearCoverWrongFalsely : Prop := linearCoverRow.holds Try.pinned (OpenSpec.ofChange linearCoverWrong)

/-- 'decompilerlaw11.LinearAll': WHATEVER THE INPUT: true; the input reads as it did. -/
def linearAllSpec : ChangeSpec := { name := "linearAll", fn := fun _ => fun
  | [d] => { results := [.lit (.bool true)], args := [d] }
  | _ => none }
def linearAllRow : OpenClaim := { program := "ytfnedefgepjbpaa", sum := "cef1850d1df5bec339411361953b4c94642b5c22440ab5cc98b6d4e7e7e137b3", func := "decompiler/decompilerlaw11.LinearAll", spec := "linearAll", unfollowed := true, recurses := true, apart := false }
def LinearAllSaid : Prop := linearAllRow.holds Try.pinned (OpenSpec.ofChange linearAllSpec)

/-- ITS FALSE NEIGHBOUR: 'it returns false'. Refute it at one input. -/
def linearAllWrong : ChangeSpec := { name := "linearAll", fn := fun _ => fun
  | [d] => { results := [.lit (.bool false)], args := [d] }
  | _ => none }
def LinearAllWrongFalsely : Prop := linearAllRow.holds Try.pinned (OpenSpec.ofChange linearAllWrong)

/-- 'decompilerlaw11.LinearBytes': WHATEVER THE INPUT: true; the input reads as it did. -/
def linearBytesSpec : ChangeSpec := { name := "linearBytes", fn := fun _ => fun
  | [d] => { results := [.lit (.bool true)], args := [d] }
  | _ => none }
def linearBytesRow : OpenClaim := { program := "ytfnedefgepjbpaa", sum := "cef1850d1df5bec339411361953b4c94642b5c22440ab5cc98b6d4e7e7e137b3", func := "decompiler/decompilerlaw11.LinearBytes", spec := "linearBytes", unfollowed := true, recurses := true, apart := false }
def LinearBytesSaid : Prop := linearBytesRow.holds Try.pinned (OpenSpec.ofChange linearBytesSpec)

/-- ITS FALSE NEIGHBOUR: 'it returns false'. Refute it at one input. -/
def linearBytesWrong : ChangeSpec := { name := "linearBytes", fn := fun _ => fun
  | [d] => { results := [.lit (.bool false)], args := [d] }
  | _ => none }
def LinearBytesWrongFalsely : Prop := linearBytesRow.holds Try.pinned (OpenSpec.ofChange linearBytesWrong)

/- THE SECOND FORM. 'bulk': how many values and letters a reading holds, each counted each time it is reached (what is shared counts as often as it is met; a slice's spare places count too). A statement '..UptoSaid' is the law's where the arguments, and the package variables that the reading takes, are together of bulk at most 1048576: NARROWER than '..Said'. Prove '..Said' where nothing that the law and all that it calls make is longer than what came in: it says more and counts as full. Else prove '..UptoSaid'. A law counts once. -/
mutual
def uptoBulk {H : Type} : DataW H → Nat
  | .lit (.string bytes) => bytes.length + 1
  | .lit _ => 1
  | .nil => 1
  | .ptr d => uptoBulk d + 1
  | .slice elems spare => uptoBulkAll elems + uptoBulkAll spare + 1
  | .agg parts => uptoBulkAll parts + 1
  | .iface _ d => uptoBulk d + 1
  | .map entries => uptoBulkEntries entries + 1
  | .held _ => 1
def uptoBulkAll {H : Type} : List (DataW H) → Nat
  | [] => 0
  | d :: r => uptoBulk d + uptoBulkAll r
def uptoBulkEntries {H : Type} : List (Lit × DataW H) → Nat
  | [] => 0
  | x :: r => uptoBulkEntry x + uptoBulkEntries r
def uptoBulkEntry {H : Type} : Lit × DataW H → Nat
  | (.string bytes, d) => bytes.length + uptoBulk d + 1
  | (_, d) => uptoBulk d + 1
 end
def uptoSmall : (H : Type) → List (DataW H) → Bool := fun _ ds => decide (uptoBulkAll ds ≤ 1048576)
def OpenSpec.upto (s : _root_.Go.ChangeSpec) : _root_.Go.OpenSpec := { _root_.Go.OpenSpec.ofChange s with cond := some uptoSmall }

/-- 'decompilerlaw11.LinearSweeps', WHERE WHAT IT READS IS OF BULK AT MOST 1048576: true; the input reads as it did. -/
def linearSweepsUptoRow : OpenClaim := { program := "ytfnedefgepjbpaa", sum := "cef1850d1df5bec339411361953b4c94642b5c22440ab5cc98b6d4e7e7e137b3", func := "decompiler/decompilerlaw11.LinearSweeps", spec := "linearSweeps", unfollowed := true, recurses := true, apart := false, narrowed := true }
def LinearSweepsUptoSaid : Prop := linearSweepsUptoRow.holds Try.pinned (OpenSpec.upto linearSweepsSpec)

/-- 'decompilerlaw11.LinearFinds', WHERE WHAT IT READS IS OF BULK AT MOST 1048576: true; the input reads as it did. -/
def linearFindsUptoRow : OpenClaim := { program := "ytfnedefgepjbpaa", sum := "cef1850d1df5bec339411361953b4c94642b5c22440ab5cc98b6d4e7e7e137b3", func := "decompiler/decompilerlaw11.LinearFinds", spec := "linearFinds", unfollowed := true, recurses := true, apart := false, narrowed := true }
def LinearFindsUptoSaid : Prop := linearFindsUptoRow.holds Try.pinned (OpenSpec.upto linearFindsSpec)

/-- 'decompilerlaw11.LinearRestarts', WHERE WHAT IT READS IS OF BULK AT MOST 1048576: true; the input reads as it did. -/
def linearRestartsUptoRow : OpenClaim := { program := "ytfnedefgepjbpaa", sum := "cef1850d1df5bec339411361953b4c94642b5c22440ab5cc98b6d4e7e7e137b3", func := "decompiler/decompilerlaw11.LinearRestarts", spec := "linearRestarts", unfollowed := true, recurses := true, apart := false, narrowed := true }
def LinearRestartsUptoSaid : Prop := linearRestartsUptoRow.holds Try.pinned (OpenSpec.upto linearRestartsSpec)

/-- 'decompilerlaw11.LinearCover', WHERE WHAT IT READS IS OF BULK AT MOST 1048576: true; the input reads as it did. -/
def linearCoverUptoRow : OpenClaim := { program := "ytfnedefgepjbpaa", sum := "cef1850d1df5bec339411361953b4c94642b5c22440ab5cc98b6d4e7e7e137b3", func := "decompiler/decompilerlaw11.LinearCover", spec := "linearCover", unfollowed := true, recurses := true, apart := false, narrowed := true }
def LinearCoverUptoSaid : Prop := linearCoverUptoRow.holds Try.pinned (OpenSpec.upto linearCoverSpec)

/-- 'decompilerlaw11.LinearAll', WHERE WHAT IT READS IS OF BULK AT MOST 1048576: true; the input reads as it did. -/
def linearAllUptoRow : OpenClaim := { program := "ytfnedefgepjbpaa", sum := "cef1850d1df5bec339411361953b4c94642b5c22440ab5cc98b6d4e7e7e137b3", func := "decompiler/decompilerlaw11.LinearAll", spec := "linearAll", unfollowed := true, recurses := true, apart := false, narrowed := true }
def LinearAllUptoSaid : Prop := linearAllUptoRow.holds Try.pinned (OpenSpec.upto linearAllSpec)

/-- 'decompilerlaw11.LinearBytes', WHERE WHAT IT READS IS OF BULK AT MOST 1048576: true; the input reads as it did. -/
def linearBytesUptoRow : OpenClaim := { program := "ytfnedefgepjbpaa", sum := "cef1850d1df5bec339411361953b4c94642b5c22440ab5cc98b6d4e7e7e137b3", func := "decompiler/decompilerlaw11.LinearBytes", spec := "linearBytes", unfollowed := true, recurses := true, apart := false, narrowed := true }
def LinearBytesUptoSaid : Prop := linearBytesUptoRow.holds Try.pinned (OpenSpec.upto linearBytesSpec)

end Rows
end Go.Proofs.Ytfnedefgepjbpaa
