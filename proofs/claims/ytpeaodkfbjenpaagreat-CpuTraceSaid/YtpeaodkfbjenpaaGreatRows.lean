/-
  No cell of these rows narrows 'for every input' (looked for: loops, veiled, ifaces, maps, wideKeys, modest, calm, conditions, laid).
  DERIVED. THE GIVEN ROWS OF THIS SEAT. 3 by the template 'for every input the law returns true; each argument reads behind the call as it read before'; 0 by the template 'total and deterministic' (their statements: YtpeaodkfbjenpaaGreatTotals.lean).
  GIVEN WITH THE SEED: the statements are not yours to turn. If you find one false, say at which input.
  Laid BY PROGRAM, IN A SANDBOX (cutbox-rows.mjs): the forced cells as the released guide's own fill.sh prints them over the translation c5c2a07b83459ceb… (all of the seat's roots in one cut). By AI agents, Wed Nov 11 2026. No macro, syntax, notation, axiom, sorry.
-/
import Derived.Test.YtpeaodkfbjenpaaGreatChecked
import GoSem.Claim
import GoSem.ClaimJoined
import GoSem.ClaimMapViews
import Derived.JoinedTies
import Derived.KernelRfl
namespace Go.Proofs.YtpeaodkfbjenpaaGreat
/- THE CELL 'sum', in the pinned program and in every row, IS THE sha256 OF THE DUMP (.gsa) THAT YtpeaodkfbjenpaaGreatProg.lean LOADS. Nothing in Lean hashes anything: it is a label: what it is worth is what the hold of that sum in a sandbox is worth. -/
noncomputable def Tryz.pinned : Pinned := { name := "ytpeaodkfbjenpaagreat", sum := "c5c2a07b83459ceb0e1a8f6422ba7c68fbfecacb16c4f249d09ce94cd65fcaef", checked := Tryz.checked }
namespace Rows
def none {H : Type} : Left H := { results := [], args := [] }

/-- 'decompilerlaw10.CpuRun': WHATEVER THE INPUT: true; the input reads as it did. -/
def cpuRunSpec : ChangeSpec := { name := "cpuRun", fn := fun _ => fun
  | [d1, d2, d3, d4] => { results := [.lit (.bool true)], args := [d1, d2, d3, d4] }
  | _ => none }
def cpuRunRow : OpenClaim := { program := "ytpeaodkfbjenpaagreat", sum := "c5c2a07b83459ceb0e1a8f6422ba7c68fbfecacb16c4f249d09ce94cd65fcaef", func := "decompiler/decompilerlaw10.CpuRun", spec := "cpuRun", inPlace := ["maps.clone"], unfollowed := true, recurses := true, apart := false }
def CpuRunSaid : Prop := cpuRunRow.holds Tryz.pinned (OpenSpec.ofChange cpuRunSpec)

/-- ITS FALSE NEIGHBOUR: 'it returns false'. Refute it at one input. -/
def cpuRunWrong : ChangeSpec := { name := "cpuRun", fn := fun _ => fun
  | [d1, d2, d3, d4] => { results := [.lit (.bool false)], args := [d1, d2, d3, d4] }
  | _ => none }
def CpuRunWrongFalsely : Prop := cpuRunRow.holds Tryz.pinned (OpenSpec.ofChange cpuRunWrong)

/-- 'decompilerlaw10.CpuTrace': WHATEVER THE INPUT: true; the input reads as it did. -/
def cpuTraceSpec : ChangeSpec := { name := "cpuTrace", fn := fun _ => fun
  | [d1, d2, d3, d4] => { results := [.lit (.bool true)], args := [d1, d2, d3, d4] }
  | _ => none }
def cpuTraceRow : OpenClaim := { program := "ytpeaodkfbjenpaagreat", sum := "c5c2a07b83459ceb0e1a8f6422ba7c68fbfecacb16c4f249d09ce94cd65fcaef", func := "decompiler/decompilerlaw10.CpuTrace", spec := "cpuTrace", inPlace := ["maps.clone"], unfollowed := true, recurses := true, apart := false }
def CpuTraceSaid : Prop := cpuTraceRow.holds Tryz.pinned (OpenSpec.ofChange cpuTraceSpec)

/-- ITS FALSE NEIGHBOUR: 'it returns false'. Refute it at one input. -/
def cpuTraceWrong : ChangeSpec := { name := "cpuTrace", fn := fun _ => fun
  | [d1, d2, d3, d4] => { results := [.lit (.bool false)], args := [d1, d2, d3, d4] }
  | _ => none }
def CpuTraceWrongFalsely : Prop := cpuTraceRow.holds Tryz.pinned (OpenSpec.ofChange cpuTraceWrong)

/-- 'decompilerlaw10.CpuStep': WHATEVER THE INPUT: true; the input reads as it did. -/
def cpuStepSpec : ChangeSpec := { name := "cpuStep", fn := fun _ => fun
  | [d1, d2, d3, d4] => { results := [.lit (.bool true)], args := [d1, d2, d3, d4] }
  | _ => none }
def cpuStepRow : OpenClaim := { program := "ytpeaodkfbjenpaagreat", sum := "c5c2a07b83459ceb0e1a8f6422ba7c68fbfecacb16c4f249d09ce94cd65fcaef", func := "decompiler/decompilerlaw10.CpuStep", spec := "cpuStep", inPlace := ["maps.clone"], unfollowed := true, recurses := true, apart := false }
def CpuStepSaid : Prop := cpuStepRow.holds Tryz.pinned (OpenSpec.ofChange cpuStepSpec)

/-- ITS FALSE NEIGHBOUR: 'it returns false'. Refute it at one input. -/
def cpuStepWrong : ChangeSpec := { name := "cpuStep", fn := fun _ => fun
  | [d1, d2, d3, d4] => { results := [.lit (.bool false)], args := [d1, d2, d3, d4] }
  | _ => none }
def CpuStepWrongFalsely : Prop := cpuStepRow.holds Tryz.pinned (OpenSpec.ofChange cpuStepWrong)

/- THE SECOND FORM. 'bulk': how many values and letters a reading holds, each counted each time it is reached (what is shared counts as often as it is met; a slice's spare places count too). A statement '..UptoSaid' is the law's where the arguments, and the package variables that the reading takes, are together of bulk at most 1048576: NARROWER than '..Said'. Prove '..Said' where nothing that the law and all that it calls make is longer than what came in: it says more and counts as full. Else prove '..UptoSaid'. A law counts once. -/
mutual
def uptoBulk {H : Type} : DataW H → Nat
  | .lit (.string bytes) => bytes.length + 1
  | .lit _ => 1
  | .nil => 1
  | .ptr d => uptoBulk d + 1
  | .slice elems spare => uptoBulkAll elems + uptoBulkAll spare + 1
  | .agg parts => uptoBulkAll parts + 1
  | .iface _ d => uptoBulk d + 1
  | .map entries => uptoBulkEntries entries + 1
  | .held _ => 1
def uptoBulkAll {H : Type} : List (DataW H) → Nat
  | [] => 0
  | d :: r => uptoBulk d + uptoBulkAll r
def uptoBulkEntries {H : Type} : List (Lit × DataW H) → Nat
  | [] => 0
  | x :: r => uptoBulkEntry x + uptoBulkEntries r
def uptoBulkEntry {H : Type} : Lit × DataW H → Nat
  | (.string bytes, d) => bytes.length + uptoBulk d + 1
  | (_, d) => uptoBulk d + 1
 end
def uptoSmall : (H : Type) → List (DataW H) → Bool := fun _ ds => decide (uptoBulkAll ds ≤ 1048576)
def OpenSpec.upto (s : _root_.Go.ChangeSpec) : _root_.Go.OpenSpec := { _root_.Go.OpenSpec.ofChange s with cond := some uptoSmall }

/-- 'decompilerlaw10.CpuRun', WHERE WHAT IT READS IS OF BULK AT MOST 1048576: true; the input reads as it did. -/
def cpuRunUptoRow : OpenClaim := { program := "ytpeaodkfbjenpaagreat", sum := "c5c2a07b83459ceb0e1a8f6422ba7c68fbfecacb16c4f249d09ce94cd65fcaef", func := "decompiler/decompilerlaw10.CpuRun", spec := "cpuRun", inPlace := ["maps.clone"], unfollowed := true, recurses := true, apart := false, narrowed := true }
def CpuRunUptoSaid : Prop := cpuRunUptoRow.holds Tryz.pinned (OpenSpec.upto cpuRunSpec)

/-- 'decompilerlaw10.CpuTrace', WHERE WHAT IT READS IS OF BULK AT MOST 1048576: true; the input reads as it did. -/
def cpuTraceUptoRow : OpenClaim := { program := "ytpeaodkfbjenpaagreat", sum := "c5c2a07b83459ceb0e1a8f6422ba7c68fbfecacb16c4f249d09ce94cd65fcaef", func := "decompiler/decompilerlaw10.CpuTrace", spec := "cpuTrace", inPlace := ["maps.clone"], unfollowed := true, recurses := true, apart := false, narrowed := true }
def CpuTraceUptoSaid : Prop := cpuTraceUptoRow.holds Tryz.pinned (OpenSpec.upto cpuTraceSpec)

/-- 'decompilerlaw10.CpuStep', WHERE WHAT IT READS IS OF BULK AT MOST 1048576: true; the input reads as it did. -/
def cpuStepUptoRow : OpenClaim := { program := "ytpeaodkfbjenpaagreat", sum := "c5c2a07b83459ceb0e1a8f6422ba7c68fbfecacb16c4f249d09ce94cd65fcaef", func := "decompiler/decompilerlaw10.CpuStep", spec := "cpuStep", inPlace := ["maps.clone"], unfollowed := true, recurses := true, apart := false, narrowed := true }
def CpuStepUptoSaid : Prop := cpuStepUptoRow.holds Tryz.pinned (OpenSpec.upto cpuStepSpec)

end Rows
end Go.Proofs.YtpeaodkfbjenpaaGreat
