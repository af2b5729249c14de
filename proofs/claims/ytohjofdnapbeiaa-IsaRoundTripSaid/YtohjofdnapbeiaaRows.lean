/-
  No cell of these rows narrows 'for every input' (looked for: loops, veiled, ifaces, maps, wideKeys, modest, calm, conditions, laid).
  DERIVED. THE GIVEN ROWS OF THIS SEAT. 8 by the template 'for every input the law returns true; each argument reads behind the call as it read before'; 0 by the template 'total and deterministic' (their statements: YtohjofdnapbeiaaTotals.lean).
  GIVEN WITH THE SEED: the statements are not yours to turn. If you find one false, say at which input.
  Laid BY PROGRAM, IN A SANDBOX (cutbox-rows.mjs): the forced cells as the released guide's own fill.sh prints them over the translation 21a81632d04510f7… (all of the seat's roots in one cut). By AI agents, Wed Nov 11 2026. No macro, syntax, notation, axiom, sorry.
-/
import Derived.Test.YtohjofdnapbeiaaChecked
import GoSem.Claim
import GoSem.ClaimJoined
import GoSem.ClaimMapViews
import Derived.JoinedTies
import Derived.KernelRfl
namespace Go.Proofs.Ytohjofdnapbeiaa
/- THE CELL 'sum', in the pinned program and in every row, IS THE sha256 OF THE DUMP (.gsa) THAT YtohjofdnapbeiaaProg.lean LOADS. Nothing in Lean hashes anything: it is a label: what it is worth is what the hold of that sum in a sandbox is worth. -/
noncomputable def Try.pinned : Pinned := { name := "ytohjofdnapbeiaa", sum := "21a81632d04510f7b83c67e8a76bd62285f6130eaacda166c9ddd82e8d940580", checked := Try.checked }
namespace Rows
def none {H : Type} : Left H := { results := [], args := [] }

/-- 'decompilerlaw03.IsaDecodes': WHATEVER THE INPUT: true; the input reads as it did. -/
def isaDecodesSpec : ChangeSpec := { name := "isaDecodes", fn := fun _ => fun
  | [d1, d2] => { results := [.lit (.bool true)], args := [d1, d2] }
  | _ => none }
def isaDecodesRow : OpenClaim := { program := "ytohjofdnapbeiaa", sum := "21a81632d04510f7b83c67e8a76bd62285f6130eaacda166c9ddd82e8d940580", func := "decompiler/decompilerlaw03.IsaDecodes", spec := "isaDecodes", recurses := true, apart := false }
def IsaDecodesSaid : Prop := isaDecodesRow.holds Try.pinned (OpenSpec.ofChange isaDecodesSpec)

/-- ITS FALSE NEIGHBOUR: 'it returns false'. Refute it at one input. -/
def isaDecodesWrong : ChangeSpec := { name := "isaDecodes", fn := fun _ => fun
  | [d1, d2] => { results := [.lit (.bool false)], args := [d1, d2] }
  | _ => none }
def IsaDecodesWrongFalsely : Prop := isaDecodesRow.holds Try.pinned (OpenSpec.ofChange isaDecodesWrong)

/-- 'decompilerlaw03.IsaPrefix': WHATEVER THE INPUT: true; the input reads as it did. -/
def isaPrefixSpec : ChangeSpec := { name := "isaPrefix", fn := fun _ => fun
  | [d] => { results := [.lit (.bool true)], args := [d] }
  | _ => none }
def isaPrefixRow : OpenClaim := { program := "ytohjofdnapbeiaa", sum := "21a81632d04510f7b83c67e8a76bd62285f6130eaacda166c9ddd82e8d940580", func := "decompiler/decompilerlaw03.IsaPrefix", spec := "isaPrefix", recurses := true, apart := false }
def IsaPrefixSaid : Prop := isaPrefixRow.holds Try.pinned (OpenSpec.ofChange isaPrefixSpec)

/-- ITS FALSE NEIGHBOUR: 'it returns false'. Refute it at one input. -/
def isaPrefixWrong : ChangeSpec := { name := "isaPrefix", fn := fun _ => fun
  | [d] => { results := [.lit (.bool false)], args := [d] }
  | _ => none }
def IsaPrefixWrongFalsely : Prop := isaPrefixRow.holds Try.pinned (OpenSpec.ofChange isaPrefixWrong)

/-- 'decompilerlaw03.IsaRegisters': WHATEVER THE INPUT: true; the input reads as it did. -/
def isaRegistersSpec : ChangeSpec := { name := "isaRegisters", fn := fun _ => fun
  | [d] => { results := [.lit (.bool true)], args := [d] }
  | _ => none }
def isaRegistersRow : OpenClaim := { program := "ytohjofdnapbeiaa", sum := "21a81632d04510f7b83c67e8a76bd62285f6130eaacda166c9ddd82e8d940580", func := "decompiler/decompilerlaw03.IsaRegisters", spec := "isaRegisters", recurses := true, apart := false }
def IsaRegistersSaid : Prop := isaRegistersRow.holds Try.pinned (OpenSpec.ofChange isaRegistersSpec)

/-- ITS FALSE NEIGHBOUR: 'it returns false'. Refute it at one input. -/
def isaRegistersWrong : ChangeSpec := { name := "isaRegisters", fn := fun _ => fun
  | [d] => { results := [.lit (.bool false)], args := [d] }
  | _ => none }
def IsaRegistersWrongFalsely : Prop := isaRegistersRow.holds Try.pinned (OpenSpec.ofChange isaRegistersWrong)

/-- 'decompilerlaw03.IsaRelative': WHATEVER THE INPUT: true; the input reads as it did. -/
def isaRelativeSpec : ChangeSpec := { name := "isaRelative", fn := fun _ => fun
  | [d1, d2, d3] => { results := [.lit (.bool true)], args := [d1, d2, d3] }
  | _ => none }
def isaRelativeRow : OpenClaim := { program := "ytohjofdnapbeiaa", sum := "21a81632d04510f7b83c67e8a76bd62285f6130eaacda166c9ddd82e8d940580", func := "decompiler/decompilerlaw03.IsaRelative", spec := "isaRelative", recurses := true, apart := false }
def IsaRelativeSaid : Prop := isaRelativeRow.holds Try.pinned (OpenSpec.ofChange isaRelativeSpec)

/-- ITS FALSE NEIGHBOUR: 'it returns false'. Refute it at one input. -/
def isaRelativeWrong : ChangeSpec := { name := "isaRelative", fn := fun _ => fun
  | [d1, d2, d3] => { results := [.lit (.bool false)], args := [d1, d2, d3] }
  | _ => none }
def IsaRelativeWrongFalsely : Prop := isaRelativeRow.holds Try.pinned (OpenSpec.ofChange isaRelativeWrong)

/-- 'decompilerlaw03.IsaEncodes': WHATEVER THE INPUT: true; the input reads as it did. -/
def isaEncodesSpec : ChangeSpec := { name := "isaEncodes", fn := fun _ => fun
  | [d] => { results := [.lit (.bool true)], args := [d] }
  | _ => none }
def isaEncodesRow : OpenClaim := { program := "ytohjofdnapbeiaa", sum := "21a81632d04510f7b83c67e8a76bd62285f6130eaacda166c9ddd82e8d940580", func := "decompiler/decompilerlaw03.IsaEncodes", spec := "isaEncodes", recurses := true, apart := false }
def IsaEncodesSaid : Prop := isaEncodesRow.holds Try.pinned (OpenSpec.ofChange isaEncodesSpec)

/-- ITS FALSE NEIGHBOUR: 'it returns false'. Refute it at one input. -/
def isaEncodesWrong : ChangeSpec := { name := "isaEncodes", fn := fun _ => fun
  | [d] => { results := [.lit (.bool false)], args := [d] }
  | _ => none }
def IsaEncodesWrongFalsely : Prop := isaEncodesRow.holds Try.pinned (OpenSpec.ofChange isaEncodesWrong)

/-- 'decompilerlaw03.IsaCanonical': WHATEVER THE INPUT: true; the input reads as it did. -/
def isaCanonicalSpec : ChangeSpec := { name := "isaCanonical", fn := fun _ => fun
  | [d1, d2] => { results := [.lit (.bool true)], args := [d1, d2] }
  | _ => none }
def isaCanonicalRow : OpenClaim := { program := "ytohjofdnapbeiaa", sum := "21a81632d04510f7b83c67e8a76bd62285f6130eaacda166c9ddd82e8d940580", func := "decompiler/decompilerlaw03.IsaCanonical", spec := "isaCanonical", recurses := true, apart := false }
def IsaCanonicalSaid : Prop := isaCanonicalRow.holds Try.pinned (OpenSpec.ofChange isaCanonicalSpec)

/-- ITS FALSE NEIGHBOUR: 'it returns false'. Refute it at one input. -/
def isaCanonicalWrong : ChangeSpec := { name := "isaCanonical", fn := fun _ => fun
  | [d1, d2] => { results := [.lit (.bool false)], args := [d1, d2] }
  | _ => none }
def IsaCanonicalWrongFalsely : Prop := isaCanonicalRow.holds Try.pinned (OpenSpec.ofChange isaCanonicalWrong)

/-- 'decompilerlaw03.IsaRoundTrip': WHATEVER THE INPUT: true; the input reads as it did. -/
def isaRoundTripSpec : ChangeSpec := { name := "isaRoundTrip", fn := fun _ => fun
  | [d1, d2] => { results := [.lit (.bool true)], args := [d1, d2] }
  | _ => none }
def isaRoundTripRow : OpenClaim := { program := "ytohjofdnapbeiaa", sum := "21a81632d04510f7b83c67e8a76bd62285f6130eaacda166c9ddd82e8d940580", func := "decompiler/decompilerlaw03.IsaRoundTrip", spec := "isaRoundTrip", recurses := true, apart := false }
def IsaRoundTripSaid : Prop := isaRoundTripRow.holds Try.pinned (OpenSpec.ofChange isaRoundTripSpec)

/-- ITS FALSE NEIGHBOUR: 'it returns false'. Refute it at one input. -/
def isaRoundTripWrong : ChangeSpec := { name := "isaRoundTrip", fn := fun _ => fun
  | [d1, d2] => { results := [.lit (.bool false)], args := [d1, d2] }
  | _ => none }
def IsaRoundTripWrongFalsely : Prop := isaRoundTripRow.holds Try.pinned (OpenSpec.ofChange isaRoundTripWrong)

/-- 'decompilerlaw03.IsaFlow': WHATEVER THE INPUT: true; the input reads as it did. -/
def isaFlowSpec : ChangeSpec := { name := "isaFlow", fn := fun _ => fun
  | [d] => { results := [.lit (.bool true)], args := [d] }
  | _ => none }
def isaFlowRow : OpenClaim := { program := "ytohjofdnapbeiaa", sum := "21a81632d04510f7b83c67e8a76bd62285f6130eaacda166c9ddd82e8d940580", func := "decompiler/decompilerlaw03.IsaFlow", spec := "isaFlow", recurses := true, apart := false }
def IsaFlowSaid : Prop := isaFlowRow.holds Try.pinned (OpenSpec.ofChange isaFlowSpec)

/-- ITS FALSE NEIGHBOUR: 'it returns false'. Refute it at one input. -/
def isaFlowWrong : ChangeSpec := { name := "isaFlow", fn := fun _ => fun
  | [d] => { results := [.lit (.bool false)], args := [d] }
  | _ => none }
def IsaFlowWrongFalsely : Prop := isaFlowRow.holds Try.pinned (OpenSpec.ofChange isaFlowWrong)

/- THE SECOND FORM. 'bulk': how many values and letters a reading holds, each counted each time it is reached (what is shared counts as often as it is met; a slice's spare places count too). A statement '..UptoSaid' is the law's where the arguments, and the package variables that the reading takes, are together of bulk at most 1048576: NARROWER than '..Said'. Prove '..Said' where nothing that the law and all that it calls make is longer than what came in: it says more and counts as full. Else prove '..UptoSaid'. A law counts once. -/
mutual
def uptoBulk {H : Type} : DataW H → Nat
  | .lit (.string bytes) => bytes.length + 1
  | .lit _ => 1
  | .nil => 1
  | .ptr d => uptoBulk d + 1
  | .slice elems spare => uptoBulkAll elems + uptoBulkAll spare + 1
  | .agg parts => uptoBulkAll parts + 1
  | .iface _ d => uptoBulk d + 1
  | .map entries => uptoBulkEntries entries + 1
  | .held _ => 1
def uptoBulkAll {H : Type} : List (DataW H) → Nat
  | [] => 0
  | d :: r => uptoBulk d + uptoBulkAll r
def uptoBulkEntries {H : Type} : List (Lit × DataW H) → Nat
  | [] => 0
  | x :: r => uptoBulkEntry x + uptoBulkEntries r
def uptoBulkEntry {H : Type} : Lit × DataW H → Nat
  | (.string bytes, d) => bytes.length + uptoBulk d + 1
  | (_, d) => uptoBulk d + 1
 end
def uptoSmall : (H : Type) → List (DataW H) → Bool := fun _ ds => decide (uptoBulkAll ds ≤ 1048576)
def OpenSpec.upto (s : _root_.Go.ChangeSpec) : _root_.Go.OpenSpec := { _root_.Go.OpenSpec.ofChange s with cond := some uptoSmall }

/-- 'decompilerlaw03.IsaDecodes', WHERE WHAT IT READS IS OF BULK AT MOST 1048576: true; the input reads as it did. -/
def isaDecodesUptoRow : OpenClaim := { program := "ytohjofdnapbeiaa", sum := "21a81632d04510f7b83c67e8a76bd62285f6130eaacda166c9ddd82e8d940580", func := "decompiler/decompilerlaw03.IsaDecodes", spec := "isaDecodes", recurses := true, apart := false, narrowed := true }
def IsaDecodesUptoSaid : Prop := isaDecodesUptoRow.holds Try.pinned (OpenSpec.upto isaDecodesSpec)

/-- 'decompilerlaw03.IsaPrefix', WHERE WHAT IT READS IS OF BULK AT MOST 1048576: true; the input reads as it did. -/
def isaPrefixUptoRow : OpenClaim := { program := "ytohjofdnapbeiaa", sum := "21a81632d04510f7b83c67e8a76bd62285f6130eaacda166c9ddd82e8d940580", func := "decompiler/decompilerlaw03.IsaPrefix", spec := "isaPrefix", recurses := true, apart := false, narrowed := true }
def IsaPrefixUptoSaid : Prop := isaPrefixUptoRow.holds Try.pinned (OpenSpec.upto isaPrefixSpec)

/-- 'decompilerlaw03.IsaRegisters', WHERE WHAT IT READS IS OF BULK AT MOST 1048576: true; the input reads as it did. -/
def isaRegistersUptoRow : OpenClaim := { program := "ytohjofdnapbeiaa", sum := "21a81632d04510f7b83c67e8a76bd62285f6130eaacda166c9ddd82e8d940580", func := "decompiler/decompilerlaw03.IsaRegisters", spec := "isaRegisters", recurses := true, apart := false, narrowed := true }
def IsaRegistersUptoSaid : Prop := isaRegistersUptoRow.holds Try.pinned (OpenSpec.upto isaRegistersSpec)

/-- 'decompilerlaw03.IsaRelative', WHERE WHAT IT READS IS OF BULK AT MOST 1048576: true; the input reads as it did. -/
def isaRelativeUptoRow : OpenClaim := { program := "ytohjofdnapbeiaa", sum := "21a81632d04510f7b83c67e8a76bd62285f6130eaacda166c9ddd82e8d940580", func := "decompiler/decompilerlaw03.IsaRelative", spec := "isaRelative", recurses := true, apart := false, narrowed := true }
def IsaRelativeUptoSaid : Prop := isaRelativeUptoRow.holds Try.pinned (OpenSpec.upto isaRelativeSpec)

/-- 'decompilerlaw03.IsaEncodes', WHERE WHAT IT READS IS OF BULK AT MOST 1048576: true; the input reads as it did. -/
def isaEncodesUptoRow : OpenClaim := { program := "ytohjofdnapbeiaa", sum := "21a81632d04510f7b83c67e8a76bd62285f6130eaacda166c9ddd82e8d940580", func := "decompiler/decompilerlaw03.IsaEncodes", spec := "isaEncodes", recurses := true, apart := false, narrowed := true }
def IsaEncodesUptoSaid : Prop := isaEncodesUptoRow.holds Try.pinned (OpenSpec.upto isaEncodesSpec)

/-- 'decompilerlaw03.IsaCanonical', WHERE WHAT IT READS IS OF BULK AT MOST 1048576: true; the input reads as it did. -/
def isaCanonicalUptoRow : OpenClaim := { program := "ytohjofdnapbeiaa", sum := "21a81632d04510f7b83c67e8a76bd62285f6130eaacda166c9ddd82e8d940580", func := "decompiler/decompilerlaw03.IsaCanonical", spec := "isaCanonical", recurses := true, apart := false, narrowed := true }
def IsaCanonicalUptoSaid : Prop := isaCanonicalUptoRow.holds Try.pinned (OpenSpec.upto isaCanonicalSpec)

/-- 'decompilerlaw03.IsaRoundTrip', WHERE WHAT IT READS IS OF BULK AT MOST 1048576: true; the input reads as it did. -/
def isaRoundTripUptoRow : OpenClaim := { program := "ytohjofdnapbeiaa", sum := "21a81632d04510f7b83c67e8a76bd62285f6130eaacda166c9ddd82e8d940580", func := "decompiler/decompilerlaw03.IsaRoundTrip", spec := "isaRoundTrip", recurses := true, apart := false, narrowed := true }
def IsaRoundTripUptoSaid : Prop := isaRoundTripUptoRow.holds Try.pinned (OpenSpec.upto isaRoundTripSpec)

/-- 'decompilerlaw03.IsaFlow', WHERE WHAT IT READS IS OF BULK AT MOST 1048576: true; the input reads as it did. -/
def isaFlowUptoRow : OpenClaim := { program := "ytohjofdnapbeiaa", sum := "21a81632d04510f7b83c67e8a76bd62285f6130eaacda166c9ddd82e8d940580", func := "decompiler/decompilerlaw03.IsaFlow", spec := "isaFlow", recurses := true, apart := false, narrowed := true }
def IsaFlowUptoSaid : Prop := isaFlowUptoRow.holds Try.pinned (OpenSpec.upto isaFlowSpec)

end Rows
end Go.Proofs.Ytohjofdnapbeiaa
