/-
  No cell of these rows narrows 'for every input' (looked for: loops, veiled, ifaces, maps, wideKeys, modest, calm, conditions, laid).
  DERIVED. THE GIVEN ROWS OF THIS SEAT. 13 by the template 'for every input the law returns true; each argument reads behind the call as it read before'; 0 by the template 'total and deterministic' (their statements: YtfmhhakhbopfdaaTotals.lean).
  GIVEN WITH THE SEED: the statements are not yours to turn. If you find one false, say at which input.
  Laid BY PROGRAM, IN A SANDBOX (cutbox-rows.mjs): the forced cells as the released guide's own fill.sh prints them over the translation 4c280bbfeaa1851a… (all of the seat's roots in one cut). By AI agents, Wed Nov 11 2026. No macro, syntax, notation, axiom, sorry.
-/
import Derived.Test.YtfmhhakhbopfdaaChecked
import GoSem.Claim
import GoSem.ClaimJoined
import GoSem.ClaimMapViews
import Derived.JoinedTies
import Derived.KernelRfl
namespace Go.Proofs.Ytfmhhakhbopfdaa
/- THE CELL 'sum', in the pinned program and in every row, IS THE sha256 OF THE DUMP (.gsa) THAT YtfmhhakhbopfdaaProg.lean LOADS. Nothing in Lean hashes anything: it is a label: what it is worth is what the hold of that sum in a sandbox is worth. -/
noncomputable def Try.pinned : Pinned := { name := "ytfmhhakhbopfdaa", sum := "4c280bbfeaa1851af92da12318354f73edf19d4ab66dd146b4bfddc5fcaccc45", checked := Try.checked }
namespace Rows
def none {H : Type} : Left H := { results := [], args := [] }

/-- 'decompilerlaw02.ImagePuts': WHATEVER THE INPUT: true; the input reads as it did. -/
def imagePutsSpec : ChangeSpec := { name := "imagePuts", fn := fun _ => fun
  | [d1, d2, d3, d4] => { results := [.lit (.bool true)], args := [d1, d2, d3, d4] }
  | _ => none }
def imagePutsRow : OpenClaim := { program := "ytfmhhakhbopfdaa", sum := "4c280bbfeaa1851af92da12318354f73edf19d4ab66dd146b4bfddc5fcaccc45", func := "decompiler/decompilerlaw02.ImagePuts", spec := "imagePuts", unfollowed := true, recurses := true, apart := false }
def ImagePutsSaid : Prop := imagePutsRow.holds Try.pinned (OpenSpec.ofChange imagePutsSpec)

/-- ITS FALSE NEIGHBOUR: 'it returns false'. Refute it at one input. -/
def imagePutsWrong : ChangeSpec := { name := "imagePuts", fn := fun _ => fun
  | [d1, d2, d3, d4] => { results := [.lit (.bool false)], args := [d1, d2, d3, d4] }
  | _ => none }
def ImagePutsWrongFalsely : Prop := imagePutsRow.holds Try.pinned (OpenSpec.ofChange imagePutsWrong)

/-- 'decompilerlaw02.ImageNormals': WHATEVER THE INPUT: true; the input reads as it did. -/
def imageNormalsSpec : ChangeSpec := { name := "imageNormals", fn := fun _ => fun
  | [d1, d2] => { results := [.lit (.bool true)], args := [d1, d2] }
  | _ => none }
def imageNormalsRow : OpenClaim := { program := "ytfmhhakhbopfdaa", sum := "4c280bbfeaa1851af92da12318354f73edf19d4ab66dd146b4bfddc5fcaccc45", func := "decompiler/decompilerlaw02.ImageNormals", spec := "imageNormals", unfollowed := true, recurses := true, apart := false }
def ImageNormalsSaid : Prop := imageNormalsRow.holds Try.pinned (OpenSpec.ofChange imageNormalsSpec)

/-- ITS FALSE NEIGHBOUR: 'it returns false'. Refute it at one input. -/
def imageNormalsWrong : ChangeSpec := { name := "imageNormals", fn := fun _ => fun
  | [d1, d2] => { results := [.lit (.bool false)], args := [d1, d2] }
  | _ => none }
def ImageNormalsWrongFalsely : Prop := imageNormalsRow.holds Try.pinned (OpenSpec.ofChange imageNormalsWrong)

/-- 'decompilerlaw02.ImageTexts': WHATEVER THE INPUT: true; the input reads as it did. -/
def imageTextsSpec : ChangeSpec := { name := "imageTexts", fn := fun _ => fun
  | [d1, d2, d3] => { results := [.lit (.bool true)], args := [d1, d2, d3] }
  | _ => none }
def imageTextsRow : OpenClaim := { program := "ytfmhhakhbopfdaa", sum := "4c280bbfeaa1851af92da12318354f73edf19d4ab66dd146b4bfddc5fcaccc45", func := "decompiler/decompilerlaw02.ImageTexts", spec := "imageTexts", unfollowed := true, recurses := true, apart := false }
def ImageTextsSaid : Prop := imageTextsRow.holds Try.pinned (OpenSpec.ofChange imageTextsSpec)

/-- ITS FALSE NEIGHBOUR: 'it returns false'. Refute it at one input. -/
def imageTextsWrong : ChangeSpec := { name := "imageTexts", fn := fun _ => fun
  | [d1, d2, d3] => { results := [.lit (.bool false)], args := [d1, d2, d3] }
  | _ => none }
def ImageTextsWrongFalsely : Prop := imageTextsRow.holds Try.pinned (OpenSpec.ofChange imageTextsWrong)

/-- 'decompilerlaw02.ImageSets': WHATEVER THE INPUT: true; the input reads as it did. -/
def imageSetsSpec : ChangeSpec := { name := "imageSets", fn := fun _ => fun
  | [d1, d2] => { results := [.lit (.bool true)], args := [d1, d2] }
  | _ => none }
def imageSetsRow : OpenClaim := { program := "ytfmhhakhbopfdaa", sum := "4c280bbfeaa1851af92da12318354f73edf19d4ab66dd146b4bfddc5fcaccc45", func := "decompiler/decompilerlaw02.ImageSets", spec := "imageSets", unfollowed := true, recurses := true, apart := false }
def ImageSetsSaid : Prop := imageSetsRow.holds Try.pinned (OpenSpec.ofChange imageSetsSpec)

/-- ITS FALSE NEIGHBOUR: 'it returns false'. Refute it at one input. -/
def imageSetsWrong : ChangeSpec := { name := "imageSets", fn := fun _ => fun
  | [d1, d2] => { results := [.lit (.bool false)], args := [d1, d2] }
  | _ => none }
def ImageSetsWrongFalsely : Prop := imageSetsRow.holds Try.pinned (OpenSpec.ofChange imageSetsWrong)

/-- 'decompilerlaw02.ImageBack': WHATEVER THE INPUT: true; the input reads as it did. -/
def imageBackSpec : ChangeSpec := { name := "imageBack", fn := fun _ => fun
  | [d1, d2, d3, d4] => { results := [.lit (.bool true)], args := [d1, d2, d3, d4] }
  | _ => none }
def imageBackRow : OpenClaim := { program := "ytfmhhakhbopfdaa", sum := "4c280bbfeaa1851af92da12318354f73edf19d4ab66dd146b4bfddc5fcaccc45", func := "decompiler/decompilerlaw02.ImageBack", spec := "imageBack", unfollowed := true, recurses := true, apart := false }
def ImageBackSaid : Prop := imageBackRow.holds Try.pinned (OpenSpec.ofChange imageBackSpec)

/-- ITS FALSE NEIGHBOUR: 'it returns false'. Refute it at one input. -/
def imageBackWrong : ChangeSpec := { name := "imageBack", fn := fun _ => fun
  | [d1, d2, d3, d4] => { results := [.lit (.bool false)], args := [d1, d2, d3, d4] }
  | _ => none }
def ImageBackWrongFalsely : Prop := imageBackRow.holds Try.pinned (OpenSpec.ofChange imageBackWrong)

/-- 'decompilerlaw02.ImageRanges': WHATEVER THE INPUT: true; the input reads as it did. -/
def imageRangesSpec : ChangeSpec := { name := "imageRanges", fn := fun _ => fun
  | [d1, d2, d3] => { results := [.lit (.bool true)], args := [d1, d2, d3] }
  | _ => none }
def imageRangesRow : OpenClaim := { program := "ytfmhhakhbopfdaa", sum := "4c280bbfeaa1851af92da12318354f73edf19d4ab66dd146b4bfddc5fcaccc45", func := "decompiler/decompilerlaw02.ImageRanges", spec := "imageRanges", unfollowed := true, recurses := true, apart := false }
def ImageRangesSaid : Prop := imageRangesRow.holds Try.pinned (OpenSpec.ofChange imageRangesSpec)

/-- ITS FALSE NEIGHBOUR: 'it returns false'. Refute it at one input. -/
def imageRangesWrong : ChangeSpec := { name := "imageRanges", fn := fun _ => fun
  | [d1, d2, d3] => { results := [.lit (.bool false)], args := [d1, d2, d3] }
  | _ => none }
def ImageRangesWrongFalsely : Prop := imageRangesRow.holds Try.pinned (OpenSpec.ofChange imageRangesWrong)

/-- 'decompilerlaw05.SectionPlaces': WHATEVER THE INPUT: true; the input reads as it did. -/
def sectionPlacesSpec : ChangeSpec := { name := "sectionPlaces", fn := fun _ => fun
  | [d1, d2, d3] => { results := [.lit (.bool true)], args := [d1, d2, d3] }
  | _ => none }
def sectionPlacesRow : OpenClaim := { program := "ytfmhhakhbopfdaa", sum := "4c280bbfeaa1851af92da12318354f73edf19d4ab66dd146b4bfddc5fcaccc45", func := "decompiler/decompilerlaw05.SectionPlaces", spec := "sectionPlaces", unfollowed := true, recurses := true, apart := false }
def SectionPlacesSaid : Prop := sectionPlacesRow.holds Try.pinned (OpenSpec.ofChange sectionPlacesSpec)

/-- ITS FALSE NEIGHBOUR: 'it returns false'. Refute it at one input. -/
def sectionPlacesWrong : ChangeSpec := { name := "sectionPlaces", fn := fun _ => fun
  | [d1, d2, d3] => { results := [.lit (.bool false)], args := [d1, d2, d3] }
  | _ => none }
def SectionPlacesWrongFalsely : Prop := sectionPlacesRow.holds Try.pinned (OpenSpec.ofChange sectionPlacesWrong)

/-- 'decompilerlaw05.SectionFinds': WHATEVER THE INPUT: true; the input reads as it did. -/
def sectionFindsSpec : ChangeSpec := { name := "sectionFinds", fn := fun _ => fun
  | [d1, d2] => { results := [.lit (.bool true)], args := [d1, d2] }
  | _ => none }
def sectionFindsRow : OpenClaim := { program := "ytfmhhakhbopfdaa", sum := "4c280bbfeaa1851af92da12318354f73edf19d4ab66dd146b4bfddc5fcaccc45", func := "decompiler/decompilerlaw05.SectionFinds", spec := "sectionFinds", unfollowed := true, recurses := true, apart := false }
def SectionFindsSaid : Prop := sectionFindsRow.holds Try.pinned (OpenSpec.ofChange sectionFindsSpec)

/-- ITS FALSE NEIGHBOUR: 'it returns false'. Refute it at one input. -/
def sectionFindsWrong : ChangeSpec := { name := "sectionFinds", fn := fun _ => fun
  | [d1, d2] => { results := [.lit (.bool false)], args := [d1, d2] }
  | _ => none }
def SectionFindsWrongFalsely : Prop := sectionFindsRow.holds Try.pinned (OpenSpec.ofChange sectionFindsWrong)

/-- 'decompilerlaw05.SectionBytes': WHATEVER THE INPUT: true; the input reads as it did. -/
def sectionBytesSpec : ChangeSpec := { name := "sectionBytes", fn := fun _ => fun
  | [d1, d2, d3, d4] => { results := [.lit (.bool true)], args := [d1, d2, d3, d4] }
  | _ => none }
def sectionBytesRow : OpenClaim := { program := "ytfmhhakhbopfdaa", sum := "4c280bbfeaa1851af92da12318354f73edf19d4ab66dd146b4bfddc5fcaccc45", func := "decompiler/decompilerlaw05.SectionBytes", spec := "sectionBytes", unfollowed := true, recurses := true, apart := false }
def SectionBytesSaid : Prop := sectionBytesRow.holds Try.pinned (OpenSpec.ofChange sectionBytesSpec)

/-- ITS FALSE NEIGHBOUR: 'it returns false'. Refute it at one input. -/
def sectionBytesWrong : ChangeSpec := { name := "sectionBytes", fn := fun _ => fun
  | [d1, d2, d3, d4] => { results := [.lit (.bool false)], args := [d1, d2, d3, d4] }
  | _ => none }
def SectionBytesWrongFalsely : Prop := sectionBytesRow.holds Try.pinned (OpenSpec.ofChange sectionBytesWrong)

/-- 'decompilerlaw05.SectionReads': WHATEVER THE INPUT: true; the input reads as it did. -/
def sectionReadsSpec : ChangeSpec := { name := "sectionReads", fn := fun _ => fun
  | [d1, d2, d3, d4] => { results := [.lit (.bool true)], args := [d1, d2, d3, d4] }
  | _ => none }
def sectionReadsRow : OpenClaim := { program := "ytfmhhakhbopfdaa", sum := "4c280bbfeaa1851af92da12318354f73edf19d4ab66dd146b4bfddc5fcaccc45", func := "decompiler/decompilerlaw05.SectionReads", spec := "sectionReads", unfollowed := true, recurses := true, apart := false }
def SectionReadsSaid : Prop := sectionReadsRow.holds Try.pinned (OpenSpec.ofChange sectionReadsSpec)

/-- ITS FALSE NEIGHBOUR: 'it returns false'. Refute it at one input. -/
def sectionReadsWrong : ChangeSpec := { name := "sectionReads", fn := fun _ => fun
  | [d1, d2, d3, d4] => { results := [.lit (.bool false)], args := [d1, d2, d3, d4] }
  | _ => none }
def SectionReadsWrongFalsely : Prop := sectionReadsRow.holds Try.pinned (OpenSpec.ofChange sectionReadsWrong)

/-- 'decompilerlaw05.SectionChecks': WHATEVER THE INPUT: true; the input reads as it did. -/
def sectionChecksSpec : ChangeSpec := { name := "sectionChecks", fn := fun _ => fun
  | [d1, d2] => { results := [.lit (.bool true)], args := [d1, d2] }
  | _ => none }
def sectionChecksRow : OpenClaim := { program := "ytfmhhakhbopfdaa", sum := "4c280bbfeaa1851af92da12318354f73edf19d4ab66dd146b4bfddc5fcaccc45", func := "decompiler/decompilerlaw05.SectionChecks", spec := "sectionChecks", unfollowed := true, recurses := true, apart := false }
def SectionChecksSaid : Prop := sectionChecksRow.holds Try.pinned (OpenSpec.ofChange sectionChecksSpec)

/-- ITS FALSE NEIGHBOUR: 'it returns false'. Refute it at one input. -/
def sectionChecksWrong : ChangeSpec := { name := "sectionChecks", fn := fun _ => fun
  | [d1, d2] => { results := [.lit (.bool false)], args := [d1, d2] }
  | _ => none }
def SectionChecksWrongFalsely : Prop := sectionChecksRow.holds Try.pinned (OpenSpec.ofChange sectionChecksWrong)

/-- 'decompilerlaw05.SectionFree': WHATEVER THE INPUT: true; the input reads as it did. -/
def sectionFreeSpec : ChangeSpec := { name := "sectionFree", fn := fun _ => fun
  | [d1, d2, d3] => { results := [.lit (.bool true)], args := [d1, d2, d3] }
  | _ => none }
def sectionFreeRow : OpenClaim := { program := "ytfmhhakhbopfdaa", sum := "4c280bbfeaa1851af92da12318354f73edf19d4ab66dd146b4bfddc5fcaccc45", func := "decompiler/decompilerlaw05.SectionFree", spec := "sectionFree", unfollowed := true, recurses := true, apart := false }
def SectionFreeSaid : Prop := sectionFreeRow.holds Try.pinned (OpenSpec.ofChange sectionFreeSpec)

/-- ITS FALSE NEIGHBOUR: 'it returns false'. Refute it at one input. -/
def sectionFreeWrong : ChangeSpec := { name := "sectionFree", fn := fun _ => fun
  | [d1, d2, d3] => { results := [.lit (.bool false)], args := [d1, d2, d3] }
  | _ => none }
def SectionFreeWrongFalsely : Prop := sectionFreeRow.holds Try.pinned (OpenSpec.ofChange sectionFreeWrong)

/-- 'decompilerlaw05.SectionLists': WHATEVER THE INPUT: true; the input reads as it did. -/
def sectionListsSpec : ChangeSpec := { name := "sectionLists", fn := fun _ => fun
  | [d] => { results := [.lit (.bool true)], args := [d] }
  | _ => none }
def sectionListsRow : OpenClaim := { program := "ytfmhhakhbopfdaa", sum := "4c280bbfeaa1851af92da12318354f73edf19d4ab66dd146b4bfddc5fcaccc45", func := "decompiler/decompilerlaw05.SectionLists", spec := "sectionLists", unfollowed := true, recurses := true, apart := false }
def SectionListsSaid : Prop := sectionListsRow.holds Try.pinned (OpenSpec.ofChange sectionListsSpec)

/-- ITS FALSE NEIGHBOUR: 'it returns false'. Refute it at one input. -/
def sectionListsWrong : ChangeSpec := { name := "sectionLists", fn := fun _ => fun
  | [d] => { results := [.lit (.bool false)], args := [d] }
  | _ => none }
def SectionListsWrongFalsely : Prop := sectionListsRow.holds Try.pinned (OpenSpec.ofChange sectionListsWrong)

/- THE SECOND FORM. 'bulk': how many values and letters a reading holds, each counted each time it is reached (what is shared counts as often as it is met; a slice's spare places count too). A statement '..UptoSaid' is the law's where the arguments, and the package variables that the reading takes, are together of bulk at most 1048576: NARROWER than '..Said'. Prove '..Said' where nothing that the law and all that it calls make is longer than what came in: it says more and counts as full. Else prove '..UptoSaid'. A law counts once. -/
mutual
def uptoBulk {H : Type} : DataW H → Nat
  | .lit (.string bytes) => bytes.length + 1
  | .lit _ => 1
  | .nil => 1
  | .ptr d => uptoBulk d + 1
  | .slice elems spare => uptoBulkAll elems + uptoBulkAll spare + 1
  | .agg parts => uptoBulkAll parts + 1
  | .iface _ d => uptoBulk d + 1
  | .map entries => uptoBulkEntries entries + 1
  | .held _ => 1
def uptoBulkAll {H : Type} : List (DataW H) → Nat
  | [] => 0
  | d :: r => uptoBulk d + uptoBulkAll r
def uptoBulkEntries {H : Type} : List (Lit × DataW H) → Nat
  | [] => 0
  | x :: r => uptoBulkEntry x + uptoBulkEntries r
def uptoBulkEntry {H : Type} : Lit × DataW H → Nat
  | (.string bytes, d) => bytes.length + uptoBulk d + 1
  | (_, d) => uptoBulk d + 1
 end
def uptoSmall : (H : Type) → List (DataW H) → Bool := fun _ ds => decide (uptoBulkAll ds ≤ 1048576)
def OpenSpec.upto (s : _root_.Go.ChangeSpec) : _root_.Go.OpenSpec := { _root_.Go.OpenSpec.ofChange s with cond := some uptoSmall }

/-- 'decompilerlaw02.ImagePuts', WHERE WHAT IT READS IS OF BULK AT MOST 1048576: true; the input reads as it did. -/
def imagePutsUptoRow : OpenClaim := { program := "ytfmhhakhbopfdaa", sum := "4c280bbfeaa1851af92da12318354f73edf19d4ab66dd146b4bfddc5fcaccc45", func := "decompiler/decompilerlaw02.ImagePuts", spec := "imagePuts", unfollowed := true, recurses := true, apart := false, narrowed := true }
def ImagePutsUptoSaid : Prop := imagePutsUptoRow.holds Try.pinned (OpenSpec.upto imagePutsSpec)

/-- 'decompilerlaw02.ImageNormals', WHERE WHAT IT READS IS OF BULK AT MOST 1048576: true; the input reads as it did. -/
def imageNormalsUptoRow : OpenClaim := { program := "ytfmhhakhbopfdaa", sum := "4c280bbfeaa1851af92da12318354f73edf19d4ab66dd146b4bfddc5fcaccc45", func := "decompiler/decompilerlaw02.ImageNormals", spec := "imageNormals", unfollowed := true, recurses := true, apart := false, narrowed := true }
def ImageNormalsUptoSaid : Prop := imageNormalsUptoRow.holds Try.pinned (OpenSpec.upto imageNormalsSpec)

/-- 'decompilerlaw02.ImageTexts', WHERE WHAT IT READS IS OF BULK AT MOST 1048576: true; the input reads as it did. -/
def imageTextsUptoRow : OpenClaim := { program := "ytfmhhakhbopfdaa", sum := "4c280bbfeaa1851af92da12318354f73edf19d4ab66dd146b4bfddc5fcaccc45", func := "decompiler/decompilerlaw02.ImageTexts", spec := "imageTexts", unfollowed := true, recurses := true, apart := false, narrowed := true }
def ImageTextsUptoSaid : Prop := imageTextsUptoRow.holds Try.pinned (OpenSpec.upto imageTextsSpec)

/-- 'decompilerlaw02.ImageSets', WHERE WHAT IT READS IS OF BULK AT MOST 1048576: true; the input reads as it did. -/
def imageSetsUptoRow : OpenClaim := { program := "ytfmhhakhbopfdaa", sum := "4c280bbfeaa1851af92da12318354f73edf19d4ab66dd146b4bfddc5fcaccc45", func := "decompiler/decompilerlaw02.ImageSets", spec := "imageSets", unfollowed := true, recurses := true, apart := false, narrowed := true }
def ImageSetsUptoSaid : Prop := imageSetsUptoRow.holds Try.pinned (OpenSpec.upto imageSetsSpec)

/-- 'decompilerlaw02.ImageBack', WHERE WHAT IT READS IS OF BULK AT MOST 1048576: true; the input reads as it did. -/
def imageBackUptoRow : OpenClaim := { program := "ytfmhhakhbopfdaa", sum := "4c280bbfeaa1851af92da12318354f73edf19d4ab66dd146b4bfddc5fcaccc45", func := "decompiler/decompilerlaw02.ImageBack", spec := "imageBack", unfollowed := true, recurses := true, apart := false, narrowed := true }
def ImageBackUptoSaid : Prop := imageBackUptoRow.holds Try.pinned (OpenSpec.upto imageBackSpec)

/-- 'decompilerlaw02.ImageRanges', WHERE WHAT IT READS IS OF BULK AT MOST 1048576: true; the input reads as it did. -/
def imageRangesUptoRow : OpenClaim := { program := "ytfmhhakhbopfdaa", sum := "4c280bbfeaa1851af92da12318354f73edf19d4ab66dd146b4bfddc5fcaccc45", func := "decompiler/decompilerlaw02.ImageRanges", spec := "imageRanges", unfollowed := true, recurses := true, apart := false, narrowed := true }
def ImageRangesUptoSaid : Prop := imageRangesUptoRow.holds Try.pinned (OpenSpec.upto imageRangesSpec)

/-- 'decompilerlaw05.SectionPlaces', WHERE WHAT IT READS IS OF BULK AT MOST 1048576: true; the input reads as it did. -/
def sectionPlacesUptoRow : OpenClaim := { program := "ytfmhhakhbopfdaa", sum := "4c280bbfeaa1851af92da12318354f73edf19d4ab66dd146b4bfddc5fcaccc45", func := "decompiler/decompilerlaw05.SectionPlaces", spec := "sectionPlaces", unfollowed := true, recurses := true, apart := false, narrowed := true }
def SectionPlacesUptoSaid : Prop := sectionPlacesUptoRow.holds Try.pinned (OpenSpec.upto sectionPlacesSpec)

/-- 'decompilerlaw05.SectionFinds', WHERE WHAT IT READS IS OF BULK AT MOST 1048576: true; the input reads as it did. -/
def sectionFindsUptoRow : OpenClaim := { program := "ytfmhhakhbopfdaa", sum := "4c280bbfeaa1851af92da12318354f73edf19d4ab66dd146b4bfddc5fcaccc45", func := "decompiler/decompilerlaw05.SectionFinds", spec := "sectionFinds", unfollowed := true, recurses := true, apart := false, narrowed := true }
def SectionFindsUptoSaid : Prop := sectionFindsUptoRow.holds Try.pinned (OpenSpec.upto sectionFindsSpec)

/-- 'decompilerlaw05.SectionBytes', WHERE WHAT IT READS IS OF BULK AT MOST 1048576: true; the input reads as it did. -/
def sectionBytesUptoRow : OpenClaim := { program := "ytfmhhakhbopfdaa", sum := "4c280bbfeaa1851af92da12318354f73edf19d4ab66dd146b4bfddc5fcaccc45", func := "decompiler/decompilerlaw05.SectionBytes", spec := "sectionBytes", unfollowed := true, recurses := true, apart := false, narrowed := true }
def SectionBytesUptoSaid : Prop := sectionBytesUptoRow.holds Try.pinned (OpenSpec.upto sectionBytesSpec)

/-- 'decompilerlaw05.SectionReads', WHERE WHAT IT READS IS OF BULK AT MOST 1048576: true; the input reads as it did. -/
def sectionReadsUptoRow : OpenClaim := { program := "ytfmhhakhbopfdaa", sum := "4c280bbfeaa1851af92da12318354f73edf19d4ab66dd146b4bfddc5fcaccc45", func := "decompiler/decompilerlaw05.SectionReads", spec := "sectionReads", unfollowed := true, recurses := true, apart := false, narrowed := true }
def SectionReadsUptoSaid : Prop := sectionReadsUptoRow.holds Try.pinned (OpenSpec.upto sectionReadsSpec)

/-- 'decompilerlaw05.SectionChecks', WHERE WHAT IT READS IS OF BULK AT MOST 1048576: true; the input reads as it did. -/
def sectionChecksUptoRow : OpenClaim := { program := "ytfmhhakhbopfdaa", sum := "4c280bbfeaa1851af92da12318354f73edf19d4ab66dd146b4bfddc5fcaccc45", func := "decompiler/decompilerlaw05.SectionChecks", spec := "sectionChecks", unfollowed := true, recurses := true, apart := false, narrowed := true }
def SectionChecksUptoSaid : Prop := sectionChecksUptoRow.holds Try.pinned (OpenSpec.upto sectionChecksSpec)

/-- 'decompilerlaw05.SectionFree', WHERE WHAT IT READS IS OF BULK AT MOST 1048576: true; the input reads as it did. -/
def sectionFreeUptoRow : OpenClaim := { program := "ytfmhhakhbopfdaa", sum := "4c280bbfeaa1851af92da12318354f73edf19d4ab66dd146b4bfddc5fcaccc45", func := "decompiler/decompilerlaw05.SectionFree", spec := "sectionFree", unfollowed := true, recurses := true, apart := false, narrowed := true }
def SectionFreeUptoSaid : Prop := sectionFreeUptoRow.holds Try.pinned (OpenSpec.upto sectionFreeSpec)

/-- 'decompilerlaw05.SectionLists', WHERE WHAT IT READS IS OF BULK AT MOST 1048576: true; the input reads as it did. -/
def sectionListsUptoRow : OpenClaim := { program := "ytfmhhakhbopfdaa", sum := "4c280bbfeaa1851af92da12318354f73edf19d4ab66dd146b4bfddc5fcaccc45", func := "decompiler/decompilerlaw05.SectionLists", spec := "sectionLists", unfollowed := true, recurses := true, apart := false, narrowed := true }
def SectionListsUptoSaid : Prop := sectionListsUptoRow.holds Try.pinned (OpenSpec.upto sectionListsSpec)

end Rows
end Go.Proofs.Ytfmhhakhbopfdaa
