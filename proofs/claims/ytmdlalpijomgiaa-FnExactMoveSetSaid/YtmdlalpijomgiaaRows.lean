/-
  No cell of these rows narrows 'for every input' (looked for: loops, veiled, ifaces, maps, wideKeys, modest, calm, conditions, laid).
  DERIVED. THE GIVEN ROWS OF THIS SEAT. 16 by the template 'for every input the law returns true; each argument reads behind the call as it read before'; 0 by the template 'total and deterministic' (their statements: YtmdlalpijomgiaaTotals.lean).
  GIVEN WITH THE SEED: the statements are not yours to turn. If you find one false, say at which input.
  Laid BY PROGRAM, IN A SANDBOX (cutbox-rows.mjs): the forced cells as the released guide's own fill.sh prints them over the translation 51f8ce1a7da0b9fb… (all of the seat's roots in one cut). By AI agents, Wed Nov 11 2026. No macro, syntax, notation, axiom, sorry.
-/
import Derived.Test.YtmdlalpijomgiaaChecked
import GoSem.Claim
import GoSem.ClaimJoined
import GoSem.ClaimMapViews
import Derived.JoinedTies
import Derived.KernelRfl
namespace Go.Proofs.Ytmdlalpijomgiaa
/- THE CELL 'sum', in the pinned program and in every row, IS THE sha256 OF THE DUMP (.gsa) THAT YtmdlalpijomgiaaProg.lean LOADS. Nothing in Lean hashes anything: it is a label: what it is worth is what the hold of that sum in a sandbox is worth. -/
noncomputable def Try.pinned : Pinned := { name := "ytmdlalpijomgiaa", sum := "51f8ce1a7da0b9fb43340b3834e638497fa45c87929cd68d8ddc8789bf2d5052", checked := Try.checked }
namespace Rows
def none {H : Type} : Left H := { results := [], args := [] }

/-- 'laws.FnExactConstants': WHATEVER THE INPUT: true; the input reads as it did. -/
def fnExactConstantsSpec : ChangeSpec := { name := "fnExactConstants", fn := fun _ => fun
  | [] => { results := [.lit (.bool true)], args := [] }
  | _ => none }
def fnExactConstantsRow : OpenClaim := { program := "ytmdlalpijomgiaa", sum := "51f8ce1a7da0b9fb43340b3834e638497fa45c87929cd68d8ddc8789bf2d5052", func := "loop.example/weighedevidence/laws.FnExactConstants", spec := "fnExactConstants", apart := false }
def FnExactConstantsSaid : Prop := fnExactConstantsRow.holds Try.pinned (OpenSpec.ofChange fnExactConstantsSpec)

/-- ITS FALSE NEIGHBOUR: 'it returns false'. Refute it at one input. -/
def fnExactConstantsWrong : ChangeSpec := { name := "fnExactConstants", fn := fun _ => fun
  | [] => { results := [.lit (.bool false)], args := [] }
  | _ => none }
def FnExactConstantsWrongFalsely : Prop := fnExactConstantsRow.holds Try.pinned (OpenSpec.ofChange fnExactConstantsWrong)

/-- 'laws.FnExactSizeValid': WHATEVER THE INPUT: true; the input reads as it did. -/
def fnExactSizeValidSpec : ChangeSpec := { name := "fnExactSizeValid", fn := fun _ => fun
  | [d] => { results := [.lit (.bool true)], args := [d] }
  | _ => none }
def fnExactSizeValidRow : OpenClaim := { program := "ytmdlalpijomgiaa", sum := "51f8ce1a7da0b9fb43340b3834e638497fa45c87929cd68d8ddc8789bf2d5052", func := "loop.example/weighedevidence/laws.FnExactSizeValid", spec := "fnExactSizeValid", apart := false }
def FnExactSizeValidSaid : Prop := fnExactSizeValidRow.holds Try.pinned (OpenSpec.ofChange fnExactSizeValidSpec)

/-- ITS FALSE NEIGHBOUR: 'it returns false'. Refute it at one input. -/
def fnExactSizeValidWrong : ChangeSpec := { name := "fnExactSizeValid", fn := fun _ => fun
  | [d] => { results := [.lit (.bool false)], args := [d] }
  | _ => none }
def FnExactSizeValidWrongFalsely : Prop := fnExactSizeValidRow.holds Try.pinned (OpenSpec.ofChange fnExactSizeValidWrong)

/-- 'laws.FnExactHasSet': WHATEVER THE INPUT: true; the input reads as it did. -/
def fnExactHasSetSpec : ChangeSpec := { name := "fnExactHasSet", fn := fun _ => fun
  | [d1, d2] => { results := [.lit (.bool true)], args := [d1, d2] }
  | _ => none }
def fnExactHasSetRow : OpenClaim := { program := "ytmdlalpijomgiaa", sum := "51f8ce1a7da0b9fb43340b3834e638497fa45c87929cd68d8ddc8789bf2d5052", func := "loop.example/weighedevidence/laws.FnExactHasSet", spec := "fnExactHasSet", apart := false }
def FnExactHasSetSaid : Prop := fnExactHasSetRow.holds Try.pinned (OpenSpec.ofChange fnExactHasSetSpec)

/-- ITS FALSE NEIGHBOUR: 'it returns false'. Refute it at one input. -/
def fnExactHasSetWrong : ChangeSpec := { name := "fnExactHasSet", fn := fun _ => fun
  | [d1, d2] => { results := [.lit (.bool false)], args := [d1, d2] }
  | _ => none }
def FnExactHasSetWrongFalsely : Prop := fnExactHasSetRow.holds Try.pinned (OpenSpec.ofChange fnExactHasSetWrong)

/-- 'laws.FnExactSetValid': WHATEVER THE INPUT: true; the input reads as it did. -/
def fnExactSetValidSpec : ChangeSpec := { name := "fnExactSetValid", fn := fun _ => fun
  | [d1, d2] => { results := [.lit (.bool true)], args := [d1, d2] }
  | _ => none }
def fnExactSetValidRow : OpenClaim := { program := "ytmdlalpijomgiaa", sum := "51f8ce1a7da0b9fb43340b3834e638497fa45c87929cd68d8ddc8789bf2d5052", func := "loop.example/weighedevidence/laws.FnExactSetValid", spec := "fnExactSetValid", apart := false }
def FnExactSetValidSaid : Prop := fnExactSetValidRow.holds Try.pinned (OpenSpec.ofChange fnExactSetValidSpec)

/-- ITS FALSE NEIGHBOUR: 'it returns false'. Refute it at one input. -/
def fnExactSetValidWrong : ChangeSpec := { name := "fnExactSetValid", fn := fun _ => fun
  | [d1, d2] => { results := [.lit (.bool false)], args := [d1, d2] }
  | _ => none }
def FnExactSetValidWrongFalsely : Prop := fnExactSetValidRow.holds Try.pinned (OpenSpec.ofChange fnExactSetValidWrong)

/-- 'laws.FnExactOtherSet': WHATEVER THE INPUT: true; the input reads as it did. -/
def fnExactOtherSetSpec : ChangeSpec := { name := "fnExactOtherSet", fn := fun _ => fun
  | [d1, d2] => { results := [.lit (.bool true)], args := [d1, d2] }
  | _ => none }
def fnExactOtherSetRow : OpenClaim := { program := "ytmdlalpijomgiaa", sum := "51f8ce1a7da0b9fb43340b3834e638497fa45c87929cd68d8ddc8789bf2d5052", func := "loop.example/weighedevidence/laws.FnExactOtherSet", spec := "fnExactOtherSet", apart := false }
def FnExactOtherSetSaid : Prop := fnExactOtherSetRow.holds Try.pinned (OpenSpec.ofChange fnExactOtherSetSpec)

/-- ITS FALSE NEIGHBOUR: 'it returns false'. Refute it at one input. -/
def fnExactOtherSetWrong : ChangeSpec := { name := "fnExactOtherSet", fn := fun _ => fun
  | [d1, d2] => { results := [.lit (.bool false)], args := [d1, d2] }
  | _ => none }
def FnExactOtherSetWrongFalsely : Prop := fnExactOtherSetRow.holds Try.pinned (OpenSpec.ofChange fnExactOtherSetWrong)

/-- 'laws.FnExactFormatSet': WHATEVER THE INPUT: true; the input reads as it did. -/
def fnExactFormatSetSpec : ChangeSpec := { name := "fnExactFormatSet", fn := fun _ => fun
  | [d] => { results := [.lit (.bool true)], args := [d] }
  | _ => none }
def fnExactFormatSetRow : OpenClaim := { program := "ytmdlalpijomgiaa", sum := "51f8ce1a7da0b9fb43340b3834e638497fa45c87929cd68d8ddc8789bf2d5052", func := "loop.example/weighedevidence/laws.FnExactFormatSet", spec := "fnExactFormatSet", apart := false }
def FnExactFormatSetSaid : Prop := fnExactFormatSetRow.holds Try.pinned (OpenSpec.ofChange fnExactFormatSetSpec)

/-- ITS FALSE NEIGHBOUR: 'it returns false'. Refute it at one input. -/
def fnExactFormatSetWrong : ChangeSpec := { name := "fnExactFormatSet", fn := fun _ => fun
  | [d] => { results := [.lit (.bool false)], args := [d] }
  | _ => none }
def FnExactFormatSetWrongFalsely : Prop := fnExactFormatSetRow.holds Try.pinned (OpenSpec.ofChange fnExactFormatSetWrong)

/-- 'laws.FnExactParseSet': WHATEVER THE INPUT: true; the input reads as it did. -/
def fnExactParseSetSpec : ChangeSpec := { name := "fnExactParseSet", fn := fun _ => fun
  | [d] => { results := [.lit (.bool true)], args := [d] }
  | _ => none }
def fnExactParseSetRow : OpenClaim := { program := "ytmdlalpijomgiaa", sum := "51f8ce1a7da0b9fb43340b3834e638497fa45c87929cd68d8ddc8789bf2d5052", func := "loop.example/weighedevidence/laws.FnExactParseSet", spec := "fnExactParseSet", apart := false }
def FnExactParseSetSaid : Prop := fnExactParseSetRow.holds Try.pinned (OpenSpec.ofChange fnExactParseSetSpec)

/-- ITS FALSE NEIGHBOUR: 'it returns false'. Refute it at one input. -/
def fnExactParseSetWrong : ChangeSpec := { name := "fnExactParseSet", fn := fun _ => fun
  | [d] => { results := [.lit (.bool false)], args := [d] }
  | _ => none }
def FnExactParseSetWrongFalsely : Prop := fnExactParseSetRow.holds Try.pinned (OpenSpec.ofChange fnExactParseSetWrong)

/-- 'laws.FnExactSubsetsOf': WHATEVER THE INPUT: true; the input reads as it did. -/
def fnExactSubsetsOfSpec : ChangeSpec := { name := "fnExactSubsetsOf", fn := fun _ => fun
  | [d] => { results := [.lit (.bool true)], args := [d] }
  | _ => none }
def fnExactSubsetsOfRow : OpenClaim := { program := "ytmdlalpijomgiaa", sum := "51f8ce1a7da0b9fb43340b3834e638497fa45c87929cd68d8ddc8789bf2d5052", func := "loop.example/weighedevidence/laws.FnExactSubsetsOf", spec := "fnExactSubsetsOf", apart := false }
def FnExactSubsetsOfSaid : Prop := fnExactSubsetsOfRow.holds Try.pinned (OpenSpec.ofChange fnExactSubsetsOfSpec)

/-- ITS FALSE NEIGHBOUR: 'it returns false'. Refute it at one input. -/
def fnExactSubsetsOfWrong : ChangeSpec := { name := "fnExactSubsetsOf", fn := fun _ => fun
  | [d] => { results := [.lit (.bool false)], args := [d] }
  | _ => none }
def FnExactSubsetsOfWrongFalsely : Prop := fnExactSubsetsOfRow.holds Try.pinned (OpenSpec.ofChange fnExactSubsetsOfWrong)

/-- 'laws.FnExactCountSet': WHATEVER THE INPUT: true; the input reads as it did. -/
def fnExactCountSetSpec : ChangeSpec := { name := "fnExactCountSet", fn := fun _ => fun
  | [d] => { results := [.lit (.bool true)], args := [d] }
  | _ => none }
def fnExactCountSetRow : OpenClaim := { program := "ytmdlalpijomgiaa", sum := "51f8ce1a7da0b9fb43340b3834e638497fa45c87929cd68d8ddc8789bf2d5052", func := "loop.example/weighedevidence/laws.FnExactCountSet", spec := "fnExactCountSet", apart := false }
def FnExactCountSetSaid : Prop := fnExactCountSetRow.holds Try.pinned (OpenSpec.ofChange fnExactCountSetSpec)

/-- ITS FALSE NEIGHBOUR: 'it returns false'. Refute it at one input. -/
def fnExactCountSetWrong : ChangeSpec := { name := "fnExactCountSet", fn := fun _ => fun
  | [d] => { results := [.lit (.bool false)], args := [d] }
  | _ => none }
def FnExactCountSetWrongFalsely : Prop := fnExactCountSetRow.holds Try.pinned (OpenSpec.ofChange fnExactCountSetWrong)

/-- 'laws.FnExactSignOf': WHATEVER THE INPUT: true; the input reads as it did. -/
def fnExactSignOfSpec : ChangeSpec := { name := "fnExactSignOf", fn := fun _ => fun
  | [d] => { results := [.lit (.bool true)], args := [d] }
  | _ => none }
def fnExactSignOfRow : OpenClaim := { program := "ytmdlalpijomgiaa", sum := "51f8ce1a7da0b9fb43340b3834e638497fa45c87929cd68d8ddc8789bf2d5052", func := "loop.example/weighedevidence/laws.FnExactSignOf", spec := "fnExactSignOf", apart := false }
def FnExactSignOfSaid : Prop := fnExactSignOfRow.holds Try.pinned (OpenSpec.ofChange fnExactSignOfSpec)

/-- ITS FALSE NEIGHBOUR: 'it returns false'. Refute it at one input. -/
def fnExactSignOfWrong : ChangeSpec := { name := "fnExactSignOf", fn := fun _ => fun
  | [d] => { results := [.lit (.bool false)], args := [d] }
  | _ => none }
def FnExactSignOfWrongFalsely : Prop := fnExactSignOfRow.holds Try.pinned (OpenSpec.ofChange fnExactSignOfWrong)

/-- 'laws.FnExactMoveSet': WHATEVER THE INPUT: true; the input reads as it did. -/
def fnExactMoveSetSpec : ChangeSpec := { name := "fnExactMoveSet", fn := fun _ => fun
  | [d1, d2, d3] => { results := [.lit (.bool true)], args := [d1, d2, d3] }
  | _ => none }
def fnExactMoveSetRow : OpenClaim := { program := "ytmdlalpijomgiaa", sum := "51f8ce1a7da0b9fb43340b3834e638497fa45c87929cd68d8ddc8789bf2d5052", func := "loop.example/weighedevidence/laws.FnExactMoveSet", spec := "fnExactMoveSet", apart := false }
def FnExactMoveSetSaid : Prop := fnExactMoveSetRow.holds Try.pinned (OpenSpec.ofChange fnExactMoveSetSpec)

/-- ITS FALSE NEIGHBOUR: 'it returns false'. Refute it at one input. -/
def fnExactMoveSetWrong : ChangeSpec := { name := "fnExactMoveSet", fn := fun _ => fun
  | [d1, d2, d3] => { results := [.lit (.bool false)], args := [d1, d2, d3] }
  | _ => none }
def FnExactMoveSetWrongFalsely : Prop := fnExactMoveSetRow.holds Try.pinned (OpenSpec.ofChange fnExactMoveSetWrong)

/-- 'laws.FnHasSet': WHATEVER THE INPUT: true; the input reads as it did. -/
def fnHasSetSpec : ChangeSpec := { name := "fnHasSet", fn := fun _ => fun
  | [d] => { results := [.lit (.bool true)], args := [d] }
  | _ => none }
def fnHasSetRow : OpenClaim := { program := "ytmdlalpijomgiaa", sum := "51f8ce1a7da0b9fb43340b3834e638497fa45c87929cd68d8ddc8789bf2d5052", func := "loop.example/weighedevidence/laws.FnHasSet", spec := "fnHasSet", apart := false }
def FnHasSetSaid : Prop := fnHasSetRow.holds Try.pinned (OpenSpec.ofChange fnHasSetSpec)

/-- ITS FALSE NEIGHBOUR: 'it returns false'. Refute it at one input. -/
def fnHasSetWrong : ChangeSpec := { name := "fnHasSet", fn := fun _ => fun
  | [d] => { results := [.lit (.bool false)], args := [d] }
  | _ => none }
def FnHasSetWrongFalsely : Prop := fnHasSetRow.holds Try.pinned (OpenSpec.ofChange fnHasSetWrong)

/-- 'laws.FnSets': WHATEVER THE INPUT: true; the input reads as it did. -/
def fnSetsSpec : ChangeSpec := { name := "fnSets", fn := fun _ => fun
  | [d] => { results := [.lit (.bool true)], args := [d] }
  | _ => none }
def fnSetsRow : OpenClaim := { program := "ytmdlalpijomgiaa", sum := "51f8ce1a7da0b9fb43340b3834e638497fa45c87929cd68d8ddc8789bf2d5052", func := "loop.example/weighedevidence/laws.FnSets", spec := "fnSets", apart := false }
def FnSetsSaid : Prop := fnSetsRow.holds Try.pinned (OpenSpec.ofChange fnSetsSpec)

/-- ITS FALSE NEIGHBOUR: 'it returns false'. Refute it at one input. -/
def fnSetsWrong : ChangeSpec := { name := "fnSets", fn := fun _ => fun
  | [d] => { results := [.lit (.bool false)], args := [d] }
  | _ => none }
def FnSetsWrongFalsely : Prop := fnSetsRow.holds Try.pinned (OpenSpec.ofChange fnSetsWrong)

/-- 'laws.FnSubsets': WHATEVER THE INPUT: true; the input reads as it did. -/
def fnSubsetsSpec : ChangeSpec := { name := "fnSubsets", fn := fun _ => fun
  | [d] => { results := [.lit (.bool true)], args := [d] }
  | _ => none }
def fnSubsetsRow : OpenClaim := { program := "ytmdlalpijomgiaa", sum := "51f8ce1a7da0b9fb43340b3834e638497fa45c87929cd68d8ddc8789bf2d5052", func := "loop.example/weighedevidence/laws.FnSubsets", spec := "fnSubsets", apart := false }
def FnSubsetsSaid : Prop := fnSubsetsRow.holds Try.pinned (OpenSpec.ofChange fnSubsetsSpec)

/-- ITS FALSE NEIGHBOUR: 'it returns false'. Refute it at one input. -/
def fnSubsetsWrong : ChangeSpec := { name := "fnSubsets", fn := fun _ => fun
  | [d] => { results := [.lit (.bool false)], args := [d] }
  | _ => none }
def FnSubsetsWrongFalsely : Prop := fnSubsetsRow.holds Try.pinned (OpenSpec.ofChange fnSubsetsWrong)

/-- 'laws.FnSetText': WHATEVER THE INPUT: true; the input reads as it did. -/
def fnSetTextSpec : ChangeSpec := { name := "fnSetText", fn := fun _ => fun
  | [d1, d2] => { results := [.lit (.bool true)], args := [d1, d2] }
  | _ => none }
def fnSetTextRow : OpenClaim := { program := "ytmdlalpijomgiaa", sum := "51f8ce1a7da0b9fb43340b3834e638497fa45c87929cd68d8ddc8789bf2d5052", func := "loop.example/weighedevidence/laws.FnSetText", spec := "fnSetText", apart := false }
def FnSetTextSaid : Prop := fnSetTextRow.holds Try.pinned (OpenSpec.ofChange fnSetTextSpec)

/-- ITS FALSE NEIGHBOUR: 'it returns false'. Refute it at one input. -/
def fnSetTextWrong : ChangeSpec := { name := "fnSetText", fn := fun _ => fun
  | [d1, d2] => { results := [.lit (.bool false)], args := [d1, d2] }
  | _ => none }
def FnSetTextWrongFalsely : Prop := fnSetTextRow.holds Try.pinned (OpenSpec.ofChange fnSetTextWrong)

/-- 'laws.FnMoveSet': WHATEVER THE INPUT: true; the input reads as it did. -/
def fnMoveSetSpec : ChangeSpec := { name := "fnMoveSet", fn := fun _ => fun
  | [d] => { results := [.lit (.bool true)], args := [d] }
  | _ => none }
def fnMoveSetRow : OpenClaim := { program := "ytmdlalpijomgiaa", sum := "51f8ce1a7da0b9fb43340b3834e638497fa45c87929cd68d8ddc8789bf2d5052", func := "loop.example/weighedevidence/laws.FnMoveSet", spec := "fnMoveSet", apart := false }
def FnMoveSetSaid : Prop := fnMoveSetRow.holds Try.pinned (OpenSpec.ofChange fnMoveSetSpec)

/-- ITS FALSE NEIGHBOUR: 'it returns false'. Refute it at one input. -/
def fnMoveSetWrong : ChangeSpec := { name := "fnMoveSet", fn := fun _ => fun
  | [d] => { results := [.lit (.bool false)], args := [d] }
  | _ => none }
def FnMoveSetWrongFalsely : Prop := fnMoveSetRow.holds Try.pinned (OpenSpec.ofChange fnMoveSetWrong)

/- THE SECOND FORM. 'bulk': how many values and letters a reading holds, each counted each time it is reached (what is shared counts as often as it is met; a slice's spare places count too). A statement '..UptoSaid' is the law's where the arguments, and the package variables that the reading takes, are together of bulk at most 1048576: NARROWER than '..Said'. Prove '..Said' where nothing that the law and all that it calls make is longer than what came in: it says more and counts as full. Else prove '..UptoSaid'. A law counts once. -/
mutual
def uptoBulk {H : Type} : DataW H → Nat
  | .lit (.string bytes) => bytes.length + 1
  | .lit _ => 1
  | .nil => 1
  | .ptr d => uptoBulk d + 1
  | .slice elems spare => uptoBulkAll elems + uptoBulkAll spare + 1
  | .agg parts => uptoBulkAll parts + 1
  | .iface _ d => uptoBulk d + 1
  | .map entries => uptoBulkEntries entries + 1
  | .held _ => 1
def uptoBulkAll {H : Type} : List (DataW H) → Nat
  | [] => 0
  | d :: r => uptoBulk d + uptoBulkAll r
def uptoBulkEntries {H : Type} : List (Lit × DataW H) → Nat
  | [] => 0
  | x :: r => uptoBulkEntry x + uptoBulkEntries r
def uptoBulkEntry {H : Type} : Lit × DataW H → Nat
  | (.string bytes, d) => bytes.length + uptoBulk d + 1
  | (_, d) => uptoBulk d + 1
 end
def uptoSmall : (H : Type) → List (DataW H) → Bool := fun _ ds => decide (uptoBulkAll ds ≤ 1048576)
def OpenSpec.upto (s : _root_.Go.ChangeSpec) : _root_.Go.OpenSpec := { _root_.Go.OpenSpec.ofChange s with cond := some uptoSmall }

/-- 'laws.FnExactConstants', WHERE WHAT IT READS IS OF BULK AT MOST 1048576: true; the input reads as it did. -/
def fnExactConstantsUptoRow : OpenClaim := { program := "ytmdlalpijomgiaa", sum := "51f8ce1a7da0b9fb43340b3834e638497fa45c87929cd68d8ddc8789bf2d5052", func := "loop.example/weighedevidence/laws.FnExactConstants", spec := "fnExactConstants", apart := false, narrowed := true }
def FnExactConstantsUptoSaid : Prop := fnExactConstantsUptoRow.holds Try.pinned (OpenSpec.upto fnExactConstantsSpec)

/-- 'laws.FnExactSizeValid', WHERE WHAT IT READS IS OF BULK AT MOST 1048576: true; the input reads as it did. -/
def fnExactSizeValidUptoRow : OpenClaim := { program := "ytmdlalpijomgiaa", sum := "51f8ce1a7da0b9fb43340b3834e638497fa45c87929cd68d8ddc8789bf2d5052", func := "loop.example/weighedevidence/laws.FnExactSizeValid", spec := "fnExactSizeValid", apart := false, narrowed := true }
def FnExactSizeValidUptoSaid : Prop := fnExactSizeValidUptoRow.holds Try.pinned (OpenSpec.upto fnExactSizeValidSpec)

/-- 'laws.FnExactHasSet', WHERE WHAT IT READS IS OF BULK AT MOST 1048576: true; the input reads as it did. -/
def fnExactHasSetUptoRow : OpenClaim := { program := "ytmdlalpijomgiaa", sum := "51f8ce1a7da0b9fb43340b3834e638497fa45c87929cd68d8ddc8789bf2d5052", func := "loop.example/weighedevidence/laws.FnExactHasSet", spec := "fnExactHasSet", apart := false, narrowed := true }
def FnExactHasSetUptoSaid : Prop := fnExactHasSetUptoRow.holds Try.pinned (OpenSpec.upto fnExactHasSetSpec)

/-- 'laws.FnExactSetValid', WHERE WHAT IT READS IS OF BULK AT MOST 1048576: true; the input reads as it did. -/
def fnExactSetValidUptoRow : OpenClaim := { program := "ytmdlalpijomgiaa", sum := "51f8ce1a7da0b9fb43340b3834e638497fa45c87929cd68d8ddc8789bf2d5052", func := "loop.example/weighedevidence/laws.FnExactSetValid", spec := "fnExactSetValid", apart := false, narrowed := true }
def FnExactSetValidUptoSaid : Prop := fnExactSetValidUptoRow.holds Try.pinned (OpenSpec.upto fnExactSetValidSpec)

/-- 'laws.FnExactOtherSet', WHERE WHAT IT READS IS OF BULK AT MOST 1048576: true; the input reads as it did. -/
def fnExactOtherSetUptoRow : OpenClaim := { program := "ytmdlalpijomgiaa", sum := "51f8ce1a7da0b9fb43340b3834e638497fa45c87929cd68d8ddc8789bf2d5052", func := "loop.example/weighedevidence/laws.FnExactOtherSet", spec := "fnExactOtherSet", apart := false, narrowed := true }
def FnExactOtherSetUptoSaid : Prop := fnExactOtherSetUptoRow.holds Try.pinned (OpenSpec.upto fnExactOtherSetSpec)

/-- 'laws.FnExactFormatSet', WHERE WHAT IT READS IS OF BULK AT MOST 1048576: true; the input reads as it did. -/
def fnExactFormatSetUptoRow : OpenClaim := { program := "ytmdlalpijomgiaa", sum := "51f8ce1a7da0b9fb43340b3834e638497fa45c87929cd68d8ddc8789bf2d5052", func := "loop.example/weighedevidence/laws.FnExactFormatSet", spec := "fnExactFormatSet", apart := false, narrowed := true }
def FnExactFormatSetUptoSaid : Prop := fnExactFormatSetUptoRow.holds Try.pinned (OpenSpec.upto fnExactFormatSetSpec)

/-- 'laws.FnExactParseSet', WHERE WHAT IT READS IS OF BULK AT MOST 1048576: true; the input reads as it did. -/
def fnExactParseSetUptoRow : OpenClaim := { program := "ytmdlalpijomgiaa", sum := "51f8ce1a7da0b9fb43340b3834e638497fa45c87929cd68d8ddc8789bf2d5052", func := "loop.example/weighedevidence/laws.FnExactParseSet", spec := "fnExactParseSet", apart := false, narrowed := true }
def FnExactParseSetUptoSaid : Prop := fnExactParseSetUptoRow.holds Try.pinned (OpenSpec.upto fnExactParseSetSpec)

/-- 'laws.FnExactSubsetsOf', WHERE WHAT IT READS IS OF BULK AT MOST 1048576: true; the input reads as it did. -/
def fnExactSubsetsOfUptoRow : OpenClaim := { program := "ytmdlalpijomgiaa", sum := "51f8ce1a7da0b9fb43340b3834e638497fa45c87929cd68d8ddc8789bf2d5052", func := "loop.example/weighedevidence/laws.FnExactSubsetsOf", spec := "fnExactSubsetsOf", apart := false, narrowed := true }
def FnExactSubsetsOfUptoSaid : Prop := fnExactSubsetsOfUptoRow.holds Try.pinned (OpenSpec.upto fnExactSubsetsOfSpec)

/-- 'laws.FnExactCountSet', WHERE WHAT IT READS IS OF BULK AT MOST 1048576: true; the input reads as it did. -/
def fnExactCountSetUptoRow : OpenClaim := { program := "ytmdlalpijomgiaa", sum := "51f8ce1a7da0b9fb43340b3834e638497fa45c87929cd68d8ddc8789bf2d5052", func := "loop.example/weighedevidence/laws.FnExactCountSet", spec := "fnExactCountSet", apart := false, narrowed := true }
def FnExactCountSetUptoSaid : Prop := fnExactCountSetUptoRow.holds Try.pinned (OpenSpec.upto fnExactCountSetSpec)

/-- 'laws.FnExactSignOf', WHERE WHAT IT READS IS OF BULK AT MOST 1048576: true; the input reads as it did. -/
def fnExactSignOfUptoRow : OpenClaim := { program := "ytmdlalpijomgiaa", sum := "51f8ce1a7da0b9fb43340b3834e638497fa45c87929cd68d8ddc8789bf2d5052", func := "loop.example/weighedevidence/laws.FnExactSignOf", spec := "fnExactSignOf", apart := false, narrowed := true }
def FnExactSignOfUptoSaid : Prop := fnExactSignOfUptoRow.holds Try.pinned (OpenSpec.upto fnExactSignOfSpec)

/-- 'laws.FnExactMoveSet', WHERE WHAT IT READS IS OF BULK AT MOST 1048576: true; the input reads as it did. -/
def fnExactMoveSetUptoRow : OpenClaim := { program := "ytmdlalpijomgiaa", sum := "51f8ce1a7da0b9fb43340b3834e638497fa45c87929cd68d8ddc8789bf2d5052", func := "loop.example/weighedevidence/laws.FnExactMoveSet", spec := "fnExactMoveSet", apart := false, narrowed := true }
def FnExactMoveSetUptoSaid : Prop := fnExactMoveSetUptoRow.holds Try.pinned (OpenSpec.upto fnExactMoveSetSpec)

/-- 'laws.FnHasSet', WHERE WHAT IT READS IS OF BULK AT MOST 1048576: true; the input reads as it did. -/
def fnHasSetUptoRow : OpenClaim := { program := "ytmdlalpijomgiaa", sum := "51f8ce1a7da0b9fb43340b3834e638497fa45c87929cd68d8ddc8789bf2d5052", func := "loop.example/weighedevidence/laws.FnHasSet", spec := "fnHasSet", apart := false, narrowed := true }
def FnHasSetUptoSaid : Prop := fnHasSetUptoRow.holds Try.pinned (OpenSpec.upto fnHasSetSpec)

/-- 'laws.FnSets', WHERE WHAT IT READS IS OF BULK AT MOST 1048576: true; the input reads as it did. -/
def fnSetsUptoRow : OpenClaim := { program := "ytmdlalpijomgiaa", sum := "51f8ce1a7da0b9fb43340b3834e638497fa45c87929cd68d8ddc8789bf2d5052", func := "loop.example/weighedevidence/laws.FnSets", spec := "fnSets", apart := false, narrowed := true }
def FnSetsUptoSaid : Prop := fnSetsUptoRow.holds Try.pinned (OpenSpec.upto fnSetsSpec)

/-- 'laws.FnSubsets', WHERE WHAT IT READS IS OF BULK AT MOST 1048576: true; the input reads as it did. -/
def fnSubsetsUptoRow : OpenClaim := { program := "ytmdlalpijomgiaa", sum := "51f8ce1a7da0b9fb43340b3834e638497fa45c87929cd68d8ddc8789bf2d5052", func := "loop.example/weighedevidence/laws.FnSubsets", spec := "fnSubsets", apart := false, narrowed := true }
def FnSubsetsUptoSaid : Prop := fnSubsetsUptoRow.holds Try.pinned (OpenSpec.upto fnSubsetsSpec)

/-- 'laws.FnSetText', WHERE WHAT IT READS IS OF BULK AT MOST 1048576: true; the input reads as it did. -/
def fnSetTextUptoRow : OpenClaim := { program := "ytmdlalpijomgiaa", sum := "51f8ce1a7da0b9fb43340b3834e638497fa45c87929cd68d8ddc8789bf2d5052", func := "loop.example/weighedevidence/laws.FnSetText", spec := "fnSetText", apart := false, narrowed := true }
def FnSetTextUptoSaid : Prop := fnSetTextUptoRow.holds Try.pinned (OpenSpec.upto fnSetTextSpec)

/-- 'laws.FnMoveSet', WHERE WHAT IT READS IS OF BULK AT MOST 1048576: true; the input reads as it did. -/
def fnMoveSetUptoRow : OpenClaim := { program := "ytmdlalpijomgiaa", sum := "51f8ce1a7da0b9fb43340b3834e638497fa45c87929cd68d8ddc8789bf2d5052", func := "loop.example/weighedevidence/laws.FnMoveSet", spec := "fnMoveSet", apart := false, narrowed := true }
def FnMoveSetUptoSaid : Prop := fnMoveSetUptoRow.holds Try.pinned (OpenSpec.upto fnMoveSetSpec)

end Rows
end Go.Proofs.Ytmdlalpijomgiaa
