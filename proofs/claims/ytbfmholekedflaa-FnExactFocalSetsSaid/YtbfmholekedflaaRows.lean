/-
  No cell of these rows narrows 'for every input' (looked for: loops, veiled, ifaces, maps, wideKeys, modest, calm, conditions, laid).
  DERIVED. THE GIVEN ROWS OF THIS SEAT. 9 by the template 'for every input the law returns true; each argument reads behind the call as it read before'; 0 by the template 'total and deterministic' (their statements: YtbfmholekedflaaTotals.lean).
  GIVEN WITH THE SEED: the statements are not yours to turn. If you find one false, say at which input.
  Laid BY PROGRAM, IN A SANDBOX (cutbox-rows.mjs): the forced cells as the released guide's own fill.sh prints them over the translation ea604088a510ce5d… (all of the seat's roots in one cut). By AI agents, Wed Nov 11 2026. No macro, syntax, notation, axiom, sorry.
-/
import Derived.Test.YtbfmholekedflaaChecked
import GoSem.Claim
import GoSem.ClaimJoined
import GoSem.ClaimMapViews
import Derived.JoinedTies
import Derived.KernelRfl
namespace Go.Proofs.Ytbfmholekedflaa
/- THE CELL 'sum', in the pinned program and in every row, IS THE sha256 OF THE DUMP (.gsa) THAT YtbfmholekedflaaProg.lean LOADS. Nothing in Lean hashes anything: it is a label: what it is worth is what the hold of that sum in a sandbox is worth. -/
noncomputable def Try.pinned : Pinned := { name := "ytbfmholekedflaa", sum := "ea604088a510ce5d5cc6cdc6500cf9a3f0bdf5d80a63753e8a94f341e4780383", checked := Try.checked }
namespace Rows
def none {H : Type} : Left H := { results := [], args := [] }

/-- 'laws.FnExactNoEvidence': WHATEVER THE INPUT: true; the input reads as it did. -/
def fnExactNoEvidenceSpec : ChangeSpec := { name := "fnExactNoEvidence", fn := fun _ => fun
  | [d] => { results := [.lit (.bool true)], args := [d] }
  | _ => none }
def fnExactNoEvidenceRow : OpenClaim := { program := "ytbfmholekedflaa", sum := "ea604088a510ce5d5cc6cdc6500cf9a3f0bdf5d80a63753e8a94f341e4780383", func := "loop.example/weighedevidence/laws.FnExactNoEvidence", spec := "fnExactNoEvidence", apart := false }
def FnExactNoEvidenceSaid : Prop := fnExactNoEvidenceRow.holds Try.pinned (OpenSpec.ofChange fnExactNoEvidenceSpec)

/-- ITS FALSE NEIGHBOUR: 'it returns false'. Refute it at one input. -/
def fnExactNoEvidenceWrong : ChangeSpec := { name := "fnExactNoEvidence", fn := fun _ => fun
  | [d] => { results := [.lit (.bool false)], args := [d] }
  | _ => none }
def FnExactNoEvidenceWrongFalsely : Prop := fnExactNoEvidenceRow.holds Try.pinned (OpenSpec.ofChange fnExactNoEvidenceWrong)

/-- 'laws.FnExactSureMass': WHATEVER THE INPUT: true; the input reads as it did. -/
def fnExactSureMassSpec : ChangeSpec := { name := "fnExactSureMass", fn := fun _ => fun
  | [d1, d2] => { results := [.lit (.bool true)], args := [d1, d2] }
  | _ => none }
def fnExactSureMassRow : OpenClaim := { program := "ytbfmholekedflaa", sum := "ea604088a510ce5d5cc6cdc6500cf9a3f0bdf5d80a63753e8a94f341e4780383", func := "loop.example/weighedevidence/laws.FnExactSureMass", spec := "fnExactSureMass", apart := false }
def FnExactSureMassSaid : Prop := fnExactSureMassRow.holds Try.pinned (OpenSpec.ofChange fnExactSureMassSpec)

/-- ITS FALSE NEIGHBOUR: 'it returns false'. Refute it at one input. -/
def fnExactSureMassWrong : ChangeSpec := { name := "fnExactSureMass", fn := fun _ => fun
  | [d1, d2] => { results := [.lit (.bool false)], args := [d1, d2] }
  | _ => none }
def FnExactSureMassWrongFalsely : Prop := fnExactSureMassRow.holds Try.pinned (OpenSpec.ofChange fnExactSureMassWrong)

/-- 'laws.FnExactMassValid': WHATEVER THE INPUT: true; the input reads as it did. -/
def fnExactMassValidSpec : ChangeSpec := { name := "fnExactMassValid", fn := fun _ => fun
  | [d] => { results := [.lit (.bool true)], args := [d] }
  | _ => none }
def fnExactMassValidRow : OpenClaim := { program := "ytbfmholekedflaa", sum := "ea604088a510ce5d5cc6cdc6500cf9a3f0bdf5d80a63753e8a94f341e4780383", func := "loop.example/weighedevidence/laws.FnExactMassValid", spec := "fnExactMassValid", apart := false }
def FnExactMassValidSaid : Prop := fnExactMassValidRow.holds Try.pinned (OpenSpec.ofChange fnExactMassValidSpec)

/-- ITS FALSE NEIGHBOUR: 'it returns false'. Refute it at one input. -/
def fnExactMassValidWrong : ChangeSpec := { name := "fnExactMassValid", fn := fun _ => fun
  | [d] => { results := [.lit (.bool false)], args := [d] }
  | _ => none }
def FnExactMassValidWrongFalsely : Prop := fnExactMassValidRow.holds Try.pinned (OpenSpec.ofChange fnExactMassValidWrong)

/-- 'laws.FnExactIsNormal': WHATEVER THE INPUT: true; the input reads as it did. -/
def fnExactIsNormalSpec : ChangeSpec := { name := "fnExactIsNormal", fn := fun _ => fun
  | [d] => { results := [.lit (.bool true)], args := [d] }
  | _ => none }
def fnExactIsNormalRow : OpenClaim := { program := "ytbfmholekedflaa", sum := "ea604088a510ce5d5cc6cdc6500cf9a3f0bdf5d80a63753e8a94f341e4780383", func := "loop.example/weighedevidence/laws.FnExactIsNormal", spec := "fnExactIsNormal", apart := false }
def FnExactIsNormalSaid : Prop := fnExactIsNormalRow.holds Try.pinned (OpenSpec.ofChange fnExactIsNormalSpec)

/-- ITS FALSE NEIGHBOUR: 'it returns false'. Refute it at one input. -/
def fnExactIsNormalWrong : ChangeSpec := { name := "fnExactIsNormal", fn := fun _ => fun
  | [d] => { results := [.lit (.bool false)], args := [d] }
  | _ => none }
def FnExactIsNormalWrongFalsely : Prop := fnExactIsNormalRow.holds Try.pinned (OpenSpec.ofChange fnExactIsNormalWrong)

/-- 'laws.FnExactWholeOf': WHATEVER THE INPUT: true; the input reads as it did. -/
def fnExactWholeOfSpec : ChangeSpec := { name := "fnExactWholeOf", fn := fun _ => fun
  | [d] => { results := [.lit (.bool true)], args := [d] }
  | _ => none }
def fnExactWholeOfRow : OpenClaim := { program := "ytbfmholekedflaa", sum := "ea604088a510ce5d5cc6cdc6500cf9a3f0bdf5d80a63753e8a94f341e4780383", func := "loop.example/weighedevidence/laws.FnExactWholeOf", spec := "fnExactWholeOf", apart := false }
def FnExactWholeOfSaid : Prop := fnExactWholeOfRow.holds Try.pinned (OpenSpec.ofChange fnExactWholeOfSpec)

/-- ITS FALSE NEIGHBOUR: 'it returns false'. Refute it at one input. -/
def fnExactWholeOfWrong : ChangeSpec := { name := "fnExactWholeOf", fn := fun _ => fun
  | [d] => { results := [.lit (.bool false)], args := [d] }
  | _ => none }
def FnExactWholeOfWrongFalsely : Prop := fnExactWholeOfRow.holds Try.pinned (OpenSpec.ofChange fnExactWholeOfWrong)

/-- 'laws.FnExactIsChance': WHATEVER THE INPUT: true; the input reads as it did. -/
def fnExactIsChanceSpec : ChangeSpec := { name := "fnExactIsChance", fn := fun _ => fun
  | [d] => { results := [.lit (.bool true)], args := [d] }
  | _ => none }
def fnExactIsChanceRow : OpenClaim := { program := "ytbfmholekedflaa", sum := "ea604088a510ce5d5cc6cdc6500cf9a3f0bdf5d80a63753e8a94f341e4780383", func := "loop.example/weighedevidence/laws.FnExactIsChance", spec := "fnExactIsChance", apart := false }
def FnExactIsChanceSaid : Prop := fnExactIsChanceRow.holds Try.pinned (OpenSpec.ofChange fnExactIsChanceSpec)

/-- ITS FALSE NEIGHBOUR: 'it returns false'. Refute it at one input. -/
def fnExactIsChanceWrong : ChangeSpec := { name := "fnExactIsChance", fn := fun _ => fun
  | [d] => { results := [.lit (.bool false)], args := [d] }
  | _ => none }
def FnExactIsChanceWrongFalsely : Prop := fnExactIsChanceRow.holds Try.pinned (OpenSpec.ofChange fnExactIsChanceWrong)

/-- 'laws.FnExactIsNested': WHATEVER THE INPUT: true; the input reads as it did. -/
def fnExactIsNestedSpec : ChangeSpec := { name := "fnExactIsNested", fn := fun _ => fun
  | [d] => { results := [.lit (.bool true)], args := [d] }
  | _ => none }
def fnExactIsNestedRow : OpenClaim := { program := "ytbfmholekedflaa", sum := "ea604088a510ce5d5cc6cdc6500cf9a3f0bdf5d80a63753e8a94f341e4780383", func := "loop.example/weighedevidence/laws.FnExactIsNested", spec := "fnExactIsNested", apart := false }
def FnExactIsNestedSaid : Prop := fnExactIsNestedRow.holds Try.pinned (OpenSpec.ofChange fnExactIsNestedSpec)

/-- ITS FALSE NEIGHBOUR: 'it returns false'. Refute it at one input. -/
def fnExactIsNestedWrong : ChangeSpec := { name := "fnExactIsNested", fn := fun _ => fun
  | [d] => { results := [.lit (.bool false)], args := [d] }
  | _ => none }
def FnExactIsNestedWrongFalsely : Prop := fnExactIsNestedRow.holds Try.pinned (OpenSpec.ofChange fnExactIsNestedWrong)

/-- 'laws.FnExactFocalSets': WHATEVER THE INPUT: true; the input reads as it did. -/
def fnExactFocalSetsSpec : ChangeSpec := { name := "fnExactFocalSets", fn := fun _ => fun
  | [d] => { results := [.lit (.bool true)], args := [d] }
  | _ => none }
def fnExactFocalSetsRow : OpenClaim := { program := "ytbfmholekedflaa", sum := "ea604088a510ce5d5cc6cdc6500cf9a3f0bdf5d80a63753e8a94f341e4780383", func := "loop.example/weighedevidence/laws.FnExactFocalSets", spec := "fnExactFocalSets", apart := false }
def FnExactFocalSetsSaid : Prop := fnExactFocalSetsRow.holds Try.pinned (OpenSpec.ofChange fnExactFocalSetsSpec)

/-- ITS FALSE NEIGHBOUR: 'it returns false'. Refute it at one input. -/
def fnExactFocalSetsWrong : ChangeSpec := { name := "fnExactFocalSets", fn := fun _ => fun
  | [d] => { results := [.lit (.bool false)], args := [d] }
  | _ => none }
def FnExactFocalSetsWrongFalsely : Prop := fnExactFocalSetsRow.holds Try.pinned (OpenSpec.ofChange fnExactFocalSetsWrong)

/-- 'laws.FnKinds': WHATEVER THE INPUT: true; the input reads as it did. -/
def fnKindsSpec : ChangeSpec := { name := "fnKinds", fn := fun _ => fun
  | [d] => { results := [.lit (.bool true)], args := [d] }
  | _ => none }
def fnKindsRow : OpenClaim := { program := "ytbfmholekedflaa", sum := "ea604088a510ce5d5cc6cdc6500cf9a3f0bdf5d80a63753e8a94f341e4780383", func := "loop.example/weighedevidence/laws.FnKinds", spec := "fnKinds", apart := false }
def FnKindsSaid : Prop := fnKindsRow.holds Try.pinned (OpenSpec.ofChange fnKindsSpec)

/-- ITS FALSE NEIGHBOUR: 'it returns false'. Refute it at one input. -/
def fnKindsWrong : ChangeSpec := { name := "fnKinds", fn := fun _ => fun
  | [d] => { results := [.lit (.bool false)], args := [d] }
  | _ => none }
def FnKindsWrongFalsely : Prop := fnKindsRow.holds Try.pinned (OpenSpec.ofChange fnKindsWrong)

/- THE SECOND FORM. 'bulk': how many values and letters a reading holds, each counted each time it is reached (what is shared counts as often as it is met; a slice's spare places count too). A statement '..UptoSaid' is the law's where the arguments, and the package variables that the reading takes, are together of bulk at most 1048576: NARROWER than '..Said'. Prove '..Said' where nothing that the law and all that it calls make is longer than what came in: it says more and counts as full. Else prove '..UptoSaid'. A law counts once. -/
mutual
def uptoBulk {H : Type} : DataW H → Nat
  | .lit (.string bytes) => bytes.length + 1
  | .lit _ => 1
  | .nil => 1
  | .ptr d => uptoBulk d + 1
  | .slice elems spare => uptoBulkAll elems + uptoBulkAll spare + 1
  | .agg parts => uptoBulkAll parts + 1
  | .iface _ d => uptoBulk d + 1
  | .map entries => uptoBulkEntries entries + 1
  | .held _ => 1
def uptoBulkAll {H : Type} : List (DataW H) → Nat
  | [] => 0
  | d :: r => uptoBulk d + uptoBulkAll r
def uptoBulkEntries {H : Type} : List (Lit × DataW H) → Nat
  | [] => 0
  | x :: r => uptoBulkEntry x + uptoBulkEntries r
def uptoBulkEntry {H : Type} : Lit × DataW H → Nat
  | (.string bytes, d) => bytes.length + uptoBulk d + 1
  | (_, d) => uptoBulk d + 1
 end
def uptoSmall : (H : Type) → List (DataW H) → Bool := fun _ ds => decide (uptoBulkAll ds ≤ 1048576)
def OpenSpec.upto (s : _root_.Go.ChangeSpec) : _root_.Go.OpenSpec := { _root_.Go.OpenSpec.ofChange s with cond := some uptoSmall }

/-- 'laws.FnExactNoEvidence', WHERE WHAT IT READS IS OF BULK AT MOST 1048576: true; the input reads as it did. -/
def fnExactNoEvidenceUptoRow : OpenClaim := { program := "ytbfmholekedflaa", sum := "ea604088a510ce5d5cc6cdc6500cf9a3f0bdf5d80a63753e8a94f341e4780383", func := "loop.example/weighedevidence/laws.FnExactNoEvidence", spec := "fnExactNoEvidence", apart := false, narrowed := true }
def FnExactNoEvidenceUptoSaid : Prop := fnExactNoEvidenceUptoRow.holds Try.pinned (OpenSpec.upto fnExactNoEvidenceSpec)

/-- 'laws.FnExactSureMass', WHERE WHAT IT READS IS OF BULK AT MOST 1048576: true; the input reads as it did. -/
def fnExactSureMassUptoRow : OpenClaim := { program := "ytbfmholekedflaa", sum := "ea604088a510ce5d5cc6cdc6500cf9a3f0bdf5d80a63753e8a94f341e4780383", func := "loop.example/weighedevidence/laws.FnExactSureMass", spec := "fnExactSureMass", apart := false, narrowed := true }
def FnExactSureMassUptoSaid : Prop := fnExactSureMassUptoRow.holds Try.pinned (OpenSpec.upto fnExactSureMassSpec)

/-- 'laws.FnExactMassValid', WHERE WHAT IT READS IS OF BULK AT MOST 1048576: true; the input reads as it did. -/
def fnExactMassValidUptoRow : OpenClaim := { program := "ytbfmholekedflaa", sum := "ea604088a510ce5d5cc6cdc6500cf9a3f0bdf5d80a63753e8a94f341e4780383", func := "loop.example/weighedevidence/laws.FnExactMassValid", spec := "fnExactMassValid", apart := false, narrowed := true }
def FnExactMassValidUptoSaid : Prop := fnExactMassValidUptoRow.holds Try.pinned (OpenSpec.upto fnExactMassValidSpec)

/-- 'laws.FnExactIsNormal', WHERE WHAT IT READS IS OF BULK AT MOST 1048576: true; the input reads as it did. -/
def fnExactIsNormalUptoRow : OpenClaim := { program := "ytbfmholekedflaa", sum := "ea604088a510ce5d5cc6cdc6500cf9a3f0bdf5d80a63753e8a94f341e4780383", func := "loop.example/weighedevidence/laws.FnExactIsNormal", spec := "fnExactIsNormal", apart := false, narrowed := true }
def FnExactIsNormalUptoSaid : Prop := fnExactIsNormalUptoRow.holds Try.pinned (OpenSpec.upto fnExactIsNormalSpec)

/-- 'laws.FnExactWholeOf', WHERE WHAT IT READS IS OF BULK AT MOST 1048576: true; the input reads as it did. -/
def fnExactWholeOfUptoRow : OpenClaim := { program := "ytbfmholekedflaa", sum := "ea604088a510ce5d5cc6cdc6500cf9a3f0bdf5d80a63753e8a94f341e4780383", func := "loop.example/weighedevidence/laws.FnExactWholeOf", spec := "fnExactWholeOf", apart := false, narrowed := true }
def FnExactWholeOfUptoSaid : Prop := fnExactWholeOfUptoRow.holds Try.pinned (OpenSpec.upto fnExactWholeOfSpec)

/-- 'laws.FnExactIsChance', WHERE WHAT IT READS IS OF BULK AT MOST 1048576: true; the input reads as it did. -/
def fnExactIsChanceUptoRow : OpenClaim := { program := "ytbfmholekedflaa", sum := "ea604088a510ce5d5cc6cdc6500cf9a3f0bdf5d80a63753e8a94f341e4780383", func := "loop.example/weighedevidence/laws.FnExactIsChance", spec := "fnExactIsChance", apart := false, narrowed := true }
def FnExactIsChanceUptoSaid : Prop := fnExactIsChanceUptoRow.holds Try.pinned (OpenSpec.upto fnExactIsChanceSpec)

/-- 'laws.FnExactIsNested', WHERE WHAT IT READS IS OF BULK AT MOST 1048576: true; the input reads as it did. -/
def fnExactIsNestedUptoRow : OpenClaim := { program := "ytbfmholekedflaa", sum := "ea604088a510ce5d5cc6cdc6500cf9a3f0bdf5d80a63753e8a94f341e4780383", func := "loop.example/weighedevidence/laws.FnExactIsNested", spec := "fnExactIsNested", apart := false, narrowed := true }
def FnExactIsNestedUptoSaid : Prop := fnExactIsNestedUptoRow.holds Try.pinned (OpenSpec.upto fnExactIsNestedSpec)

/-- 'laws.FnExactFocalSets', WHERE WHAT IT READS IS OF BULK AT MOST 1048576: true; the input reads as it did. -/
def fnExactFocalSetsUptoRow : OpenClaim := { program := "ytbfmholekedflaa", sum := "ea604088a510ce5d5cc6cdc6500cf9a3f0bdf5d80a63753e8a94f341e4780383", func := "loop.example/weighedevidence/laws.FnExactFocalSets", spec := "fnExactFocalSets", apart := false, narrowed := true }
def FnExactFocalSetsUptoSaid : Prop := fnExactFocalSetsUptoRow.holds Try.pinned (OpenSpec.upto fnExactFocalSetsSpec)

/-- 'laws.FnKinds', WHERE WHAT IT READS IS OF BULK AT MOST 1048576: true; the input reads as it did. -/
def fnKindsUptoRow : OpenClaim := { program := "ytbfmholekedflaa", sum := "ea604088a510ce5d5cc6cdc6500cf9a3f0bdf5d80a63753e8a94f341e4780383", func := "loop.example/weighedevidence/laws.FnKinds", spec := "fnKinds", apart := false, narrowed := true }
def FnKindsUptoSaid : Prop := fnKindsUptoRow.holds Try.pinned (OpenSpec.upto fnKindsSpec)

end Rows
end Go.Proofs.Ytbfmholekedflaa
