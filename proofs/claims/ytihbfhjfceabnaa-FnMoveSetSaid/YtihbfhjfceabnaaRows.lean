/-
  No cell of these rows narrows 'for every input' (looked for: loops, veiled, ifaces, maps, wideKeys, modest, calm, conditions, laid).
  DERIVED. THE GIVEN ROWS OF THIS SEAT. 4 by the template 'for every input the law returns true; each argument reads behind the call as it read before'; 0 by the template 'total and deterministic' (their statements: YtihbfhjfceabnaaTotals.lean).
  GIVEN WITH THE SEED: the statements are not yours to turn. If you find one false, say at which input.
  Laid BY PROGRAM, IN A SANDBOX (cutbox-rows.mjs): the forced cells as the released guide's own fill.sh prints them over the translation 06c20de13af14bf8… (all of the seat's roots in one cut). By AI agents, Wed Nov 11 2026. No macro, syntax, notation, axiom, sorry.
-/
import Derived.Test.YtihbfhjfceabnaaChecked
import GoSem.Claim
import GoSem.ClaimJoined
import GoSem.ClaimMapViews
import Derived.JoinedTies
import Derived.KernelRfl
namespace Go.Proofs.Ytihbfhjfceabnaa
/- THE CELL 'sum', in the pinned program and in every row, IS THE sha256 OF THE DUMP (.gsa) THAT YtihbfhjfceabnaaProg.lean LOADS. Nothing in Lean hashes anything: it is a label: what it is worth is what the hold of that sum in a sandbox is worth. -/
noncomputable def Try.pinned : Pinned := { name := "ytihbfhjfceabnaa", sum := "06c20de13af14bf80dca82579231f4db4e3b7a9d44481b752991568bf7e2c8f5", checked := Try.checked }
namespace Rows
def none {H : Type} : Left H := { results := [], args := [] }

/-- 'laws.FnMoveSet': WHATEVER THE INPUT: true; the input reads as it did. -/
def fnMoveSetSpec : ChangeSpec := { name := "fnMoveSet", fn := fun _ => fun
  | [d] => { results := [.lit (.bool true)], args := [d] }
  | _ => none }
def fnMoveSetRow : OpenClaim := { program := "ytihbfhjfceabnaa", sum := "06c20de13af14bf80dca82579231f4db4e3b7a9d44481b752991568bf7e2c8f5", func := "loop.example/weighedevidence/laws.FnMoveSet", spec := "fnMoveSet", apart := false }
def FnMoveSetSaid : Prop := fnMoveSetRow.holds Try.pinned (OpenSpec.ofChange fnMoveSetSpec)

/-- ITS FALSE NEIGHBOUR: 'it returns false'. Refute it at one input. -/
def fnMoveSetWrong : ChangeSpec := { name := "fnMoveSet", fn := fun _ => fun
  | [d] => { results := [.lit (.bool false)], args := [d] }
  | _ => none }
def FnMoveSetWrongFalsely : Prop := fnMoveSetRow.holds Try.pinned (OpenSpec.ofChange fnMoveSetWrong)

/-- 'laws.FnAddFractions': WHATEVER THE INPUT: true; the input reads as it did. -/
def fnAddFractionsSpec : ChangeSpec := { name := "fnAddFractions", fn := fun _ => fun
  | [d1, d2] => { results := [.lit (.bool true)], args := [d1, d2] }
  | _ => none }
def fnAddFractionsRow : OpenClaim := { program := "ytihbfhjfceabnaa", sum := "06c20de13af14bf80dca82579231f4db4e3b7a9d44481b752991568bf7e2c8f5", func := "loop.example/weighedevidence/laws.FnAddFractions", spec := "fnAddFractions", apart := false }
def FnAddFractionsSaid : Prop := fnAddFractionsRow.holds Try.pinned (OpenSpec.ofChange fnAddFractionsSpec)

/-- ITS FALSE NEIGHBOUR: 'it returns false'. Refute it at one input. -/
def fnAddFractionsWrong : ChangeSpec := { name := "fnAddFractions", fn := fun _ => fun
  | [d1, d2] => { results := [.lit (.bool false)], args := [d1, d2] }
  | _ => none }
def FnAddFractionsWrongFalsely : Prop := fnAddFractionsRow.holds Try.pinned (OpenSpec.ofChange fnAddFractionsWrong)

/-- 'laws.FnTimesFractions': WHATEVER THE INPUT: true; the input reads as it did. -/
def fnTimesFractionsSpec : ChangeSpec := { name := "fnTimesFractions", fn := fun _ => fun
  | [d1, d2] => { results := [.lit (.bool true)], args := [d1, d2] }
  | _ => none }
def fnTimesFractionsRow : OpenClaim := { program := "ytihbfhjfceabnaa", sum := "06c20de13af14bf80dca82579231f4db4e3b7a9d44481b752991568bf7e2c8f5", func := "loop.example/weighedevidence/laws.FnTimesFractions", spec := "fnTimesFractions", apart := false }
def FnTimesFractionsSaid : Prop := fnTimesFractionsRow.holds Try.pinned (OpenSpec.ofChange fnTimesFractionsSpec)

/-- ITS FALSE NEIGHBOUR: 'it returns false'. Refute it at one input. -/
def fnTimesFractionsWrong : ChangeSpec := { name := "fnTimesFractions", fn := fun _ => fun
  | [d1, d2] => { results := [.lit (.bool false)], args := [d1, d2] }
  | _ => none }
def FnTimesFractionsWrongFalsely : Prop := fnTimesFractionsRow.holds Try.pinned (OpenSpec.ofChange fnTimesFractionsWrong)

/-- 'laws.FnDivisor': WHATEVER THE INPUT: true; the input reads as it did. -/
def fnDivisorSpec : ChangeSpec := { name := "fnDivisor", fn := fun _ => fun
  | [d] => { results := [.lit (.bool true)], args := [d] }
  | _ => none }
def fnDivisorRow : OpenClaim := { program := "ytihbfhjfceabnaa", sum := "06c20de13af14bf80dca82579231f4db4e3b7a9d44481b752991568bf7e2c8f5", func := "loop.example/weighedevidence/laws.FnDivisor", spec := "fnDivisor", apart := false }
def FnDivisorSaid : Prop := fnDivisorRow.holds Try.pinned (OpenSpec.ofChange fnDivisorSpec)

/-- ITS FALSE NEIGHBOUR: 'it returns false'. Refute it at one input. -/
def fnDivisorWrong : ChangeSpec := { name := "fnDivisor", fn := fun _ => fun
  | [d] => { results := [.lit (.bool false)], args := [d] }
  | _ => none }
def FnDivisorWrongFalsely : Prop := fnDivisorRow.holds Try.pinned (OpenSpec.ofChange fnDivisorWrong)

/- THE SECOND FORM. 'bulk': how many values and letters a reading holds, each counted each time it is reached (what is shared counts as often as it is met; a slice's spare places count too). A statement '..UptoSaid' is the law's where the arguments, and the package variables that the reading takes, are together of bulk at most 1048576: NARROWER than '..Said'. Prove '..Said' where nothing that the law and all that it calls make is longer than what came in: it says more and counts as full. Else prove '..UptoSaid'. A law counts once. -/
mutual
def uptoBulk {H : Type} : DataW H → Nat
  | .lit (.string bytes) => bytes.length + 1
  | .lit _ => 1
  | .nil => 1
  | .ptr d => uptoBulk d + 1
  | .slice elems spare => uptoBulkAll elems + uptoBulkAll spare + 1
  | .agg parts => uptoBulkAll parts + 1
  | .iface _ d => uptoBulk d + 1
  | .map entries => uptoBulkEntries entries + 1
  | .held _ => 1
def uptoBulkAll {H : Type} : List (DataW H) → Nat
  | [] => 0
  | d :: r => uptoBulk d + uptoBulkAll r
def uptoBulkEntries {H : Type} : List (Lit × DataW H) → Nat
  | [] => 0
  | x :: r => uptoBulkEntry x + uptoBulkEntries r
def uptoBulkEntry {H : Type} : Lit × DataW H → Nat
  | (.string bytes, d) => bytes.length + uptoBulk d + 1
  | (_, d) => uptoBulk d + 1
 end
def uptoSmall : (H : Type) → List (DataW H) → Bool := fun _ ds => decide (uptoBulkAll ds ≤ 1048576)
def OpenSpec.upto (s : _root_.Go.ChangeSpec) : _root_.Go.OpenSpec := { _root_.Go.OpenSpec.ofChange s with cond := some uptoSmall }

/-- 'laws.FnMoveSet', WHERE WHAT IT READS IS OF BULK AT MOST 1048576: true; the input reads as it did. -/
def fnMoveSetUptoRow : OpenClaim := { program := "ytihbfhjfceabnaa", sum := "06c20de13af14bf80dca82579231f4db4e3b7a9d44481b752991568bf7e2c8f5", func := "loop.example/weighedevidence/laws.FnMoveSet", spec := "fnMoveSet", apart := false, narrowed := true }
def FnMoveSetUptoSaid : Prop := fnMoveSetUptoRow.holds Try.pinned (OpenSpec.upto fnMoveSetSpec)

/-- 'laws.FnAddFractions', WHERE WHAT IT READS IS OF BULK AT MOST 1048576: true; the input reads as it did. -/
def fnAddFractionsUptoRow : OpenClaim := { program := "ytihbfhjfceabnaa", sum := "06c20de13af14bf80dca82579231f4db4e3b7a9d44481b752991568bf7e2c8f5", func := "loop.example/weighedevidence/laws.FnAddFractions", spec := "fnAddFractions", apart := false, narrowed := true }
def FnAddFractionsUptoSaid : Prop := fnAddFractionsUptoRow.holds Try.pinned (OpenSpec.upto fnAddFractionsSpec)

/-- 'laws.FnTimesFractions', WHERE WHAT IT READS IS OF BULK AT MOST 1048576: true; the input reads as it did. -/
def fnTimesFractionsUptoRow : OpenClaim := { program := "ytihbfhjfceabnaa", sum := "06c20de13af14bf80dca82579231f4db4e3b7a9d44481b752991568bf7e2c8f5", func := "loop.example/weighedevidence/laws.FnTimesFractions", spec := "fnTimesFractions", apart := false, narrowed := true }
def FnTimesFractionsUptoSaid : Prop := fnTimesFractionsUptoRow.holds Try.pinned (OpenSpec.upto fnTimesFractionsSpec)

/-- 'laws.FnDivisor', WHERE WHAT IT READS IS OF BULK AT MOST 1048576: true; the input reads as it did. -/
def fnDivisorUptoRow : OpenClaim := { program := "ytihbfhjfceabnaa", sum := "06c20de13af14bf80dca82579231f4db4e3b7a9d44481b752991568bf7e2c8f5", func := "loop.example/weighedevidence/laws.FnDivisor", spec := "fnDivisor", apart := false, narrowed := true }
def FnDivisorUptoSaid : Prop := fnDivisorUptoRow.holds Try.pinned (OpenSpec.upto fnDivisorSpec)

end Rows
end Go.Proofs.Ytihbfhjfceabnaa
