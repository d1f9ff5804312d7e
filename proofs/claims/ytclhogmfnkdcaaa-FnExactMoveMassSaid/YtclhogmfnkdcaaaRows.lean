/-
  No cell of these rows narrows 'for every input' (looked for: loops, veiled, ifaces, maps, wideKeys, modest, calm, conditions, laid).
  DERIVED. THE GIVEN ROWS OF THIS SEAT. 9 by the template 'for every input the law returns true; each argument reads behind the call as it read before'; 0 by the template 'total and deterministic' (their statements: YtclhogmfnkdcaaaTotals.lean).
  GIVEN WITH THE SEED: the statements are not yours to turn. If you find one false, say at which input.
  Laid BY PROGRAM, IN A SANDBOX (cutbox-rows.mjs): the forced cells as the released guide's own fill.sh prints them over the translation 665c79bf49749ab6… (all of the seat's roots in one cut). By AI agents, Wed Nov 11 2026. No macro, syntax, notation, axiom, sorry.
-/
import Derived.Test.YtclhogmfnkdcaaaChecked
import GoSem.Claim
import GoSem.ClaimJoined
import GoSem.ClaimMapViews
import Derived.JoinedTies
import Derived.KernelRfl
namespace Go.Proofs.Ytclhogmfnkdcaaa
/- THE CELL 'sum', in the pinned program and in every row, IS THE sha256 OF THE DUMP (.gsa) THAT YtclhogmfnkdcaaaProg.lean LOADS. Nothing in Lean hashes anything: it is a label: what it is worth is what the hold of that sum in a sandbox is worth. -/
noncomputable def Try.pinned : Pinned := { name := "ytclhogmfnkdcaaa", sum := "665c79bf49749ab6867defa170c9e8b6c2e8a7feafddc3c7292f1ae5cae05510", checked := Try.checked }
namespace Rows
def none {H : Type} : Left H := { results := [], args := [] }

/-- 'laws.FnMixMasses': WHATEVER THE INPUT: true; the input reads as it did. -/
def fnMixMassesSpec : ChangeSpec := { name := "fnMixMasses", fn := fun _ => fun
  | [d] => { results := [.lit (.bool true)], args := [d] }
  | _ => none }
def fnMixMassesRow : OpenClaim := { program := "ytclhogmfnkdcaaa", sum := "665c79bf49749ab6867defa170c9e8b6c2e8a7feafddc3c7292f1ae5cae05510", func := "loop.example/weighedevidence/laws.FnMixMasses", spec := "fnMixMasses", apart := false }
def FnMixMassesSaid : Prop := fnMixMassesRow.holds Try.pinned (OpenSpec.ofChange fnMixMassesSpec)

/-- ITS FALSE NEIGHBOUR: 'it returns false'. Refute it at one input. -/
def fnMixMassesWrong : ChangeSpec := { name := "fnMixMasses", fn := fun _ => fun
  | [d] => { results := [.lit (.bool false)], args := [d] }
  | _ => none }
def FnMixMassesWrongFalsely : Prop := fnMixMassesRow.holds Try.pinned (OpenSpec.ofChange fnMixMassesWrong)

/-- 'laws.FnExactMakeMass': WHATEVER THE INPUT: true; the input reads as it did. -/
def fnExactMakeMassSpec : ChangeSpec := { name := "fnExactMakeMass", fn := fun _ => fun
  | [d1, d2] => { results := [.lit (.bool true)], args := [d1, d2] }
  | _ => none }
def fnExactMakeMassRow : OpenClaim := { program := "ytclhogmfnkdcaaa", sum := "665c79bf49749ab6867defa170c9e8b6c2e8a7feafddc3c7292f1ae5cae05510", func := "loop.example/weighedevidence/laws.FnExactMakeMass", spec := "fnExactMakeMass", apart := false }
def FnExactMakeMassSaid : Prop := fnExactMakeMassRow.holds Try.pinned (OpenSpec.ofChange fnExactMakeMassSpec)

/-- ITS FALSE NEIGHBOUR: 'it returns false'. Refute it at one input. -/
def fnExactMakeMassWrong : ChangeSpec := { name := "fnExactMakeMass", fn := fun _ => fun
  | [d1, d2] => { results := [.lit (.bool false)], args := [d1, d2] }
  | _ => none }
def FnExactMakeMassWrongFalsely : Prop := fnExactMakeMassRow.holds Try.pinned (OpenSpec.ofChange fnExactMakeMassWrong)

/-- 'laws.FnExactShareOf': WHATEVER THE INPUT: true; the input reads as it did. -/
def fnExactShareOfSpec : ChangeSpec := { name := "fnExactShareOf", fn := fun _ => fun
  | [d1, d2] => { results := [.lit (.bool true)], args := [d1, d2] }
  | _ => none }
def fnExactShareOfRow : OpenClaim := { program := "ytclhogmfnkdcaaa", sum := "665c79bf49749ab6867defa170c9e8b6c2e8a7feafddc3c7292f1ae5cae05510", func := "loop.example/weighedevidence/laws.FnExactShareOf", spec := "fnExactShareOf", apart := false }
def FnExactShareOfSaid : Prop := fnExactShareOfRow.holds Try.pinned (OpenSpec.ofChange fnExactShareOfSpec)

/-- ITS FALSE NEIGHBOUR: 'it returns false'. Refute it at one input. -/
def fnExactShareOfWrong : ChangeSpec := { name := "fnExactShareOf", fn := fun _ => fun
  | [d1, d2] => { results := [.lit (.bool false)], args := [d1, d2] }
  | _ => none }
def FnExactShareOfWrongFalsely : Prop := fnExactShareOfRow.holds Try.pinned (OpenSpec.ofChange fnExactShareOfWrong)

/-- 'laws.FnExactSimpleMass': WHATEVER THE INPUT: true; the input reads as it did. -/
def fnExactSimpleMassSpec : ChangeSpec := { name := "fnExactSimpleMass", fn := fun _ => fun
  | [d1, d2, d3] => { results := [.lit (.bool true)], args := [d1, d2, d3] }
  | _ => none }
def fnExactSimpleMassRow : OpenClaim := { program := "ytclhogmfnkdcaaa", sum := "665c79bf49749ab6867defa170c9e8b6c2e8a7feafddc3c7292f1ae5cae05510", func := "loop.example/weighedevidence/laws.FnExactSimpleMass", spec := "fnExactSimpleMass", apart := false }
def FnExactSimpleMassSaid : Prop := fnExactSimpleMassRow.holds Try.pinned (OpenSpec.ofChange fnExactSimpleMassSpec)

/-- ITS FALSE NEIGHBOUR: 'it returns false'. Refute it at one input. -/
def fnExactSimpleMassWrong : ChangeSpec := { name := "fnExactSimpleMass", fn := fun _ => fun
  | [d1, d2, d3] => { results := [.lit (.bool false)], args := [d1, d2, d3] }
  | _ => none }
def FnExactSimpleMassWrongFalsely : Prop := fnExactSimpleMassRow.holds Try.pinned (OpenSpec.ofChange fnExactSimpleMassWrong)

/-- 'laws.FnExactMixMasses': WHATEVER THE INPUT: true; the input reads as it did. -/
def fnExactMixMassesSpec : ChangeSpec := { name := "fnExactMixMasses", fn := fun _ => fun
  | [d1, d2, d3] => { results := [.lit (.bool true)], args := [d1, d2, d3] }
  | _ => none }
def fnExactMixMassesRow : OpenClaim := { program := "ytclhogmfnkdcaaa", sum := "665c79bf49749ab6867defa170c9e8b6c2e8a7feafddc3c7292f1ae5cae05510", func := "loop.example/weighedevidence/laws.FnExactMixMasses", spec := "fnExactMixMasses", apart := false }
def FnExactMixMassesSaid : Prop := fnExactMixMassesRow.holds Try.pinned (OpenSpec.ofChange fnExactMixMassesSpec)

/-- ITS FALSE NEIGHBOUR: 'it returns false'. Refute it at one input. -/
def fnExactMixMassesWrong : ChangeSpec := { name := "fnExactMixMasses", fn := fun _ => fun
  | [d1, d2, d3] => { results := [.lit (.bool false)], args := [d1, d2, d3] }
  | _ => none }
def FnExactMixMassesWrongFalsely : Prop := fnExactMixMassesRow.holds Try.pinned (OpenSpec.ofChange fnExactMixMassesWrong)

/-- 'laws.FnExactMoveMass': WHATEVER THE INPUT: true; the input reads as it did. -/
def fnExactMoveMassSpec : ChangeSpec := { name := "fnExactMoveMass", fn := fun _ => fun
  | [d1, d2] => { results := [.lit (.bool true)], args := [d1, d2] }
  | _ => none }
def fnExactMoveMassRow : OpenClaim := { program := "ytclhogmfnkdcaaa", sum := "665c79bf49749ab6867defa170c9e8b6c2e8a7feafddc3c7292f1ae5cae05510", func := "loop.example/weighedevidence/laws.FnExactMoveMass", spec := "fnExactMoveMass", unfollowed := true, recurses := true, apart := false }
def FnExactMoveMassSaid : Prop := fnExactMoveMassRow.holds Try.pinned (OpenSpec.ofChange fnExactMoveMassSpec)

/-- ITS FALSE NEIGHBOUR: 'it returns false'. Refute it at one input. -/
def fnExactMoveMassWrong : ChangeSpec := { name := "fnExactMoveMass", fn := fun _ => fun
  | [d1, d2] => { results := [.lit (.bool false)], args := [d1, d2] }
  | _ => none }
def FnExactMoveMassWrongFalsely : Prop := fnExactMoveMassRow.holds Try.pinned (OpenSpec.ofChange fnExactMoveMassWrong)

/-- 'laws.FnMakeMass': WHATEVER THE INPUT: true; the input reads as it did. -/
def fnMakeMassSpec : ChangeSpec := { name := "fnMakeMass", fn := fun _ => fun
  | [d] => { results := [.lit (.bool true)], args := [d] }
  | _ => none }
def fnMakeMassRow : OpenClaim := { program := "ytclhogmfnkdcaaa", sum := "665c79bf49749ab6867defa170c9e8b6c2e8a7feafddc3c7292f1ae5cae05510", func := "loop.example/weighedevidence/laws.FnMakeMass", spec := "fnMakeMass", apart := false }
def FnMakeMassSaid : Prop := fnMakeMassRow.holds Try.pinned (OpenSpec.ofChange fnMakeMassSpec)

/-- ITS FALSE NEIGHBOUR: 'it returns false'. Refute it at one input. -/
def fnMakeMassWrong : ChangeSpec := { name := "fnMakeMass", fn := fun _ => fun
  | [d] => { results := [.lit (.bool false)], args := [d] }
  | _ => none }
def FnMakeMassWrongFalsely : Prop := fnMakeMassRow.holds Try.pinned (OpenSpec.ofChange fnMakeMassWrong)

/-- 'laws.FnShares': WHATEVER THE INPUT: true; the input reads as it did. -/
def fnSharesSpec : ChangeSpec := { name := "fnShares", fn := fun _ => fun
  | [d] => { results := [.lit (.bool true)], args := [d] }
  | _ => none }
def fnSharesRow : OpenClaim := { program := "ytclhogmfnkdcaaa", sum := "665c79bf49749ab6867defa170c9e8b6c2e8a7feafddc3c7292f1ae5cae05510", func := "loop.example/weighedevidence/laws.FnShares", spec := "fnShares", apart := false }
def FnSharesSaid : Prop := fnSharesRow.holds Try.pinned (OpenSpec.ofChange fnSharesSpec)

/-- ITS FALSE NEIGHBOUR: 'it returns false'. Refute it at one input. -/
def fnSharesWrong : ChangeSpec := { name := "fnShares", fn := fun _ => fun
  | [d] => { results := [.lit (.bool false)], args := [d] }
  | _ => none }
def FnSharesWrongFalsely : Prop := fnSharesRow.holds Try.pinned (OpenSpec.ofChange fnSharesWrong)

/-- 'laws.FnSimpleMass': WHATEVER THE INPUT: true; the input reads as it did. -/
def fnSimpleMassSpec : ChangeSpec := { name := "fnSimpleMass", fn := fun _ => fun
  | [d] => { results := [.lit (.bool true)], args := [d] }
  | _ => none }
def fnSimpleMassRow : OpenClaim := { program := "ytclhogmfnkdcaaa", sum := "665c79bf49749ab6867defa170c9e8b6c2e8a7feafddc3c7292f1ae5cae05510", func := "loop.example/weighedevidence/laws.FnSimpleMass", spec := "fnSimpleMass", apart := false }
def FnSimpleMassSaid : Prop := fnSimpleMassRow.holds Try.pinned (OpenSpec.ofChange fnSimpleMassSpec)

/-- ITS FALSE NEIGHBOUR: 'it returns false'. Refute it at one input. -/
def fnSimpleMassWrong : ChangeSpec := { name := "fnSimpleMass", fn := fun _ => fun
  | [d] => { results := [.lit (.bool false)], args := [d] }
  | _ => none }
def FnSimpleMassWrongFalsely : Prop := fnSimpleMassRow.holds Try.pinned (OpenSpec.ofChange fnSimpleMassWrong)

/- THE SECOND FORM. 'bulk': how many values and letters a reading holds, each counted each time it is reached (what is shared counts as often as it is met; a slice's spare places count too). A statement '..UptoSaid' is the law's where the arguments, and the package variables that the reading takes, are together of bulk at most 1048576: NARROWER than '..Said'. Prove '..Said' where nothing that the law and all that it calls make is longer than what came in: it says more and counts as full. Else prove '..UptoSaid'. A law counts once. -/
mutual
def uptoBulk {H : Type} : DataW H → Nat
  | .lit (.string bytes) => bytes.length + 1
  | .lit _ => 1
  | .nil => 1
  | .ptr d => uptoBulk d + 1
  | .slice elems spare => uptoBulkAll elems + uptoBulkAll spare + 1
  | .agg parts => uptoBulkAll parts + 1
  | .iface _ d => uptoBulk d + 1
  | .map entries => uptoBulkEntries entries + 1
  | .held _ => 1
def uptoBulkAll {H : Type} : List (DataW H) → Nat
  | [] => 0
  | d :: r => uptoBulk d + uptoBulkAll r
def uptoBulkEntries {H : Type} : List (Lit × DataW H) → Nat
  | [] => 0
  | x :: r => uptoBulkEntry x + uptoBulkEntries r
def uptoBulkEntry {H : Type} : Lit × DataW H → Nat
  | (.string bytes, d) => bytes.length + uptoBulk d + 1
  | (_, d) => uptoBulk d + 1
 end
def uptoSmall : (H : Type) → List (DataW H) → Bool := fun _ ds => decide (uptoBulkAll ds ≤ 1048576)
def OpenSpec.upto (s : _root_.Go.ChangeSpec) : _root_.Go.OpenSpec := { _root_.Go.OpenSpec.ofChange s with cond := some uptoSmall }

/-- 'laws.FnMixMasses', WHERE WHAT IT READS IS OF BULK AT MOST 1048576: true; the input reads as it did. -/
def fnMixMassesUptoRow : OpenClaim := { program := "ytclhogmfnkdcaaa", sum := "665c79bf49749ab6867defa170c9e8b6c2e8a7feafddc3c7292f1ae5cae05510", func := "loop.example/weighedevidence/laws.FnMixMasses", spec := "fnMixMasses", apart := false, narrowed := true }
def FnMixMassesUptoSaid : Prop := fnMixMassesUptoRow.holds Try.pinned (OpenSpec.upto fnMixMassesSpec)

/-- 'laws.FnExactMakeMass', WHERE WHAT IT READS IS OF BULK AT MOST 1048576: true; the input reads as it did. -/
def fnExactMakeMassUptoRow : OpenClaim := { program := "ytclhogmfnkdcaaa", sum := "665c79bf49749ab6867defa170c9e8b6c2e8a7feafddc3c7292f1ae5cae05510", func := "loop.example/weighedevidence/laws.FnExactMakeMass", spec := "fnExactMakeMass", apart := false, narrowed := true }
def FnExactMakeMassUptoSaid : Prop := fnExactMakeMassUptoRow.holds Try.pinned (OpenSpec.upto fnExactMakeMassSpec)

/-- 'laws.FnExactShareOf', WHERE WHAT IT READS IS OF BULK AT MOST 1048576: true; the input reads as it did. -/
def fnExactShareOfUptoRow : OpenClaim := { program := "ytclhogmfnkdcaaa", sum := "665c79bf49749ab6867defa170c9e8b6c2e8a7feafddc3c7292f1ae5cae05510", func := "loop.example/weighedevidence/laws.FnExactShareOf", spec := "fnExactShareOf", apart := false, narrowed := true }
def FnExactShareOfUptoSaid : Prop := fnExactShareOfUptoRow.holds Try.pinned (OpenSpec.upto fnExactShareOfSpec)

/-- 'laws.FnExactSimpleMass', WHERE WHAT IT READS IS OF BULK AT MOST 1048576: true; the input reads as it did. -/
def fnExactSimpleMassUptoRow : OpenClaim := { program := "ytclhogmfnkdcaaa", sum := "665c79bf49749ab6867defa170c9e8b6c2e8a7feafddc3c7292f1ae5cae05510", func := "loop.example/weighedevidence/laws.FnExactSimpleMass", spec := "fnExactSimpleMass", apart := false, narrowed := true }
def FnExactSimpleMassUptoSaid : Prop := fnExactSimpleMassUptoRow.holds Try.pinned (OpenSpec.upto fnExactSimpleMassSpec)

/-- 'laws.FnExactMixMasses', WHERE WHAT IT READS IS OF BULK AT MOST 1048576: true; the input reads as it did. -/
def fnExactMixMassesUptoRow : OpenClaim := { program := "ytclhogmfnkdcaaa", sum := "665c79bf49749ab6867defa170c9e8b6c2e8a7feafddc3c7292f1ae5cae05510", func := "loop.example/weighedevidence/laws.FnExactMixMasses", spec := "fnExactMixMasses", apart := false, narrowed := true }
def FnExactMixMassesUptoSaid : Prop := fnExactMixMassesUptoRow.holds Try.pinned (OpenSpec.upto fnExactMixMassesSpec)

/-- 'laws.FnExactMoveMass', WHERE WHAT IT READS IS OF BULK AT MOST 1048576: true; the input reads as it did. -/
def fnExactMoveMassUptoRow : OpenClaim := { program := "ytclhogmfnkdcaaa", sum := "665c79bf49749ab6867defa170c9e8b6c2e8a7feafddc3c7292f1ae5cae05510", func := "loop.example/weighedevidence/laws.FnExactMoveMass", spec := "fnExactMoveMass", unfollowed := true, recurses := true, apart := false, narrowed := true }
def FnExactMoveMassUptoSaid : Prop := fnExactMoveMassUptoRow.holds Try.pinned (OpenSpec.upto fnExactMoveMassSpec)

/-- 'laws.FnMakeMass', WHERE WHAT IT READS IS OF BULK AT MOST 1048576: true; the input reads as it did. -/
def fnMakeMassUptoRow : OpenClaim := { program := "ytclhogmfnkdcaaa", sum := "665c79bf49749ab6867defa170c9e8b6c2e8a7feafddc3c7292f1ae5cae05510", func := "loop.example/weighedevidence/laws.FnMakeMass", spec := "fnMakeMass", apart := false, narrowed := true }
def FnMakeMassUptoSaid : Prop := fnMakeMassUptoRow.holds Try.pinned (OpenSpec.upto fnMakeMassSpec)

/-- 'laws.FnShares', WHERE WHAT IT READS IS OF BULK AT MOST 1048576: true; the input reads as it did. -/
def fnSharesUptoRow : OpenClaim := { program := "ytclhogmfnkdcaaa", sum := "665c79bf49749ab6867defa170c9e8b6c2e8a7feafddc3c7292f1ae5cae05510", func := "loop.example/weighedevidence/laws.FnShares", spec := "fnShares", apart := false, narrowed := true }
def FnSharesUptoSaid : Prop := fnSharesUptoRow.holds Try.pinned (OpenSpec.upto fnSharesSpec)

/-- 'laws.FnSimpleMass', WHERE WHAT IT READS IS OF BULK AT MOST 1048576: true; the input reads as it did. -/
def fnSimpleMassUptoRow : OpenClaim := { program := "ytclhogmfnkdcaaa", sum := "665c79bf49749ab6867defa170c9e8b6c2e8a7feafddc3c7292f1ae5cae05510", func := "loop.example/weighedevidence/laws.FnSimpleMass", spec := "fnSimpleMass", apart := false, narrowed := true }
def FnSimpleMassUptoSaid : Prop := fnSimpleMassUptoRow.holds Try.pinned (OpenSpec.upto fnSimpleMassSpec)

end Rows
end Go.Proofs.Ytclhogmfnkdcaaa
