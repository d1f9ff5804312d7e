/-
  No cell of these rows narrows 'for every input' (looked for: loops, veiled, ifaces, maps, wideKeys, modest, calm, conditions, laid).
  DERIVED. THE GIVEN ROWS OF THIS SEAT. 5 by the template 'for every input the law returns true; each argument reads behind the call as it read before'; 0 by the template 'total and deterministic' (their statements: YtemollfejgmlcaaTotals.lean).
  GIVEN WITH THE SEED: the statements are not yours to turn. If you find one false, say at which input.
  Laid BY PROGRAM, IN A SANDBOX (cutbox-rows.mjs): the forced cells as the released guide's own fill.sh prints them over the translation d6c191132e9869b4… (all of the seat's roots in one cut). By AI agents, Wed Nov 11 2026. No macro, syntax, notation, axiom, sorry.
-/
import Derived.Test.YtemollfejgmlcaaChecked
import GoSem.Claim
import GoSem.ClaimJoined
import GoSem.ClaimMapViews
import Derived.JoinedTies
import Derived.KernelRfl
namespace Go.Proofs.Ytemollfejgmlcaa
/- THE CELL 'sum', in the pinned program and in every row, IS THE sha256 OF THE DUMP (.gsa) THAT YtemollfejgmlcaaProg.lean LOADS. Nothing in Lean hashes anything: it is a label: what it is worth is what the hold of that sum in a sandbox is worth. -/
noncomputable def Try.pinned : Pinned := { name := "ytemollfejgmlcaa", sum := "d6c191132e9869b43cce3b8cd1122e3f254b8cefa1d17b5b41a61acfedce572d", checked := Try.checked }
namespace Rows
def none {H : Type} : Left H := { results := [], args := [] }

/-- 'laws.FnKinds': WHATEVER THE INPUT: true; the input reads as it did. -/
def fnKindsSpec : ChangeSpec := { name := "fnKinds", fn := fun _ => fun
  | [d] => { results := [.lit (.bool true)], args := [d] }
  | _ => none }
def fnKindsRow : OpenClaim := { program := "ytemollfejgmlcaa", sum := "d6c191132e9869b43cce3b8cd1122e3f254b8cefa1d17b5b41a61acfedce572d", func := "loop.example/weighedevidence/laws.FnKinds", spec := "fnKinds", apart := false }
def FnKindsSaid : Prop := fnKindsRow.holds Try.pinned (OpenSpec.ofChange fnKindsSpec)

/-- ITS FALSE NEIGHBOUR: 'it returns false'. Refute it at one input. -/
def fnKindsWrong : ChangeSpec := { name := "fnKinds", fn := fun _ => fun
  | [d] => { results := [.lit (.bool false)], args := [d] }
  | _ => none }
def FnKindsWrongFalsely : Prop := fnKindsRow.holds Try.pinned (OpenSpec.ofChange fnKindsWrong)

/-- 'laws.FnMakeMass': WHATEVER THE INPUT: true; the input reads as it did. -/
def fnMakeMassSpec : ChangeSpec := { name := "fnMakeMass", fn := fun _ => fun
  | [d] => { results := [.lit (.bool true)], args := [d] }
  | _ => none }
def fnMakeMassRow : OpenClaim := { program := "ytemollfejgmlcaa", sum := "d6c191132e9869b43cce3b8cd1122e3f254b8cefa1d17b5b41a61acfedce572d", func := "loop.example/weighedevidence/laws.FnMakeMass", spec := "fnMakeMass", apart := false }
def FnMakeMassSaid : Prop := fnMakeMassRow.holds Try.pinned (OpenSpec.ofChange fnMakeMassSpec)

/-- ITS FALSE NEIGHBOUR: 'it returns false'. Refute it at one input. -/
def fnMakeMassWrong : ChangeSpec := { name := "fnMakeMass", fn := fun _ => fun
  | [d] => { results := [.lit (.bool false)], args := [d] }
  | _ => none }
def FnMakeMassWrongFalsely : Prop := fnMakeMassRow.holds Try.pinned (OpenSpec.ofChange fnMakeMassWrong)

/-- 'laws.FnShares': WHATEVER THE INPUT: true; the input reads as it did. -/
def fnSharesSpec : ChangeSpec := { name := "fnShares", fn := fun _ => fun
  | [d] => { results := [.lit (.bool true)], args := [d] }
  | _ => none }
def fnSharesRow : OpenClaim := { program := "ytemollfejgmlcaa", sum := "d6c191132e9869b43cce3b8cd1122e3f254b8cefa1d17b5b41a61acfedce572d", func := "loop.example/weighedevidence/laws.FnShares", spec := "fnShares", apart := false }
def FnSharesSaid : Prop := fnSharesRow.holds Try.pinned (OpenSpec.ofChange fnSharesSpec)

/-- ITS FALSE NEIGHBOUR: 'it returns false'. Refute it at one input. -/
def fnSharesWrong : ChangeSpec := { name := "fnShares", fn := fun _ => fun
  | [d] => { results := [.lit (.bool false)], args := [d] }
  | _ => none }
def FnSharesWrongFalsely : Prop := fnSharesRow.holds Try.pinned (OpenSpec.ofChange fnSharesWrong)

/-- 'laws.FnSimpleMass': WHATEVER THE INPUT: true; the input reads as it did. -/
def fnSimpleMassSpec : ChangeSpec := { name := "fnSimpleMass", fn := fun _ => fun
  | [d] => { results := [.lit (.bool true)], args := [d] }
  | _ => none }
def fnSimpleMassRow : OpenClaim := { program := "ytemollfejgmlcaa", sum := "d6c191132e9869b43cce3b8cd1122e3f254b8cefa1d17b5b41a61acfedce572d", func := "loop.example/weighedevidence/laws.FnSimpleMass", spec := "fnSimpleMass", apart := false }
def FnSimpleMassSaid : Prop := fnSimpleMassRow.holds Try.pinned (OpenSpec.ofChange fnSimpleMassSpec)

/-- ITS FALSE NEIGHBOUR: 'it returns false'. Refute it at one input. -/
def fnSimpleMassWrong : ChangeSpec := { name := "fnSimpleMass", fn := fun _ => fun
  | [d] => { results := [.lit (.bool false)], args := [d] }
  | _ => none }
def FnSimpleMassWrongFalsely : Prop := fnSimpleMassRow.holds Try.pinned (OpenSpec.ofChange fnSimpleMassWrong)

/-- 'laws.FnMixMasses': WHATEVER THE INPUT: true; the input reads as it did. -/
def fnMixMassesSpec : ChangeSpec := { name := "fnMixMasses", fn := fun _ => fun
  | [d] => { results := [.lit (.bool true)], args := [d] }
  | _ => none }
def fnMixMassesRow : OpenClaim := { program := "ytemollfejgmlcaa", sum := "d6c191132e9869b43cce3b8cd1122e3f254b8cefa1d17b5b41a61acfedce572d", func := "loop.example/weighedevidence/laws.FnMixMasses", spec := "fnMixMasses", apart := false }
def FnMixMassesSaid : Prop := fnMixMassesRow.holds Try.pinned (OpenSpec.ofChange fnMixMassesSpec)

/-- ITS FALSE NEIGHBOUR: 'it returns false'. Refute it at one input. -/
def fnMixMassesWrong : ChangeSpec := { name := "fnMixMasses", fn := fun _ => fun
  | [d] => { results := [.lit (.bool false)], args := [d] }
  | _ => none }
def FnMixMassesWrongFalsely : Prop := fnMixMassesRow.holds Try.pinned (OpenSpec.ofChange fnMixMassesWrong)

/- THE SECOND FORM. 'bulk': how many values and letters a reading holds, each counted each time it is reached (what is shared counts as often as it is met; a slice's spare places count too). A statement '..UptoSaid' is the law's where the arguments, and the package variables that the reading takes, are together of bulk at most 1048576: NARROWER than '..Said'. Prove '..Said' where nothing that the law and all that it calls make is longer than what came in: it says more and counts as full. Else prove '..UptoSaid'. A law counts once. -/
mutual
def uptoBulk {H : Type} : DataW H → Nat
  | .lit (.string bytes) => bytes.length + 1
  | .lit _ => 1
  | .nil => 1
  | .ptr d => uptoBulk d + 1
  | .slice elems spare => uptoBulkAll elems + uptoBulkAll spare + 1
  | .agg parts => uptoBulkAll parts + 1
  | .iface _ d => uptoBulk d + 1
  | .map entries => uptoBulkEntries entries + 1
  | .held _ => 1
def uptoBulkAll {H : Type} : List (DataW H) → Nat
  | [] => 0
  | d :: r => uptoBulk d + uptoBulkAll r
def uptoBulkEntries {H : Type} : List (Lit × DataW H) → Nat
  | [] => 0
  | x :: r => uptoBulkEntry x + uptoBulkEntries r
def uptoBulkEntry {H : Type} : Lit × DataW H → Nat
  | (.string bytes, d) => bytes.length + uptoBulk d + 1
  | (_, d) => uptoBulk d + 1
 end
def uptoSmall : (H : Type) → List (DataW H) → Bool := fun _ ds => decide (uptoBulkAll ds ≤ 1048576)
def OpenSpec.upto (s : _root_.Go.ChangeSpec) : _root_.Go.OpenSpec := { _root_.Go.OpenSpec.ofChange s with cond := some uptoSmall }

/-- 'laws.FnKinds', WHERE WHAT IT READS IS OF BULK AT MOST 1048576: true; the input reads as it did. -/
def fnKindsUptoRow : OpenClaim := { program := "ytemollfejgmlcaa", sum := "d6c191132e9869b43cce3b8cd1122e3f254b8cefa1d17b5b41a61acfedce572d", func := "loop.example/weighedevidence/laws.FnKinds", spec := "fnKinds", apart := false, narrowed := true }
def FnKindsUptoSaid : Prop := fnKindsUptoRow.holds Try.pinned (OpenSpec.upto fnKindsSpec)

/-- 'laws.FnMakeMass', WHERE WHAT IT READS IS OF BULK AT MOST 1048576: true; the input reads as it did. -/
def fnMakeMassUptoRow : OpenClaim := { program := "ytemollfejgmlcaa", sum := "d6c191132e9869b43cce3b8cd1122e3f254b8cefa1d17b5b41a61acfedce572d", func := "loop.example/weighedevidence/laws.FnMakeMass", spec := "fnMakeMass", apart := false, narrowed := true }
def FnMakeMassUptoSaid : Prop := fnMakeMassUptoRow.holds Try.pinned (OpenSpec.upto fnMakeMassSpec)

/-- 'laws.FnShares', WHERE WHAT IT READS IS OF BULK AT MOST 1048576: true; the input reads as it did. -/
def fnSharesUptoRow : OpenClaim := { program := "ytemollfejgmlcaa", sum := "d6c191132e9869b43cce3b8cd1122e3f254b8cefa1d17b5b41a61acfedce572d", func := "loop.example/weighedevidence/laws.FnShares", spec := "fnShares", apart := false, narrowed := true }
def FnSharesUptoSaid : Prop := fnSharesUptoRow.holds Try.pinned (OpenSpec.upto fnSharesSpec)

/-- 'laws.FnSimpleMass', WHERE WHAT IT READS IS OF BULK AT MOST 1048576: true; the input reads as it did. -/
def fnSimpleMassUptoRow : OpenClaim := { program := "ytemollfejgmlcaa", sum := "d6c191132e9869b43cce3b8cd1122e3f254b8cefa1d17b5b41a61acfedce572d", func := "loop.example/weighedevidence/laws.FnSimpleMass", spec := "fnSimpleMass", apart := false, narrowed := true }
def FnSimpleMassUptoSaid : Prop := fnSimpleMassUptoRow.holds Try.pinned (OpenSpec.upto fnSimpleMassSpec)

/-- 'laws.FnMixMasses', WHERE WHAT IT READS IS OF BULK AT MOST 1048576: true; the input reads as it did. -/
def fnMixMassesUptoRow : OpenClaim := { program := "ytemollfejgmlcaa", sum := "d6c191132e9869b43cce3b8cd1122e3f254b8cefa1d17b5b41a61acfedce572d", func := "loop.example/weighedevidence/laws.FnMixMasses", spec := "fnMixMasses", apart := false, narrowed := true }
def FnMixMassesUptoSaid : Prop := fnMixMassesUptoRow.holds Try.pinned (OpenSpec.upto fnMixMassesSpec)

end Rows
end Go.Proofs.Ytemollfejgmlcaa
