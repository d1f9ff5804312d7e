/-
  No cell of these rows narrows 'for every input' (looked for: loops, veiled, ifaces, maps, wideKeys, modest, calm, conditions, laid).
  DERIVED. THE GIVEN ROWS OF THIS SEAT. 13 by the template 'for every input the law returns true; each argument reads behind the call as it read before'; 0 by the template 'total and deterministic' (their statements: YtkgbnagbeoeijaaTotals.lean).
  GIVEN WITH THE SEED: the statements are not yours to turn. If you find one false, say at which input.
  Laid BY PROGRAM, IN A SANDBOX (cutbox-rows.mjs): the forced cells as the released guide's own fill.sh prints them over the translation 1da7f82db9506d65… (all of the seat's roots in one cut). By AI agents, Wed Nov 11 2026. No macro, syntax, notation, axiom, sorry.
-/
import Derived.Test.YtkgbnagbeoeijaaChecked
import GoSem.Claim
import GoSem.ClaimJoined
import GoSem.ClaimMapViews
import Derived.JoinedTies
import Derived.KernelRfl
namespace Go.Proofs.Ytkgbnagbeoeijaa
/- THE CELL 'sum', in the pinned program and in every row, IS THE sha256 OF THE DUMP (.gsa) THAT YtkgbnagbeoeijaaProg.lean LOADS. Nothing in Lean hashes anything: it is a label: what it is worth is what the hold of that sum in a sandbox is worth. -/
noncomputable def Try.pinned : Pinned := { name := "ytkgbnagbeoeijaa", sum := "1da7f82db9506d65b75ffce9fdbc43e9e97e483260bef62800895fe0e421764a", checked := Try.checked }
namespace Rows
def none {H : Type} : Left H := { results := [], args := [] }

/-- 'laws.FnExactFractionValid': WHATEVER THE INPUT: true; the input reads as it did. -/
def fnExactFractionValidSpec : ChangeSpec := { name := "fnExactFractionValid", fn := fun _ => fun
  | [d] => { results := [.lit (.bool true)], args := [d] }
  | _ => none }
def fnExactFractionValidRow : OpenClaim := { program := "ytkgbnagbeoeijaa", sum := "1da7f82db9506d65b75ffce9fdbc43e9e97e483260bef62800895fe0e421764a", func := "loop.example/weighedevidence/laws.FnExactFractionValid", spec := "fnExactFractionValid", apart := false }
def FnExactFractionValidSaid : Prop := fnExactFractionValidRow.holds Try.pinned (OpenSpec.ofChange fnExactFractionValidSpec)

/-- ITS FALSE NEIGHBOUR: 'it returns false'. Refute it at one input. -/
def fnExactFractionValidWrong : ChangeSpec := { name := "fnExactFractionValid", fn := fun _ => fun
  | [d] => { results := [.lit (.bool false)], args := [d] }
  | _ => none }
def FnExactFractionValidWrongFalsely : Prop := fnExactFractionValidRow.holds Try.pinned (OpenSpec.ofChange fnExactFractionValidWrong)

/-- 'laws.FnExactLessFraction': WHATEVER THE INPUT: true; the input reads as it did. -/
def fnExactLessFractionSpec : ChangeSpec := { name := "fnExactLessFraction", fn := fun _ => fun
  | [d1, d2] => { results := [.lit (.bool true)], args := [d1, d2] }
  | _ => none }
def fnExactLessFractionRow : OpenClaim := { program := "ytkgbnagbeoeijaa", sum := "1da7f82db9506d65b75ffce9fdbc43e9e97e483260bef62800895fe0e421764a", func := "loop.example/weighedevidence/laws.FnExactLessFraction", spec := "fnExactLessFraction", apart := false }
def FnExactLessFractionSaid : Prop := fnExactLessFractionRow.holds Try.pinned (OpenSpec.ofChange fnExactLessFractionSpec)

/-- ITS FALSE NEIGHBOUR: 'it returns false'. Refute it at one input. -/
def fnExactLessFractionWrong : ChangeSpec := { name := "fnExactLessFraction", fn := fun _ => fun
  | [d1, d2] => { results := [.lit (.bool false)], args := [d1, d2] }
  | _ => none }
def FnExactLessFractionWrongFalsely : Prop := fnExactLessFractionRow.holds Try.pinned (OpenSpec.ofChange fnExactLessFractionWrong)

/-- 'laws.FnExactMinusFraction': WHATEVER THE INPUT: true; the input reads as it did. -/
def fnExactMinusFractionSpec : ChangeSpec := { name := "fnExactMinusFraction", fn := fun _ => fun
  | [d] => { results := [.lit (.bool true)], args := [d] }
  | _ => none }
def fnExactMinusFractionRow : OpenClaim := { program := "ytkgbnagbeoeijaa", sum := "1da7f82db9506d65b75ffce9fdbc43e9e97e483260bef62800895fe0e421764a", func := "loop.example/weighedevidence/laws.FnExactMinusFraction", spec := "fnExactMinusFraction", apart := false }
def FnExactMinusFractionSaid : Prop := fnExactMinusFractionRow.holds Try.pinned (OpenSpec.ofChange fnExactMinusFractionSpec)

/-- ITS FALSE NEIGHBOUR: 'it returns false'. Refute it at one input. -/
def fnExactMinusFractionWrong : ChangeSpec := { name := "fnExactMinusFraction", fn := fun _ => fun
  | [d] => { results := [.lit (.bool false)], args := [d] }
  | _ => none }
def FnExactMinusFractionWrongFalsely : Prop := fnExactMinusFractionRow.holds Try.pinned (OpenSpec.ofChange fnExactMinusFractionWrong)

/-- 'laws.FnExactGreatestDivisor': WHATEVER THE INPUT: true; the input reads as it did. -/
def fnExactGreatestDivisorSpec : ChangeSpec := { name := "fnExactGreatestDivisor", fn := fun _ => fun
  | [d] => { results := [.lit (.bool true)], args := [d] }
  | _ => none }
def fnExactGreatestDivisorRow : OpenClaim := { program := "ytkgbnagbeoeijaa", sum := "1da7f82db9506d65b75ffce9fdbc43e9e97e483260bef62800895fe0e421764a", func := "loop.example/weighedevidence/laws.FnExactGreatestDivisor", spec := "fnExactGreatestDivisor", apart := false }
def FnExactGreatestDivisorSaid : Prop := fnExactGreatestDivisorRow.holds Try.pinned (OpenSpec.ofChange fnExactGreatestDivisorSpec)

/-- ITS FALSE NEIGHBOUR: 'it returns false'. Refute it at one input. -/
def fnExactGreatestDivisorWrong : ChangeSpec := { name := "fnExactGreatestDivisor", fn := fun _ => fun
  | [d] => { results := [.lit (.bool false)], args := [d] }
  | _ => none }
def FnExactGreatestDivisorWrongFalsely : Prop := fnExactGreatestDivisorRow.holds Try.pinned (OpenSpec.ofChange fnExactGreatestDivisorWrong)

/-- 'laws.FnExactFractional': WHATEVER THE INPUT: true; the input reads as it did. -/
def fnExactFractionalSpec : ChangeSpec := { name := "fnExactFractional", fn := fun _ => fun
  | [d1, d2] => { results := [.lit (.bool true)], args := [d1, d2] }
  | _ => none }
def fnExactFractionalRow : OpenClaim := { program := "ytkgbnagbeoeijaa", sum := "1da7f82db9506d65b75ffce9fdbc43e9e97e483260bef62800895fe0e421764a", func := "loop.example/weighedevidence/laws.FnExactFractional", spec := "fnExactFractional", apart := false }
def FnExactFractionalSaid : Prop := fnExactFractionalRow.holds Try.pinned (OpenSpec.ofChange fnExactFractionalSpec)

/-- ITS FALSE NEIGHBOUR: 'it returns false'. Refute it at one input. -/
def fnExactFractionalWrong : ChangeSpec := { name := "fnExactFractional", fn := fun _ => fun
  | [d1, d2] => { results := [.lit (.bool false)], args := [d1, d2] }
  | _ => none }
def FnExactFractionalWrongFalsely : Prop := fnExactFractionalRow.holds Try.pinned (OpenSpec.ofChange fnExactFractionalWrong)

/-- 'laws.FnDivisor': WHATEVER THE INPUT: true; the input reads as it did. -/
def fnDivisorSpec : ChangeSpec := { name := "fnDivisor", fn := fun _ => fun
  | [d] => { results := [.lit (.bool true)], args := [d] }
  | _ => none }
def fnDivisorRow : OpenClaim := { program := "ytkgbnagbeoeijaa", sum := "1da7f82db9506d65b75ffce9fdbc43e9e97e483260bef62800895fe0e421764a", func := "loop.example/weighedevidence/laws.FnDivisor", spec := "fnDivisor", apart := false }
def FnDivisorSaid : Prop := fnDivisorRow.holds Try.pinned (OpenSpec.ofChange fnDivisorSpec)

/-- ITS FALSE NEIGHBOUR: 'it returns false'. Refute it at one input. -/
def fnDivisorWrong : ChangeSpec := { name := "fnDivisor", fn := fun _ => fun
  | [d] => { results := [.lit (.bool false)], args := [d] }
  | _ => none }
def FnDivisorWrongFalsely : Prop := fnDivisorRow.holds Try.pinned (OpenSpec.ofChange fnDivisorWrong)

/-- 'laws.FnExactAddFractions': WHATEVER THE INPUT: true; the input reads as it did. -/
def fnExactAddFractionsSpec : ChangeSpec := { name := "fnExactAddFractions", fn := fun _ => fun
  | [d1, d2] => { results := [.lit (.bool true)], args := [d1, d2] }
  | _ => none }
def fnExactAddFractionsRow : OpenClaim := { program := "ytkgbnagbeoeijaa", sum := "1da7f82db9506d65b75ffce9fdbc43e9e97e483260bef62800895fe0e421764a", func := "loop.example/weighedevidence/laws.FnExactAddFractions", spec := "fnExactAddFractions", apart := false }
def FnExactAddFractionsSaid : Prop := fnExactAddFractionsRow.holds Try.pinned (OpenSpec.ofChange fnExactAddFractionsSpec)

/-- ITS FALSE NEIGHBOUR: 'it returns false'. Refute it at one input. -/
def fnExactAddFractionsWrong : ChangeSpec := { name := "fnExactAddFractions", fn := fun _ => fun
  | [d1, d2] => { results := [.lit (.bool false)], args := [d1, d2] }
  | _ => none }
def FnExactAddFractionsWrongFalsely : Prop := fnExactAddFractionsRow.holds Try.pinned (OpenSpec.ofChange fnExactAddFractionsWrong)

/-- 'laws.FnExactOverFractions': WHATEVER THE INPUT: true; the input reads as it did. -/
def fnExactOverFractionsSpec : ChangeSpec := { name := "fnExactOverFractions", fn := fun _ => fun
  | [d1, d2] => { results := [.lit (.bool true)], args := [d1, d2] }
  | _ => none }
def fnExactOverFractionsRow : OpenClaim := { program := "ytkgbnagbeoeijaa", sum := "1da7f82db9506d65b75ffce9fdbc43e9e97e483260bef62800895fe0e421764a", func := "loop.example/weighedevidence/laws.FnExactOverFractions", spec := "fnExactOverFractions", apart := false }
def FnExactOverFractionsSaid : Prop := fnExactOverFractionsRow.holds Try.pinned (OpenSpec.ofChange fnExactOverFractionsSpec)

/-- ITS FALSE NEIGHBOUR: 'it returns false'. Refute it at one input. -/
def fnExactOverFractionsWrong : ChangeSpec := { name := "fnExactOverFractions", fn := fun _ => fun
  | [d1, d2] => { results := [.lit (.bool false)], args := [d1, d2] }
  | _ => none }
def FnExactOverFractionsWrongFalsely : Prop := fnExactOverFractionsRow.holds Try.pinned (OpenSpec.ofChange fnExactOverFractionsWrong)

/-- 'laws.FnExactTimesFractions': WHATEVER THE INPUT: true; the input reads as it did. -/
def fnExactTimesFractionsSpec : ChangeSpec := { name := "fnExactTimesFractions", fn := fun _ => fun
  | [d1, d2] => { results := [.lit (.bool true)], args := [d1, d2] }
  | _ => none }
def fnExactTimesFractionsRow : OpenClaim := { program := "ytkgbnagbeoeijaa", sum := "1da7f82db9506d65b75ffce9fdbc43e9e97e483260bef62800895fe0e421764a", func := "loop.example/weighedevidence/laws.FnExactTimesFractions", spec := "fnExactTimesFractions", apart := false }
def FnExactTimesFractionsSaid : Prop := fnExactTimesFractionsRow.holds Try.pinned (OpenSpec.ofChange fnExactTimesFractionsSpec)

/-- ITS FALSE NEIGHBOUR: 'it returns false'. Refute it at one input. -/
def fnExactTimesFractionsWrong : ChangeSpec := { name := "fnExactTimesFractions", fn := fun _ => fun
  | [d1, d2] => { results := [.lit (.bool false)], args := [d1, d2] }
  | _ => none }
def FnExactTimesFractionsWrongFalsely : Prop := fnExactTimesFractionsRow.holds Try.pinned (OpenSpec.ofChange fnExactTimesFractionsWrong)

/-- 'laws.FnFractional': WHATEVER THE INPUT: true; the input reads as it did. -/
def fnFractionalSpec : ChangeSpec := { name := "fnFractional", fn := fun _ => fun
  | [d] => { results := [.lit (.bool true)], args := [d] }
  | _ => none }
def fnFractionalRow : OpenClaim := { program := "ytkgbnagbeoeijaa", sum := "1da7f82db9506d65b75ffce9fdbc43e9e97e483260bef62800895fe0e421764a", func := "loop.example/weighedevidence/laws.FnFractional", spec := "fnFractional", apart := false }
def FnFractionalSaid : Prop := fnFractionalRow.holds Try.pinned (OpenSpec.ofChange fnFractionalSpec)

/-- ITS FALSE NEIGHBOUR: 'it returns false'. Refute it at one input. -/
def fnFractionalWrong : ChangeSpec := { name := "fnFractional", fn := fun _ => fun
  | [d] => { results := [.lit (.bool false)], args := [d] }
  | _ => none }
def FnFractionalWrongFalsely : Prop := fnFractionalRow.holds Try.pinned (OpenSpec.ofChange fnFractionalWrong)

/-- 'laws.FnLessFraction': WHATEVER THE INPUT: true; the input reads as it did. -/
def fnLessFractionSpec : ChangeSpec := { name := "fnLessFraction", fn := fun _ => fun
  | [d] => { results := [.lit (.bool true)], args := [d] }
  | _ => none }
def fnLessFractionRow : OpenClaim := { program := "ytkgbnagbeoeijaa", sum := "1da7f82db9506d65b75ffce9fdbc43e9e97e483260bef62800895fe0e421764a", func := "loop.example/weighedevidence/laws.FnLessFraction", spec := "fnLessFraction", apart := false }
def FnLessFractionSaid : Prop := fnLessFractionRow.holds Try.pinned (OpenSpec.ofChange fnLessFractionSpec)

/-- ITS FALSE NEIGHBOUR: 'it returns false'. Refute it at one input. -/
def fnLessFractionWrong : ChangeSpec := { name := "fnLessFraction", fn := fun _ => fun
  | [d] => { results := [.lit (.bool false)], args := [d] }
  | _ => none }
def FnLessFractionWrongFalsely : Prop := fnLessFractionRow.holds Try.pinned (OpenSpec.ofChange fnLessFractionWrong)

/-- 'laws.FnAddFractions': WHATEVER THE INPUT: true; the input reads as it did. -/
def fnAddFractionsSpec : ChangeSpec := { name := "fnAddFractions", fn := fun _ => fun
  | [d1, d2] => { results := [.lit (.bool true)], args := [d1, d2] }
  | _ => none }
def fnAddFractionsRow : OpenClaim := { program := "ytkgbnagbeoeijaa", sum := "1da7f82db9506d65b75ffce9fdbc43e9e97e483260bef62800895fe0e421764a", func := "loop.example/weighedevidence/laws.FnAddFractions", spec := "fnAddFractions", apart := false }
def FnAddFractionsSaid : Prop := fnAddFractionsRow.holds Try.pinned (OpenSpec.ofChange fnAddFractionsSpec)

/-- ITS FALSE NEIGHBOUR: 'it returns false'. Refute it at one input. -/
def fnAddFractionsWrong : ChangeSpec := { name := "fnAddFractions", fn := fun _ => fun
  | [d1, d2] => { results := [.lit (.bool false)], args := [d1, d2] }
  | _ => none }
def FnAddFractionsWrongFalsely : Prop := fnAddFractionsRow.holds Try.pinned (OpenSpec.ofChange fnAddFractionsWrong)

/-- 'laws.FnTimesFractions': WHATEVER THE INPUT: true; the input reads as it did. -/
def fnTimesFractionsSpec : ChangeSpec := { name := "fnTimesFractions", fn := fun _ => fun
  | [d1, d2] => { results := [.lit (.bool true)], args := [d1, d2] }
  | _ => none }
def fnTimesFractionsRow : OpenClaim := { program := "ytkgbnagbeoeijaa", sum := "1da7f82db9506d65b75ffce9fdbc43e9e97e483260bef62800895fe0e421764a", func := "loop.example/weighedevidence/laws.FnTimesFractions", spec := "fnTimesFractions", apart := false }
def FnTimesFractionsSaid : Prop := fnTimesFractionsRow.holds Try.pinned (OpenSpec.ofChange fnTimesFractionsSpec)

/-- ITS FALSE NEIGHBOUR: 'it returns false'. Refute it at one input. -/
def fnTimesFractionsWrong : ChangeSpec := { name := "fnTimesFractions", fn := fun _ => fun
  | [d1, d2] => { results := [.lit (.bool false)], args := [d1, d2] }
  | _ => none }
def FnTimesFractionsWrongFalsely : Prop := fnTimesFractionsRow.holds Try.pinned (OpenSpec.ofChange fnTimesFractionsWrong)

/- THE SECOND FORM. 'bulk': how many values and letters a reading holds, each counted each time it is reached (what is shared counts as often as it is met; a slice's spare places count too). A statement '..UptoSaid' is the law's where the arguments, and the package variables that the reading takes, are together of bulk at most 1048576: NARROWER than '..Said'. Prove '..Said' where nothing that the law and all that it calls make is longer than what came in: it says more and counts as full. Else prove '..UptoSaid'. A law counts once. -/
mutual
def uptoBulk {H : Type} : DataW H → Nat
  | .lit (.string bytes) => bytes.length + 1
  | .lit _ => 1
  | .nil => 1
  | .ptr d => uptoBulk d + 1
  | .slice elems spare => uptoBulkAll elems + uptoBulkAll spare + 1
  | .agg parts => uptoBulkAll parts + 1
  | .iface _ d => uptoBulk d + 1
  | .map entries => uptoBulkEntries entries + 1
  | .held _ => 1
def uptoBulkAll {H : Type} : List (DataW H) → Nat
  | [] => 0
  | d :: r => uptoBulk d + uptoBulkAll r
def uptoBulkEntries {H : Type} : List (Lit × DataW H) → Nat
  | [] => 0
  | x :: r => uptoBulkEntry x + uptoBulkEntries r
def uptoBulkEntry {H : Type} : Lit × DataW H → Nat
  | (.string bytes, d) => bytes.length + uptoBulk d + 1
  | (_, d) => uptoBulk d + 1
 end
def uptoSmall : (H : Type) → List (DataW H) → Bool := fun _ ds => decide (uptoBulkAll ds ≤ 1048576)
def OpenSpec.upto (s : _root_.Go.ChangeSpec) : _root_.Go.OpenSpec := { _root_.Go.OpenSpec.ofChange s with cond := some uptoSmall }

/-- 'laws.FnExactFractionValid', WHERE WHAT IT READS IS OF BULK AT MOST 1048576: true; the input reads as it did. -/
def fnExactFractionValidUptoRow : OpenClaim := { program := "ytkgbnagbeoeijaa", sum := "1da7f82db9506d65b75ffce9fdbc43e9e97e483260bef62800895fe0e421764a", func := "loop.example/weighedevidence/laws.FnExactFractionValid", spec := "fnExactFractionValid", apart := false, narrowed := true }
def FnExactFractionValidUptoSaid : Prop := fnExactFractionValidUptoRow.holds Try.pinned (OpenSpec.upto fnExactFractionValidSpec)

/-- 'laws.FnExactLessFraction', WHERE WHAT IT READS IS OF BULK AT MOST 1048576: true; the input reads as it did. -/
def fnExactLessFractionUptoRow : OpenClaim := { program := "ytkgbnagbeoeijaa", sum := "1da7f82db9506d65b75ffce9fdbc43e9e97e483260bef62800895fe0e421764a", func := "loop.example/weighedevidence/laws.FnExactLessFraction", spec := "fnExactLessFraction", apart := false, narrowed := true }
def FnExactLessFractionUptoSaid : Prop := fnExactLessFractionUptoRow.holds Try.pinned (OpenSpec.upto fnExactLessFractionSpec)

/-- 'laws.FnExactMinusFraction', WHERE WHAT IT READS IS OF BULK AT MOST 1048576: true; the input reads as it did. -/
def fnExactMinusFractionUptoRow : OpenClaim := { program := "ytkgbnagbeoeijaa", sum := "1da7f82db9506d65b75ffce9fdbc43e9e97e483260bef62800895fe0e421764a", func := "loop.example/weighedevidence/laws.FnExactMinusFraction", spec := "fnExactMinusFraction", apart := false, narrowed := true }
def FnExactMinusFractionUptoSaid : Prop := fnExactMinusFractionUptoRow.holds Try.pinned (OpenSpec.upto fnExactMinusFractionSpec)

/-- 'laws.FnExactGreatestDivisor', WHERE WHAT IT READS IS OF BULK AT MOST 1048576: true; the input reads as it did. -/
def fnExactGreatestDivisorUptoRow : OpenClaim := { program := "ytkgbnagbeoeijaa", sum := "1da7f82db9506d65b75ffce9fdbc43e9e97e483260bef62800895fe0e421764a", func := "loop.example/weighedevidence/laws.FnExactGreatestDivisor", spec := "fnExactGreatestDivisor", apart := false, narrowed := true }
def FnExactGreatestDivisorUptoSaid : Prop := fnExactGreatestDivisorUptoRow.holds Try.pinned (OpenSpec.upto fnExactGreatestDivisorSpec)

/-- 'laws.FnExactFractional', WHERE WHAT IT READS IS OF BULK AT MOST 1048576: true; the input reads as it did. -/
def fnExactFractionalUptoRow : OpenClaim := { program := "ytkgbnagbeoeijaa", sum := "1da7f82db9506d65b75ffce9fdbc43e9e97e483260bef62800895fe0e421764a", func := "loop.example/weighedevidence/laws.FnExactFractional", spec := "fnExactFractional", apart := false, narrowed := true }
def FnExactFractionalUptoSaid : Prop := fnExactFractionalUptoRow.holds Try.pinned (OpenSpec.upto fnExactFractionalSpec)

/-- 'laws.FnDivisor', WHERE WHAT IT READS IS OF BULK AT MOST 1048576: true; the input reads as it did. -/
def fnDivisorUptoRow : OpenClaim := { program := "ytkgbnagbeoeijaa", sum := "1da7f82db9506d65b75ffce9fdbc43e9e97e483260bef62800895fe0e421764a", func := "loop.example/weighedevidence/laws.FnDivisor", spec := "fnDivisor", apart := false, narrowed := true }
def FnDivisorUptoSaid : Prop := fnDivisorUptoRow.holds Try.pinned (OpenSpec.upto fnDivisorSpec)

/-- 'laws.FnExactAddFractions', WHERE WHAT IT READS IS OF BULK AT MOST 1048576: true; the input reads as it did. -/
def fnExactAddFractionsUptoRow : OpenClaim := { program := "ytkgbnagbeoeijaa", sum := "1da7f82db9506d65b75ffce9fdbc43e9e97e483260bef62800895fe0e421764a", func := "loop.example/weighedevidence/laws.FnExactAddFractions", spec := "fnExactAddFractions", apart := false, narrowed := true }
def FnExactAddFractionsUptoSaid : Prop := fnExactAddFractionsUptoRow.holds Try.pinned (OpenSpec.upto fnExactAddFractionsSpec)

/-- 'laws.FnExactOverFractions', WHERE WHAT IT READS IS OF BULK AT MOST 1048576: true; the input reads as it did. -/
def fnExactOverFractionsUptoRow : OpenClaim := { program := "ytkgbnagbeoeijaa", sum := "1da7f82db9506d65b75ffce9fdbc43e9e97e483260bef62800895fe0e421764a", func := "loop.example/weighedevidence/laws.FnExactOverFractions", spec := "fnExactOverFractions", apart := false, narrowed := true }
def FnExactOverFractionsUptoSaid : Prop := fnExactOverFractionsUptoRow.holds Try.pinned (OpenSpec.upto fnExactOverFractionsSpec)

/-- 'laws.FnExactTimesFractions', WHERE WHAT IT READS IS OF BULK AT MOST 1048576: true; the input reads as it did. -/
def fnExactTimesFractionsUptoRow : OpenClaim := { program := "ytkgbnagbeoeijaa", sum := "1da7f82db9506d65b75ffce9fdbc43e9e97e483260bef62800895fe0e421764a", func := "loop.example/weighedevidence/laws.FnExactTimesFractions", spec := "fnExactTimesFractions", apart := false, narrowed := true }
def FnExactTimesFractionsUptoSaid : Prop := fnExactTimesFractionsUptoRow.holds Try.pinned (OpenSpec.upto fnExactTimesFractionsSpec)

/-- 'laws.FnFractional', WHERE WHAT IT READS IS OF BULK AT MOST 1048576: true; the input reads as it did. -/
def fnFractionalUptoRow : OpenClaim := { program := "ytkgbnagbeoeijaa", sum := "1da7f82db9506d65b75ffce9fdbc43e9e97e483260bef62800895fe0e421764a", func := "loop.example/weighedevidence/laws.FnFractional", spec := "fnFractional", apart := false, narrowed := true }
def FnFractionalUptoSaid : Prop := fnFractionalUptoRow.holds Try.pinned (OpenSpec.upto fnFractionalSpec)

/-- 'laws.FnLessFraction', WHERE WHAT IT READS IS OF BULK AT MOST 1048576: true; the input reads as it did. -/
def fnLessFractionUptoRow : OpenClaim := { program := "ytkgbnagbeoeijaa", sum := "1da7f82db9506d65b75ffce9fdbc43e9e97e483260bef62800895fe0e421764a", func := "loop.example/weighedevidence/laws.FnLessFraction", spec := "fnLessFraction", apart := false, narrowed := true }
def FnLessFractionUptoSaid : Prop := fnLessFractionUptoRow.holds Try.pinned (OpenSpec.upto fnLessFractionSpec)

/-- 'laws.FnAddFractions', WHERE WHAT IT READS IS OF BULK AT MOST 1048576: true; the input reads as it did. -/
def fnAddFractionsUptoRow : OpenClaim := { program := "ytkgbnagbeoeijaa", sum := "1da7f82db9506d65b75ffce9fdbc43e9e97e483260bef62800895fe0e421764a", func := "loop.example/weighedevidence/laws.FnAddFractions", spec := "fnAddFractions", apart := false, narrowed := true }
def FnAddFractionsUptoSaid : Prop := fnAddFractionsUptoRow.holds Try.pinned (OpenSpec.upto fnAddFractionsSpec)

/-- 'laws.FnTimesFractions', WHERE WHAT IT READS IS OF BULK AT MOST 1048576: true; the input reads as it did. -/
def fnTimesFractionsUptoRow : OpenClaim := { program := "ytkgbnagbeoeijaa", sum := "1da7f82db9506d65b75ffce9fdbc43e9e97e483260bef62800895fe0e421764a", func := "loop.example/weighedevidence/laws.FnTimesFractions", spec := "fnTimesFractions", apart := false, narrowed := true }
def FnTimesFractionsUptoSaid : Prop := fnTimesFractionsUptoRow.holds Try.pinned (OpenSpec.upto fnTimesFractionsSpec)

end Rows
end Go.Proofs.Ytkgbnagbeoeijaa
