/-
  DERIVED. GIVEN WITH THE SEED: THE CARDS: each row of YtggonihjnipobaaDoorRows.lean that lists a variable, with what it lists TIED to the program's text (the seventh form; the later family's looks); each row that meets fmt, with fmt's text TOLD by the authors' own Lean function (tested against real Go, not proved from fmt's source: count such statements apart). THE CARD IS WHAT COUNTS. Prove the row's statement (the work); the ties are given (YtggonihjnipobaaDoorTie.lean); close each card by the builder's one call (the guide's Derived/Test/ToyasCard.lean, 'card_holds'). Laid BY PROGRAM, IN A SANDBOX (cutbox-door.mjs). By AI agents, Wed Nov 11 2026. No macro, syntax, notation, axiom, sorry.
-/
import Derived.Test.YtggonihjnipobaaDoorRows
import GoSem.ClaimSeven
namespace Go.Proofs.YtggonihjnipobaaDoor
namespace Rows

/-- THE TIED CARD OF 'laws.FnExactParseFraction'. -/
def fnExactParseFractionCard : Claim7 := { stood := { row := fnExactParseFractionRow, standIns := [], harness := (true, "e8564abe1019c8081bd4e18321f6ca1525482cd52fd1a11d5337290788dbf9f9"), looks := true }, kinds := [], alts := [], laidByText := true, laidKinds := [.data, .data, .data, .sentinel, .sentinel], laidTests := true, laidLooks := .later }
def FnExactParseFractionCardSaid : Prop := Claim7.holds Tryd.pinned (.plain (OpenSpec.ofChange fnExactParseFractionSpec)) fnExactParseFractionCard

/-- THE TIED CARD OF 'laws.FnFractionText'. -/
def fnFractionTextCard : Claim7 := { stood := { row := fnFractionTextRow, standIns := [], harness := (true, "e8564abe1019c8081bd4e18321f6ca1525482cd52fd1a11d5337290788dbf9f9"), looks := true }, kinds := [], alts := [], laidByText := true, laidKinds := [.data, .data, .data, .sentinel, .sentinel], laidTests := true, laidLooks := .later }
def FnFractionTextCardSaid : Prop := Claim7.holds Tryd.pinned (.plain (OpenSpec.ofChange fnFractionTextSpec)) fnFractionTextCard

/-- THE TIED CARD OF 'laws.FnExactFormatFraction'. -/
def fnExactFormatFractionCard : Claim7 := { stood := { row := fnExactFormatFractionRow, standIns := [], harness := (true, "e8564abe1019c8081bd4e18321f6ca1525482cd52fd1a11d5337290788dbf9f9"), looks := true }, kinds := [], alts := [], laidByText := true, laidKinds := [.data, .data, .data], laidTests := true, laidLooks := .later }
def FnExactFormatFractionCardSaid : Prop := Claim7.holds Tryd.pinned (.plain (OpenSpec.ofChange fnExactFormatFractionSpec)) fnExactFormatFractionCard

/-- THE SECOND FORM's CARD OF 'laws.FnExactParseFraction'. -/
def fnExactParseFractionUptoCard : Claim7 := { stood := { row := fnExactParseFractionUptoRow, standIns := [], harness := (true, "e8564abe1019c8081bd4e18321f6ca1525482cd52fd1a11d5337290788dbf9f9"), looks := true }, kinds := [], alts := [], laidByText := true, laidKinds := [.data, .data, .data, .sentinel, .sentinel], laidTests := true, laidLooks := .later }
def FnExactParseFractionUptoCardSaid : Prop := Claim7.holds Tryd.pinned (.plain (OpenSpec.upto fnExactParseFractionSpec)) fnExactParseFractionUptoCard

/-- THE SECOND FORM's CARD OF 'laws.FnFractionText'. -/
def fnFractionTextUptoCard : Claim7 := { stood := { row := fnFractionTextUptoRow, standIns := [], harness := (true, "e8564abe1019c8081bd4e18321f6ca1525482cd52fd1a11d5337290788dbf9f9"), looks := true }, kinds := [], alts := [], laidByText := true, laidKinds := [.data, .data, .data, .sentinel, .sentinel], laidTests := true, laidLooks := .later }
def FnFractionTextUptoCardSaid : Prop := Claim7.holds Tryd.pinned (.plain (OpenSpec.upto fnFractionTextSpec)) fnFractionTextUptoCard

/-- THE SECOND FORM's CARD OF 'laws.FnExactFormatFraction'. -/
def fnExactFormatFractionUptoCard : Claim7 := { stood := { row := fnExactFormatFractionUptoRow, standIns := [], harness := (true, "e8564abe1019c8081bd4e18321f6ca1525482cd52fd1a11d5337290788dbf9f9"), looks := true }, kinds := [], alts := [], laidByText := true, laidKinds := [.data, .data, .data], laidTests := true, laidLooks := .later }
def FnExactFormatFractionUptoCardSaid : Prop := Claim7.holds Tryd.pinned (.plain (OpenSpec.upto fnExactFormatFractionSpec)) fnExactFormatFractionUptoCard
end Rows
end Go.Proofs.YtggonihjnipobaaDoor
