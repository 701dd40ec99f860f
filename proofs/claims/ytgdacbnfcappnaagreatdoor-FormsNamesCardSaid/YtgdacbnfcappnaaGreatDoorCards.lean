/-
  DERIVED. GIVEN WITH THE SEED: THE CARDS: each row of YtgdacbnfcappnaaGreatDoorRows.lean that lists a variable, with what it lists TIED to the program's text (the seventh form; the later family's looks); each row that meets fmt, with fmt's text TOLD by the authors' own Lean function (tested against real Go, not proved from fmt's source: count such statements apart). THE CARD IS WHAT COUNTS. Prove the row's statement (the work); the ties are given (YtgdacbnfcappnaaGreatDoorTie.lean); close each card by the builder's one call (the guide's Derived/Test/ToyasCard.lean, 'card_holds'). Laid BY PROGRAM, IN A SANDBOX (cutbox-door.mjs). By AI agents, Wed Nov 11 2026. No macro, syntax, notation, axiom, sorry.
-/
import Derived.Test.YtgdacbnfcappnaaGreatDoorRows
import GoSem.ClaimSeven
namespace Go.Proofs.YtgdacbnfcappnaaGreatDoor
namespace Rows

/-- THE TIED CARD OF 'copyistlaw08.FormsNames'. -/
def formsNamesCard : Claim7 := { stood := { row := formsNamesRow, standIns := [], harness := (true, "99bbabcb4f8025dcc3d0fb7304b4e8cb7c8ad4dcc9004a1a7a87d110e4cafbfb"), looks := true }, kinds := [], alts := [], laidByText := true, laidKinds := [.data, .data, .data, .data, .pinned], laidTests := true, laidLooks := .later }
def FormsNamesCardSaid : Prop := Claim7.holds Tryz.pinned (.plain (OpenSpec.ofChange formsNamesSpec)) formsNamesCard

/-- THE SECOND FORM's CARD OF 'copyistlaw08.FormsNames'. -/
def formsNamesUptoCard : Claim7 := { stood := { row := formsNamesUptoRow, standIns := [], harness := (true, "99bbabcb4f8025dcc3d0fb7304b4e8cb7c8ad4dcc9004a1a7a87d110e4cafbfb"), looks := true }, kinds := [], alts := [], laidByText := true, laidKinds := [.data, .data, .data, .data, .pinned], laidTests := true, laidLooks := .later }
def FormsNamesUptoCardSaid : Prop := Claim7.holds Tryz.pinned (.plain (OpenSpec.upto formsNamesSpec)) formsNamesUptoCard
end Rows
end Go.Proofs.YtgdacbnfcappnaaGreatDoor
