/-
  DERIVED. GIVEN WITH THE SEED: THE CARDS: each row of YtlpchjkggeiidaaGreatDoorRows.lean that lists a variable, with what it lists TIED to the program's text (the seventh form; the later family's looks); each row that meets fmt, with fmt's text TOLD by the authors' own Lean function (tested against real Go, not proved from fmt's source: count such statements apart). THE CARD IS WHAT COUNTS. Prove the row's statement (the work); the ties are given (YtlpchjkggeiidaaGreatDoorTie.lean); close each card by the builder's one call (the guide's Derived/Test/ToyasCard.lean, 'card_holds'). Laid BY PROGRAM, IN A SANDBOX (cutbox-door.mjs). By AI agents, Wed Nov 11 2026. No macro, syntax, notation, axiom, sorry.
-/
import Derived.Test.YtlpchjkggeiidaaGreatDoorRows
import GoSem.ClaimSeven
namespace Go.Proofs.YtlpchjkggeiidaaGreatDoor
namespace Rows

/-- THE TIED CARD OF 'copyistlaw09.PrimsNames'. -/
def primsNamesCard : Claim7 := { stood := { row := primsNamesRow, standIns := [], harness := (true, "058831340f3f4ed2f10f57d6edba5020580b95d446afd57556863b72898b3567"), looks := true }, kinds := [], alts := [], laidByText := true, laidKinds := [.data, .data, .data, .data, .listed, .data, .pinned], laidTests := true, laidLooks := .later }
def PrimsNamesCardSaid : Prop := Claim7.holds Tryz.pinned (.plain (OpenSpec.ofChange primsNamesSpec)) primsNamesCard

/-- THE TIED CARD OF 'copyistlaw09.PrimsArith'. -/
def primsArithCard : Claim7 := { stood := { row := primsArithRow, standIns := [], harness := (true, "058831340f3f4ed2f10f57d6edba5020580b95d446afd57556863b72898b3567"), looks := true }, kinds := [], alts := [], laidByText := true, laidKinds := [.data, .data, .data, .data, .listed, .data, .pinned], laidTests := true, laidLooks := .later }
def PrimsArithCardSaid : Prop := Claim7.holds Tryz.pinned (.plain (OpenSpec.ofChange primsArithSpec)) primsArithCard

/-- THE SECOND FORM's CARD OF 'copyistlaw09.PrimsNames'. -/
def primsNamesUptoCard : Claim7 := { stood := { row := primsNamesUptoRow, standIns := [], harness := (true, "058831340f3f4ed2f10f57d6edba5020580b95d446afd57556863b72898b3567"), looks := true }, kinds := [], alts := [], laidByText := true, laidKinds := [.data, .data, .data, .data, .listed, .data, .pinned], laidTests := true, laidLooks := .later }
def PrimsNamesUptoCardSaid : Prop := Claim7.holds Tryz.pinned (.plain (OpenSpec.upto primsNamesSpec)) primsNamesUptoCard

/-- THE SECOND FORM's CARD OF 'copyistlaw09.PrimsArith'. -/
def primsArithUptoCard : Claim7 := { stood := { row := primsArithUptoRow, standIns := [], harness := (true, "058831340f3f4ed2f10f57d6edba5020580b95d446afd57556863b72898b3567"), looks := true }, kinds := [], alts := [], laidByText := true, laidKinds := [.data, .data, .data, .data, .listed, .data, .pinned], laidTests := true, laidLooks := .later }
def PrimsArithUptoCardSaid : Prop := Claim7.holds Tryz.pinned (.plain (OpenSpec.upto primsArithSpec)) primsArithUptoCard
end Rows
end Go.Proofs.YtlpchjkggeiidaaGreatDoor
