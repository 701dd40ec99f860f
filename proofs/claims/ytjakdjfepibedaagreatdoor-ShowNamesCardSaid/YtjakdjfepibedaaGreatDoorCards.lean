/-
  DERIVED. GIVEN WITH THE SEED: THE CARDS: each row of YtjakdjfepibedaaGreatDoorRows.lean that lists a variable, with what it lists TIED to the program's text (the seventh form; the later family's looks); each row that meets fmt, with fmt's text TOLD by the authors' own Lean function (tested against real Go, not proved from fmt's source: count such statements apart). THE CARD IS WHAT COUNTS. Prove the row's statement (the work); the ties are given (YtjakdjfepibedaaGreatDoorTie.lean); close each card by the builder's one call (the guide's Derived/Test/ToyasCard.lean, 'card_holds'). Laid BY PROGRAM, IN A SANDBOX (cutbox-door.mjs). By AI agents, Wed Nov 11 2026. No macro, syntax, notation, axiom, sorry.
-/
import Derived.Test.YtjakdjfepibedaaGreatDoorRows
import GoSem.ClaimSeven
namespace Go.Proofs.YtjakdjfepibedaaGreatDoor
namespace Rows

/-- THE TIED CARD OF 'copyistlaw30.AdviceNames'. -/
def adviceNamesCard : Claim7 := { stood := { row := adviceNamesRow, standIns := [], harness := (true, "35c8c9a8c1ee0daaffa43ca863751e5369f7cc187aa3c7cc12c158071cccf2b8"), looks := true }, kinds := [], alts := [], laidByText := true, laidKinds := [.data, .data, .data, .data, .pinned], laidTests := true, laidLooks := .later }
def AdviceNamesCardSaid : Prop := Claim7.holds Tryz.pinned (.plain (OpenSpec.ofChange adviceNamesSpec)) adviceNamesCard

/-- THE TIED CARD OF 'copyistlaw06.ShowNames'. -/
def showNamesCard : Claim7 := { stood := { row := showNamesRow, standIns := [], harness := (true, "35c8c9a8c1ee0daaffa43ca863751e5369f7cc187aa3c7cc12c158071cccf2b8"), looks := true }, kinds := [], alts := [], laidByText := true, laidKinds := [.data, .data, .data, .data, .pinned], laidTests := true, laidLooks := .later }
def ShowNamesCardSaid : Prop := Claim7.holds Tryz.pinned (.plain (OpenSpec.ofChange showNamesSpec)) showNamesCard

/-- THE SECOND FORM's CARD OF 'copyistlaw30.AdviceNames'. -/
def adviceNamesUptoCard : Claim7 := { stood := { row := adviceNamesUptoRow, standIns := [], harness := (true, "35c8c9a8c1ee0daaffa43ca863751e5369f7cc187aa3c7cc12c158071cccf2b8"), looks := true }, kinds := [], alts := [], laidByText := true, laidKinds := [.data, .data, .data, .data, .pinned], laidTests := true, laidLooks := .later }
def AdviceNamesUptoCardSaid : Prop := Claim7.holds Tryz.pinned (.plain (OpenSpec.upto adviceNamesSpec)) adviceNamesUptoCard

/-- THE SECOND FORM's CARD OF 'copyistlaw06.ShowNames'. -/
def showNamesUptoCard : Claim7 := { stood := { row := showNamesUptoRow, standIns := [], harness := (true, "35c8c9a8c1ee0daaffa43ca863751e5369f7cc187aa3c7cc12c158071cccf2b8"), looks := true }, kinds := [], alts := [], laidByText := true, laidKinds := [.data, .data, .data, .data, .pinned], laidTests := true, laidLooks := .later }
def ShowNamesUptoCardSaid : Prop := Claim7.holds Tryz.pinned (.plain (OpenSpec.upto showNamesSpec)) showNamesUptoCard
end Rows
end Go.Proofs.YtjakdjfepibedaaGreatDoor
