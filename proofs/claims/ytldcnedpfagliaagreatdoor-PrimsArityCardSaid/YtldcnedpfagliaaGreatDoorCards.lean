/-
  DERIVED. GIVEN WITH THE SEED: THE CARDS: each row of YtldcnedpfagliaaGreatDoorRows.lean that lists a variable, with what it lists TIED to the program's text (the seventh form; the later family's looks); each row that meets fmt, with fmt's text TOLD by the authors' own Lean function (tested against real Go, not proved from fmt's source: count such statements apart). THE CARD IS WHAT COUNTS. Prove the row's statement (the work); the ties are given (YtldcnedpfagliaaGreatDoorTie.lean); close each card by the builder's one call (the guide's Derived/Test/ToyasCard.lean, 'card_holds'). Laid BY PROGRAM, IN A SANDBOX (cutbox-door.mjs). By AI agents, Wed Nov 11 2026. No macro, syntax, notation, axiom, sorry.
-/
import Derived.Test.YtldcnedpfagliaaGreatDoorRows
import GoSem.ClaimSeven
namespace Go.Proofs.YtldcnedpfagliaaGreatDoor
namespace Rows

/-- THE TIED CARD OF 'copyistlaw09.PrimsNames'. -/
def primsNamesCard : Claim7 := { stood := { row := primsNamesRow, standIns := [], harness := (true, "7e10a4ab7021d4c09de0414370f32ab4647d01484bfeb8aec8c0fcd20140eac8"), looks := true }, kinds := [], alts := [], laidByText := true, laidKinds := [.data, .data, .data, .data, .listed, .data, .pinned], laidTests := true, laidLooks := .later }
def PrimsNamesCardSaid : Prop := Claim7.holds Tryz.pinned (.plain (OpenSpec.ofChange primsNamesSpec)) primsNamesCard

/-- THE TIED CARD OF 'copyistlaw09.PrimsArity'. -/
def primsArityCard : Claim7 := { stood := { row := primsArityRow, standIns := [], harness := (true, "7e10a4ab7021d4c09de0414370f32ab4647d01484bfeb8aec8c0fcd20140eac8"), looks := true }, kinds := [], alts := [], laidByText := true, laidKinds := [.data, .data, .data, .data, .listed, .data, .pinned], laidTests := true, laidLooks := .later }
def PrimsArityCardSaid : Prop := Claim7.holds Tryz.pinned (.plain (OpenSpec.ofChange primsAritySpec)) primsArityCard

/-- THE SECOND FORM's CARD OF 'copyistlaw09.PrimsNames'. -/
def primsNamesUptoCard : Claim7 := { stood := { row := primsNamesUptoRow, standIns := [], harness := (true, "7e10a4ab7021d4c09de0414370f32ab4647d01484bfeb8aec8c0fcd20140eac8"), looks := true }, kinds := [], alts := [], laidByText := true, laidKinds := [.data, .data, .data, .data, .listed, .data, .pinned], laidTests := true, laidLooks := .later }
def PrimsNamesUptoCardSaid : Prop := Claim7.holds Tryz.pinned (.plain (OpenSpec.upto primsNamesSpec)) primsNamesUptoCard

/-- THE SECOND FORM's CARD OF 'copyistlaw09.PrimsArity'. -/
def primsArityUptoCard : Claim7 := { stood := { row := primsArityUptoRow, standIns := [], harness := (true, "7e10a4ab7021d4c09de0414370f32ab4647d01484bfeb8aec8c0fcd20140eac8"), looks := true }, kinds := [], alts := [], laidByText := true, laidKinds := [.data, .data, .data, .data, .listed, .data, .pinned], laidTests := true, laidLooks := .later }
def PrimsArityUptoCardSaid : Prop := Claim7.holds Tryz.pinned (.plain (OpenSpec.upto primsAritySpec)) primsArityUptoCard
end Rows
end Go.Proofs.YtldcnedpfagliaaGreatDoor
