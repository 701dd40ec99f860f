/-
  DERIVED. GIVEN WITH THE SEED: THE CARDS: each row of YtdeddgiacdjjdaaGreatDoorRows.lean that lists a variable, with what it lists TIED to the program's text (the seventh form; the later family's looks); each row that meets fmt, with fmt's text TOLD by the authors' own Lean function (tested against real Go, not proved from fmt's source: count such statements apart). THE CARD IS WHAT COUNTS. Prove the row's statement (the work); the ties are given (YtdeddgiacdjjdaaGreatDoorTie.lean); close each card by the builder's one call (the guide's Derived/Test/ToyasCard.lean, 'card_holds'). Laid BY PROGRAM, IN A SANDBOX (cutbox-door.mjs). By AI agents, Wed Nov 11 2026. No macro, syntax, notation, axiom, sorry.
-/
import Derived.Test.YtdeddgiacdjjdaaGreatDoorRows
import GoSem.ClaimSeven
namespace Go.Proofs.YtdeddgiacdjjdaaGreatDoor
namespace Rows

/-- THE TIED CARD OF 'copyistlaw09.PrimsPieces'. -/
def primsPiecesCard : Claim7 := { stood := { row := primsPiecesRow, standIns := [], harness := (true, "58cf718844dee2e6adf53e25340cb6e7e9fdfcad625555989b95419de5258a5b"), looks := true }, kinds := [], alts := [], laidByText := true, laidKinds := [.data, .data, .data, .data, .listed, .data, .pinned], laidTests := true, laidLooks := .later }
def PrimsPiecesCardSaid : Prop := Claim7.holds Tryz.pinned (.plain (OpenSpec.ofChange primsPiecesSpec)) primsPiecesCard

/-- THE TIED CARD OF 'copyistlaw09.PrimsFormat'. -/
def primsFormatCard : Claim7 := { stood := { row := primsFormatRow, standIns := [], harness := (true, "58cf718844dee2e6adf53e25340cb6e7e9fdfcad625555989b95419de5258a5b"), looks := true }, kinds := [], alts := [], laidByText := true, laidKinds := [.data, .data, .data, .data, .listed, .data, .pinned], laidTests := true, laidLooks := .later }
def PrimsFormatCardSaid : Prop := Claim7.holds Tryz.pinned (.plain (OpenSpec.ofChange primsFormatSpec)) primsFormatCard

/-- THE SECOND FORM's CARD OF 'copyistlaw09.PrimsPieces'. -/
def primsPiecesUptoCard : Claim7 := { stood := { row := primsPiecesUptoRow, standIns := [], harness := (true, "58cf718844dee2e6adf53e25340cb6e7e9fdfcad625555989b95419de5258a5b"), looks := true }, kinds := [], alts := [], laidByText := true, laidKinds := [.data, .data, .data, .data, .listed, .data, .pinned], laidTests := true, laidLooks := .later }
def PrimsPiecesUptoCardSaid : Prop := Claim7.holds Tryz.pinned (.plain (OpenSpec.upto primsPiecesSpec)) primsPiecesUptoCard

/-- THE SECOND FORM's CARD OF 'copyistlaw09.PrimsFormat'. -/
def primsFormatUptoCard : Claim7 := { stood := { row := primsFormatUptoRow, standIns := [], harness := (true, "58cf718844dee2e6adf53e25340cb6e7e9fdfcad625555989b95419de5258a5b"), looks := true }, kinds := [], alts := [], laidByText := true, laidKinds := [.data, .data, .data, .data, .listed, .data, .pinned], laidTests := true, laidLooks := .later }
def PrimsFormatUptoCardSaid : Prop := Claim7.holds Tryz.pinned (.plain (OpenSpec.upto primsFormatSpec)) primsFormatUptoCard
end Rows
end Go.Proofs.YtdeddgiacdjjdaaGreatDoor
