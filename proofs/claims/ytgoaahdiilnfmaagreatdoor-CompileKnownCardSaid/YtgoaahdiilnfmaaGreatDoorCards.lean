/-
  DERIVED. GIVEN WITH THE SEED: THE CARDS: each row of YtgoaahdiilnfmaaGreatDoorRows.lean that lists a variable, with what it lists TIED to the program's text (the seventh form; the later family's looks); each row that meets fmt, with fmt's text TOLD by the authors' own Lean function (tested against real Go, not proved from fmt's source: count such statements apart). THE CARD IS WHAT COUNTS. Prove the row's statement (the work); the ties are given (YtgoaahdiilnfmaaGreatDoorTie.lean); close each card by the builder's one call (the guide's Derived/Test/ToyasCard.lean, 'card_holds'). Laid BY PROGRAM, IN A SANDBOX (cutbox-door.mjs). By AI agents, Wed Nov 11 2026. No macro, syntax, notation, axiom, sorry.
-/
import Derived.Test.YtgoaahdiilnfmaaGreatDoorRows
import GoSem.ClaimSeven
namespace Go.Proofs.YtgoaahdiilnfmaaGreatDoor
namespace Rows

/-- THE TIED CARD OF 'copyistlaw13.CompileKnown'. -/
def compileKnownCard : Claim7 := { stood := { row := compileKnownRow, standIns := [], harness := (true, "354487cf8f5d3fb92fd561a8bf7023d6d7bf85617243864bc90aa194f2971961"), looks := true }, kinds := [], alts := [], laidByText := true, laidKinds := [.data, .data, .data, .data, .data, .pinned], laidTests := true, laidLooks := .later }
def CompileKnownCardSaid : Prop := Claim7.holds Tryz.pinned (.plain (OpenSpec.ofChange compileKnownSpec)) compileKnownCard

/-- THE TIED CARD OF 'copyistlaw13.CompileScopes'. -/
def compileScopesCard : Claim7 := { stood := { row := compileScopesRow, standIns := [], harness := (true, "354487cf8f5d3fb92fd561a8bf7023d6d7bf85617243864bc90aa194f2971961"), looks := true }, kinds := [], alts := [], laidByText := true, laidKinds := [.data, .data, .data, .data, .data, .pinned], laidTests := true, laidLooks := .later }
def CompileScopesCardSaid : Prop := Claim7.holds Tryz.pinned (.plain (OpenSpec.ofChange compileScopesSpec)) compileScopesCard

/-- THE SECOND FORM's CARD OF 'copyistlaw13.CompileKnown'. -/
def compileKnownUptoCard : Claim7 := { stood := { row := compileKnownUptoRow, standIns := [], harness := (true, "354487cf8f5d3fb92fd561a8bf7023d6d7bf85617243864bc90aa194f2971961"), looks := true }, kinds := [], alts := [], laidByText := true, laidKinds := [.data, .data, .data, .data, .data, .pinned], laidTests := true, laidLooks := .later }
def CompileKnownUptoCardSaid : Prop := Claim7.holds Tryz.pinned (.plain (OpenSpec.upto compileKnownSpec)) compileKnownUptoCard

/-- THE SECOND FORM's CARD OF 'copyistlaw13.CompileScopes'. -/
def compileScopesUptoCard : Claim7 := { stood := { row := compileScopesUptoRow, standIns := [], harness := (true, "354487cf8f5d3fb92fd561a8bf7023d6d7bf85617243864bc90aa194f2971961"), looks := true }, kinds := [], alts := [], laidByText := true, laidKinds := [.data, .data, .data, .data, .data, .pinned], laidTests := true, laidLooks := .later }
def CompileScopesUptoCardSaid : Prop := Claim7.holds Tryz.pinned (.plain (OpenSpec.upto compileScopesSpec)) compileScopesUptoCard
end Rows
end Go.Proofs.YtgoaahdiilnfmaaGreatDoor
