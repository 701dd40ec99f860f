/-
  DERIVED. GIVEN WITH THE SEED: THE CARDS: each row of YtocilenpboklbaaGreatDoorRows.lean that lists a variable, with what it lists TIED to the program's text (the seventh form; the later family's looks); each row that meets fmt, with fmt's text TOLD by the authors' own Lean function (tested against real Go, not proved from fmt's source: count such statements apart). THE CARD IS WHAT COUNTS. Prove the row's statement (the work); the ties are given (YtocilenpboklbaaGreatDoorTie.lean); close each card by the builder's one call (the guide's Derived/Test/ToyasCard.lean, 'card_holds'). Laid BY PROGRAM, IN A SANDBOX (cutbox-door.mjs). By AI agents, Wed Nov 11 2026. No macro, syntax, notation, axiom, sorry.
-/
import Derived.Test.YtocilenpboklbaaGreatDoorRows
import GoSem.ClaimSeven
namespace Go.Proofs.YtocilenpboklbaaGreatDoor
namespace Rows

/-- THE TIED CARD OF 'copyistlaw06.ShowEnds'. -/
def showEndsCard : Claim7 := { stood := { row := showEndsRow, standIns := [], harness := (true, "c444cd599936be61469ac5ddeb933365dd1e862cea4b973465f47efdaa8c6330"), looks := true }, kinds := [], alts := [], laidByText := true, laidKinds := [.data, .data, .data, .data, .pinned], laidTests := true, laidLooks := .later }
def ShowEndsCardSaid : Prop := Claim7.holds Tryz.pinned (.plain (OpenSpec.ofChange showEndsSpec)) showEndsCard

/-- THE TIED CARD OF 'copyistlaw06.ShowSymbols'. -/
def showSymbolsCard : Claim7 := { stood := { row := showSymbolsRow, standIns := [], harness := (true, "c444cd599936be61469ac5ddeb933365dd1e862cea4b973465f47efdaa8c6330"), looks := true }, kinds := [], alts := [], laidByText := true, laidKinds := [.data, .data, .data, .data, .pinned], laidTests := true, laidLooks := .later }
def ShowSymbolsCardSaid : Prop := Claim7.holds Tryz.pinned (.plain (OpenSpec.ofChange showSymbolsSpec)) showSymbolsCard

/-- THE TIED CARD OF 'copyistlaw06.ShowTexts'. -/
def showTextsCard : Claim7 := { stood := { row := showTextsRow, standIns := [], harness := (true, "c444cd599936be61469ac5ddeb933365dd1e862cea4b973465f47efdaa8c6330"), looks := true }, kinds := [], alts := [], laidByText := true, laidKinds := [.data, .data, .data, .data, .pinned], laidTests := true, laidLooks := .later }
def ShowTextsCardSaid : Prop := Claim7.holds Tryz.pinned (.plain (OpenSpec.ofChange showTextsSpec)) showTextsCard

/-- THE TIED CARD OF 'copyistlaw08.FormsFills'. -/
def formsFillsCard : Claim7 := { stood := { row := formsFillsRow, standIns := [], harness := (true, "c444cd599936be61469ac5ddeb933365dd1e862cea4b973465f47efdaa8c6330"), looks := true }, kinds := [], alts := [], laidByText := true, laidKinds := [.data, .data, .data, .data, .pinned], laidTests := true, laidLooks := .later }
def FormsFillsCardSaid : Prop := Claim7.holds Tryz.pinned (.plain (OpenSpec.ofChange formsFillsSpec)) formsFillsCard

/-- THE TIED CARD OF 'copyistlaw08.FormsParams'. -/
def formsParamsCard : Claim7 := { stood := { row := formsParamsRow, standIns := [], harness := (true, "c444cd599936be61469ac5ddeb933365dd1e862cea4b973465f47efdaa8c6330"), looks := true }, kinds := [], alts := [], laidByText := true, laidKinds := [.data, .data, .data, .data, .pinned], laidTests := true, laidLooks := .later }
def FormsParamsCardSaid : Prop := Claim7.holds Tryz.pinned (.plain (OpenSpec.ofChange formsParamsSpec)) formsParamsCard

/-- THE TIED CARD OF 'copyistlaw08.FormsSignals'. -/
def formsSignalsCard : Claim7 := { stood := { row := formsSignalsRow, standIns := [], harness := (true, "c444cd599936be61469ac5ddeb933365dd1e862cea4b973465f47efdaa8c6330"), looks := true }, kinds := [], alts := [], laidByText := true, laidKinds := [.data, .data, .data, .data, .pinned], laidTests := true, laidLooks := .later }
def FormsSignalsCardSaid : Prop := Claim7.holds Tryz.pinned (.plain (OpenSpec.ofChange formsSignalsSpec)) formsSignalsCard

/-- THE SECOND FORM's CARD OF 'copyistlaw06.ShowEnds'. -/
def showEndsUptoCard : Claim7 := { stood := { row := showEndsUptoRow, standIns := [], harness := (true, "c444cd599936be61469ac5ddeb933365dd1e862cea4b973465f47efdaa8c6330"), looks := true }, kinds := [], alts := [], laidByText := true, laidKinds := [.data, .data, .data, .data, .pinned], laidTests := true, laidLooks := .later }
def ShowEndsUptoCardSaid : Prop := Claim7.holds Tryz.pinned (.plain (OpenSpec.upto showEndsSpec)) showEndsUptoCard

/-- THE SECOND FORM's CARD OF 'copyistlaw06.ShowSymbols'. -/
def showSymbolsUptoCard : Claim7 := { stood := { row := showSymbolsUptoRow, standIns := [], harness := (true, "c444cd599936be61469ac5ddeb933365dd1e862cea4b973465f47efdaa8c6330"), looks := true }, kinds := [], alts := [], laidByText := true, laidKinds := [.data, .data, .data, .data, .pinned], laidTests := true, laidLooks := .later }
def ShowSymbolsUptoCardSaid : Prop := Claim7.holds Tryz.pinned (.plain (OpenSpec.upto showSymbolsSpec)) showSymbolsUptoCard

/-- THE SECOND FORM's CARD OF 'copyistlaw06.ShowTexts'. -/
def showTextsUptoCard : Claim7 := { stood := { row := showTextsUptoRow, standIns := [], harness := (true, "c444cd599936be61469ac5ddeb933365dd1e862cea4b973465f47efdaa8c6330"), looks := true }, kinds := [], alts := [], laidByText := true, laidKinds := [.data, .data, .data, .data, .pinned], laidTests := true, laidLooks := .later }
def ShowTextsUptoCardSaid : Prop := Claim7.holds Tryz.pinned (.plain (OpenSpec.upto showTextsSpec)) showTextsUptoCard

/-- THE SECOND FORM's CARD OF 'copyistlaw08.FormsFills'. -/
def formsFillsUptoCard : Claim7 := { stood := { row := formsFillsUptoRow, standIns := [], harness := (true, "c444cd599936be61469ac5ddeb933365dd1e862cea4b973465f47efdaa8c6330"), looks := true }, kinds := [], alts := [], laidByText := true, laidKinds := [.data, .data, .data, .data, .pinned], laidTests := true, laidLooks := .later }
def FormsFillsUptoCardSaid : Prop := Claim7.holds Tryz.pinned (.plain (OpenSpec.upto formsFillsSpec)) formsFillsUptoCard

/-- THE SECOND FORM's CARD OF 'copyistlaw08.FormsParams'. -/
def formsParamsUptoCard : Claim7 := { stood := { row := formsParamsUptoRow, standIns := [], harness := (true, "c444cd599936be61469ac5ddeb933365dd1e862cea4b973465f47efdaa8c6330"), looks := true }, kinds := [], alts := [], laidByText := true, laidKinds := [.data, .data, .data, .data, .pinned], laidTests := true, laidLooks := .later }
def FormsParamsUptoCardSaid : Prop := Claim7.holds Tryz.pinned (.plain (OpenSpec.upto formsParamsSpec)) formsParamsUptoCard

/-- THE SECOND FORM's CARD OF 'copyistlaw08.FormsSignals'. -/
def formsSignalsUptoCard : Claim7 := { stood := { row := formsSignalsUptoRow, standIns := [], harness := (true, "c444cd599936be61469ac5ddeb933365dd1e862cea4b973465f47efdaa8c6330"), looks := true }, kinds := [], alts := [], laidByText := true, laidKinds := [.data, .data, .data, .data, .pinned], laidTests := true, laidLooks := .later }
def FormsSignalsUptoCardSaid : Prop := Claim7.holds Tryz.pinned (.plain (OpenSpec.upto formsSignalsSpec)) formsSignalsUptoCard
end Rows
end Go.Proofs.YtocilenpboklbaaGreatDoor
