/-
  DERIVED. GIVEN WITH THE SEED: THE CARDS: each row of YtkfdioikigponaaGreatDoorRows.lean that lists a variable, with what it lists TIED to the program's text (the seventh form; the later family's looks); each row that meets fmt, with fmt's text TOLD by the authors' own Lean function (tested against real Go, not proved from fmt's source: count such statements apart). THE CARD IS WHAT COUNTS. Prove the row's statement (the work); the ties are given (YtkfdioikigponaaGreatDoorTie.lean); close each card by the builder's one call (the guide's Derived/Test/ToyasCard.lean, 'card_holds'). Laid BY PROGRAM, IN A SANDBOX (cutbox-door.mjs). By AI agents, Wed Nov 11 2026. No macro, syntax, notation, axiom, sorry.
-/
import Derived.Test.YtkfdioikigponaaGreatDoorRows
import GoSem.ClaimSeven
namespace Go.Proofs.YtkfdioikigponaaGreatDoor
namespace Rows

/-- THE TIED CARD OF 'copyistlaw05.ReadDeep'. -/
def readDeepCard : Claim7 := { stood := { row := readDeepRow, standIns := [], harness := (true, "fa78ed4fecf6e2b2bfc617c5bdab898e2aa9bfabaa05ef7d7a8f17f2e1f17eb8"), looks := true }, kinds := [], alts := [], laidByText := true, laidKinds := [.data, .pinned], laidTests := true, laidLooks := .later }
def ReadDeepCardSaid : Prop := Claim7.holds Tryz.pinned (.plain (OpenSpec.ofChange readDeepSpec)) readDeepCard

/-- THE TIED CARD OF 'copyistlaw05.ReadBehind'. -/
def readBehindCard : Claim7 := { stood := { row := readBehindRow, standIns := [], harness := (true, "fa78ed4fecf6e2b2bfc617c5bdab898e2aa9bfabaa05ef7d7a8f17f2e1f17eb8"), looks := true }, kinds := [], alts := [], laidByText := true, laidKinds := [.data, .pinned], laidTests := true, laidLooks := .later }
def ReadBehindCardSaid : Prop := Claim7.holds Tryz.pinned (.plain (OpenSpec.ofChange readBehindSpec)) readBehindCard

/-- THE TIED CARD OF 'copyistlaw05.ReadInts'. -/
def readIntsCard : Claim7 := { stood := { row := readIntsRow, standIns := [], harness := (true, "fa78ed4fecf6e2b2bfc617c5bdab898e2aa9bfabaa05ef7d7a8f17f2e1f17eb8"), looks := true }, kinds := [], alts := [], laidByText := true, laidKinds := [.data, .pinned], laidTests := true, laidLooks := .later }
def ReadIntsCardSaid : Prop := Claim7.holds Tryz.pinned (.plain (OpenSpec.ofChange readIntsSpec)) readIntsCard

/-- THE TIED CARD OF 'copyistlaw05.ReadStrings'. -/
def readStringsCard : Claim7 := { stood := { row := readStringsRow, standIns := [], harness := (true, "fa78ed4fecf6e2b2bfc617c5bdab898e2aa9bfabaa05ef7d7a8f17f2e1f17eb8"), looks := true }, kinds := [], alts := [], laidByText := true, laidKinds := [.data, .pinned], laidTests := true, laidLooks := .later }
def ReadStringsCardSaid : Prop := Claim7.holds Tryz.pinned (.plain (OpenSpec.ofChange readStringsSpec)) readStringsCard

/-- THE TIED CARD OF 'copyistlaw05.ReadNames'. -/
def readNamesCard : Claim7 := { stood := { row := readNamesRow, standIns := [], harness := (true, "fa78ed4fecf6e2b2bfc617c5bdab898e2aa9bfabaa05ef7d7a8f17f2e1f17eb8"), looks := true }, kinds := [], alts := [], laidByText := true, laidKinds := [.data, .pinned], laidTests := true, laidLooks := .later }
def ReadNamesCardSaid : Prop := Claim7.holds Tryz.pinned (.plain (OpenSpec.ofChange readNamesSpec)) readNamesCard

/-- THE TIED CARD OF 'copyistlaw05.ReadAll'. -/
def readAllCard : Claim7 := { stood := { row := readAllRow, standIns := [], harness := (true, "fa78ed4fecf6e2b2bfc617c5bdab898e2aa9bfabaa05ef7d7a8f17f2e1f17eb8"), looks := true }, kinds := [], alts := [], laidByText := true, laidKinds := [.data, .pinned], laidTests := true, laidLooks := .later }
def ReadAllCardSaid : Prop := Claim7.holds Tryz.pinned (.plain (OpenSpec.ofChange readAllSpec)) readAllCard

/-- THE SECOND FORM's CARD OF 'copyistlaw05.ReadDeep'. -/
def readDeepUptoCard : Claim7 := { stood := { row := readDeepUptoRow, standIns := [], harness := (true, "fa78ed4fecf6e2b2bfc617c5bdab898e2aa9bfabaa05ef7d7a8f17f2e1f17eb8"), looks := true }, kinds := [], alts := [], laidByText := true, laidKinds := [.data, .pinned], laidTests := true, laidLooks := .later }
def ReadDeepUptoCardSaid : Prop := Claim7.holds Tryz.pinned (.plain (OpenSpec.upto readDeepSpec)) readDeepUptoCard

/-- THE SECOND FORM's CARD OF 'copyistlaw05.ReadBehind'. -/
def readBehindUptoCard : Claim7 := { stood := { row := readBehindUptoRow, standIns := [], harness := (true, "fa78ed4fecf6e2b2bfc617c5bdab898e2aa9bfabaa05ef7d7a8f17f2e1f17eb8"), looks := true }, kinds := [], alts := [], laidByText := true, laidKinds := [.data, .pinned], laidTests := true, laidLooks := .later }
def ReadBehindUptoCardSaid : Prop := Claim7.holds Tryz.pinned (.plain (OpenSpec.upto readBehindSpec)) readBehindUptoCard

/-- THE SECOND FORM's CARD OF 'copyistlaw05.ReadInts'. -/
def readIntsUptoCard : Claim7 := { stood := { row := readIntsUptoRow, standIns := [], harness := (true, "fa78ed4fecf6e2b2bfc617c5bdab898e2aa9bfabaa05ef7d7a8f17f2e1f17eb8"), looks := true }, kinds := [], alts := [], laidByText := true, laidKinds := [.data, .pinned], laidTests := true, laidLooks := .later }
def ReadIntsUptoCardSaid : Prop := Claim7.holds Tryz.pinned (.plain (OpenSpec.upto readIntsSpec)) readIntsUptoCard

/-- THE SECOND FORM's CARD OF 'copyistlaw05.ReadStrings'. -/
def readStringsUptoCard : Claim7 := { stood := { row := readStringsUptoRow, standIns := [], harness := (true, "fa78ed4fecf6e2b2bfc617c5bdab898e2aa9bfabaa05ef7d7a8f17f2e1f17eb8"), looks := true }, kinds := [], alts := [], laidByText := true, laidKinds := [.data, .pinned], laidTests := true, laidLooks := .later }
def ReadStringsUptoCardSaid : Prop := Claim7.holds Tryz.pinned (.plain (OpenSpec.upto readStringsSpec)) readStringsUptoCard

/-- THE SECOND FORM's CARD OF 'copyistlaw05.ReadNames'. -/
def readNamesUptoCard : Claim7 := { stood := { row := readNamesUptoRow, standIns := [], harness := (true, "fa78ed4fecf6e2b2bfc617c5bdab898e2aa9bfabaa05ef7d7a8f17f2e1f17eb8"), looks := true }, kinds := [], alts := [], laidByText := true, laidKinds := [.data, .pinned], laidTests := true, laidLooks := .later }
def ReadNamesUptoCardSaid : Prop := Claim7.holds Tryz.pinned (.plain (OpenSpec.upto readNamesSpec)) readNamesUptoCard

/-- THE SECOND FORM's CARD OF 'copyistlaw05.ReadAll'. -/
def readAllUptoCard : Claim7 := { stood := { row := readAllUptoRow, standIns := [], harness := (true, "fa78ed4fecf6e2b2bfc617c5bdab898e2aa9bfabaa05ef7d7a8f17f2e1f17eb8"), looks := true }, kinds := [], alts := [], laidByText := true, laidKinds := [.data, .pinned], laidTests := true, laidLooks := .later }
def ReadAllUptoCardSaid : Prop := Claim7.holds Tryz.pinned (.plain (OpenSpec.upto readAllSpec)) readAllUptoCard
end Rows
end Go.Proofs.YtkfdioikigponaaGreatDoor
