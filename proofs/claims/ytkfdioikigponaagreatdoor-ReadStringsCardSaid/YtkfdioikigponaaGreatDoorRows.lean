/-
  NARROWER THAN 'FOR EVERY INPUT', by the rows' own cells (each row's printed sentence says how): ReadDeep: laid · ReadBehind: laid · ReadInts: laid · ReadStrings: laid · ReadNames: laid · ReadAll: laid.
  DERIVED. THE GIVEN ROWS OF THIS SEAT. 6 by the template 'for every input the law returns true; each argument reads behind the call as it read before'; 0 by the template 'total and deterministic' (their statements: YtkfdioikigponaaGreatDoorTotals.lean).
  GIVEN WITH THE SEED: the statements are not yours to turn. If you find one false, say at which input.
  Laid BY PROGRAM, IN A SANDBOX (cutbox-rows.mjs): the forced cells as the released guide's own fill.sh prints them over the translation 0934aacfed0b4a0c… (all of the seat's roots in one cut). By AI agents, Wed Nov 11 2026. No macro, syntax, notation, axiom, sorry.
-/
import Derived.Test.YtkfdioikigponaaGreatDoorChecked
import GoSem.PinnedTables
import GoSem.Claim
import GoSem.ClaimJoined
import GoSem.ClaimMapViews
import Derived.JoinedTies
import Derived.KernelRfl
namespace Go.Proofs.YtkfdioikigponaaGreatDoor
/- THE CELL 'sum', in the pinned program and in every row, IS THE sha256 OF THE DUMP (.gsa) THAT YtkfdioikigponaaGreatDoorProg.lean LOADS. Nothing in Lean hashes anything: it is a label: what it is worth is what the hold of that sum in a sandbox is worth. -/
noncomputable def Tryz.pinned : Pinned := { name := "ytkfdioikigponaagreatdoor", sum := "0934aacfed0b4a0ce49ba1dfb6d1200fcf33658497517e1d0a6fee8dcb457650", checked := Tryz.checked }
namespace Rows
def none {H : Type} : Left H := { results := [], args := [] }

/- WHAT THE LISTED PACKAGE-LEVEL VARIABLES READ AS WHEN THE CALL BEGINS. Each datum BY PROGRAM (the guide's laid-datum.mjs) off the statement by which the dump's own 'gosem.cut.vars' lays the variable. In a bare row this is a premise. The card (YtkfdioikigponaaGreatDoorCards.lean) ties it to the program's text. -/
def laid_unicode_utf8_acceptRanges {H : Type} : DataW H := .agg [.agg [.lit (.int .u8 128), .lit (.int .u8 191)], .agg [.lit (.int .u8 160), .lit (.int .u8 191)], .agg [.lit (.int .u8 128), .lit (.int .u8 159)], .agg [.lit (.int .u8 144), .lit (.int .u8 191)], .agg [.lit (.int .u8 128), .lit (.int .u8 143)], .agg [.lit (.int .u8 0), .lit (.int .u8 0)], .agg [.lit (.int .u8 0), .lit (.int .u8 0)], .agg [.lit (.int .u8 0), .lit (.int .u8 0)], .agg [.lit (.int .u8 0), .lit (.int .u8 0)], .agg [.lit (.int .u8 0), .lit (.int .u8 0)], .agg [.lit (.int .u8 0), .lit (.int .u8 0)], .agg [.lit (.int .u8 0), .lit (.int .u8 0)], .agg [.lit (.int .u8 0), .lit (.int .u8 0)], .agg [.lit (.int .u8 0), .lit (.int .u8 0)], .agg [.lit (.int .u8 0), .lit (.int .u8 0)], .agg [.lit (.int .u8 0), .lit (.int .u8 0)]]
/-- One of Go's own tables, pinned by name: the form's constant. -/
def laid_unicode_utf8_first : DataW Unit := Go.Pinned.utf8First

/-- 'copyistlaw05.ReadDeep': WHATEVER THE INPUT: true; the input reads as it did. -/
def readDeepSpec : ChangeSpec := { name := "readDeep", fn := fun _ => fun
  | [d] => { results := [.lit (.bool true)], args := [d] }
  | _ => none }
def readDeepRow : OpenClaim := { program := "ytkfdioikigponaagreatdoor", sum := "0934aacfed0b4a0ce49ba1dfb6d1200fcf33658497517e1d0a6fee8dcb457650", func := "copyist/copyistlaw05.ReadDeep", spec := "readDeep", inPlace := ["internal/abi.NoEscape", "internal/bytealg.IndexByteString", "internal/bytealg.IndexString"], unfollowed := true, recurses := true, named := ["unicode/utf8.first", "unicode/utf8.acceptRanges", "internal/bytealg.MaxLen"], apart := false, laid := [("unicode/utf8.acceptRanges", laid_unicode_utf8_acceptRanges), ("unicode/utf8.first", laid_unicode_utf8_first)] }
def ReadDeepSaid : Prop := readDeepRow.holds Tryz.pinned (OpenSpec.ofChange readDeepSpec)

/-- ITS FALSE NEIGHBOUR: 'it returns false'. Refute it at one input. -/
def readDeepWrong : ChangeSpec := { name := "readDeep", fn := fun _ => fun
  | [d] => { results := [.lit (.bool false)], args := [d] }
  | _ => none }
def ReadDeepWrongFalsely : Prop := readDeepRow.holds Tryz.pinned (OpenSpec.ofChange readDeepWrong)

/-- 'copyistlaw05.ReadBehind': WHATEVER THE INPUT: true; the input reads as it did. -/
def readBehindSpec : ChangeSpec := { name := "readBehind", fn := fun _ => fun
  | [d1, d2] => { results := [.lit (.bool true)], args := [d1, d2] }
  | _ => none }
def readBehindRow : OpenClaim := { program := "ytkfdioikigponaagreatdoor", sum := "0934aacfed0b4a0ce49ba1dfb6d1200fcf33658497517e1d0a6fee8dcb457650", func := "copyist/copyistlaw05.ReadBehind", spec := "readBehind", inPlace := ["internal/abi.NoEscape", "internal/bytealg.IndexByteString", "internal/bytealg.IndexString"], unfollowed := true, recurses := true, named := ["unicode/utf8.first", "unicode/utf8.acceptRanges", "internal/bytealg.MaxLen"], apart := false, laid := [("unicode/utf8.acceptRanges", laid_unicode_utf8_acceptRanges), ("unicode/utf8.first", laid_unicode_utf8_first)] }
def ReadBehindSaid : Prop := readBehindRow.holds Tryz.pinned (OpenSpec.ofChange readBehindSpec)

/-- ITS FALSE NEIGHBOUR: 'it returns false'. Refute it at one input. -/
def readBehindWrong : ChangeSpec := { name := "readBehind", fn := fun _ => fun
  | [d1, d2] => { results := [.lit (.bool false)], args := [d1, d2] }
  | _ => none }
def ReadBehindWrongFalsely : Prop := readBehindRow.holds Tryz.pinned (OpenSpec.ofChange readBehindWrong)

/-- 'copyistlaw05.ReadInts': WHATEVER THE INPUT: true; the input reads as it did. -/
def readIntsSpec : ChangeSpec := { name := "readInts", fn := fun _ => fun
  | [d1, d2] => { results := [.lit (.bool true)], args := [d1, d2] }
  | _ => none }
def readIntsRow : OpenClaim := { program := "ytkfdioikigponaagreatdoor", sum := "0934aacfed0b4a0ce49ba1dfb6d1200fcf33658497517e1d0a6fee8dcb457650", func := "copyist/copyistlaw05.ReadInts", spec := "readInts", inPlace := ["internal/abi.NoEscape", "internal/bytealg.IndexByteString", "internal/bytealg.IndexString"], unfollowed := true, recurses := true, named := ["unicode/utf8.first", "unicode/utf8.acceptRanges", "internal/bytealg.MaxLen"], apart := false, laid := [("unicode/utf8.acceptRanges", laid_unicode_utf8_acceptRanges), ("unicode/utf8.first", laid_unicode_utf8_first)] }
def ReadIntsSaid : Prop := readIntsRow.holds Tryz.pinned (OpenSpec.ofChange readIntsSpec)

/-- ITS FALSE NEIGHBOUR: 'it returns false'. Refute it at one input. -/
def readIntsWrong : ChangeSpec := { name := "readInts", fn := fun _ => fun
  | [d1, d2] => { results := [.lit (.bool false)], args := [d1, d2] }
  | _ => none }
def ReadIntsWrongFalsely : Prop := readIntsRow.holds Tryz.pinned (OpenSpec.ofChange readIntsWrong)

/-- 'copyistlaw05.ReadStrings': WHATEVER THE INPUT: true; the input reads as it did. -/
def readStringsSpec : ChangeSpec := { name := "readStrings", fn := fun _ => fun
  | [d1, d2] => { results := [.lit (.bool true)], args := [d1, d2] }
  | _ => none }
def readStringsRow : OpenClaim := { program := "ytkfdioikigponaagreatdoor", sum := "0934aacfed0b4a0ce49ba1dfb6d1200fcf33658497517e1d0a6fee8dcb457650", func := "copyist/copyistlaw05.ReadStrings", spec := "readStrings", inPlace := ["internal/abi.NoEscape", "internal/bytealg.IndexByteString", "internal/bytealg.IndexString"], unfollowed := true, recurses := true, named := ["unicode/utf8.first", "unicode/utf8.acceptRanges", "internal/bytealg.MaxLen"], apart := false, laid := [("unicode/utf8.acceptRanges", laid_unicode_utf8_acceptRanges), ("unicode/utf8.first", laid_unicode_utf8_first)] }
def ReadStringsSaid : Prop := readStringsRow.holds Tryz.pinned (OpenSpec.ofChange readStringsSpec)

/-- ITS FALSE NEIGHBOUR: 'it returns false'. Refute it at one input. -/
def readStringsWrong : ChangeSpec := { name := "readStrings", fn := fun _ => fun
  | [d1, d2] => { results := [.lit (.bool false)], args := [d1, d2] }
  | _ => none }
def ReadStringsWrongFalsely : Prop := readStringsRow.holds Tryz.pinned (OpenSpec.ofChange readStringsWrong)

/-- 'copyistlaw05.ReadNames': WHATEVER THE INPUT: true; the input reads as it did. -/
def readNamesSpec : ChangeSpec := { name := "readNames", fn := fun _ => fun
  | [] => { results := [.lit (.bool true)], args := [] }
  | _ => none }
def readNamesRow : OpenClaim := { program := "ytkfdioikigponaagreatdoor", sum := "0934aacfed0b4a0ce49ba1dfb6d1200fcf33658497517e1d0a6fee8dcb457650", func := "copyist/copyistlaw05.ReadNames", spec := "readNames", inPlace := ["internal/abi.NoEscape", "internal/bytealg.IndexByteString", "internal/bytealg.IndexString"], unfollowed := true, recurses := true, named := ["unicode/utf8.first", "unicode/utf8.acceptRanges", "internal/bytealg.MaxLen"], apart := false, laid := [("unicode/utf8.acceptRanges", laid_unicode_utf8_acceptRanges), ("unicode/utf8.first", laid_unicode_utf8_first)] }
def ReadNamesSaid : Prop := readNamesRow.holds Tryz.pinned (OpenSpec.ofChange readNamesSpec)

/-- ITS FALSE NEIGHBOUR: 'it returns false'. Refute it at one input. -/
def readNamesWrong : ChangeSpec := { name := "readNames", fn := fun _ => fun
  | [] => { results := [.lit (.bool false)], args := [] }
  | _ => none }
def ReadNamesWrongFalsely : Prop := readNamesRow.holds Tryz.pinned (OpenSpec.ofChange readNamesWrong)

/-- 'copyistlaw05.ReadAll': WHATEVER THE INPUT: true; the input reads as it did. -/
def readAllSpec : ChangeSpec := { name := "readAll", fn := fun _ => fun
  | [d] => { results := [.lit (.bool true)], args := [d] }
  | _ => none }
def readAllRow : OpenClaim := { program := "ytkfdioikigponaagreatdoor", sum := "0934aacfed0b4a0ce49ba1dfb6d1200fcf33658497517e1d0a6fee8dcb457650", func := "copyist/copyistlaw05.ReadAll", spec := "readAll", inPlace := ["internal/abi.NoEscape", "internal/bytealg.IndexByteString", "internal/bytealg.IndexString"], unfollowed := true, recurses := true, named := ["unicode/utf8.first", "unicode/utf8.acceptRanges", "internal/bytealg.MaxLen"], apart := false, laid := [("unicode/utf8.acceptRanges", laid_unicode_utf8_acceptRanges), ("unicode/utf8.first", laid_unicode_utf8_first)] }
def ReadAllSaid : Prop := readAllRow.holds Tryz.pinned (OpenSpec.ofChange readAllSpec)

/-- ITS FALSE NEIGHBOUR: 'it returns false'. Refute it at one input. -/
def readAllWrong : ChangeSpec := { name := "readAll", fn := fun _ => fun
  | [d] => { results := [.lit (.bool false)], args := [d] }
  | _ => none }
def ReadAllWrongFalsely : Prop := readAllRow.holds Tryz.pinned (OpenSpec.ofChange readAllWrong)

/- THE SECOND FORM. 'bulk': how many values and letters a reading holds, each counted each time it is reached (what is shared counts as often as it is met; a slice's spare places count too). A statement '..UptoSaid' is the law's where the arguments, and the package variables that the reading takes, are together of bulk at most 1048576: NARROWER than '..Said'. Prove '..Said' where nothing that the law and all that it calls make is longer than what came in: it says more and counts as full. Else prove '..UptoSaid'. A law counts once. -/
mutual
def uptoBulk {H : Type} : DataW H → Nat
  | .lit (.string bytes) => bytes.length + 1
  | .lit _ => 1
  | .nil => 1
  | .ptr d => uptoBulk d + 1
  | .slice elems spare => uptoBulkAll elems + uptoBulkAll spare + 1
  | .agg parts => uptoBulkAll parts + 1
  | .iface _ d => uptoBulk d + 1
  | .map entries => uptoBulkEntries entries + 1
  | .held _ => 1
def uptoBulkAll {H : Type} : List (DataW H) → Nat
  | [] => 0
  | d :: r => uptoBulk d + uptoBulkAll r
def uptoBulkEntries {H : Type} : List (Lit × DataW H) → Nat
  | [] => 0
  | x :: r => uptoBulkEntry x + uptoBulkEntries r
def uptoBulkEntry {H : Type} : Lit × DataW H → Nat
  | (.string bytes, d) => bytes.length + uptoBulk d + 1
  | (_, d) => uptoBulk d + 1
 end
def uptoSmall : (H : Type) → List (DataW H) → Bool := fun _ ds => decide (uptoBulkAll ds ≤ 1048576)
def OpenSpec.upto (s : _root_.Go.ChangeSpec) : _root_.Go.OpenSpec := { _root_.Go.OpenSpec.ofChange s with cond := some uptoSmall }

/-- 'copyistlaw05.ReadDeep', WHERE WHAT IT READS IS OF BULK AT MOST 1048576: true; the input reads as it did. -/
def readDeepUptoRow : OpenClaim := { program := "ytkfdioikigponaagreatdoor", sum := "0934aacfed0b4a0ce49ba1dfb6d1200fcf33658497517e1d0a6fee8dcb457650", func := "copyist/copyistlaw05.ReadDeep", spec := "readDeep", inPlace := ["internal/abi.NoEscape", "internal/bytealg.IndexByteString", "internal/bytealg.IndexString"], unfollowed := true, recurses := true, named := ["unicode/utf8.first", "unicode/utf8.acceptRanges", "internal/bytealg.MaxLen"], apart := false, laid := [("unicode/utf8.acceptRanges", laid_unicode_utf8_acceptRanges), ("unicode/utf8.first", laid_unicode_utf8_first)], narrowed := true }
def ReadDeepUptoSaid : Prop := readDeepUptoRow.holds Tryz.pinned (OpenSpec.upto readDeepSpec)

/-- 'copyistlaw05.ReadBehind', WHERE WHAT IT READS IS OF BULK AT MOST 1048576: true; the input reads as it did. -/
def readBehindUptoRow : OpenClaim := { program := "ytkfdioikigponaagreatdoor", sum := "0934aacfed0b4a0ce49ba1dfb6d1200fcf33658497517e1d0a6fee8dcb457650", func := "copyist/copyistlaw05.ReadBehind", spec := "readBehind", inPlace := ["internal/abi.NoEscape", "internal/bytealg.IndexByteString", "internal/bytealg.IndexString"], unfollowed := true, recurses := true, named := ["unicode/utf8.first", "unicode/utf8.acceptRanges", "internal/bytealg.MaxLen"], apart := false, laid := [("unicode/utf8.acceptRanges", laid_unicode_utf8_acceptRanges), ("unicode/utf8.first", laid_unicode_utf8_first)], narrowed := true }
def ReadBehindUptoSaid : Prop := readBehindUptoRow.holds Tryz.pinned (OpenSpec.upto readBehindSpec)

/-- 'copyistlaw05.ReadInts', WHERE WHAT IT READS IS OF BULK AT MOST 1048576: true; the input reads as it did. -/
def readIntsUptoRow : OpenClaim := { program := "ytkfdioikigponaagreatdoor", sum := "0934aacfed0b4a0ce49ba1dfb6d1200fcf33658497517e1d0a6fee8dcb457650", func := "copyist/copyistlaw05.ReadInts", spec := "readInts", inPlace := ["internal/abi.NoEscape", "internal/bytealg.IndexByteString", "internal/bytealg.IndexString"], unfollowed := true, recurses := true, named := ["unicode/utf8.first", "unicode/utf8.acceptRanges", "internal/bytealg.MaxLen"], apart := false, laid := [("unicode/utf8.acceptRanges", laid_unicode_utf8_acceptRanges), ("unicode/utf8.first", laid_unicode_utf8_first)], narrowed := true }
def ReadIntsUptoSaid : Prop := readIntsUptoRow.holds Tryz.pinned (OpenSpec.upto readIntsSpec)

/-- 'copyistlaw05.ReadStrings', WHERE WHAT IT READS IS OF BULK AT MOST 1048576: true; the input reads as it did. -/
def readStringsUptoRow : OpenClaim := { program := "ytkfdioikigponaagreatdoor", sum := "0934aacfed0b4a0ce49ba1dfb6d1200fcf33658497517e1d0a6fee8dcb457650", func := "copyist/copyistlaw05.ReadStrings", spec := "readStrings", inPlace := ["internal/abi.NoEscape", "internal/bytealg.IndexByteString", "internal/bytealg.IndexString"], unfollowed := true, recurses := true, named := ["unicode/utf8.first", "unicode/utf8.acceptRanges", "internal/bytealg.MaxLen"], apart := false, laid := [("unicode/utf8.acceptRanges", laid_unicode_utf8_acceptRanges), ("unicode/utf8.first", laid_unicode_utf8_first)], narrowed := true }
def ReadStringsUptoSaid : Prop := readStringsUptoRow.holds Tryz.pinned (OpenSpec.upto readStringsSpec)

/-- 'copyistlaw05.ReadNames', WHERE WHAT IT READS IS OF BULK AT MOST 1048576: true; the input reads as it did. -/
def readNamesUptoRow : OpenClaim := { program := "ytkfdioikigponaagreatdoor", sum := "0934aacfed0b4a0ce49ba1dfb6d1200fcf33658497517e1d0a6fee8dcb457650", func := "copyist/copyistlaw05.ReadNames", spec := "readNames", inPlace := ["internal/abi.NoEscape", "internal/bytealg.IndexByteString", "internal/bytealg.IndexString"], unfollowed := true, recurses := true, named := ["unicode/utf8.first", "unicode/utf8.acceptRanges", "internal/bytealg.MaxLen"], apart := false, laid := [("unicode/utf8.acceptRanges", laid_unicode_utf8_acceptRanges), ("unicode/utf8.first", laid_unicode_utf8_first)], narrowed := true }
def ReadNamesUptoSaid : Prop := readNamesUptoRow.holds Tryz.pinned (OpenSpec.upto readNamesSpec)

/-- 'copyistlaw05.ReadAll', WHERE WHAT IT READS IS OF BULK AT MOST 1048576: true; the input reads as it did. -/
def readAllUptoRow : OpenClaim := { program := "ytkfdioikigponaagreatdoor", sum := "0934aacfed0b4a0ce49ba1dfb6d1200fcf33658497517e1d0a6fee8dcb457650", func := "copyist/copyistlaw05.ReadAll", spec := "readAll", inPlace := ["internal/abi.NoEscape", "internal/bytealg.IndexByteString", "internal/bytealg.IndexString"], unfollowed := true, recurses := true, named := ["unicode/utf8.first", "unicode/utf8.acceptRanges", "internal/bytealg.MaxLen"], apart := false, laid := [("unicode/utf8.acceptRanges", laid_unicode_utf8_acceptRanges), ("unicode/utf8.first", laid_unicode_utf8_first)], narrowed := true }
def ReadAllUptoSaid : Prop := readAllUptoRow.holds Tryz.pinned (OpenSpec.upto readAllSpec)

end Rows
end Go.Proofs.YtkfdioikigponaaGreatDoor
