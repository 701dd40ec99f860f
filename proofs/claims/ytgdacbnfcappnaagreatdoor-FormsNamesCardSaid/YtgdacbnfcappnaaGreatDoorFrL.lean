/- 'copyist/copyistlaw08.FormsNames': the closed facts of the program that the statement's frame asks for, one a theorem. -/
import Derived.Test.YtgdacbnfcappnaaGreatDoorRows
import Derived.Test.YtgdacbnfcappnaaGreatDoorCards
import Derived.ProofKit
import Derived.Lay
import Derived.LaidOnce
import Derived.SevenTiedAt
set_option maxRecDepth 100000
set_option linter.all false
namespace Go.Proofs.YtgdacbnfcappnaaGreatDoor
open Go.ChangeShapes Go.WideShapes Go.ChangeAt Go.RowKit
theorem k_c : Func.isInstance Tryz.pinned.checked.prog Tryz.f3 Rows.formsNamesRow.origin Rows.formsNamesRow.targs := of_decide_eq_true (by kernel_rfl)
theorem k_d : Func.isWrapper Tryz.pinned.checked.prog Tryz.f3 Rows.formsNamesRow.wrapper Rows.formsNamesRow.mainSum := by
  unfold Func.isWrapper; first | (rw [if_pos (by decide +kernel)]; kernel_rfl) | (rw [if_neg (by decide +kernel)]; exact ⟨rfl, rfl⟩)
theorem k_e : OpenClaim.wfByText (OpenSpec.ofChange Rows.formsNamesSpec) Rows.formsNamesRow = true := by kernel_rfl
theorem k_f : Tryz.pinned.checked.prog.mainIs = some ((true, "99bbabcb4f8025dcc3d0fb7304b4e8cb7c8ad4dcc9004a1a7a87d110e4cafbfb").fst, (true, "99bbabcb4f8025dcc3d0fb7304b4e8cb7c8ad4dcc9004a1a7a87d110e4cafbfb").snd.toList) := by kernel_rfl
theorem k_g : true = Tryz.pinned.checked.prog.looks [] := by kernel_rfl
theorem k_i : false = Rows.formsNamesRow.goesBy Tryz.pinned.checked.prog := by kernel_rfl
end Go.Proofs.YtgdacbnfcappnaaGreatDoor
