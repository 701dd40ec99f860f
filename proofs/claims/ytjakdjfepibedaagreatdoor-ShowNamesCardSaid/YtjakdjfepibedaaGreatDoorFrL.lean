/- 'copyist/copyistlaw06.ShowNames': the closed facts of the program that the statement's frame asks for, one a theorem. -/
import Derived.Test.YtjakdjfepibedaaGreatDoorRows
import Derived.Test.YtjakdjfepibedaaGreatDoorCards
import Derived.ProofKit
import Derived.Lay
import Derived.LaidOnce
import Derived.SevenTiedAt
set_option maxRecDepth 100000
set_option linter.all false
namespace Go.Proofs.YtjakdjfepibedaaGreatDoor
open Go.ChangeShapes Go.WideShapes Go.ChangeAt Go.RowKit
theorem k_c : Func.isInstance Tryz.pinned.checked.prog Tryz.f4 Rows.showNamesRow.origin Rows.showNamesRow.targs := of_decide_eq_true (by kernel_rfl)
theorem k_d : Func.isWrapper Tryz.pinned.checked.prog Tryz.f4 Rows.showNamesRow.wrapper Rows.showNamesRow.mainSum := by
  unfold Func.isWrapper; first | (rw [if_pos (by decide +kernel)]; kernel_rfl) | (rw [if_neg (by decide +kernel)]; exact ⟨rfl, rfl⟩)
theorem k_e : OpenClaim.wfByText (OpenSpec.ofChange Rows.showNamesSpec) Rows.showNamesRow = true := by kernel_rfl
theorem k_f : Tryz.pinned.checked.prog.mainIs = some ((true, "35c8c9a8c1ee0daaffa43ca863751e5369f7cc187aa3c7cc12c158071cccf2b8").fst, (true, "35c8c9a8c1ee0daaffa43ca863751e5369f7cc187aa3c7cc12c158071cccf2b8").snd.toList) := by kernel_rfl
theorem k_g : true = Tryz.pinned.checked.prog.looks [] := by kernel_rfl
theorem k_i : false = Rows.showNamesRow.goesBy Tryz.pinned.checked.prog := by kernel_rfl
end Go.Proofs.YtjakdjfepibedaaGreatDoor
