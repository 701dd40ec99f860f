/- The closed facts of the program that the statement's frame asks for, one a theorem. -/
import Derived.Test.YtldcnedpfagliaaGreatDoorRows
import Derived.Test.YtldcnedpfagliaaGreatDoorCards
import Derived.ProofKit
import Derived.Lay
import Derived.LaidOnce
import Derived.SevenTiedAt
set_option maxRecDepth 100000
set_option linter.all false
namespace Go.Proofs.YtldcnedpfagliaaGreatDoor
open Go.ChangeShapes Go.WideShapes Go.ChangeAt Go.RowKit
theorem k_c : Func.isInstance Tryz.pinned.checked.prog Tryz.f4 Rows.primsArityRow.origin Rows.primsArityRow.targs := of_decide_eq_true (by kernel_rfl)
theorem k_d : Func.isWrapper Tryz.pinned.checked.prog Tryz.f4 Rows.primsArityRow.wrapper Rows.primsArityRow.mainSum := by
  unfold Func.isWrapper; first | (rw [if_pos (by decide +kernel)]; kernel_rfl) | (rw [if_neg (by decide +kernel)]; exact ⟨rfl, rfl⟩)
theorem k_e : OpenClaim.wfByText (OpenSpec.ofChange Rows.primsAritySpec) Rows.primsArityRow = true := by kernel_rfl
theorem k_f : Tryz.pinned.checked.prog.mainIs = some ((true, "7e10a4ab7021d4c09de0414370f32ab4647d01484bfeb8aec8c0fcd20140eac8").fst, (true, "7e10a4ab7021d4c09de0414370f32ab4647d01484bfeb8aec8c0fcd20140eac8").snd.toList) := by kernel_rfl
theorem k_g : true = Tryz.pinned.checked.prog.looks [] := by kernel_rfl
theorem k_h : ([3, 9, 3].all fun u => !Tryz.pinned.checked.prog.wantsStandIn u) = true := by kernel_rfl
theorem k_i : false = Rows.primsArityRow.goesBy Tryz.pinned.checked.prog := by kernel_rfl
end Go.Proofs.YtldcnedpfagliaaGreatDoor
