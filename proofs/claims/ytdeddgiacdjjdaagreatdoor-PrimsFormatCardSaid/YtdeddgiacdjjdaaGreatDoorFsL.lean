/- The closed facts of the program that the statement's frame asks for, one a theorem. -/
import Derived.Test.YtdeddgiacdjjdaaGreatDoorRows
import Derived.Test.YtdeddgiacdjjdaaGreatDoorCards
import Derived.ProofKit
import Derived.Lay
import Derived.LaidOnce
import Derived.SevenTiedAt
set_option maxRecDepth 100000
set_option linter.all false
namespace Go.Proofs.YtdeddgiacdjjdaaGreatDoor
open Go.ChangeShapes Go.WideShapes Go.ChangeAt Go.RowKit
theorem k_c : Func.isInstance Tryz.pinned.checked.prog Tryz.f4 Rows.primsFormatRow.origin Rows.primsFormatRow.targs := of_decide_eq_true (by kernel_rfl)
theorem k_d : Func.isWrapper Tryz.pinned.checked.prog Tryz.f4 Rows.primsFormatRow.wrapper Rows.primsFormatRow.mainSum := by
  unfold Func.isWrapper; first | (rw [if_pos (by decide +kernel)]; kernel_rfl) | (rw [if_neg (by decide +kernel)]; exact ⟨rfl, rfl⟩)
theorem k_e : OpenClaim.wfByText (OpenSpec.ofChange Rows.primsFormatSpec) Rows.primsFormatRow = true := by kernel_rfl
theorem k_f : Tryz.pinned.checked.prog.mainIs = some ((true, "58cf718844dee2e6adf53e25340cb6e7e9fdfcad625555989b95419de5258a5b").fst, (true, "58cf718844dee2e6adf53e25340cb6e7e9fdfcad625555989b95419de5258a5b").snd.toList) := by kernel_rfl
theorem k_g : true = Tryz.pinned.checked.prog.looks [] := by kernel_rfl
theorem k_h : ([3, 3, 4, 4].all fun u => !Tryz.pinned.checked.prog.wantsStandIn u) = true := by kernel_rfl
theorem k_i : false = Rows.primsFormatRow.goesBy Tryz.pinned.checked.prog := by kernel_rfl
end Go.Proofs.YtdeddgiacdjjdaaGreatDoor
