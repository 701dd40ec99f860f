/- PrimsArith: the closed facts of the program that the statement's frame asks for, one a theorem. -/
import Derived.Test.YtlpchjkggeiidaaGreatDoorRows
import Derived.Test.YtlpchjkggeiidaaGreatDoorCards
import Derived.ProofKit
import Derived.Lay
import Derived.LaidOnce
import Derived.SevenTiedAt
set_option maxRecDepth 100000
set_option linter.all false
namespace Go.Proofs.YtlpchjkggeiidaaGreatDoor
open Go.ChangeShapes Go.WideShapes Go.ChangeAt Go.RowKit
theorem k_a : Tryz.pinned.checked.prog.funcNamed Rows.primsArithRow.func = some 4 := by kernel_rfl
theorem and_intro {a b : Bool} (ha : a = true) (hb : b = true) : (a && b) = true := by rw [ha, hb]; rfl
set_option maxHeartbeats 100000000 in
theorem k_b : joinedFacts Tryz.pinned.checked.prog 4 Tryz.f4 Rows.primsArithSpec Rows.primsArithRow = true := by
  unfold joinedFacts
  repeat' with_reducible apply and_intro
  all_goals (as_aux_lemma => kernel_rfl)
theorem k_c : Func.isInstance Tryz.pinned.checked.prog Tryz.f4 Rows.primsArithRow.origin Rows.primsArithRow.targs := of_decide_eq_true (by kernel_rfl)
theorem k_d : Func.isWrapper Tryz.pinned.checked.prog Tryz.f4 Rows.primsArithRow.wrapper Rows.primsArithRow.mainSum := by
  unfold Func.isWrapper; first | (rw [if_pos (by decide +kernel)]; kernel_rfl) | (rw [if_neg (by decide +kernel)]; exact ⟨rfl, rfl⟩)
theorem k_e : OpenClaim.wfByText (OpenSpec.ofChange Rows.primsArithSpec) Rows.primsArithRow = true := by kernel_rfl
theorem k_f : Tryz.pinned.checked.prog.mainIs = some ((true, "058831340f3f4ed2f10f57d6edba5020580b95d446afd57556863b72898b3567").fst, (true, "058831340f3f4ed2f10f57d6edba5020580b95d446afd57556863b72898b3567").snd.toList) := by kernel_rfl
theorem k_g : true = Tryz.pinned.checked.prog.looks [] := by kernel_rfl
theorem k_h : ([3, 3].all fun u => !Tryz.pinned.checked.prog.wantsStandIn u) = true := by kernel_rfl
theorem k_i : false = Rows.primsArithRow.goesBy Tryz.pinned.checked.prog := by kernel_rfl
end Go.Proofs.YtlpchjkggeiidaaGreatDoor
