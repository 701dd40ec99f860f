/- 'copyist/copyistlaw08.FormsNames': the closed facts of the program that the statement's frame asks for, one a theorem. -/
import Derived.Test.YtgdacbnfcappnaaGreatDoorRows
import Derived.Test.YtgdacbnfcappnaaGreatDoorCards
import Derived.ProofKit
import Derived.Lay
import Derived.LaidOnce
import Derived.SevenTiedAt
set_option maxRecDepth 100000
set_option linter.all false
namespace Go.Proofs.YtgdacbnfcappnaaGreatDoor
open Go.ChangeShapes Go.WideShapes Go.ChangeAt Go.RowKit
theorem k_a : Tryz.pinned.checked.prog.funcNamed Rows.formsNamesRow.func = some 3 := by kernel_rfl
theorem and_intro {a b : Bool} (ha : a = true) (hb : b = true) : (a && b) = true := by rw [ha, hb]; rfl
set_option maxHeartbeats 100000000 in
theorem k_b : joinedFacts Tryz.pinned.checked.prog 3 Tryz.f3 Rows.formsNamesSpec Rows.formsNamesRow = true := by
  unfold joinedFacts
  repeat' with_reducible apply and_intro
  all_goals (as_aux_lemma => kernel_rfl)
end Go.Proofs.YtgdacbnfcappnaaGreatDoor
