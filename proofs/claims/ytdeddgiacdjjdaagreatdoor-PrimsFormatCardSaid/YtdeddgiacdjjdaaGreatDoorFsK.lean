/- The closed facts of the program that the statement's frame asks for, one a theorem. -/
import Derived.Test.YtdeddgiacdjjdaaGreatDoorRows
import Derived.Test.YtdeddgiacdjjdaaGreatDoorCards
import Derived.ProofKit
import Derived.Lay
import Derived.LaidOnce
import Derived.SevenTiedAt
set_option maxRecDepth 100000
set_option linter.all false
namespace Go.Proofs.YtdeddgiacdjjdaaGreatDoor
open Go.ChangeShapes Go.WideShapes Go.ChangeAt Go.RowKit
theorem k_a : Tryz.pinned.checked.prog.funcNamed Rows.primsFormatRow.func = some 4 := by kernel_rfl
theorem aow {a b : Bool} (ha : a = true) (hb : b = true) : (a && b) = true := by rw [ha, hb]; rfl
set_option maxHeartbeats 100000000 in
theorem k_b : joinedFacts Tryz.pinned.checked.prog 4 Tryz.f4 Rows.primsFormatSpec Rows.primsFormatRow = true := by
  unfold joinedFacts
  repeat' with_reducible apply aow
  all_goals (as_aux_lemma => kernel_rfl)
end Go.Proofs.YtdeddgiacdjjdaaGreatDoor
