/- PrimsArith: a primitive called with two integers, on each path. -/
import Derived.Test.YtlpchjkggeiidaaGreatDoorArA
import Derived.Test.YtlpchjkggeiidaaGreatDoorArR
set_option linter.all false
set_option maxRecDepth 100000
namespace Go.Proofs.YtlpchjkggeiidaaGreatDoor
open Go.Ev
theorem c8_run : retV (enter (run (hooksR rfR11) 1000000) 9 [.str 3 7171940, .sym .i64 x0 cA8, .sym .i64 x3 cA8] wS) (.tuple [.sym .i64 x9 cA8, .bool true]) = true := by kernel_rfl
theorem c8 : SymFact 9 [.str 3 7171940, .sym .i64 x0 cA8, .sym .i64 x3 cA8] (.tuple [.sym .i64 x9 cA8, .bool true]) := symFact_of_run (by kernel_rfl) (rfR11_ok) (by kernel_rfl) c8_run
theorem c9_run : retV (enter (run (hooksR rfR11) 1000000) 9 [.str 1 47, .sym .i64 x0 cA9, .sym .i64 x3 cA9] wS) (.tuple [.int .i64 0, .bool false]) = true := by kernel_rfl
theorem c9 : SymFact 9 [.str 1 47, .sym .i64 x0 cA9, .sym .i64 x3 cA9] (.tuple [.int .i64 0, .bool false]) := symFact_of_run (by kernel_rfl) (rfR11_ok) (by kernel_rfl) c9_run
theorem c10_run : retV (enter (run (hooksR rfR11) 1000000) 9 [.str 1 43, .sym .i64 x0 cA10, .sym .i64 x3 cA10] wS) (.tuple [.sym .i64 x6 cA10, .bool true]) = true := by kernel_rfl
theorem c10 : SymFact 9 [.str 1 43, .sym .i64 x0 cA10, .sym .i64 x3 cA10] (.tuple [.sym .i64 x6 cA10, .bool true]) := symFact_of_run (by kernel_rfl) (rfR11_ok) (by kernel_rfl) c10_run
theorem c11_run : retV (enter (run (hooksR rfR11) 1000000) 9 [.str 1 47, .sym .i64 x0 cA11, .sym .i64 x3 cA11] wS) (.tuple [.int .i64 0, .bool false]) = true := by kernel_rfl
theorem c11 : SymFact 9 [.str 1 47, .sym .i64 x0 cA11, .sym .i64 x3 cA11] (.tuple [.int .i64 0, .bool false]) := symFact_of_run (by kernel_rfl) (rfR11_ok) (by kernel_rfl) c11_run
theorem c12_run : retV (enter (run (hooksR rfR11) 1000000) 9 [.str 1 37, .sym .i64 x0 cA12, .sym .i64 x3 cA12] wS) (.tuple [.int .i64 0, .bool false]) = true := by kernel_rfl
theorem c12 : SymFact 9 [.str 1 37, .sym .i64 x0 cA12, .sym .i64 x3 cA12] (.tuple [.int .i64 0, .bool false]) := symFact_of_run (by kernel_rfl) (rfR11_ok) (by kernel_rfl) c12_run
theorem c13_run : retV (enter (run (hooksR rfR11) 1000000) 9 [.str 3 7171940, .sym .i64 x0 cA13, .sym .i64 x3 cA13] wS) (.tuple [.int .i64 0, .bool false]) = true := by kernel_rfl
theorem c13 : SymFact 9 [.str 3 7171940, .sym .i64 x0 cA13, .sym .i64 x3 cA13] (.tuple [.int .i64 0, .bool false]) := symFact_of_run (by kernel_rfl) (rfR11_ok) (by kernel_rfl) c13_run
theorem c14_run : retV (enter (run (hooksR rfR11) 1000000) 9 [.str 1 45, .sym .i64 x0 cA14, .sym .i64 x3 cA14] wS) (.tuple [.int .i64 0, .bool false]) = true := by kernel_rfl
theorem c14 : SymFact 9 [.str 1 45, .sym .i64 x0 cA14, .sym .i64 x3 cA14] (.tuple [.int .i64 0, .bool false]) := symFact_of_run (by kernel_rfl) (rfR11_ok) (by kernel_rfl) c14_run
theorem c15_run : retV (enter (run (hooksR rfR11) 1000000) 9 [.str 3 7171940, .sym .i64 x0 cA15, .sym .i64 x3 cA15] wS) (.tuple [.sym .i64 x17 cA15, .bool true]) = true := by kernel_rfl
theorem c15 : SymFact 9 [.str 3 7171940, .sym .i64 x0 cA15, .sym .i64 x3 cA15] (.tuple [.sym .i64 x17 cA15, .bool true]) := symFact_of_run (by kernel_rfl) (rfR11_ok) (by kernel_rfl) c15_run
end Go.Proofs.YtlpchjkggeiidaaGreatDoor
