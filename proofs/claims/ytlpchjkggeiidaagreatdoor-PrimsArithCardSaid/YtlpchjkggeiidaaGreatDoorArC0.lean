/- PrimsArith: a primitive called with two integers, on each path. -/
import Derived.Test.YtlpchjkggeiidaaGreatDoorArA
import Derived.Test.YtlpchjkggeiidaaGreatDoorArR
set_option linter.all false
set_option maxRecDepth 100000
namespace Go.Proofs.YtlpchjkggeiidaaGreatDoor
open Go.Ev
theorem c0_run : retV (enter (run (hooksR rfR11) 1000000) 9 [.str 1 43, .sym .i64 x0 cA0, .sym .i64 x3 cA0] wS) (.tuple [.int .i64 0, .bool false]) = true := by kernel_rfl
theorem c0 : SymFact 9 [.str 1 43, .sym .i64 x0 cA0, .sym .i64 x3 cA0] (.tuple [.int .i64 0, .bool false]) := symFact_of_run (by kernel_rfl) (rfR11_ok) (by kernel_rfl) c0_run
theorem c1_run : retV (enter (run (hooksR rfR11) 1000000) 9 [.str 1 43, .sym .i64 x0 cA1, .sym .i64 x3 cA1] wS) (.tuple [.int .i64 0, .bool false]) = true := by kernel_rfl
theorem c1 : SymFact 9 [.str 1 43, .sym .i64 x0 cA1, .sym .i64 x3 cA1] (.tuple [.int .i64 0, .bool false]) := symFact_of_run (by kernel_rfl) (rfR11_ok) (by kernel_rfl) c1_run
theorem c2_run : retV (enter (run (hooksR rfR11) 1000000) 9 [.str 1 43, .sym .i64 x0 cA2, .sym .i64 x3 cA2] wS) (.tuple [.int .i64 0, .bool false]) = true := by kernel_rfl
theorem c2 : SymFact 9 [.str 1 43, .sym .i64 x0 cA2, .sym .i64 x3 cA2] (.tuple [.int .i64 0, .bool false]) := symFact_of_run (by kernel_rfl) (rfR11_ok) (by kernel_rfl) c2_run
theorem c3_run : retV (enter (run (hooksR rfR11) 1000000) 9 [.str 1 45, .sym .i64 x0 cA3, .sym .i64 x3 cA3] wS) (.tuple [.sym .i64 x7 cA3, .bool true]) = true := by kernel_rfl
theorem c3 : SymFact 9 [.str 1 45, .sym .i64 x0 cA3, .sym .i64 x3 cA3] (.tuple [.sym .i64 x7 cA3, .bool true]) := symFact_of_run (by kernel_rfl) (rfR11_ok) (by kernel_rfl) c3_run
theorem c4_run : retV (enter (run (hooksR rfR11) 1000000) 9 [.str 1 47, .sym .i64 x0 cA4, .sym .i64 x3 cA4] wS) (.tuple [.sym .i64 x8 cA4, .bool true]) = true := by kernel_rfl
theorem c4 : SymFact 9 [.str 1 47, .sym .i64 x0 cA4, .sym .i64 x3 cA4] (.tuple [.sym .i64 x8 cA4, .bool true]) := symFact_of_run (by kernel_rfl) (rfR11_ok) (by kernel_rfl) c4_run
theorem c5_run : retV (enter (run (hooksR rfR11) 1000000) 9 [.str 1 37, .sym .i64 x0 cA5, .sym .i64 x3 cA5] wS) (.tuple [.sym .i64 x9 cA5, .bool true]) = true := by kernel_rfl
theorem c5 : SymFact 9 [.str 1 37, .sym .i64 x0 cA5, .sym .i64 x3 cA5] (.tuple [.sym .i64 x9 cA5, .bool true]) := symFact_of_run (by kernel_rfl) (rfR11_ok) (by kernel_rfl) c5_run
theorem c6_run : retV (enter (run (hooksR rfR11) 1000000) 9 [.str 3 7171940, .sym .i64 x0 cA6, .sym .i64 x3 cA6] wS) (.tuple [.sym .i64 x9 cA6, .bool true]) = true := by kernel_rfl
theorem c6 : SymFact 9 [.str 3 7171940, .sym .i64 x0 cA6, .sym .i64 x3 cA6] (.tuple [.sym .i64 x9 cA6, .bool true]) := symFact_of_run (by kernel_rfl) (rfR11_ok) (by kernel_rfl) c6_run
theorem c7_run : retV (enter (run (hooksR rfR11) 1000000) 9 [.str 3 7168376, .sym .i64 x0 cA7, .sym .i64 x3 cA7] wS) (.tuple [.sym .i64 x3 cA7, .bool true]) = true := by kernel_rfl
theorem c7 : SymFact 9 [.str 3 7168376, .sym .i64 x0 cA7, .sym .i64 x3 cA7] (.tuple [.sym .i64 x3 cA7, .bool true]) := symFact_of_run (by kernel_rfl) (rfR11_ok) (by kernel_rfl) c7_run
end Go.Proofs.YtlpchjkggeiidaaGreatDoor
