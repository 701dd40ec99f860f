/- PrimsArith: a primitive called with two integers, on each path. -/
import Derived.Test.YtlpchjkggeiidaaGreatDoorArA
import Derived.Test.YtlpchjkggeiidaaGreatDoorArR
set_option linter.all false
set_option maxRecDepth 100000
namespace Go.Proofs.YtlpchjkggeiidaaGreatDoor
open Go.Ev
theorem c16_run : retV (enter (run (hooksR rfR11) 1000000) 9 [.str 1 43, .sym .i64 x0 cA16, .sym .i64 x3 cA16] wS) (.tuple [.int .i64 0, .bool false]) = true := by kernel_rfl
theorem c16 : SymFact 9 [.str 1 43, .sym .i64 x0 cA16, .sym .i64 x3 cA16] (.tuple [.int .i64 0, .bool false]) := symFact_of_run (by kernel_rfl) (rfR11_ok) (by kernel_rfl) c16_run
theorem c17_run : retV (enter (run (hooksR rfR11) 1000000) 9 [.str 3 7168376, .sym .i64 x0 cA17, .sym .i64 x3 cA17] wS) (.tuple [.sym .i64 x0 cA17, .bool true]) = true := by kernel_rfl
theorem c17 : SymFact 9 [.str 3 7168376, .sym .i64 x0 cA17, .sym .i64 x3 cA17] (.tuple [.sym .i64 x0 cA17, .bool true]) := symFact_of_run (by kernel_rfl) (rfR11_ok) (by kernel_rfl) c17_run
theorem c18_run : retV (enter (run (hooksR rfR11) 1000000) 9 [.str 1 45, .sym .i64 x0 cA18, .sym .i64 x3 cA18] wS) (.tuple [.int .i64 0, .bool false]) = true := by kernel_rfl
theorem c18 : SymFact 9 [.str 1 45, .sym .i64 x0 cA18, .sym .i64 x3 cA18] (.tuple [.int .i64 0, .bool false]) := symFact_of_run (by kernel_rfl) (rfR11_ok) (by kernel_rfl) c18_run
theorem c19_run : retV (enter (run (hooksR rfR11) 1000000) 9 [.str 3 7171940, .sym .i64 x0 cA19, .sym .i64 x3 cA19] wS) (.tuple [.sym .i64 x17 cA19, .bool true]) = true := by kernel_rfl
theorem c19 : SymFact 9 [.str 3 7171940, .sym .i64 x0 cA19, .sym .i64 x3 cA19] (.tuple [.sym .i64 x17 cA19, .bool true]) := symFact_of_run (by kernel_rfl) (rfR11_ok) (by kernel_rfl) c19_run
theorem c20_run : retV (enter (run (hooksR rfR11) 1000000) 9 [.str 3 7171940, .sym .i64 x0 cA20, .sym .i64 x3 cA20] wS) (.tuple [.sym .i64 x9 cA20, .bool true]) = true := by kernel_rfl
theorem c20 : SymFact 9 [.str 3 7171940, .sym .i64 x0 cA20, .sym .i64 x3 cA20] (.tuple [.sym .i64 x9 cA20, .bool true]) := symFact_of_run (by kernel_rfl) (rfR11_ok) (by kernel_rfl) c20_run
theorem c21_run : retV (enter (run (hooksR rfR11) 1000000) 9 [.str 1 43, .sym .i64 x0 cA21, .sym .i64 x3 cA21] wS) (.tuple [.int .i64 0, .bool false]) = true := by kernel_rfl
theorem c21 : SymFact 9 [.str 1 43, .sym .i64 x0 cA21, .sym .i64 x3 cA21] (.tuple [.int .i64 0, .bool false]) := symFact_of_run (by kernel_rfl) (rfR11_ok) (by kernel_rfl) c21_run
theorem c22_run : retV (enter (run (hooksR rfR11) 1000000) 9 [.str 1 43, .sym .i64 x0 cA22, .sym .i64 x3 cA22] wS) (.tuple [.int .i64 0, .bool false]) = true := by kernel_rfl
theorem c22 : SymFact 9 [.str 1 43, .sym .i64 x0 cA22, .sym .i64 x3 cA22] (.tuple [.int .i64 0, .bool false]) := symFact_of_run (by kernel_rfl) (rfR11_ok) (by kernel_rfl) c22_run
end Go.Proofs.YtlpchjkggeiidaaGreatDoor
