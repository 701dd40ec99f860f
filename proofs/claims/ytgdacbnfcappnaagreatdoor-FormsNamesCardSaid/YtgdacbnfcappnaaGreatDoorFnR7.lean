/- Calls, each by a closed run. No condition. -/
import Derived.Test.YtgdacbnfcappnaaGreatDoorFnH
import Derived.Test.YtgdacbnfcappnaaGreatDoorFnR6
set_option maxRecDepth 100000
set_option linter.all false
namespace Go.Ev
theorem cw56_run : segV (enter (run HX 1000000) 24 [.ptr (K.of 14358) 0, .ptr (K.of 14360) 0, .agg [.int .i64 1, .int .i64 62], .bool true] (withL hp58 15770)) (.tuple [.str 5 465625642096, .int .i64 0]) hp58 15792 = true := by kernel_rfl
theorem cw56 : FactW 24 [.ptr (K.of 14358) 0, .ptr (K.of 14360) 0, .agg [.int .i64 1, .int .i64 62], .bool true] 15770 hp58 (.tuple [.str 5 465625642096, .int .i64 0]) 15792 hp58 := factW_of_run HX_ok cw56_run
theorem cw56_li : liFine 15770 hp58 = true := by kernel_rfl
theorem cw56_lo : loFine 15770 15792 hp58 hp58 = true := by kernel_rfl
theorem cw57_run : segV (enter (run HX 1000000) 24 [.ptr (K.of 14358) 0, .ptr (K.of 14360) 0, .agg [.int .i64 0, .int .i64 1], .bool true] (withL hp58 15795)) (.tuple [.str 1 49, .int .i64 0]) hp58 15803 = true := by kernel_rfl
theorem cw57 : FactW 24 [.ptr (K.of 14358) 0, .ptr (K.of 14360) 0, .agg [.int .i64 0, .int .i64 1], .bool true] 15795 hp58 (.tuple [.str 1 49, .int .i64 0]) 15803 hp58 := factW_of_run HX_ok cw57_run
theorem cw57_li : liFine 15795 hp58 = true := by kernel_rfl
theorem cw57_lo : loFine 15795 15803 hp58 hp58 = true := by kernel_rfl
theorem cw58_run : segV (enter (run HX 1000000) 32 [.slice (K.of 15804) 0 2 2 (some 1), .str 2 11296] (withL hp59 15805)) (.str 8 7811901972586176561) hp59 15807 = true := by kernel_rfl
theorem cw58 : FactW 32 [.slice (K.of 15804) 0 2 2 (some 1), .str 2 11296] 15805 hp59 (.str 8 7811901972586176561) 15807 hp59 := factW_of_run HX_ok cw58_run
theorem cw58_li : liFine 15805 hp59 = true := by kernel_rfl
theorem cw58_lo : loFine 15805 15807 hp59 hp59 = true := by kernel_rfl
noncomputable def ws59 : List HW := [.mk 24 [.ptr (K.of 14358) 0, .ptr (K.of 14360) 0, .agg [.int .i64 1, .int .i64 62], .bool true] 15770 hp58 (.tuple [.str 5 465625642096, .int .i64 0]) 15792 hp58,
  .mk 24 [.ptr (K.of 14358) 0, .ptr (K.of 14360) 0, .agg [.int .i64 0, .int .i64 1], .bool true] 15795 hp58 (.tuple [.str 1 49, .int .i64 0]) 15803 hp58,
  .mk 32 [.slice (K.of 15804) 0 2 2 (some 1), .str 2 11296] 15805 hp59 (.str 8 7811901972586176561) 15807 hp59]
theorem ws59_ok : HookOk (hooksF ws59) := hooksF_ok _ (rows_cons ⟨cw56, cw56_li, cw56_lo, by decide⟩ (rows_cons ⟨cw57, cw57_li, cw57_lo, by decide⟩ (rows_cons ⟨cw58, cw58_li, cw58_lo, by decide⟩ rows_nil)))
theorem cw59_run : segV (enter (run (orH (hooksF ws59) HX) 1000000) 9 [.ptr (K.of 14358) 0, .ptr (K.of 14360) 0, .agg [.int .i64 1, .int .i64 41, .int .i64 2, .int .i64 3]] (withL hp58 15721)) (.tuple [.str 29 2357566801454308985866356040725712231478312828599906677871394689916977, .int .i64 0]) hp58 15807 = true := by kernel_rfl
theorem cw59 : FactW 9 [.ptr (K.of 14358) 0, .ptr (K.of 14360) 0, .agg [.int .i64 1, .int .i64 41, .int .i64 2, .int .i64 3]] 15721 hp58 (.tuple [.str 29 2357566801454308985866356040725712231478312828599906677871394689916977, .int .i64 0]) 15807 hp58 := factW_of_run (orH_ok ws59_ok HX_ok) cw59_run
theorem cw59_li : liFine 15721 hp58 = true := by kernel_rfl
theorem cw59_lo : loFine 15721 15807 hp58 hp58 = true := by kernel_rfl
theorem cw60_run : segV (enter (run HX 1000000) 33 [.ptr (K.of 14358) 0, .str 20000 (repA 20000)] (withL hp60 15808)) (.tuple [.agg [.int .i64 3, .int .i64 28], .int .i64 0]) hp61 15813 = true := by kernel_rfl
theorem cw60 : FactW 33 [.ptr (K.of 14358) 0, .str 20000 (repA 20000)] 15808 hp60 (.tuple [.agg [.int .i64 3, .int .i64 28], .int .i64 0]) 15813 hp61 := factW_of_run HX_ok cw60_run
theorem cw60_li : liFine 15808 hp60 = true := by kernel_rfl
theorem cw60_lo : loFine 15808 15813 hp60 hp61 = true := by kernel_rfl
theorem cw61_run : segV (enter (run HX 1000000) 33 [.ptr (K.of 14358) 0, .str 25505 (repA 25505)] (withL hp61 15814)) (.tuple [.agg [.int .i64 3, .int .i64 29], .int .i64 0]) hp62 15819 = true := by kernel_rfl
theorem cw61 : FactW 33 [.ptr (K.of 14358) 0, .str 25505 (repA 25505)] 15814 hp61 (.tuple [.agg [.int .i64 3, .int .i64 29], .int .i64 0]) 15819 hp62 := factW_of_run HX_ok cw61_run
theorem cw61_li : liFine 15814 hp61 = true := by kernel_rfl
theorem cw61_lo : loFine 15814 15819 hp61 hp62 = true := by kernel_rfl
theorem cw62_run : segV (enter (run HX 1000000) 33 [.ptr (K.of 14358) 0, .str 25506 (repA 25506)] (withL hp62 15820)) (.tuple [.agg [.int .i64 3, .int .i64 30], .int .i64 0]) hp63 15825 = true := by kernel_rfl
theorem cw62 : FactW 33 [.ptr (K.of 14358) 0, .str 25506 (repA 25506)] 15820 hp62 (.tuple [.agg [.int .i64 3, .int .i64 30], .int .i64 0]) 15825 hp63 := factW_of_run HX_ok cw62_run
theorem cw62_li : liFine 15820 hp62 = true := by kernel_rfl
theorem cw62_lo : loFine 15820 15825 hp62 hp63 = true := by kernel_rfl
theorem cw63_run : segV (enter (run HX 1000000) 24 [.ptr (K.of 14358) 0, .ptr (K.of 14360) 0, .agg [.int .i64 3, .int .i64 28], .bool true] (withL hp64 15958)) (.tuple [.str 20002 (catN (catN 34 20000 (repA 20000)) 1 34), .int .i64 0]) hp64 15969 = true := by kernel_rfl
theorem cw63 : FactW 24 [.ptr (K.of 14358) 0, .ptr (K.of 14360) 0, .agg [.int .i64 3, .int .i64 28], .bool true] 15958 hp64 (.tuple [.str 20002 (catN (catN 34 20000 (repA 20000)) 1 34), .int .i64 0]) 15969 hp64 := factW_of_run HX_ok cw63_run
theorem cw63_li : liFine 15958 hp64 = true := by kernel_rfl
theorem cw63_lo : loFine 15958 15969 hp64 hp64 = true := by kernel_rfl
end Go.Ev
