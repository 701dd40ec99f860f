/- Calls, each by a closed run. No condition. -/
import Derived.Test.YtgdacbnfcappnaaGreatDoorFnH
import Derived.Test.YtgdacbnfcappnaaGreatDoorFnR8
set_option maxRecDepth 100000
set_option linter.all false
namespace Go.Ev
noncomputable def ws72 : List HW := [.mk 33 [.ptr (K.of 14358) 0, .str 20000 (repA 20000)] 15808 hp60 (.tuple [.agg [.int .i64 3, .int .i64 28], .int .i64 0]) 15813 hp61,
  .mk 33 [.ptr (K.of 14358) 0, .str 25505 (repA 25505)] 15814 hp61 (.tuple [.agg [.int .i64 3, .int .i64 29], .int .i64 0]) 15819 hp62,
  .mk 33 [.ptr (K.of 14358) 0, .str 25506 (repA 25506)] 15820 hp62 (.tuple [.agg [.int .i64 3, .int .i64 30], .int .i64 0]) 15825 hp63,
  .mk 9 [.ptr (K.of 14358) 0, .ptr (K.of 14360) 0, .agg [.int .i64 1, .int .i64 41, .int .i64 2, .int .i64 33]] 15894 hp64 (.tuple [.str 65536 (catN (catN (catN (catN (catN (catN 32717811813330735319171272422823951601643555472941090 20000 (repA 20000)) 4 573317154) 20000 (repA 20000)) 4 573317154) 25505 (repA 25505)) 1 34), .int .i64 0]) 16001 hp64,
  .mk 9 [.ptr (K.of 14358) 0, .ptr (K.of 14360) 0, .agg [.int .i64 1, .int .i64 41, .int .i64 2, .int .i64 36]] 16001 hp64 (.tuple [.str 0 0, .int .i64 4]) 16104 hp64]
theorem ws72_ok : HookOk (hooksF ws72) := hooksF_ok _ (rows_cons ⟨cw60, cw60_li, cw60_lo, by decide⟩ (rows_cons ⟨cw61, cw61_li, cw61_lo, by decide⟩ (rows_cons ⟨cw62, cw62_li, cw62_lo, by decide⟩ (rows_cons ⟨cw67, cw67_li, cw67_lo, by decide⟩ (rows_cons ⟨cw71, cw71_li, cw71_lo, by decide⟩ rows_nil)))))
theorem cw72_run : segV (enter (run (orH (hooksF ws72) HX) 1000000) 10 [.ptr (K.of 14358) 0, .ptr (K.of 14360) 0, .agg [.int .i64 1, .int .i64 41]] (withL hp58 15807)) (.bool true) hp64 16104 = true := by kernel_rfl
theorem cw72 : FactW 10 [.ptr (K.of 14358) 0, .ptr (K.of 14360) 0, .agg [.int .i64 1, .int .i64 41]] 15807 hp58 (.bool true) 16104 hp64 := factW_of_run (orH_ok ws72_ok HX_ok) cw72_run
theorem cw72_li : liFine 15807 hp58 = true := by kernel_rfl
theorem cw72_lo : loFine 15807 16104 hp58 hp64 = true := by kernel_rfl
end Go.Ev
