/- Calls, each by a closed run. No condition. -/
import Derived.Test.YtgdacbnfcappnaaGreatDoorFnH
import Derived.Test.YtgdacbnfcappnaaGreatDoorFnR7
set_option maxRecDepth 100000
set_option linter.all false
namespace Go.Ev
theorem cw64_run : segV (enter (run HX 1000000) 24 [.ptr (K.of 14358) 0, .ptr (K.of 14360) 0, .agg [.int .i64 3, .int .i64 28], .bool true] (withL hp64 15972)) (.tuple [.str 20002 (catN (catN 34 20000 (repA 20000)) 1 34), .int .i64 0]) hp64 15983 = true := by kernel_rfl
theorem cw64 : FactW 24 [.ptr (K.of 14358) 0, .ptr (K.of 14360) 0, .agg [.int .i64 3, .int .i64 28], .bool true] 15972 hp64 (.tuple [.str 20002 (catN (catN 34 20000 (repA 20000)) 1 34), .int .i64 0]) 15983 hp64 := factW_of_run HX_ok cw64_run
theorem cw64_li : liFine 15972 hp64 = true := by kernel_rfl
theorem cw64_lo : loFine 15972 15983 hp64 hp64 = true := by kernel_rfl
theorem cw65_run : segV (enter (run HX 1000000) 24 [.ptr (K.of 14358) 0, .ptr (K.of 14360) 0, .agg [.int .i64 3, .int .i64 29], .bool true] (withL hp64 15986)) (.tuple [.str 25507 (catN (catN 34 25505 (repA 25505)) 1 34), .int .i64 0]) hp64 15997 = true := by kernel_rfl
theorem cw65 : FactW 24 [.ptr (K.of 14358) 0, .ptr (K.of 14360) 0, .agg [.int .i64 3, .int .i64 29], .bool true] 15986 hp64 (.tuple [.str 25507 (catN (catN 34 25505 (repA 25505)) 1 34), .int .i64 0]) 15997 hp64 := factW_of_run HX_ok cw65_run
theorem cw65_li : liFine 15986 hp64 = true := by kernel_rfl
theorem cw65_lo : loFine 15986 15997 hp64 hp64 = true := by kernel_rfl
theorem cw66_run : segV (enter (run HX 1000000) 32 [.slice (K.of 15998) 0 3 3 (some 1), .str 2 11296] (withL hp65 15999)) (.str 65515 (catN (catN (catN (catN (catN (catN 34 20000 (repA 20000)) 4 573317154) 20000 (repA 20000)) 4 573317154) 25505 (repA 25505)) 1 34)) hp65 16001 = true := by kernel_rfl
theorem cw66 : FactW 32 [.slice (K.of 15998) 0 3 3 (some 1), .str 2 11296] 15999 hp65 (.str 65515 (catN (catN (catN (catN (catN (catN 34 20000 (repA 20000)) 4 573317154) 20000 (repA 20000)) 4 573317154) 25505 (repA 25505)) 1 34)) 16001 hp65 := factW_of_run HX_ok cw66_run
theorem cw66_li : liFine 15999 hp65 = true := by kernel_rfl
theorem cw66_lo : loFine 15999 16001 hp65 hp65 = true := by kernel_rfl
noncomputable def ws67 : List HW := [.mk 24 [.ptr (K.of 14358) 0, .ptr (K.of 14360) 0, .agg [.int .i64 3, .int .i64 28], .bool true] 15958 hp64 (.tuple [.str 20002 (catN (catN 34 20000 (repA 20000)) 1 34), .int .i64 0]) 15969 hp64,
  .mk 24 [.ptr (K.of 14358) 0, .ptr (K.of 14360) 0, .agg [.int .i64 3, .int .i64 28], .bool true] 15972 hp64 (.tuple [.str 20002 (catN (catN 34 20000 (repA 20000)) 1 34), .int .i64 0]) 15983 hp64,
  .mk 24 [.ptr (K.of 14358) 0, .ptr (K.of 14360) 0, .agg [.int .i64 3, .int .i64 29], .bool true] 15986 hp64 (.tuple [.str 25507 (catN (catN 34 25505 (repA 25505)) 1 34), .int .i64 0]) 15997 hp64,
  .mk 32 [.slice (K.of 15998) 0 3 3 (some 1), .str 2 11296] 15999 hp65 (.str 65515 (catN (catN (catN (catN (catN (catN 34 20000 (repA 20000)) 4 573317154) 20000 (repA 20000)) 4 573317154) 25505 (repA 25505)) 1 34)) 16001 hp65]
theorem ws67_ok : HookOk (hooksF ws67) := hooksF_ok _ (rows_cons ⟨cw63, cw63_li, cw63_lo, by decide⟩ (rows_cons ⟨cw64, cw64_li, cw64_lo, by decide⟩ (rows_cons ⟨cw65, cw65_li, cw65_lo, by decide⟩ (rows_cons ⟨cw66, cw66_li, cw66_lo, by decide⟩ rows_nil))))
theorem cw67_run : segV (enter (run (orH (hooksF ws67) HX) 1000000) 9 [.ptr (K.of 14358) 0, .ptr (K.of 14360) 0, .agg [.int .i64 1, .int .i64 41, .int .i64 2, .int .i64 33]] (withL hp64 15894)) (.tuple [.str 65536 (catN (catN (catN (catN (catN (catN 32717811813330735319171272422823951601643555472941090 20000 (repA 20000)) 4 573317154) 20000 (repA 20000)) 4 573317154) 25505 (repA 25505)) 1 34), .int .i64 0]) hp64 16001 = true := by kernel_rfl
theorem cw67 : FactW 9 [.ptr (K.of 14358) 0, .ptr (K.of 14360) 0, .agg [.int .i64 1, .int .i64 41, .int .i64 2, .int .i64 33]] 15894 hp64 (.tuple [.str 65536 (catN (catN (catN (catN (catN (catN 32717811813330735319171272422823951601643555472941090 20000 (repA 20000)) 4 573317154) 20000 (repA 20000)) 4 573317154) 25505 (repA 25505)) 1 34), .int .i64 0]) 16001 hp64 := factW_of_run (orH_ok ws67_ok HX_ok) cw67_run
theorem cw67_li : liFine 15894 hp64 = true := by kernel_rfl
theorem cw67_lo : loFine 15894 16001 hp64 hp64 = true := by kernel_rfl
theorem cw68_run : segV (enter (run HX 1000000) 24 [.ptr (K.of 14358) 0, .ptr (K.of 14360) 0, .agg [.int .i64 3, .int .i64 28], .bool true] (withL hp64 16065)) (.tuple [.str 20002 (catN (catN 34 20000 (repA 20000)) 1 34), .int .i64 0]) hp64 16076 = true := by kernel_rfl
theorem cw68 : FactW 24 [.ptr (K.of 14358) 0, .ptr (K.of 14360) 0, .agg [.int .i64 3, .int .i64 28], .bool true] 16065 hp64 (.tuple [.str 20002 (catN (catN 34 20000 (repA 20000)) 1 34), .int .i64 0]) 16076 hp64 := factW_of_run HX_ok cw68_run
theorem cw68_li : liFine 16065 hp64 = true := by kernel_rfl
theorem cw68_lo : loFine 16065 16076 hp64 hp64 = true := by kernel_rfl
theorem cw69_run : segV (enter (run HX 1000000) 24 [.ptr (K.of 14358) 0, .ptr (K.of 14360) 0, .agg [.int .i64 3, .int .i64 28], .bool true] (withL hp64 16079)) (.tuple [.str 20002 (catN (catN 34 20000 (repA 20000)) 1 34), .int .i64 0]) hp64 16090 = true := by kernel_rfl
theorem cw69 : FactW 24 [.ptr (K.of 14358) 0, .ptr (K.of 14360) 0, .agg [.int .i64 3, .int .i64 28], .bool true] 16079 hp64 (.tuple [.str 20002 (catN (catN 34 20000 (repA 20000)) 1 34), .int .i64 0]) 16090 hp64 := factW_of_run HX_ok cw69_run
theorem cw69_li : liFine 16079 hp64 = true := by kernel_rfl
theorem cw69_lo : loFine 16079 16090 hp64 hp64 = true := by kernel_rfl
theorem cw70_run : segV (enter (run HX 1000000) 24 [.ptr (K.of 14358) 0, .ptr (K.of 14360) 0, .agg [.int .i64 3, .int .i64 30], .bool true] (withL hp64 16093)) (.tuple [.str 25508 (catN (catN 34 25506 (repA 25506)) 1 34), .int .i64 0]) hp64 16104 = true := by kernel_rfl
theorem cw70 : FactW 24 [.ptr (K.of 14358) 0, .ptr (K.of 14360) 0, .agg [.int .i64 3, .int .i64 30], .bool true] 16093 hp64 (.tuple [.str 25508 (catN (catN 34 25506 (repA 25506)) 1 34), .int .i64 0]) 16104 hp64 := factW_of_run HX_ok cw70_run
theorem cw70_li : liFine 16093 hp64 = true := by kernel_rfl
theorem cw70_lo : loFine 16093 16104 hp64 hp64 = true := by kernel_rfl
noncomputable def ws71 : List HW := [.mk 24 [.ptr (K.of 14358) 0, .ptr (K.of 14360) 0, .agg [.int .i64 3, .int .i64 28], .bool true] 16065 hp64 (.tuple [.str 20002 (catN (catN 34 20000 (repA 20000)) 1 34), .int .i64 0]) 16076 hp64,
  .mk 24 [.ptr (K.of 14358) 0, .ptr (K.of 14360) 0, .agg [.int .i64 3, .int .i64 28], .bool true] 16079 hp64 (.tuple [.str 20002 (catN (catN 34 20000 (repA 20000)) 1 34), .int .i64 0]) 16090 hp64,
  .mk 24 [.ptr (K.of 14358) 0, .ptr (K.of 14360) 0, .agg [.int .i64 3, .int .i64 30], .bool true] 16093 hp64 (.tuple [.str 25508 (catN (catN 34 25506 (repA 25506)) 1 34), .int .i64 0]) 16104 hp64]
theorem ws71_ok : HookOk (hooksF ws71) := hooksF_ok _ (rows_cons ⟨cw68, cw68_li, cw68_lo, by decide⟩ (rows_cons ⟨cw69, cw69_li, cw69_lo, by decide⟩ (rows_cons ⟨cw70, cw70_li, cw70_lo, by decide⟩ rows_nil)))
theorem cw71_run : segV (enter (run (orH (hooksF ws71) HX) 1000000) 9 [.ptr (K.of 14358) 0, .ptr (K.of 14360) 0, .agg [.int .i64 1, .int .i64 41, .int .i64 2, .int .i64 36]] (withL hp64 16001)) (.tuple [.str 0 0, .int .i64 4]) hp64 16104 = true := by kernel_rfl
theorem cw71 : FactW 9 [.ptr (K.of 14358) 0, .ptr (K.of 14360) 0, .agg [.int .i64 1, .int .i64 41, .int .i64 2, .int .i64 36]] 16001 hp64 (.tuple [.str 0 0, .int .i64 4]) 16104 hp64 := factW_of_run (orH_ok ws71_ok HX_ok) cw71_run
theorem cw71_li : liFine 16001 hp64 = true := by kernel_rfl
theorem cw71_lo : loFine 16001 16104 hp64 hp64 = true := by kernel_rfl
end Go.Ev
