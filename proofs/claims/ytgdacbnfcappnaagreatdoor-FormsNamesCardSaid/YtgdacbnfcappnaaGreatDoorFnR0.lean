/- Calls, each by a closed run. No condition. -/
import Derived.Test.YtgdacbnfcappnaaGreatDoorFnH
set_option maxRecDepth 100000
set_option linter.all false
namespace Go.Ev
theorem cw0_run : segV (enter (run HX 1000000) 5 [.str 10 190686311825734144910121] (withL hp0 256)) (.tuple [.ptr (K.of 257) 0, .ptr (K.of 259) 0, .agg [.int .i64 2, .int .i64 6]]) hp1 560 = true := by kernel_rfl
theorem cw0 : FactW 5 [.str 10 190686311825734144910121] 256 hp0 (.tuple [.ptr (K.of 257) 0, .ptr (K.of 259) 0, .agg [.int .i64 2, .int .i64 6]]) 560 hp1 := factW_of_run HX_ok cw0_run
theorem cw0_li : liFine 256 hp0 = true := by kernel_rfl
theorem cw0_lo : loFine 256 560 hp0 hp1 = true := by kernel_rfl
theorem cw1_run : segV (enter (run HX 1000000) 23 [.ptr (K.of 257) 0, .ptr (K.of 259) 0, .agg [.int .i64 2, .int .i64 6]] (withL hp1 561)) (.tuple [.agg [.int .i64 2, .int .i64 17], .int .i64 0]) hp2 1999 = true := by kernel_rfl
theorem cw1 : FactW 23 [.ptr (K.of 257) 0, .ptr (K.of 259) 0, .agg [.int .i64 2, .int .i64 6]] 561 hp1 (.tuple [.agg [.int .i64 2, .int .i64 17], .int .i64 0]) 1999 hp2 := factW_of_run HX_ok cw1_run
theorem cw1_li : liFine 561 hp1 = true := by kernel_rfl
theorem cw1_lo : loFine 561 1999 hp1 hp2 = true := by kernel_rfl
theorem cw2_run : segV (enter (run HX 1000000) 24 [.ptr (K.of 257) 0, .ptr (K.of 259) 0, .agg [.int .i64 2, .int .i64 17], .bool true] (withL hp2 2000)) (.tuple [.str 33 4676659423822459796814398013980220029448155798628179251322076716802543748458793, .int .i64 0]) hp2 2380 = true := by kernel_rfl
theorem cw2 : FactW 24 [.ptr (K.of 257) 0, .ptr (K.of 259) 0, .agg [.int .i64 2, .int .i64 17], .bool true] 2000 hp2 (.tuple [.str 33 4676659423822459796814398013980220029448155798628179251322076716802543748458793, .int .i64 0]) 2380 hp2 := factW_of_run HX_ok cw2_run
theorem cw2_li : liFine 2000 hp2 = true := by kernel_rfl
theorem cw2_lo : loFine 2000 2380 hp2 hp2 = true := by kernel_rfl
theorem cw3_run : segV (enter (run HX 1000000) 5 [.str 23 3867577848302145913323328345977774493802010113338270505] (withL hp0 2380)) (.tuple [.ptr (K.of 2381) 0, .ptr (K.of 2383) 0, .agg [.int .i64 2, .int .i64 4]]) hp3 2724 = true := by kernel_rfl
theorem cw3 : FactW 5 [.str 23 3867577848302145913323328345977774493802010113338270505] 2380 hp0 (.tuple [.ptr (K.of 2381) 0, .ptr (K.of 2383) 0, .agg [.int .i64 2, .int .i64 4]]) 2724 hp3 := factW_of_run HX_ok cw3_run
theorem cw3_li : liFine 2380 hp0 = true := by kernel_rfl
theorem cw3_lo : loFine 2380 2724 hp0 hp3 = true := by kernel_rfl
theorem cw4_run : segV (enter (run HX 1000000) 5 [.str 5 172622885417] (withL hp0 2844)) (.tuple [.ptr (K.of 2845) 0, .ptr (K.of 2847) 0, .agg [.int .i64 2, .int .i64 1]]) hp4 3039 = true := by kernel_rfl
theorem cw4 : FactW 5 [.str 5 172622885417] 2844 hp0 (.tuple [.ptr (K.of 2845) 0, .ptr (K.of 2847) 0, .agg [.int .i64 2, .int .i64 1]]) 3039 hp4 := factW_of_run HX_ok cw4_run
theorem cw4_li : liFine 2844 hp0 = true := by kernel_rfl
theorem cw4_lo : loFine 2844 3039 hp0 hp4 = true := by kernel_rfl
theorem cw5_run : segV (enter (run HX 1000000) 23 [.ptr (K.of 2845) 0, .ptr (K.of 2847) 0, .agg [.int .i64 2, .int .i64 1]] (withL hp4 3040)) (.tuple [.agg [.int .i64 2, .int .i64 3], .int .i64 0]) hp5 3314 = true := by kernel_rfl
theorem cw5 : FactW 23 [.ptr (K.of 2845) 0, .ptr (K.of 2847) 0, .agg [.int .i64 2, .int .i64 1]] 3040 hp4 (.tuple [.agg [.int .i64 2, .int .i64 3], .int .i64 0]) 3314 hp5 := factW_of_run HX_ok cw5_run
theorem cw5_li : liFine 3040 hp4 = true := by kernel_rfl
theorem cw5_lo : loFine 3040 3314 hp4 hp5 = true := by kernel_rfl
theorem cw6_run : segV (enter (run HX 1000000) 24 [.ptr (K.of 2845) 0, .ptr (K.of 2847) 0, .agg [.int .i64 2, .int .i64 3], .bool true] (withL hp5 3315)) (.tuple [.str 6 43053576368681, .int .i64 0]) hp5 3431 = true := by kernel_rfl
theorem cw6 : FactW 24 [.ptr (K.of 2845) 0, .ptr (K.of 2847) 0, .agg [.int .i64 2, .int .i64 3], .bool true] 3315 hp5 (.tuple [.str 6 43053576368681, .int .i64 0]) 3431 hp5 := factW_of_run HX_ok cw6_run
theorem cw6_li : liFine 3315 hp5 = true := by kernel_rfl
theorem cw6_lo : loFine 3315 3431 hp5 hp5 = true := by kernel_rfl
theorem cw7_run : segV (enter (run HX 1000000) 5 [.str 6 100472709735005] (withL hp0 3431)) (.tuple [.ptr (K.of 3432) 0, .ptr (K.of 3434) 0, .agg [.int .i64 4, .int .i64 2]]) hp6 3656 = true := by kernel_rfl
theorem cw7 : FactW 5 [.str 6 100472709735005] 3431 hp0 (.tuple [.ptr (K.of 3432) 0, .ptr (K.of 3434) 0, .agg [.int .i64 4, .int .i64 2]]) 3656 hp6 := factW_of_run HX_ok cw7_run
theorem cw7_li : liFine 3431 hp0 = true := by kernel_rfl
theorem cw7_lo : loFine 3431 3656 hp0 hp6 = true := by kernel_rfl
end Go.Ev
