/- Calls, each by a closed run. No condition. -/
import Derived.Test.YtgdacbnfcappnaaGreatDoorFnH
import Derived.Test.YtgdacbnfcappnaaGreatDoorFnR0
set_option maxRecDepth 100000
set_option linter.all false
namespace Go.Ev
theorem cw8_run : segV (enter (run HX 1000000) 23 [.ptr (K.of 3432) 0, .ptr (K.of 3434) 0, .agg [.int .i64 4, .int .i64 2]] (withL hp6 3657)) (.tuple [.agg [.int .i64 2, .int .i64 17], .int .i64 0]) hp7 4863 = true := by kernel_rfl
theorem cw8 : FactW 23 [.ptr (K.of 3432) 0, .ptr (K.of 3434) 0, .agg [.int .i64 4, .int .i64 2]] 3657 hp6 (.tuple [.agg [.int .i64 2, .int .i64 17], .int .i64 0]) 4863 hp7 := factW_of_run HX_ok cw8_run
theorem cw8_li : liFine 3657 hp6 = true := by kernel_rfl
theorem cw8_lo : loFine 3657 4863 hp6 hp7 = true := by kernel_rfl
theorem cw9_run : segV (enter (run HX 1000000) 24 [.ptr (K.of 3432) 0, .ptr (K.of 3434) 0, .agg [.int .i64 2, .int .i64 17], .bool true] (withL hp7 4864)) (.tuple [.str 38 5141048726816979220138960925040657568383225773628914537056976136836338744062144233964382505, .int .i64 0]) hp7 5292 = true := by kernel_rfl
theorem cw9 : FactW 24 [.ptr (K.of 3432) 0, .ptr (K.of 3434) 0, .agg [.int .i64 2, .int .i64 17], .bool true] 4864 hp7 (.tuple [.str 38 5141048726816979220138960925040657568383225773628914537056976136836338744062144233964382505, .int .i64 0]) 5292 hp7 := factW_of_run HX_ok cw9_run
theorem cw9_li : liFine 4864 hp7 = true := by kernel_rfl
theorem cw9_lo : loFine 4864 5292 hp7 hp7 = true := by kernel_rfl
theorem cw10_run : segV (enter (run HX 1000000) 5 [.str 16 53792852109957564801733960298004031785] (withL hp0 5292)) (.tuple [.ptr (K.of 5293) 0, .ptr (K.of 5295) 0, .agg [.int .i64 2, .int .i64 11]]) hp8 5703 = true := by kernel_rfl
theorem cw10 : FactW 5 [.str 16 53792852109957564801733960298004031785] 5292 hp0 (.tuple [.ptr (K.of 5293) 0, .ptr (K.of 5295) 0, .agg [.int .i64 2, .int .i64 11]]) 5703 hp8 := factW_of_run HX_ok cw10_run
theorem cw10_li : liFine 5292 hp0 = true := by kernel_rfl
theorem cw10_lo : loFine 5292 5703 hp0 hp8 = true := by kernel_rfl
theorem cw11_run : segV (enter (run HX 1000000) 49 [.ptr (K.of 5707) 0, .agg [.int .i64 2, .int .i64 11], .int .i64 0] (withL hp9 5708)) (.tuple []) hp10 6005 = true := by kernel_rfl
theorem cw11 : FactW 49 [.ptr (K.of 5707) 0, .agg [.int .i64 2, .int .i64 11], .int .i64 0] 5708 hp9 (.tuple []) 6005 hp10 := factW_of_run HX_ok cw11_run
theorem cw11_li : liFine 5708 hp9 = true := by kernel_rfl
theorem cw11_lo : loFine 5708 6005 hp9 hp10 = true := by kernel_rfl
theorem cw12_run : segV (enter (run HX 1000000) 79 [.ptr (K.of 5707) 0, .agg [.int .i64 2, .int .i64 11], .int .i64 1] (withL hp10 6007)) (.bool false) hp10 6724 = true := by kernel_rfl
theorem cw12 : FactW 79 [.ptr (K.of 5707) 0, .agg [.int .i64 2, .int .i64 11], .int .i64 1] 6007 hp10 (.bool false) 6724 hp10 := factW_of_run HX_ok cw12_run
theorem cw12_li : liFine 6007 hp10 = true := by kernel_rfl
theorem cw12_lo : loFine 6007 6724 hp10 hp10 = true := by kernel_rfl
theorem cw13_run : segV (enter (run HX 1000000) 79 [.ptr (K.of 5707) 0, .agg [.int .i64 1, .int .i64 62], .int .i64 1] (withL hp10 6847)) (.bool true) hp10 6858 = true := by kernel_rfl
theorem cw13 : FactW 79 [.ptr (K.of 5707) 0, .agg [.int .i64 1, .int .i64 62], .int .i64 1] 6847 hp10 (.bool true) 6858 hp10 := factW_of_run HX_ok cw13_run
theorem cw13_li : liFine 6847 hp10 = true := by kernel_rfl
theorem cw13_lo : loFine 6847 6858 hp10 hp10 = true := by kernel_rfl
theorem cw14_run : segV (enter (run HX 1000000) 85 [.ptr (K.of 5707) 0, .slice (K.of 6860) 0 2 2 none] (withL hp11 6862)) (.agg [.int .i64 2, .int .i64 13]) hp12 6888 = true := by kernel_rfl
theorem cw14 : FactW 85 [.ptr (K.of 5707) 0, .slice (K.of 6860) 0 2 2 none] 6862 hp11 (.agg [.int .i64 2, .int .i64 13]) 6888 hp12 := factW_of_run HX_ok cw14_run
theorem cw14_li : liFine 6862 hp11 = true := by kernel_rfl
theorem cw14_lo : loFine 6862 6888 hp11 hp12 = true := by kernel_rfl
theorem cw15_run : segV (enter (run HX 1000000) 79 [.ptr (K.of 5707) 0, .agg [.int .i64 2, .int .i64 10], .int .i64 1] (withL hp13 6890)) (.bool false) hp13 7522 = true := by kernel_rfl
theorem cw15 : FactW 79 [.ptr (K.of 5707) 0, .agg [.int .i64 2, .int .i64 10], .int .i64 1] 6890 hp13 (.bool false) 7522 hp13 := factW_of_run HX_ok cw15_run
theorem cw15_li : liFine 6890 hp13 = true := by kernel_rfl
theorem cw15_lo : loFine 6890 7522 hp13 hp13 = true := by kernel_rfl
end Go.Ev
