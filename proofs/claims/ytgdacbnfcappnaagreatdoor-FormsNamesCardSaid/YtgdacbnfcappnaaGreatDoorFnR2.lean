/- Calls, each by a closed run. No condition. -/
import Derived.Test.YtgdacbnfcappnaaGreatDoorFnH
import Derived.Test.YtgdacbnfcappnaaGreatDoorFnR1
set_option maxRecDepth 100000
set_option linter.all false
namespace Go.Ev
theorem cw16_run : segV (enter (run HX 1000000) 79 [.ptr (K.of 5707) 0, .agg [.int .i64 2, .int .i64 9], .int .i64 1] (withL hp13 7656)) (.bool false) hp13 8211 = true := by kernel_rfl
theorem cw16 : FactW 79 [.ptr (K.of 5707) 0, .agg [.int .i64 2, .int .i64 9], .int .i64 1] 7656 hp13 (.bool false) 8211 hp13 := factW_of_run HX_ok cw16_run
theorem cw16_li : liFine 7656 hp13 = true := by kernel_rfl
theorem cw16_lo : loFine 7656 8211 hp13 hp13 = true := by kernel_rfl
theorem cw17_run : segV (enter (run HX 1000000) 85 [.ptr (K.of 5707) 0, .slice (K.of 8304) 0 2 2 none] (withL hp14 8306)) (.agg [.int .i64 2, .int .i64 15]) hp15 8332 = true := by kernel_rfl
theorem cw17 : FactW 85 [.ptr (K.of 5707) 0, .slice (K.of 8304) 0 2 2 none] 8306 hp14 (.agg [.int .i64 2, .int .i64 15]) 8332 hp15 := factW_of_run HX_ok cw17_run
theorem cw17_li : liFine 8306 hp14 = true := by kernel_rfl
theorem cw17_lo : loFine 8306 8332 hp14 hp15 = true := by kernel_rfl
theorem cw18_run : segV (enter (run HX 1000000) 79 [.ptr (K.of 5707) 0, .agg [.int .i64 2, .int .i64 8], .int .i64 2] (withL hp16 8334)) (.bool false) hp16 8898 = true := by kernel_rfl
theorem cw18 : FactW 79 [.ptr (K.of 5707) 0, .agg [.int .i64 2, .int .i64 8], .int .i64 2] 8334 hp16 (.bool false) 8898 hp16 := factW_of_run HX_ok cw18_run
theorem cw18_li : liFine 8334 hp16 = true := by kernel_rfl
theorem cw18_lo : loFine 8334 8898 hp16 hp16 = true := by kernel_rfl
theorem cw19_run : segV (enter (run HX 1000000) 79 [.ptr (K.of 5707) 0, .agg [.int .i64 2, .int .i64 7], .int .i64 2] (withL hp16 8994)) (.bool false) hp16 9481 = true := by kernel_rfl
theorem cw19 : FactW 79 [.ptr (K.of 5707) 0, .agg [.int .i64 2, .int .i64 7], .int .i64 2] 8994 hp16 (.bool false) 9481 hp16 := factW_of_run HX_ok cw19_run
theorem cw19_li : liFine 8994 hp16 = true := by kernel_rfl
theorem cw19_lo : loFine 8994 9481 hp16 hp16 = true := by kernel_rfl
theorem cw20_run : segV (enter (run HX 1000000) 79 [.ptr (K.of 5707) 0, .agg [.int .i64 1, .int .i64 63], .int .i64 2] (withL hp16 9566)) (.bool true) hp16 9577 = true := by kernel_rfl
theorem cw20 : FactW 79 [.ptr (K.of 5707) 0, .agg [.int .i64 1, .int .i64 63], .int .i64 2] 9566 hp16 (.bool true) 9577 hp16 := factW_of_run HX_ok cw20_run
theorem cw20_li : liFine 9566 hp16 = true := by kernel_rfl
theorem cw20_lo : loFine 9566 9577 hp16 hp16 = true := by kernel_rfl
theorem cw21_run : segV (enter (run HX 1000000) 85 [.ptr (K.of 5707) 0, .slice (K.of 9579) 0 2 2 none] (withL hp17 9581)) (.agg [.int .i64 2, .int .i64 17]) hp18 9607 = true := by kernel_rfl
theorem cw21 : FactW 85 [.ptr (K.of 5707) 0, .slice (K.of 9579) 0 2 2 none] 9581 hp17 (.agg [.int .i64 2, .int .i64 17]) 9607 hp18 := factW_of_run HX_ok cw21_run
theorem cw21_li : liFine 9581 hp17 = true := by kernel_rfl
theorem cw21_lo : loFine 9581 9607 hp17 hp18 = true := by kernel_rfl
theorem cw22_run : segV (enter (run HX 1000000) 79 [.ptr (K.of 5707) 0, .agg [.int .i64 2, .int .i64 6], .int .i64 2] (withL hp19 9609)) (.bool false) hp19 10011 = true := by kernel_rfl
theorem cw22 : FactW 79 [.ptr (K.of 5707) 0, .agg [.int .i64 2, .int .i64 6], .int .i64 2] 9609 hp19 (.bool false) 10011 hp19 := factW_of_run HX_ok cw22_run
theorem cw22_li : liFine 9609 hp19 = true := by kernel_rfl
theorem cw22_lo : loFine 9609 10011 hp19 hp19 = true := by kernel_rfl
theorem cw23_run : segV (enter (run HX 1000000) 79 [.ptr (K.of 5707) 0, .agg [.int .i64 2, .int .i64 5], .int .i64 2] (withL hp19 10107)) (.bool false) hp19 10432 = true := by kernel_rfl
theorem cw23 : FactW 79 [.ptr (K.of 5707) 0, .agg [.int .i64 2, .int .i64 5], .int .i64 2] 10107 hp19 (.bool false) 10432 hp19 := factW_of_run HX_ok cw23_run
theorem cw23_li : liFine 10107 hp19 = true := by kernel_rfl
theorem cw23_lo : loFine 10107 10432 hp19 hp19 = true := by kernel_rfl
end Go.Ev
