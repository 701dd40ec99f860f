/- Calls, each by a closed run. No condition. -/
import Derived.Test.YtgdacbnfcappnaaGreatDoorFnH
import Derived.Test.YtgdacbnfcappnaaGreatDoorFnR3
set_option maxRecDepth 100000
set_option linter.all false
namespace Go.Ev
theorem cw32_run : segV (enter (run HX 1000000) 85 [.ptr (K.of 5707) 0, .slice (K.of 11801) 0 3 3 none] (withL hp26 11806)) (.agg [.int .i64 2, .int .i64 24]) hp27 11840 = true := by kernel_rfl
theorem cw32 : FactW 85 [.ptr (K.of 5707) 0, .slice (K.of 11801) 0 3 3 none] 11806 hp26 (.agg [.int .i64 2, .int .i64 24]) 11840 hp27 := factW_of_run HX_ok cw32_run
theorem cw32_li : liFine 11806 hp26 = true := by kernel_rfl
theorem cw32_lo : loFine 11806 11840 hp26 hp27 = true := by kernel_rfl
theorem cw33_run : segV (enter (run HX 1000000) 85 [.ptr (K.of 5707) 0, .slice (K.of 11841) 0 3 3 none] (withL hp28 11844)) (.agg [.int .i64 2, .int .i64 27]) hp29 11878 = true := by kernel_rfl
theorem cw33 : FactW 85 [.ptr (K.of 5707) 0, .slice (K.of 11841) 0 3 3 none] 11844 hp28 (.agg [.int .i64 2, .int .i64 27]) 11878 hp29 := factW_of_run HX_ok cw33_run
theorem cw33_li : liFine 11844 hp28 = true := by kernel_rfl
theorem cw33_lo : loFine 11844 11878 hp28 hp29 = true := by kernel_rfl
theorem cw34_run : segV (enter (run HX 1000000) 79 [.ptr (K.of 5707) 0, .agg [.int .i64 1, .int .i64 0], .int .i64 1] (withL hp30 11880)) (.bool true) hp30 11891 = true := by kernel_rfl
theorem cw34 : FactW 79 [.ptr (K.of 5707) 0, .agg [.int .i64 1, .int .i64 0], .int .i64 1] 11880 hp30 (.bool true) 11891 hp30 := factW_of_run HX_ok cw34_run
theorem cw34_li : liFine 11880 hp30 = true := by kernel_rfl
theorem cw34_lo : loFine 11880 11891 hp30 hp30 = true := by kernel_rfl
theorem cw35_run : segV (enter (run HX 1000000) 85 [.ptr (K.of 5707) 0, .slice (K.of 11894) 0 3 3 none] (withL hp31 11897)) (.agg [.int .i64 2, .int .i64 30]) hp32 11931 = true := by kernel_rfl
theorem cw35 : FactW 85 [.ptr (K.of 5707) 0, .slice (K.of 11894) 0 3 3 none] 11897 hp31 (.agg [.int .i64 2, .int .i64 30]) 11931 hp32 := factW_of_run HX_ok cw35_run
theorem cw35_li : liFine 11897 hp31 = true := by kernel_rfl
theorem cw35_lo : loFine 11897 11931 hp31 hp32 = true := by kernel_rfl
theorem cw36_run : segV (enter (run HX 1000000) 85 [.ptr (K.of 5707) 0, .slice (K.of 11932) 0 3 3 none] (withL hp33 11935)) (.agg [.int .i64 2, .int .i64 33]) hp34 11969 = true := by kernel_rfl
theorem cw36 : FactW 85 [.ptr (K.of 5707) 0, .slice (K.of 11932) 0 3 3 none] 11935 hp33 (.agg [.int .i64 2, .int .i64 33]) 11969 hp34 := factW_of_run HX_ok cw36_run
theorem cw36_li : liFine 11935 hp33 = true := by kernel_rfl
theorem cw36_lo : loFine 11935 11969 hp33 hp34 = true := by kernel_rfl
theorem cw37_run : segV (enter (run HX 1000000) 79 [.ptr (K.of 5707) 0, .agg [.int .i64 1, .int .i64 0], .int .i64 2] (withL hp35 11971)) (.bool true) hp35 11982 = true := by kernel_rfl
theorem cw37 : FactW 79 [.ptr (K.of 5707) 0, .agg [.int .i64 1, .int .i64 0], .int .i64 2] 11971 hp35 (.bool true) 11982 hp35 := factW_of_run HX_ok cw37_run
theorem cw37_li : liFine 11971 hp35 = true := by kernel_rfl
theorem cw37_lo : loFine 11971 11982 hp35 hp35 = true := by kernel_rfl
theorem cw38_run : segV (enter (run HX 1000000) 85 [.ptr (K.of 5707) 0, .slice (K.of 11985) 0 3 3 none] (withL hp36 11988)) (.agg [.int .i64 2, .int .i64 36]) hp37 12022 = true := by kernel_rfl
theorem cw38 : FactW 85 [.ptr (K.of 5707) 0, .slice (K.of 11985) 0 3 3 none] 11988 hp36 (.agg [.int .i64 2, .int .i64 36]) 12022 hp37 := factW_of_run HX_ok cw38_run
theorem cw38_li : liFine 11988 hp36 = true := by kernel_rfl
theorem cw38_lo : loFine 11988 12022 hp36 hp37 = true := by kernel_rfl
theorem cw39_run : segV (enter (run HX 1000000) 85 [.ptr (K.of 5707) 0, .slice (K.of 12023) 0 3 3 none] (withL hp38 12026)) (.agg [.int .i64 2, .int .i64 39]) hp39 12060 = true := by kernel_rfl
theorem cw39 : FactW 85 [.ptr (K.of 5707) 0, .slice (K.of 12023) 0 3 3 none] 12026 hp38 (.agg [.int .i64 2, .int .i64 39]) 12060 hp39 := factW_of_run HX_ok cw39_run
theorem cw39_li : liFine 12026 hp38 = true := by kernel_rfl
theorem cw39_lo : loFine 12026 12060 hp38 hp39 = true := by kernel_rfl
end Go.Ev
