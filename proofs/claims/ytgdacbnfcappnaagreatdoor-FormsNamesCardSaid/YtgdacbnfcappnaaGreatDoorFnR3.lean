/- Calls, each by a closed run. No condition. -/
import Derived.Test.YtgdacbnfcappnaaGreatDoorFnH
import Derived.Test.YtgdacbnfcappnaaGreatDoorFnR2
set_option maxRecDepth 100000
set_option linter.all false
namespace Go.Ev
theorem cw24_run : segV (enter (run HX 1000000) 85 [.ptr (K.of 5707) 0, .slice (K.of 10507) 0 2 2 none] (withL hp20 10509)) (.agg [.int .i64 2, .int .i64 19]) hp21 10535 = true := by kernel_rfl
theorem cw24 : FactW 85 [.ptr (K.of 5707) 0, .slice (K.of 10507) 0 2 2 none] 10509 hp20 (.agg [.int .i64 2, .int .i64 19]) 10535 hp21 := factW_of_run HX_ok cw24_run
theorem cw24_li : liFine 10509 hp20 = true := by kernel_rfl
theorem cw24_lo : loFine 10509 10535 hp20 hp21 = true := by kernel_rfl
theorem cw25_run : segV (enter (run HX 1000000) 79 [.ptr (K.of 5707) 0, .agg [.int .i64 2, .int .i64 4], .int .i64 1] (withL hp22 10537)) (.bool false) hp22 10851 = true := by kernel_rfl
theorem cw25 : FactW 79 [.ptr (K.of 5707) 0, .agg [.int .i64 2, .int .i64 4], .int .i64 1] 10537 hp22 (.bool false) 10851 hp22 := factW_of_run HX_ok cw25_run
theorem cw25_li : liFine 10537 hp22 = true := by kernel_rfl
theorem cw25_lo : loFine 10537 10851 hp22 hp22 = true := by kernel_rfl
theorem cw26_run : segV (enter (run HX 1000000) 79 [.ptr (K.of 5707) 0, .agg [.int .i64 2, .int .i64 3], .int .i64 1] (withL hp22 10985)) (.bool false) hp22 11222 = true := by kernel_rfl
theorem cw26 : FactW 79 [.ptr (K.of 5707) 0, .agg [.int .i64 2, .int .i64 3], .int .i64 1] 10985 hp22 (.bool false) 11222 hp22 := factW_of_run HX_ok cw26_run
theorem cw26_li : liFine 10985 hp22 = true := by kernel_rfl
theorem cw26_lo : loFine 10985 11222 hp22 hp22 = true := by kernel_rfl
theorem cw27_run : segV (enter (run HX 1000000) 79 [.ptr (K.of 5707) 0, .agg [.int .i64 1, .int .i64 64], .int .i64 1] (withL hp22 11345)) (.bool true) hp22 11356 = true := by kernel_rfl
theorem cw27 : FactW 79 [.ptr (K.of 5707) 0, .agg [.int .i64 1, .int .i64 64], .int .i64 1] 11345 hp22 (.bool true) 11356 hp22 := factW_of_run HX_ok cw27_run
theorem cw27_li : liFine 11345 hp22 = true := by kernel_rfl
theorem cw27_lo : loFine 11345 11356 hp22 hp22 = true := by kernel_rfl
theorem cw28_run : segV (enter (run HX 1000000) 85 [.ptr (K.of 5707) 0, .slice (K.of 11358) 0 2 2 none] (withL hp23 11360)) (.agg [.int .i64 2, .int .i64 21]) hp24 11386 = true := by kernel_rfl
theorem cw28 : FactW 85 [.ptr (K.of 5707) 0, .slice (K.of 11358) 0 2 2 none] 11360 hp23 (.agg [.int .i64 2, .int .i64 21]) 11386 hp24 := factW_of_run HX_ok cw28_run
theorem cw28_li : liFine 11360 hp23 = true := by kernel_rfl
theorem cw28_lo : loFine 11360 11386 hp23 hp24 = true := by kernel_rfl
theorem cw29_run : segV (enter (run HX 1000000) 79 [.ptr (K.of 5707) 0, .agg [.int .i64 2, .int .i64 2], .int .i64 1] (withL hp25 11388)) (.bool false) hp25 11540 = true := by kernel_rfl
theorem cw29 : FactW 79 [.ptr (K.of 5707) 0, .agg [.int .i64 2, .int .i64 2], .int .i64 1] 11388 hp25 (.bool false) 11540 hp25 := factW_of_run HX_ok cw29_run
theorem cw29_li : liFine 11388 hp25 = true := by kernel_rfl
theorem cw29_lo : loFine 11388 11540 hp25 hp25 = true := by kernel_rfl
theorem cw30_run : segV (enter (run HX 1000000) 79 [.ptr (K.of 5707) 0, .agg [.int .i64 2, .int .i64 1], .int .i64 1] (withL hp25 11674)) (.bool false) hp25 11749 = true := by kernel_rfl
theorem cw30 : FactW 79 [.ptr (K.of 5707) 0, .agg [.int .i64 2, .int .i64 1], .int .i64 1] 11674 hp25 (.bool false) 11749 hp25 := factW_of_run HX_ok cw30_run
theorem cw30_li : liFine 11674 hp25 = true := by kernel_rfl
theorem cw30_lo : loFine 11674 11749 hp25 hp25 = true := by kernel_rfl
theorem cw31_run : segV (enter (run HX 1000000) 79 [.ptr (K.of 5707) 0, .agg [.int .i64 1, .int .i64 0], .int .i64 1] (withL hp25 11787)) (.bool true) hp25 11798 = true := by kernel_rfl
theorem cw31 : FactW 79 [.ptr (K.of 5707) 0, .agg [.int .i64 1, .int .i64 0], .int .i64 1] 11787 hp25 (.bool true) 11798 hp25 := factW_of_run HX_ok cw31_run
theorem cw31_li : liFine 11787 hp25 = true := by kernel_rfl
theorem cw31_lo : loFine 11787 11798 hp25 hp25 = true := by kernel_rfl
end Go.Ev
