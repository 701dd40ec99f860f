/- Calls, each by a closed run. No condition. -/
import Derived.Test.YtgdacbnfcappnaaGreatDoorFnH
import Derived.Test.YtgdacbnfcappnaaGreatDoorFnR5
set_option maxRecDepth 100000
set_option linter.all false
namespace Go.Ev
theorem cw48_run : segV (enter (run HX 1000000) 5 [.str 9 744868407485032063529] (withL hp0 13541)) (.tuple [.ptr (K.of 13542) 0, .ptr (K.of 13544) 0, .agg [.int .i64 2, .int .i64 2]]) hp51 13774 = true := by kernel_rfl
theorem cw48 : FactW 5 [.str 9 744868407485032063529] 13541 hp0 (.tuple [.ptr (K.of 13542) 0, .ptr (K.of 13544) 0, .agg [.int .i64 2, .int .i64 2]]) 13774 hp51 := factW_of_run HX_ok cw48_run
theorem cw48_li : liFine 13541 hp0 = true := by kernel_rfl
theorem cw48_lo : loFine 13541 13774 hp0 hp51 = true := by kernel_rfl
theorem cw49_run : segV (enter (run HX 1000000) 49 [.ptr (K.of 13778) 0, .agg [.int .i64 2, .int .i64 2], .int .i64 0] (withL hp52 13779)) (.tuple []) hp53 13860 = true := by kernel_rfl
theorem cw49 : FactW 49 [.ptr (K.of 13778) 0, .agg [.int .i64 2, .int .i64 2], .int .i64 0] 13779 hp52 (.tuple []) 13860 hp53 := factW_of_run HX_ok cw49_run
theorem cw49_li : liFine 13779 hp52 = true := by kernel_rfl
theorem cw49_lo : loFine 13779 13860 hp52 hp53 = true := by kernel_rfl
theorem cw50_run : segV (enter (run HX 1000000) 79 [.ptr (K.of 13778) 0, .agg [.int .i64 2, .int .i64 2], .int .i64 1] (withL hp53 13862)) (.bool false) hp53 14041 = true := by kernel_rfl
theorem cw50 : FactW 79 [.ptr (K.of 13778) 0, .agg [.int .i64 2, .int .i64 2], .int .i64 1] 13862 hp53 (.bool false) 14041 hp53 := factW_of_run HX_ok cw50_run
theorem cw50_li : liFine 13862 hp53 = true := by kernel_rfl
theorem cw50_lo : loFine 13862 14041 hp53 hp53 = true := by kernel_rfl
theorem cw51_run : segV (enter (run HX 1000000) 79 [.ptr (K.of 13778) 0, .agg [.int .i64 1, .int .i64 62], .int .i64 1] (withL hp53 14164)) (.bool true) hp53 14175 = true := by kernel_rfl
theorem cw51 : FactW 79 [.ptr (K.of 13778) 0, .agg [.int .i64 1, .int .i64 62], .int .i64 1] 14164 hp53 (.bool true) 14175 hp53 := factW_of_run HX_ok cw51_run
theorem cw51_li : liFine 14164 hp53 = true := by kernel_rfl
theorem cw51_lo : loFine 14164 14175 hp53 hp53 = true := by kernel_rfl
theorem cw52_run : segV (enter (run HX 1000000) 85 [.ptr (K.of 13778) 0, .slice (K.of 14177) 0 2 2 none] (withL hp54 14179)) (.agg [.int .i64 2, .int .i64 4]) hp55 14205 = true := by kernel_rfl
theorem cw52 : FactW 85 [.ptr (K.of 13778) 0, .slice (K.of 14177) 0 2 2 none] 14179 hp54 (.agg [.int .i64 2, .int .i64 4]) 14205 hp55 := factW_of_run HX_ok cw52_run
theorem cw52_li : liFine 14179 hp54 = true := by kernel_rfl
theorem cw52_lo : loFine 14179 14205 hp54 hp55 = true := by kernel_rfl
theorem cw53_run : segV (enter (run HX 1000000) 79 [.ptr (K.of 13778) 0, .agg [.int .i64 2, .int .i64 1], .int .i64 1] (withL hp56 14207)) (.bool false) hp56 14301 = true := by kernel_rfl
theorem cw53 : FactW 79 [.ptr (K.of 13778) 0, .agg [.int .i64 2, .int .i64 1], .int .i64 1] 14207 hp56 (.bool false) 14301 hp56 := factW_of_run HX_ok cw53_run
theorem cw53_li : liFine 14207 hp56 = true := by kernel_rfl
theorem cw53_lo : loFine 14207 14301 hp56 hp56 = true := by kernel_rfl
noncomputable def ws54 : List HW := [.mk 49 [.ptr (K.of 13778) 0, .agg [.int .i64 2, .int .i64 2], .int .i64 0] 13779 hp52 (.tuple []) 13860 hp53,
  .mk 79 [.ptr (K.of 13778) 0, .agg [.int .i64 2, .int .i64 2], .int .i64 1] 13862 hp53 (.bool false) 14041 hp53,
  .mk 79 [.ptr (K.of 13778) 0, .agg [.int .i64 1, .int .i64 62], .int .i64 1] 14164 hp53 (.bool true) 14175 hp53,
  .mk 85 [.ptr (K.of 13778) 0, .slice (K.of 14177) 0 2 2 none] 14179 hp54 (.agg [.int .i64 2, .int .i64 4]) 14205 hp55,
  .mk 79 [.ptr (K.of 13778) 0, .agg [.int .i64 2, .int .i64 1], .int .i64 1] 14207 hp56 (.bool false) 14301 hp56]
theorem ws54_ok : HookOk (hooksF ws54) := hooksF_ok _ (rows_cons ⟨cw49, cw49_li, cw49_lo, by decide⟩ (rows_cons ⟨cw50, cw50_li, cw50_lo, by decide⟩ (rows_cons ⟨cw51, cw51_li, cw51_lo, by decide⟩ (rows_cons ⟨cw52, cw52_li, cw52_lo, by decide⟩ (rows_cons ⟨cw53, cw53_li, cw53_lo, by decide⟩ rows_nil)))))
theorem cw54_run : segV (enter (run (orH (hooksF ws54) HX) 1000000) 23 [.ptr (K.of 13542) 0, .ptr (K.of 13544) 0, .agg [.int .i64 2, .int .i64 2]] (withL hp51 13775)) (.tuple [.agg [.int .i64 0, .int .i64 0], .int .i64 5]) hp57 14356 = true := by kernel_rfl
theorem cw54 : FactW 23 [.ptr (K.of 13542) 0, .ptr (K.of 13544) 0, .agg [.int .i64 2, .int .i64 2]] 13775 hp51 (.tuple [.agg [.int .i64 0, .int .i64 0], .int .i64 5]) 14356 hp57 := factW_of_run (orH_ok ws54_ok HX_ok) cw54_run
theorem cw54_li : liFine 13775 hp51 = true := by kernel_rfl
theorem cw54_lo : loFine 13775 14356 hp51 hp57 = true := by kernel_rfl
theorem cw55_run : segV (enter (run HX 1000000) 5 [.str 131 476384077974781584243750180250842266448451804908121503068896344410035507629996182992454552041882915815328838620597901376142958884346964158871039953848657520957455722399597318003221036652417729218743283465196514857052050078462998803238669824956954727897555307206010568814797333814853978538778603047577546574396533033] (withL hp0 14357)) (.tuple [.ptr (K.of 14358) 0, .ptr (K.of 14360) 0, .agg [.int .i64 2, .int .i64 27]]) hp58 15572 = true := by kernel_rfl
theorem cw55 : FactW 5 [.str 131 476384077974781584243750180250842266448451804908121503068896344410035507629996182992454552041882915815328838620597901376142958884346964158871039953848657520957455722399597318003221036652417729218743283465196514857052050078462998803238669824956954727897555307206010568814797333814853978538778603047577546574396533033] 14357 hp0 (.tuple [.ptr (K.of 14358) 0, .ptr (K.of 14360) 0, .agg [.int .i64 2, .int .i64 27]]) 15572 hp58 := factW_of_run HX_ok cw55_run
theorem cw55_li : liFine 14357 hp0 = true := by kernel_rfl
theorem cw55_lo : loFine 14357 15572 hp0 hp58 = true := by kernel_rfl
end Go.Ev
