/- Calls, each by a closed run. No condition. -/
import Derived.Test.YtgdacbnfcappnaaGreatDoorFnH
import Derived.Test.YtgdacbnfcappnaaGreatDoorFnR4
set_option maxRecDepth 100000
set_option linter.all false
namespace Go.Ev
theorem cw40_run : segV (enter (run HX 1000000) 79 [.ptr (K.of 5707) 0, .agg [.int .i64 1, .int .i64 0], .int .i64 2] (withL hp40 12062)) (.bool true) hp40 12073 = true := by kernel_rfl
theorem cw40 : FactW 79 [.ptr (K.of 5707) 0, .agg [.int .i64 1, .int .i64 0], .int .i64 2] 12062 hp40 (.bool true) 12073 hp40 := factW_of_run HX_ok cw40_run
theorem cw40_li : liFine 12062 hp40 = true := by kernel_rfl
theorem cw40_lo : loFine 12062 12073 hp40 hp40 = true := by kernel_rfl
theorem cw41_run : segV (enter (run HX 1000000) 85 [.ptr (K.of 5707) 0, .slice (K.of 12076) 0 3 3 none] (withL hp41 12079)) (.agg [.int .i64 2, .int .i64 42]) hp42 12113 = true := by kernel_rfl
theorem cw41 : FactW 85 [.ptr (K.of 5707) 0, .slice (K.of 12076) 0 3 3 none] 12079 hp41 (.agg [.int .i64 2, .int .i64 42]) 12113 hp42 := factW_of_run HX_ok cw41_run
theorem cw41_li : liFine 12079 hp41 = true := by kernel_rfl
theorem cw41_lo : loFine 12079 12113 hp41 hp42 = true := by kernel_rfl
theorem cw42_run : segV (enter (run HX 1000000) 85 [.ptr (K.of 5707) 0, .slice (K.of 12114) 0 3 3 none] (withL hp43 12117)) (.agg [.int .i64 2, .int .i64 45]) hp44 12151 = true := by kernel_rfl
theorem cw42 : FactW 85 [.ptr (K.of 5707) 0, .slice (K.of 12114) 0 3 3 none] 12117 hp43 (.agg [.int .i64 2, .int .i64 45]) 12151 hp44 := factW_of_run HX_ok cw42_run
theorem cw42_li : liFine 12117 hp43 = true := by kernel_rfl
theorem cw42_lo : loFine 12117 12151 hp43 hp44 = true := by kernel_rfl
theorem cw43_run : segV (enter (run HX 1000000) 79 [.ptr (K.of 5707) 0, .agg [.int .i64 1, .int .i64 0], .int .i64 1] (withL hp45 12153)) (.bool true) hp45 12164 = true := by kernel_rfl
theorem cw43 : FactW 79 [.ptr (K.of 5707) 0, .agg [.int .i64 1, .int .i64 0], .int .i64 1] 12153 hp45 (.bool true) 12164 hp45 := factW_of_run HX_ok cw43_run
theorem cw43_li : liFine 12153 hp45 = true := by kernel_rfl
theorem cw43_lo : loFine 12153 12164 hp45 hp45 = true := by kernel_rfl
theorem cw44_run : segV (enter (run HX 1000000) 85 [.ptr (K.of 5707) 0, .slice (K.of 12167) 0 3 3 none] (withL hp46 12170)) (.agg [.int .i64 2, .int .i64 48]) hp47 12204 = true := by kernel_rfl
theorem cw44 : FactW 85 [.ptr (K.of 5707) 0, .slice (K.of 12167) 0 3 3 none] 12170 hp46 (.agg [.int .i64 2, .int .i64 48]) 12204 hp47 := factW_of_run HX_ok cw44_run
theorem cw44_li : liFine 12170 hp46 = true := by kernel_rfl
theorem cw44_lo : loFine 12170 12204 hp46 hp47 = true := by kernel_rfl
theorem cw45_run : segV (enter (run HX 1000000) 85 [.ptr (K.of 5707) 0, .slice (K.of 12205) 0 3 3 none] (withL hp48 12208)) (.agg [.int .i64 2, .int .i64 51]) hp49 12242 = true := by kernel_rfl
theorem cw45 : FactW 85 [.ptr (K.of 5707) 0, .slice (K.of 12205) 0 3 3 none] 12208 hp48 (.agg [.int .i64 2, .int .i64 51]) 12242 hp49 := factW_of_run HX_ok cw45_run
theorem cw45_li : liFine 12208 hp48 = true := by kernel_rfl
theorem cw45_lo : loFine 12208 12242 hp48 hp49 = true := by kernel_rfl
noncomputable def ws46 : List HW := [.mk 49 [.ptr (K.of 5707) 0, .agg [.int .i64 2, .int .i64 11], .int .i64 0] 5708 hp9 (.tuple []) 6005 hp10,
  .mk 79 [.ptr (K.of 5707) 0, .agg [.int .i64 2, .int .i64 11], .int .i64 1] 6007 hp10 (.bool false) 6724 hp10,
  .mk 79 [.ptr (K.of 5707) 0, .agg [.int .i64 1, .int .i64 62], .int .i64 1] 6847 hp10 (.bool true) 6858 hp10,
  .mk 85 [.ptr (K.of 5707) 0, .slice (K.of 6860) 0 2 2 none] 6862 hp11 (.agg [.int .i64 2, .int .i64 13]) 6888 hp12,
  .mk 79 [.ptr (K.of 5707) 0, .agg [.int .i64 2, .int .i64 10], .int .i64 1] 6890 hp13 (.bool false) 7522 hp13,
  .mk 79 [.ptr (K.of 5707) 0, .agg [.int .i64 2, .int .i64 9], .int .i64 1] 7656 hp13 (.bool false) 8211 hp13,
  .mk 85 [.ptr (K.of 5707) 0, .slice (K.of 8304) 0 2 2 none] 8306 hp14 (.agg [.int .i64 2, .int .i64 15]) 8332 hp15,
  .mk 79 [.ptr (K.of 5707) 0, .agg [.int .i64 2, .int .i64 8], .int .i64 2] 8334 hp16 (.bool false) 8898 hp16,
  .mk 79 [.ptr (K.of 5707) 0, .agg [.int .i64 2, .int .i64 7], .int .i64 2] 8994 hp16 (.bool false) 9481 hp16,
  .mk 79 [.ptr (K.of 5707) 0, .agg [.int .i64 1, .int .i64 63], .int .i64 2] 9566 hp16 (.bool true) 9577 hp16,
  .mk 85 [.ptr (K.of 5707) 0, .slice (K.of 9579) 0 2 2 none] 9581 hp17 (.agg [.int .i64 2, .int .i64 17]) 9607 hp18,
  .mk 79 [.ptr (K.of 5707) 0, .agg [.int .i64 2, .int .i64 6], .int .i64 2] 9609 hp19 (.bool false) 10011 hp19,
  .mk 79 [.ptr (K.of 5707) 0, .agg [.int .i64 2, .int .i64 5], .int .i64 2] 10107 hp19 (.bool false) 10432 hp19,
  .mk 85 [.ptr (K.of 5707) 0, .slice (K.of 10507) 0 2 2 none] 10509 hp20 (.agg [.int .i64 2, .int .i64 19]) 10535 hp21,
  .mk 79 [.ptr (K.of 5707) 0, .agg [.int .i64 2, .int .i64 4], .int .i64 1] 10537 hp22 (.bool false) 10851 hp22,
  .mk 79 [.ptr (K.of 5707) 0, .agg [.int .i64 2, .int .i64 3], .int .i64 1] 10985 hp22 (.bool false) 11222 hp22,
  .mk 79 [.ptr (K.of 5707) 0, .agg [.int .i64 1, .int .i64 64], .int .i64 1] 11345 hp22 (.bool true) 11356 hp22,
  .mk 85 [.ptr (K.of 5707) 0, .slice (K.of 11358) 0 2 2 none] 11360 hp23 (.agg [.int .i64 2, .int .i64 21]) 11386 hp24,
  .mk 79 [.ptr (K.of 5707) 0, .agg [.int .i64 2, .int .i64 2], .int .i64 1] 11388 hp25 (.bool false) 11540 hp25,
  .mk 79 [.ptr (K.of 5707) 0, .agg [.int .i64 2, .int .i64 1], .int .i64 1] 11674 hp25 (.bool false) 11749 hp25,
  .mk 79 [.ptr (K.of 5707) 0, .agg [.int .i64 1, .int .i64 0], .int .i64 1] 11787 hp25 (.bool true) 11798 hp25,
  .mk 85 [.ptr (K.of 5707) 0, .slice (K.of 11801) 0 3 3 none] 11806 hp26 (.agg [.int .i64 2, .int .i64 24]) 11840 hp27,
  .mk 85 [.ptr (K.of 5707) 0, .slice (K.of 11841) 0 3 3 none] 11844 hp28 (.agg [.int .i64 2, .int .i64 27]) 11878 hp29,
  .mk 79 [.ptr (K.of 5707) 0, .agg [.int .i64 1, .int .i64 0], .int .i64 1] 11880 hp30 (.bool true) 11891 hp30,
  .mk 85 [.ptr (K.of 5707) 0, .slice (K.of 11894) 0 3 3 none] 11897 hp31 (.agg [.int .i64 2, .int .i64 30]) 11931 hp32,
  .mk 85 [.ptr (K.of 5707) 0, .slice (K.of 11932) 0 3 3 none] 11935 hp33 (.agg [.int .i64 2, .int .i64 33]) 11969 hp34,
  .mk 79 [.ptr (K.of 5707) 0, .agg [.int .i64 1, .int .i64 0], .int .i64 2] 11971 hp35 (.bool true) 11982 hp35,
  .mk 85 [.ptr (K.of 5707) 0, .slice (K.of 11985) 0 3 3 none] 11988 hp36 (.agg [.int .i64 2, .int .i64 36]) 12022 hp37,
  .mk 85 [.ptr (K.of 5707) 0, .slice (K.of 12023) 0 3 3 none] 12026 hp38 (.agg [.int .i64 2, .int .i64 39]) 12060 hp39,
  .mk 79 [.ptr (K.of 5707) 0, .agg [.int .i64 1, .int .i64 0], .int .i64 2] 12062 hp40 (.bool true) 12073 hp40,
  .mk 85 [.ptr (K.of 5707) 0, .slice (K.of 12076) 0 3 3 none] 12079 hp41 (.agg [.int .i64 2, .int .i64 42]) 12113 hp42,
  .mk 85 [.ptr (K.of 5707) 0, .slice (K.of 12114) 0 3 3 none] 12117 hp43 (.agg [.int .i64 2, .int .i64 45]) 12151 hp44,
  .mk 79 [.ptr (K.of 5707) 0, .agg [.int .i64 1, .int .i64 0], .int .i64 1] 12153 hp45 (.bool true) 12164 hp45,
  .mk 85 [.ptr (K.of 5707) 0, .slice (K.of 12167) 0 3 3 none] 12170 hp46 (.agg [.int .i64 2, .int .i64 48]) 12204 hp47,
  .mk 85 [.ptr (K.of 5707) 0, .slice (K.of 12205) 0 3 3 none] 12208 hp48 (.agg [.int .i64 2, .int .i64 51]) 12242 hp49]
theorem ws46_ok : HookOk (hooksF ws46) := hooksF_ok _ (rows_cons ⟨cw11, cw11_li, cw11_lo, by decide⟩ (rows_cons ⟨cw12, cw12_li, cw12_lo, by decide⟩ (rows_cons ⟨cw13, cw13_li, cw13_lo, by decide⟩ (rows_cons ⟨cw14, cw14_li, cw14_lo, by decide⟩ (rows_cons ⟨cw15, cw15_li, cw15_lo, by decide⟩ (rows_cons ⟨cw16, cw16_li, cw16_lo, by decide⟩ (rows_cons ⟨cw17, cw17_li, cw17_lo, by decide⟩ (rows_cons ⟨cw18, cw18_li, cw18_lo, by decide⟩ (rows_cons ⟨cw19, cw19_li, cw19_lo, by decide⟩ (rows_cons ⟨cw20, cw20_li, cw20_lo, by decide⟩ (rows_cons ⟨cw21, cw21_li, cw21_lo, by decide⟩ (rows_cons ⟨cw22, cw22_li, cw22_lo, by decide⟩ (rows_cons ⟨cw23, cw23_li, cw23_lo, by decide⟩ (rows_cons ⟨cw24, cw24_li, cw24_lo, by decide⟩ (rows_cons ⟨cw25, cw25_li, cw25_lo, by decide⟩ (rows_cons ⟨cw26, cw26_li, cw26_lo, by decide⟩ (rows_cons ⟨cw27, cw27_li, cw27_lo, by decide⟩ (rows_cons ⟨cw28, cw28_li, cw28_lo, by decide⟩ (rows_cons ⟨cw29, cw29_li, cw29_lo, by decide⟩ (rows_cons ⟨cw30, cw30_li, cw30_lo, by decide⟩ (rows_cons ⟨cw31, cw31_li, cw31_lo, by decide⟩ (rows_cons ⟨cw32, cw32_li, cw32_lo, by decide⟩ (rows_cons ⟨cw33, cw33_li, cw33_lo, by decide⟩ (rows_cons ⟨cw34, cw34_li, cw34_lo, by decide⟩ (rows_cons ⟨cw35, cw35_li, cw35_lo, by decide⟩ (rows_cons ⟨cw36, cw36_li, cw36_lo, by decide⟩ (rows_cons ⟨cw37, cw37_li, cw37_lo, by decide⟩ (rows_cons ⟨cw38, cw38_li, cw38_lo, by decide⟩ (rows_cons ⟨cw39, cw39_li, cw39_lo, by decide⟩ (rows_cons ⟨cw40, cw40_li, cw40_lo, by decide⟩ (rows_cons ⟨cw41, cw41_li, cw41_lo, by decide⟩ (rows_cons ⟨cw42, cw42_li, cw42_lo, by decide⟩ (rows_cons ⟨cw43, cw43_li, cw43_lo, by decide⟩ (rows_cons ⟨cw44, cw44_li, cw44_lo, by decide⟩ (rows_cons ⟨cw45, cw45_li, cw45_lo, by decide⟩ rows_nil)))))))))))))))))))))))))))))))))))
theorem cw46_run : segV (enter (run (orH (hooksF ws46) HX) 1000000) 23 [.ptr (K.of 5293) 0, .ptr (K.of 5295) 0, .agg [.int .i64 2, .int .i64 11]] (withL hp8 5704)) (.tuple [.agg [.int .i64 2, .int .i64 51], .int .i64 0]) hp50 12242 = true := by kernel_rfl
theorem cw46 : FactW 23 [.ptr (K.of 5293) 0, .ptr (K.of 5295) 0, .agg [.int .i64 2, .int .i64 11]] 5704 hp8 (.tuple [.agg [.int .i64 2, .int .i64 51], .int .i64 0]) 12242 hp50 := factW_of_run (orH_ok ws46_ok HX_ok) cw46_run
theorem cw46_li : liFine 5704 hp8 = true := by kernel_rfl
theorem cw46_lo : loFine 5704 12242 hp8 hp50 = true := by kernel_rfl
theorem cw47_run : segV (enter (run HX 1000000) 24 [.ptr (K.of 5293) 0, .ptr (K.of 5295) 0, .agg [.int .i64 2, .int .i64 51], .bool true] (withL hp50 12243)) (.tuple [.str 108 19405871089505311170048074909599451648703823065016021122363951855827791637581833977848114567587373485640021939723412902351707280182495405188611028213625892819322196391154091194343180314118716483902370392327731887200285407495065648044836479817361525419019086121, .int .i64 0]) hp50 13541 = true := by kernel_rfl
theorem cw47 : FactW 24 [.ptr (K.of 5293) 0, .ptr (K.of 5295) 0, .agg [.int .i64 2, .int .i64 51], .bool true] 12243 hp50 (.tuple [.str 108 19405871089505311170048074909599451648703823065016021122363951855827791637581833977848114567587373485640021939723412902351707280182495405188611028213625892819322196391154091194343180314118716483902370392327731887200285407495065648044836479817361525419019086121, .int .i64 0]) 13541 hp50 := factW_of_run HX_ok cw47_run
theorem cw47_li : liFine 12243 hp50 = true := by kernel_rfl
theorem cw47_lo : loFine 12243 13541 hp50 hp50 = true := by kernel_rfl
end Go.Ev
