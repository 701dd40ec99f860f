/- The closed run of the law comes to true. No condition. -/
import Derived.Test.YtgdacbnfcappnaaGreatDoorFnR9
set_option maxRecDepth 100000
set_option linter.all false
namespace Go.Ev
noncomputable def wtop : List HW := [.mk 5 [.str 10 190686311825734144910121] 256 hp0 (.tuple [.ptr (K.of 257) 0, .ptr (K.of 259) 0, .agg [.int .i64 2, .int .i64 6]]) 560 hp1,
  .mk 23 [.ptr (K.of 257) 0, .ptr (K.of 259) 0, .agg [.int .i64 2, .int .i64 6]] 561 hp1 (.tuple [.agg [.int .i64 2, .int .i64 17], .int .i64 0]) 1999 hp2,
  .mk 24 [.ptr (K.of 257) 0, .ptr (K.of 259) 0, .agg [.int .i64 2, .int .i64 17], .bool true] 2000 hp2 (.tuple [.str 33 4676659423822459796814398013980220029448155798628179251322076716802543748458793, .int .i64 0]) 2380 hp2,
  .mk 5 [.str 23 3867577848302145913323328345977774493802010113338270505] 2380 hp0 (.tuple [.ptr (K.of 2381) 0, .ptr (K.of 2383) 0, .agg [.int .i64 2, .int .i64 4]]) 2724 hp3,
  .mk 5 [.str 5 172622885417] 2844 hp0 (.tuple [.ptr (K.of 2845) 0, .ptr (K.of 2847) 0, .agg [.int .i64 2, .int .i64 1]]) 3039 hp4,
  .mk 23 [.ptr (K.of 2845) 0, .ptr (K.of 2847) 0, .agg [.int .i64 2, .int .i64 1]] 3040 hp4 (.tuple [.agg [.int .i64 2, .int .i64 3], .int .i64 0]) 3314 hp5,
  .mk 24 [.ptr (K.of 2845) 0, .ptr (K.of 2847) 0, .agg [.int .i64 2, .int .i64 3], .bool true] 3315 hp5 (.tuple [.str 6 43053576368681, .int .i64 0]) 3431 hp5,
  .mk 5 [.str 6 100472709735005] 3431 hp0 (.tuple [.ptr (K.of 3432) 0, .ptr (K.of 3434) 0, .agg [.int .i64 4, .int .i64 2]]) 3656 hp6,
  .mk 23 [.ptr (K.of 3432) 0, .ptr (K.of 3434) 0, .agg [.int .i64 4, .int .i64 2]] 3657 hp6 (.tuple [.agg [.int .i64 2, .int .i64 17], .int .i64 0]) 4863 hp7,
  .mk 24 [.ptr (K.of 3432) 0, .ptr (K.of 3434) 0, .agg [.int .i64 2, .int .i64 17], .bool true] 4864 hp7 (.tuple [.str 38 5141048726816979220138960925040657568383225773628914537056976136836338744062144233964382505, .int .i64 0]) 5292 hp7,
  .mk 5 [.str 16 53792852109957564801733960298004031785] 5292 hp0 (.tuple [.ptr (K.of 5293) 0, .ptr (K.of 5295) 0, .agg [.int .i64 2, .int .i64 11]]) 5703 hp8,
  .mk 23 [.ptr (K.of 5293) 0, .ptr (K.of 5295) 0, .agg [.int .i64 2, .int .i64 11]] 5704 hp8 (.tuple [.agg [.int .i64 2, .int .i64 51], .int .i64 0]) 12242 hp50,
  .mk 24 [.ptr (K.of 5293) 0, .ptr (K.of 5295) 0, .agg [.int .i64 2, .int .i64 51], .bool true] 12243 hp50 (.tuple [.str 108 19405871089505311170048074909599451648703823065016021122363951855827791637581833977848114567587373485640021939723412902351707280182495405188611028213625892819322196391154091194343180314118716483902370392327731887200285407495065648044836479817361525419019086121, .int .i64 0]) 13541 hp50,
  .mk 5 [.str 9 744868407485032063529] 13541 hp0 (.tuple [.ptr (K.of 13542) 0, .ptr (K.of 13544) 0, .agg [.int .i64 2, .int .i64 2]]) 13774 hp51,
  .mk 23 [.ptr (K.of 13542) 0, .ptr (K.of 13544) 0, .agg [.int .i64 2, .int .i64 2]] 13775 hp51 (.tuple [.agg [.int .i64 0, .int .i64 0], .int .i64 5]) 14356 hp57,
  .mk 5 [.str 131 476384077974781584243750180250842266448451804908121503068896344410035507629996182992454552041882915815328838620597901376142958884346964158871039953848657520957455722399597318003221036652417729218743283465196514857052050078462998803238669824956954727897555307206010568814797333814853978538778603047577546574396533033] 14357 hp0 (.tuple [.ptr (K.of 14358) 0, .ptr (K.of 14360) 0, .agg [.int .i64 2, .int .i64 27]]) 15572 hp58,
  .mk 9 [.ptr (K.of 14358) 0, .ptr (K.of 14360) 0, .agg [.int .i64 1, .int .i64 41, .int .i64 2, .int .i64 3]] 15721 hp58 (.tuple [.str 29 2357566801454308985866356040725712231478312828599906677871394689916977, .int .i64 0]) 15807 hp58,
  .mk 10 [.ptr (K.of 14358) 0, .ptr (K.of 14360) 0, .agg [.int .i64 1, .int .i64 41]] 15807 hp58 (.bool true) 16104 hp64]
theorem wtop_ok : HookOk (hooksF wtop) := hooksF_ok _ (rows_cons ⟨cw0, cw0_li, cw0_lo, by decide⟩ (rows_cons ⟨cw1, cw1_li, cw1_lo, by decide⟩ (rows_cons ⟨cw2, cw2_li, cw2_lo, by decide⟩ (rows_cons ⟨cw3, cw3_li, cw3_lo, by decide⟩ (rows_cons ⟨cw4, cw4_li, cw4_lo, by decide⟩ (rows_cons ⟨cw5, cw5_li, cw5_lo, by decide⟩ (rows_cons ⟨cw6, cw6_li, cw6_lo, by decide⟩ (rows_cons ⟨cw7, cw7_li, cw7_lo, by decide⟩ (rows_cons ⟨cw8, cw8_li, cw8_lo, by decide⟩ (rows_cons ⟨cw9, cw9_li, cw9_lo, by decide⟩ (rows_cons ⟨cw10, cw10_li, cw10_lo, by decide⟩ (rows_cons ⟨cw46, cw46_li, cw46_lo, by decide⟩ (rows_cons ⟨cw47, cw47_li, cw47_lo, by decide⟩ (rows_cons ⟨cw48, cw48_li, cw48_lo, by decide⟩ (rows_cons ⟨cw54, cw54_li, cw54_lo, by decide⟩ (rows_cons ⟨cw55, cw55_li, cw55_lo, by decide⟩ (rows_cons ⟨cw59, cw59_li, cw59_lo, by decide⟩ (rows_cons ⟨cw72, cw72_li, cw72_lo, by decide⟩ rows_nil))))))))))))))))))
theorem law_run : retV (enter (run (orH (hooksF wtop) HX) 1000000) 3 [] wS) (.bool true) = true := by kernel_rfl
theorem known_fact : HookFact 3 [] (.bool true) := fact_of_run (orH_ok wtop_ok HX_ok) rfl rfl law_run
end Go.Ev
