/- Closed calls that make memory of their own, each by a closed run. -/
import Derived.Test.YtldcnedpfagliaaGreatDoorEvRe
set_option linter.all false
set_option maxRecDepth 100000
namespace Go.Proofs.YtldcnedpfagliaaGreatDoor
open Go.Ev
noncomputable def rfL36 : List HO := [.mk 263 (.cells 185 false 0 0 [.func (.func 158) [] []])]
theorem rf36_run : segV (enter (run noHook 1000000) 28 [.str 3 6648172] (withL [] 256)) (.tuple [.agg [.int .i64 2, .int .i64 2, .func (.func 157) [] [.ptr (K.of 263) 0]], .bool true]) rfL36 280 = true := by kernel_rfl
theorem rf36 : RFact 28 [.str 3 6648172] (.tuple [.agg [.int .i64 2, .int .i64 2, .func (.func 157) [] [.ptr (K.of 263) 0]], .bool true]) 24 rfL36 := factW_of_run noHook_ok rf36_run
noncomputable def rfL37 : List HO := [.mk 266 (.cells 185 false 0 0 [.func (.func 159) [] []])]
theorem rf37_run : segV (enter (run noHook 1000000) 28 [.str 3 7237492] (withL [] 256)) (.tuple [.agg [.int .i64 1, .int .i64 1, .func (.func 154) [] [.ptr (K.of 266) 0]], .bool true]) rfL37 280 = true := by kernel_rfl
theorem rf37 : RFact 28 [.str 3 7237492] (.tuple [.agg [.int .i64 1, .int .i64 1, .func (.func 154) [] [.ptr (K.of 266) 0]], .bool true]) 24 rfL37 := factW_of_run noHook_ok rf37_run
noncomputable def rfL38 : List HO := [.mk 269 (.cells 185 false 0 0 [.func (.func 160) [] []])]
theorem rf38_run : segV (enter (run noHook 1000000) 28 [.str 5 465625642096] (withL [] 256)) (.tuple [.agg [.int .i64 1, .int .i64 1, .func (.func 154) [] [.ptr (K.of 269) 0]], .bool true]) rfL38 280 = true := by kernel_rfl
theorem rf38 : RFact 28 [.str 5 465625642096] (.tuple [.agg [.int .i64 1, .int .i64 1, .func (.func 154) [] [.ptr (K.of 269) 0]], .bool true]) 24 rfL38 := factW_of_run noHook_ok rf38_run
noncomputable def rfL39 : List HO := [.mk 269 (.cells 185 false 0 0 [.func (.func 160) [] []])]
theorem rf39_run : segV (enter (run noHook 1000000) 28 [.str 7 32497657065662320] (withL [] 256)) (.tuple [.agg [.int .i64 1, .int .i64 1, .func (.func 154) [] [.ptr (K.of 269) 0]], .bool true]) rfL39 280 = true := by kernel_rfl
theorem rf39 : RFact 28 [.str 7 32497657065662320] (.tuple [.agg [.int .i64 1, .int .i64 1, .func (.func 154) [] [.ptr (K.of 269) 0]], .bool true]) 24 rfL39 := factW_of_run noHook_ok rf39_run
noncomputable def rfL40 : List HO := [.mk 277 (.cells 185 false 0 0 [.func (.func 165) [] []])]
theorem rf40_run : segV (enter (run noHook 1000000) 28 [.str 9 1890029705619886272112] (withL [] 256)) (.tuple [.agg [.int .i64 1, .int .i64 1, .func (.func 154) [] [.ptr (K.of 277) 0]], .bool true]) rfL40 280 = true := by kernel_rfl
theorem rf40 : RFact 28 [.str 9 1890029705619886272112] (.tuple [.agg [.int .i64 1, .int .i64 1, .func (.func 154) [] [.ptr (K.of 277) 0]], .bool true]) 24 rfL40 := factW_of_run noHook_ok rf40_run
noncomputable def rfL41 : List HO := []
theorem rf41_run : segV (enter (run noHook 1000000) 28 [.str 6 109330244526452] (withL [] 256)) (.tuple [.agg [.int .i64 0, .int .i64 (-1), .func (.func 170) [] []], .bool true]) rfL41 272 = true := by kernel_rfl
theorem rf41 : RFact 28 [.str 6 109330244526452] (.tuple [.agg [.int .i64 0, .int .i64 (-1), .func (.func 170) [] []], .bool true]) 16 rfL41 := factW_of_run noHook_ok rf41_run
noncomputable def rfL42 : List HO := [.mk 268 (.cells 154 false 0 0 [.func (.func 176) [] []])]
theorem rf42_run : segV (enter (run noHook 1000000) 28 [.str 6 129125564117861] (withL [] 256)) (.tuple [.agg [.int .i64 1, .int .i64 1, .func (.func 285) [] [.ptr (K.of 268) 0]], .bool true]) rfL42 272 = true := by kernel_rfl
theorem rf42 : RFact 28 [.str 6 129125564117861] (.tuple [.agg [.int .i64 1, .int .i64 1, .func (.func 285) [] [.ptr (K.of 268) 0]], .bool true]) 16 rfL42 := factW_of_run noHook_ok rf42_run
noncomputable def rfL43 : List HO := []
theorem rf43_run : segV (enter (run noHook 1000000) 28 [.str 14 2341702980021291057909005759832434] (withL [] 256)) (.tuple [.agg [.int .i64 1, .int .i64 1, .func (.func 181) [] []], .bool true]) rfL43 272 = true := by kernel_rfl
theorem rf43 : RFact 28 [.str 14 2341702980021291057909005759832434] (.tuple [.agg [.int .i64 1, .int .i64 1, .func (.func 181) [] []], .bool true]) 16 rfL43 := factW_of_run noHook_ok rf43_run
noncomputable def rfL44 : List HO := []
theorem rf44_run : segV (enter (run noHook 1000000) 28 [.str 11 132232964979059138306338407] (withL [] 256)) (.tuple [.agg [.int .i64 2, .int .i64 2, .func (.func 184) [] []], .bool true]) rfL44 272 = true := by kernel_rfl
theorem rf44 : RFact 28 [.str 11 132232964979059138306338407] (.tuple [.agg [.int .i64 2, .int .i64 2, .func (.func 184) [] []], .bool true]) 16 rfL44 := factW_of_run noHook_ok rf44_run
noncomputable def rfL45 : List HO := []
theorem rf45_run : segV (enter (run noHook 1000000) 28 [.str 11 139599893388220497016221029] (withL [] 256)) (.tuple [.agg [.int .i64 1, .int .i64 1, .func (.func 190) [] []], .bool true]) rfL45 269 = true := by kernel_rfl
theorem rf45 : RFact 28 [.str 11 139599893388220497016221029] (.tuple [.agg [.int .i64 1, .int .i64 1, .func (.func 190) [] []], .bool true]) 13 rfL45 := factW_of_run noHook_ok rf45_run
noncomputable def rfL46 : List HO := []
theorem rf46_run : segV (enter (run noHook 1000000) 28 [.str 6 113685342419309] (withL [] 256)) (.tuple [.agg [.int .i64 0, .int .i64 0, .func (.func 193) [] []], .bool true]) rfL46 269 = true := by kernel_rfl
theorem rf46 : RFact 28 [.str 6 113685342419309] (.tuple [.agg [.int .i64 0, .int .i64 0, .func (.func 193) [] []], .bool true]) 13 rfL46 := factW_of_run noHook_ok rf46_run
noncomputable def rfL47 : List HO := []
theorem rf47_run : segV (enter (run noHook 1000000) 28 [.str 11 123826968624716620364082788] (withL [] 256)) (.tuple [.agg [.int .i64 1, .int .i64 1, .func (.func 201) [] []], .bool true]) rfL47 269 = true := by kernel_rfl
theorem rf47 : RFact 28 [.str 11 123826968624716620364082788] (.tuple [.agg [.int .i64 1, .int .i64 1, .func (.func 201) [] []], .bool true]) 13 rfL47 := factW_of_run noHook_ok rf47_run
noncomputable def rfL48 : List HO := []
theorem rf48_run : segV (enter (run noHook 1000000) 28 [.str 6 130177832349554] (withL [] 256)) (.tuple [.agg [.int .i64 0, .int .i64 (-1), .func (.func 205) [] []], .bool true]) rfL48 269 = true := by kernel_rfl
theorem rf48 : RFact 28 [.str 6 130177832349554] (.tuple [.agg [.int .i64 0, .int .i64 (-1), .func (.func 205) [] []], .bool true]) 13 rfL48 := factW_of_run noHook_ok rf48_run
noncomputable def rfL49 : List HO := []
theorem rf49_run : segV (enter (run noHook 1000000) 28 [.str 15 583857795910584082413495227398057575] (withL [] 256)) (.tuple [.agg [.int .i64 1, .int .i64 1, .func (.func 211) [] []], .bool true]) rfL49 271 = true := by kernel_rfl
theorem rf49 : RFact 28 [.str 15 583857795910584082413495227398057575] (.tuple [.agg [.int .i64 1, .int .i64 1, .func (.func 211) [] []], .bool true]) 15 rfL49 := factW_of_run noHook_ok rf49_run
noncomputable def rfL50 : List HO := [.mk 448 (.cells 9 true 0 0 [.str 1 43, .str 1 45, .str 1 42, .str 1 47, .str 1 37, .str 3 7171940, .str 2 12587, .str 2 12589, .str 1 60, .str 1 62, .str 2 15421, .str 2 15933, .str 1 61, .str 2 12093, .str 3 7168376, .str 3 7170414, .str 3 6382195, .str 6 119225731608164, .str 6 119225732132722, .str 6 119225733115762, .str 3 6386536, .str 4 1668247155, .str 3 6513010, .str 3 6513778, .str 6 126879581561202, .str 6 126879581561970, .str 4 1818850164, .str 3 7238760, .str 6 121446246605938, .str 6 119182899770472, .str 6 107135549927012, .str 7 32199706527560549, .str 8 7958535050699633509, .str 4 1835363697, .str 6 120282394289522, .str 4 1634956145, .str 5 418548772707, .str 4 1684368497, .str 6 110386773062757, .str 4 1818325876, .str 13 7878076896938898650436905886565, .str 9 2017714919724294959988, .str 9 2073847238226935768436, .str 9 2073847238226936362356, .str 2 25969, .str 3 6648172, .str 5 435695214956, .str 4 1853189228, .str 3 7237492, .str 4 1635020653, .str 5 427071271792, .str 5 465625642096, .str 7 32503133031591024, .str 8 7597137600295826032, .str 7 32497657065662320, .str 7 33325525081485936, .str 10 469439764969609476010608, .str 9 1890029705619886272112, .str 8 7594306396727374969, .str 6 115892955345509, .str 7 32784620939210598, .str 6 109330244526452, .str 9 2129834018470726561383, .str 7 32497657065662269, .str 7 32497657065662268, .str 6 129125564117861, .str 8 7237134442205115237, .str 10 469311716112611284712037, .str 16 153465846498675330771124613627041178994, .str 16 146824796847192063471655286726650850919, .str 14 2341702980021291057909005759832434, .str 14 2016228437741149294847839145913959, .str 14 2341702980021291057909005910897524, .str 11 132232964979059138306338407, .str 11 139576374293642703002364270, .str 12 35726687782111273258427444839, .str 13 9147277265708168193815465845608, .str 15 599475962885450510537381108849847664, .str 11 139599893388220497016221029, .str 6 115923120124526, .str 11 132232964979059159696830316, .str 6 113685342419309, .str 7 28818678475547760, .str 15 599576976627493665750704741168017262, .str 4 1718838644, .str 11 123826968624716620364082788, .str 3 6776180, .str 3 7370100, .str 6 130177832349554, .str 11 132232964979062372165775218, .str 4 1634887014, .str 4 1634952564, .str 6 112628847174004, .str 15 583857795910584082413495227398057575, .str 20 579160321529547095576505714402459299887035543143, .str 1 96])]
theorem rf50_run : segV (enter (run noHook 1000000) 11 [] (withL [] 256)) (.slice (K.of 448) 0 96 96 (some 1)) rfL50 449 = true := by kernel_rfl
theorem rf50 : RFact 11 [] (.slice (K.of 448) 0 96 96 (some 1)) 193 rfL50 := factW_of_run noHook_ok rf50_run
noncomputable def rfL51 : List HO := [.mk 265 (.cells 3 false 0 0 [.int .i64 1]), .mk 266 (.cells 172 false 0 0 [.func (.func 253) [] [.ptr (K.of 265) 0]]), .mk 267 (.cells 169 false 0 0 [.func (.func 104) [] []])]
theorem rf51_run : segV (enter (run noHook 1000000) 28 [.str 1 42] (withL [] 256)) (.tuple [.agg [.int .i64 0, .int .i64 (-1), .func (.func 251) [] [.ptr (K.of 266) 0, .ptr (K.of 267) 0]], .bool true]) rfL51 298 = true := by kernel_rfl
theorem rf51 : RFact 28 [.str 1 42] (.tuple [.agg [.int .i64 0, .int .i64 (-1), .func (.func 251) [] [.ptr (K.of 266) 0, .ptr (K.of 267) 0]], .bool true]) 42 rfL51 := factW_of_run noHook_ok rf51_run
noncomputable def rfL52 : List HO := [.mk 277 (.cells 175 false 0 0 [.func (.func 113) [] []])]
theorem rf52_run : segV (enter (run noHook 1000000) 28 [.str 1 62] (withL [] 256)) (.tuple [.agg [.int .i64 1, .int .i64 (-1), .func (.func 254) [] [.ptr (K.of 277) 0]], .bool true]) rfL52 298 = true := by kernel_rfl
theorem rf52 : RFact 28 [.str 1 62] (.tuple [.agg [.int .i64 1, .int .i64 (-1), .func (.func 254) [] [.ptr (K.of 277) 0]], .bool true]) 42 rfL52 := factW_of_run noHook_ok rf52_run
noncomputable def rfL53 : List HO := [.mk 280 (.cells 175 false 0 0 [.func (.func 116) [] []])]
theorem rf53_run : segV (enter (run noHook 1000000) 28 [.str 1 61] (withL [] 256)) (.tuple [.agg [.int .i64 1, .int .i64 (-1), .func (.func 254) [] [.ptr (K.of 280) 0]], .bool true]) rfL53 298 = true := by kernel_rfl
theorem rf53 : RFact 28 [.str 1 61] (.tuple [.agg [.int .i64 1, .int .i64 (-1), .func (.func 254) [] [.ptr (K.of 280) 0]], .bool true]) 42 rfL53 := factW_of_run noHook_ok rf53_run
end Go.Proofs.YtldcnedpfagliaaGreatDoor
