/- Closed calls that make memory of their own, each by a closed run. -/
import Derived.Test.YtldcnedpfagliaaGreatDoorEvRe
set_option linter.all false
set_option maxRecDepth 100000
namespace Go.Proofs.YtldcnedpfagliaaGreatDoor
open Go.Ev
noncomputable def rfL18 : List HO := [.mk 274 (.cells 3 false 0 0 [.int .i64 1])]
theorem rf18_run : segV (enter (run noHook 1000000) 28 [.str 2 12587] (withL [] 256)) (.tuple [.agg [.int .i64 1, .int .i64 1, .func (.func 99) [] [.ptr (K.of 274) 0]], .bool true]) rfL18 298 = true := by kernel_rfl
theorem rf18 : RFact 28 [.str 2 12587] (.tuple [.agg [.int .i64 1, .int .i64 1, .func (.func 99) [] [.ptr (K.of 274) 0]], .bool true]) 42 rfL18 := factW_of_run noHook_ok rf18_run
noncomputable def rfL19 : List HO := []
theorem rf19_run : segV (enter (run noHook 1000000) 28 [.str 13 9147277265708168193815465845608] (withL [] 256)) (.tuple [.agg [.int .i64 2, .int .i64 3, .func (.func 187) [] []], .bool true]) rfL19 272 = true := by kernel_rfl
theorem rf19 : RFact 28 [.str 13 9147277265708168193815465845608] (.tuple [.agg [.int .i64 2, .int .i64 3, .func (.func 187) [] []], .bool true]) 16 rfL19 := factW_of_run noHook_ok rf19_run
noncomputable def rfL20 : List HO := []
theorem rf20_run : segV (enter (run noHook 1000000) 28 [.str 4 1718838644] (withL [] 256)) (.tuple [.agg [.int .i64 2, .int .i64 2, .func (.func 198) [] []], .bool true]) rfL20 269 = true := by kernel_rfl
theorem rf20 : RFact 28 [.str 4 1718838644] (.tuple [.agg [.int .i64 2, .int .i64 2, .func (.func 198) [] []], .bool true]) 13 rfL20 := factW_of_run noHook_ok rf20_run
noncomputable def rfL21 : List HO := []
theorem rf21_run : segV (enter (run noHook 1000000) 28 [.str 6 121424957498216] (withL [] 256)) (.tuple [.agg [.int .i64 0, .int .i64 0, .nilFunc], .bool false]) rfL21 269 = true := by kernel_rfl
theorem rf21 : RFact 28 [.str 6 121424957498216] (.tuple [.agg [.int .i64 0, .int .i64 0, .nilFunc], .bool false]) 13 rfL21 := factW_of_run noHook_ok rf21_run
noncomputable def rfL22 : List HO := []
theorem rf22_run : segV (enter (run noHook 1000000) 28 [.str 7 32784620939210598] (withL [] 256)) (.tuple [.agg [.int .i64 1, .int .i64 1, .func (.func 169) [] []], .bool true]) rfL22 280 = true := by kernel_rfl
theorem rf22 : RFact 28 [.str 7 32784620939210598] (.tuple [.agg [.int .i64 1, .int .i64 1, .func (.func 169) [] []], .bool true]) 24 rfL22 := factW_of_run noHook_ok rf22_run
noncomputable def rfL23 : List HO := [.mk 259 (.cells 9 false 0 0 [.str 1 43, .str 1 45, .str 1 42, .str 1 47, .str 1 37, .str 3 7171940, .str 2 12587, .str 2 12589, .str 1 60, .str 1 62, .str 2 15421, .str 2 15933, .str 1 61, .str 2 12093, .str 3 7168376, .str 3 7170414, .str 3 6382195, .str 6 119225731608164, .str 6 119225732132722, .str 6 119225733115762, .str 3 6386536, .str 4 1668247155, .str 3 6513010, .str 3 6513778, .str 6 126879581561202, .str 6 126879581561970, .str 4 1818850164, .str 3 7238760, .str 6 121446246605938, .str 6 119182899770472, .str 6 107135549927012, .str 7 32199706527560549, .str 8 7958535050699633509, .str 4 1835363697, .str 6 120282394289522, .str 4 1634956145, .str 5 418548772707, .str 4 1684368497, .str 6 110386773062757, .str 4 1818325876, .str 13 7878076896938898650436905886565, .str 9 2017714919724294959988, .str 9 2073847238226935768436, .str 9 2073847238226936362356, .str 2 25969, .str 3 6648172, .str 5 435695214956, .str 4 1853189228, .str 3 7237492, .str 4 1635020653, .str 5 427071271792, .str 5 465625642096, .str 7 32503133031591024, .str 8 7597137600295826032, .str 7 32497657065662320, .str 7 33325525081485936, .str 10 469439764969609476010608, .str 9 1890029705619886272112, .str 8 7594306396727374969, .str 6 115892955345509, .str 7 32784620939210598, .str 6 109330244526452, .str 9 2129834018470726561383, .str 7 32497657065662269, .str 7 32497657065662268, .str 6 129125564117861, .str 8 7237134442205115237, .str 10 469311716112611284712037, .str 16 153465846498675330771124613627041178994, .str 16 146824796847192063471655286726650850919, .str 14 2341702980021291057909005759832434, .str 14 2016228437741149294847839145913959, .str 14 2341702980021291057909005910897524, .str 11 132232964979059138306338407, .str 11 139576374293642703002364270, .str 12 35726687782111273258427444839, .str 13 9147277265708168193815465845608, .str 15 599475962885450510537381108849847664, .str 11 139599893388220497016221029, .str 6 115923120124526, .str 11 132232964979059159696830316, .str 6 113685342419309, .str 7 28818678475547760, .str 15 599576976627493665750704741168017262, .str 4 1718838644, .str 11 123826968624716620364082788, .str 3 6776180, .str 3 7370100, .str 6 130177832349554, .str 11 132232964979062372165775218, .str 4 1634887014, .str 4 1634952564, .str 6 112628847174004, .str 15 583857795910584082413495227398057575, .str 20 579160321529547095576505714402459299887035543143, .str 1 96])]
theorem rf23_run : segV (enter (run noHook 1000000) 9 [] (withL [] 256)) (.slice (K.of 259) 0 96 96 none) rfL23 260 = true := by kernel_rfl
theorem rf23 : RFact 9 [] (.slice (K.of 259) 0 96 96 none) 4 rfL23 := factW_of_run noHook_ok rf23_run
noncomputable def rfL24 : List HO := [.mk 256 (.cells 93 false 0 0 [.int .i64 100, .int .i64 0, .int .i64 0, .nilSlice, .nilSlice])]
theorem rf24_run : segV (enter (run noHook 1000000) 15 [.int .i64 100] (withL [] 256)) (.tuple [.ptr (K.of 256) 0, .int .i64 0]) rfL24 257 = true := by kernel_rfl
theorem rf24 : RFact 15 [.int .i64 100] (.tuple [.ptr (K.of 256) 0, .int .i64 0]) 1 rfL24 := factW_of_run noHook_ok rf24_run
noncomputable def rfL25 : List HO := [.mk 275 (.cells 3 false 0 0 [.int .i64 (-1)])]
theorem rf25_run : segV (enter (run noHook 1000000) 28 [.str 2 12589] (withL [] 256)) (.tuple [.agg [.int .i64 1, .int .i64 1, .func (.func 99) [] [.ptr (K.of 275) 0]], .bool true]) rfL25 298 = true := by kernel_rfl
theorem rf25 : RFact 28 [.str 2 12589] (.tuple [.agg [.int .i64 1, .int .i64 1, .func (.func 99) [] [.ptr (K.of 275) 0]], .bool true]) 42 rfL25 := factW_of_run noHook_ok rf25_run
noncomputable def rfL26 : List HO := [.mk 279 (.cells 175 false 0 0 [.func (.func 115) [] []])]
theorem rf26_run : segV (enter (run noHook 1000000) 28 [.str 2 15933] (withL [] 256)) (.tuple [.agg [.int .i64 1, .int .i64 (-1), .func (.func 254) [] [.ptr (K.of 279) 0]], .bool true]) rfL26 298 = true := by kernel_rfl
theorem rf26 : RFact 28 [.str 2 15933] (.tuple [.agg [.int .i64 1, .int .i64 (-1), .func (.func 254) [] [.ptr (K.of 279) 0]], .bool true]) 42 rfL26 := factW_of_run noHook_ok rf26_run
noncomputable def rfL27 : List HO := [.mk 282 (.cells 172 false 0 0 [.func (.func 106) [] []]), .mk 283 (.cells 169 false 0 0 [.func (.func 118) [] []])]
theorem rf27_run : segV (enter (run noHook 1000000) 28 [.str 3 7168376] (withL [] 256)) (.tuple [.agg [.int .i64 1, .int .i64 (-1), .func (.func 251) [] [.ptr (K.of 282) 0, .ptr (K.of 283) 0]], .bool true]) rfL27 298 = true := by kernel_rfl
theorem rf27 : RFact 28 [.str 3 7168376] (.tuple [.agg [.int .i64 1, .int .i64 (-1), .func (.func 251) [] [.ptr (K.of 282) 0, .ptr (K.of 283) 0]], .bool true]) 42 rfL27 := factW_of_run noHook_ok rf27_run
noncomputable def rfL28 : List HO := [.mk 286 (.cells 3 false 0 0 [.int .i64 (-1)]), .mk 287 (.cells 172 false 0 0 [.func (.func 253) [] [.ptr (K.of 286) 0]]), .mk 288 (.cells 169 false 0 0 [.func (.func 121) [] []])]
theorem rf28_run : segV (enter (run noHook 1000000) 28 [.str 6 119225731608164] (withL [] 256)) (.tuple [.agg [.int .i64 0, .int .i64 (-1), .func (.func 251) [] [.ptr (K.of 287) 0, .ptr (K.of 288) 0]], .bool true]) rfL28 298 = true := by kernel_rfl
theorem rf28 : RFact 28 [.str 6 119225731608164] (.tuple [.agg [.int .i64 0, .int .i64 (-1), .func (.func 251) [] [.ptr (K.of 287) 0, .ptr (K.of 288) 0]], .bool true]) 42 rfL28 := factW_of_run noHook_ok rf28_run
noncomputable def rfL29 : List HO := []
theorem rf29_run : segV (enter (run noHook 1000000) 28 [.str 4 1668247155] (withL [] 256)) (.tuple [.agg [.int .i64 2, .int .i64 2, .func (.func 126) [] []], .bool true]) rfL29 273 = true := by kernel_rfl
theorem rf29 : RFact 28 [.str 4 1668247155] (.tuple [.agg [.int .i64 2, .int .i64 2, .func (.func 126) [] []], .bool true]) 17 rfL29 := factW_of_run noHook_ok rf29_run
noncomputable def rfL30 : List HO := [.mk 265 (.cells 180 false 0 0 [.func (.func 131) [] []])]
theorem rf30_run : segV (enter (run noHook 1000000) 28 [.str 6 126879581561970] (withL [] 256)) (.tuple [.agg [.int .i64 2, .int .i64 2, .func (.func 256) [] [.ptr (K.of 265) 0]], .bool true]) rfL30 273 = true := by kernel_rfl
theorem rf30 : RFact 28 [.str 6 126879581561970] (.tuple [.agg [.int .i64 2, .int .i64 2, .func (.func 256) [] [.ptr (K.of 265) 0]], .bool true]) 17 rfL30 := factW_of_run noHook_ok rf30_run
noncomputable def rfL31 : List HO := []
theorem rf31_run : segV (enter (run noHook 1000000) 28 [.str 6 119182899770472] (withL [] 256)) (.tuple [.agg [.int .i64 1, .int .i64 1, .func (.func 136) [] []], .bool true]) rfL31 273 = true := by kernel_rfl
theorem rf31 : RFact 28 [.str 6 119182899770472] (.tuple [.agg [.int .i64 1, .int .i64 1, .func (.func 136) [] []], .bool true]) 17 rfL31 := factW_of_run noHook_ok rf31_run
noncomputable def rfL32 : List HO := [.mk 266 (.cells 184 false 0 0 [.func (.func 141) [] []])]
theorem rf32_run : segV (enter (run noHook 1000000) 28 [.str 4 1835363697] (withL [] 256)) (.tuple [.agg [.int .i64 2, .int .i64 2, .func (.func 264) [] [.ptr (K.of 266) 0]], .bool true]) rfL32 273 = true := by kernel_rfl
theorem rf32 : RFact 28 [.str 4 1835363697] (.tuple [.agg [.int .i64 2, .int .i64 2, .func (.func 264) [] [.ptr (K.of 266) 0]], .bool true]) 17 rfL32 := factW_of_run noHook_ok rf32_run
noncomputable def rfL33 : List HO := [.mk 269 (.cells 184 false 0 0 [.func (.func 144) [] []])]
theorem rf33_run : segV (enter (run noHook 1000000) 28 [.str 5 418548772707] (withL [] 256)) (.tuple [.agg [.int .i64 2, .int .i64 2, .func (.func 264) [] [.ptr (K.of 269) 0]], .bool true]) rfL33 273 = true := by kernel_rfl
theorem rf33 : RFact 28 [.str 5 418548772707] (.tuple [.agg [.int .i64 2, .int .i64 2, .func (.func 264) [] [.ptr (K.of 269) 0]], .bool true]) 17 rfL33 := factW_of_run noHook_ok rf33_run
noncomputable def rfL34 : List HO := []
theorem rf34_run : segV (enter (run noHook 1000000) 28 [.str 4 1818325876] (withL [] 256)) (.tuple [.agg [.int .i64 1, .int .i64 1, .func (.func 148) [] []], .bool true]) rfL34 273 = true := by kernel_rfl
theorem rf34 : RFact 28 [.str 4 1818325876] (.tuple [.agg [.int .i64 1, .int .i64 1, .func (.func 148) [] []], .bool true]) 17 rfL34 := factW_of_run noHook_ok rf34_run
noncomputable def rfL35 : List HO := []
theorem rf35_run : segV (enter (run noHook 1000000) 28 [.str 9 2073847238226935768436] (withL [] 256)) (.tuple [.agg [.int .i64 2, .int .i64 2, .func (.func 151) [] []], .bool true]) rfL35 273 = true := by kernel_rfl
theorem rf35 : RFact 28 [.str 9 2073847238226935768436] (.tuple [.agg [.int .i64 2, .int .i64 2, .func (.func 151) [] []], .bool true]) 17 rfL35 := factW_of_run noHook_ok rf35_run
end Go.Proofs.YtldcnedpfagliaaGreatDoor
