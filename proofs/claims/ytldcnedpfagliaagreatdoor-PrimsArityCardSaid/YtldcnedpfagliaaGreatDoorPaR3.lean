/- Closed calls that make memory of their own, each by a closed run. -/
import Derived.Test.YtldcnedpfagliaaGreatDoorEvRe
set_option linter.all false
set_option maxRecDepth 100000
namespace Go.Proofs.YtldcnedpfagliaaGreatDoor
open Go.Ev
noncomputable def rfL54 : List HO := [.mk 284 (.cells 172 false 0 0 [.func (.func 106) [] []]), .mk 285 (.cells 169 false 0 0 [.func (.func 119) [] []])]
theorem rf54_run : segV (enter (run noHook 1000000) 28 [.str 3 7170414] (withL [] 256)) (.tuple [.agg [.int .i64 1, .int .i64 (-1), .func (.func 251) [] [.ptr (K.of 284) 0, .ptr (K.of 285) 0]], .bool true]) rfL54 298 = true := by kernel_rfl
theorem rf54 : RFact 28 [.str 3 7170414] (.tuple [.agg [.int .i64 1, .int .i64 (-1), .func (.func 251) [] [.ptr (K.of 284) 0, .ptr (K.of 285) 0]], .bool true]) 42 rfL54 := factW_of_run noHook_ok rf54_run
noncomputable def rfL55 : List HO := [.mk 289 (.cells 3 false 0 0 [.int .i64 0]), .mk 290 (.cells 172 false 0 0 [.func (.func 253) [] [.ptr (K.of 289) 0]]), .mk 291 (.cells 169 false 0 0 [.func (.func 122) [] []])]
theorem rf55_run : segV (enter (run noHook 1000000) 28 [.str 6 119225732132722] (withL [] 256)) (.tuple [.agg [.int .i64 0, .int .i64 (-1), .func (.func 251) [] [.ptr (K.of 290) 0, .ptr (K.of 291) 0]], .bool true]) rfL55 298 = true := by kernel_rfl
theorem rf55 : RFact 28 [.str 6 119225732132722] (.tuple [.agg [.int .i64 0, .int .i64 (-1), .func (.func 251) [] [.ptr (K.of 290) 0, .ptr (K.of 291) 0]], .bool true]) 42 rfL55 := factW_of_run noHook_ok rf55_run
noncomputable def rfL56 : List HO := [.mk 263 (.cells 178 false 0 0 [.func (.func 74) [] []])]
theorem rf56_run : segV (enter (run noHook 1000000) 28 [.str 3 6513778] (withL [] 256)) (.tuple [.agg [.int .i64 1, .int .i64 1, .func (.func 255) [] [.ptr (K.of 263) 0]], .bool true]) rfL56 273 = true := by kernel_rfl
theorem rf56 : RFact 28 [.str 3 6513778] (.tuple [.agg [.int .i64 1, .int .i64 1, .func (.func 255) [] [.ptr (K.of 263) 0]], .bool true]) 17 rfL56 := factW_of_run noHook_ok rf56_run
noncomputable def rfL57 : List HO := []
theorem rf57_run : segV (enter (run noHook 1000000) 28 [.str 4 1818850164] (withL [] 256)) (.tuple [.agg [.int .i64 0, .int .i64 (-1), .func (.func 132) [] []], .bool true]) rfL57 273 = true := by kernel_rfl
theorem rf57 : RFact 28 [.str 4 1818850164] (.tuple [.agg [.int .i64 0, .int .i64 (-1), .func (.func 132) [] []], .bool true]) 17 rfL57 := factW_of_run noHook_ok rf57_run
noncomputable def rfL58 : List HO := []
theorem rf58_run : segV (enter (run noHook 1000000) 28 [.str 7 32199706527560549] (withL [] 256)) (.tuple [.agg [.int .i64 1, .int .i64 1, .func (.func 138) [] []], .bool true]) rfL58 273 = true := by kernel_rfl
theorem rf58 : RFact 28 [.str 7 32199706527560549] (.tuple [.agg [.int .i64 1, .int .i64 1, .func (.func 138) [] []], .bool true]) 17 rfL58 := factW_of_run noHook_ok rf58_run
noncomputable def rfL59 : List HO := [.mk 267 (.cells 184 false 0 0 [.func (.func 142) [] []])]
theorem rf59_run : segV (enter (run noHook 1000000) 28 [.str 6 120282394289522] (withL [] 256)) (.tuple [.agg [.int .i64 2, .int .i64 2, .func (.func 264) [] [.ptr (K.of 267) 0]], .bool true]) rfL59 273 = true := by kernel_rfl
theorem rf59 : RFact 28 [.str 6 120282394289522] (.tuple [.agg [.int .i64 2, .int .i64 2, .func (.func 264) [] [.ptr (K.of 267) 0]], .bool true]) 17 rfL59 := factW_of_run noHook_ok rf59_run
noncomputable def rfL60 : List HO := [.mk 270 (.cells 184 false 0 0 [.func (.func 146) [] []])]
theorem rf60_run : segV (enter (run noHook 1000000) 28 [.str 4 1684368497] (withL [] 256)) (.tuple [.agg [.int .i64 2, .int .i64 2, .func (.func 268) [] [.ptr (K.of 270) 0]], .bool true]) rfL60 273 = true := by kernel_rfl
theorem rf60 : RFact 28 [.str 4 1684368497] (.tuple [.agg [.int .i64 2, .int .i64 2, .func (.func 268) [] [.ptr (K.of 270) 0]], .bool true]) 17 rfL60 := factW_of_run noHook_ok rf60_run
noncomputable def rfL61 : List HO := []
theorem rf61_run : segV (enter (run noHook 1000000) 28 [.str 13 7878076896938898650436905886565] (withL [] 256)) (.tuple [.agg [.int .i64 1, .int .i64 1, .func (.func 149) [] []], .bool true]) rfL61 273 = true := by kernel_rfl
theorem rf61 : RFact 28 [.str 13 7878076896938898650436905886565] (.tuple [.agg [.int .i64 1, .int .i64 1, .func (.func 149) [] []], .bool true]) 17 rfL61 := factW_of_run noHook_ok rf61_run
noncomputable def rfL62 : List HO := []
theorem rf62_run : segV (enter (run noHook 1000000) 28 [.str 9 2073847238226936362356] (withL [] 256)) (.tuple [.agg [.int .i64 3, .int .i64 3, .func (.func 152) [] []], .bool true]) rfL62 273 = true := by kernel_rfl
theorem rf62 : RFact 28 [.str 9 2073847238226936362356] (.tuple [.agg [.int .i64 3, .int .i64 3, .func (.func 152) [] []], .bool true]) 17 rfL62 := factW_of_run noHook_ok rf62_run
noncomputable def rfL63 : List HO := [.mk 273 (.cells 185 false 0 0 [.func (.func 162) [] []])]
theorem rf63_run : segV (enter (run noHook 1000000) 28 [.str 5 435695214956] (withL [] 256)) (.tuple [.agg [.int .i64 2, .int .i64 2, .func (.func 157) [] [.ptr (K.of 273) 0]], .bool true]) rfL63 280 = true := by kernel_rfl
theorem rf63 : RFact 28 [.str 5 435695214956] (.tuple [.agg [.int .i64 2, .int .i64 2, .func (.func 157) [] [.ptr (K.of 273) 0]], .bool true]) 24 rfL63 := factW_of_run noHook_ok rf63_run
noncomputable def rfL64 : List HO := [.mk 275 (.cells 185 false 0 0 [.func (.func 164) [] []])]
theorem rf64_run : segV (enter (run noHook 1000000) 28 [.str 4 1635020653] (withL [] 256)) (.tuple [.agg [.int .i64 1, .int .i64 1, .func (.func 154) [] [.ptr (K.of 275) 0]], .bool true]) rfL64 280 = true := by kernel_rfl
theorem rf64 : RFact 28 [.str 4 1635020653] (.tuple [.agg [.int .i64 1, .int .i64 1, .func (.func 154) [] [.ptr (K.of 275) 0]], .bool true]) 24 rfL64 := factW_of_run noHook_ok rf64_run
noncomputable def rfL65 : List HO := [.mk 269 (.cells 185 false 0 0 [.func (.func 160) [] []])]
theorem rf65_run : segV (enter (run noHook 1000000) 28 [.str 7 32503133031591024] (withL [] 256)) (.tuple [.agg [.int .i64 1, .int .i64 1, .func (.func 154) [] [.ptr (K.of 269) 0]], .bool true]) rfL65 280 = true := by kernel_rfl
theorem rf65 : RFact 28 [.str 7 32503133031591024] (.tuple [.agg [.int .i64 1, .int .i64 1, .func (.func 154) [] [.ptr (K.of 269) 0]], .bool true]) 24 rfL65 := factW_of_run noHook_ok rf65_run
noncomputable def rfL66 : List HO := [.mk 269 (.cells 185 false 0 0 [.func (.func 160) [] []])]
theorem rf66_run : segV (enter (run noHook 1000000) 28 [.str 7 33325525081485936] (withL [] 256)) (.tuple [.agg [.int .i64 1, .int .i64 1, .func (.func 154) [] [.ptr (K.of 269) 0]], .bool true]) rfL66 280 = true := by kernel_rfl
theorem rf66 : RFact 28 [.str 7 33325525081485936] (.tuple [.agg [.int .i64 1, .int .i64 1, .func (.func 154) [] [.ptr (K.of 269) 0]], .bool true]) 24 rfL66 := factW_of_run noHook_ok rf66_run
noncomputable def rfL67 : List HO := []
theorem rf67_run : segV (enter (run noHook 1000000) 28 [.str 8 7594306396727374969] (withL [] 256)) (.tuple [.agg [.int .i64 1, .int .i64 1, .func (.func 167) [] []], .bool true]) rfL67 280 = true := by kernel_rfl
theorem rf67 : RFact 28 [.str 8 7594306396727374969] (.tuple [.agg [.int .i64 1, .int .i64 1, .func (.func 167) [] []], .bool true]) 24 rfL67 := factW_of_run noHook_ok rf67_run
noncomputable def rfL68 : List HO := [.mk 266 (.cells 190 false 0 0 [.func (.func 173) [] []])]
theorem rf68_run : segV (enter (run noHook 1000000) 28 [.str 7 32497657065662269] (withL [] 256)) (.tuple [.agg [.int .i64 2, .int .i64 2, .func (.func 284) [] [.ptr (K.of 266) 0]], .bool true]) rfL68 272 = true := by kernel_rfl
theorem rf68 : RFact 28 [.str 7 32497657065662269] (.tuple [.agg [.int .i64 2, .int .i64 2, .func (.func 284) [] [.ptr (K.of 266) 0]], .bool true]) 16 rfL68 := factW_of_run noHook_ok rf68_run
noncomputable def rfL69 : List HO := [.mk 269 (.cells 154 false 0 0 [.func (.func 177) [] []])]
theorem rf69_run : segV (enter (run noHook 1000000) 28 [.str 8 7237134442205115237] (withL [] 256)) (.tuple [.agg [.int .i64 1, .int .i64 1, .func (.func 285) [] [.ptr (K.of 269) 0]], .bool true]) rfL69 272 = true := by kernel_rfl
theorem rf69 : RFact 28 [.str 8 7237134442205115237] (.tuple [.agg [.int .i64 1, .int .i64 1, .func (.func 285) [] [.ptr (K.of 269) 0]], .bool true]) 16 rfL69 := factW_of_run noHook_ok rf69_run
noncomputable def rfL70 : List HO := []
theorem rf70_run : segV (enter (run noHook 1000000) 28 [.str 14 2016228437741149294847839145913959] (withL [] 256)) (.tuple [.agg [.int .i64 1, .int .i64 1, .func (.func 182) [] []], .bool true]) rfL70 272 = true := by kernel_rfl
theorem rf70 : RFact 28 [.str 14 2016228437741149294847839145913959] (.tuple [.agg [.int .i64 1, .int .i64 1, .func (.func 182) [] []], .bool true]) 16 rfL70 := factW_of_run noHook_ok rf70_run
noncomputable def rfL71 : List HO := []
theorem rf71_run : segV (enter (run noHook 1000000) 28 [.str 11 139576374293642703002364270] (withL [] 256)) (.tuple [.agg [.int .i64 2, .int .i64 2, .func (.func 185) [] []], .bool true]) rfL71 272 = true := by kernel_rfl
theorem rf71 : RFact 28 [.str 11 139576374293642703002364270] (.tuple [.agg [.int .i64 2, .int .i64 2, .func (.func 185) [] []], .bool true]) 16 rfL71 := factW_of_run noHook_ok rf71_run
end Go.Proofs.YtldcnedpfagliaaGreatDoor
