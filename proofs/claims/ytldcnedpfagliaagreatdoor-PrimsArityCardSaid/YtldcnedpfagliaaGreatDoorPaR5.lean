/- Closed calls that make memory of their own, each by a closed run. -/
import Derived.Test.YtldcnedpfagliaaGreatDoorEvRe
set_option linter.all false
set_option maxRecDepth 100000
namespace Go.Proofs.YtldcnedpfagliaaGreatDoor
open Go.Ev
noncomputable def rfL90 : List HO := [.mk 266 (.cells 185 false 0 0 [.func (.func 159) [] []])]
theorem rf90_run : segV (enter (run noHook 1000000) 28 [.str 4 1853189228] (withL [] 256)) (.tuple [.agg [.int .i64 1, .int .i64 1, .func (.func 154) [] [.ptr (K.of 266) 0]], .bool true]) rfL90 280 = true := by kernel_rfl
theorem rf90 : RFact 28 [.str 4 1853189228] (.tuple [.agg [.int .i64 1, .int .i64 1, .func (.func 154) [] [.ptr (K.of 266) 0]], .bool true]) 24 rfL90 := factW_of_run noHook_ok rf90_run
noncomputable def rfL91 : List HO := [.mk 269 (.cells 185 false 0 0 [.func (.func 160) [] []])]
theorem rf91_run : segV (enter (run noHook 1000000) 28 [.str 5 427071271792] (withL [] 256)) (.tuple [.agg [.int .i64 1, .int .i64 1, .func (.func 154) [] [.ptr (K.of 269) 0]], .bool true]) rfL91 280 = true := by kernel_rfl
theorem rf91 : RFact 28 [.str 5 427071271792] (.tuple [.agg [.int .i64 1, .int .i64 1, .func (.func 154) [] [.ptr (K.of 269) 0]], .bool true]) 24 rfL91 := factW_of_run noHook_ok rf91_run
noncomputable def rfL92 : List HO := [.mk 269 (.cells 185 false 0 0 [.func (.func 160) [] []])]
theorem rf92_run : segV (enter (run noHook 1000000) 28 [.str 8 7597137600295826032] (withL [] 256)) (.tuple [.agg [.int .i64 1, .int .i64 1, .func (.func 154) [] [.ptr (K.of 269) 0]], .bool true]) rfL92 280 = true := by kernel_rfl
theorem rf92 : RFact 28 [.str 8 7597137600295826032] (.tuple [.agg [.int .i64 1, .int .i64 1, .func (.func 154) [] [.ptr (K.of 269) 0]], .bool true]) 24 rfL92 := factW_of_run noHook_ok rf92_run
noncomputable def rfL93 : List HO := [.mk 269 (.cells 185 false 0 0 [.func (.func 160) [] []])]
theorem rf93_run : segV (enter (run noHook 1000000) 28 [.str 10 469439764969609476010608] (withL [] 256)) (.tuple [.agg [.int .i64 1, .int .i64 1, .func (.func 154) [] [.ptr (K.of 269) 0]], .bool true]) rfL93 280 = true := by kernel_rfl
theorem rf93 : RFact 28 [.str 10 469439764969609476010608] (.tuple [.agg [.int .i64 1, .int .i64 1, .func (.func 154) [] [.ptr (K.of 269) 0]], .bool true]) 24 rfL93 := factW_of_run noHook_ok rf93_run
noncomputable def rfL94 : List HO := []
theorem rf94_run : segV (enter (run noHook 1000000) 28 [.str 6 115892955345509] (withL [] 256)) (.tuple [.agg [.int .i64 0, .int .i64 (-1), .func (.func 168) [] []], .bool true]) rfL94 280 = true := by kernel_rfl
theorem rf94 : RFact 28 [.str 6 115892955345509] (.tuple [.agg [.int .i64 0, .int .i64 (-1), .func (.func 168) [] []], .bool true]) 24 rfL94 := factW_of_run noHook_ok rf94_run
noncomputable def rfL95 : List HO := [.mk 267 (.cells 190 false 0 0 [.func (.func 174) [] []])]
theorem rf95_run : segV (enter (run noHook 1000000) 28 [.str 7 32497657065662268] (withL [] 256)) (.tuple [.agg [.int .i64 2, .int .i64 2, .func (.func 284) [] [.ptr (K.of 267) 0]], .bool true]) rfL95 272 = true := by kernel_rfl
theorem rf95 : RFact 28 [.str 7 32497657065662268] (.tuple [.agg [.int .i64 2, .int .i64 2, .func (.func 284) [] [.ptr (K.of 267) 0]], .bool true]) 16 rfL95 := factW_of_run noHook_ok rf95_run
noncomputable def rfL96 : List HO := []
theorem rf96_run : segV (enter (run noHook 1000000) 28 [.str 16 146824796847192063471655286726650850919] (withL [] 256)) (.tuple [.agg [.int .i64 1, .int .i64 1, .func (.func 180) [] []], .bool true]) rfL96 272 = true := by kernel_rfl
theorem rf96 : RFact 28 [.str 16 146824796847192063471655286726650850919] (.tuple [.agg [.int .i64 1, .int .i64 1, .func (.func 180) [] []], .bool true]) 16 rfL96 := factW_of_run noHook_ok rf96_run
noncomputable def rfL97 : List HO := []
theorem rf97_run : segV (enter (run noHook 1000000) 28 [.str 14 2341702980021291057909005910897524] (withL [] 256)) (.tuple [.agg [.int .i64 1, .int .i64 1, .func (.func 183) [] []], .bool true]) rfL97 272 = true := by kernel_rfl
theorem rf97 : RFact 28 [.str 14 2341702980021291057909005910897524] (.tuple [.agg [.int .i64 1, .int .i64 1, .func (.func 183) [] []], .bool true]) 16 rfL97 := factW_of_run noHook_ok rf97_run
noncomputable def rfL98 : List HO := [.mk 270 (.cells 190 false 0 0 [.func (.func 188) [] []])]
theorem rf98_run : segV (enter (run noHook 1000000) 28 [.str 15 599475962885450510537381108849847664] (withL [] 256)) (.tuple [.agg [.int .i64 2, .int .i64 2, .func (.func 284) [] [.ptr (K.of 270) 0]], .bool true]) rfL98 272 = true := by kernel_rfl
theorem rf98 : RFact 28 [.str 15 599475962885450510537381108849847664] (.tuple [.agg [.int .i64 2, .int .i64 2, .func (.func 284) [] [.ptr (K.of 270) 0]], .bool true]) 16 rfL98 := factW_of_run noHook_ok rf98_run
noncomputable def rfL99 : List HO := []
theorem rf99_run : segV (enter (run noHook 1000000) 28 [.str 11 132232964979059159696830316] (withL [] 256)) (.tuple [.agg [.int .i64 1, .int .i64 1, .func (.func 192) [] []], .bool true]) rfL99 269 = true := by kernel_rfl
theorem rf99 : RFact 28 [.str 11 132232964979059159696830316] (.tuple [.agg [.int .i64 1, .int .i64 1, .func (.func 192) [] []], .bool true]) 13 rfL99 := factW_of_run noHook_ok rf99_run
noncomputable def rfL100 : List HO := []
theorem rf100_run : segV (enter (run noHook 1000000) 28 [.str 15 599576976627493665750704741168017262] (withL [] 256)) (.tuple [.agg [.int .i64 1, .int .i64 1, .func (.func 197) [] []], .bool true]) rfL100 269 = true := by kernel_rfl
theorem rf100 : RFact 28 [.str 15 599576976627493665750704741168017262] (.tuple [.agg [.int .i64 1, .int .i64 1, .func (.func 197) [] []], .bool true]) 13 rfL100 := factW_of_run noHook_ok rf100_run
noncomputable def rfL101 : List HO := []
theorem rf101_run : segV (enter (run noHook 1000000) 28 [.str 3 7370100] (withL [] 256)) (.tuple [.agg [.int .i64 3, .int .i64 3, .func (.func 204) [] []], .bool true]) rfL101 269 = true := by kernel_rfl
theorem rf101 : RFact 28 [.str 3 7370100] (.tuple [.agg [.int .i64 3, .int .i64 3, .func (.func 204) [] []], .bool true]) 13 rfL101 := factW_of_run noHook_ok rf101_run
noncomputable def rfL102 : List HO := []
theorem rf102_run : segV (enter (run noHook 1000000) 28 [.str 4 1634952564] (withL [] 256)) (.tuple [.agg [.int .i64 3, .int .i64 3, .func (.func 209) [] []], .bool true]) rfL102 269 = true := by kernel_rfl
theorem rf102 : RFact 28 [.str 4 1634952564] (.tuple [.agg [.int .i64 3, .int .i64 3, .func (.func 209) [] []], .bool true]) 13 rfL102 := factW_of_run noHook_ok rf102_run
noncomputable def rfL103 : List HO := []
theorem rf103_run : segV (enter (run noHook 1000000) 28 [.str 1 96] (withL [] 256)) (.tuple [.agg [.int .i64 1, .int .i64 1, .func (.func 213) [] []], .bool true]) rfL103 271 = true := by kernel_rfl
theorem rf103 : RFact 28 [.str 1 96] (.tuple [.agg [.int .i64 1, .int .i64 1, .func (.func 213) [] []], .bool true]) 15 rfL103 := factW_of_run noHook_ok rf103_run
end Go.Proofs.YtldcnedpfagliaaGreatDoor
