/- The law on its paths: each primitive, each number of arguments. -/
import Derived.Test.YtldcnedpfagliaaGreatDoorPaA
set_option linter.all false
set_option maxRecDepth 100000
namespace Go.Proofs.YtldcnedpfagliaaGreatDoor
open Go.Ev
noncomputable def rr32 : List HR := [.mk 9 [] (.slice (K.of 259) 0 96 96 none) 4 rfL23, .mk 11 [] (.slice (K.of 448) 0 96 96 (some 1)) 193 rfL50, .mk 15 [.int .i64 100] (.tuple [.ptr (K.of 256) 0, .int .i64 0]) 1 rfL24, .mk 8 [] (.ptr (K.of 257) 0) 127 rfL0, .mk 28 [.str 8 7958535050699633509] (.tuple [.agg [.int .i64 1, .int .i64 1, .func (.func 139) [] []], .bool true]) 17 rfL85]
theorem rr32_ok : HookOk (hooksR rr32) := hooksR_ok rr32 fun f vs v n L h => by
  simp only [rr32, List.mem_cons, List.not_mem_nil, or_false, HR.mk.injEq] at h
  rcases h with ⟨rfl, rfl, rfl, rfl, rfl⟩ | ⟨rfl, rfl, rfl, rfl, rfl⟩ | ⟨rfl, rfl, rfl, rfl, rfl⟩ | ⟨rfl, rfl, rfl, rfl, rfl⟩ | ⟨rfl, rfl, rfl, rfl, rfl⟩
  · exact ⟨rf23, by kernel_rfl, by kernel_rfl⟩
  · exact ⟨rf50, by kernel_rfl, by kernel_rfl⟩
  · exact ⟨rf24, by kernel_rfl, by kernel_rfl⟩
  · exact ⟨rf0, by kernel_rfl, by kernel_rfl⟩
  · exact ⟨rf85, by kernel_rfl, by kernel_rfl⟩
theorem law_32 : (upto21.all fun m => retV (enter (run (HK rr32 32 m) 1000000) 4 (largs 32 m) wS) (.bool true)) = true := by kernel_rfl
noncomputable def rr33 : List HR := [.mk 9 [] (.slice (K.of 259) 0 96 96 none) 4 rfL23, .mk 11 [] (.slice (K.of 448) 0 96 96 (some 1)) 193 rfL50, .mk 15 [.int .i64 100] (.tuple [.ptr (K.of 256) 0, .int .i64 0]) 1 rfL24, .mk 8 [] (.ptr (K.of 257) 0) 127 rfL0, .mk 28 [.str 4 1835363697] (.tuple [.agg [.int .i64 2, .int .i64 2, .func (.func 264) [] [.ptr (K.of 266) 0]], .bool true]) 17 rfL32]
theorem rr33_ok : HookOk (hooksR rr33) := hooksR_ok rr33 fun f vs v n L h => by
  simp only [rr33, List.mem_cons, List.not_mem_nil, or_false, HR.mk.injEq] at h
  rcases h with ⟨rfl, rfl, rfl, rfl, rfl⟩ | ⟨rfl, rfl, rfl, rfl, rfl⟩ | ⟨rfl, rfl, rfl, rfl, rfl⟩ | ⟨rfl, rfl, rfl, rfl, rfl⟩ | ⟨rfl, rfl, rfl, rfl, rfl⟩
  · exact ⟨rf23, by kernel_rfl, by kernel_rfl⟩
  · exact ⟨rf50, by kernel_rfl, by kernel_rfl⟩
  · exact ⟨rf24, by kernel_rfl, by kernel_rfl⟩
  · exact ⟨rf0, by kernel_rfl, by kernel_rfl⟩
  · exact ⟨rf32, by kernel_rfl, by kernel_rfl⟩
theorem law_33 : (upto21.all fun m => retV (enter (run (HK rr33 33 m) 1000000) 4 (largs 33 m) wS) (.bool true)) = true := by kernel_rfl
noncomputable def rr34 : List HR := [.mk 9 [] (.slice (K.of 259) 0 96 96 none) 4 rfL23, .mk 11 [] (.slice (K.of 448) 0 96 96 (some 1)) 193 rfL50, .mk 15 [.int .i64 100] (.tuple [.ptr (K.of 256) 0, .int .i64 0]) 1 rfL24, .mk 8 [] (.ptr (K.of 257) 0) 127 rfL0, .mk 28 [.str 6 120282394289522] (.tuple [.agg [.int .i64 2, .int .i64 2, .func (.func 264) [] [.ptr (K.of 267) 0]], .bool true]) 17 rfL59]
theorem rr34_ok : HookOk (hooksR rr34) := hooksR_ok rr34 fun f vs v n L h => by
  simp only [rr34, List.mem_cons, List.not_mem_nil, or_false, HR.mk.injEq] at h
  rcases h with ⟨rfl, rfl, rfl, rfl, rfl⟩ | ⟨rfl, rfl, rfl, rfl, rfl⟩ | ⟨rfl, rfl, rfl, rfl, rfl⟩ | ⟨rfl, rfl, rfl, rfl, rfl⟩ | ⟨rfl, rfl, rfl, rfl, rfl⟩
  · exact ⟨rf23, by kernel_rfl, by kernel_rfl⟩
  · exact ⟨rf50, by kernel_rfl, by kernel_rfl⟩
  · exact ⟨rf24, by kernel_rfl, by kernel_rfl⟩
  · exact ⟨rf0, by kernel_rfl, by kernel_rfl⟩
  · exact ⟨rf59, by kernel_rfl, by kernel_rfl⟩
theorem law_34 : (upto21.all fun m => retV (enter (run (HK rr34 34 m) 1000000) 4 (largs 34 m) wS) (.bool true)) = true := by kernel_rfl
noncomputable def rr35 : List HR := [.mk 9 [] (.slice (K.of 259) 0 96 96 none) 4 rfL23, .mk 11 [] (.slice (K.of 448) 0 96 96 (some 1)) 193 rfL50, .mk 15 [.int .i64 100] (.tuple [.ptr (K.of 256) 0, .int .i64 0]) 1 rfL24, .mk 8 [] (.ptr (K.of 257) 0) 127 rfL0, .mk 28 [.str 4 1634956145] (.tuple [.agg [.int .i64 2, .int .i64 2, .func (.func 264) [] [.ptr (K.of 268) 0]], .bool true]) 17 rfL86]
theorem rr35_ok : HookOk (hooksR rr35) := hooksR_ok rr35 fun f vs v n L h => by
  simp only [rr35, List.mem_cons, List.not_mem_nil, or_false, HR.mk.injEq] at h
  rcases h with ⟨rfl, rfl, rfl, rfl, rfl⟩ | ⟨rfl, rfl, rfl, rfl, rfl⟩ | ⟨rfl, rfl, rfl, rfl, rfl⟩ | ⟨rfl, rfl, rfl, rfl, rfl⟩ | ⟨rfl, rfl, rfl, rfl, rfl⟩
  · exact ⟨rf23, by kernel_rfl, by kernel_rfl⟩
  · exact ⟨rf50, by kernel_rfl, by kernel_rfl⟩
  · exact ⟨rf24, by kernel_rfl, by kernel_rfl⟩
  · exact ⟨rf0, by kernel_rfl, by kernel_rfl⟩
  · exact ⟨rf86, by kernel_rfl, by kernel_rfl⟩
theorem law_35 : (upto21.all fun m => retV (enter (run (HK rr35 35 m) 1000000) 4 (largs 35 m) wS) (.bool true)) = true := by kernel_rfl
noncomputable def rr36 : List HR := [.mk 9 [] (.slice (K.of 259) 0 96 96 none) 4 rfL23, .mk 11 [] (.slice (K.of 448) 0 96 96 (some 1)) 193 rfL50, .mk 15 [.int .i64 100] (.tuple [.ptr (K.of 256) 0, .int .i64 0]) 1 rfL24, .mk 8 [] (.ptr (K.of 257) 0) 127 rfL0, .mk 28 [.str 5 418548772707] (.tuple [.agg [.int .i64 2, .int .i64 2, .func (.func 264) [] [.ptr (K.of 269) 0]], .bool true]) 17 rfL33]
theorem rr36_ok : HookOk (hooksR rr36) := hooksR_ok rr36 fun f vs v n L h => by
  simp only [rr36, List.mem_cons, List.not_mem_nil, or_false, HR.mk.injEq] at h
  rcases h with ⟨rfl, rfl, rfl, rfl, rfl⟩ | ⟨rfl, rfl, rfl, rfl, rfl⟩ | ⟨rfl, rfl, rfl, rfl, rfl⟩ | ⟨rfl, rfl, rfl, rfl, rfl⟩ | ⟨rfl, rfl, rfl, rfl, rfl⟩
  · exact ⟨rf23, by kernel_rfl, by kernel_rfl⟩
  · exact ⟨rf50, by kernel_rfl, by kernel_rfl⟩
  · exact ⟨rf24, by kernel_rfl, by kernel_rfl⟩
  · exact ⟨rf0, by kernel_rfl, by kernel_rfl⟩
  · exact ⟨rf33, by kernel_rfl, by kernel_rfl⟩
theorem law_36 : (upto21.all fun m => retV (enter (run (HK rr36 36 m) 1000000) 4 (largs 36 m) wS) (.bool true)) = true := by kernel_rfl
noncomputable def rr37 : List HR := [.mk 9 [] (.slice (K.of 259) 0 96 96 none) 4 rfL23, .mk 11 [] (.slice (K.of 448) 0 96 96 (some 1)) 193 rfL50, .mk 15 [.int .i64 100] (.tuple [.ptr (K.of 256) 0, .int .i64 0]) 1 rfL24, .mk 8 [] (.ptr (K.of 257) 0) 127 rfL0, .mk 28 [.str 4 1684368497] (.tuple [.agg [.int .i64 2, .int .i64 2, .func (.func 268) [] [.ptr (K.of 270) 0]], .bool true]) 17 rfL60]
theorem rr37_ok : HookOk (hooksR rr37) := hooksR_ok rr37 fun f vs v n L h => by
  simp only [rr37, List.mem_cons, List.not_mem_nil, or_false, HR.mk.injEq] at h
  rcases h with ⟨rfl, rfl, rfl, rfl, rfl⟩ | ⟨rfl, rfl, rfl, rfl, rfl⟩ | ⟨rfl, rfl, rfl, rfl, rfl⟩ | ⟨rfl, rfl, rfl, rfl, rfl⟩ | ⟨rfl, rfl, rfl, rfl, rfl⟩
  · exact ⟨rf23, by kernel_rfl, by kernel_rfl⟩
  · exact ⟨rf50, by kernel_rfl, by kernel_rfl⟩
  · exact ⟨rf24, by kernel_rfl, by kernel_rfl⟩
  · exact ⟨rf0, by kernel_rfl, by kernel_rfl⟩
  · exact ⟨rf60, by kernel_rfl, by kernel_rfl⟩
theorem law_37 : (upto21.all fun m => retV (enter (run (HK rr37 37 m) 1000000) 4 (largs 37 m) wS) (.bool true)) = true := by kernel_rfl
noncomputable def rr38 : List HR := [.mk 9 [] (.slice (K.of 259) 0 96 96 none) 4 rfL23, .mk 11 [] (.slice (K.of 448) 0 96 96 (some 1)) 193 rfL50, .mk 15 [.int .i64 100] (.tuple [.ptr (K.of 256) 0, .int .i64 0]) 1 rfL24, .mk 8 [] (.ptr (K.of 257) 0) 127 rfL0, .mk 28 [.str 6 110386773062757] (.tuple [.agg [.int .i64 2, .int .i64 2, .func (.func 268) [] [.ptr (K.of 271) 0]], .bool true]) 17 rfL87]
theorem rr38_ok : HookOk (hooksR rr38) := hooksR_ok rr38 fun f vs v n L h => by
  simp only [rr38, List.mem_cons, List.not_mem_nil, or_false, HR.mk.injEq] at h
  rcases h with ⟨rfl, rfl, rfl, rfl, rfl⟩ | ⟨rfl, rfl, rfl, rfl, rfl⟩ | ⟨rfl, rfl, rfl, rfl, rfl⟩ | ⟨rfl, rfl, rfl, rfl, rfl⟩ | ⟨rfl, rfl, rfl, rfl, rfl⟩
  · exact ⟨rf23, by kernel_rfl, by kernel_rfl⟩
  · exact ⟨rf50, by kernel_rfl, by kernel_rfl⟩
  · exact ⟨rf24, by kernel_rfl, by kernel_rfl⟩
  · exact ⟨rf0, by kernel_rfl, by kernel_rfl⟩
  · exact ⟨rf87, by kernel_rfl, by kernel_rfl⟩
theorem law_38 : (upto21.all fun m => retV (enter (run (HK rr38 38 m) 1000000) 4 (largs 38 m) wS) (.bool true)) = true := by kernel_rfl
noncomputable def rr39 : List HR := [.mk 9 [] (.slice (K.of 259) 0 96 96 none) 4 rfL23, .mk 11 [] (.slice (K.of 448) 0 96 96 (some 1)) 193 rfL50, .mk 15 [.int .i64 100] (.tuple [.ptr (K.of 256) 0, .int .i64 0]) 1 rfL24, .mk 8 [] (.ptr (K.of 257) 0) 127 rfL0, .mk 28 [.str 4 1818325876] (.tuple [.agg [.int .i64 1, .int .i64 1, .func (.func 148) [] []], .bool true]) 17 rfL34]
theorem rr39_ok : HookOk (hooksR rr39) := hooksR_ok rr39 fun f vs v n L h => by
  simp only [rr39, List.mem_cons, List.not_mem_nil, or_false, HR.mk.injEq] at h
  rcases h with ⟨rfl, rfl, rfl, rfl, rfl⟩ | ⟨rfl, rfl, rfl, rfl, rfl⟩ | ⟨rfl, rfl, rfl, rfl, rfl⟩ | ⟨rfl, rfl, rfl, rfl, rfl⟩ | ⟨rfl, rfl, rfl, rfl, rfl⟩
  · exact ⟨rf23, by kernel_rfl, by kernel_rfl⟩
  · exact ⟨rf50, by kernel_rfl, by kernel_rfl⟩
  · exact ⟨rf24, by kernel_rfl, by kernel_rfl⟩
  · exact ⟨rf0, by kernel_rfl, by kernel_rfl⟩
  · exact ⟨rf34, by kernel_rfl, by kernel_rfl⟩
theorem law_39 : (upto21.all fun m => retV (enter (run (HK rr39 39 m) 1000000) 4 (largs 39 m) wS) (.bool true)) = true := by kernel_rfl
end Go.Proofs.YtldcnedpfagliaaGreatDoor
