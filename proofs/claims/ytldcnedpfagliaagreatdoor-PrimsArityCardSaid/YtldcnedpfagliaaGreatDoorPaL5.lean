/- The law on its paths: each primitive, each number of arguments. -/
import Derived.Test.YtldcnedpfagliaaGreatDoorPaA
set_option linter.all false
set_option maxRecDepth 100000
namespace Go.Proofs.YtldcnedpfagliaaGreatDoor
open Go.Ev
noncomputable def rr40 : List HR := [.mk 9 [] (.slice (K.of 259) 0 96 96 none) 4 rfL23, .mk 11 [] (.slice (K.of 448) 0 96 96 (some 1)) 193 rfL50, .mk 15 [.int .i64 100] (.tuple [.ptr (K.of 256) 0, .int .i64 0]) 1 rfL24, .mk 8 [] (.ptr (K.of 257) 0) 127 rfL0, .mk 28 [.str 13 7878076896938898650436905886565] (.tuple [.agg [.int .i64 1, .int .i64 1, .func (.func 149) [] []], .bool true]) 17 rfL61]
theorem rr40_ok : HookOk (hooksR rr40) := hooksR_ok rr40 fun f vs v n L h => by
  simp only [rr40, List.mem_cons, List.not_mem_nil, or_false, HR.mk.injEq] at h
  rcases h with ⟨rfl, rfl, rfl, rfl, rfl⟩ | ⟨rfl, rfl, rfl, rfl, rfl⟩ | ⟨rfl, rfl, rfl, rfl, rfl⟩ | ⟨rfl, rfl, rfl, rfl, rfl⟩ | ⟨rfl, rfl, rfl, rfl, rfl⟩
  · exact ⟨rf23, by kernel_rfl, by kernel_rfl⟩
  · exact ⟨rf50, by kernel_rfl, by kernel_rfl⟩
  · exact ⟨rf24, by kernel_rfl, by kernel_rfl⟩
  · exact ⟨rf0, by kernel_rfl, by kernel_rfl⟩
  · exact ⟨rf61, by kernel_rfl, by kernel_rfl⟩
theorem law_40 : (upto21.all fun m => retV (enter (run (HK rr40 40 m) 1000000) 4 (largs 40 m) wS) (.bool true)) = true := by kernel_rfl
noncomputable def rr41 : List HR := [.mk 9 [] (.slice (K.of 259) 0 96 96 none) 4 rfL23, .mk 11 [] (.slice (K.of 448) 0 96 96 (some 1)) 193 rfL50, .mk 15 [.int .i64 100] (.tuple [.ptr (K.of 256) 0, .int .i64 0]) 1 rfL24, .mk 8 [] (.ptr (K.of 257) 0) 127 rfL0, .mk 28 [.str 9 2017714919724294959988] (.tuple [.agg [.int .i64 2, .int .i64 2, .func (.func 150) [] []], .bool true]) 17 rfL88]
theorem rr41_ok : HookOk (hooksR rr41) := hooksR_ok rr41 fun f vs v n L h => by
  simp only [rr41, List.mem_cons, List.not_mem_nil, or_false, HR.mk.injEq] at h
  rcases h with ⟨rfl, rfl, rfl, rfl, rfl⟩ | ⟨rfl, rfl, rfl, rfl, rfl⟩ | ⟨rfl, rfl, rfl, rfl, rfl⟩ | ⟨rfl, rfl, rfl, rfl, rfl⟩ | ⟨rfl, rfl, rfl, rfl, rfl⟩
  · exact ⟨rf23, by kernel_rfl, by kernel_rfl⟩
  · exact ⟨rf50, by kernel_rfl, by kernel_rfl⟩
  · exact ⟨rf24, by kernel_rfl, by kernel_rfl⟩
  · exact ⟨rf0, by kernel_rfl, by kernel_rfl⟩
  · exact ⟨rf88, by kernel_rfl, by kernel_rfl⟩
theorem law_41 : (upto21.all fun m => retV (enter (run (HK rr41 41 m) 1000000) 4 (largs 41 m) wS) (.bool true)) = true := by kernel_rfl
noncomputable def rr42 : List HR := [.mk 9 [] (.slice (K.of 259) 0 96 96 none) 4 rfL23, .mk 11 [] (.slice (K.of 448) 0 96 96 (some 1)) 193 rfL50, .mk 15 [.int .i64 100] (.tuple [.ptr (K.of 256) 0, .int .i64 0]) 1 rfL24, .mk 8 [] (.ptr (K.of 257) 0) 127 rfL0, .mk 28 [.str 9 2073847238226935768436] (.tuple [.agg [.int .i64 2, .int .i64 2, .func (.func 151) [] []], .bool true]) 17 rfL35]
theorem rr42_ok : HookOk (hooksR rr42) := hooksR_ok rr42 fun f vs v n L h => by
  simp only [rr42, List.mem_cons, List.not_mem_nil, or_false, HR.mk.injEq] at h
  rcases h with ⟨rfl, rfl, rfl, rfl, rfl⟩ | ⟨rfl, rfl, rfl, rfl, rfl⟩ | ⟨rfl, rfl, rfl, rfl, rfl⟩ | ⟨rfl, rfl, rfl, rfl, rfl⟩ | ⟨rfl, rfl, rfl, rfl, rfl⟩
  · exact ⟨rf23, by kernel_rfl, by kernel_rfl⟩
  · exact ⟨rf50, by kernel_rfl, by kernel_rfl⟩
  · exact ⟨rf24, by kernel_rfl, by kernel_rfl⟩
  · exact ⟨rf0, by kernel_rfl, by kernel_rfl⟩
  · exact ⟨rf35, by kernel_rfl, by kernel_rfl⟩
theorem law_42 : (upto21.all fun m => retV (enter (run (HK rr42 42 m) 1000000) 4 (largs 42 m) wS) (.bool true)) = true := by kernel_rfl
noncomputable def rr43 : List HR := [.mk 9 [] (.slice (K.of 259) 0 96 96 none) 4 rfL23, .mk 11 [] (.slice (K.of 448) 0 96 96 (some 1)) 193 rfL50, .mk 15 [.int .i64 100] (.tuple [.ptr (K.of 256) 0, .int .i64 0]) 1 rfL24, .mk 8 [] (.ptr (K.of 257) 0) 127 rfL0, .mk 28 [.str 9 2073847238226936362356] (.tuple [.agg [.int .i64 3, .int .i64 3, .func (.func 152) [] []], .bool true]) 17 rfL62]
theorem rr43_ok : HookOk (hooksR rr43) := hooksR_ok rr43 fun f vs v n L h => by
  simp only [rr43, List.mem_cons, List.not_mem_nil, or_false, HR.mk.injEq] at h
  rcases h with ⟨rfl, rfl, rfl, rfl, rfl⟩ | ⟨rfl, rfl, rfl, rfl, rfl⟩ | ⟨rfl, rfl, rfl, rfl, rfl⟩ | ⟨rfl, rfl, rfl, rfl, rfl⟩ | ⟨rfl, rfl, rfl, rfl, rfl⟩
  · exact ⟨rf23, by kernel_rfl, by kernel_rfl⟩
  · exact ⟨rf50, by kernel_rfl, by kernel_rfl⟩
  · exact ⟨rf24, by kernel_rfl, by kernel_rfl⟩
  · exact ⟨rf0, by kernel_rfl, by kernel_rfl⟩
  · exact ⟨rf62, by kernel_rfl, by kernel_rfl⟩
theorem law_43 : (upto21.all fun m => retV (enter (run (HK rr43 43 m) 1000000) 4 (largs 43 m) wS) (.bool true)) = true := by kernel_rfl
noncomputable def rr44 : List HR := [.mk 9 [] (.slice (K.of 259) 0 96 96 none) 4 rfL23, .mk 11 [] (.slice (K.of 448) 0 96 96 (some 1)) 193 rfL50, .mk 15 [.int .i64 100] (.tuple [.ptr (K.of 256) 0, .int .i64 0]) 1 rfL24, .mk 8 [] (.ptr (K.of 257) 0) 127 rfL0, .mk 28 [.str 2 25969] (.tuple [.agg [.int .i64 2, .int .i64 2, .func (.func 157) [] [.ptr (K.of 263) 0]], .bool true]) 24 rfL89]
theorem rr44_ok : HookOk (hooksR rr44) := hooksR_ok rr44 fun f vs v n L h => by
  simp only [rr44, List.mem_cons, List.not_mem_nil, or_false, HR.mk.injEq] at h
  rcases h with ⟨rfl, rfl, rfl, rfl, rfl⟩ | ⟨rfl, rfl, rfl, rfl, rfl⟩ | ⟨rfl, rfl, rfl, rfl, rfl⟩ | ⟨rfl, rfl, rfl, rfl, rfl⟩ | ⟨rfl, rfl, rfl, rfl, rfl⟩
  · exact ⟨rf23, by kernel_rfl, by kernel_rfl⟩
  · exact ⟨rf50, by kernel_rfl, by kernel_rfl⟩
  · exact ⟨rf24, by kernel_rfl, by kernel_rfl⟩
  · exact ⟨rf0, by kernel_rfl, by kernel_rfl⟩
  · exact ⟨rf89, by kernel_rfl, by kernel_rfl⟩
theorem law_44 : (upto21.all fun m => retV (enter (run (HK rr44 44 m) 1000000) 4 (largs 44 m) wS) (.bool true)) = true := by kernel_rfl
noncomputable def rr45 : List HR := [.mk 9 [] (.slice (K.of 259) 0 96 96 none) 4 rfL23, .mk 11 [] (.slice (K.of 448) 0 96 96 (some 1)) 193 rfL50, .mk 15 [.int .i64 100] (.tuple [.ptr (K.of 256) 0, .int .i64 0]) 1 rfL24, .mk 8 [] (.ptr (K.of 257) 0) 127 rfL0, .mk 28 [.str 3 6648172] (.tuple [.agg [.int .i64 2, .int .i64 2, .func (.func 157) [] [.ptr (K.of 263) 0]], .bool true]) 24 rfL36]
theorem rr45_ok : HookOk (hooksR rr45) := hooksR_ok rr45 fun f vs v n L h => by
  simp only [rr45, List.mem_cons, List.not_mem_nil, or_false, HR.mk.injEq] at h
  rcases h with ⟨rfl, rfl, rfl, rfl, rfl⟩ | ⟨rfl, rfl, rfl, rfl, rfl⟩ | ⟨rfl, rfl, rfl, rfl, rfl⟩ | ⟨rfl, rfl, rfl, rfl, rfl⟩ | ⟨rfl, rfl, rfl, rfl, rfl⟩
  · exact ⟨rf23, by kernel_rfl, by kernel_rfl⟩
  · exact ⟨rf50, by kernel_rfl, by kernel_rfl⟩
  · exact ⟨rf24, by kernel_rfl, by kernel_rfl⟩
  · exact ⟨rf0, by kernel_rfl, by kernel_rfl⟩
  · exact ⟨rf36, by kernel_rfl, by kernel_rfl⟩
theorem law_45 : (upto21.all fun m => retV (enter (run (HK rr45 45 m) 1000000) 4 (largs 45 m) wS) (.bool true)) = true := by kernel_rfl
noncomputable def rr46 : List HR := [.mk 9 [] (.slice (K.of 259) 0 96 96 none) 4 rfL23, .mk 11 [] (.slice (K.of 448) 0 96 96 (some 1)) 193 rfL50, .mk 15 [.int .i64 100] (.tuple [.ptr (K.of 256) 0, .int .i64 0]) 1 rfL24, .mk 8 [] (.ptr (K.of 257) 0) 127 rfL0, .mk 28 [.str 5 435695214956] (.tuple [.agg [.int .i64 2, .int .i64 2, .func (.func 157) [] [.ptr (K.of 273) 0]], .bool true]) 24 rfL63]
theorem rr46_ok : HookOk (hooksR rr46) := hooksR_ok rr46 fun f vs v n L h => by
  simp only [rr46, List.mem_cons, List.not_mem_nil, or_false, HR.mk.injEq] at h
  rcases h with ⟨rfl, rfl, rfl, rfl, rfl⟩ | ⟨rfl, rfl, rfl, rfl, rfl⟩ | ⟨rfl, rfl, rfl, rfl, rfl⟩ | ⟨rfl, rfl, rfl, rfl, rfl⟩ | ⟨rfl, rfl, rfl, rfl, rfl⟩
  · exact ⟨rf23, by kernel_rfl, by kernel_rfl⟩
  · exact ⟨rf50, by kernel_rfl, by kernel_rfl⟩
  · exact ⟨rf24, by kernel_rfl, by kernel_rfl⟩
  · exact ⟨rf0, by kernel_rfl, by kernel_rfl⟩
  · exact ⟨rf63, by kernel_rfl, by kernel_rfl⟩
theorem law_46 : (upto21.all fun m => retV (enter (run (HK rr46 46 m) 1000000) 4 (largs 46 m) wS) (.bool true)) = true := by kernel_rfl
noncomputable def rr47 : List HR := [.mk 9 [] (.slice (K.of 259) 0 96 96 none) 4 rfL23, .mk 11 [] (.slice (K.of 448) 0 96 96 (some 1)) 193 rfL50, .mk 15 [.int .i64 100] (.tuple [.ptr (K.of 256) 0, .int .i64 0]) 1 rfL24, .mk 8 [] (.ptr (K.of 257) 0) 127 rfL0, .mk 28 [.str 4 1853189228] (.tuple [.agg [.int .i64 1, .int .i64 1, .func (.func 154) [] [.ptr (K.of 266) 0]], .bool true]) 24 rfL90]
theorem rr47_ok : HookOk (hooksR rr47) := hooksR_ok rr47 fun f vs v n L h => by
  simp only [rr47, List.mem_cons, List.not_mem_nil, or_false, HR.mk.injEq] at h
  rcases h with ⟨rfl, rfl, rfl, rfl, rfl⟩ | ⟨rfl, rfl, rfl, rfl, rfl⟩ | ⟨rfl, rfl, rfl, rfl, rfl⟩ | ⟨rfl, rfl, rfl, rfl, rfl⟩ | ⟨rfl, rfl, rfl, rfl, rfl⟩
  · exact ⟨rf23, by kernel_rfl, by kernel_rfl⟩
  · exact ⟨rf50, by kernel_rfl, by kernel_rfl⟩
  · exact ⟨rf24, by kernel_rfl, by kernel_rfl⟩
  · exact ⟨rf0, by kernel_rfl, by kernel_rfl⟩
  · exact ⟨rf90, by kernel_rfl, by kernel_rfl⟩
theorem law_47 : (upto21.all fun m => retV (enter (run (HK rr47 47 m) 1000000) 4 (largs 47 m) wS) (.bool true)) = true := by kernel_rfl
end Go.Proofs.YtldcnedpfagliaaGreatDoor
