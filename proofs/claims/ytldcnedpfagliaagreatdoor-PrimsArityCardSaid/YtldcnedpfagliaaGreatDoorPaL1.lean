/- The law on its paths: each primitive, each number of arguments. -/
import Derived.Test.YtldcnedpfagliaaGreatDoorPaA
set_option linter.all false
set_option maxRecDepth 100000
namespace Go.Proofs.YtldcnedpfagliaaGreatDoor
open Go.Ev
noncomputable def rr8 : List HR := [.mk 9 [] (.slice (K.of 259) 0 96 96 none) 4 rfL23, .mk 11 [] (.slice (K.of 448) 0 96 96 (some 1)) 193 rfL50, .mk 15 [.int .i64 100] (.tuple [.ptr (K.of 256) 0, .int .i64 0]) 1 rfL24, .mk 8 [] (.ptr (K.of 257) 0) 127 rfL0, .mk 28 [.str 1 60] (.tuple [.agg [.int .i64 1, .int .i64 (-1), .func (.func 254) [] [.ptr (K.of 276) 0]], .bool true]) 42 rfL11]
theorem rr8_ok : HookOk (hooksR rr8) := hooksR_ok rr8 fun f vs v n L h => by
  simp only [rr8, List.mem_cons, List.not_mem_nil, or_false, HR.mk.injEq] at h
  rcases h with ⟨rfl, rfl, rfl, rfl, rfl⟩ | ⟨rfl, rfl, rfl, rfl, rfl⟩ | ⟨rfl, rfl, rfl, rfl, rfl⟩ | ⟨rfl, rfl, rfl, rfl, rfl⟩ | ⟨rfl, rfl, rfl, rfl, rfl⟩
  · exact ⟨rf23, by kernel_rfl, by kernel_rfl⟩
  · exact ⟨rf50, by kernel_rfl, by kernel_rfl⟩
  · exact ⟨rf24, by kernel_rfl, by kernel_rfl⟩
  · exact ⟨rf0, by kernel_rfl, by kernel_rfl⟩
  · exact ⟨rf11, by kernel_rfl, by kernel_rfl⟩
theorem law_8 : (upto21.all fun m => retV (enter (run (HK rr8 8 m) 1000000) 4 (largs 8 m) wS) (.bool true)) = true := by kernel_rfl
noncomputable def rr9 : List HR := [.mk 9 [] (.slice (K.of 259) 0 96 96 none) 4 rfL23, .mk 11 [] (.slice (K.of 448) 0 96 96 (some 1)) 193 rfL50, .mk 15 [.int .i64 100] (.tuple [.ptr (K.of 256) 0, .int .i64 0]) 1 rfL24, .mk 8 [] (.ptr (K.of 257) 0) 127 rfL0, .mk 28 [.str 1 62] (.tuple [.agg [.int .i64 1, .int .i64 (-1), .func (.func 254) [] [.ptr (K.of 277) 0]], .bool true]) 42 rfL52]
theorem rr9_ok : HookOk (hooksR rr9) := hooksR_ok rr9 fun f vs v n L h => by
  simp only [rr9, List.mem_cons, List.not_mem_nil, or_false, HR.mk.injEq] at h
  rcases h with ⟨rfl, rfl, rfl, rfl, rfl⟩ | ⟨rfl, rfl, rfl, rfl, rfl⟩ | ⟨rfl, rfl, rfl, rfl, rfl⟩ | ⟨rfl, rfl, rfl, rfl, rfl⟩ | ⟨rfl, rfl, rfl, rfl, rfl⟩
  · exact ⟨rf23, by kernel_rfl, by kernel_rfl⟩
  · exact ⟨rf50, by kernel_rfl, by kernel_rfl⟩
  · exact ⟨rf24, by kernel_rfl, by kernel_rfl⟩
  · exact ⟨rf0, by kernel_rfl, by kernel_rfl⟩
  · exact ⟨rf52, by kernel_rfl, by kernel_rfl⟩
theorem law_9 : (upto21.all fun m => retV (enter (run (HK rr9 9 m) 1000000) 4 (largs 9 m) wS) (.bool true)) = true := by kernel_rfl
noncomputable def rr10 : List HR := [.mk 9 [] (.slice (K.of 259) 0 96 96 none) 4 rfL23, .mk 11 [] (.slice (K.of 448) 0 96 96 (some 1)) 193 rfL50, .mk 15 [.int .i64 100] (.tuple [.ptr (K.of 256) 0, .int .i64 0]) 1 rfL24, .mk 8 [] (.ptr (K.of 257) 0) 127 rfL0, .mk 28 [.str 2 15421] (.tuple [.agg [.int .i64 1, .int .i64 (-1), .func (.func 254) [] [.ptr (K.of 278) 0]], .bool true]) 42 rfL79]
theorem rr10_ok : HookOk (hooksR rr10) := hooksR_ok rr10 fun f vs v n L h => by
  simp only [rr10, List.mem_cons, List.not_mem_nil, or_false, HR.mk.injEq] at h
  rcases h with ⟨rfl, rfl, rfl, rfl, rfl⟩ | ⟨rfl, rfl, rfl, rfl, rfl⟩ | ⟨rfl, rfl, rfl, rfl, rfl⟩ | ⟨rfl, rfl, rfl, rfl, rfl⟩ | ⟨rfl, rfl, rfl, rfl, rfl⟩
  · exact ⟨rf23, by kernel_rfl, by kernel_rfl⟩
  · exact ⟨rf50, by kernel_rfl, by kernel_rfl⟩
  · exact ⟨rf24, by kernel_rfl, by kernel_rfl⟩
  · exact ⟨rf0, by kernel_rfl, by kernel_rfl⟩
  · exact ⟨rf79, by kernel_rfl, by kernel_rfl⟩
theorem law_10 : (upto21.all fun m => retV (enter (run (HK rr10 10 m) 1000000) 4 (largs 10 m) wS) (.bool true)) = true := by kernel_rfl
noncomputable def rr11 : List HR := [.mk 9 [] (.slice (K.of 259) 0 96 96 none) 4 rfL23, .mk 11 [] (.slice (K.of 448) 0 96 96 (some 1)) 193 rfL50, .mk 15 [.int .i64 100] (.tuple [.ptr (K.of 256) 0, .int .i64 0]) 1 rfL24, .mk 8 [] (.ptr (K.of 257) 0) 127 rfL0, .mk 28 [.str 2 15933] (.tuple [.agg [.int .i64 1, .int .i64 (-1), .func (.func 254) [] [.ptr (K.of 279) 0]], .bool true]) 42 rfL26]
theorem rr11_ok : HookOk (hooksR rr11) := hooksR_ok rr11 fun f vs v n L h => by
  simp only [rr11, List.mem_cons, List.not_mem_nil, or_false, HR.mk.injEq] at h
  rcases h with ⟨rfl, rfl, rfl, rfl, rfl⟩ | ⟨rfl, rfl, rfl, rfl, rfl⟩ | ⟨rfl, rfl, rfl, rfl, rfl⟩ | ⟨rfl, rfl, rfl, rfl, rfl⟩ | ⟨rfl, rfl, rfl, rfl, rfl⟩
  · exact ⟨rf23, by kernel_rfl, by kernel_rfl⟩
  · exact ⟨rf50, by kernel_rfl, by kernel_rfl⟩
  · exact ⟨rf24, by kernel_rfl, by kernel_rfl⟩
  · exact ⟨rf0, by kernel_rfl, by kernel_rfl⟩
  · exact ⟨rf26, by kernel_rfl, by kernel_rfl⟩
theorem law_11 : (upto21.all fun m => retV (enter (run (HK rr11 11 m) 1000000) 4 (largs 11 m) wS) (.bool true)) = true := by kernel_rfl
noncomputable def rr12 : List HR := [.mk 9 [] (.slice (K.of 259) 0 96 96 none) 4 rfL23, .mk 11 [] (.slice (K.of 448) 0 96 96 (some 1)) 193 rfL50, .mk 15 [.int .i64 100] (.tuple [.ptr (K.of 256) 0, .int .i64 0]) 1 rfL24, .mk 8 [] (.ptr (K.of 257) 0) 127 rfL0, .mk 28 [.str 1 61] (.tuple [.agg [.int .i64 1, .int .i64 (-1), .func (.func 254) [] [.ptr (K.of 280) 0]], .bool true]) 42 rfL53]
theorem rr12_ok : HookOk (hooksR rr12) := hooksR_ok rr12 fun f vs v n L h => by
  simp only [rr12, List.mem_cons, List.not_mem_nil, or_false, HR.mk.injEq] at h
  rcases h with ⟨rfl, rfl, rfl, rfl, rfl⟩ | ⟨rfl, rfl, rfl, rfl, rfl⟩ | ⟨rfl, rfl, rfl, rfl, rfl⟩ | ⟨rfl, rfl, rfl, rfl, rfl⟩ | ⟨rfl, rfl, rfl, rfl, rfl⟩
  · exact ⟨rf23, by kernel_rfl, by kernel_rfl⟩
  · exact ⟨rf50, by kernel_rfl, by kernel_rfl⟩
  · exact ⟨rf24, by kernel_rfl, by kernel_rfl⟩
  · exact ⟨rf0, by kernel_rfl, by kernel_rfl⟩
  · exact ⟨rf53, by kernel_rfl, by kernel_rfl⟩
theorem law_12 : (upto21.all fun m => retV (enter (run (HK rr12 12 m) 1000000) 4 (largs 12 m) wS) (.bool true)) = true := by kernel_rfl
noncomputable def rr13 : List HR := [.mk 9 [] (.slice (K.of 259) 0 96 96 none) 4 rfL23, .mk 11 [] (.slice (K.of 448) 0 96 96 (some 1)) 193 rfL50, .mk 15 [.int .i64 100] (.tuple [.ptr (K.of 256) 0, .int .i64 0]) 1 rfL24, .mk 8 [] (.ptr (K.of 257) 0) 127 rfL0, .mk 28 [.str 2 12093] (.tuple [.agg [.int .i64 2, .int .i64 2, .func (.func 254) [] [.ptr (K.of 281) 0]], .bool true]) 42 rfL80]
theorem rr13_ok : HookOk (hooksR rr13) := hooksR_ok rr13 fun f vs v n L h => by
  simp only [rr13, List.mem_cons, List.not_mem_nil, or_false, HR.mk.injEq] at h
  rcases h with ⟨rfl, rfl, rfl, rfl, rfl⟩ | ⟨rfl, rfl, rfl, rfl, rfl⟩ | ⟨rfl, rfl, rfl, rfl, rfl⟩ | ⟨rfl, rfl, rfl, rfl, rfl⟩ | ⟨rfl, rfl, rfl, rfl, rfl⟩
  · exact ⟨rf23, by kernel_rfl, by kernel_rfl⟩
  · exact ⟨rf50, by kernel_rfl, by kernel_rfl⟩
  · exact ⟨rf24, by kernel_rfl, by kernel_rfl⟩
  · exact ⟨rf0, by kernel_rfl, by kernel_rfl⟩
  · exact ⟨rf80, by kernel_rfl, by kernel_rfl⟩
theorem law_13 : (upto21.all fun m => retV (enter (run (HK rr13 13 m) 1000000) 4 (largs 13 m) wS) (.bool true)) = true := by kernel_rfl
noncomputable def rr14 : List HR := [.mk 9 [] (.slice (K.of 259) 0 96 96 none) 4 rfL23, .mk 11 [] (.slice (K.of 448) 0 96 96 (some 1)) 193 rfL50, .mk 15 [.int .i64 100] (.tuple [.ptr (K.of 256) 0, .int .i64 0]) 1 rfL24, .mk 8 [] (.ptr (K.of 257) 0) 127 rfL0, .mk 28 [.str 3 7168376] (.tuple [.agg [.int .i64 1, .int .i64 (-1), .func (.func 251) [] [.ptr (K.of 282) 0, .ptr (K.of 283) 0]], .bool true]) 42 rfL27]
theorem rr14_ok : HookOk (hooksR rr14) := hooksR_ok rr14 fun f vs v n L h => by
  simp only [rr14, List.mem_cons, List.not_mem_nil, or_false, HR.mk.injEq] at h
  rcases h with ⟨rfl, rfl, rfl, rfl, rfl⟩ | ⟨rfl, rfl, rfl, rfl, rfl⟩ | ⟨rfl, rfl, rfl, rfl, rfl⟩ | ⟨rfl, rfl, rfl, rfl, rfl⟩ | ⟨rfl, rfl, rfl, rfl, rfl⟩
  · exact ⟨rf23, by kernel_rfl, by kernel_rfl⟩
  · exact ⟨rf50, by kernel_rfl, by kernel_rfl⟩
  · exact ⟨rf24, by kernel_rfl, by kernel_rfl⟩
  · exact ⟨rf0, by kernel_rfl, by kernel_rfl⟩
  · exact ⟨rf27, by kernel_rfl, by kernel_rfl⟩
theorem law_14 : (upto21.all fun m => retV (enter (run (HK rr14 14 m) 1000000) 4 (largs 14 m) wS) (.bool true)) = true := by kernel_rfl
noncomputable def rr15 : List HR := [.mk 9 [] (.slice (K.of 259) 0 96 96 none) 4 rfL23, .mk 11 [] (.slice (K.of 448) 0 96 96 (some 1)) 193 rfL50, .mk 15 [.int .i64 100] (.tuple [.ptr (K.of 256) 0, .int .i64 0]) 1 rfL24, .mk 8 [] (.ptr (K.of 257) 0) 127 rfL0, .mk 28 [.str 3 7170414] (.tuple [.agg [.int .i64 1, .int .i64 (-1), .func (.func 251) [] [.ptr (K.of 284) 0, .ptr (K.of 285) 0]], .bool true]) 42 rfL54]
theorem rr15_ok : HookOk (hooksR rr15) := hooksR_ok rr15 fun f vs v n L h => by
  simp only [rr15, List.mem_cons, List.not_mem_nil, or_false, HR.mk.injEq] at h
  rcases h with ⟨rfl, rfl, rfl, rfl, rfl⟩ | ⟨rfl, rfl, rfl, rfl, rfl⟩ | ⟨rfl, rfl, rfl, rfl, rfl⟩ | ⟨rfl, rfl, rfl, rfl, rfl⟩ | ⟨rfl, rfl, rfl, rfl, rfl⟩
  · exact ⟨rf23, by kernel_rfl, by kernel_rfl⟩
  · exact ⟨rf50, by kernel_rfl, by kernel_rfl⟩
  · exact ⟨rf24, by kernel_rfl, by kernel_rfl⟩
  · exact ⟨rf0, by kernel_rfl, by kernel_rfl⟩
  · exact ⟨rf54, by kernel_rfl, by kernel_rfl⟩
theorem law_15 : (upto21.all fun m => retV (enter (run (HK rr15 15 m) 1000000) 4 (largs 15 m) wS) (.bool true)) = true := by kernel_rfl
end Go.Proofs.YtldcnedpfagliaaGreatDoor
