/- The law on its paths: each primitive, each number of arguments. -/
import Derived.Test.YtldcnedpfagliaaGreatDoorPaA
set_option linter.all false
set_option maxRecDepth 100000
namespace Go.Proofs.YtldcnedpfagliaaGreatDoor
open Go.Ev
noncomputable def rr16 : List HR := [.mk 9 [] (.slice (K.of 259) 0 96 96 none) 4 rfL23, .mk 11 [] (.slice (K.of 448) 0 96 96 (some 1)) 193 rfL50, .mk 15 [.int .i64 100] (.tuple [.ptr (K.of 256) 0, .int .i64 0]) 1 rfL24, .mk 8 [] (.ptr (K.of 257) 0) 127 rfL0, .mk 28 [.str 3 6382195] (.tuple [.agg [.int .i64 1, .int .i64 1, .func (.func 120) [] []], .bool true]) 42 rfL81]
theorem rr16_ok : HookOk (hooksR rr16) := hooksR_ok rr16 fun f vs v n L h => by
  simp only [rr16, List.mem_cons, List.not_mem_nil, or_false, HR.mk.injEq] at h
  rcases h with ⟨rfl, rfl, rfl, rfl, rfl⟩ | ⟨rfl, rfl, rfl, rfl, rfl⟩ | ⟨rfl, rfl, rfl, rfl, rfl⟩ | ⟨rfl, rfl, rfl, rfl, rfl⟩ | ⟨rfl, rfl, rfl, rfl, rfl⟩
  · exact ⟨rf23, by kernel_rfl, by kernel_rfl⟩
  · exact ⟨rf50, by kernel_rfl, by kernel_rfl⟩
  · exact ⟨rf24, by kernel_rfl, by kernel_rfl⟩
  · exact ⟨rf0, by kernel_rfl, by kernel_rfl⟩
  · exact ⟨rf81, by kernel_rfl, by kernel_rfl⟩
theorem law_16 : (upto21.all fun m => retV (enter (run (HK rr16 16 m) 1000000) 4 (largs 16 m) wS) (.bool true)) = true := by kernel_rfl
noncomputable def rr17 : List HR := [.mk 9 [] (.slice (K.of 259) 0 96 96 none) 4 rfL23, .mk 11 [] (.slice (K.of 448) 0 96 96 (some 1)) 193 rfL50, .mk 15 [.int .i64 100] (.tuple [.ptr (K.of 256) 0, .int .i64 0]) 1 rfL24, .mk 8 [] (.ptr (K.of 257) 0) 127 rfL0, .mk 28 [.str 6 119225731608164] (.tuple [.agg [.int .i64 0, .int .i64 (-1), .func (.func 251) [] [.ptr (K.of 287) 0, .ptr (K.of 288) 0]], .bool true]) 42 rfL28]
theorem rr17_ok : HookOk (hooksR rr17) := hooksR_ok rr17 fun f vs v n L h => by
  simp only [rr17, List.mem_cons, List.not_mem_nil, or_false, HR.mk.injEq] at h
  rcases h with ⟨rfl, rfl, rfl, rfl, rfl⟩ | ⟨rfl, rfl, rfl, rfl, rfl⟩ | ⟨rfl, rfl, rfl, rfl, rfl⟩ | ⟨rfl, rfl, rfl, rfl, rfl⟩ | ⟨rfl, rfl, rfl, rfl, rfl⟩
  · exact ⟨rf23, by kernel_rfl, by kernel_rfl⟩
  · exact ⟨rf50, by kernel_rfl, by kernel_rfl⟩
  · exact ⟨rf24, by kernel_rfl, by kernel_rfl⟩
  · exact ⟨rf0, by kernel_rfl, by kernel_rfl⟩
  · exact ⟨rf28, by kernel_rfl, by kernel_rfl⟩
theorem law_17 : (upto21.all fun m => retV (enter (run (HK rr17 17 m) 1000000) 4 (largs 17 m) wS) (.bool true)) = true := by kernel_rfl
noncomputable def rr18 : List HR := [.mk 9 [] (.slice (K.of 259) 0 96 96 none) 4 rfL23, .mk 11 [] (.slice (K.of 448) 0 96 96 (some 1)) 193 rfL50, .mk 15 [.int .i64 100] (.tuple [.ptr (K.of 256) 0, .int .i64 0]) 1 rfL24, .mk 8 [] (.ptr (K.of 257) 0) 127 rfL0, .mk 28 [.str 6 119225732132722] (.tuple [.agg [.int .i64 0, .int .i64 (-1), .func (.func 251) [] [.ptr (K.of 290) 0, .ptr (K.of 291) 0]], .bool true]) 42 rfL55]
theorem rr18_ok : HookOk (hooksR rr18) := hooksR_ok rr18 fun f vs v n L h => by
  simp only [rr18, List.mem_cons, List.not_mem_nil, or_false, HR.mk.injEq] at h
  rcases h with ⟨rfl, rfl, rfl, rfl, rfl⟩ | ⟨rfl, rfl, rfl, rfl, rfl⟩ | ⟨rfl, rfl, rfl, rfl, rfl⟩ | ⟨rfl, rfl, rfl, rfl, rfl⟩ | ⟨rfl, rfl, rfl, rfl, rfl⟩
  · exact ⟨rf23, by kernel_rfl, by kernel_rfl⟩
  · exact ⟨rf50, by kernel_rfl, by kernel_rfl⟩
  · exact ⟨rf24, by kernel_rfl, by kernel_rfl⟩
  · exact ⟨rf0, by kernel_rfl, by kernel_rfl⟩
  · exact ⟨rf55, by kernel_rfl, by kernel_rfl⟩
theorem law_18 : (upto21.all fun m => retV (enter (run (HK rr18 18 m) 1000000) 4 (largs 18 m) wS) (.bool true)) = true := by kernel_rfl
noncomputable def rr19 : List HR := [.mk 9 [] (.slice (K.of 259) 0 96 96 none) 4 rfL23, .mk 11 [] (.slice (K.of 448) 0 96 96 (some 1)) 193 rfL50, .mk 15 [.int .i64 100] (.tuple [.ptr (K.of 256) 0, .int .i64 0]) 1 rfL24, .mk 8 [] (.ptr (K.of 257) 0) 127 rfL0, .mk 28 [.str 6 119225733115762] (.tuple [.agg [.int .i64 0, .int .i64 (-1), .func (.func 251) [] [.ptr (K.of 293) 0, .ptr (K.of 294) 0]], .bool true]) 42 rfL82]
theorem rr19_ok : HookOk (hooksR rr19) := hooksR_ok rr19 fun f vs v n L h => by
  simp only [rr19, List.mem_cons, List.not_mem_nil, or_false, HR.mk.injEq] at h
  rcases h with ⟨rfl, rfl, rfl, rfl, rfl⟩ | ⟨rfl, rfl, rfl, rfl, rfl⟩ | ⟨rfl, rfl, rfl, rfl, rfl⟩ | ⟨rfl, rfl, rfl, rfl, rfl⟩ | ⟨rfl, rfl, rfl, rfl, rfl⟩
  · exact ⟨rf23, by kernel_rfl, by kernel_rfl⟩
  · exact ⟨rf50, by kernel_rfl, by kernel_rfl⟩
  · exact ⟨rf24, by kernel_rfl, by kernel_rfl⟩
  · exact ⟨rf0, by kernel_rfl, by kernel_rfl⟩
  · exact ⟨rf82, by kernel_rfl, by kernel_rfl⟩
theorem law_19 : (upto21.all fun m => retV (enter (run (HK rr19 19 m) 1000000) 4 (largs 19 m) wS) (.bool true)) = true := by kernel_rfl
noncomputable def rr20 : List HR := [.mk 9 [] (.slice (K.of 259) 0 96 96 none) 4 rfL23, .mk 11 [] (.slice (K.of 448) 0 96 96 (some 1)) 193 rfL50, .mk 15 [.int .i64 100] (.tuple [.ptr (K.of 256) 0, .int .i64 0]) 1 rfL24, .mk 8 [] (.ptr (K.of 257) 0) 127 rfL0, .mk 28 [.str 3 6386536] (.tuple [.agg [.int .i64 2, .int .i64 2, .func (.func 251) [] [.ptr (K.of 295) 0, .ptr (K.of 296) 0]], .bool true]) 42 rfL10]
theorem rr20_ok : HookOk (hooksR rr20) := hooksR_ok rr20 fun f vs v n L h => by
  simp only [rr20, List.mem_cons, List.not_mem_nil, or_false, HR.mk.injEq] at h
  rcases h with ⟨rfl, rfl, rfl, rfl, rfl⟩ | ⟨rfl, rfl, rfl, rfl, rfl⟩ | ⟨rfl, rfl, rfl, rfl, rfl⟩ | ⟨rfl, rfl, rfl, rfl, rfl⟩ | ⟨rfl, rfl, rfl, rfl, rfl⟩
  · exact ⟨rf23, by kernel_rfl, by kernel_rfl⟩
  · exact ⟨rf50, by kernel_rfl, by kernel_rfl⟩
  · exact ⟨rf24, by kernel_rfl, by kernel_rfl⟩
  · exact ⟨rf0, by kernel_rfl, by kernel_rfl⟩
  · exact ⟨rf10, by kernel_rfl, by kernel_rfl⟩
theorem law_20 : (upto21.all fun m => retV (enter (run (HK rr20 20 m) 1000000) 4 (largs 20 m) wS) (.bool true)) = true := by kernel_rfl
noncomputable def rr21 : List HR := [.mk 9 [] (.slice (K.of 259) 0 96 96 none) 4 rfL23, .mk 11 [] (.slice (K.of 448) 0 96 96 (some 1)) 193 rfL50, .mk 15 [.int .i64 100] (.tuple [.ptr (K.of 256) 0, .int .i64 0]) 1 rfL24, .mk 8 [] (.ptr (K.of 257) 0) 127 rfL0, .mk 28 [.str 4 1668247155] (.tuple [.agg [.int .i64 2, .int .i64 2, .func (.func 126) [] []], .bool true]) 17 rfL29]
theorem rr21_ok : HookOk (hooksR rr21) := hooksR_ok rr21 fun f vs v n L h => by
  simp only [rr21, List.mem_cons, List.not_mem_nil, or_false, HR.mk.injEq] at h
  rcases h with ⟨rfl, rfl, rfl, rfl, rfl⟩ | ⟨rfl, rfl, rfl, rfl, rfl⟩ | ⟨rfl, rfl, rfl, rfl, rfl⟩ | ⟨rfl, rfl, rfl, rfl, rfl⟩ | ⟨rfl, rfl, rfl, rfl, rfl⟩
  · exact ⟨rf23, by kernel_rfl, by kernel_rfl⟩
  · exact ⟨rf50, by kernel_rfl, by kernel_rfl⟩
  · exact ⟨rf24, by kernel_rfl, by kernel_rfl⟩
  · exact ⟨rf0, by kernel_rfl, by kernel_rfl⟩
  · exact ⟨rf29, by kernel_rfl, by kernel_rfl⟩
theorem law_21 : (upto21.all fun m => retV (enter (run (HK rr21 21 m) 1000000) 4 (largs 21 m) wS) (.bool true)) = true := by kernel_rfl
noncomputable def rr22 : List HR := [.mk 9 [] (.slice (K.of 259) 0 96 96 none) 4 rfL23, .mk 11 [] (.slice (K.of 448) 0 96 96 (some 1)) 193 rfL50, .mk 15 [.int .i64 100] (.tuple [.ptr (K.of 256) 0, .int .i64 0]) 1 rfL24, .mk 8 [] (.ptr (K.of 257) 0) 127 rfL0, .mk 28 [.str 3 6513010] (.tuple [.agg [.int .i64 1, .int .i64 1, .func (.func 255) [] [.ptr (K.of 262) 0]], .bool true]) 17 rfL17]
theorem rr22_ok : HookOk (hooksR rr22) := hooksR_ok rr22 fun f vs v n L h => by
  simp only [rr22, List.mem_cons, List.not_mem_nil, or_false, HR.mk.injEq] at h
  rcases h with ⟨rfl, rfl, rfl, rfl, rfl⟩ | ⟨rfl, rfl, rfl, rfl, rfl⟩ | ⟨rfl, rfl, rfl, rfl, rfl⟩ | ⟨rfl, rfl, rfl, rfl, rfl⟩ | ⟨rfl, rfl, rfl, rfl, rfl⟩
  · exact ⟨rf23, by kernel_rfl, by kernel_rfl⟩
  · exact ⟨rf50, by kernel_rfl, by kernel_rfl⟩
  · exact ⟨rf24, by kernel_rfl, by kernel_rfl⟩
  · exact ⟨rf0, by kernel_rfl, by kernel_rfl⟩
  · exact ⟨rf17, by kernel_rfl, by kernel_rfl⟩
theorem law_22 : (upto21.all fun m => retV (enter (run (HK rr22 22 m) 1000000) 4 (largs 22 m) wS) (.bool true)) = true := by kernel_rfl
noncomputable def rr23 : List HR := [.mk 9 [] (.slice (K.of 259) 0 96 96 none) 4 rfL23, .mk 11 [] (.slice (K.of 448) 0 96 96 (some 1)) 193 rfL50, .mk 15 [.int .i64 100] (.tuple [.ptr (K.of 256) 0, .int .i64 0]) 1 rfL24, .mk 8 [] (.ptr (K.of 257) 0) 127 rfL0, .mk 28 [.str 3 6513778] (.tuple [.agg [.int .i64 1, .int .i64 1, .func (.func 255) [] [.ptr (K.of 263) 0]], .bool true]) 17 rfL56]
theorem rr23_ok : HookOk (hooksR rr23) := hooksR_ok rr23 fun f vs v n L h => by
  simp only [rr23, List.mem_cons, List.not_mem_nil, or_false, HR.mk.injEq] at h
  rcases h with ⟨rfl, rfl, rfl, rfl, rfl⟩ | ⟨rfl, rfl, rfl, rfl, rfl⟩ | ⟨rfl, rfl, rfl, rfl, rfl⟩ | ⟨rfl, rfl, rfl, rfl, rfl⟩ | ⟨rfl, rfl, rfl, rfl, rfl⟩
  · exact ⟨rf23, by kernel_rfl, by kernel_rfl⟩
  · exact ⟨rf50, by kernel_rfl, by kernel_rfl⟩
  · exact ⟨rf24, by kernel_rfl, by kernel_rfl⟩
  · exact ⟨rf0, by kernel_rfl, by kernel_rfl⟩
  · exact ⟨rf56, by kernel_rfl, by kernel_rfl⟩
theorem law_23 : (upto21.all fun m => retV (enter (run (HK rr23 23 m) 1000000) 4 (largs 23 m) wS) (.bool true)) = true := by kernel_rfl
end Go.Proofs.YtldcnedpfagliaaGreatDoor
