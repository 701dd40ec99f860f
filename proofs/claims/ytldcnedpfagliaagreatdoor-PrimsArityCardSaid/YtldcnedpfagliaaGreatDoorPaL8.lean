/- The law on its paths: each primitive, each number of arguments. -/
import Derived.Test.YtldcnedpfagliaaGreatDoorPaA
set_option linter.all false
set_option maxRecDepth 100000
namespace Go.Proofs.YtldcnedpfagliaaGreatDoor
open Go.Ev
noncomputable def rr64 : List HR := [.mk 9 [] (.slice (K.of 259) 0 96 96 none) 4 rfL23, .mk 11 [] (.slice (K.of 448) 0 96 96 (some 1)) 193 rfL50, .mk 15 [.int .i64 100] (.tuple [.ptr (K.of 256) 0, .int .i64 0]) 1 rfL24, .mk 8 [] (.ptr (K.of 257) 0) 127 rfL0, .mk 28 [.str 7 32497657065662268] (.tuple [.agg [.int .i64 2, .int .i64 2, .func (.func 284) [] [.ptr (K.of 267) 0]], .bool true]) 16 rfL95]
theorem rr64_ok : HookOk (hooksR rr64) := hooksR_ok rr64 fun f vs v n L h => by
  simp only [rr64, List.mem_cons, List.not_mem_nil, or_false, HR.mk.injEq] at h
  rcases h with ⟨rfl, rfl, rfl, rfl, rfl⟩ | ⟨rfl, rfl, rfl, rfl, rfl⟩ | ⟨rfl, rfl, rfl, rfl, rfl⟩ | ⟨rfl, rfl, rfl, rfl, rfl⟩ | ⟨rfl, rfl, rfl, rfl, rfl⟩
  · exact ⟨rf23, by kernel_rfl, by kernel_rfl⟩
  · exact ⟨rf50, by kernel_rfl, by kernel_rfl⟩
  · exact ⟨rf24, by kernel_rfl, by kernel_rfl⟩
  · exact ⟨rf0, by kernel_rfl, by kernel_rfl⟩
  · exact ⟨rf95, by kernel_rfl, by kernel_rfl⟩
theorem law_64 : (upto21.all fun m => retV (enter (run (HK rr64 64 m) 1000000) 4 (largs 64 m) wS) (.bool true)) = true := by kernel_rfl
noncomputable def rr65 : List HR := [.mk 9 [] (.slice (K.of 259) 0 96 96 none) 4 rfL23, .mk 11 [] (.slice (K.of 448) 0 96 96 (some 1)) 193 rfL50, .mk 15 [.int .i64 100] (.tuple [.ptr (K.of 256) 0, .int .i64 0]) 1 rfL24, .mk 8 [] (.ptr (K.of 257) 0) 127 rfL0, .mk 28 [.str 6 129125564117861] (.tuple [.agg [.int .i64 1, .int .i64 1, .func (.func 285) [] [.ptr (K.of 268) 0]], .bool true]) 16 rfL42]
theorem rr65_ok : HookOk (hooksR rr65) := hooksR_ok rr65 fun f vs v n L h => by
  simp only [rr65, List.mem_cons, List.not_mem_nil, or_false, HR.mk.injEq] at h
  rcases h with ⟨rfl, rfl, rfl, rfl, rfl⟩ | ⟨rfl, rfl, rfl, rfl, rfl⟩ | ⟨rfl, rfl, rfl, rfl, rfl⟩ | ⟨rfl, rfl, rfl, rfl, rfl⟩ | ⟨rfl, rfl, rfl, rfl, rfl⟩
  · exact ⟨rf23, by kernel_rfl, by kernel_rfl⟩
  · exact ⟨rf50, by kernel_rfl, by kernel_rfl⟩
  · exact ⟨rf24, by kernel_rfl, by kernel_rfl⟩
  · exact ⟨rf0, by kernel_rfl, by kernel_rfl⟩
  · exact ⟨rf42, by kernel_rfl, by kernel_rfl⟩
theorem law_65 : (upto21.all fun m => retV (enter (run (HK rr65 65 m) 1000000) 4 (largs 65 m) wS) (.bool true)) = true := by kernel_rfl
noncomputable def rr66 : List HR := [.mk 9 [] (.slice (K.of 259) 0 96 96 none) 4 rfL23, .mk 11 [] (.slice (K.of 448) 0 96 96 (some 1)) 193 rfL50, .mk 15 [.int .i64 100] (.tuple [.ptr (K.of 256) 0, .int .i64 0]) 1 rfL24, .mk 8 [] (.ptr (K.of 257) 0) 127 rfL0, .mk 28 [.str 8 7237134442205115237] (.tuple [.agg [.int .i64 1, .int .i64 1, .func (.func 285) [] [.ptr (K.of 269) 0]], .bool true]) 16 rfL69]
theorem rr66_ok : HookOk (hooksR rr66) := hooksR_ok rr66 fun f vs v n L h => by
  simp only [rr66, List.mem_cons, List.not_mem_nil, or_false, HR.mk.injEq] at h
  rcases h with ⟨rfl, rfl, rfl, rfl, rfl⟩ | ⟨rfl, rfl, rfl, rfl, rfl⟩ | ⟨rfl, rfl, rfl, rfl, rfl⟩ | ⟨rfl, rfl, rfl, rfl, rfl⟩ | ⟨rfl, rfl, rfl, rfl, rfl⟩
  · exact ⟨rf23, by kernel_rfl, by kernel_rfl⟩
  · exact ⟨rf50, by kernel_rfl, by kernel_rfl⟩
  · exact ⟨rf24, by kernel_rfl, by kernel_rfl⟩
  · exact ⟨rf0, by kernel_rfl, by kernel_rfl⟩
  · exact ⟨rf69, by kernel_rfl, by kernel_rfl⟩
theorem law_66 : (upto21.all fun m => retV (enter (run (HK rr66 66 m) 1000000) 4 (largs 66 m) wS) (.bool true)) = true := by kernel_rfl
noncomputable def rr67 : List HR := [.mk 9 [] (.slice (K.of 259) 0 96 96 none) 4 rfL23, .mk 11 [] (.slice (K.of 448) 0 96 96 (some 1)) 193 rfL50, .mk 15 [.int .i64 100] (.tuple [.ptr (K.of 256) 0, .int .i64 0]) 1 rfL24, .mk 8 [] (.ptr (K.of 257) 0) 127 rfL0, .mk 28 [.str 10 469311716112611284712037] (.tuple [.agg [.int .i64 1, .int .i64 1, .func (.func 178) [] []], .bool true]) 16 rfL14]
theorem rr67_ok : HookOk (hooksR rr67) := hooksR_ok rr67 fun f vs v n L h => by
  simp only [rr67, List.mem_cons, List.not_mem_nil, or_false, HR.mk.injEq] at h
  rcases h with ⟨rfl, rfl, rfl, rfl, rfl⟩ | ⟨rfl, rfl, rfl, rfl, rfl⟩ | ⟨rfl, rfl, rfl, rfl, rfl⟩ | ⟨rfl, rfl, rfl, rfl, rfl⟩ | ⟨rfl, rfl, rfl, rfl, rfl⟩
  · exact ⟨rf23, by kernel_rfl, by kernel_rfl⟩
  · exact ⟨rf50, by kernel_rfl, by kernel_rfl⟩
  · exact ⟨rf24, by kernel_rfl, by kernel_rfl⟩
  · exact ⟨rf0, by kernel_rfl, by kernel_rfl⟩
  · exact ⟨rf14, by kernel_rfl, by kernel_rfl⟩
theorem law_67 : (upto21.all fun m => retV (enter (run (HK rr67 67 m) 1000000) 4 (largs 67 m) wS) (.bool true)) = true := by kernel_rfl
noncomputable def rr68 : List HR := [.mk 9 [] (.slice (K.of 259) 0 96 96 none) 4 rfL23, .mk 11 [] (.slice (K.of 448) 0 96 96 (some 1)) 193 rfL50, .mk 15 [.int .i64 100] (.tuple [.ptr (K.of 256) 0, .int .i64 0]) 1 rfL24, .mk 8 [] (.ptr (K.of 257) 0) 127 rfL0, .mk 28 [.str 16 153465846498675330771124613627041178994] (.tuple [.agg [.int .i64 1, .int .i64 1, .func (.func 179) [] []], .bool true]) 16 rfL15]
theorem rr68_ok : HookOk (hooksR rr68) := hooksR_ok rr68 fun f vs v n L h => by
  simp only [rr68, List.mem_cons, List.not_mem_nil, or_false, HR.mk.injEq] at h
  rcases h with ⟨rfl, rfl, rfl, rfl, rfl⟩ | ⟨rfl, rfl, rfl, rfl, rfl⟩ | ⟨rfl, rfl, rfl, rfl, rfl⟩ | ⟨rfl, rfl, rfl, rfl, rfl⟩ | ⟨rfl, rfl, rfl, rfl, rfl⟩
  · exact ⟨rf23, by kernel_rfl, by kernel_rfl⟩
  · exact ⟨rf50, by kernel_rfl, by kernel_rfl⟩
  · exact ⟨rf24, by kernel_rfl, by kernel_rfl⟩
  · exact ⟨rf0, by kernel_rfl, by kernel_rfl⟩
  · exact ⟨rf15, by kernel_rfl, by kernel_rfl⟩
theorem law_68 : (upto21.all fun m => retV (enter (run (HK rr68 68 m) 1000000) 4 (largs 68 m) wS) (.bool true)) = true := by kernel_rfl
noncomputable def rr69 : List HR := [.mk 9 [] (.slice (K.of 259) 0 96 96 none) 4 rfL23, .mk 11 [] (.slice (K.of 448) 0 96 96 (some 1)) 193 rfL50, .mk 15 [.int .i64 100] (.tuple [.ptr (K.of 256) 0, .int .i64 0]) 1 rfL24, .mk 8 [] (.ptr (K.of 257) 0) 127 rfL0, .mk 28 [.str 16 146824796847192063471655286726650850919] (.tuple [.agg [.int .i64 1, .int .i64 1, .func (.func 180) [] []], .bool true]) 16 rfL96]
theorem rr69_ok : HookOk (hooksR rr69) := hooksR_ok rr69 fun f vs v n L h => by
  simp only [rr69, List.mem_cons, List.not_mem_nil, or_false, HR.mk.injEq] at h
  rcases h with ⟨rfl, rfl, rfl, rfl, rfl⟩ | ⟨rfl, rfl, rfl, rfl, rfl⟩ | ⟨rfl, rfl, rfl, rfl, rfl⟩ | ⟨rfl, rfl, rfl, rfl, rfl⟩ | ⟨rfl, rfl, rfl, rfl, rfl⟩
  · exact ⟨rf23, by kernel_rfl, by kernel_rfl⟩
  · exact ⟨rf50, by kernel_rfl, by kernel_rfl⟩
  · exact ⟨rf24, by kernel_rfl, by kernel_rfl⟩
  · exact ⟨rf0, by kernel_rfl, by kernel_rfl⟩
  · exact ⟨rf96, by kernel_rfl, by kernel_rfl⟩
theorem law_69 : (upto21.all fun m => retV (enter (run (HK rr69 69 m) 1000000) 4 (largs 69 m) wS) (.bool true)) = true := by kernel_rfl
noncomputable def rr70 : List HR := [.mk 9 [] (.slice (K.of 259) 0 96 96 none) 4 rfL23, .mk 11 [] (.slice (K.of 448) 0 96 96 (some 1)) 193 rfL50, .mk 15 [.int .i64 100] (.tuple [.ptr (K.of 256) 0, .int .i64 0]) 1 rfL24, .mk 8 [] (.ptr (K.of 257) 0) 127 rfL0, .mk 28 [.str 14 2341702980021291057909005759832434] (.tuple [.agg [.int .i64 1, .int .i64 1, .func (.func 181) [] []], .bool true]) 16 rfL43]
theorem rr70_ok : HookOk (hooksR rr70) := hooksR_ok rr70 fun f vs v n L h => by
  simp only [rr70, List.mem_cons, List.not_mem_nil, or_false, HR.mk.injEq] at h
  rcases h with ⟨rfl, rfl, rfl, rfl, rfl⟩ | ⟨rfl, rfl, rfl, rfl, rfl⟩ | ⟨rfl, rfl, rfl, rfl, rfl⟩ | ⟨rfl, rfl, rfl, rfl, rfl⟩ | ⟨rfl, rfl, rfl, rfl, rfl⟩
  · exact ⟨rf23, by kernel_rfl, by kernel_rfl⟩
  · exact ⟨rf50, by kernel_rfl, by kernel_rfl⟩
  · exact ⟨rf24, by kernel_rfl, by kernel_rfl⟩
  · exact ⟨rf0, by kernel_rfl, by kernel_rfl⟩
  · exact ⟨rf43, by kernel_rfl, by kernel_rfl⟩
theorem law_70 : (upto21.all fun m => retV (enter (run (HK rr70 70 m) 1000000) 4 (largs 70 m) wS) (.bool true)) = true := by kernel_rfl
noncomputable def rr71 : List HR := [.mk 9 [] (.slice (K.of 259) 0 96 96 none) 4 rfL23, .mk 11 [] (.slice (K.of 448) 0 96 96 (some 1)) 193 rfL50, .mk 15 [.int .i64 100] (.tuple [.ptr (K.of 256) 0, .int .i64 0]) 1 rfL24, .mk 8 [] (.ptr (K.of 257) 0) 127 rfL0, .mk 28 [.str 14 2016228437741149294847839145913959] (.tuple [.agg [.int .i64 1, .int .i64 1, .func (.func 182) [] []], .bool true]) 16 rfL70]
theorem rr71_ok : HookOk (hooksR rr71) := hooksR_ok rr71 fun f vs v n L h => by
  simp only [rr71, List.mem_cons, List.not_mem_nil, or_false, HR.mk.injEq] at h
  rcases h with ⟨rfl, rfl, rfl, rfl, rfl⟩ | ⟨rfl, rfl, rfl, rfl, rfl⟩ | ⟨rfl, rfl, rfl, rfl, rfl⟩ | ⟨rfl, rfl, rfl, rfl, rfl⟩ | ⟨rfl, rfl, rfl, rfl, rfl⟩
  · exact ⟨rf23, by kernel_rfl, by kernel_rfl⟩
  · exact ⟨rf50, by kernel_rfl, by kernel_rfl⟩
  · exact ⟨rf24, by kernel_rfl, by kernel_rfl⟩
  · exact ⟨rf0, by kernel_rfl, by kernel_rfl⟩
  · exact ⟨rf70, by kernel_rfl, by kernel_rfl⟩
theorem law_71 : (upto21.all fun m => retV (enter (run (HK rr71 71 m) 1000000) 4 (largs 71 m) wS) (.bool true)) = true := by kernel_rfl
end Go.Proofs.YtldcnedpfagliaaGreatDoor
