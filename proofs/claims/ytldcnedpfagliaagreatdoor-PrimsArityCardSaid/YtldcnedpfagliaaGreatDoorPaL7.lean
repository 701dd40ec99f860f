/- The law on its paths: each primitive, each number of arguments. -/
import Derived.Test.YtldcnedpfagliaaGreatDoorPaA
set_option linter.all false
set_option maxRecDepth 100000
namespace Go.Proofs.YtldcnedpfagliaaGreatDoor
open Go.Ev
noncomputable def rr56 : List HR := [.mk 9 [] (.slice (K.of 259) 0 96 96 none) 4 rfL23, .mk 11 [] (.slice (K.of 448) 0 96 96 (some 1)) 193 rfL50, .mk 15 [.int .i64 100] (.tuple [.ptr (K.of 256) 0, .int .i64 0]) 1 rfL24, .mk 8 [] (.ptr (K.of 257) 0) 127 rfL0, .mk 28 [.str 10 469439764969609476010608] (.tuple [.agg [.int .i64 1, .int .i64 1, .func (.func 154) [] [.ptr (K.of 269) 0]], .bool true]) 24 rfL93]
theorem rr56_ok : HookOk (hooksR rr56) := hooksR_ok rr56 fun f vs v n L h => by
  simp only [rr56, List.mem_cons, List.not_mem_nil, or_false, HR.mk.injEq] at h
  rcases h with ⟨rfl, rfl, rfl, rfl, rfl⟩ | ⟨rfl, rfl, rfl, rfl, rfl⟩ | ⟨rfl, rfl, rfl, rfl, rfl⟩ | ⟨rfl, rfl, rfl, rfl, rfl⟩ | ⟨rfl, rfl, rfl, rfl, rfl⟩
  · exact ⟨rf23, by kernel_rfl, by kernel_rfl⟩
  · exact ⟨rf50, by kernel_rfl, by kernel_rfl⟩
  · exact ⟨rf24, by kernel_rfl, by kernel_rfl⟩
  · exact ⟨rf0, by kernel_rfl, by kernel_rfl⟩
  · exact ⟨rf93, by kernel_rfl, by kernel_rfl⟩
theorem law_56 : (upto21.all fun m => retV (enter (run (HK rr56 56 m) 1000000) 4 (largs 56 m) wS) (.bool true)) = true := by kernel_rfl
noncomputable def rr57 : List HR := [.mk 9 [] (.slice (K.of 259) 0 96 96 none) 4 rfL23, .mk 11 [] (.slice (K.of 448) 0 96 96 (some 1)) 193 rfL50, .mk 15 [.int .i64 100] (.tuple [.ptr (K.of 256) 0, .int .i64 0]) 1 rfL24, .mk 8 [] (.ptr (K.of 257) 0) 127 rfL0, .mk 28 [.str 9 1890029705619886272112] (.tuple [.agg [.int .i64 1, .int .i64 1, .func (.func 154) [] [.ptr (K.of 277) 0]], .bool true]) 24 rfL40]
theorem rr57_ok : HookOk (hooksR rr57) := hooksR_ok rr57 fun f vs v n L h => by
  simp only [rr57, List.mem_cons, List.not_mem_nil, or_false, HR.mk.injEq] at h
  rcases h with ⟨rfl, rfl, rfl, rfl, rfl⟩ | ⟨rfl, rfl, rfl, rfl, rfl⟩ | ⟨rfl, rfl, rfl, rfl, rfl⟩ | ⟨rfl, rfl, rfl, rfl, rfl⟩ | ⟨rfl, rfl, rfl, rfl, rfl⟩
  · exact ⟨rf23, by kernel_rfl, by kernel_rfl⟩
  · exact ⟨rf50, by kernel_rfl, by kernel_rfl⟩
  · exact ⟨rf24, by kernel_rfl, by kernel_rfl⟩
  · exact ⟨rf0, by kernel_rfl, by kernel_rfl⟩
  · exact ⟨rf40, by kernel_rfl, by kernel_rfl⟩
theorem law_57 : (upto21.all fun m => retV (enter (run (HK rr57 57 m) 1000000) 4 (largs 57 m) wS) (.bool true)) = true := by kernel_rfl
noncomputable def rr58 : List HR := [.mk 9 [] (.slice (K.of 259) 0 96 96 none) 4 rfL23, .mk 11 [] (.slice (K.of 448) 0 96 96 (some 1)) 193 rfL50, .mk 15 [.int .i64 100] (.tuple [.ptr (K.of 256) 0, .int .i64 0]) 1 rfL24, .mk 8 [] (.ptr (K.of 257) 0) 127 rfL0, .mk 28 [.str 8 7594306396727374969] (.tuple [.agg [.int .i64 1, .int .i64 1, .func (.func 167) [] []], .bool true]) 24 rfL67]
theorem rr58_ok : HookOk (hooksR rr58) := hooksR_ok rr58 fun f vs v n L h => by
  simp only [rr58, List.mem_cons, List.not_mem_nil, or_false, HR.mk.injEq] at h
  rcases h with ⟨rfl, rfl, rfl, rfl, rfl⟩ | ⟨rfl, rfl, rfl, rfl, rfl⟩ | ⟨rfl, rfl, rfl, rfl, rfl⟩ | ⟨rfl, rfl, rfl, rfl, rfl⟩ | ⟨rfl, rfl, rfl, rfl, rfl⟩
  · exact ⟨rf23, by kernel_rfl, by kernel_rfl⟩
  · exact ⟨rf50, by kernel_rfl, by kernel_rfl⟩
  · exact ⟨rf24, by kernel_rfl, by kernel_rfl⟩
  · exact ⟨rf0, by kernel_rfl, by kernel_rfl⟩
  · exact ⟨rf67, by kernel_rfl, by kernel_rfl⟩
theorem law_58 : (upto21.all fun m => retV (enter (run (HK rr58 58 m) 1000000) 4 (largs 58 m) wS) (.bool true)) = true := by kernel_rfl
noncomputable def rr59 : List HR := [.mk 9 [] (.slice (K.of 259) 0 96 96 none) 4 rfL23, .mk 11 [] (.slice (K.of 448) 0 96 96 (some 1)) 193 rfL50, .mk 15 [.int .i64 100] (.tuple [.ptr (K.of 256) 0, .int .i64 0]) 1 rfL24, .mk 8 [] (.ptr (K.of 257) 0) 127 rfL0, .mk 28 [.str 6 115892955345509] (.tuple [.agg [.int .i64 0, .int .i64 (-1), .func (.func 168) [] []], .bool true]) 24 rfL94]
theorem rr59_ok : HookOk (hooksR rr59) := hooksR_ok rr59 fun f vs v n L h => by
  simp only [rr59, List.mem_cons, List.not_mem_nil, or_false, HR.mk.injEq] at h
  rcases h with ⟨rfl, rfl, rfl, rfl, rfl⟩ | ⟨rfl, rfl, rfl, rfl, rfl⟩ | ⟨rfl, rfl, rfl, rfl, rfl⟩ | ⟨rfl, rfl, rfl, rfl, rfl⟩ | ⟨rfl, rfl, rfl, rfl, rfl⟩
  · exact ⟨rf23, by kernel_rfl, by kernel_rfl⟩
  · exact ⟨rf50, by kernel_rfl, by kernel_rfl⟩
  · exact ⟨rf24, by kernel_rfl, by kernel_rfl⟩
  · exact ⟨rf0, by kernel_rfl, by kernel_rfl⟩
  · exact ⟨rf94, by kernel_rfl, by kernel_rfl⟩
theorem law_59 : (upto21.all fun m => retV (enter (run (HK rr59 59 m) 1000000) 4 (largs 59 m) wS) (.bool true)) = true := by kernel_rfl
noncomputable def rr60 : List HR := [.mk 9 [] (.slice (K.of 259) 0 96 96 none) 4 rfL23, .mk 11 [] (.slice (K.of 448) 0 96 96 (some 1)) 193 rfL50, .mk 15 [.int .i64 100] (.tuple [.ptr (K.of 256) 0, .int .i64 0]) 1 rfL24, .mk 8 [] (.ptr (K.of 257) 0) 127 rfL0, .mk 28 [.str 7 32784620939210598] (.tuple [.agg [.int .i64 1, .int .i64 1, .func (.func 169) [] []], .bool true]) 24 rfL22]
theorem rr60_ok : HookOk (hooksR rr60) := hooksR_ok rr60 fun f vs v n L h => by
  simp only [rr60, List.mem_cons, List.not_mem_nil, or_false, HR.mk.injEq] at h
  rcases h with ⟨rfl, rfl, rfl, rfl, rfl⟩ | ⟨rfl, rfl, rfl, rfl, rfl⟩ | ⟨rfl, rfl, rfl, rfl, rfl⟩ | ⟨rfl, rfl, rfl, rfl, rfl⟩ | ⟨rfl, rfl, rfl, rfl, rfl⟩
  · exact ⟨rf23, by kernel_rfl, by kernel_rfl⟩
  · exact ⟨rf50, by kernel_rfl, by kernel_rfl⟩
  · exact ⟨rf24, by kernel_rfl, by kernel_rfl⟩
  · exact ⟨rf0, by kernel_rfl, by kernel_rfl⟩
  · exact ⟨rf22, by kernel_rfl, by kernel_rfl⟩
theorem law_60 : (upto21.all fun m => retV (enter (run (HK rr60 60 m) 1000000) 4 (largs 60 m) wS) (.bool true)) = true := by kernel_rfl
noncomputable def rr61 : List HR := [.mk 9 [] (.slice (K.of 259) 0 96 96 none) 4 rfL23, .mk 11 [] (.slice (K.of 448) 0 96 96 (some 1)) 193 rfL50, .mk 15 [.int .i64 100] (.tuple [.ptr (K.of 256) 0, .int .i64 0]) 1 rfL24, .mk 8 [] (.ptr (K.of 257) 0) 127 rfL0, .mk 28 [.str 6 109330244526452] (.tuple [.agg [.int .i64 0, .int .i64 (-1), .func (.func 170) [] []], .bool true]) 16 rfL41]
theorem rr61_ok : HookOk (hooksR rr61) := hooksR_ok rr61 fun f vs v n L h => by
  simp only [rr61, List.mem_cons, List.not_mem_nil, or_false, HR.mk.injEq] at h
  rcases h with ⟨rfl, rfl, rfl, rfl, rfl⟩ | ⟨rfl, rfl, rfl, rfl, rfl⟩ | ⟨rfl, rfl, rfl, rfl, rfl⟩ | ⟨rfl, rfl, rfl, rfl, rfl⟩ | ⟨rfl, rfl, rfl, rfl, rfl⟩
  · exact ⟨rf23, by kernel_rfl, by kernel_rfl⟩
  · exact ⟨rf50, by kernel_rfl, by kernel_rfl⟩
  · exact ⟨rf24, by kernel_rfl, by kernel_rfl⟩
  · exact ⟨rf0, by kernel_rfl, by kernel_rfl⟩
  · exact ⟨rf41, by kernel_rfl, by kernel_rfl⟩
theorem law_61 : (upto21.all fun m => retV (enter (run (HK rr61 61 m) 1000000) 4 (largs 61 m) wS) (.bool true)) = true := by kernel_rfl
noncomputable def rr62 : List HR := [.mk 9 [] (.slice (K.of 259) 0 96 96 none) 4 rfL23, .mk 11 [] (.slice (K.of 448) 0 96 96 (some 1)) 193 rfL50, .mk 15 [.int .i64 100] (.tuple [.ptr (K.of 256) 0, .int .i64 0]) 1 rfL24, .mk 8 [] (.ptr (K.of 257) 0) 127 rfL0, .mk 28 [.str 9 2129834018470726561383] (.tuple [.agg [.int .i64 2, .int .i64 3, .func (.func 171) [] []], .bool true]) 16 rfL6]
theorem rr62_ok : HookOk (hooksR rr62) := hooksR_ok rr62 fun f vs v n L h => by
  simp only [rr62, List.mem_cons, List.not_mem_nil, or_false, HR.mk.injEq] at h
  rcases h with ⟨rfl, rfl, rfl, rfl, rfl⟩ | ⟨rfl, rfl, rfl, rfl, rfl⟩ | ⟨rfl, rfl, rfl, rfl, rfl⟩ | ⟨rfl, rfl, rfl, rfl, rfl⟩ | ⟨rfl, rfl, rfl, rfl, rfl⟩
  · exact ⟨rf23, by kernel_rfl, by kernel_rfl⟩
  · exact ⟨rf50, by kernel_rfl, by kernel_rfl⟩
  · exact ⟨rf24, by kernel_rfl, by kernel_rfl⟩
  · exact ⟨rf0, by kernel_rfl, by kernel_rfl⟩
  · exact ⟨rf6, by kernel_rfl, by kernel_rfl⟩
theorem law_62 : (upto21.all fun m => retV (enter (run (HK rr62 62 m) 1000000) 4 (largs 62 m) wS) (.bool true)) = true := by kernel_rfl
noncomputable def rr63 : List HR := [.mk 9 [] (.slice (K.of 259) 0 96 96 none) 4 rfL23, .mk 11 [] (.slice (K.of 448) 0 96 96 (some 1)) 193 rfL50, .mk 15 [.int .i64 100] (.tuple [.ptr (K.of 256) 0, .int .i64 0]) 1 rfL24, .mk 8 [] (.ptr (K.of 257) 0) 127 rfL0, .mk 28 [.str 7 32497657065662269] (.tuple [.agg [.int .i64 2, .int .i64 2, .func (.func 284) [] [.ptr (K.of 266) 0]], .bool true]) 16 rfL68]
theorem rr63_ok : HookOk (hooksR rr63) := hooksR_ok rr63 fun f vs v n L h => by
  simp only [rr63, List.mem_cons, List.not_mem_nil, or_false, HR.mk.injEq] at h
  rcases h with ⟨rfl, rfl, rfl, rfl, rfl⟩ | ⟨rfl, rfl, rfl, rfl, rfl⟩ | ⟨rfl, rfl, rfl, rfl, rfl⟩ | ⟨rfl, rfl, rfl, rfl, rfl⟩ | ⟨rfl, rfl, rfl, rfl, rfl⟩
  · exact ⟨rf23, by kernel_rfl, by kernel_rfl⟩
  · exact ⟨rf50, by kernel_rfl, by kernel_rfl⟩
  · exact ⟨rf24, by kernel_rfl, by kernel_rfl⟩
  · exact ⟨rf0, by kernel_rfl, by kernel_rfl⟩
  · exact ⟨rf68, by kernel_rfl, by kernel_rfl⟩
theorem law_63 : (upto21.all fun m => retV (enter (run (HK rr63 63 m) 1000000) 4 (largs 63 m) wS) (.bool true)) = true := by kernel_rfl
end Go.Proofs.YtldcnedpfagliaaGreatDoor
