/- The law on its paths: each primitive, each number of arguments. -/
import Derived.Test.YtldcnedpfagliaaGreatDoorPaA
set_option linter.all false
set_option maxRecDepth 100000
namespace Go.Proofs.YtldcnedpfagliaaGreatDoor
open Go.Ev
noncomputable def rr48 : List HR := [.mk 9 [] (.slice (K.of 259) 0 96 96 none) 4 rfL23, .mk 11 [] (.slice (K.of 448) 0 96 96 (some 1)) 193 rfL50, .mk 15 [.int .i64 100] (.tuple [.ptr (K.of 256) 0, .int .i64 0]) 1 rfL24, .mk 8 [] (.ptr (K.of 257) 0) 127 rfL0, .mk 28 [.str 3 7237492] (.tuple [.agg [.int .i64 1, .int .i64 1, .func (.func 154) [] [.ptr (K.of 266) 0]], .bool true]) 24 rfL37]
theorem rr48_ok : HookOk (hooksR rr48) := hooksR_ok rr48 fun f vs v n L h => by
  simp only [rr48, List.mem_cons, List.not_mem_nil, or_false, HR.mk.injEq] at h
  rcases h with ⟨rfl, rfl, rfl, rfl, rfl⟩ | ⟨rfl, rfl, rfl, rfl, rfl⟩ | ⟨rfl, rfl, rfl, rfl, rfl⟩ | ⟨rfl, rfl, rfl, rfl, rfl⟩ | ⟨rfl, rfl, rfl, rfl, rfl⟩
  · exact ⟨rf23, by kernel_rfl, by kernel_rfl⟩
  · exact ⟨rf50, by kernel_rfl, by kernel_rfl⟩
  · exact ⟨rf24, by kernel_rfl, by kernel_rfl⟩
  · exact ⟨rf0, by kernel_rfl, by kernel_rfl⟩
  · exact ⟨rf37, by kernel_rfl, by kernel_rfl⟩
theorem law_48 : (upto21.all fun m => retV (enter (run (HK rr48 48 m) 1000000) 4 (largs 48 m) wS) (.bool true)) = true := by kernel_rfl
noncomputable def rr49 : List HR := [.mk 9 [] (.slice (K.of 259) 0 96 96 none) 4 rfL23, .mk 11 [] (.slice (K.of 448) 0 96 96 (some 1)) 193 rfL50, .mk 15 [.int .i64 100] (.tuple [.ptr (K.of 256) 0, .int .i64 0]) 1 rfL24, .mk 8 [] (.ptr (K.of 257) 0) 127 rfL0, .mk 28 [.str 4 1635020653] (.tuple [.agg [.int .i64 1, .int .i64 1, .func (.func 154) [] [.ptr (K.of 275) 0]], .bool true]) 24 rfL64]
theorem rr49_ok : HookOk (hooksR rr49) := hooksR_ok rr49 fun f vs v n L h => by
  simp only [rr49, List.mem_cons, List.not_mem_nil, or_false, HR.mk.injEq] at h
  rcases h with ⟨rfl, rfl, rfl, rfl, rfl⟩ | ⟨rfl, rfl, rfl, rfl, rfl⟩ | ⟨rfl, rfl, rfl, rfl, rfl⟩ | ⟨rfl, rfl, rfl, rfl, rfl⟩ | ⟨rfl, rfl, rfl, rfl, rfl⟩
  · exact ⟨rf23, by kernel_rfl, by kernel_rfl⟩
  · exact ⟨rf50, by kernel_rfl, by kernel_rfl⟩
  · exact ⟨rf24, by kernel_rfl, by kernel_rfl⟩
  · exact ⟨rf0, by kernel_rfl, by kernel_rfl⟩
  · exact ⟨rf64, by kernel_rfl, by kernel_rfl⟩
theorem law_49 : (upto21.all fun m => retV (enter (run (HK rr49 49 m) 1000000) 4 (largs 49 m) wS) (.bool true)) = true := by kernel_rfl
noncomputable def rr50 : List HR := [.mk 9 [] (.slice (K.of 259) 0 96 96 none) 4 rfL23, .mk 11 [] (.slice (K.of 448) 0 96 96 (some 1)) 193 rfL50, .mk 15 [.int .i64 100] (.tuple [.ptr (K.of 256) 0, .int .i64 0]) 1 rfL24, .mk 8 [] (.ptr (K.of 257) 0) 127 rfL0, .mk 28 [.str 5 427071271792] (.tuple [.agg [.int .i64 1, .int .i64 1, .func (.func 154) [] [.ptr (K.of 269) 0]], .bool true]) 24 rfL91]
theorem rr50_ok : HookOk (hooksR rr50) := hooksR_ok rr50 fun f vs v n L h => by
  simp only [rr50, List.mem_cons, List.not_mem_nil, or_false, HR.mk.injEq] at h
  rcases h with ⟨rfl, rfl, rfl, rfl, rfl⟩ | ⟨rfl, rfl, rfl, rfl, rfl⟩ | ⟨rfl, rfl, rfl, rfl, rfl⟩ | ⟨rfl, rfl, rfl, rfl, rfl⟩ | ⟨rfl, rfl, rfl, rfl, rfl⟩
  · exact ⟨rf23, by kernel_rfl, by kernel_rfl⟩
  · exact ⟨rf50, by kernel_rfl, by kernel_rfl⟩
  · exact ⟨rf24, by kernel_rfl, by kernel_rfl⟩
  · exact ⟨rf0, by kernel_rfl, by kernel_rfl⟩
  · exact ⟨rf91, by kernel_rfl, by kernel_rfl⟩
theorem law_50 : (upto21.all fun m => retV (enter (run (HK rr50 50 m) 1000000) 4 (largs 50 m) wS) (.bool true)) = true := by kernel_rfl
noncomputable def rr51 : List HR := [.mk 9 [] (.slice (K.of 259) 0 96 96 none) 4 rfL23, .mk 11 [] (.slice (K.of 448) 0 96 96 (some 1)) 193 rfL50, .mk 15 [.int .i64 100] (.tuple [.ptr (K.of 256) 0, .int .i64 0]) 1 rfL24, .mk 8 [] (.ptr (K.of 257) 0) 127 rfL0, .mk 28 [.str 5 465625642096] (.tuple [.agg [.int .i64 1, .int .i64 1, .func (.func 154) [] [.ptr (K.of 269) 0]], .bool true]) 24 rfL38]
theorem rr51_ok : HookOk (hooksR rr51) := hooksR_ok rr51 fun f vs v n L h => by
  simp only [rr51, List.mem_cons, List.not_mem_nil, or_false, HR.mk.injEq] at h
  rcases h with ⟨rfl, rfl, rfl, rfl, rfl⟩ | ⟨rfl, rfl, rfl, rfl, rfl⟩ | ⟨rfl, rfl, rfl, rfl, rfl⟩ | ⟨rfl, rfl, rfl, rfl, rfl⟩ | ⟨rfl, rfl, rfl, rfl, rfl⟩
  · exact ⟨rf23, by kernel_rfl, by kernel_rfl⟩
  · exact ⟨rf50, by kernel_rfl, by kernel_rfl⟩
  · exact ⟨rf24, by kernel_rfl, by kernel_rfl⟩
  · exact ⟨rf0, by kernel_rfl, by kernel_rfl⟩
  · exact ⟨rf38, by kernel_rfl, by kernel_rfl⟩
theorem law_51 : (upto21.all fun m => retV (enter (run (HK rr51 51 m) 1000000) 4 (largs 51 m) wS) (.bool true)) = true := by kernel_rfl
noncomputable def rr52 : List HR := [.mk 9 [] (.slice (K.of 259) 0 96 96 none) 4 rfL23, .mk 11 [] (.slice (K.of 448) 0 96 96 (some 1)) 193 rfL50, .mk 15 [.int .i64 100] (.tuple [.ptr (K.of 256) 0, .int .i64 0]) 1 rfL24, .mk 8 [] (.ptr (K.of 257) 0) 127 rfL0, .mk 28 [.str 7 32503133031591024] (.tuple [.agg [.int .i64 1, .int .i64 1, .func (.func 154) [] [.ptr (K.of 269) 0]], .bool true]) 24 rfL65]
theorem rr52_ok : HookOk (hooksR rr52) := hooksR_ok rr52 fun f vs v n L h => by
  simp only [rr52, List.mem_cons, List.not_mem_nil, or_false, HR.mk.injEq] at h
  rcases h with ⟨rfl, rfl, rfl, rfl, rfl⟩ | ⟨rfl, rfl, rfl, rfl, rfl⟩ | ⟨rfl, rfl, rfl, rfl, rfl⟩ | ⟨rfl, rfl, rfl, rfl, rfl⟩ | ⟨rfl, rfl, rfl, rfl, rfl⟩
  · exact ⟨rf23, by kernel_rfl, by kernel_rfl⟩
  · exact ⟨rf50, by kernel_rfl, by kernel_rfl⟩
  · exact ⟨rf24, by kernel_rfl, by kernel_rfl⟩
  · exact ⟨rf0, by kernel_rfl, by kernel_rfl⟩
  · exact ⟨rf65, by kernel_rfl, by kernel_rfl⟩
theorem law_52 : (upto21.all fun m => retV (enter (run (HK rr52 52 m) 1000000) 4 (largs 52 m) wS) (.bool true)) = true := by kernel_rfl
noncomputable def rr53 : List HR := [.mk 9 [] (.slice (K.of 259) 0 96 96 none) 4 rfL23, .mk 11 [] (.slice (K.of 448) 0 96 96 (some 1)) 193 rfL50, .mk 15 [.int .i64 100] (.tuple [.ptr (K.of 256) 0, .int .i64 0]) 1 rfL24, .mk 8 [] (.ptr (K.of 257) 0) 127 rfL0, .mk 28 [.str 8 7597137600295826032] (.tuple [.agg [.int .i64 1, .int .i64 1, .func (.func 154) [] [.ptr (K.of 269) 0]], .bool true]) 24 rfL92]
theorem rr53_ok : HookOk (hooksR rr53) := hooksR_ok rr53 fun f vs v n L h => by
  simp only [rr53, List.mem_cons, List.not_mem_nil, or_false, HR.mk.injEq] at h
  rcases h with ⟨rfl, rfl, rfl, rfl, rfl⟩ | ⟨rfl, rfl, rfl, rfl, rfl⟩ | ⟨rfl, rfl, rfl, rfl, rfl⟩ | ⟨rfl, rfl, rfl, rfl, rfl⟩ | ⟨rfl, rfl, rfl, rfl, rfl⟩
  · exact ⟨rf23, by kernel_rfl, by kernel_rfl⟩
  · exact ⟨rf50, by kernel_rfl, by kernel_rfl⟩
  · exact ⟨rf24, by kernel_rfl, by kernel_rfl⟩
  · exact ⟨rf0, by kernel_rfl, by kernel_rfl⟩
  · exact ⟨rf92, by kernel_rfl, by kernel_rfl⟩
theorem law_53 : (upto21.all fun m => retV (enter (run (HK rr53 53 m) 1000000) 4 (largs 53 m) wS) (.bool true)) = true := by kernel_rfl
noncomputable def rr54 : List HR := [.mk 9 [] (.slice (K.of 259) 0 96 96 none) 4 rfL23, .mk 11 [] (.slice (K.of 448) 0 96 96 (some 1)) 193 rfL50, .mk 15 [.int .i64 100] (.tuple [.ptr (K.of 256) 0, .int .i64 0]) 1 rfL24, .mk 8 [] (.ptr (K.of 257) 0) 127 rfL0, .mk 28 [.str 7 32497657065662320] (.tuple [.agg [.int .i64 1, .int .i64 1, .func (.func 154) [] [.ptr (K.of 269) 0]], .bool true]) 24 rfL39]
theorem rr54_ok : HookOk (hooksR rr54) := hooksR_ok rr54 fun f vs v n L h => by
  simp only [rr54, List.mem_cons, List.not_mem_nil, or_false, HR.mk.injEq] at h
  rcases h with ⟨rfl, rfl, rfl, rfl, rfl⟩ | ⟨rfl, rfl, rfl, rfl, rfl⟩ | ⟨rfl, rfl, rfl, rfl, rfl⟩ | ⟨rfl, rfl, rfl, rfl, rfl⟩ | ⟨rfl, rfl, rfl, rfl, rfl⟩
  · exact ⟨rf23, by kernel_rfl, by kernel_rfl⟩
  · exact ⟨rf50, by kernel_rfl, by kernel_rfl⟩
  · exact ⟨rf24, by kernel_rfl, by kernel_rfl⟩
  · exact ⟨rf0, by kernel_rfl, by kernel_rfl⟩
  · exact ⟨rf39, by kernel_rfl, by kernel_rfl⟩
theorem law_54 : (upto21.all fun m => retV (enter (run (HK rr54 54 m) 1000000) 4 (largs 54 m) wS) (.bool true)) = true := by kernel_rfl
noncomputable def rr55 : List HR := [.mk 9 [] (.slice (K.of 259) 0 96 96 none) 4 rfL23, .mk 11 [] (.slice (K.of 448) 0 96 96 (some 1)) 193 rfL50, .mk 15 [.int .i64 100] (.tuple [.ptr (K.of 256) 0, .int .i64 0]) 1 rfL24, .mk 8 [] (.ptr (K.of 257) 0) 127 rfL0, .mk 28 [.str 7 33325525081485936] (.tuple [.agg [.int .i64 1, .int .i64 1, .func (.func 154) [] [.ptr (K.of 269) 0]], .bool true]) 24 rfL66]
theorem rr55_ok : HookOk (hooksR rr55) := hooksR_ok rr55 fun f vs v n L h => by
  simp only [rr55, List.mem_cons, List.not_mem_nil, or_false, HR.mk.injEq] at h
  rcases h with ⟨rfl, rfl, rfl, rfl, rfl⟩ | ⟨rfl, rfl, rfl, rfl, rfl⟩ | ⟨rfl, rfl, rfl, rfl, rfl⟩ | ⟨rfl, rfl, rfl, rfl, rfl⟩ | ⟨rfl, rfl, rfl, rfl, rfl⟩
  · exact ⟨rf23, by kernel_rfl, by kernel_rfl⟩
  · exact ⟨rf50, by kernel_rfl, by kernel_rfl⟩
  · exact ⟨rf24, by kernel_rfl, by kernel_rfl⟩
  · exact ⟨rf0, by kernel_rfl, by kernel_rfl⟩
  · exact ⟨rf66, by kernel_rfl, by kernel_rfl⟩
theorem law_55 : (upto21.all fun m => retV (enter (run (HK rr55 55 m) 1000000) 4 (largs 55 m) wS) (.bool true)) = true := by kernel_rfl
end Go.Proofs.YtldcnedpfagliaaGreatDoor
