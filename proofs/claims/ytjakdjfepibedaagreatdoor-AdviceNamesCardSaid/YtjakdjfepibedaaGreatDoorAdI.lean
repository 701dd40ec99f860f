/- slices.Insert at the places where the law calls it. No condition. -/
import Derived.Test.YtjakdjfepibedaaGreatDoorEvCj
import Derived.KernelRfl
set_option maxRecDepth 100000
set_option linter.all false
namespace Go.Ev
noncomputable def ob0 : LO := .cells 72 false 0 0 [.int .i64 1, .int .i64 63, .int .i64 1, .int .i64 81]
noncomputable def ob1 : LO := .cells 72 true 0 0 [.int .i64 1, .int .i64 63, .int .i64 1, .int .i64 81]
noncomputable def ob2 : LO := .cells 72 false 0 0 [.int .i64 1, .int .i64 64, .int .i64 1, .int .i64 82]
noncomputable def ob3 : LO := .cells 72 true 0 0 [.int .i64 1, .int .i64 64, .int .i64 1, .int .i64 82, .int .i64 1, .int .i64 63, .int .i64 1, .int .i64 81]
noncomputable def ob4 : LO := .cells 72 true 0 0 [.int .i64 1, .int .i64 64, .int .i64 1, .int .i64 82]
noncomputable def ob5 : LO := .cells 72 false 0 0 [.int .i64 1, .int .i64 62, .int .i64 1, .int .i64 81]
noncomputable def ob6 : LO := .cells 72 true 0 0 [.int .i64 1, .int .i64 62, .int .i64 1, .int .i64 81, .int .i64 1, .int .i64 64, .int .i64 1, .int .i64 82]
theorem ins0_run : segV (enter (run noHook 1000000) 33 [.nilSlice, .int .i64 0, .slice (K.of 601) 0 1 1 none] (withL [.mk 601 ob0] 602)) (.slice (K.of 602) 0 1 1 (some 4)) [.mk 601 ob0, .mk 602 ob1] 603 = true := by kernel_rfl
theorem ins0 : FactW 33 [.nilSlice, .int .i64 0, .slice (K.of 601) 0 1 1 none] 602 [.mk 601 ob0] (.slice (K.of 602) 0 1 1 (some 4)) 603 [.mk 601 ob0, .mk 602 ob1] := factW_of_run noHook_ok ins0_run
theorem ins0_li : liFine 602 [.mk 601 ob0] = true := by kernel_rfl
theorem ins0_lo : loFine 602 603 [.mk 601 ob0] [.mk 601 ob0, .mk 602 ob1] = true := by kernel_rfl
theorem ins1_a : segV (enter (run noHook 1000000) 33 [.slice (K.of 775) 0 1 1 none, .int .i64 0, .slice (K.of 776) 0 1 1 none] (withL [.mk 775 (rowOf 72 [.int .i64 1, .int .i64 63, .int .i64 1, .int .i64 81]), .mk 776 ob2] 777)) (.slice (K.of 777) 0 2 2 (some 4)) [.mk 777 (rowOf 72 [.int .i64 1, .int .i64 64, .int .i64 1, .int .i64 82, .int .i64 1, .int .i64 63, .int .i64 1, .int .i64 81])] 778 = true := by kernel_rfl
theorem ins1_b1 : ∀ k : Nat, retOf (enter (run noHook 1000000) 33 [.slice (K.of 775) 0 1 (k + 2) none, .int .i64 0, .slice (K.of 776) 0 1 1 none] (withL [.mk 775 (rowOf 72 [.int .i64 1, .int .i64 63, .int .i64 1, .int .i64 81, .top, .top, .top, .top]), .mk 776 ob2] 777)) = .slice (K.of 775) 0 2 (k + 2) none := by intro k; kernel_rfl
theorem ins1_b2 : ∀ k : Nat, segW (enter (run noHook 1000000) 33 [.slice (K.of 775) 0 1 (k + 2) none, .int .i64 0, .slice (K.of 776) 0 1 1 none] (withL [.mk 775 (rowOf 72 [.int .i64 1, .int .i64 63, .int .i64 1, .int .i64 81, .top, .top, .top, .top]), .mk 776 ob2] 777)) [.mk 775 (rowOf 72 [.int .i64 1, .int .i64 64, .int .i64 1, .int .i64 82, .int .i64 1, .int .i64 63, .int .i64 1, .int .i64 81])] 777 = true := by intro k; kernel_rfl
theorem ins1 : FactW 33 [.slice (K.of 775) 0 1 1 (some 4), .int .i64 0, .slice (K.of 776) 0 1 1 none] 777 [.mk 775 (rowOf 72 [.int .i64 1, .int .i64 63, .int .i64 1, .int .i64 81]), .mk 776 ob2] (.slice (K.of 778) 0 2 2 (some 4)) 779 [.mk 778 (rowOf 72 [.int .i64 1, .int .i64 64, .int .i64 1, .int .i64 82, .int .i64 1, .int .i64 63, .int .i64 1, .int .i64 81])] := by
  refine cap_join (bA := 777) (cA := 2) (nxA := 778) (nxB := 777) (factW_of_run noHook_ok ins1_a) (fun k => ?_) (by rfl) (by omega) (by omega) (by omega) (by omega) (by omega) (by omega) (by omega) (by omega) (by omega)
  rw [show 1 + 1 + k = k + 2 by omega]
  exact factW_of_run2 noHook_ok (ins1_b1 k) (ins1_b2 k)
theorem ins1_li : liFine 777 [.mk 775 (rowOf 72 [.int .i64 1, .int .i64 63, .int .i64 1, .int .i64 81]), .mk 776 ob2] = true := by kernel_rfl
theorem ins1_lo : loFine 777 779 [.mk 775 (rowOf 72 [.int .i64 1, .int .i64 63, .int .i64 1, .int .i64 81]), .mk 776 ob2] [.mk 778 (rowOf 72 [.int .i64 1, .int .i64 64, .int .i64 1, .int .i64 82, .int .i64 1, .int .i64 63, .int .i64 1, .int .i64 81])] = true := by kernel_rfl
theorem ins2_a : segV (enter (run noHook 1000000) 33 [.slice (K.of 1292) 0 1 1 none, .int .i64 0, .slice (K.of 1305) 0 1 1 none] (withL [.mk 1292 (rowOf 72 [.int .i64 1, .int .i64 64, .int .i64 1, .int .i64 82]), .mk 1305 ob5] 1306)) (.slice (K.of 1306) 0 2 2 (some 4)) [.mk 1306 (rowOf 72 [.int .i64 1, .int .i64 62, .int .i64 1, .int .i64 81, .int .i64 1, .int .i64 64, .int .i64 1, .int .i64 82])] 1307 = true := by kernel_rfl
theorem ins2_b1 : ∀ k : Nat, retOf (enter (run noHook 1000000) 33 [.slice (K.of 1292) 0 1 (k + 2) none, .int .i64 0, .slice (K.of 1305) 0 1 1 none] (withL [.mk 1292 (rowOf 72 [.int .i64 1, .int .i64 64, .int .i64 1, .int .i64 82, .top, .top, .top, .top]), .mk 1305 ob5] 1306)) = .slice (K.of 1292) 0 2 (k + 2) none := by intro k; kernel_rfl
theorem ins2_b2 : ∀ k : Nat, segW (enter (run noHook 1000000) 33 [.slice (K.of 1292) 0 1 (k + 2) none, .int .i64 0, .slice (K.of 1305) 0 1 1 none] (withL [.mk 1292 (rowOf 72 [.int .i64 1, .int .i64 64, .int .i64 1, .int .i64 82, .top, .top, .top, .top]), .mk 1305 ob5] 1306)) [.mk 1292 (rowOf 72 [.int .i64 1, .int .i64 62, .int .i64 1, .int .i64 81, .int .i64 1, .int .i64 64, .int .i64 1, .int .i64 82])] 1306 = true := by intro k; kernel_rfl
theorem ins2 : FactW 33 [.slice (K.of 1292) 0 1 1 (some 4), .int .i64 0, .slice (K.of 1305) 0 1 1 none] 1306 [.mk 1292 (rowOf 72 [.int .i64 1, .int .i64 64, .int .i64 1, .int .i64 82]), .mk 1305 ob5] (.slice (K.of 1307) 0 2 2 (some 4)) 1308 [.mk 1307 (rowOf 72 [.int .i64 1, .int .i64 62, .int .i64 1, .int .i64 81, .int .i64 1, .int .i64 64, .int .i64 1, .int .i64 82])] := by
  refine cap_join (bA := 1306) (cA := 2) (nxA := 1307) (nxB := 1306) (factW_of_run noHook_ok ins2_a) (fun k => ?_) (by rfl) (by omega) (by omega) (by omega) (by omega) (by omega) (by omega) (by omega) (by omega) (by omega)
  rw [show 1 + 1 + k = k + 2 by omega]
  exact factW_of_run2 noHook_ok (ins2_b1 k) (ins2_b2 k)
theorem ins2_li : liFine 1306 [.mk 1292 (rowOf 72 [.int .i64 1, .int .i64 64, .int .i64 1, .int .i64 82]), .mk 1305 ob5] = true := by kernel_rfl
theorem ins2_lo : loFine 1306 1308 [.mk 1292 (rowOf 72 [.int .i64 1, .int .i64 64, .int .i64 1, .int .i64 82]), .mk 1305 ob5] [.mk 1307 (rowOf 72 [.int .i64 1, .int .i64 62, .int .i64 1, .int .i64 81, .int .i64 1, .int .i64 64, .int .i64 1, .int .i64 82])] = true := by kernel_rfl
noncomputable def adRows : List HW := [.mk 33 [.nilSlice, .int .i64 0, .slice (K.of 601) 0 1 1 none] 602 [.mk 601 ob0] (.slice (K.of 602) 0 1 1 (some 4)) 603 [.mk 601 ob0, .mk 602 ob1],
  .mk 33 [.slice (K.of 775) 0 1 1 (some 4), .int .i64 0, .slice (K.of 776) 0 1 1 none] 777 [.mk 775 (rowOf 72 [.int .i64 1, .int .i64 63, .int .i64 1, .int .i64 81]), .mk 776 ob2] (.slice (K.of 778) 0 2 2 (some 4)) 779 [.mk 778 (rowOf 72 [.int .i64 1, .int .i64 64, .int .i64 1, .int .i64 82, .int .i64 1, .int .i64 63, .int .i64 1, .int .i64 81])],
  .mk 33 [.slice (K.of 1292) 0 1 1 (some 4), .int .i64 0, .slice (K.of 1305) 0 1 1 none] 1306 [.mk 1292 (rowOf 72 [.int .i64 1, .int .i64 64, .int .i64 1, .int .i64 82]), .mk 1305 ob5] (.slice (K.of 1307) 0 2 2 (some 4)) 1308 [.mk 1307 (rowOf 72 [.int .i64 1, .int .i64 62, .int .i64 1, .int .i64 81, .int .i64 1, .int .i64 64, .int .i64 1, .int .i64 82])]]
theorem adRows_ok : HookOk (hooksF adRows) := by
  refine hooksF_ok _ fun f vs nxi Li v nxo Lo h => ?_
  unfold adRows at h
  simp only [List.mem_cons, List.not_mem_nil, or_false] at h
  rcases h with h | h | h
  · injection h with h1 h2 h3 h4 h5 h6 h7
    subst h1 h2 h3 h4 h5 h6 h7
    exact ⟨ins0, ins0_li, ins0_lo, by omega⟩
  · injection h with h1 h2 h3 h4 h5 h6 h7
    subst h1 h2 h3 h4 h5 h6 h7
    exact ⟨ins1, ins1_li, ins1_lo, by omega⟩
  · injection h with h1 h2 h3 h4 h5 h6 h7
    subst h1 h2 h3 h4 h5 h6 h7
    exact ⟨ins2, ins2_li, ins2_lo, by omega⟩
end Go.Ev
