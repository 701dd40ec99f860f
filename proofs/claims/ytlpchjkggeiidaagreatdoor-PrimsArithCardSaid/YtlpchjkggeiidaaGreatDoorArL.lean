/- PrimsArith: the law on each path. -/
import Derived.Test.YtlpchjkggeiidaaGreatDoorArC0
import Derived.Test.YtlpchjkggeiidaaGreatDoorArC1
import Derived.Test.YtlpchjkggeiidaaGreatDoorArC2
set_option linter.all false
set_option maxRecDepth 100000
namespace Go.Proofs.YtlpchjkggeiidaaGreatDoor
open Go.Ev
noncomputable def cRows : List HE := [.mk 9 [.str 1 43, .sym .i64 x0 cA0, .sym .i64 x3 cA0] (.tuple [.int .i64 0, .bool false]), .mk 9 [.str 1 43, .sym .i64 x0 cA1, .sym .i64 x3 cA1] (.tuple [.int .i64 0, .bool false]), .mk 9 [.str 1 43, .sym .i64 x0 cA2, .sym .i64 x3 cA2] (.tuple [.int .i64 0, .bool false]), .mk 9 [.str 1 45, .sym .i64 x0 cA3, .sym .i64 x3 cA3] (.tuple [.sym .i64 x7 cA3, .bool true]), .mk 9 [.str 1 47, .sym .i64 x0 cA4, .sym .i64 x3 cA4] (.tuple [.sym .i64 x8 cA4, .bool true]), .mk 9 [.str 1 37, .sym .i64 x0 cA5, .sym .i64 x3 cA5] (.tuple [.sym .i64 x9 cA5, .bool true]), .mk 9 [.str 3 7171940, .sym .i64 x0 cA6, .sym .i64 x3 cA6] (.tuple [.sym .i64 x9 cA6, .bool true]), .mk 9 [.str 3 7168376, .sym .i64 x0 cA7, .sym .i64 x3 cA7] (.tuple [.sym .i64 x3 cA7, .bool true]), .mk 9 [.str 3 7171940, .sym .i64 x0 cA8, .sym .i64 x3 cA8] (.tuple [.sym .i64 x9 cA8, .bool true]), .mk 9 [.str 1 47, .sym .i64 x0 cA9, .sym .i64 x3 cA9] (.tuple [.int .i64 0, .bool false]), .mk 9 [.str 1 43, .sym .i64 x0 cA10, .sym .i64 x3 cA10] (.tuple [.sym .i64 x6 cA10, .bool true]), .mk 9 [.str 1 47, .sym .i64 x0 cA11, .sym .i64 x3 cA11] (.tuple [.int .i64 0, .bool false]), .mk 9 [.str 1 37, .sym .i64 x0 cA12, .sym .i64 x3 cA12] (.tuple [.int .i64 0, .bool false]), .mk 9 [.str 3 7171940, .sym .i64 x0 cA13, .sym .i64 x3 cA13] (.tuple [.int .i64 0, .bool false]), .mk 9 [.str 1 45, .sym .i64 x0 cA14, .sym .i64 x3 cA14] (.tuple [.int .i64 0, .bool false]), .mk 9 [.str 3 7171940, .sym .i64 x0 cA15, .sym .i64 x3 cA15] (.tuple [.sym .i64 x17 cA15, .bool true]), .mk 9 [.str 1 43, .sym .i64 x0 cA16, .sym .i64 x3 cA16] (.tuple [.int .i64 0, .bool false]), .mk 9 [.str 3 7168376, .sym .i64 x0 cA17, .sym .i64 x3 cA17] (.tuple [.sym .i64 x0 cA17, .bool true]), .mk 9 [.str 1 45, .sym .i64 x0 cA18, .sym .i64 x3 cA18] (.tuple [.int .i64 0, .bool false]), .mk 9 [.str 3 7171940, .sym .i64 x0 cA19, .sym .i64 x3 cA19] (.tuple [.sym .i64 x17 cA19, .bool true]), .mk 9 [.str 3 7171940, .sym .i64 x0 cA20, .sym .i64 x3 cA20] (.tuple [.sym .i64 x9 cA20, .bool true]), .mk 9 [.str 1 43, .sym .i64 x0 cA21, .sym .i64 x3 cA21] (.tuple [.int .i64 0, .bool false]), .mk 9 [.str 1 43, .sym .i64 x0 cA22, .sym .i64 x3 cA22] (.tuple [.int .i64 0, .bool false])]
theorem cRows_ok : HookOk (hooksT cRows) := hooksT_ok cRows fun f vs v h => by
  simp only [cRows, List.mem_cons, List.not_mem_nil, or_false, HE.mk.injEq] at h
  rcases h with ⟨rfl, rfl, rfl⟩ | ⟨rfl, rfl, rfl⟩ | ⟨rfl, rfl, rfl⟩ | ⟨rfl, rfl, rfl⟩ | ⟨rfl, rfl, rfl⟩ | ⟨rfl, rfl, rfl⟩ | ⟨rfl, rfl, rfl⟩ | ⟨rfl, rfl, rfl⟩ | ⟨rfl, rfl, rfl⟩ | ⟨rfl, rfl, rfl⟩ | ⟨rfl, rfl, rfl⟩ | ⟨rfl, rfl, rfl⟩ | ⟨rfl, rfl, rfl⟩ | ⟨rfl, rfl, rfl⟩ | ⟨rfl, rfl, rfl⟩ | ⟨rfl, rfl, rfl⟩ | ⟨rfl, rfl, rfl⟩ | ⟨rfl, rfl, rfl⟩ | ⟨rfl, rfl, rfl⟩ | ⟨rfl, rfl, rfl⟩ | ⟨rfl, rfl, rfl⟩ | ⟨rfl, rfl, rfl⟩ | ⟨rfl, rfl, rfl⟩
  · exact ⟨c0, by kernel_rfl, by kernel_rfl⟩
  · exact ⟨c1, by kernel_rfl, by kernel_rfl⟩
  · exact ⟨c2, by kernel_rfl, by kernel_rfl⟩
  · exact ⟨c3, by kernel_rfl, by kernel_rfl⟩
  · exact ⟨c4, by kernel_rfl, by kernel_rfl⟩
  · exact ⟨c5, by kernel_rfl, by kernel_rfl⟩
  · exact ⟨c6, by kernel_rfl, by kernel_rfl⟩
  · exact ⟨c7, by kernel_rfl, by kernel_rfl⟩
  · exact ⟨c8, by kernel_rfl, by kernel_rfl⟩
  · exact ⟨c9, by kernel_rfl, by kernel_rfl⟩
  · exact ⟨c10, by kernel_rfl, by kernel_rfl⟩
  · exact ⟨c11, by kernel_rfl, by kernel_rfl⟩
  · exact ⟨c12, by kernel_rfl, by kernel_rfl⟩
  · exact ⟨c13, by kernel_rfl, by kernel_rfl⟩
  · exact ⟨c14, by kernel_rfl, by kernel_rfl⟩
  · exact ⟨c15, by kernel_rfl, by kernel_rfl⟩
  · exact ⟨c16, by kernel_rfl, by kernel_rfl⟩
  · exact ⟨c17, by kernel_rfl, by kernel_rfl⟩
  · exact ⟨c18, by kernel_rfl, by kernel_rfl⟩
  · exact ⟨c19, by kernel_rfl, by kernel_rfl⟩
  · exact ⟨c20, by kernel_rfl, by kernel_rfl⟩
  · exact ⟨c21, by kernel_rfl, by kernel_rfl⟩
  · exact ⟨c22, by kernel_rfl, by kernel_rfl⟩
theorem lives_run : retV (enter (run (hooksR rfR11) 1000000) 5 [] wS) (.bool true) = true := by kernel_rfl
theorem lives_fact : HookFact 5 [] (.bool true) := fact_of_run (rfR11_ok) rfl rfl lives_run
noncomputable def lvH : List HE := [.mk 5 [] (.bool true)]
theorem lvH_ok : HookOk (hooks lvH) := hooks_ok lvH fun f vs v h => by
  simp only [lvH, List.mem_cons, List.not_mem_nil, or_false, HE.mk.injEq] at h
  obtain ⟨rfl, rfl, rfl⟩ := h
  exact lives_fact
noncomputable def lawH : Hook := orH (hooksT cRows) (hooks lvH)
theorem lawH_ok : HookOk lawH := orH_ok cRows_ok lvH_ok
theorem l0_run : retV (enter (run lawH 1000000) 4 [.sym .i64 x0 lA0, .sym .i64 x3 lA0] wS) (.bool true) = true := by kernel_rfl
theorem l0 : SymFact 4 [.sym .i64 x0 lA0, .sym .i64 x3 lA0] (.bool true) := symFact_of_run (by kernel_rfl) lawH_ok (by kernel_rfl) l0_run
theorem l1_run : retV (enter (run lawH 1000000) 4 [.sym .i64 x0 lA1, .sym .i64 x3 lA1] wS) (.bool true) = true := by kernel_rfl
theorem l1 : SymFact 4 [.sym .i64 x0 lA1, .sym .i64 x3 lA1] (.bool true) := symFact_of_run (by kernel_rfl) lawH_ok (by kernel_rfl) l1_run
theorem l2_run : retV (enter (run lawH 1000000) 4 [.sym .i64 x0 lA2, .sym .i64 x3 lA2] wS) (.bool true) = true := by kernel_rfl
theorem l2 : SymFact 4 [.sym .i64 x0 lA2, .sym .i64 x3 lA2] (.bool true) := symFact_of_run (by kernel_rfl) lawH_ok (by kernel_rfl) l2_run
theorem l3_run : retV (enter (run lawH 1000000) 4 [.sym .i64 x0 lA3, .sym .i64 x3 lA3] wS) (.bool true) = true := by kernel_rfl
theorem l3 : SymFact 4 [.sym .i64 x0 lA3, .sym .i64 x3 lA3] (.bool true) := symFact_of_run (by kernel_rfl) lawH_ok (by kernel_rfl) l3_run
theorem l4_run : retV (enter (run lawH 1000000) 4 [.sym .i64 x0 lA4, .sym .i64 x3 lA4] wS) (.bool true) = true := by kernel_rfl
theorem l4 : SymFact 4 [.sym .i64 x0 lA4, .sym .i64 x3 lA4] (.bool true) := symFact_of_run (by kernel_rfl) lawH_ok (by kernel_rfl) l4_run
theorem l5_run : retV (enter (run lawH 1000000) 4 [.sym .i64 x0 lA5, .sym .i64 x3 lA5] wS) (.bool true) = true := by kernel_rfl
theorem l5 : SymFact 4 [.sym .i64 x0 lA5, .sym .i64 x3 lA5] (.bool true) := symFact_of_run (by kernel_rfl) lawH_ok (by kernel_rfl) l5_run
theorem l6_run : retV (enter (run lawH 1000000) 4 [.sym .i64 x0 lA6, .sym .i64 x3 lA6] wS) (.bool true) = true := by kernel_rfl
theorem l6 : SymFact 4 [.sym .i64 x0 lA6, .sym .i64 x3 lA6] (.bool true) := symFact_of_run (by kernel_rfl) lawH_ok (by kernel_rfl) l6_run
theorem l7_run : retV (enter (run lawH 1000000) 4 [.sym .i64 x0 lA7, .sym .i64 x3 lA7] wS) (.bool true) = true := by kernel_rfl
theorem l7 : SymFact 4 [.sym .i64 x0 lA7, .sym .i64 x3 lA7] (.bool true) := symFact_of_run (by kernel_rfl) lawH_ok (by kernel_rfl) l7_run
theorem l8_run : retV (enter (run lawH 1000000) 4 [.sym .i64 x0 lA8, .sym .i64 x3 lA8] wS) (.bool true) = true := by kernel_rfl
theorem l8 : SymFact 4 [.sym .i64 x0 lA8, .sym .i64 x3 lA8] (.bool true) := symFact_of_run (by kernel_rfl) lawH_ok (by kernel_rfl) l8_run
theorem l9_run : retV (enter (run lawH 1000000) 4 [.sym .i64 x0 lA9, .sym .i64 x3 lA9] wS) (.bool true) = true := by kernel_rfl
theorem l9 : SymFact 4 [.sym .i64 x0 lA9, .sym .i64 x3 lA9] (.bool true) := symFact_of_run (by kernel_rfl) lawH_ok (by kernel_rfl) l9_run
theorem l10_run : retV (enter (run lawH 1000000) 4 [.sym .i64 x0 lA10, .sym .i64 x3 lA10] wS) (.bool true) = true := by kernel_rfl
theorem l10 : SymFact 4 [.sym .i64 x0 lA10, .sym .i64 x3 lA10] (.bool true) := symFact_of_run (by kernel_rfl) lawH_ok (by kernel_rfl) l10_run
theorem l11_run : retV (enter (run lawH 1000000) 4 [.sym .i64 x0 lA11, .sym .i64 x3 lA11] wS) (.bool true) = true := by kernel_rfl
theorem l11 : SymFact 4 [.sym .i64 x0 lA11, .sym .i64 x3 lA11] (.bool true) := symFact_of_run (by kernel_rfl) lawH_ok (by kernel_rfl) l11_run
theorem l12_run : retV (enter (run lawH 1000000) 4 [.sym .i64 x0 lA12, .sym .i64 x3 lA12] wS) (.bool true) = true := by kernel_rfl
theorem l12 : SymFact 4 [.sym .i64 x0 lA12, .sym .i64 x3 lA12] (.bool true) := symFact_of_run (by kernel_rfl) lawH_ok (by kernel_rfl) l12_run
theorem l13_run : retV (enter (run lawH 1000000) 4 [.sym .i64 x0 lA13, .sym .i64 x3 lA13] wS) (.bool true) = true := by kernel_rfl
theorem l13 : SymFact 4 [.sym .i64 x0 lA13, .sym .i64 x3 lA13] (.bool true) := symFact_of_run (by kernel_rfl) lawH_ok (by kernel_rfl) l13_run
theorem l14_run : retV (enter (run lawH 1000000) 4 [.sym .i64 x0 lA14, .sym .i64 x3 lA14] wS) (.bool true) = true := by kernel_rfl
theorem l14 : SymFact 4 [.sym .i64 x0 lA14, .sym .i64 x3 lA14] (.bool true) := symFact_of_run (by kernel_rfl) lawH_ok (by kernel_rfl) l14_run
theorem l15_run : retV (enter (run lawH 1000000) 4 [.sym .i64 x0 lA15, .sym .i64 x3 lA15] wS) (.bool true) = true := by kernel_rfl
theorem l15 : SymFact 4 [.sym .i64 x0 lA15, .sym .i64 x3 lA15] (.bool true) := symFact_of_run (by kernel_rfl) lawH_ok (by kernel_rfl) l15_run
theorem l16_run : retV (enter (run lawH 1000000) 4 [.sym .i64 x0 lA16, .sym .i64 x3 lA16] wS) (.bool true) = true := by kernel_rfl
theorem l16 : SymFact 4 [.sym .i64 x0 lA16, .sym .i64 x3 lA16] (.bool true) := symFact_of_run (by kernel_rfl) lawH_ok (by kernel_rfl) l16_run
theorem l17_run : retV (enter (run lawH 1000000) 4 [.sym .i64 x0 lA17, .sym .i64 x3 lA17] wS) (.bool true) = true := by kernel_rfl
theorem l17 : SymFact 4 [.sym .i64 x0 lA17, .sym .i64 x3 lA17] (.bool true) := symFact_of_run (by kernel_rfl) lawH_ok (by kernel_rfl) l17_run
theorem l18_run : retV (enter (run lawH 1000000) 4 [.sym .i64 x0 lA18, .sym .i64 x3 lA18] wS) (.bool true) = true := by kernel_rfl
theorem l18 : SymFact 4 [.sym .i64 x0 lA18, .sym .i64 x3 lA18] (.bool true) := symFact_of_run (by kernel_rfl) lawH_ok (by kernel_rfl) l18_run
theorem l19_run : retV (enter (run lawH 1000000) 4 [.sym .i64 x0 lA19, .sym .i64 x3 lA19] wS) (.bool true) = true := by kernel_rfl
theorem l19 : SymFact 4 [.sym .i64 x0 lA19, .sym .i64 x3 lA19] (.bool true) := symFact_of_run (by kernel_rfl) lawH_ok (by kernel_rfl) l19_run
theorem l20_run : retV (enter (run lawH 1000000) 4 [.sym .i64 x0 lA20, .sym .i64 x3 lA20] wS) (.bool true) = true := by kernel_rfl
theorem l20 : SymFact 4 [.sym .i64 x0 lA20, .sym .i64 x3 lA20] (.bool true) := symFact_of_run (by kernel_rfl) lawH_ok (by kernel_rfl) l20_run
theorem l21_run : retV (enter (run lawH 1000000) 4 [.sym .i64 x0 lA21, .sym .i64 x3 lA21] wS) (.bool true) = true := by kernel_rfl
theorem l21 : SymFact 4 [.sym .i64 x0 lA21, .sym .i64 x3 lA21] (.bool true) := symFact_of_run (by kernel_rfl) lawH_ok (by kernel_rfl) l21_run
theorem l22_run : retV (enter (run lawH 1000000) 4 [.sym .i64 x0 lA22, .sym .i64 x3 lA22] wS) (.bool true) = true := by kernel_rfl
theorem l22 : SymFact 4 [.sym .i64 x0 lA22, .sym .i64 x3 lA22] (.bool true) := symFact_of_run (by kernel_rfl) lawH_ok (by kernel_rfl) l22_run
theorem l23_run : retV (enter (run lawH 1000000) 4 [.sym .i64 x0 lA23, .sym .i64 x3 lA23] wS) (.bool true) = true := by kernel_rfl
theorem l23 : SymFact 4 [.sym .i64 x0 lA23, .sym .i64 x3 lA23] (.bool true) := symFact_of_run (by kernel_rfl) lawH_ok (by kernel_rfl) l23_run
theorem l24_run : retV (enter (run lawH 1000000) 4 [.sym .i64 x0 lA24, .sym .i64 x3 lA24] wS) (.bool true) = true := by kernel_rfl
theorem l24 : SymFact 4 [.sym .i64 x0 lA24, .sym .i64 x3 lA24] (.bool true) := symFact_of_run (by kernel_rfl) lawH_ok (by kernel_rfl) l24_run
theorem l25_run : retV (enter (run lawH 1000000) 4 [.sym .i64 x0 lA25, .sym .i64 x3 lA25] wS) (.bool true) = true := by kernel_rfl
theorem l25 : SymFact 4 [.sym .i64 x0 lA25, .sym .i64 x3 lA25] (.bool true) := symFact_of_run (by kernel_rfl) lawH_ok (by kernel_rfl) l25_run
theorem l26_run : retV (enter (run lawH 1000000) 4 [.sym .i64 x0 lA26, .sym .i64 x3 lA26] wS) (.bool true) = true := by kernel_rfl
theorem l26 : SymFact 4 [.sym .i64 x0 lA26, .sym .i64 x3 lA26] (.bool true) := symFact_of_run (by kernel_rfl) lawH_ok (by kernel_rfl) l26_run
theorem l27_run : retV (enter (run lawH 1000000) 4 [.sym .i64 x0 lA27, .sym .i64 x3 lA27] wS) (.bool true) = true := by kernel_rfl
theorem l27 : SymFact 4 [.sym .i64 x0 lA27, .sym .i64 x3 lA27] (.bool true) := symFact_of_run (by kernel_rfl) lawH_ok (by kernel_rfl) l27_run
theorem l28_run : retV (enter (run lawH 1000000) 4 [.sym .i64 x0 lA28, .sym .i64 x3 lA28] wS) (.bool true) = true := by kernel_rfl
theorem l28 : SymFact 4 [.sym .i64 x0 lA28, .sym .i64 x3 lA28] (.bool true) := symFact_of_run (by kernel_rfl) lawH_ok (by kernel_rfl) l28_run
theorem l29_run : retV (enter (run lawH 1000000) 4 [.sym .i64 x0 lA29, .sym .i64 x3 lA29] wS) (.bool true) = true := by kernel_rfl
theorem l29 : SymFact 4 [.sym .i64 x0 lA29, .sym .i64 x3 lA29] (.bool true) := symFact_of_run (by kernel_rfl) lawH_ok (by kernel_rfl) l29_run
theorem l30_run : retV (enter (run lawH 1000000) 4 [.sym .i64 x0 lA30, .sym .i64 x3 lA30] wS) (.bool true) = true := by kernel_rfl
theorem l30 : SymFact 4 [.sym .i64 x0 lA30, .sym .i64 x3 lA30] (.bool true) := symFact_of_run (by kernel_rfl) lawH_ok (by kernel_rfl) l30_run
theorem l31_run : retV (enter (run lawH 1000000) 4 [.sym .i64 x0 lA31, .sym .i64 x3 lA31] wS) (.bool true) = true := by kernel_rfl
theorem l31 : SymFact 4 [.sym .i64 x0 lA31, .sym .i64 x3 lA31] (.bool true) := symFact_of_run (by kernel_rfl) lawH_ok (by kernel_rfl) l31_run
theorem l32_run : retV (enter (run lawH 1000000) 4 [.sym .i64 x0 lA32, .sym .i64 x3 lA32] wS) (.bool true) = true := by kernel_rfl
theorem l32 : SymFact 4 [.sym .i64 x0 lA32, .sym .i64 x3 lA32] (.bool true) := symFact_of_run (by kernel_rfl) lawH_ok (by kernel_rfl) l32_run
theorem l33_run : retV (enter (run lawH 1000000) 4 [.sym .i64 x0 lA33, .sym .i64 x3 lA33] wS) (.bool true) = true := by kernel_rfl
theorem l33 : SymFact 4 [.sym .i64 x0 lA33, .sym .i64 x3 lA33] (.bool true) := symFact_of_run (by kernel_rfl) lawH_ok (by kernel_rfl) l33_run
theorem l34_run : retV (enter (run lawH 1000000) 4 [.sym .i64 x0 lA34, .sym .i64 x3 lA34] wS) (.bool true) = true := by kernel_rfl
theorem l34 : SymFact 4 [.sym .i64 x0 lA34, .sym .i64 x3 lA34] (.bool true) := symFact_of_run (by kernel_rfl) lawH_ok (by kernel_rfl) l34_run
theorem l35_run : retV (enter (run lawH 1000000) 4 [.sym .i64 x0 lA35, .sym .i64 x3 lA35] wS) (.bool true) = true := by kernel_rfl
theorem l35 : SymFact 4 [.sym .i64 x0 lA35, .sym .i64 x3 lA35] (.bool true) := symFact_of_run (by kernel_rfl) lawH_ok (by kernel_rfl) l35_run
end Go.Proofs.YtlpchjkggeiidaaGreatDoor
