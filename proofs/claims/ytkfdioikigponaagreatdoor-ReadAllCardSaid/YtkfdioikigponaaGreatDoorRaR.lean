import Derived.Test.YtkfdioikigponaaGreatDoorRaL
import Derived.Test.YtkfdioikigponaaGreatDoorRaMls0
import Derived.Test.YtkfdioikigponaaGreatDoorRaMls1
import Derived.Test.YtkfdioikigponaaGreatDoorRaMve0
import Derived.Test.YtkfdioikigponaaGreatDoorRaMve1
set_option maxRecDepth 100000
set_option linter.all false
namespace Go.Ev
abbrev a40 : SE := .app 42 (.g (.s 0) .nil)
/- Forms, lists, vectors: by the measure. -/
theorem a6y : ∀ (B : Nat), (∀ σ, SAll σ [.mk false a40 (.c 1) true, .mk true (.v 1) (.c 0) false, .mk true (.len (.s 0)) (.v 1) false, .mk true (.v 2) (.c 0) false, .mk true (.c 200) (.v 2) false] → mF.eval σ < (B : Int) → @b48 ⟨σ⟩) ∧ (∀ σ, SAll σ [.mk false a40 (.c 1) true, .mk true (.v 1) (.c 0) false, .mk true (.len (.s 0)) (.v 1) false, .mk true (.v 2) (.c 0) false, .mk true (.c 200) (.v 2) false, .mk true (.v 2) (.c 1) false] → mG.eval σ < (B : Int) → @b62 ⟨σ⟩ ∧ @b7v ⟨σ⟩) ∧ (∀ σ, SAll σ [.mk false a40 (.c 1) true, .mk true (.v 1) (.c 0) false, .mk true (.len (.s 0)) (.v 1) false, .mk true (.v 2) (.c 0) false, .mk true (.c 200) (.v 2) false, .mk true (.v 2) (.c 1) false, .mk true (.v 6) (.c 1) false, .mk true (.v 1) (.v 6) false] → mG.eval σ < (B : Int) → @b72 ⟨σ⟩ ∧ @b6w ⟨σ⟩)
 | 0 => by
   refine ⟨fun σ hI hb => ?_, fun σ hI hb => ?_, fun σ hI hb => ?_⟩
   ·obtain ⟨⟨h1, h2, h3, h4⟩, _⟩ := bh6 hI; simp only [mF, mLn, evs, wr] at hb; omega
   ·obtain ⟨⟨h1, h2, h3, h4⟩, _⟩ := a7h hI; simp only [mG, mLn, evs, wr] at hb; omega
   ·obtain ⟨⟨h1, h2, h3, h4⟩, _⟩ := a5w hI; simp only [mG, mLn, evs, wr] at hb; omega
 | B + 1 => by
   obtain ⟨i1, i2, i3⟩ := a6y B
   refine ⟨fun σ hI hb => ?_, fun σ hI hb => ?_, fun σ hI hb => ?_⟩
   ·have hT : ∀ t ∈ [acp, aey, ae4, bfm, a37, a3d, bmx, bkt, bo2, rcF, a3m, a0s, a3a, a21, wm, xf, aiu, aok mF, apq mF], @ap ⟨σ⟩ t := by
     intro t ht
     have ht : t ∈ [acp, aey, ae4, bfm, a37, a3d, bmx, bkt, bo2, rcF, a3m, a0s, a3a, a21, wm, xf, aiu] ++ [aok mF, apq mF] := ht
     rcases List.mem_append.1 ht with ht | ht
     ·exact @hkf ⟨σ⟩ t ht
     ·simp only [List.mem_cons, List.not_mem_nil, or_false] at ht
      rcases ht with rfl | rfl
      ·exact fun σ' _ hA hb => (i1 σ' (aj hA).1 (by have hb2 : 0 ≤ mF.eval σ' ∧ mF.eval σ' < mF.eval σ := hb; omega)).1 (aj hA).2
      ·exact fun σ' _ hA hb => (i1 σ' (aj hA).1 (by have hb2 : 0 ≤ mF.eval σ' ∧ mF.eval σ' < mF.eval σ := hb; omega)).2 (aj hA).2
    have hh : ∀ t ∈ [ar4, aoz, a0x, a1f, a1u, a2o, b2q mF, bz1 mF, b04 mF, b2h mF], @ba ⟨σ⟩ t := by
     intro t ht
     have ht : t ∈ [ar4, aoz, a0x, a1f, a1u, a2o] ++ [b2q mF, bz1 mF, b04 mF, b2h mF] := ht
     rcases List.mem_append.1 ht with ht | ht
     ·exact @lpf ⟨σ⟩ t ht
     ·simp only [List.mem_cons, List.not_mem_nil, or_false] at ht
      rcases ht with rfl | rfl | rfl | rfl
      ·exact fun σ' _ hA hb => (i2 σ' (aj hA).1 (by have hb2 : 0 ≤ mG.eval σ' ∧ mG.eval σ' < mF.eval σ := hb; omega)).1.1 (aj hA).2
      ·exact fun σ' _ hA hb => (i2 σ' (aj hA).1 (by have hb2 : 0 ≤ mG.eval σ' ∧ mG.eval σ' < mF.eval σ := hb; omega)).1.2 (aj hA).2
      ·exact fun σ' _ hA hb => (i2 σ' (aj hA).1 (by have hb2 : 0 ≤ mG.eval σ' ∧ mG.eval σ' < mF.eval σ := hb; omega)).2.1 (aj hA).2
      ·exact fun σ' _ hA hb => (i2 σ' (aj hA).1 (by have hb2 : 0 ≤ mG.eval σ' ∧ mG.eval σ' < mF.eval σ := hb; omega)).2.2 (aj hA).2
    exact @b3z ⟨σ⟩ hT hh hI
   ·have hT : ∀ t ∈ [acp, aey, ae4, wm, xf, aiu, afe, aff, ae6, ae8, aok mG, apq mG], @ap ⟨σ⟩ t := by
     intro t ht
     have ht : t ∈ [acp, aey, ae4, wm, xf, aiu, afe, aff, ae6, ae8] ++ [aok mG, apq mG] := ht
     rcases List.mem_append.1 ht with ht | ht
     ·exact @hkl ⟨σ⟩ t ht
     ·simp only [List.mem_cons, List.not_mem_nil, or_false] at ht
      rcases ht with rfl | rfl
      ·exact fun σ' _ hA hb => (i1 σ' (aj hA).1 (by have hb2 : 0 ≤ mF.eval σ' ∧ mF.eval σ' < mG.eval σ := hb; omega)).1 (aj hA).2
      ·exact fun σ' _ hA hb => (i1 σ' (aj hA).1 (by have hb2 : 0 ≤ mF.eval σ' ∧ mF.eval σ' < mG.eval σ := hb; omega)).2 (aj hA).2
    have hh : ∀ t ∈ [bf1 mG, bhq mG, bg6 mG, bfh mG], @ba ⟨σ⟩ t := by
     intro t ht
     simp only [List.mem_cons, List.not_mem_nil, or_false] at ht
     rcases ht with rfl | rfl | rfl | rfl
     ·exact fun σ' _ hA hb => (i3 σ' (aj hA).1 (by have hb2 : 0 ≤ mG.eval σ' ∧ mG.eval σ' < mG.eval σ := hb; omega)).1.1 (aj hA).2
     ·exact fun σ' _ hA hb => (i3 σ' (aj hA).1 (by have hb2 : 0 ≤ mG.eval σ' ∧ mG.eval σ' < mG.eval σ := hb; omega)).1.2 (aj hA).2
     ·exact fun σ' _ hA hb => (i3 σ' (aj hA).1 (by have hb2 : 0 ≤ mG.eval σ' ∧ mG.eval σ' < mG.eval σ := hb; omega)).2.1 (aj hA).2
     ·exact fun σ' _ hA hb => (i3 σ' (aj hA).1 (by have hb2 : 0 ≤ mG.eval σ' ∧ mG.eval σ' < mG.eval σ := hb; omega)).2.2 (aj hA).2
    exact ⟨@b45 ⟨σ⟩ hT hh hI, @b4q ⟨σ⟩ hT hh hI⟩
   ·have hT : ∀ t ∈ [acp, aey, ae4, wm, xf, aiu, afe, aff, ae6, ae8, aok mG, apq mG], @ap ⟨σ⟩ t := by
     intro t ht
     have ht : t ∈ [acp, aey, ae4, wm, xf, aiu, afe, aff, ae6, ae8] ++ [aok mG, apq mG] := ht
     rcases List.mem_append.1 ht with ht | ht
     ·exact @hkl ⟨σ⟩ t ht
     ·simp only [List.mem_cons, List.not_mem_nil, or_false] at ht
      rcases ht with rfl | rfl
      ·exact fun σ' _ hA hb => (i1 σ' (aj hA).1 (by have hb2 : 0 ≤ mF.eval σ' ∧ mF.eval σ' < mG.eval σ := hb; omega)).1 (aj hA).2
      ·exact fun σ' _ hA hb => (i1 σ' (aj hA).1 (by have hb2 : 0 ≤ mF.eval σ' ∧ mF.eval σ' < mG.eval σ := hb; omega)).2 (aj hA).2
    have hh : ∀ t ∈ [bf1 mG, bhq mG, bg6 mG, bfh mG], @ba ⟨σ⟩ t := by
     intro t ht
     simp only [List.mem_cons, List.not_mem_nil, or_false] at ht
     rcases ht with rfl | rfl | rfl | rfl
     ·exact fun σ' _ hA hb => (i3 σ' (aj hA).1 (by have hb2 : 0 ≤ mG.eval σ' ∧ mG.eval σ' < mG.eval σ := hb; omega)).1.1 (aj hA).2
     ·exact fun σ' _ hA hb => (i3 σ' (aj hA).1 (by have hb2 : 0 ≤ mG.eval σ' ∧ mG.eval σ' < mG.eval σ := hb; omega)).1.2 (aj hA).2
     ·exact fun σ' _ hA hb => (i3 σ' (aj hA).1 (by have hb2 : 0 ≤ mG.eval σ' ∧ mG.eval σ' < mG.eval σ := hb; omega)).2.1 (aj hA).2
     ·exact fun σ' _ hA hb => (i3 σ' (aj hA).1 (by have hb2 : 0 ≤ mG.eval σ' ∧ mG.eval σ' < mG.eval σ := hb; omega)).2.2 (aj hA).2
    exact ⟨@b4m ⟨σ⟩ hT hh hI, @b80 ⟨σ⟩ hT hh hI⟩
theorem bel [Gv] : ap bjs := fun σ _ hA _ => ((a6y ((mF.eval σ).toNat + 1)).1 σ (aj hA).1 (by omega)).1 (aj hA).2
theorem bct [Gv] : ap bl5 := fun σ _ hA _ => ((a6y ((mF.eval σ).toNat + 1)).1 σ (aj hA).1 (by omega)).2 (aj hA).2
end Go.Ev
