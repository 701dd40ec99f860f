import Derived.Test.YtkfdioikigponaaGreatDoorRaL
import Derived.Test.YtkfdioikigponaaGreatDoorRaMls0
import Derived.Test.YtkfdioikigponaaGreatDoorRaMls1
import Derived.Test.YtkfdioikigponaaGreatDoorRaMve0
import Derived.Test.YtkfdioikigponaaGreatDoorRaMve1
set_option maxRecDepth 100000
set_option linter.all false
namespace Go.Ev
abbrev a5y : SE := .app 42 (.g (.s 0) .nil)
theorem a57 : ∀ (B : Nat), (∀ σ, SAll σ [.mk false a5y (.c 1) true, .mk true (.v 1) (.c 0) false, .mk true (.len (.s 0)) (.v 1) false, .mk true (.v 2) (.c 0) false, .mk true (.c 200) (.v 2) false] → mF.eval σ < (B : Int) → @b63 ⟨σ⟩) ∧ (∀ σ, SAll σ [.mk false a5y (.c 1) true, .mk true (.v 1) (.c 0) false, .mk true (.len (.s 0)) (.v 1) false, .mk true (.v 2) (.c 0) false, .mk true (.c 200) (.v 2) false, .mk true (.v 2) (.c 1) false] → mG.eval σ < (B : Int) → @b7p ⟨σ⟩ ∧ @b48 ⟨σ⟩) ∧ (∀ σ, SAll σ [.mk false a5y (.c 1) true, .mk true (.v 1) (.c 0) false, .mk true (.len (.s 0)) (.v 1) false, .mk true (.v 2) (.c 0) false, .mk true (.c 200) (.v 2) false, .mk true (.v 2) (.c 1) false, .mk true (.v 6) (.c 1) false, .mk true (.v 1) (.v 6) false] → mG.eval σ < (B : Int) → @b5g ⟨σ⟩ ∧ @b7s ⟨σ⟩)
 | 0 => by
   refine ⟨fun σ hI hb => ?_, fun σ hI hb => ?_, fun σ hI hb => ?_⟩
   ·obtain ⟨⟨h1, h2, h3, h4⟩, _⟩ := bne hI; simp only [mF, mLn, evs, wr] at hb; omega
   ·obtain ⟨⟨h1, h2, h3, h4⟩, _⟩ := a5h hI; simp only [mG, mLn, evs, wr] at hb; omega
   ·obtain ⟨⟨h1, h2, h3, h4⟩, _⟩ := a6m hI; simp only [mG, mLn, evs, wr] at hb; omega
 | B + 1 => by
   obtain ⟨i1, i2, i3⟩ := a57 B
   refine ⟨fun σ hI hb => ?_, fun σ hI hb => ?_, fun σ hI hb => ?_⟩
   ·have hT : ∀ t ∈ [af8, aen, aeh, bes, a1a, a1g, bhv, bhw, bh1, rcF, a16, a0j, a2q, a05, wn, xc, ais, alb mF, ak9 mF], @am ⟨σ⟩ t := by
     intro t ht
     have ht : t ∈ [af8, aen, aeh, bes, a1a, a1g, bhv, bhw, bh1, rcF, a16, a0j, a2q, a05, wn, xc, ais] ++ [alb mF, ak9 mF] := ht
     rcases List.mem_append.1 ht with ht | ht
     ·exact @hkf ⟨σ⟩ t ht
     ·simp only [List.mem_cons, zH, or_false] at ht
      rcases ht with rfl | rfl
      ·exact fun σ' _ hA hb => (i1 σ' (aj hA).1 (by have hb2 : 0 ≤ mF.eval σ' ∧ mF.eval σ' < mF.eval σ := hb; omega)).1 (aj hA).2
      ·exact fun σ' _ hA hb => (i1 σ' (aj hA).1 (by have hb2 : 0 ≤ mF.eval σ' ∧ mF.eval σ' < mF.eval σ := hb; omega)).2 (aj hA).2
    have hh : ∀ t ∈ [an6, ar6, a2w, a1b, a3u, a1k, b2k mF, b3j mF, b4c mF, b0y mF], @au ⟨σ⟩ t := by
     intro t ht
     have ht : t ∈ [an6, ar6, a2w, a1b, a3u, a1k] ++ [b2k mF, b3j mF, b4c mF, b0y mF] := ht
     rcases List.mem_append.1 ht with ht | ht
     ·exact @lpf ⟨σ⟩ t ht
     ·simp only [List.mem_cons, zH, or_false] at ht
      rcases ht with rfl | rfl | rfl | rfl
      ·exact fun σ' _ hA hb => (i2 σ' (aj hA).1 (by have hb2 : 0 ≤ mG.eval σ' ∧ mG.eval σ' < mF.eval σ := hb; omega)).1.1 (aj hA).2
      ·exact fun σ' _ hA hb => (i2 σ' (aj hA).1 (by have hb2 : 0 ≤ mG.eval σ' ∧ mG.eval σ' < mF.eval σ := hb; omega)).1.2 (aj hA).2
      ·exact fun σ' _ hA hb => (i2 σ' (aj hA).1 (by have hb2 : 0 ≤ mG.eval σ' ∧ mG.eval σ' < mF.eval σ := hb; omega)).2.1 (aj hA).2
      ·exact fun σ' _ hA hb => (i2 σ' (aj hA).1 (by have hb2 : 0 ≤ mG.eval σ' ∧ mG.eval σ' < mF.eval σ := hb; omega)).2.2 (aj hA).2
    exact @b55 ⟨σ⟩ hT hh hI
   ·have hT : ∀ t ∈ [af8, aen, aeh, wn, xc, ais, aey, aev, aeq, aep, alb mG, ak9 mG], @am ⟨σ⟩ t := by
     intro t ht
     have ht : t ∈ [af8, aen, aeh, wn, xc, ais, aey, aev, aeq, aep] ++ [alb mG, ak9 mG] := ht
     rcases List.mem_append.1 ht with ht | ht
     ·exact @hkl ⟨σ⟩ t ht
     ·simp only [List.mem_cons, zH, or_false] at ht
      rcases ht with rfl | rfl
      ·exact fun σ' _ hA hb => (i1 σ' (aj hA).1 (by have hb2 : 0 ≤ mF.eval σ' ∧ mF.eval σ' < mG.eval σ := hb; omega)).1 (aj hA).2
      ·exact fun σ' _ hA hb => (i1 σ' (aj hA).1 (by have hb2 : 0 ≤ mF.eval σ' ∧ mF.eval σ' < mG.eval σ := hb; omega)).2 (aj hA).2
    have hh : ∀ t ∈ [bgo mG, bfs mG, bgp mG, bfa mG], @au ⟨σ⟩ t := by
     intro t ht
     simp only [List.mem_cons, zH, or_false] at ht
     rcases ht with rfl | rfl | rfl | rfl
     ·exact fun σ' _ hA hb => (i3 σ' (aj hA).1 (by have hb2 : 0 ≤ mG.eval σ' ∧ mG.eval σ' < mG.eval σ := hb; omega)).1.1 (aj hA).2
     ·exact fun σ' _ hA hb => (i3 σ' (aj hA).1 (by have hb2 : 0 ≤ mG.eval σ' ∧ mG.eval σ' < mG.eval σ := hb; omega)).1.2 (aj hA).2
     ·exact fun σ' _ hA hb => (i3 σ' (aj hA).1 (by have hb2 : 0 ≤ mG.eval σ' ∧ mG.eval σ' < mG.eval σ := hb; omega)).2.1 (aj hA).2
     ·exact fun σ' _ hA hb => (i3 σ' (aj hA).1 (by have hb2 : 0 ≤ mG.eval σ' ∧ mG.eval σ' < mG.eval σ := hb; omega)).2.2 (aj hA).2
    exact ⟨@b9w ⟨σ⟩ hT hh hI, @b8e ⟨σ⟩ hT hh hI⟩
   ·have hT : ∀ t ∈ [af8, aen, aeh, wn, xc, ais, aey, aev, aeq, aep, alb mG, ak9 mG], @am ⟨σ⟩ t := by
     intro t ht
     have ht : t ∈ [af8, aen, aeh, wn, xc, ais, aey, aev, aeq, aep] ++ [alb mG, ak9 mG] := ht
     rcases List.mem_append.1 ht with ht | ht
     ·exact @hkl ⟨σ⟩ t ht
     ·simp only [List.mem_cons, zH, or_false] at ht
      rcases ht with rfl | rfl
      ·exact fun σ' _ hA hb => (i1 σ' (aj hA).1 (by have hb2 : 0 ≤ mF.eval σ' ∧ mF.eval σ' < mG.eval σ := hb; omega)).1 (aj hA).2
      ·exact fun σ' _ hA hb => (i1 σ' (aj hA).1 (by have hb2 : 0 ≤ mF.eval σ' ∧ mF.eval σ' < mG.eval σ := hb; omega)).2 (aj hA).2
    have hh : ∀ t ∈ [bgo mG, bfs mG, bgp mG, bfa mG], @au ⟨σ⟩ t := by
     intro t ht
     simp only [List.mem_cons, zH, or_false] at ht
     rcases ht with rfl | rfl | rfl | rfl
     ·exact fun σ' _ hA hb => (i3 σ' (aj hA).1 (by have hb2 : 0 ≤ mG.eval σ' ∧ mG.eval σ' < mG.eval σ := hb; omega)).1.1 (aj hA).2
     ·exact fun σ' _ hA hb => (i3 σ' (aj hA).1 (by have hb2 : 0 ≤ mG.eval σ' ∧ mG.eval σ' < mG.eval σ := hb; omega)).1.2 (aj hA).2
     ·exact fun σ' _ hA hb => (i3 σ' (aj hA).1 (by have hb2 : 0 ≤ mG.eval σ' ∧ mG.eval σ' < mG.eval σ := hb; omega)).2.1 (aj hA).2
     ·exact fun σ' _ hA hb => (i3 σ' (aj hA).1 (by have hb2 : 0 ≤ mG.eval σ' ∧ mG.eval σ' < mG.eval σ := hb; omega)).2.2 (aj hA).2
    exact ⟨@b81 ⟨σ⟩ hT hh hI, @b61 ⟨σ⟩ hT hh hI⟩
theorem bq5 [Gv] : am bw2 := fun σ _ hA _ => ((a57 ((mF.eval σ).toNat + 1)).1 σ (aj hA).1 (by omega)).1 (aj hA).2
theorem bs3 [Gv] : am bv1 := fun σ _ hA _ => ((a57 ((mF.eval σ).toNat + 1)).1 σ (aj hA).1 (by omega)).2 (aj hA).2
end Go.Ev
