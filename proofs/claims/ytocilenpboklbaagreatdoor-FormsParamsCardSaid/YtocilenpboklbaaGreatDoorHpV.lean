import Derived.Test.YtocilenpboklbaaGreatDoorHpU
set_option maxRecDepth 100000
set_option linter.all false
namespace Go.Ev
theorem aa2 : od [300] := ⟨300, [], rfl, by omega, by omega, by simp, by simp [gy]⟩
theorem a1r : co [300] = 0 := rfl
theorem ao7 {a b c : Int} (ha : 0 ≤ a ∧ a ≤ 60) (hb : 0 ≤ b ∧ b ≤ 60) : 0 ≤ ea a b c ∧ ea a b c ≤ 123 := by
 unfold ea
 split <;> split <;> omega
section
variable {σ : Nat → List Int}
theorem oq {R H S PN PM : GE} {N K M LN PE PR PP : SE} {a b c : Int}
  (eH : H = .app 210 (.i N (.g (.one (.c 300)) (.g R (.i (.c 1) (.i (.c 0) .nil))))))
  (eK : K = .app 211 (.i N (.g (.one (.c 300)) (.g R (.i (.c 1) (.i (.c 0) .nil))))))
  (eM : M = .app 212 (.i N (.g (.one (.c 300)) (.g R (.i (.c 1) (.i (.c 0) .nil))))))
  (eS : S = .app 213 (.g H (.i K (.i M .nil)))) (eL : LN = .app 213 (.g H (.i K (.i M .nil))))
  (eE : PE = .app 218 (.g S (.i (.c 0) (.g .nil (.g .nil (.i (.c (-1)) (.i (.c 0) .nil)))))))
  (eR : PR = .app 219 (.g S (.i (.c 0) (.g .nil (.g .nil (.i (.c (-1)) (.i (.c 0) .nil)))))))
  (eP : PP = .app 220 (.g S (.i (.c 0) (.g .nil (.g .nil (.i (.c (-1)) (.i (.c 0) .nil)))))))
  (eN : PN = .app 218 (.g S (.i (.c 0) (.g .nil (.g .nil (.i (.c (-1)) (.i (.c 0) .nil)))))))
  (eY : PM = .app 219 (.g S (.i (.c 0) (.g .nil (.g .nil (.i (.c (-1)) (.i (.c 0) .nil)))))))
  (ha : 0 ≤ a ∧ a ≤ 60) (hb : 0 ≤ b ∧ b ≤ 60) (hR : R.eval σ = du a b c) (hN : N.eval σ = ea a b c) :
  od (H.eval σ) ∧ co (H.eval σ) = ea a b c ∧ (H.eval σ).getD (0 : Int).toNat 0 = 300 ∧ LN.eval σ = ea a b c ∧ PE.eval σ = 0 ∧ PP.eval σ = qk b c ∧ PR.eval σ = aaw c ∧ PN.eval σ = seqR 100 a ∧ PM.eval σ = seqR 200 b ∧ ((PN.eval σ).length : Int) = a ∧ ((PM.eval σ).length : Int) = b := by
 have hn := ao7 (c := c) ha hb
 obtain ⟨m1, m2, m3, m4, m5⟩ := a1u (l := [300]) (ws := du a b c) aa2 hn.1 (by rw [a1r]; show 0 + ea a b c ≤ 300; omega) (ac5 ha.1 hb.1)
 have hH : H.eval σ = (pq (ea a b c) [300] (du a b c) 1 0).l := by rw [eH, ← hR, ← hN]; rfl
 have hK : K.eval σ = (pq (ea a b c) [300] (du a b c) 1 0).k := by rw [eK, ← hR, ← hN]; rfl
 have hM : M.eval σ = (pq (ea a b c) [300] (du a b c) 1 0).n := by rw [eM, ← hR, ← hN]; rfl
 have hS : S.eval σ = du a b c := by
  rw [eS]
  show w8 (H.eval σ) (K.eval σ) (M.eval σ) = _
  rw [hH, hK, hM, m5]
 have hp := bh2 (c := c) ha hb
 have q : cq (S.eval σ) 0 [] [] (-1) 0 = ⟨0, seqR 100 a, seqR 200 b, aaw c, qk b c⟩ := by rw [hS, hp]
 have z1 : PN.eval σ = seqR 100 a := by rw [eN]; show (cq (S.eval σ) 0 [] [] (-1) 0).need = _; rw [q]
 have z2 : PM.eval σ = seqR 200 b := by rw [eY]; show (cq (S.eval σ) 0 [] [] (-1) 0).may = _; rw [q]
 refine ⟨by rw [hH]; exact m1, by rw [hH, m2, a1r]; omega, by rw [hH, m3]; rfl, ?_, ?_, ?_, ?_, z1, z2, by rw [z1, ya ha.1], by rw [z2, ya hb.1]⟩
 ·rw [eL]
  show j7 (H.eval σ) (K.eval σ) (M.eval σ) = _
  rw [hH, hK, hM, m4]
 ·rw [eE]; show (cq (S.eval σ) 0 [] [] (-1) 0).e = _; rw [q]
 ·rw [eP]; show (cq (S.eval σ) 0 [] [] (-1) 0).p = _; rw [q]
 ·rw [eR]; show (cq (S.eval σ) 0 [] [] (-1) 0).r = _; rw [q]
theorem j5 {R H H0 S : GE} {N K M LN : SE} {a b c : Int}
  (eH : H = .app 210 (.i N (.g H0 (.g R (.i (.c 1) (.i (.c 0) .nil))))))
  (eK : K = .app 211 (.i N (.g H0 (.g R (.i (.c 1) (.i (.c 0) .nil))))))
  (eM : M = .app 212 (.i N (.g H0 (.g R (.i (.c 1) (.i (.c 0) .nil))))))
  (eS : S = .app 213 (.g H (.i K (.i M .nil)))) (eL : LN = .app 213 (.g H (.i K (.i M .nil))))
  (ha : 0 ≤ a ∧ a ≤ 60) (hb : 0 ≤ b ∧ b ≤ 60) (h1 : od (H0.eval σ)) (h2 : co (H0.eval σ) = ea a b c) (h3 : (H0.eval σ).getD (0 : Int).toNat 0 = 300)
  (hR : R.eval σ = du a b c ++ [1, 100]) (hN : N.eval σ = ea a b c + 1) :
  od (H.eval σ) ∧ LN.eval σ = ea a b c + 1 ∧ S.eval σ = du a b c ++ [1, 100] := by
 have hn := ao7 (c := c) ha hb
 have hl := ac5 (c := c) ha.1 hb.1
 obtain ⟨m1, m2, m3, m4, m5⟩ := a1u (l := H0.eval σ) (i := ea a b c + 1) (ws := du a b c ++ [1, 100]) h1 (by omega) (by rw [h2, h3]; omega) (by rw [zP]; simp only [zO, zD]; omega)
 have hH : H.eval σ = (pq (ea a b c + 1) (H0.eval σ) (du a b c ++ [1, 100]) 1 0).l := by rw [eH, ← hR, ← hN]; rfl
 have hK : K.eval σ = (pq (ea a b c + 1) (H0.eval σ) (du a b c ++ [1, 100]) 1 0).k := by rw [eK, ← hR, ← hN]; rfl
 have hM : M.eval σ = (pq (ea a b c + 1) (H0.eval σ) (du a b c ++ [1, 100]) 1 0).n := by rw [eM, ← hR, ← hN]; rfl
 refine ⟨by rw [hH]; exact m1, ?_, ?_⟩
 ·rw [eL]
  show j7 (H.eval σ) (K.eval σ) (M.eval σ) = _
  rw [hH, hK, hM, m4]
 ·rw [eS]
  show w8 (H.eval σ) (K.eval σ) (M.eval σ) = _
  rw [hH, hK, hM, m5]
theorem zv {S : GE} {PE : SE} {a b c : Int} (eE : PE = .app 218 (.g S (.i (.c 0) (.g .nil (.g .nil (.i (.c (-1)) (.i (.c 0) .nil)))))))
  (ha : 0 ≤ a ∧ a ≤ 60) (hb : 0 ≤ b ∧ b ≤ 60) (h : 0 < a ∨ c = 1) (hS : S.eval σ = du a b c ++ [1, 100]) : PE.eval σ ≠ 0 := by
 rw [eE]
 show (cq (S.eval σ) 0 [] [] (-1) 0).e ≠ 0
 rw [hS]; exact bcf ha hb h
theorem bce {b : Int} (hb : 0 ≤ b ∧ b ≤ 60) : cq (du 0 b 0 ++ [1, 100]) 0 [] [] (-1) 0 = if 0 < b then ⟨0, [], seqR 200 b ++ [100], -1, 1⟩ else ⟨0, [100], [], -1, 0⟩ := by
 rw [ayk [1, 100] (by omega) hb]
 have hl := ac5 (a := 0) (b := b) (c := 0) (by omega) hb.1
 have hn := ao7 (a := 0) (b := b) (c := 0) (by omega) hb
 have g : ∀ j : Int, 0 ≤ j → (du 0 b 0 ++ [1, 100]).getD (2 * ea 0 b 0 + j).toNat 0 = [1, 100].getD j.toNat 0 := by
  intro j hj
  rw [zj rfl (by omega), show 2 * ea 0 b 0 + j - ((du 0 b 0).length : Int) = j by omega]
 have g0 := g 0 (by omega)
 rw [Int.add_zero] at g0
 have hq : 2 * ea 0 b 0 + 1 < ((du 0 b 0 ++ [1, 100]).length : Int) := by rw [zP]; simp only [zO, zD]; omega
 have he : ((du 0 b 0 ++ [1, 100]).length : Int) ≤ 2 * (ea 0 b 0 + 1) + 1 := by rw [zP]; simp only [zO, zD]; omega
 have n1 : nj (seqR 100 0) 100 0 < 0 := by rw [abw (by omega) (by omega)]; omega
 have n2 : nj (seqR 200 b) 100 0 < 0 := by rw [abw hb.1 (by omega)]; omega
 have r0 : aaw 0 = -1 := rfl
 by_cases hb0 : 0 < b
 ·rw [if_pos hb0, a16 (n := 100) hq g0 (g 1 (by omega)) (by omega) (by unfold qk; rw [if_neg (by omega), if_pos hb0]) n1 n2, adc he, r0]
  unfold qk
  rw [if_neg (by omega), if_pos hb0]; rfl
 ·have b0 : b = 0 := by omega
  subst b0
  rw [if_neg hb0, auz (n := 100) (p := qk 0 0) hq g0 (g 1 (by omega)) (by omega) rfl n1 n2, adc he]; rfl
theorem bcg {S PN PM : GE} {PE PP PR : SE} {b : Int} (eE : PE = .app 218 (.g S (.i (.c 0) (.g .nil (.g .nil (.i (.c (-1)) (.i (.c 0) .nil)))))))
  (eP : PP = .app 220 (.g S (.i (.c 0) (.g .nil (.g .nil (.i (.c (-1)) (.i (.c 0) .nil)))))))
  (eN : PN = .app 218 (.g S (.i (.c 0) (.g .nil (.g .nil (.i (.c (-1)) (.i (.c 0) .nil)))))))
  (eY : PM = .app 219 (.g S (.i (.c 0) (.g .nil (.g .nil (.i (.c (-1)) (.i (.c 0) .nil)))))))
  (hb : 0 ≤ b ∧ b ≤ 60) (hS : S.eval σ = du 0 b 0 ++ [1, 100]) : PE.eval σ = 0 ∧ PP.eval σ = qk b 0 ∧ ((PN.eval σ).length : Int) = (if 0 < b then 0 else 1) ∧ ((PM.eval σ).length : Int) = (if 0 < b then b + 1 else 0) := by
 have q := bce hb
 have l2 := ya (b := 200) hb.1
 rw [← hS] at q
 have c1 : PE.eval σ = (cq (S.eval σ) 0 [] [] (-1) 0).e := by rw [eE]; rfl
 have c2 : PP.eval σ = (cq (S.eval σ) 0 [] [] (-1) 0).p := by rw [eP]; rfl
 have c3 : PN.eval σ = (cq (S.eval σ) 0 [] [] (-1) 0).need := by rw [eN]; rfl
 have c4 : PM.eval σ = (cq (S.eval σ) 0 [] [] (-1) 0).may := by rw [eY]; rfl
 rw [c1, c2, c3, c4, q]
 by_cases hb0 : 0 < b
 ·rw [if_pos hb0, if_pos hb0, if_pos hb0]
  refine ⟨rfl, ?_, rfl, ?_⟩
  ·unfold qk; rw [if_neg (by omega), if_pos hb0]
  ·rw [zP]; simp only [zO, zD]; omega
 ·rw [if_neg hb0, if_neg hb0, if_neg hb0]
  refine ⟨rfl, ?_, rfl, rfl⟩
  unfold qk; rw [if_neg (by omega), if_neg hb0]
end
end Go.Ev
