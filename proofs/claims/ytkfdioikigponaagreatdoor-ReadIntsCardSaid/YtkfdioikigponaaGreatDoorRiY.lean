import Derived.Test.YtkfdioikigponaaGreatDoorRiZ
set_option maxRecDepth 100000
set_option linter.all false
namespace Go.Ev
/- copyistkit.Times of the letter 0, copyistkit.Pick of 40, the digits of a number: as templates. -/
noncomputable section
def zN (k : Nat) : Nat := Nat.mul 48 (Nat.div (Nat.sub (Nat.pow 256 k) 1) 255)
def tmG : GE := .app 1 (.i (.v 0) .nil)
def tmRun (k : Nat) : Bool := callEnd [] 256 256 (.g (.lit k (zN k)) tmG .nil) [] (.ret (.gv (.str tmG []))) (enter (runL noHook noLp 2000) 17 (aVs [] [.str 1 48, .int .i64 (.ofNat k)]) (withL (aHO [] []) 256))
def zB (k : Nat) : Bool := decide ((bytesOf k (zN k)).map (fun b => (b.toNat : Int)) = List.replicate k 48)
def tmT : TM := .mk 17 [.str 1 48, .sym .i64 (.v 0) []] 256 [] [.mk true (.v 0) (.c 0) false, .mk true (.v 0) (.c 40) true] none (.ret (.gv (.str tmG []))) 256 []
def pkV : SE := .bin 5 .i64 (.v 0) (.c 40)
def pkT : TM := .mk 10 [.sym .i64 (.v 0) [], .int .i64 40] 256 [] [] none (.ret (.sym .i64 pkV [])) 256 []
def pkM : SE := .bin 4 .i64 (.v 0) (.c 40)
def dUs : List AV := [.sym .i64 (.v 0) []]
def dI1 : SA := .mk true (.v 0) (.c 0) false
def dI2 : SA := .mk true (.c 9223372036854775807) (.v 0) false
def dG : GE := .app 2 (.i (.v 0) .nil)
def dL : GE := .lit 10 227581098929683594426425
def dTb : TM := .mk 18 dUs 256 [] [dI1, dI2] (some (.v 0, .v 0)) (.ret (.gv (.str dG []))) 256 []
def dT : TM := .mk 18 dUs 256 [] [dI1, dI2] none (.ret (.gv (.str dG []))) 256 []
def dN1 : SE := .bin 0 .i64 (.v 0) (.c 1)
def dC1 : GE := .cut dL (.v 0) dN1
def dA : List SA := [dI1, .mk true (.v 0) (.c 10) true, .mk true dN1 (.v 0) false, .mk true (.c 10) dN1 false]
def dQ : SE := .bin 3 .i64 (.v 0) (.c 10)
def dM : SE := .bin 4 .i64 (.v 0) (.c 10)
def dM1 : SE := .bin 0 .i64 dM (.c 1)
def dGQ : GE := .app 2 (.i dQ .nil)
def dC2 : GE := .cut dL dM dM1
def dB : List SA := [dI1, dI2, .mk true (.v 0) (.c 10) false, .mk true dQ (.c 0) false, .mk true (.c 9223372036854775807) dQ false, .mk true dQ (.v 0) true, .mk true dM (.c 0) false, .mk true dM1 dM false, .mk true (.c 10) dM1 false,
  .mk true (.c 9223372036854775807) (.bin 6 .i64 (.len dGQ) (.len dC2)) false]
end
theorem tmR0 : tmRun 0 = true := by kernel_rfl
theorem zB0 : zB 0 = true := by kernel_rfl
theorem tmR1 : tmRun 1 = true := by kernel_rfl
theorem zB1 : zB 1 = true := by kernel_rfl
theorem tmR2 : tmRun 2 = true := by kernel_rfl
theorem zB2 : zB 2 = true := by kernel_rfl
theorem tmR3 : tmRun 3 = true := by kernel_rfl
theorem zB3 : zB 3 = true := by kernel_rfl
theorem tmR4 : tmRun 4 = true := by kernel_rfl
theorem zB4 : zB 4 = true := by kernel_rfl
theorem tmR5 : tmRun 5 = true := by kernel_rfl
theorem zB5 : zB 5 = true := by kernel_rfl
theorem tmR6 : tmRun 6 = true := by kernel_rfl
theorem zB6 : zB 6 = true := by kernel_rfl
theorem tmR7 : tmRun 7 = true := by kernel_rfl
theorem zB7 : zB 7 = true := by kernel_rfl
theorem tmR8 : tmRun 8 = true := by kernel_rfl
theorem zB8 : zB 8 = true := by kernel_rfl
theorem tmR9 : tmRun 9 = true := by kernel_rfl
theorem zB9 : zB 9 = true := by kernel_rfl
theorem tmR10 : tmRun 10 = true := by kernel_rfl
theorem zB10 : zB 10 = true := by kernel_rfl
theorem tmR11 : tmRun 11 = true := by kernel_rfl
theorem zB11 : zB 11 = true := by kernel_rfl
theorem tmR12 : tmRun 12 = true := by kernel_rfl
theorem zB12 : zB 12 = true := by kernel_rfl
theorem tmR13 : tmRun 13 = true := by kernel_rfl
theorem zB13 : zB 13 = true := by kernel_rfl
theorem tmR14 : tmRun 14 = true := by kernel_rfl
theorem zB14 : zB 14 = true := by kernel_rfl
theorem tmR15 : tmRun 15 = true := by kernel_rfl
theorem zB15 : zB 15 = true := by kernel_rfl
theorem tmR16 : tmRun 16 = true := by kernel_rfl
theorem zB16 : zB 16 = true := by kernel_rfl
theorem tmR17 : tmRun 17 = true := by kernel_rfl
theorem zB17 : zB 17 = true := by kernel_rfl
theorem tmR18 : tmRun 18 = true := by kernel_rfl
theorem zB18 : zB 18 = true := by kernel_rfl
theorem tmR19 : tmRun 19 = true := by kernel_rfl
theorem zB19 : zB 19 = true := by kernel_rfl
theorem tmR20 : tmRun 20 = true := by kernel_rfl
theorem zB20 : zB 20 = true := by kernel_rfl
theorem tmR21 : tmRun 21 = true := by kernel_rfl
theorem zB21 : zB 21 = true := by kernel_rfl
theorem tmR22 : tmRun 22 = true := by kernel_rfl
theorem zB22 : zB 22 = true := by kernel_rfl
theorem tmR23 : tmRun 23 = true := by kernel_rfl
theorem zB23 : zB 23 = true := by kernel_rfl
theorem tmR24 : tmRun 24 = true := by kernel_rfl
theorem zB24 : zB 24 = true := by kernel_rfl
theorem tmR25 : tmRun 25 = true := by kernel_rfl
theorem zB25 : zB 25 = true := by kernel_rfl
theorem tmR26 : tmRun 26 = true := by kernel_rfl
theorem zB26 : zB 26 = true := by kernel_rfl
theorem tmR27 : tmRun 27 = true := by kernel_rfl
theorem zB27 : zB 27 = true := by kernel_rfl
theorem tmR28 : tmRun 28 = true := by kernel_rfl
theorem zB28 : zB 28 = true := by kernel_rfl
theorem tmR29 : tmRun 29 = true := by kernel_rfl
theorem zB29 : zB 29 = true := by kernel_rfl
theorem tmR30 : tmRun 30 = true := by kernel_rfl
theorem zB30 : zB 30 = true := by kernel_rfl
theorem tmR31 : tmRun 31 = true := by kernel_rfl
theorem zB31 : zB 31 = true := by kernel_rfl
theorem tmR32 : tmRun 32 = true := by kernel_rfl
theorem zB32 : zB 32 = true := by kernel_rfl
theorem tmR33 : tmRun 33 = true := by kernel_rfl
theorem zB33 : zB 33 = true := by kernel_rfl
theorem tmR34 : tmRun 34 = true := by kernel_rfl
theorem zB34 : zB 34 = true := by kernel_rfl
theorem tmR35 : tmRun 35 = true := by kernel_rfl
theorem zB35 : zB 35 = true := by kernel_rfl
theorem tmR36 : tmRun 36 = true := by kernel_rfl
theorem zB36 : zB 36 = true := by kernel_rfl
theorem tmR37 : tmRun 37 = true := by kernel_rfl
theorem zB37 : zB 37 = true := by kernel_rfl
theorem tmR38 : tmRun 38 = true := by kernel_rfl
theorem zB38 : zB 38 = true := by kernel_rfl
theorem tmR39 : tmRun 39 = true := by kernel_rfl
theorem zB39 : zB 39 = true := by kernel_rfl

theorem tmRun_ok {k : Nat} (h : k < 40) : tmRun k = true ∧ zB k = true := by
  match k, h with
  | 0, _ => exact ⟨tmR0, zB0⟩
  | 1, _ => exact ⟨tmR1, zB1⟩
  | 2, _ => exact ⟨tmR2, zB2⟩
  | 3, _ => exact ⟨tmR3, zB3⟩
  | 4, _ => exact ⟨tmR4, zB4⟩
  | 5, _ => exact ⟨tmR5, zB5⟩
  | 6, _ => exact ⟨tmR6, zB6⟩
  | 7, _ => exact ⟨tmR7, zB7⟩
  | 8, _ => exact ⟨tmR8, zB8⟩
  | 9, _ => exact ⟨tmR9, zB9⟩
  | 10, _ => exact ⟨tmR10, zB10⟩
  | 11, _ => exact ⟨tmR11, zB11⟩
  | 12, _ => exact ⟨tmR12, zB12⟩
  | 13, _ => exact ⟨tmR13, zB13⟩
  | 14, _ => exact ⟨tmR14, zB14⟩
  | 15, _ => exact ⟨tmR15, zB15⟩
  | 16, _ => exact ⟨tmR16, zB16⟩
  | 17, _ => exact ⟨tmR17, zB17⟩
  | 18, _ => exact ⟨tmR18, zB18⟩
  | 19, _ => exact ⟨tmR19, zB19⟩
  | 20, _ => exact ⟨tmR20, zB20⟩
  | 21, _ => exact ⟨tmR21, zB21⟩
  | 22, _ => exact ⟨tmR22, zB22⟩
  | 23, _ => exact ⟨tmR23, zB23⟩
  | 24, _ => exact ⟨tmR24, zB24⟩
  | 25, _ => exact ⟨tmR25, zB25⟩
  | 26, _ => exact ⟨tmR26, zB26⟩
  | 27, _ => exact ⟨tmR27, zB27⟩
  | 28, _ => exact ⟨tmR28, zB28⟩
  | 29, _ => exact ⟨tmR29, zB29⟩
  | 30, _ => exact ⟨tmR30, zB30⟩
  | 31, _ => exact ⟨tmR31, zB31⟩
  | 32, _ => exact ⟨tmR32, zB32⟩
  | 33, _ => exact ⟨tmR33, zB33⟩
  | 34, _ => exact ⟨tmR34, zB34⟩
  | 35, _ => exact ⟨tmR35, zB35⟩
  | 36, _ => exact ⟨tmR36, zB36⟩
  | 37, _ => exact ⟨tmR37, zB37⟩
  | 38, _ => exact ⟨tmR38, zB38⟩
  | 39, _ => exact ⟨tmR39, zB39⟩
  | n + 40, h => omega
theorem tm_ok [Gv] : TmFact tmT := by
  intro σ _ hA _
  have h1 : ¬ (σ 0).headD 0 < 0 := of_decide_eq_false (hA (.mk true (.v 0) (.c 0) false) (by simp))
  have h2 : (σ 0).headD 0 < 40 := of_decide_eq_true (hA (.mk true (.v 0) (.c 40) true) (by simp))
  obtain ⟨k, hk⟩ : ∃ k : Nat, (σ 0).headD 0 = (k : Int) := ⟨((σ 0).headD 0).toNat, by omega⟩
  obtain ⟨r1, r2⟩ := tmRun_ok (k := k) (by omega)
  have hE : (GE.lit k (zN k)).eval σ = tmG.eval σ := by
    show (bytesOf k (zN k)).map (fun b => (b.toNat : Int)) = List.replicate ((σ 0).headD 0).toNat 48
    rw [hk, Int.toNat_natCast]
    exact of_decide_eq_true r2
  have key := @tm_of_run ⟨σ⟩ _ (@noHook_ok ⟨σ⟩) _ (@noLp_ok ⟨σ⟩) 2000 17 [.str 1 48, .int .i64 (.ofNat k)] 256 [] [] (.ret (.gv (.str tmG []))) 256 [] [] (.g (.lit k (zN k)) tmG .nil) SAll.nil ⟨hE, trivial⟩ rfl rfl r1
  intro ρ args w hg hw hc hv
  refine key ρ args w hg hw hc ?_
  simp only [VRels, VRel] at hv ⊢
  obtain ⟨v, vs, e, q1, v2, vs2, e2, ⟨_, q2⟩, q3⟩ := hv
  refine ⟨v, vs, e, q1, v2, vs2, e2, ?_, q3⟩
  rw [q2]
  show Value.int .i64 ((σ 0).headD 0) = _
  rw [hk]; rfl
theorem tmod40 (a : Int) : (0 ≤ a → a.tmod 40 = a % 40) ∧ (a < 0 → a.tmod 40 = -((-a) % 40)) := by
  refine ⟨fun ha => Int.tmod_eq_emod_of_nonneg ha, fun ha => ?_⟩
  have := Int.tmod_eq_emod_of_nonneg (a := -a) (b := 40) (by omega)
  rw [Int.neg_tmod] at this
  omega
theorem pk_ok [Gv] : TmFact pkT := by
  intro σ _ hA _
  by_cases h : (σ 0).headD 0 < 0 ∧ ¬ (σ 0).headD 0 % 40 = 0
  all_goals have hm : pkM.eval σ = Int.tmod ((σ 0).headD 0) 40 := rfl
  all_goals have hv : pkV.eval σ = (σ 0).headD 0 % 40 := rfl
  all_goals have h41 := tmod40 ((σ 0).headD 0)
  · refine @tm_of_run ⟨σ⟩ _ (@noHook_ok ⟨σ⟩) _ (@noLp_ok ⟨σ⟩) 2000 _ _ _ _ [.mk true pkM (.c 0) true] _ _ _ [] (.i (.bin 0 .i64 pkM (.c 40)) pkV .nil) ?_ ⟨?_, trivial⟩ rfl rfl (by kernel_rfl)
    · simp only [sall_cons]
      refine ⟨holdsT ?_, SAll.nil⟩
      rw [hm]; show _ < (0 : Int); have := h41.2 h.1; omega
    · show IntKind.i64.wrap (pkM.eval σ + 40) = pkV.eval σ
      have := h41.2 h.1
      rw [hm, hv, wrap64 (by omega)]; omega
  · refine @tm_of_run ⟨σ⟩ _ (@noHook_ok ⟨σ⟩) _ (@noLp_ok ⟨σ⟩) 2000 _ _ _ _ [.mk true pkM (.c 0) false] _ _ _ [] (.i pkM pkV .nil) ?_ ⟨?_, trivial⟩ rfl rfl (by kernel_rfl)
    · simp only [sall_cons]
      refine ⟨holdsF ?_, SAll.nil⟩
      rw [hm]; show ¬ _ < (0 : Int)
      by_cases h0 : 0 ≤ (σ 0).headD 0
      · have := h41.1 h0; omega
      · have := h41.2 (by omega); omega
    · show pkM.eval σ = pkV.eval σ
      rw [hm, hv]
      by_cases h0 : 0 ≤ (σ 0).headD 0
      · exact h41.1 h0
      · have := h41.2 (by omega); omega
theorem lit_dig {n : Int} (h : 0 ≤ n ∧ n < 10) : ([48, 49, 50, 51, 52, 53, 54, 55, 56, 57].take (n + 1).toNat).drop n.toNat = [48 + n] := by
  have : n = 0 ∨ n = 1 ∨ n = 2 ∨ n = 3 ∨ n = 4 ∨ n = 5 ∨ n = 6 ∨ n = 7 ∨ n = 8 ∨ n = 9 := by omega
  rcases this with rfl | rfl | rfl | rfl | rfl | rfl | rfl | rfl | rfl | rfl <;> rfl
theorem dL_eval {σ : Nat → List Int} : dL.eval σ = [48, 49, 50, 51, 52, 53, 54, 55, 56, 57] := by
  show (bytesOf 10 227581098929683594426425).map (fun b => (b.toNat : Int)) = _
  decide +kernel
theorem d_one {σ : Nat → List Int} (hT : @TmFact ⟨σ⟩ dTb) (h : 0 ≤ (σ 0).headD 0) (h2 : (σ 0).headD 0 ≤ 9223372036854775807) : @FactT ⟨σ⟩ 18 dUs 256 [] (.ret (.gv (.str dG []))) 256 [] := by
    have hn1 : dN1.eval σ = (σ 0).headD 0 + 1 ∨ (σ 0).headD 0 = 9223372036854775807 := by
      by_cases e : (σ 0).headD 0 = 9223372036854775807
      · exact .inr e
      · left; show IntKind.i64.wrap ((σ 0).headD 0 + 1) = _; rw [wrap64 (by omega)]
    have hG : dG.eval σ = decD ((σ 0).headD 0).toNat := rfl
    by_cases hs : (σ 0).headD 0 < 10
    · have hn1 : dN1.eval σ = (σ 0).headD 0 + 1 := by rcases hn1 with e | e <;> omega
      refine @tm_of_run ⟨σ⟩ _ (@noHook_ok ⟨σ⟩) _ (@noLp_ok ⟨σ⟩) 2000 _ _ _ _ dA _ _ _ [] (.g dC1 dG .nil) ?_ ⟨?_, trivial⟩ rfl rfl (by kernel_rfl)
      · unfold dA
        simp only [sall_cons]
        refine ⟨holdsF ?_, holdsT ?_, holdsF ?_, holdsF ?_, SAll.nil⟩
        · show ¬ (σ 0).headD 0 < 0; omega
        · exact hs
        · rw [hn1]; show ¬ _ < (σ 0).headD 0; omega
        · rw [hn1]; show ¬ (10 : Int) < _; omega
      · show ((dL.eval σ).take (dN1.eval σ).toNat).drop ((σ 0).headD 0).toNat = dG.eval σ
        rw [hn1, dL_eval, hG, lit_dig ⟨h, hs⟩, decD_small (by omega)]
        congr 1; omega
    · have hQ : dQ.eval σ = (σ 0).headD 0 / 10 := by
        show IntKind.i64.wrap (((σ 0).headD 0).tdiv 10) = _
        rw [Int.tdiv_eq_ediv_of_nonneg h, wrap64 (by omega)]
      have hM : dM.eval σ = (σ 0).headD 0 % 10 := by
        show ((σ 0).headD 0).tmod 10 = _
        exact Int.tmod_eq_emod_of_nonneg h
      have hM1 : dM1.eval σ = (σ 0).headD 0 % 10 + 1 := by
        show IntKind.i64.wrap (dM.eval σ + 1) = _
        rw [hM, wrap64 (by omega)]
      have hC : dC2.eval σ = [48 + (σ 0).headD 0 % 10] := by
        show ((dL.eval σ).take (dM1.eval σ).toNat).drop (dM.eval σ).toNat = _
        rw [hM1, hM, dL_eval, lit_dig (by omega)]
      have hGQ : dGQ.eval σ = decD ((σ 0).headD 0 / 10).toNat := by
        show decD (dQ.eval σ).toNat = _
        rw [hQ]
      have hlen : (dGQ.eval σ).length ≤ 19 := by
        rw [hGQ]; exact decF_len 18 _ _ (by omega)
      refine @tm_of_run ⟨σ⟩ _ (@hooksTM_ok ⟨σ⟩ [dTb] (one_mem hT)) _ (@noLp_ok ⟨σ⟩) 2000 _ _ _ _ dB _ _ _ [] (.g (.cat dGQ dC2) dG .nil) ?_ ⟨?_, trivial⟩ rfl rfl (by kernel_rfl)
      · unfold dB
        simp only [sall_cons]
        refine ⟨holdsF ?_, holdsF ?_, holdsF hs, holdsF ?_, holdsF ?_, holdsT ?_, holdsF ?_, holdsF ?_, holdsF ?_, holdsF ?_, SAll.nil⟩
        · show ¬ (σ 0).headD 0 < 0; omega
        · show ¬ 9223372036854775807 < (σ 0).headD 0; omega
        · rw [hQ]; show ¬ _ < (0 : Int); omega
        · rw [hQ]; show ¬ (9223372036854775807 : Int) < _; omega
        · rw [hQ]; show _ < (σ 0).headD 0; omega
        · rw [hM]; show ¬ _ < (0 : Int); omega
        · rw [hM, hM1]; omega
        · rw [hM1]; show ¬ (10 : Int) < _; omega
        · show ¬ (9223372036854775807 : Int) < ((dGQ.eval σ).length : Int) + ((dC2.eval σ).length : Int)
          rw [hC, List.length_singleton]; omega
      · show dGQ.eval σ ++ dC2.eval σ = dG.eval σ
        rw [hC, hGQ, hG, decD_step (n := ((σ 0).headD 0).toNat) (by omega)]
        have e1 : ((σ 0).headD 0 / 10).toNat = ((σ 0).headD 0).toNat / 10 := by omega
        have e2 : (48 + (σ 0).headD 0 % 10) = 48 + ((((σ 0).headD 0).toNat % 10 : Nat) : Int) := by omega
        rw [e1, e2]
theorem d_all : ∀ (B : Nat) (σ : Nat → List Int), 0 ≤ (σ 0).headD 0 → (σ 0).headD 0 ≤ 9223372036854775807 → (σ 0).headD 0 < (B : Int) → @FactT ⟨σ⟩ 18 dUs 256 [] (.ret (.gv (.str dG []))) 256 []
  | 0, σ, h, _, hb => by omega
  | B + 1, σ, h, h2, hb => by
    refine d_one ?_ h h2
    intro σ' _ hA hbd
    have a1 : ¬ (σ' 0).headD 0 < 0 := of_decide_eq_false (hA dI1 (by simp))
    have a2 : ¬ 9223372036854775807 < (σ' 0).headD 0 := of_decide_eq_false (hA dI2 (by simp))
    have hbd : 0 ≤ (σ' 0).headD 0 ∧ (σ' 0).headD 0 < (σ 0).headD 0 := hbd
    exact d_all B σ' (by omega) (by omega) (by omega)
theorem d_ok [Gv] : TmFact dT := by
  intro σ _ hA _
  have a1 : ¬ (σ 0).headD 0 < 0 := of_decide_eq_false (hA dI1 (by simp))
  have a2 : ¬ 9223372036854775807 < (σ 0).headD 0 := of_decide_eq_false (hA dI2 (by simp))
  exact d_all (((σ 0).headD 0).toNat + 1) σ (by omega) (by omega) (by omega)
end Go.Ev
