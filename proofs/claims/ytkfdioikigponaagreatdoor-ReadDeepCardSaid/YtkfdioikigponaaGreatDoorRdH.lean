import Derived.Test.YtkfdioikigponaaGreatDoorRdF
import Derived.Test.YtkfdioikigponaaGreatDoorRdG
set_option maxRecDepth 100000
set_option linter.all false
namespace Go.Ev
theorem five {k : Nat} (h : k < 5) : k = 0 ∨ k = 1 ∨ k = 2 ∨ k = 3 ∨ k = 4 := by omega
/- read's form at every nested text. -/
noncomputable section
def fN : SE := .app 15 (.g (.s 0) (.i (.v 1) .nil))
def fTU0 : TM := .mk 37 fUs 260 fLi [dI, .mk false fN (.c 0) true] none fR0 260 fLo0
def fTU1 : TM := .mk 37 fUs 260 fLi [dI, .mk true (.c 0) fN true] none fR1 261 fLo
end
theorem dI1 {σ : Nat → List Int} : dI.holds σ ↔ deepR (σ 0) ((σ 1).headD 0) ((σ 2).headD 0) := d_inv (g := .s 0) (a := .v 1) (b := .v 2)
theorem fN_eval (σ : Nat → List Int) : fN.eval σ = ((kz ((σ 0).drop ((σ 1).headD 0).toNat)).length : Int) := rfl
theorem f_one [Gv] (h0 : TmFact fT0) (h1 : TmFact fT1) (h : deepR (Gv.σ 0) ((Gv.σ 1).headD 0) ((Gv.σ 2).headD 0)) : (fN.eval Gv.σ = 0 → FactT 37 fUs 260 fLi fR0 260 fLo0) ∧ (0 < fN.eval Gv.σ → FactT 37 fUs 260 fLi fR1 261 fLo) := by
  obtain ⟨hc, hp, ho, hL, hd, _⟩ := deep_cases h
  rw [fN_eval]
  cases hc with
  | base K0 g0 g1 =>
    have fb : FB := ⟨h, hp, ho, hL, K0, g0, g1⟩
    rw [K0]
    exact ⟨fun _ => f_b1 h0 h1 (x := 0) fb, fun q => absurd q (by decide)⟩
  | more k K hk e e' next hd' ho' hc' hn hl =>
    obtain ⟨x, hn, hx⟩ := hn
    have hp' : ((((Gv.σ 1).headD 0).toNat : Nat) : Int) = (Gv.σ 1).headD 0 := Int.toNat_of_nonneg hp
    rw [hp'] at next
    have fc : FC k K x := ⟨h, hp, ho, hL, hd', e, e', next, ho', hc', hn, hx, hl⟩
    rw [e]
    refine ⟨fun q => absurd q (by simp only [List.length_cons]; omega), fun _ => ?_⟩
    cases hK : K with
    | nil =>
      rcases five hk with rfl | rfl | rfl | rfl | rfl
      · exact f_r00 h0 h1 K fc hK
      · exact f_r10 h0 h1 K fc hK
      · exact f_r20 h0 h1 K fc hK
      · exact f_r30 h0 h1 K fc hK
      · exact f_r40 h0 h1 K fc hK
    | cons y l =>
      have hK : K ≠ [] := by rw [hK]; simp
      rcases five hk with rfl | rfl | rfl | rfl | rfl
      · exact f_r01 h0 h1 K fc hK
      · exact f_r11 h0 h1 K fc hK
      · exact f_r21 h0 h1 K fc hK
      · exact f_r31 h0 h1 K fc hK
      · exact f_r41 h0 h1 K fc hK
theorem f_all : ∀ (B : Nat) (σ : Nat → List Int), deepR (σ 0) ((σ 1).headD 0) ((σ 2).headD 0) → fN.eval σ < (B : Int) → (fN.eval σ = 0 → @FactT ⟨σ⟩ 37 fUs 260 fLi fR0 260 fLo0) ∧ (0 < fN.eval σ → @FactT ⟨σ⟩ 37 fUs 260 fLi fR1 261 fLo)
  | 0, σ, h, hb => by rw [fN_eval] at hb; omega
  | B + 1, σ, h, hb => by
    refine @f_one ⟨σ⟩ ?_ ?_ h
    · intro σ' _ hA hbd
      have hbd : 0 ≤ fN.eval σ' ∧ fN.eval σ' < fN.eval σ := hbd
      exact (f_all B σ' (dI1.1 (hA dI (by simp))) (by omega)).1 (of_decide_eq_true (hA (.mk false fN (.c 0) true) (List.mem_cons_of_mem _ (List.mem_singleton.2 rfl))))
    · intro σ' _ hA hbd
      have hbd : 0 ≤ fN.eval σ' ∧ fN.eval σ' < fN.eval σ := hbd
      exact (f_all B σ' (dI1.1 (hA dI (by simp))) (by omega)).2 (of_decide_eq_true (hA (.mk true (.c 0) fN true) (List.mem_cons_of_mem _ (List.mem_singleton.2 rfl))))
theorem fU0_ok [Gv] : TmFact fTU0 := fun σ _ hA _ => (f_all ((fN.eval σ).toNat + 1) σ (dI1.1 (hA dI (by simp))) (by omega)).1 (of_decide_eq_true (hA (.mk false fN (.c 0) true) (by simp)))
theorem fU1_ok [Gv] : TmFact fTU1 := fun σ _ hA _ => (f_all ((fN.eval σ).toNat + 1) σ (dI1.1 (hA dI (by simp))) (by omega)).2 (of_decide_eq_true (hA (.mk true (.c 0) fN true) (by simp)))
end Go.Ev
