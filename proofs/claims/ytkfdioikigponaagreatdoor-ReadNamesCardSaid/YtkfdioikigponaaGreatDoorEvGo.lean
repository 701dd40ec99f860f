import Derived.Test.YtkfdioikigponaaGreatDoorEvCf
import GoSem.ClaimChange
set_option linter.all false
namespace Go.Ev
/- From a closed run of the evaluator to a call of the program. -/
theorem pp_eq : PP = Go.Proofs.Tryz.prog := by unfold PP; rfl
theorem K.of_num' {x : Nat} (h : x < 65536) : (K.of x).num = x := by
  show ((((I.of (x / 4096 % 16)).num * 16 + (I.of (x / 256 % 16)).num) * 16 + (I.of (x / 16 % 16)).num) * 16 + (I.of (x % 16)).num) = x
  rw [I.of_num _ (by omega), I.of_num _ (by omega), I.of_num _ (by omega), I.of_num _ (by omega)]
  omega
noncomputable def ρ00 : Env := { blk := fun k => if k.num ≤ 255 then some k.num else none, sz := fun _ => 0 }
theorem grel00 : GRel ρ00 := by
  intro g hg
  show (if (K.of g).num ≤ 255 then some (K.of g).num else none) = some g
  rw [K.of_num' (by omega), if_pos hg]
theorem clean00 : Clean ρ00 w0 := by
  intro k hk
  have hk : (K.of 256).num ≤ k.num := hk
  rw [K.of_num' (by omega)] at hk
  show (if k.num ≤ 255 then some k.num else none) = none
  rw [if_neg (by omega)]
theorem wrel00 (w : World) : WRel ρ00 w0 w := by
  have hn : ∀ k, ¬ hget k w0.h ≠ .none := fun k h => h (hget_none k)
  exact ⟨fun k l hk => absurd hk (hn k), fun k hk => absurd hk (hn k), fun k c arr t fz hk => absurd hk (hn k)⟩
theorem kept_of_adv {ρ ρ' : Env} {a a' : W} {w w' : World} (h : Adv ρ a w ρ' a' w') (hn : ∀ c, ¬ Own ρ a c) (may : MemPlace → Prop) : w.keptBut w' may := by
  refine ⟨h.os, h.output, fun i hi => ?_⟩
  rw [h.frame i hi (hn i)]
  cases w.heap[i]? with
  | none => rfl
  | some o => cases o <;> first | rfl | exact ⟨rfl, rfl, rfl, fun _ _ => rfl⟩ | exact .inr ⟨rfl, rfl⟩
theorem okR_true {r : CR} (h : okR r = true) : ∃ aw, r = .ret (.bool true) aw := by
  unfold okR at h
  split at h
  · exact ⟨_, rfl⟩
  · cases h
/-- a closed run that comes to true -/
theorem calls_true {n f : Nat} (h : okR (enter (run n) f [] w0) = true) (w : World) :
    Calls Go.Proofs.Tryz.prog f #[] w fun e w' => e = .returned (.bool true) ∧ ∀ may, w.keptBut w' may := by
  obtain ⟨aw, h⟩ := okR_true h
  have := enter_ok (run_ok n) grel00 (wrel00 w) clean00 (f := f) (vs := []) (args := #[]) (by simp only [VRels]) (by rw [h]; trivial)
  rw [h, pp_eq] at this
  refine Calls.mono this fun e w' hp => ?_
  obtain ⟨v', ρ', rfl, hv, hA⟩ := hp
  simp only [VRel] at hv
  subst hv
  refine ⟨rfl, fun may => kept_of_adv hA ?_ may⟩
  rintro c ⟨k, hk, _⟩
  exact hk (hget_none k)
end Go.Ev
