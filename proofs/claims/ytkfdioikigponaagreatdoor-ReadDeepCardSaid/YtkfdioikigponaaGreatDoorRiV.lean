import Derived.Test.YtkfdioikigponaaGreatDoorEvVs
import Derived.Test.YtkfdioikigponaaGreatDoorEvTf
import Derived.Test.YtkfdioikigponaaGreatDoorRiP
set_option maxRecDepth 100000
set_option linter.all false
namespace Go.Ev
/- utf8.ValidString of a row of ASCII that is not known. -/
open Classical in
theorem asc_iff {σ : Nat → List Int} {g : GE} : (SA.mk false (.app 1 (.g g .nil)) (.c 1) true).holds σ ↔ ascR (g.eval σ) := by
  show decide (phiI 1 [g.eval σ] = 1) = true ↔ _
  rw [decide_eq_true_iff]
  show (if ascR (g.eval σ) then (1 : Int) else 0) = 1 ↔ _
  split
  · rename_i h; exact ⟨fun _ => h, fun _ => rfl⟩
  · rename_i h; exact ⟨fun e => absurd e (by decide), fun e => absurd e h⟩
section
variable [Gv]
theorem vs_tm {g : FuncId} (h : VsOk g) (hA : ascR (Gv.σ 0)) : FactT g [.gv (.str (.s 0) [])] 256 [] (.ret (.bool true)) 256 [] := by
  intro ρ args w hg hw hc hv
  simp only [VRels, VRel] at hv
  obtain ⟨v, vs', ha', ⟨_, hv1, _⟩, rfl⟩ := hv
  have hargs : args = #[v] := Array.toList_inj.1 (by simpa using ha')
  subst hargs hv1
  have hb : ∀ (j : Nat) b, (bytesI (Gv.σ 0)).data.toList[j]? = some b → b.toNat < 128 := by
    intro j b hj
    have hj : ((Gv.σ 0).map fun x => UInt8.ofNat x.toNat)[j]? = some b := by simpa [bytesI] using hj
    rw [List.getElem?_map] at hj
    cases hx : (Gv.σ 0)[j]? with
    | none => rw [hx] at hj; cases hj
    | some x =>
      rw [hx] at hj
      simp only [Option.map_some, Option.some.injEq] at hj
      subst hj
      have := hA.1 x (List.mem_of_getElem? hx)
      rw [UInt8.toNat_ofNat']
      have h1 := this.1; have h2 := this.2
      omega
  refine Calls.mono (h _ w (laid_ok hg hw (by kernel_rfl)) (by show (bytesI (Gv.σ 0)).size < _; rw [bytesI_size]; have := hA.2; omega) hb) fun e w' hp => ?_
  obtain ⟨rfl, hk⟩ := hp
  exact ⟨_, ρ, rfl, by simp only [VRel], adv_kept hw hk⟩
end
end Go.Ev
