import Derived.Test.YtkfdioikigponaaGreatDoorRaI
import Derived.Test.YtkfdioikigponaaGreatDoorEvVa
set_option maxRecDepth 100000
set_option linter.all false
namespace Go.Ev
abbrev bmi : List SA := [.mk true (.c 20000) (.len (.s 3)) false]
/- utf8.ValidString of a row that is not known. -/
noncomputable section
def vlU : List AV := [.gv (.str (.s 3) [])]
def vlI : List HO := []
def cbd : List HO := []
def b9o : TR := .ret (.bool true)
def br4 : TM := .mk 74 vlU 256 vlI (bmi ++ [.mk false (.app 50 (.g (.s 3) .nil)) (.c 1) true]) none b9o 256 cbd
def ca2 : List HO := []
def cbb : TR := .ret (.bool false)
def bsc : TM := .mk 74 vlU 256 vlI (bmi ++ [.mk false (.app 50 (.g (.s 3) .nil)) (.c 1) false]) none cbb 256 ca2
end
section
variable [Gv]
theorem bas (h : VsAny 74) (h20 : ((Gv.σ 3).length : Int) ≤ 20000) {b : Bool} (hb : Lib.validD ((Gv.σ 3).map fun x => UInt8.ofNat x.toNat) = b) : bh 74 vlU 256 vlI (.ret (.bool b)) 256 [] := by
 intro ρ args w hg hw hc hv
 unfold vlU at hv
 simp only [VRels, VRel] at hv
 obtain ⟨v, vs', ha', ⟨_, hv1, _⟩, rfl⟩ := hv
 have hargs : args = #[v] := Array.toList_inj.1 (by simpa using ha')
 subst hargs hv1
 refine Calls.mono (h _ w (br8 hg hw (by kernel_rfl)) (by show (ar (Gv.σ 3)).size < _; rw [fw]; omega)) fun e w' hp => ?_
 obtain ⟨rfl, hk⟩ := hp
 refine ⟨_, ρ, rfl, ?_, bjh hw hk⟩
 simp only [VRel]
 show Value.bool (Lib.validD (ar (Gv.σ 3)).data.toList) = _
 have e : (ar (Gv.σ 3)).data.toList = (Gv.σ 3).map fun x => UInt8.ofNat x.toNat := by simp [ar]
 rw [e, hb]
omit [Gv] in
theorem f50 (s : List Int) : jh s = 0 ∧ Lib.validD (s.map fun x => UInt8.ofNat x.toNat) = false ∨ jh s = 1 ∧ Lib.validD (s.map fun x => UInt8.ofNat x.toNat) = true := by
 unfold jh
 cases Lib.validD (s.map fun x => UInt8.ofNat x.toNat) <;> simp
end
theorem a62 [Gv] : ap br4 := by
 intro σ _ hA _
 have h1 : jh (σ 3) = 1 := of_decide_eq_true ((aj hA).2 _ (List.mem_singleton.2 rfl))
 rcases f50 (σ 3) with ⟨h, _⟩ | ⟨_, h⟩
 ·omega
 ·exact @bas ⟨σ⟩ (@Go.Proofs.YtkfdioikigponaaGreatDoor.va_seat ⟨σ⟩) (apj (aj hA).1) _ h
theorem a7i [Gv] : ap bsc := by
 intro σ _ hA _
 have h1 : ¬ jh (σ 3) = 1 := of_decide_eq_false ((aj hA).2 _ (List.mem_singleton.2 rfl))
 rcases f50 (σ 3) with ⟨_, h⟩ | ⟨h, _⟩
 ·exact @bas ⟨σ⟩ (@Go.Proofs.YtkfdioikigponaaGreatDoor.va_seat ⟨σ⟩) (apj (aj hA).1) _ h
 ·omega
end Go.Ev
