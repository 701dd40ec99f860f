import Derived.Test.YtkfdioikigponaaGreatDoorRaI
import Derived.Test.YtkfdioikigponaaGreatDoorEvVa
set_option maxRecDepth 100000
set_option linter.all false
namespace Go.Ev
abbrev biv : List SA := [.mk true (.c 20000) (.len (.s 3)) false]
noncomputable section
def vlU : List AV := [.gv (.str (.s 3) [])]
def vlI : List HO := []
def cb3 : List HO := []
def cbc : TR := .ret (.bool true)
def bq0 : TM := .mk 74 vlU 256 vlI (biv ++ [.mk false (.app 50 (.g (.s 3) .nil)) (.c 1) true]) none cbc 256 cb3
def cc5 : List HO := []
def ca2 : TR := .ret (.bool false)
def brr : TM := .mk 74 vlU 256 vlI (biv ++ [.mk false (.app 50 (.g (.s 3) .nil)) (.c 1) false]) none ca2 256 cc5
end
section
variable [Gv]
theorem a77 (h : VsAny 74) (h20 : ((Gv.σ 3).length : Int) ≤ 20000) {b : Bool} (hb : Lib.validD ((Gv.σ 3).map fun x => UInt8.ofNat x.toNat) = b) : ba 74 vlU 256 vlI (.ret (.bool b)) 256 [] := by
 intro ρ args w hg hw hc hv
 unfold vlU at hv
 simp only [VRels, VRel] at hv
 obtain ⟨v, vs', ha', ⟨_, hv1, _⟩, rfl⟩ := hv
 have hargs : args = #[v] := Array.toList_inj.1 (by simpa using ha')
 subst hargs hv1
 refine Calls.mono (h _ w (br3 hg hw (by kernel_rfl)) (by show (ao (Gv.σ 3)).size < _; rw [du]; omega)) fun e w' hp => ?_
 obtain ⟨rfl, hk⟩ := hp
 refine ⟨_, ρ, rfl, ?_, bha hw hk⟩
 simp only [VRel]
 show Value.bool (Lib.validD (ao (Gv.σ 3)).data.toList) = _
 have e : (ao (Gv.σ 3)).data.toList = (Gv.σ 3).map fun x => UInt8.ofNat x.toNat := by simp [ao]
 rw [e, hb]
omit [Gv] in
theorem f50 (s : List Int) : b9 s = 0 ∧ Lib.validD (s.map fun x => UInt8.ofNat x.toNat) = false ∨ b9 s = 1 ∧ Lib.validD (s.map fun x => UInt8.ofNat x.toNat) = true := by
 unfold b9
 cases Lib.validD (s.map fun x => UInt8.ofNat x.toNat) <;> simp
end
theorem a6p [Gv] : am bq0 := by
 intro σ _ hA _
 have h1 : b9 (σ 3) = 1 := of_decide_eq_true ((aj hA).2 _ (List.mem_singleton.2 rfl))
 rcases f50 (σ 3) with ⟨h, _⟩ | ⟨_, h⟩
 ·omega
 ·exact @a77 ⟨σ⟩ (@Go.Proofs.YtkfdioikigponaaGreatDoor.va_seat ⟨σ⟩) (aru (aj hA).1) _ h
theorem a7o [Gv] : am brr := by
 intro σ _ hA _
 have h1 : ¬ b9 (σ 3) = 1 := of_decide_eq_false ((aj hA).2 _ (List.mem_singleton.2 rfl))
 rcases f50 (σ 3) with ⟨_, h⟩ | ⟨h, _⟩
 ·exact @a77 ⟨σ⟩ (@Go.Proofs.YtkfdioikigponaaGreatDoor.va_seat ⟨σ⟩) (aru (aj hA).1) _ h
 ·omega
end Go.Ev
