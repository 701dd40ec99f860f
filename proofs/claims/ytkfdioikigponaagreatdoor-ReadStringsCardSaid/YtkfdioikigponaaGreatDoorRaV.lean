import Derived.Test.YtkfdioikigponaaGreatDoorRaG
import Derived.Test.YtkfdioikigponaaGreatDoorEvRo
set_option maxRecDepth 100000
set_option linter.all false
namespace Go.Ev
abbrev a8r : List SA := [.mk true (.c 20000) (.len (.s 3)) false]
noncomputable section
def vlU : List AV := [.gv (.str (.s 3) [])]
def vlI : List HO := []
def b4y : List HO := []
def b25 : TR := .ret (.bool true)
def bpl : TM := .mk 74 vlU 256 vlI (a8r ++ [.mk false (.app 50 (.g (.s 3) .nil)) (.c 1) true]) none b25 256 b4y
def b4u : List HO := []
def b4x : TR := .ret (.bool false)
def bn1 : TM := .mk 74 vlU 256 vlI (a8r ++ [.mk false (.app 50 (.g (.s 3) .nil)) (.c 1) false]) none b4x 256 b4u
end
section
variable [Gv]
theorem a2g (h : VsAny 74) (h20 : ((Gv.σ 3).length : Int) ≤ 20000) {b : Bool} (hb : Lib.validD ((Gv.σ 3).map fun x => UInt8.ofNat x.toNat) = b) : cz 74 vlU 256 vlI (.ret (.bool b)) 256 [] := by
 intro ρ args w hg hw hc hv
 unfold vlU at hv
 simp only [VRels, VRel] at hv
 obtain ⟨v, vs', ha', ⟨_, hv1, _⟩, rfl⟩ := hv
 have hargs : args = #[v] := Array.toList_inj.1 (by simpa using ha')
 subst hargs hv1
 refine Calls.mono (h _ w (bg4 hg hw (by kernel_rfl)) (by show (aj (Gv.σ 3)).size < _; rw [dg]; omega)) fun e w' hp => ?_
 obtain ⟨rfl, hk⟩ := hp
 refine ⟨_, ρ, rfl, ?_, bcy hw hk⟩
 simp only [VRel]
 show Value.bool (Lib.validD (aj (Gv.σ 3)).data.toList) = _
 have e : (aj (Gv.σ 3)).data.toList = (Gv.σ 3).map fun x => UInt8.ofNat x.toNat := by simp [aj]
 rw [e, hb]
omit [Gv] in
theorem f50 (s : List Int) : b8 s = 0 ∧ Lib.validD (s.map fun x => UInt8.ofNat x.toNat) = false ∨ b8 s = 1 ∧ Lib.validD (s.map fun x => UInt8.ofNat x.toNat) = true := by
 unfold b8
 cases Lib.validD (s.map fun x => UInt8.ofNat x.toNat) <;> simp
end
theorem a7f [Gv] : bn bpl := by
 intro σ _ hA _
 have h1 : b8 (σ 3) = 1 := of_decide_eq_true ((ak hA).2 _ (List.mem_singleton.2 rfl))
 rcases f50 (σ 3) with ⟨h, _⟩ | ⟨_, h⟩
 ·omega
 ·exact @a2g ⟨σ⟩ (@Go.Proofs.YtkfdioikigponaaGreatDoor.va_seat ⟨σ⟩) (au7 (ak hA).1) _ h
theorem a91 [Gv] : bn bn1 := by
 intro σ _ hA _
 have h1 : ¬ b8 (σ 3) = 1 := of_decide_eq_false ((ak hA).2 _ (List.mem_singleton.2 rfl))
 rcases f50 (σ 3) with ⟨_, h⟩ | ⟨h, _⟩
 ·exact @a2g ⟨σ⟩ (@Go.Proofs.YtkfdioikigponaaGreatDoor.va_seat ⟨σ⟩) (au7 (ak hA).1) _ h
 ·omega
end Go.Ev
