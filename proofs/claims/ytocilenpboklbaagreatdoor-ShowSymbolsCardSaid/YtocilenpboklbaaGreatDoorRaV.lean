import Derived.Test.YtocilenpboklbaaGreatDoorRaN
import Derived.Test.YtocilenpboklbaaGreatDoorEvRo
set_option maxRecDepth 100000
set_option linter.all false
namespace Go.Ev
abbrev bcx : List SA := [.mk true (.c 20000) (.len (.s 3)) false]
noncomputable section
def vlU : List AV := [.gv (.str (.s 3) [])]
def vlI : List HO := []
def b0k : List HO := []
def b0l : TR := .ret (.bool true)
def bge : TM := .mk 112 vlU 256 vlI (bcx ++ [.mk false (.app 50 (.g (.s 3) .nil)) (.c 1) true]) none b0l 256 b0k
def b0i : List HO := []
def b0j : TR := .ret (.bool false)
def bgd : TM := .mk 112 vlU 256 vlI (bcx ++ [.mk false (.app 50 (.g (.s 3) .nil)) (.c 1) false]) none b0j 256 b0i
end
section
variable [Gv]
theorem a0g (h : VsAny 112) (h20 : ((Gv.σ 3).length : Int) ≤ 20000) {b : Bool} (hb : Lib.validD ((Gv.σ 3).map fun x => UInt8.ofNat x.toNat) = b) : aq 112 vlU 256 vlI (.ret (.bool b)) 256 [] := by
 intro ρ args w hg hw hc hv
 unfold vlU at hv
 simp only [VRels, VRel] at hv
 obtain ⟨v, vs', ha', ⟨_, hv1, _⟩, rfl⟩ := hv
 have hargs : args = #[v] := Array.toList_inj.1 (by simpa using ha')
 subst hargs hv1
 refine Calls.mono (h _ w (bem hg hw (by kernel_rfl)) (by show (al (Gv.σ 3)).size < _; rw [cy]; omega)) fun e w' hp => ?_
 obtain ⟨rfl, hk⟩ := hp
 refine ⟨_, ρ, rfl, ?_, a6n hw hk⟩
 simp only [VRel]
 show Value.bool (Lib.validD (al (Gv.σ 3)).data.toList) = _
 have e : (al (Gv.σ 3)).data.toList = (Gv.σ 3).map fun x => UInt8.ofNat x.toNat := by simp [al]
 rw [e, hb]
omit [Gv] in
theorem f50 (s : List Int) : ar s = 0 ∧ Lib.validD (s.map fun x => UInt8.ofNat x.toNat) = false ∨ ar s = 1 ∧ Lib.validD (s.map fun x => UInt8.ofNat x.toNat) = true := by
 unfold ar
 cases Lib.validD (s.map fun x => UInt8.ofNat x.toNat) <;> simp
end
theorem axc [Gv] : bj bge := by
 intro σ _ hA _
 have h1 : ar (σ 3) = 1 := of_decide_eq_true ((ap hA).2 _ (List.mem_singleton.2 rfl))
 rcases f50 (σ 3) with ⟨h, _⟩ | ⟨_, h⟩
 ·omega
 ·exact @a0g ⟨σ⟩ (@Go.Proofs.YtocilenpboklbaaGreatDoor.va_seat ⟨σ⟩) (y3 (ap hA).1) _ h
theorem axb [Gv] : bj bgd := by
 intro σ _ hA _
 have h1 : ¬ ar (σ 3) = 1 := of_decide_eq_false ((ap hA).2 _ (List.mem_singleton.2 rfl))
 rcases f50 (σ 3) with ⟨_, h⟩ | ⟨h, _⟩
 ·exact @a0g ⟨σ⟩ (@Go.Proofs.YtocilenpboklbaaGreatDoor.va_seat ⟨σ⟩) (y3 (ap hA).1) _ h
 ·omega
end Go.Ev
