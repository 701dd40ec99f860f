import Derived.Test.YtocilenpboklbaaGreatDoorRaG
import Derived.Test.YtocilenpboklbaaGreatDoorEvRo
set_option maxRecDepth 100000
set_option linter.all false
namespace Go.Ev
abbrev bd5 : List SA := [.mk true (.c 20000) (.len (.s 3)) false]
noncomputable section
def vlU : List AV := [.gv (.str (.s 3) [])]
def vlI : List HO := []
def b1m : List HO := []
def b1n : TR := .ret (.bool true)
def bq9 : TM := .mk 112 vlU 256 vlI (bd5 ++ [.mk false (.app 50 (.g (.s 3) .nil)) (.c 1) true]) none b1n 256 b1m
def b1k : List HO := []
def b1l : TR := .ret (.bool false)
def bq8 : TM := .mk 112 vlU 256 vlI (bd5 ++ [.mk false (.app 50 (.g (.s 3) .nil)) (.c 1) false]) none b1l 256 b1k
end
section
variable [Gv]
theorem a0v (h : VsAny 112) (h20 : ((Gv.σ 3).length : Int) ≤ 20000) {b : Bool} (hb : Lib.validD ((Gv.σ 3).map fun x => UInt8.ofNat x.toNat) = b) : bz 112 vlU 256 vlI (.ret (.bool b)) 256 [] := by
 intro ρ args w hg hw hc hv
 unfold vlU at hv
 simp only [VRels, VRel] at hv
 obtain ⟨v, vs', ha', ⟨_, hv1, _⟩, rfl⟩ := hv
 have hargs : args = #[v] := Array.toList_inj.1 (by simpa using ha')
 subst hargs hv1
 refine Calls.mono (h _ w (azw hg hw (by kernel_rfl)) (by show (aj (Gv.σ 3)).size < _; rw [cx]; omega)) fun e w' hp => ?_
 obtain ⟨rfl, hk⟩ := hp
 refine ⟨_, ρ, rfl, ?_, asl hw hk⟩
 simp only [VRel]
 show Value.bool (Lib.validD (aj (Gv.σ 3)).data.toList) = _
 have e : (aj (Gv.σ 3)).data.toList = (Gv.σ 3).map fun x => UInt8.ofNat x.toNat := by simp [aj]
 rw [e, hb]
omit [Gv] in
theorem f50 (s : List Int) : bj s = 0 ∧ Lib.validD (s.map fun x => UInt8.ofNat x.toNat) = false ∨ bj s = 1 ∧ Lib.validD (s.map fun x => UInt8.ofNat x.toNat) = true := by
 unfold bj
 cases Lib.validD (s.map fun x => UInt8.ofNat x.toNat) <;> simp
end
theorem bcx [Gv] : ax bq9 := by
 intro σ _ hA _
 have h1 : bj (σ 3) = 1 := of_decide_eq_true ((ai hA).2 _ (List.mem_singleton.2 rfl))
 rcases f50 (σ 3) with ⟨h, _⟩ | ⟨_, h⟩
 ·omega
 ·exact @a0v ⟨σ⟩ (@Go.Proofs.YtocilenpboklbaaGreatDoor.va_seat ⟨σ⟩) (aja (ai hA).1) _ h
theorem bcw [Gv] : ax bq8 := by
 intro σ _ hA _
 have h1 : ¬ bj (σ 3) = 1 := of_decide_eq_false ((ai hA).2 _ (List.mem_singleton.2 rfl))
 rcases f50 (σ 3) with ⟨_, h⟩ | ⟨h, _⟩
 ·exact @a0v ⟨σ⟩ (@Go.Proofs.YtocilenpboklbaaGreatDoor.va_seat ⟨σ⟩) (aja (ai hA).1) _ h
 ·omega
end Go.Ev
