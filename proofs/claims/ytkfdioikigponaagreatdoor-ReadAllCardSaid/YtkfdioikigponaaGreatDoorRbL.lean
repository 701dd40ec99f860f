import Derived.Test.YtkfdioikigponaaGreatDoorRbA
set_option maxRecDepth 100000
set_option linter.all false
namespace Go.Ev
/- copyistlaw05.ReadAll, whatever the string, in whatever memory. -/
noncomputable instance gv0 : Gv := ⟨fun _ => []⟩
theorem bqi {G G' : Gv} {w : World} (h : @LaidIn G laidL w) : @LaidIn G' laidL w := by
  intro g cs hm
  obtain ⟨arr, t, fz, h1, h2⟩ := h g cs hm
  exact ⟨arr, t, fz, h1, fun ρ => ah2 (@j3 G _ (@jk G) g cs hm).2.1 (h2 ρ)⟩
theorem bkd {σ : Nat → List Int} {ρ : Env} {x : ByteArray} {i : Nat} (h : σ i = x.data.toList.map fun b => (b.toNat : Int)) : @VRel ⟨σ⟩ ρ (.gv (.str (.s i) [])) (.string x) := by
  letI : Gv := ⟨σ⟩
  simp only [VRel, GVRel]
  have e : (GE.s i).eval σ = x.data.toList.map fun b => (b.toNat : Int) := h
  refine ⟨SAll.nil, ?_, ?_⟩
  · rw [e, nh]
  · rw [e]; exact ll _
theorem readAll_law (x : ByteArray) (w : World) (hl : LaidIn laidL w) : Calls PP 8 #[.string x] w fun e w' => e = .returned (.bool true) ∧ KeptW w w' := by
  let σ : Nat → List Int := fun i => if i = 3 then x.data.toList.map fun b => (b.toNat : Int) else []
  have hF : @bh ⟨σ⟩ 8 b3c 256 [] (.ret (.bool true)) 256 [] := @b60 ⟨σ⟩ SAll.nil SAll.nil
  have hv : @VRels ⟨σ⟩ ρ00 b3c (#[Value.string x] : Array Value).toList := by
    show @VRels ⟨σ⟩ ρ00 [.gv (.str (.s 3) [])] [.string x]
    simp only [VRels]
    exact ⟨_, _, rfl, bkd rfl, rfl⟩
  refine Calls.mono (hF ρ00 _ w (@aoe ⟨σ⟩) (@b1o ⟨σ⟩ w (bqi hl)) (@btw ⟨σ⟩) hv) fun e w' hp => ?_
  obtain ⟨v', ρ', rfl, hv2, hA⟩ := hp
  simp only [VRel] at hv2
  subst hv2
  exact ⟨rfl, @awn ⟨σ⟩ _ _ _ _ _ _ hA (@b73 ⟨σ⟩)⟩
end Go.Ev
