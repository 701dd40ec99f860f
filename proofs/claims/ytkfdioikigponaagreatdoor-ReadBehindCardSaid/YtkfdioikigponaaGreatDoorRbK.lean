import Derived.Test.YtkfdioikigponaaGreatDoorRbJ
set_option maxRecDepth 100000
set_option linter.all false
namespace Go.Ev
noncomputable instance gv0 : Gv := ⟨fun _ => []⟩
theorem bol {G G' : Gv} {w : World} (h : @LaidIn G laidL w) : @LaidIn G' laidL w := by
 intro g cs hm
 obtain ⟨arr, t, fz, h1, h2⟩ := h g cs hm
 exact ⟨arr, t, fz, h1, fun ρ => agh (@kh G _ (@jo G) g cs hm).2.1 (h2 ρ)⟩
theorem a3h {σ : Nat → List Int} {ρ : Env} {x : ByteArray} {i : Nat} (h : σ i = x.data.toList.map fun b => (b.toNat : Int)) : @VRel ⟨σ⟩ ρ (.gv (.str (.s i) [])) (.string x) := by
 letI : Gv := ⟨σ⟩
 simp only [VRel, GVRel]
 have e : (GE.s i).eval σ = x.data.toList.map fun b => (b.toNat : Int) := h
 refine ⟨SAll.nil, ?_, ?_⟩
 ·rw [e, nq]
 ·rw [e]; exact ju _
theorem readBehind_law (x y : ByteArray) (w : World) (hl : LaidIn laidL w) : Calls PP 4 #[.string x, .string y] w fun e w' => e = .returned (.bool true) ∧ KeptW w w' := by
 let σ : Nat → List Int := fun i => if i = 3 then x.data.toList.map fun b => (b.toNat : Int) else if i = 12 then y.data.toList.map fun b => (b.toNat : Int) else []
 have hF : @ba ⟨σ⟩ 4 b23 256 [] (.ret (.bool true)) 256 [] := @b7v ⟨σ⟩ (ju _) SAll.nil SAll.nil
 have hv : @VRels ⟨σ⟩ ρ00 b23 (#[Value.string x, Value.string y] : Array Value).toList := by
  show @VRels ⟨σ⟩ ρ00 [.gv (.str (.s 3) []), .gv (.str (.s 12) [])] [.string x, .string y]
  simp only [VRels]
  exact ⟨_, _, rfl, a3h rfl, _, _, rfl, a3h rfl, rfl⟩
 refine Calls.mono (hF ρ00 _ w (@ap8 ⟨σ⟩) (@b4n ⟨σ⟩ w (bol hl)) (@bqo ⟨σ⟩) hv) fun e w' hp => ?_
 obtain ⟨v', ρ', rfl, hv2, hA⟩ := hp
 simp only [VRel] at hv2
 subst hv2
 exact ⟨rfl, @ay5 ⟨σ⟩ _ _ _ _ _ _ hA (@b53 ⟨σ⟩)⟩
end Go.Ev
