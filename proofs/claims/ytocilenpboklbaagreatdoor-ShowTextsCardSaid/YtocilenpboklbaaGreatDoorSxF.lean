import Derived.Test.YtocilenpboklbaaGreatDoorSxE
import Derived.Test.YtocilenpboklbaaGreatDoorRcP
set_option maxRecDepth 100000
set_option linter.all false
namespace Go.Ev
noncomputable instance gv0 : Gv := ⟨fun _ => []⟩
theorem bf2 {G G' : Gv} {w : World} (h : @LaidIn G laidL w) : @LaidIn G' laidL w := by
 intro g cs hm
 obtain ⟨arr, t, fz, h1, h2⟩ := h g cs hm
 exact ⟨arr, t, fz, h1, fun ρ => abu (@jf G _ (@ii G) g cs hm).2.1 (h2 ρ)⟩
theorem bbt {σ : Nat → List Int} {ρ : Env} {x : ByteArray} {i : Nat} (h : σ i = x.data.toList.map fun b => (b.toNat : Int)) : @VRel ⟨σ⟩ ρ (.gv (.str (.s i) [])) (.string x) := by
 letI : Gv := ⟨σ⟩
 simp only [VRel, GVRel]
 have e : (GE.s i).eval σ = x.data.toList.map fun b => (b.toNat : Int) := h
 refine ⟨SAll.nil, ?_, ?_⟩
 ·rw [e, j7]
 ·rw [e]; exact gp _
theorem showTexts_law (x : ByteArray) (n : Int) (g0 : -9223372036854775808 ≤ n) (g1 : n ≤ 9223372036854775807) (w : World) (hl : LaidIn laidL w) : Calls PP 5 #[.string x, .int .i64 n] w fun e w' => e = .returned (.bool true) ∧ KeptW w w' := by
 let σ : Nat → List Int := fun i => if i = 3 then x.data.toList.map fun b => (b.toNat : Int) else if i = 1 then [n] else []
 have hF : @bz ⟨σ⟩ 5 bpm 256 [] (.ret (.bool true)) 256 [] := @bsp ⟨σ⟩ (gp _) (sc (@bF ⟨σ⟩ (.v 1) (.c (-9223372036854775808)) (show (-9223372036854775808 : Int) ≤ n by omega)) (sc (@bF ⟨σ⟩ (.c 9223372036854775807) (.v 1) (show n ≤ 9223372036854775807 by omega)) SAll.nil)) SAll.nil
 have hv : @VRels ⟨σ⟩ ρ00 bpm (#[Value.string x, Value.int .i64 n] : Array Value).toList := by
  show @VRels ⟨σ⟩ ρ00 [.gv (.str (.s 3) []), .sym .i64 (.v 1) []] [.string x, .int .i64 n]
  simp only [VRels]
  refine ⟨_, _, rfl, bbt rfl, _, _, rfl, ?_, rfl⟩
  simp only [VRel]
  exact ⟨SAll.nil, rfl⟩
 refine Calls.mono (hF ρ00 _ w (@ai6 ⟨σ⟩) (@brc ⟨σ⟩ w (bf2 hl)) (@bet ⟨σ⟩) hv) fun e w' hp => ?_
 obtain ⟨v', ρ', rfl, hv2, hA⟩ := hp
 simp only [VRel] at hv2
 subst hv2
 exact ⟨rfl, @aod ⟨σ⟩ _ _ _ _ _ _ hA (@buq ⟨σ⟩)⟩
theorem showTexts_wf (x : ByteArray) (n : Int) (h : (Lit.int .i64 n).wf = true) (w : World) (hl : LaidIn laidL w) : Calls PP 5 #[.string x, .int .i64 n] w fun e w' => e = .returned (.bool true) ∧ KeptW w w' := by
 have h2 : -9223372036854775808 ≤ n ∧ n ≤ 9223372036854775807 := by
  simp [Lit.wf] at h
  have a : (-9223372036854775808 : Int) ≤ n := h.1
  have b : n ≤ 9223372036854775807 := h.2
  constructor <;> omega
 exact showTexts_law x n h2.1 h2.2 w hl
end Go.Ev
