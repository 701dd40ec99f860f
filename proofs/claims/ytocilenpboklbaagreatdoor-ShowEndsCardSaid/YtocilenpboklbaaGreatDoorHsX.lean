import Derived.Test.YtocilenpboklbaaGreatDoorHsG
set_option maxRecDepth 100000
set_option linter.all false
namespace Go.Ev
noncomputable instance gv0 : Gv := ⟨fun _ => []⟩
theorem a7l {G G' : Gv} {w : World} (h : @LaidIn G laidL w) : @LaidIn G' laidL w := by
 intro g cs hm
 obtain ⟨arr, t, fz, h1, h2⟩ := h g cs hm
 exact ⟨arr, t, fz, h1, fun ρ => ab2 (@ju G _ (@je G) g cs hm).2.1 (h2 ρ)⟩
theorem a3p {n : Int} (h : (Lit.int .i64 n).wf = true) : -9223372036854775808 ≤ n ∧ n ≤ 9223372036854775807 := by
 simp [Lit.wf] at h
 have a : (-9223372036854775808 : Int) ≤ n := h.1
 have b : n ≤ 9223372036854775807 := h.2
 constructor <;> omega
def ew (a b : Int) : Nat → List Int := fun i => if i = 1 then [a] else if i = 2 then [b] else []
theorem a2z (a b : Int) (ha : -9223372036854775808 ≤ a ∧ a ≤ 9223372036854775807) (hb : -9223372036854775808 ≤ b ∧ b ≤ 9223372036854775807) (w : World) (hl : LaidIn laidL w) :
  Calls PP 3 #[.int .i64 a, .int .i64 b] w fun e w' => e = .returned (.bool true) ∧ KeptW w w' := by
 have hI : SAll (ew a b) [.mk true (.v 1) (.c (-9223372036854775808)) false, .mk true (.c 9223372036854775807) (.v 1) false, .mk true (.v 2) (.c (-9223372036854775808)) false, .mk true (.c 9223372036854775807) (.v 2) false] :=
  sc (sF.2 ha.1) (sc (sF.2 ha.2) (sc (sF.2 hb.1) (sc (sF.2 hb.2) SAll.nil)))
 have hF : @di ⟨ew a b⟩ 3 [vI 1, vI 2] 256 [] (.ret (.bool true)) 256 [] := @bc9 ⟨ew a b⟩ hI SAll.nil
 have hv : @VRels ⟨ew a b⟩ ρ00 [vI 1, vI 2] (#[Value.int .i64 a, Value.int .i64 b] : Array Value).toList := by
  show @VRels ⟨ew a b⟩ ρ00 [.sym .i64 (.v 1) [], .sym .i64 (.v 2) []] [.int .i64 a, .int .i64 b]
  simp only [VRels, VRel]
  exact ⟨_, _, rfl, ⟨SAll.nil, rfl⟩, _, _, rfl, ⟨SAll.nil, rfl⟩, rfl⟩
 refine Calls.mono (hF ρ00 _ w (@ah7 ⟨ew a b⟩) (@bce ⟨ew a b⟩ w (a7l hl)) (@a6s ⟨ew a b⟩) hv) fun e w' hp => ?_
 obtain ⟨v', ρ', rfl, hv2, hA⟩ := hp
 simp only [VRel] at hv2
 subst hv2
 exact ⟨rfl, @anj ⟨ew a b⟩ _ _ _ _ _ _ hA (@bfl ⟨ew a b⟩)⟩
theorem ends_wf (a b : Int) (ha : (Lit.int .i64 a).wf = true) (hb : (Lit.int .i64 b).wf = true) (w : World) (hl : LaidIn laidL w) :
  Calls PP 3 #[.int .i64 a, .int .i64 b] w fun e w' => e = .returned (.bool true) ∧ KeptW w w' := a2z a b (a3p ha) (a3p hb) w hl
end Go.Ev
