import Derived.Test.YtocilenpboklbaaGreatDoorHpX
set_option maxRecDepth 100000
set_option linter.all false
namespace Go.Ev
noncomputable instance gv0 : Gv := ⟨fun _ => []⟩
theorem bhx {G G' : Gv} {w : World} (h : @LaidIn G laidL w) : @LaidIn G' laidL w := by
 intro g cs hm
 obtain ⟨arr, t, fz, h1, h2⟩ := h g cs hm
 exact ⟨arr, t, fz, h1, fun ρ => acw (@iu G _ (@ib G) g cs hm).2.1 (h2 ρ)⟩
def pw (a b d : Int) : Nat → List Int := fun i => if i = 1 then [a] else if i = 2 then [b] else if i = 4 then [d] else []
theorem bqw {a b d : Int} (ha : -9223372036854775808 ≤ a ∧ a ≤ 9223372036854775807) (hb : -9223372036854775808 ≤ b ∧ b ≤ 9223372036854775807) (hd : -9223372036854775808 ≤ d ∧ d ≤ 9223372036854775807) (x y : Bool) (hx : decide (xA.eval (pw a b d) = 0) = x) (hy : decide (xB.eval (pw a b d) = 0) = y) :
  SAll (pw a b d) [.mk true (.v 1) (.c (-9223372036854775808)) false, .mk true (.c 9223372036854775807) (.v 1) false, .mk true (.v 2) (.c (-9223372036854775808)) false, .mk true (.c 9223372036854775807) (.v 2) false, .mk true (.v 4) (.c (-9223372036854775808)) false, .mk true (.c 9223372036854775807) (.v 4) false, .mk false xA (.c 0) x, .mk false xB (.c 0) y, .mk true xA (.c 0) false, .mk true (.c 60) xA false, .mk true xB (.c 0) false, .mk true (.c 60) xB false] := by
 obtain ⟨a1, a2⟩ := fxA (σ := pw a b d)
 obtain ⟨b1, b2⟩ := fxB (σ := pw a b d)
 refine sc (sF.2 ha.1) (sc (sF.2 ha.2) (sc (sF.2 hb.1) (sc (sF.2 hb.2) (sc (sF.2 hd.1) (sc (sF.2 hd.2) (sc hx (sc hy (sc (sF.2 a1) (sc (sF.2 a2) (sc (sF.2 b1) (sc (sF.2 b2) SAll.nil)))))))))))
theorem ayy (a b d : Int) (r : Bool) (ha : -9223372036854775808 ≤ a ∧ a ≤ 9223372036854775807) (hb : -9223372036854775808 ≤ b ∧ b ≤ 9223372036854775807) (hd : -9223372036854775808 ≤ d ∧ d ≤ 9223372036854775807) (w : World) (hl : LaidIn laidL w) :
  Calls PP 7 #[.int .i64 a, .int .i64 b, .bool r, .int .i64 d] w fun e w' => e = .returned (.bool true) ∧ KeptW w w' := by
 have fin : @cm ⟨pw a b d⟩ 7 [vI 1, vI 2, .bool r, vI 4] 256 [] (.ret (.bool true)) 256 [] → Calls PP 7 #[.int .i64 a, .int .i64 b, .bool r, .int .i64 d] w fun e w' => e = .returned (.bool true) ∧ KeptW w w' := by
  intro hF
  have hv : @VRels ⟨pw a b d⟩ ρ00 [vI 1, vI 2, .bool r, vI 4] (#[Value.int .i64 a, Value.int .i64 b, Value.bool r, Value.int .i64 d] : Array Value).toList := by
   show @VRels ⟨pw a b d⟩ ρ00 [.sym .i64 (.v 1) [], .sym .i64 (.v 2) [], .bool r, .sym .i64 (.v 4) []] [.int .i64 a, .int .i64 b, .bool r, .int .i64 d]
   simp only [VRels, VRel]
   exact ⟨_, _, rfl, ⟨SAll.nil, rfl⟩, _, _, rfl, ⟨SAll.nil, rfl⟩, _, _, rfl, rfl, _, _, rfl, ⟨SAll.nil, rfl⟩, rfl⟩
  refine Calls.mono (hF ρ00 _ w (@ajk ⟨pw a b d⟩) (@bnw ⟨pw a b d⟩ w (bhx hl)) (@bgr ⟨pw a b d⟩) hv) fun e w' hp => ?_
  obtain ⟨v', ρ', rfl, hv2, hA⟩ := hp
  simp only [VRel] at hv2
  subst hv2
  exact ⟨rfl, @ao5 ⟨pw a b d⟩ _ _ _ _ _ _ hA (@bqk ⟨pw a b d⟩)⟩
 have hI := bqw ha hb hd
 apply fin
 cases hx : decide (xA.eval (pw a b d) = 0) <;> cases hy : decide (xB.eval (pw a b d) = 0) <;> cases r
 ·exact @bmt ⟨pw a b d⟩ (hI _ _ hx hy) SAll.nil
 ·exact @bmu ⟨pw a b d⟩ (hI _ _ hx hy) SAll.nil
 ·exact @bmr ⟨pw a b d⟩ (hI _ _ hx hy) SAll.nil
 ·exact @bms ⟨pw a b d⟩ (hI _ _ hx hy) SAll.nil
 ·exact @bmp ⟨pw a b d⟩ (hI _ _ hx hy) SAll.nil
 ·exact @bmq ⟨pw a b d⟩ (hI _ _ hx hy) SAll.nil
 ·exact @bmn ⟨pw a b d⟩ (hI _ _ hx hy) SAll.nil
 ·exact @bmo ⟨pw a b d⟩ (hI _ _ hx hy) SAll.nil
theorem ayf {n : Int} (h : (Lit.int .i64 n).wf = true) : -9223372036854775808 ≤ n ∧ n ≤ 9223372036854775807 := by
 simp [Lit.wf] at h
 have a : (-9223372036854775808 : Int) ≤ n := h.1
 have b : n ≤ 9223372036854775807 := h.2
 constructor <;> omega
theorem params_wf (a b d : Int) (r : Bool) (ha : (Lit.int .i64 a).wf = true) (hb : (Lit.int .i64 b).wf = true) (hd : (Lit.int .i64 d).wf = true) (w : World) (hl : LaidIn laidL w) :
  Calls PP 7 #[.int .i64 a, .int .i64 b, .bool r, .int .i64 d] w fun e w' => e = .returned (.bool true) ∧ KeptW w w' := ayy a b d r (ayf ha) (ayf hb) (ayf hd) w hl
end Go.Ev
