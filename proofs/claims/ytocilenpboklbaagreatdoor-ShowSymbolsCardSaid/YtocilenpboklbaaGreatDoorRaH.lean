import Derived.Test.YtocilenpboklbaaGreatDoorRaV
set_option maxRecDepth 100000
set_option linter.all false
namespace Go.Ev
abbrev apf : AL := .g (.s 5) (.i (.c 0) .nil)
abbrev aj9 : SE := .rd (.s 5) (.c 1)
abbrev aed : SE := .app 56 (.g (.s 5) .nil)
abbrev b0w : List SA := [.mk false aed (.c 1) true, .mk false aj9 (.c 0) true]
abbrev bcc : SE := .app 57 apf
abbrev b0x : List SA := [.mk false bcc (.c 0) true]
abbrev b0y : List SA := [.mk false bcc (.c 0) false]
abbrev b0z : List SA := [.mk false aed (.c 1) true]
abbrev axm : GE := .app 57 apf
abbrev a1q : SE := .app 58 apf
abbrev bu8 : List SA := [.mk false a1q (.c 0) true]
abbrev bu9 : List SA := [.mk false a1q (.c 0) false]
abbrev apg : GE := .app 58 apf
abbrev a1r : AL := .g (.s 5) (.i (.v 6) .nil)
abbrev bva : List SA := [.mk false aed (.c 1) true, .mk true (.v 6) (.c 1) false, .mk true (.c 20000) (.v 6) false, .mk false aj9 (.c 0) true]
abbrev a1s : SE := .app 58 a1r
abbrev bvb : List SA := [.mk false a1s (.c 0) true]
abbrev bvc : List SA := [.mk false a1s (.c 0) false]
abbrev bvd : List SA := [.mk false aed (.c 1) true, .mk true (.v 6) (.c 1) false, .mk true (.c 20000) (.v 6) false]
abbrev aph : GE := .app 58 a1r
abbrev bve : List SA := [.mk true (.v 6) (.c 1) false, .mk true (.c 20000) (.v 6) false]
abbrev a1t : AL := .g (.s 5) (.g (.s 3) .nil)
abbrev bvf : List SA := [.mk false aed (.c 1) true, .mk true (.c 20000) (.len (.s 3)) false, .mk false aj9 (.c 0) true]
abbrev a1u : SE := .app 59 a1t
abbrev bvg : List SA := [.mk false a1u (.c 0) true]
abbrev bvh : List SA := [.mk false a1u (.c 0) false]
abbrev bvi : List SA := [.mk false aed (.c 1) true, .mk true (.c 20000) (.len (.s 3)) false]
abbrev api : GE := .app 59 a1t
abbrev bvj : List SA := [.mk true (.c 20000) (.len (.s 3)) false]
abbrev bvk : SE := .rd (.s 5) (.c 0)
abbrev bvl : SE := .bin 0 .i64 (.rd (.s 5) (.c 2)) (.c 0)
abbrev bvm : SE := .rd axm (.c 0)
abbrev bvn : SE := .rd axm (.c 1)
abbrev bvo : SE := .rd axm (.c 2)
abbrev bvp : SE := .bin 6 .i64 aj9 (.c 1)
abbrev bvq : SE := .bin 0 .i64 aj9 (.c 1)
abbrev bvr : SE := .rd apg (.c 0)
abbrev bvs : SE := .rd apg (.c 1)
abbrev bvt : SE := .rd apg (.c 2)
abbrev bvu : SE := .bin 0 .i64 (.rd (.s 5) (.c 2)) (.v 6)
abbrev bvv : SE := .rd aph (.c 0)
abbrev bvw : SE := .rd aph (.c 1)
abbrev bvx : SE := .rd aph (.c 2)
abbrev bg5 : SE := .app 49 (.g (.s 3) (.i (.c 0) .nil))
abbrev bvy : SE := .bin 0 .i64 (.rd (.s 5) (.c 2)) bg5
abbrev bvz : SE := .rd api (.c 0)
abbrev bv0 : SE := .rd api (.c 1)
abbrev bv1 : SE := .rd api (.c 2)
noncomputable section
end
section
variable {σ : Nat → List Int}
open Classical in
theorem au9 (s : List Int) : ∀ (n : Nat) (p : Int), ((s.length : Int) - p).toNat ≤ n → 0 ≤ p → 0 ≤ ac7 s p ∧ (p ≤ (s.length : Int) → ac7 s p ≤ (s.length : Int) - p)
 | 0, p, h, h0 => by rw [afs, if_neg (by omega)]; omega
 | n + 1, p, h, h0 => by
   rw [afs]
   split
   ·split
    ·rename_i h1 h2
     have h3 := (mz s p.toNat (by omega)).2.1
     have h4 : dwJ s p = ((Utf8.decode (al s) p.toNat).2 : Int) := rfl
     have := au9 s n (p + dwJ s p) (by omega) (by omega)
     omega
    ·omega
   ·omega
theorem f49 (g : GE) (p : SE) : 0 ≤ p.eval σ → 0 ≤ (SE.app 49 (.g g (.i p .nil))).eval σ ∧ (p.eval σ ≤ (SE.len g).eval σ → (SE.app 49 (.g g (.i p .nil))).eval σ ≤ (SE.len g).eval σ - p.eval σ) := fun h => au9 _ _ _ (zY _) h
theorem bor (g : GE) : (SE.app 50 (.g g .nil)).eval σ = 0 ∨ (SE.app 50 (.g g .nil)).eval σ = 1 := by
 show ar (g.eval σ) = 0 ∨ ar (g.eval σ) = 1
 have := f50 (g.eval σ); omega
end
theorem bk4 (h : List Int) (z : Int) : aao h z = if h.getD 1 0 = h.getD 0 0 ∨ 1048576 < h.getD 2 0 + z then ⟨7, h⟩ else ⟨0, [h.getD 0 0, h.getD 1 0 + 1, h.getD 2 0 + z]⟩ := bd0 h z
theorem bpv {h : List Int} (hr : azf h) {z : Int} (hz : 0 ≤ z) (h0 : (aao h z).f = 0) : azf (aao h z).h := by
 obtain ⟨e, h1, h2, h3, h4, h5, h6⟩ := hr
 unfold hL hM hU at *
 rw [bk4] at h0 ⊢
 split at h0
 ·exact absurd h0 (show ¬ (7 : Int) = 0 by decide)
 ·rename_i hc
  rw [if_neg hc]
  refine ⟨rfl, ?_⟩
  show 1 ≤ h.getD 0 0 ∧ h.getD 0 0 ≤ 50000 ∧ 0 ≤ h.getD 1 0 + 1 ∧ h.getD 1 0 + 1 ≤ h.getD 0 0 ∧ 0 ≤ h.getD 2 0 + z ∧ h.getD 2 0 + z ≤ 1048576
  omega
end Go.Ev
