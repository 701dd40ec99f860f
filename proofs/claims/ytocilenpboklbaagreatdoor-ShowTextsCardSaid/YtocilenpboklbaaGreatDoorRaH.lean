import Derived.Test.YtocilenpboklbaaGreatDoorRaV
set_option maxRecDepth 100000
set_option linter.all false
namespace Go.Ev
abbrev aqb : AL := .g (.s 5) (.i (.c 0) .nil)
abbrev akv : SE := .rd (.s 5) (.c 1)
abbrev aet : SE := .app 56 (.g (.s 5) .nil)
abbrev b1r : List SA := [.mk false aet (.c 1) true, .mk false akv (.c 0) true]
abbrev bdl : SE := .app 57 aqb
abbrev b1s : List SA := [.mk false bdl (.c 0) true]
abbrev b1t : List SA := [.mk false bdl (.c 0) false]
abbrev b1u : List SA := [.mk false aet (.c 1) true]
abbrev ayc : GE := .app 57 aqb
abbrev a2l : SE := .app 58 aqb
abbrev bxm : List SA := [.mk false a2l (.c 0) true]
abbrev bxn : List SA := [.mk false a2l (.c 0) false]
abbrev aqc : GE := .app 58 aqb
abbrev a2m : AL := .g (.s 5) (.i (.v 6) .nil)
abbrev bxo : List SA := [.mk false aet (.c 1) true, .mk true (.v 6) (.c 1) false, .mk true (.c 20000) (.v 6) false, .mk false akv (.c 0) true]
abbrev a2n : SE := .app 58 a2m
abbrev bxp : List SA := [.mk false a2n (.c 0) true]
abbrev bxq : List SA := [.mk false a2n (.c 0) false]
abbrev bxr : List SA := [.mk false aet (.c 1) true, .mk true (.v 6) (.c 1) false, .mk true (.c 20000) (.v 6) false]
abbrev aqd : GE := .app 58 a2m
abbrev bxs : List SA := [.mk true (.v 6) (.c 1) false, .mk true (.c 20000) (.v 6) false]
abbrev a2o : AL := .g (.s 5) (.g (.s 3) .nil)
abbrev bxt : List SA := [.mk false aet (.c 1) true, .mk true (.c 20000) (.len (.s 3)) false, .mk false akv (.c 0) true]
abbrev a2p : SE := .app 59 a2o
abbrev bxu : List SA := [.mk false a2p (.c 0) true]
abbrev bxv : List SA := [.mk false a2p (.c 0) false]
abbrev bxw : List SA := [.mk false aet (.c 1) true, .mk true (.c 20000) (.len (.s 3)) false]
abbrev aqe : GE := .app 59 a2o
abbrev bxx : List SA := [.mk true (.c 20000) (.len (.s 3)) false]
abbrev bxy : SE := .rd (.s 5) (.c 0)
abbrev bxz : SE := .bin 0 .i64 (.rd (.s 5) (.c 2)) (.c 0)
abbrev bx0 : SE := .rd ayc (.c 0)
abbrev bx1 : SE := .rd ayc (.c 1)
abbrev bx2 : SE := .rd ayc (.c 2)
abbrev bx3 : SE := .bin 6 .i64 akv (.c 1)
abbrev bx4 : SE := .bin 0 .i64 akv (.c 1)
abbrev bx5 : SE := .rd aqc (.c 0)
abbrev bx6 : SE := .rd aqc (.c 1)
abbrev bx7 : SE := .rd aqc (.c 2)
abbrev bx8 : SE := .bin 0 .i64 (.rd (.s 5) (.c 2)) (.v 6)
abbrev bx9 : SE := .rd aqd (.c 0)
abbrev bya : SE := .rd aqd (.c 1)
abbrev byb : SE := .rd aqd (.c 2)
abbrev biy : SE := .app 49 (.g (.s 3) (.i (.c 0) .nil))
abbrev byc : SE := .bin 0 .i64 (.rd (.s 5) (.c 2)) biy
abbrev byd : SE := .rd aqe (.c 0)
abbrev bye : SE := .rd aqe (.c 1)
abbrev byf : SE := .rd aqe (.c 2)
noncomputable section
end
section
variable {σ : Nat → List Int}
open Classical in
theorem av9 (s : List Int) : ∀ (n : Nat) (p : Int), ((s.length : Int) - p).toNat ≤ n → 0 ≤ p → 0 ≤ vt s p ∧ (p ≤ (s.length : Int) → vt s p ≤ (s.length : Int) - p)
 | 0, p, h, h0 => by rw [abk, if_neg (by omega)]; omega
 | n + 1, p, h, h0 => by
   rw [abk]
   split
   ·split
    ·rename_i h1 h2
     have h3 := (my s p.toNat (by omega)).2.1
     have h4 : dwJ s p = ((Utf8.decode (aj s) p.toNat).2 : Int) := rfl
     have := av9 s n (p + dwJ s p) (by omega) (by omega)
     omega
    ·omega
   ·omega
theorem f49 (g : GE) (p : SE) : 0 ≤ p.eval σ → 0 ≤ (SE.app 49 (.g g (.i p .nil))).eval σ ∧ (p.eval σ ≤ (SE.len g).eval σ → (SE.app 49 (.g g (.i p .nil))).eval σ ≤ (SE.len g).eval σ - p.eval σ) := fun h => av9 _ _ _ (zY _) h
theorem atf (g : GE) : (SE.app 50 (.g g .nil)).eval σ = 0 ∨ (SE.app 50 (.g g .nil)).eval σ = 1 := by
 show bj (g.eval σ) = 0 ∨ bj (g.eval σ) = 1
 have := f50 (g.eval σ); omega
end
theorem ans (h : List Int) (z : Int) : ua h z = if h.getD 1 0 = h.getD 0 0 ∨ 1048576 < h.getD 2 0 + z then ⟨7, h⟩ else ⟨0, [h.getD 0 0, h.getD 1 0 + 1, h.getD 2 0 + z]⟩ := bfb h z
theorem btf {h : List Int} (hr : azq h) {z : Int} (hz : 0 ≤ z) (h0 : (ua h z).f = 0) : azq (ua h z).h := by
 obtain ⟨e, h1, h2, h3, h4, h5, h6⟩ := hr
 unfold hL hM hU at *
 rw [ans] at h0 ⊢
 split at h0
 ·exact absurd h0 (show ¬ (7 : Int) = 0 by decide)
 ·rename_i hc
  rw [if_neg hc]
  refine ⟨rfl, ?_⟩
  show 1 ≤ h.getD 0 0 ∧ h.getD 0 0 ≤ 50000 ∧ 0 ≤ h.getD 1 0 + 1 ∧ h.getD 1 0 + 1 ≤ h.getD 0 0 ∧ 0 ≤ h.getD 2 0 + z ∧ h.getD 2 0 + z ≤ 1048576
  omega
end Go.Ev
