import Derived.Test.YtkfdioikigponaaGreatDoorRaV
set_option maxRecDepth 100000
set_option linter.all false
namespace Go.Ev
abbrev apv : AL := .g (.s 5) (.i (.c 0) .nil)
abbrev aka : SE := .rd (.s 5) (.c 1)
abbrev ad8 : SE := .app 56 (.g (.s 5) .nil)
abbrev b3y : List SA := [.mk false ad8 (.c 1) true, .mk false aka (.c 0) true]
abbrev bcs : SE := .app 57 apv
abbrev b4c : List SA := [.mk false bcs (.c 0) true]
abbrev b45 : List SA := [.mk false bcs (.c 0) false]
abbrev b4h : List SA := [.mk false ad8 (.c 1) true]
abbrev awm : GE := .app 57 apv
abbrev a4d : SE := .app 58 apv
abbrev b19 : List SA := [.mk false a4d (.c 0) true]
abbrev byt : List SA := [.mk false a4d (.c 0) false]
abbrev aqt : GE := .app 58 apv
abbrev ay7 : AL := .g (.s 5) (.i (.v 6) .nil)
abbrev b2i : List SA := [.mk false ad8 (.c 1) true, .mk true (.v 6) (.c 1) false, .mk true (.c 20000) (.v 6) false, .mk false aka (.c 0) true]
abbrev a2h : SE := .app 58 ay7
abbrev bz7 : List SA := [.mk false a2h (.c 0) true]
abbrev b18 : List SA := [.mk false a2h (.c 0) false]
abbrev b0w : List SA := [.mk false ad8 (.c 1) true, .mk true (.v 6) (.c 1) false, .mk true (.c 20000) (.v 6) false]
abbrev aqd : GE := .app 58 ay7
abbrev bzm : List SA := [.mk true (.v 6) (.c 1) false, .mk true (.c 20000) (.v 6) false]
abbrev aza : AL := .g (.s 5) (.g (.s 3) .nil)
abbrev b0r : List SA := [.mk false ad8 (.c 1) true, .mk true (.c 20000) (.len (.s 3)) false, .mk false aka (.c 0) true]
abbrev a02 : SE := .app 59 aza
abbrev b0i : List SA := [.mk false a02 (.c 0) true]
abbrev byd : List SA := [.mk false a02 (.c 0) false]
abbrev bxw : List SA := [.mk false ad8 (.c 1) true, .mk true (.c 20000) (.len (.s 3)) false]
abbrev aok : GE := .app 59 aza
abbrev by3 : List SA := [.mk true (.c 20000) (.len (.s 3)) false]
abbrev b0j : SE := .rd (.s 5) (.c 0)
abbrev b2p : SE := .bin 0 .i64 (.rd (.s 5) (.c 2)) (.c 0)
abbrev b08 : SE := .rd awm (.c 0)
abbrev bxn : SE := .rd awm (.c 1)
abbrev b0v : SE := .rd awm (.c 2)
abbrev byu : SE := .bin 6 .i64 aka (.c 1)
abbrev b2k : SE := .bin 0 .i64 aka (.c 1)
abbrev bxo : SE := .rd aqt (.c 0)
abbrev b0a : SE := .rd aqt (.c 1)
abbrev b10 : SE := .rd aqt (.c 2)
abbrev bx6 : SE := .bin 0 .i64 (.rd (.s 5) (.c 2)) (.v 6)
abbrev b0p : SE := .rd aqd (.c 0)
abbrev b21 : SE := .rd aqd (.c 1)
abbrev b16 : SE := .rd aqd (.c 2)
abbrev bik : SE := .app 49 (.g (.s 3) (.i (.c 0) .nil))
abbrev bzw : SE := .bin 0 .i64 (.rd (.s 5) (.c 2)) bik
abbrev b04 : SE := .rd aok (.c 0)
abbrev byz : SE := .rd aok (.c 1)
abbrev bz1 : SE := .rd aok (.c 2)
noncomputable section
end
section
variable {σ : Nat → List Int}
open Classical in
theorem au9 (s : List Int) : ∀ (n : Nat) (p : Int), ((s.length : Int) - p).toNat ≤ n → 0 ≤ p → 0 ≤ zg s p ∧ (p ≤ (s.length : Int) → zg s p ≤ (s.length : Int) - p)
 | 0, p, h, h0 => by rw [ac6, if_neg (by omega)]; omega
 | n + 1, p, h, h0 => by
   rw [ac6]
   split
   ·split
    ·rename_i h1 h2
     have h3 := (np s p.toNat (by omega)).2.1
     have h4 : dwJ s p = ((Utf8.decode (aj s) p.toNat).2 : Int) := rfl
     have := au9 s n (p + dwJ s p) (by omega) (by omega)
     omega
    ·omega
   ·omega
theorem f49 (g : GE) (p : SE) : 0 ≤ p.eval σ → 0 ≤ (SE.app 49 (.g g (.i p .nil))).eval σ ∧ (p.eval σ ≤ (SE.len g).eval σ → (SE.app 49 (.g g (.i p .nil))).eval σ ≤ (SE.len g).eval σ - p.eval σ) := fun h => au9 _ _ _ (zY _) h
theorem bm3 (g : GE) : (SE.app 50 (.g g .nil)).eval σ = 0 ∨ (SE.app 50 (.g g .nil)).eval σ = 1 := by
 show b8 (g.eval σ) = 0 ∨ b8 (g.eval σ) = 1
 have := f50 (g.eval σ); omega
end
theorem ann (h : List Int) (z : Int) : ug h z = if h.getD 1 0 = h.getD 0 0 ∨ 1048576 < h.getD 2 0 + z then ⟨7, h⟩ else ⟨0, [h.getD 0 0, h.getD 1 0 + 1, h.getD 2 0 + z]⟩ := bdj h z
theorem bvw {h : List Int} (hr : a3i h) {z : Int} (hz : 0 ≤ z) (h0 : (ug h z).f = 0) : a3i (ug h z).h := by
 obtain ⟨e, h1, h2, h3, h4, h5, h6⟩ := hr
 unfold hL hM hU at *
 rw [ann] at h0 ⊢
 split at h0
 ·exact absurd h0 (show ¬ (7 : Int) = 0 by decide)
 ·rename_i hc
  rw [if_neg hc]
  refine ⟨rfl, ?_⟩
  show 1 ≤ h.getD 0 0 ∧ h.getD 0 0 ≤ 50000 ∧ 0 ≤ h.getD 1 0 + 1 ∧ h.getD 1 0 + 1 ≤ h.getD 0 0 ∧ 0 ≤ h.getD 2 0 + z ∧ h.getD 2 0 + z ≤ 1048576
  omega
end Go.Ev
