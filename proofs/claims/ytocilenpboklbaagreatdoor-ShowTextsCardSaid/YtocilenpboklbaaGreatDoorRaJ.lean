import Derived.Test.YtocilenpboklbaaGreatDoorRaH
import Derived.Test.YtocilenpboklbaaGreatDoorEvGh
set_option maxRecDepth 100000
set_option linter.all false
namespace Go.Ev
abbrev ayd : AL := .g (.s 4) (.g (.s 3) .nil)
abbrev b1v : SE := .app 55 ayd
abbrev b1w : List SA := [.mk true (.c 20000) (.len (.s 3)) false]
abbrev bdx : SE := .app 54 ayd
abbrev b1x : List SA := [.mk false bdx (.c 0) true]
abbrev b1y : List SA := [.mk false bdx (.c 0) false]
abbrev brf : SE := .bin 6 .i64 (.v 9) (.c 1)
abbrev aqj : AL := .g (.s 5) (.i (.v 7) (.i (.v 8) .nil))
abbrev aql : AL := .i brf aqj
abbrev byg : SE := .app 75 aql
abbrev byh : SE := .app 76 aql
abbrev byi : List SA := [.mk true (.v 9) (.c (-1)) false, .mk true (.v 9) (.v 6) true, .mk true (.c 20000) (.v 6) false]
abbrev a2q : SE := .app 74 aql
abbrev byj : List SA := [.mk false a2q (.c 0) true]
abbrev byk : List SA := [.mk false a2q (.c 0) false]
abbrev aqf : AL := .i (.c 2) aqj
abbrev byl : SE := .app 75 aqf
abbrev bym : SE := .app 76 aqf
abbrev a2r : SE := .app 74 aqf
abbrev byn : List SA := [.mk false a2r (.c 0) true]
abbrev byo : List SA := [.mk false a2r (.c 0) false]
abbrev aqg : AL := .i (.v 6) aqj
abbrev byp : SE := .app 75 aqg
abbrev byq : SE := .app 76 aqg
abbrev byr : List SA := [.mk true (.v 6) (.c 1) false, .mk true (.c 20000) (.v 6) false]
abbrev a2s : SE := .app 74 aqg
abbrev bys : List SA := [.mk false a2s (.c 0) true]
abbrev byt : List SA := [.mk false a2s (.c 0) false]
abbrev agt : AL := .g (.s 0) (.i (.v 1) (.g .nil .nil))
abbrev biz : GE := .app 91 agt
abbrev a2t : AL := .g (.s 5) (.g biz .nil)
abbrev bi0 : SE := .rd (.s 5) (.c 1)
abbrev aqh : SE := .app 91 agt
abbrev a2u : SE := .app 59 a2t
abbrev byu : List SA := [.mk false aqh (.c 0) true, .mk false a2u (.c 0) true]
abbrev byv : SE := .app 92 agt
abbrev byw : List SA := [.mk false aqh (.c 0) false]
abbrev byx : List SA := [.mk false aqh (.c 0) true, .mk false a2u (.c 0) false]
abbrev agu : AL := .g (.s 4) .nil
abbrev agv : AL := .g (.s 0) (.i (.v 1) agu)
abbrev bi1 : GE := .app 91 agv
abbrev a2v : AL := .g (.s 5) (.g bi1 .nil)
abbrev bi2 : List SA := [.mk true (.bin 7 .i64 (.c 4) (.v 1)) (.len (.s 4)) false, .mk true (.len (.s 4)) (.c 1) false]
abbrev aqi : SE := .app 91 agv
abbrev a2w : SE := .app 59 a2v
abbrev byy : List SA := [.mk false aqi (.c 0) true, .mk false a2w (.c 0) true]
abbrev byz : SE := .app 92 agv
abbrev by0 : List SA := [.mk false aqi (.c 0) false]
abbrev by1 : List SA := [.mk false aqi (.c 0) true, .mk false a2w (.c 0) false]
abbrev bi3 : GE := .app 54 ayd
abbrev bi4 : SE := .app 53 agu
abbrev by2 : SE := .app 53 (.g bi3 .nil)
abbrev by3 : SE := .bin 6 .i64 bi4 (.c 1)
abbrev by4 : GE := .app 74 aql
abbrev by5 : SE := .app 57 (.g (.s 5) (.i (.c 0) .nil))
abbrev bi5 : SE := .bin 1 .i64 (.v 9) (.c 1)
abbrev bi6 : SE := .bin 6 .i64 bi5 (.c 1)
abbrev a2x : GE := .app 57 (.g (.s 5) (.i (.c 0) .nil))
abbrev by6 : AL := .i bi6 (.g a2x (.i (.c 2) (.i bi0 .nil)))
abbrev by7 : AL := .g a2x (.i (.c 0) .nil)
abbrev bi7 : SE := .bin 1 .i64 (.v 6) (.c 1)
abbrev bi8 : SE := .bin 6 .i64 bi7 (.c 1)
abbrev by8 : AL := .i bi8 aqj
abbrev bi9 : SE := .bin 0 .i64 (.v 1) (.c 0)
abbrev bja : SE := .rd (.s 0) bi9
abbrev by9 : SE := .app 59 (.g (.s 5) (.g (.lit 0 0) .nil))
abbrev acu : SE := .bin 0 .i64 (.v 1) (.c 1)
abbrev bza : SE := .app 93 agt
abbrev bzb : GE := .app 59 a2t
abbrev agw : AL := .g (.s 0) (.i acu .nil)
abbrev bzc : SE := .app 87 agw
abbrev bjb : SE := .app 89 agw
abbrev yt : SE := .app 90 agw
abbrev bjc : AL := .g (.s 0) (.i yt (.g .nil .nil))
abbrev bjd : GE := .app 91 bjc
abbrev bje : AL := .g (.s 5) (.g bjd .nil)
abbrev bzd : SE := .app 59 bje
abbrev bze : SE := .bin 6 .i64 (.len (.s 0)) (.bin 7 .i64 (.c (-1)) yt)
abbrev bzf : SE := .bin 6 .i64 (.len (.s 0)) (.bin 7 .i64 (.c (-1)) (.v 1))
abbrev bjf : SE := .bin 0 .i32 bjb (.c 0)
abbrev bzg : SE := .bin 7 .i64 (.c 4) yt
abbrev aqk : GE := .app 40 (.i bjf .nil)
abbrev bjg : SE := .len aqk
abbrev bjh : AL := .g (.s 0) (.i yt (.g aqk .nil))
abbrev bji : GE := .app 91 bjh
abbrev bjj : AL := .g (.s 5) (.g bji .nil)
abbrev bzh : SE := .app 59 bjj
abbrev bzi : SE := .app 88 agw
abbrev bjk : SE := .bin 0 .i32 bja (.c 0)
abbrev bzj : SE := .bin 7 .i64 (.c 4) acu
abbrev aqm : GE := .app 40 (.i bjk .nil)
abbrev bjl : SE := .len aqm
abbrev bjm : AL := .g (.s 0) (.i acu (.g aqm .nil))
abbrev bjn : GE := .app 91 bjm
abbrev bjo : AL := .g (.s 5) (.g bjn .nil)
abbrev bzk : SE := .app 59 bjo
abbrev bzl : SE := .bin 6 .i64 (.len (.s 0)) (.bin 7 .i64 (.c (-1)) acu)
abbrev bzm : SE := .app 59 (.g (.s 5) agu)
abbrev bzn : SE := .app 93 agv
abbrev bwi : GE := .app 59 a2v
abbrev bdm : AL := .g (.s 0) (.i yt agu)
abbrev bdn : GE := .app 91 bdm
abbrev bdo : AL := .g (.s 5) (.g bdn .nil)
abbrev bwj : SE := .app 59 bdo
abbrev bwk : SE := .bin 6 .i64 (.len (.s 4)) bjg
abbrev bdp : GE := .cat (.s 4) aqk
abbrev bdq : AL := .g (.s 0) (.i yt (.g bdp .nil))
abbrev bdr : GE := .app 91 bdq
abbrev bds : AL := .g (.s 5) (.g bdr .nil)
abbrev bwl : SE := .app 59 bds
abbrev bwm : SE := .bin 6 .i64 (.len (.s 4)) bjl
abbrev bdt : GE := .cat (.s 4) aqm
abbrev bdu : AL := .g (.s 0) (.i acu (.g bdt .nil))
abbrev bdv : GE := .app 91 bdu
abbrev bdw : AL := .g (.s 5) (.g bdv .nil)
abbrev bwn : SE := .app 59 bdw
noncomputable section
def ael (k kj km : Nat) (g : GE) : List HO := [.mk k (.cells 111 false 0 0 [.gv (.sl (K.of kj) 6 (.app 53 (.g g .nil)) []), .map (K.of km)]), .mk kj (.gob (.junk 171)), .mk km (.gob (.gmap g))]
def bxO (k : Nat) (a b : AV) : HO := .mk k (.cells 29 false 0 0 [a, b])
def sy (n : Nat) : AV := .sym .i64 (.v n) []
def rd0 : HO := rdO 256 258 259 257 (.v 1) (.v 2)
end
section
variable {σ : Nat → List Int}
theorem bn9 (h : List Int) (z : Int) : (ua h z).f = 0 ∨ (ua h z).f = 7 := by
 rw [ans]; split
 ·exact .inr rfl
 ·exact .inl rfl
theorem bhv (h s : List Int) : (n8 h s).f = 0 ∨ (n8 h s).f = 4 ∨ (n8 h s).f = 5 ∨ (n8 h s).f = 7 := by
 rw [td]; split
 ·exact .inr (.inr (.inl rfl))
 ·split
  ·exact .inr (.inl rfl)
  ·have := bn9 h (vt s 0); omega
theorem f59 (g s : GE) : (SE.app 59 (.g g (.g s .nil))).eval σ = 0 ∨ (SE.app 59 (.g g (.g s .nil))).eval σ = 4 ∨ (SE.app 59 (.g g (.g s .nil))).eval σ = 5 ∨ (SE.app 59 (.g g (.g s .nil))).eval σ = 7 := bhv _ _
theorem bew (G : List Int) : 0 ≤ aia G := Int.natCast_nonneg _
theorem f53 (g : GE) : 0 ≤ (SE.app 53 (.g g .nil)).eval σ := bew _
theorem a8q (c : Int) : 1 ≤ ((c9 c).length : Int) ∧ ((c9 c).length : Int) ≤ 4 := f40 (σ := fun _ => [c]) (.v 0)
theorem api {R : List Int} (hR : ou R) : ∀ (n : Nat) (p : Int) (b : List Int), ((R.length : Int) - p).toNat ≤ n → p ≤ (R.length : Int) → ((jp R p b).f = 0 ∨ (jp R p b).f = 5) ∧ ((jp R p b).f = 0 → p < (jp R p b).p ∧ (jp R p b).p ≤ (R.length : Int) ∧ ((jp R p b).b.length : Int) ≤ (b.length : Int) + 4 * ((jp R p b).p - p))
 | 0, p, b, h, hp => by rw [cq, if_neg (by omega)]; exact ⟨.inr rfl, fun h => absurd h (show ¬ (5 : Int) = 0 by decide)⟩
 | n + 1, p, b, h, hp => by
   rw [cq]
   split
   ·split
    ·exact ⟨.inl rfl, fun _ => by dsimp only; omega⟩
    ·split
     ·rename_i h1 h2 h3
      obtain ⟨e1, e2⟩ := a8t hR (p + 1) (by omega)
      split
      ·rename_i h4
       obtain ⟨e3, e4, e5, e6⟩ := e2 h4
       split
       ·split
        ·obtain ⟨a, c⟩ := api hR n (jc R (p + 1)).p b (by omega) (by omega)
         exact ⟨a, fun h => by have := c h; omega⟩
        ·obtain ⟨a, c⟩ := api hR n (jc R (p + 1)).p (b ++ c9 (jc R (p + 1)).c) (by omega) (by omega)
         have := a8q (jc R (p + 1)).c
         rw [zP] at c
         exact ⟨a, fun h => by have := c h; omega⟩
       ·exact ⟨.inr rfl, fun h => absurd h (show ¬ (5 : Int) = 0 by decide)⟩
      ·exact ⟨e1, fun h => absurd h (by assumption)⟩
     ·obtain ⟨a, c⟩ := api hR n (p + 1) (b ++ c9 (R.getD p.toNat 0)) (by omega) (by omega)
      have := a8q (R.getD p.toNat 0)
      rw [zP] at c
      exact ⟨a, fun h => by have := c h; omega⟩
   ·exact ⟨.inr rfl, fun h => absurd h (show ¬ (5 : Int) = 0 by decide)⟩
theorem f91 (hR : ou (σ 0)) (a : SE) (g : GE) : a.eval σ ≤ (SE.len (.s 0)).eval σ → ((SE.app 91 (.g (.s 0) (.i a (.g g .nil)))).eval σ = 0 ∨ (SE.app 91 (.g (.s 0) (.i a (.g g .nil)))).eval σ = 5) ∧
  ((SE.app 91 (.g (.s 0) (.i a (.g g .nil)))).eval σ = 0 → a.eval σ < (SE.app 93 (.g (.s 0) (.i a (.g g .nil)))).eval σ ∧ (SE.app 93 (.g (.s 0) (.i a (.g g .nil)))).eval σ ≤ (SE.len (.s 0)).eval σ ∧ (SE.len (.app 91 (.g (.s 0) (.i a (.g g .nil))))).eval σ ≤ (SE.len g).eval σ + 4 * ((SE.app 93 (.g (.s 0) (.i a (.g g .nil)))).eval σ - a.eval σ)) := fun h => api hR _ _ _ (zY _) h
theorem a0s (h : SAll σ (pI ++ bi2)) : (ou (σ 0) ∧ 0 ≤ (σ 1).headD 0 ∧ (σ 1).headD 0 ≤ ((σ 0).length : Int) ∧ (σ 0).length ≤ 4000) ∧ ((σ 4).length : Int) ≤ 4 * (σ 1).headD 0 ∧ 1 ≤ ((σ 4).length : Int) := by
 refine ⟨tw (ai h).1, ?_⟩
 have := (ai h).2
 simp only [sall_cons, sF, evs] at this
 exact ⟨this.1, this.2.1⟩
end
end Go.Ev
