import Derived.Test.YtkfdioikigponaaGreatDoorRaH
import Derived.Test.YtkfdioikigponaaGreatDoorEvGh
set_option maxRecDepth 100000
set_option linter.all false
namespace Go.Ev
abbrev av2 : AL := .g (.s 4) (.g (.s 3) .nil)
abbrev b5g : SE := .app 55 av2
abbrev b5u : List SA := [.mk true (.c 20000) (.len (.s 3)) false]
abbrev bcc : SE := .app 54 av2
abbrev b3d : List SA := [.mk false bcc (.c 0) true]
abbrev b4e : List SA := [.mk false bcc (.c 0) false]
abbrev bnw : SE := .bin 6 .i64 (.v 9) (.c 1)
abbrev anv : AL := .g (.s 5) (.i (.v 7) (.i (.v 8) .nil))
abbrev anr : AL := .i bnw anv
abbrev bzo : SE := .app 75 anr
abbrev b0k : SE := .app 76 anr
abbrev by0 : List SA := [.mk true (.v 9) (.c (-1)) false, .mk true (.v 9) (.v 6) true, .mk true (.c 20000) (.v 6) false]
abbrev a0b : SE := .app 74 anr
abbrev bxt : List SA := [.mk false a0b (.c 0) true]
abbrev b07 : List SA := [.mk false a0b (.c 0) false]
abbrev aqr : AL := .i (.c 2) anv
abbrev bzd : SE := .app 75 aqr
abbrev by2 : SE := .app 76 aqr
abbrev a3b : SE := .app 74 aqr
abbrev b2m : List SA := [.mk false a3b (.c 0) true]
abbrev b1c : List SA := [.mk false a3b (.c 0) false]
abbrev apf : AL := .i (.v 6) anv
abbrev b2z : SE := .app 75 apf
abbrev b02 : SE := .app 76 apf
abbrev b2s : List SA := [.mk true (.v 6) (.c 1) false, .mk true (.c 20000) (.v 6) false]
abbrev a1p : SE := .app 74 apf
abbrev b2h : List SA := [.mk false a1p (.c 0) true]
abbrev b1k : List SA := [.mk false a1p (.c 0) false]
abbrev agy : AL := .g (.s 0) (.i (.v 1) (.g .nil .nil))
abbrev bee : GE := .app 91 agy
abbrev a2a : AL := .g (.s 5) (.g bee .nil)
abbrev bf7 : SE := .rd (.s 5) (.c 1)
abbrev ap9 : SE := .app 91 agy
abbrev a24 : SE := .app 59 a2a
abbrev by9 : List SA := [.mk false ap9 (.c 0) true, .mk false a24 (.c 0) true]
abbrev bzn : SE := .app 92 agy
abbrev byn : List SA := [.mk false ap9 (.c 0) false]
abbrev bxi : List SA := [.mk false ap9 (.c 0) true, .mk false a24 (.c 0) false]
abbrev ahn : AL := .g (.s 4) .nil
abbrev agp : AL := .g (.s 0) (.i (.v 1) ahn)
abbrev bg9 : GE := .app 91 agp
abbrev azj : AL := .g (.s 5) (.g bg9 .nil)
abbrev bhb : List SA := [.mk true (.bin 7 .i64 (.c 4) (.v 1)) (.len (.s 4)) false, .mk true (.len (.s 4)) (.c 1) false]
abbrev apr : SE := .app 91 agp
abbrev az4 : SE := .app 59 azj
abbrev b1y : List SA := [.mk false apr (.c 0) true, .mk false az4 (.c 0) true]
abbrev bzt : SE := .app 92 agp
abbrev b14 : List SA := [.mk false apr (.c 0) false]
abbrev byr : List SA := [.mk false apr (.c 0) true, .mk false az4 (.c 0) false]
abbrev bfc : GE := .app 54 av2
abbrev bij : SE := .app 53 ahn
abbrev b1t : SE := .app 53 (.g bfc .nil)
abbrev bzg : SE := .bin 6 .i64 bij (.c 1)
abbrev b2r : GE := .app 74 anr
abbrev bx3 : SE := .app 57 (.g (.s 5) (.i (.c 0) .nil))
abbrev biy : SE := .bin 1 .i64 (.v 9) (.c 1)
abbrev bex : SE := .bin 6 .i64 biy (.c 1)
abbrev a4l : GE := .app 57 (.g (.s 5) (.i (.c 0) .nil))
abbrev bx9 : AL := .i bex (.g a4l (.i (.c 2) (.i bf7 .nil)))
abbrev b0l : AL := .g a4l (.i (.c 0) .nil)
abbrev beg : SE := .bin 1 .i64 (.v 6) (.c 1)
abbrev bfn : SE := .bin 6 .i64 beg (.c 1)
abbrev b1s : AL := .i bfn anv
abbrev bdf : SE := .bin 0 .i64 (.v 1) (.c 0)
abbrev bfp : SE := .rd (.s 0) bdf
abbrev bz8 : SE := .app 59 (.g (.s 5) (.g (.lit 0 0) .nil))
abbrev acl : SE := .bin 0 .i64 (.v 1) (.c 1)
abbrev bx2 : SE := .app 93 agy
abbrev bz9 : GE := .app 59 a2a
abbrev af0 : AL := .g (.s 0) (.i acl .nil)
abbrev byg : SE := .app 87 af0
abbrev bgx : SE := .app 89 af0
abbrev yy : SE := .app 90 af0
abbrev bh2 : AL := .g (.s 0) (.i yy (.g .nil .nil))
abbrev bgh : GE := .app 91 bh2
abbrev bd8 : AL := .g (.s 5) (.g bgh .nil)
abbrev b1h : SE := .app 59 bd8
abbrev b0x : SE := .bin 6 .i64 (.len (.s 0)) (.bin 7 .i64 (.c (-1)) yy)
abbrev byc : SE := .bin 6 .i64 (.len (.s 0)) (.bin 7 .i64 (.c (-1)) (.v 1))
abbrev bd3 : SE := .bin 0 .i32 bgx (.c 0)
abbrev b1l : SE := .bin 7 .i64 (.c 4) yy
abbrev apw : GE := .app 40 (.i bd3 .nil)
abbrev biv : SE := .len apw
abbrev bhz : AL := .g (.s 0) (.i yy (.g apw .nil))
abbrev bd7 : GE := .app 91 bhz
abbrev bi9 : AL := .g (.s 5) (.g bd7 .nil)
abbrev byi : SE := .app 59 bi9
abbrev bya : SE := .app 88 af0
abbrev ben : SE := .bin 0 .i32 bfp (.c 0)
abbrev b0m : SE := .bin 7 .i64 (.c 4) acl
abbrev aq0 : GE := .app 40 (.i ben .nil)
abbrev bil : SE := .len aq0
abbrev bhn : AL := .g (.s 0) (.i acl (.g aq0 .nil))
abbrev bhy : GE := .app 91 bhn
abbrev bhh : AL := .g (.s 5) (.g bhy .nil)
abbrev b00 : SE := .app 59 bhh
abbrev b09 : SE := .bin 6 .i64 (.len (.s 0)) (.bin 7 .i64 (.c (-1)) acl)
abbrev by4 : SE := .app 59 (.g (.s 5) ahn)
abbrev b0n : SE := .app 93 agp
abbrev bsw : GE := .app 59 azj
abbrev bcd : AL := .g (.s 0) (.i yy ahn)
abbrev bay : GE := .app 91 bcd
abbrev a95 : AL := .g (.s 5) (.g bay .nil)
abbrev bt7 : SE := .app 59 a95
abbrev bue : SE := .bin 6 .i64 (.len (.s 4)) biv
abbrev a8z : GE := .cat (.s 4) apw
abbrev bam : AL := .g (.s 0) (.i yy (.g a8z .nil))
abbrev bc4 : GE := .app 91 bam
abbrev a9a : AL := .g (.s 5) (.g bc4 .nil)
abbrev bu3 : SE := .app 59 a9a
abbrev bva : SE := .bin 6 .i64 (.len (.s 4)) bil
abbrev bc5 : GE := .cat (.s 4) aq0
abbrev bag : AL := .g (.s 0) (.i acl (.g bc5 .nil))
abbrev bcx : GE := .app 91 bag
abbrev bck : AL := .g (.s 5) (.g bcx .nil)
abbrev bv9 : SE := .app 59 bck
noncomputable section
def bf1 (k kj km : Nat) (g : GE) : List HO := [.mk k (.cells 80 false 0 0 [.gv (.sl (K.of kj) 6 (.app 53 (.g g .nil)) []), .map (K.of km)]), .mk kj (.gob (.junk 122)), .mk km (.gob (.gmap g))]
def bxO (k : Nat) (a b : AV) : HO := .mk k (.cells 31 false 0 0 [a, b])
def sy (n : Nat) : AV := .sym .i64 (.v n) []
def rd0 : HO := rdO 256 258 259 257 (.v 1) (.v 2)
end
section
variable {σ : Nat → List Int}
theorem bnx (h : List Int) (z : Int) : (ug h z).f = 0 ∨ (ug h z).f = 7 := by
 rw [ann]; split
 ·exact .inr rfl
 ·exact .inl rfl
theorem bf3 (h s : List Int) : (nc h s).f = 0 ∨ (nc h s).f = 4 ∨ (nc h s).f = 5 ∨ (nc h s).f = 7 := by
 rw [qi]; split
 ·exact .inr (.inr (.inl rfl))
 ·split
  ·exact .inr (.inl rfl)
  ·have := bnx h (zg s 0); omega
theorem f59 (g s : GE) : (SE.app 59 (.g g (.g s .nil))).eval σ = 0 ∨ (SE.app 59 (.g g (.g s .nil))).eval σ = 4 ∨ (SE.app 59 (.g g (.g s .nil))).eval σ = 5 ∨ (SE.app 59 (.g g (.g s .nil))).eval σ = 7 := bf3 _ _
theorem bcw (c : Int) : 1 ≤ ((ee c).length : Int) ∧ ((ee c).length : Int) ≤ 4 := f40 (σ := fun _ => [c]) (.v 0)
theorem aqv {R : List Int} (hR : rt R) : ∀ (n : Nat) (p : Int) (b : List Int), ((R.length : Int) - p).toNat ≤ n → p ≤ (R.length : Int) → ((gi R p b).f = 0 ∨ (gi R p b).f = 5) ∧ ((gi R p b).f = 0 → p < (gi R p b).p ∧ (gi R p b).p ≤ (R.length : Int) ∧ ((gi R p b).b.length : Int) ≤ (b.length : Int) + 4 * ((gi R p b).p - p))
 | 0, p, b, h, hp => by rw [bg, if_neg (by omega)]; exact ⟨.inr rfl, fun h => absurd h (show ¬ (5 : Int) = 0 by decide)⟩
 | n + 1, p, b, h, hp => by
   rw [bg]
   split
   ·split
    ·exact ⟨.inl rfl, fun _ => by dsimp only; omega⟩
    ·split
     ·rename_i h1 h2 h3
      obtain ⟨e1, e2⟩ := bbs hR (p + 1) (by omega)
      split
      ·rename_i h4
       obtain ⟨e3, e4, e5, e6⟩ := e2 h4
       split
       ·split
        ·obtain ⟨a, c⟩ := aqv hR n (jd R (p + 1)).p b (by omega) (by omega)
         exact ⟨a, fun h => by have := c h; omega⟩
        ·obtain ⟨a, c⟩ := aqv hR n (jd R (p + 1)).p (b ++ ee (jd R (p + 1)).c) (by omega) (by omega)
         have := bcw (jd R (p + 1)).c
         rw [zP] at c
         exact ⟨a, fun h => by have := c h; omega⟩
       ·exact ⟨.inr rfl, fun h => absurd h (show ¬ (5 : Int) = 0 by decide)⟩
      ·exact ⟨e1, fun h => absurd h (by assumption)⟩
     ·obtain ⟨a, c⟩ := aqv hR n (p + 1) (b ++ ee (R.getD p.toNat 0)) (by omega) (by omega)
      have := bcw (R.getD p.toNat 0)
      rw [zP] at c
      exact ⟨a, fun h => by have := c h; omega⟩
   ·exact ⟨.inr rfl, fun h => absurd h (show ¬ (5 : Int) = 0 by decide)⟩
theorem f91 (hR : rt (σ 0)) (a : SE) (g : GE) : a.eval σ ≤ (SE.len (.s 0)).eval σ → ((SE.app 91 (.g (.s 0) (.i a (.g g .nil)))).eval σ = 0 ∨ (SE.app 91 (.g (.s 0) (.i a (.g g .nil)))).eval σ = 5) ∧
  ((SE.app 91 (.g (.s 0) (.i a (.g g .nil)))).eval σ = 0 → a.eval σ < (SE.app 93 (.g (.s 0) (.i a (.g g .nil)))).eval σ ∧ (SE.app 93 (.g (.s 0) (.i a (.g g .nil)))).eval σ ≤ (SE.len (.s 0)).eval σ ∧ (SE.len (.app 91 (.g (.s 0) (.i a (.g g .nil))))).eval σ ≤ (SE.len g).eval σ + 4 * ((SE.app 93 (.g (.s 0) (.i a (.g g .nil)))).eval σ - a.eval σ)) := fun h => aqv hR _ _ _ (zY _) h
theorem ahf (h : SAll σ (pI ++ bhb)) : (rt (σ 0) ∧ 0 ≤ (σ 1).headD 0 ∧ (σ 1).headD 0 ≤ ((σ 0).length : Int) ∧ (σ 0).length ≤ 4000) ∧ ((σ 4).length : Int) ≤ 4 * (σ 1).headD 0 ∧ 1 ≤ ((σ 4).length : Int) := by
 refine ⟨s9 (ak h).1, ?_⟩
 have := (ak h).2
 simp only [sall_cons, sF, evs] at this
 exact ⟨this.1, this.2.1⟩
end
end Go.Ev
