import Derived.Test.YtkfdioikigponaaGreatDoorRaX
import Derived.Test.YtkfdioikigponaaGreatDoorEvGh
set_option maxRecDepth 100000
set_option linter.all false
namespace Go.Ev
theorem aaa : ∀ (f : Nat) (s : List Int) (p : Nat), p ≤ s.length → (ic f s p).length ≤ s.length - p ∧ ∀ x ∈ ic f s p, 0 ≤ x ∧ x < 1114112
 | 0, s, p, _ => ⟨Nat.zero_le _, fun x h => by cases h⟩
 | f + 1, s, p, hp => by
   unfold ic
   split
   ·rename_i h
    have hb := np s p h
    have hb' : 1 ≤ (Utf8.decode (rj s) p).2 ∧ p + (Utf8.decode (rj s) p).2 ≤ s.length ∧ (Utf8.decode (rj s) p).1 ≤ 1114111 := hb
    obtain ⟨i1, i2⟩ := aaa f s (p + (Utf8.decode (rj s) p).2) hb'.2.1
    refine ⟨by simp only [zO]; omega, fun x hx => ?_⟩
    rcases List.mem_cons.1 hx with rfl | hx
    ·omega
    ·exact i2 x hx
   ·exact ⟨Nat.zero_le _, fun x h => by cases h⟩
theorem tz (s : List Int) : (av s 0).length ≤ s.length := by have := (aaa s.length s 0 (Nat.zero_le _)).1; exact this
theorem a61 {s : List Int} (h : s.length ≤ 4000) : rt (av s 0) := ⟨Nat.le_trans (tz s) h, (aaa s.length s 0 (Nat.zero_le _)).2⟩
theorem aj0 {s : List Int} (h : 0 < s.length) : 0 < (av s 0).length := by rw [rr h]; exact Nat.succ_pos _
section
variable {P : List Int → Prop}
end
open Classical in
noncomputable def b5a (s : List Int) (p i : Int) (L : List Int) (n : Int) (h1 G1 h G : List Int) : Int := if buc s p i L n h1 G1 h G then 1 else 0
open Classical in
noncomputable def b5w (s : List Int) (p i f a : Int) (h G : List Int) : Int := if bw6 s p i f a h G then 1 else 0
theorem evx : (∀ (σ : Nat → List Int) (R l h G : GE) (p : SE), (SE.app 110 (.g R (.i p (.g l (.g h (.g G .nil)))))).eval σ = ((va (R.eval σ) (p.eval σ) (l.eval σ) (h.eval σ) (G.eval σ)).l.length : Int) / 2) ∧
  (∀ (σ : Nat → List Int) (s L h1 G1 h G : GE) (p i n : SE), (SE.app 111 (.g s (.i p (.i i (.g L (.i n (.g h1 (.g G1 (.g h (.g G .nil)))))))))).eval σ = b5a (s.eval σ) (p.eval σ) (i.eval σ) (L.eval σ) (n.eval σ) (h1.eval σ) (G1.eval σ) (h.eval σ) (G.eval σ)) ∧
  (∀ (σ : Nat → List Int) (s h G : GE) (p i f a : SE), (SE.app 112 (.g s (.i p (.i i (.i f (.i a (.g h (.g G .nil)))))))).eval σ = b5w (s.eval σ) (p.eval σ) (i.eval σ) (f.eval σ) (a.eval σ) (h.eval σ) (G.eval σ)) ∧
  (∀ (σ : Nat → List Int) (k : IntKind) (a b : SE), (SE.bin 5 k a b).eval σ = a.eval σ % b.eval σ) ∧
  (∀ (σ : Nat → List Int), (GE.app 109 .nil).eval σ = g0L) ∧ (Int.toNat 0 = 0) ∧ (∀ (σ : Nat → List Int) (s : GE), (SE.app 113 (.g s .nil)).eval σ = ptN (s.eval σ)) ∧ (∀ (σ : Nat → List Int) (s : GE), (SE.app 114 (.g s .nil)).eval σ = ptC (s.eval σ)) ∧
  (∀ (σ : Nat → List Int) (l : GE) (i n : SE), (GE.app 110 (.g l (.i i (.i n .nil)))).eval σ = alv (l.eval σ) (i.eval σ) (n.eval σ)) :=
 ⟨fun _ _ _ _ _ _ => rfl, fun _ _ _ _ _ _ _ _ _ _ => rfl, fun _ _ _ _ _ _ _ _ => rfl, fun _ _ _ _ => rfl, fun _ => rfl, rfl, fun _ _ => rfl, fun _ _ => rfl, fun _ _ _ _ => rfl⟩
theorem m0 : avq g0L = 62 := by decide +kernel
end Go.Ev
set_option maxRecDepth 100000
set_option linter.all false
namespace Go.Ev
abbrev boi : SE := .rd (.s 5) (.c 0)
abbrev b5o : SE := .bin 6 .i64 (.c 1) (.bin 5 .i64 (.bin 6 .i64 boi (.c (-1))) (.c 65536))
abbrev bqb : SE := .rd (.s 5) (.c 1)
abbrev b30 : List SA := [.mk false (.app 56 (.g (.s 5) .nil)) (.c 1) true, .mk false bqb (.c 0) true]
abbrev b37 : List SA := [.mk false (.app 56 (.g (.s 5) .nil)) (.c 1) true]
abbrev b46 : List SA := [.mk true (.c 3900) (.len (.s 3)) false, .mk true (.c 0) (.app 53 (.g (.s 4) .nil)) true]
abbrev adh : SE := .app 50 (.g (.s 3) .nil)
abbrev b5t : List SA := [.mk false adh (.c 1) false]
abbrev b27 : List SA := [.mk false adh (.c 1) true, .mk true (.len (.s 3)) (.c 1) true]
abbrev bzb : List SA := [.mk false adh (.c 1) true, .mk true (.len (.s 3)) (.c 1) false]
abbrev agx : AL := .i (.c 0) .nil
abbrev ag5 : GE := .app 6 (.g (.s 3) agx)
abbrev agb : SE := .len ag5
abbrev b1m : List SA := [.mk true (.v 1) (.c 0) false, .mk true agb (.v 1) false]
abbrev af2 : SE := .app 43 (.g ag5 (.i (.v 1) agx))
abbrev b0g : List SA := [.mk false adh (.c 1) true, .mk true af2 agb false]
abbrev bh4 : AL := .g ag5 (.i af2 (.i (.c 0) (.g (.s 5) (.g (.s 4) .nil))))
abbrev ay6 : SE := .app 60 bh4
abbrev b1e : List SA := [.mk false adh (.c 1) true, .mk true af2 agb true, .mk false ay6 (.c 0) true]
abbrev bzy : List SA := [.mk false adh (.c 1) true, .mk true af2 agb true, .mk false ay6 (.c 0) false]
abbrev bew : AL := .g ag5 .nil
noncomputable section
end
section
variable {σ : Nat → List Int}
theorem btf (h : ((σ 3).length : Int) ≤ 3900) : (SE.app 42 bew).eval σ = 1 := of_decide_eq_true (s42.2 (a61 (s := σ 3) (by omega)))
theorem fSK (g : GE) (a : SE) : a.eval σ ≤ (SE.app 43 (.g g (.i a agx))).eval σ ∧ (a.eval σ ≤ (SE.len g).eval σ → (SE.app 43 (.g g (.i a agx))).eval σ ≤ (SE.len g).eval σ) :=
 ⟨aco _ _ _, fun h => xc _ _ _ _ (zY _) h⟩
end
end Go.Ev
