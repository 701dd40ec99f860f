import Derived.Test.YtkfdioikigponaaGreatDoorEvGh
import Derived.Lib.DecodeN
set_option maxRecDepth 100000
set_option linter.all false
namespace Go.Ev
section
variable {σ : Nat → List Int}
theorem sall_cons {A : List SA} {x : SA} : SAll σ (x :: A) ↔ x.holds σ ∧ SAll σ A := by
 constructor
 ·exact fun h => ⟨h _ (by simp), fun y hy => h y (zA _ hy)⟩
 ·rintro ⟨h1, h2⟩ y hy
  rcases List.mem_cons.1 hy with rfl | hy
  ·exact h1
  ·exact h2 y hy
theorem ax5 {a b : SE} (h : a.eval σ < b.eval σ) : (SA.mk true a b true).holds σ := decide_eq_true h
theorem akm {a b : SE} (h : ¬ a.eval σ < b.eval σ) : (SA.mk true a b false).holds σ := decide_eq_false h
theorem bjy {a b : SE} (h : ¬ a.eval σ = b.eval σ) : (SA.mk false a b false).holds σ := decide_eq_false h
theorem biy {a b : SE} (h : a.eval σ = b.eval σ) : (SA.mk false a b true).holds σ := decide_eq_true h
end
open Classical in
theorem b2y {p : Prop} : (if p then (1 : Int) else 0) = 1 ↔ p := by
 by_cases h : p
 ·rw [if_pos h]; exact ⟨fun _ => h, fun _ => rfl⟩
 ·rw [if_neg h]; exact ⟨fun e => absurd e (by decide), fun e => absurd e h⟩
theorem bh7 {x : Int} (h : -9223372036854775808 ≤ x ∧ x ≤ 9223372036854775807) : IntKind.i64.wrap x = x := by
 simp only [IntKind.wrap, IntKind.bits, IntKind.signed]; simp; omega
theorem b2v {x : Int} (h : -2147483648 ≤ x ∧ x ≤ 2147483647) : IntKind.i32.wrap x = x := by
 simp only [IntKind.wrap, IntKind.bits, IntKind.signed]; simp; omega
theorem bqq {x : Int} (h : 0 ≤ x ∧ x ≤ 4294967295) : IntKind.u32.wrap x = x := by
 simp only [IntKind.wrap, IntKind.bits, IntKind.signed]; simp; omega
theorem b33 {x : Int} (h : 0 ≤ x ∧ x ≤ 255) : IntKind.u8.wrap x = x := by
 simp only [IntKind.wrap, IntKind.bits, IntKind.signed]; simp; omega
theorem rn (l : List Int) (p : Nat) (h : p < l.length) : 1 ≤ (Utf8.decode (ao l) p).2 ∧ p + (Utf8.decode (ao l) p).2 ≤ l.length ∧ (Utf8.decode (ao l) p).1 ≤ 1114111 := by
 have hs : (ao l).size = l.length := du (l := l)
 rw [Lib.decode_at, hs]
 generalize ((ao l).get! p).toNat = b0
 generalize ((ao l).get! (p + 1)).toNat = b1
 generalize ((ao l).get! (p + 2)).toNat = b2
 generalize ((ao l).get! (p + 3)).toNat = b3
 unfold Lib.decodeN
 repeat' split
 all_goals simp only
 all_goals omega
theorem aj7 : ∀ (f g : Nat) (s : List Int) (p : Nat), s.length ≤ p + f → s.length ≤ p + g → kc f s p = kc g s p
 | 0, 0, _, _, _, _ => rfl
 | 0, g + 1, s, p, h, _ => by unfold kc; rw [if_neg (by omega)]
 | f + 1, 0, s, p, _, h => by unfold kc; rw [if_neg (by omega)]
 | f + 1, g + 1, s, p, h1, h2 => by
   unfold kc
   split
   ·rename_i hp
    have := (rn s p hp).1
    have e : ao s = va s := rfl
    rw [e] at this
    rw [aj7 f g s _ (by omega) (by omega)]
   ·rfl
theorem wj {s : List Int} {p : Nat} (h : p < s.length) : ai s p = ((Utf8.decode (ao s) p).1 : Int) :: ai s (p + (Utf8.decode (ao s) p).2) := by
 obtain ⟨f, hf⟩ : ∃ f, s.length = f + 1 := ⟨s.length - 1, by omega⟩
 have hd := (rn s p h).1
 show kc s.length s p = _ :: kc s.length s _
 rw [hf]
 show (if p < s.length then _ else _) = _
 rw [if_pos h]
 congr 1
 exact aj7 _ _ _ _ (by show s.length ≤ p + (Utf8.decode (ao s) p).2 + f; omega) (by show s.length ≤ p + (Utf8.decode (ao s) p).2 + (f + 1); omega)
theorem a5q {s : List Int} {p : Nat} (h : s.length ≤ p) : ai s p = [] := by
 show kc s.length s p = []
 cases hf : s.length with
 | zero => rfl
 | succ f => show (if p < s.length then _ else _) = _; rw [if_neg (by omega)]
end Go.Ev
set_option maxRecDepth 100000
set_option linter.all false
namespace Go.Ev
theorem sl {σ : Nat → List Int} (a b : SE) : (SA.mk true a b true).holds σ ∧ a.eval σ < b.eval σ ∨ (SA.mk true a b false).holds σ ∧ b.eval σ ≤ a.eval σ := by
 by_cases h : a.eval σ < b.eval σ
 ·exact .inl ⟨ax5 h, h⟩
 ·exact .inr ⟨akm h, by omega⟩
theorem se {σ : Nat → List Int} (a b : SE) : (SA.mk false a b true).holds σ ∧ a.eval σ = b.eval σ ∨ (SA.mk false a b false).holds σ ∧ ¬ a.eval σ = b.eval σ := by
 by_cases h : a.eval σ = b.eval σ
 ·exact .inl ⟨biy h, h⟩
 ·exact .inr ⟨bjy h, h⟩
theorem sc {σ : Nat → List Int} {A : List SA} {x : SA} (h : x.holds σ) (h' : SAll σ A) : SAll σ (x :: A) := sall_cons.2 ⟨h, h'⟩
theorem sT {σ : Nat → List Int} {a b : SE} : (SA.mk true a b true).holds σ ↔ a.eval σ < b.eval σ := decide_eq_true_iff
theorem sF {σ : Nat → List Int} {a b : SE} : (SA.mk true a b false).holds σ ↔ b.eval σ ≤ a.eval σ := ⟨fun h => by have := of_decide_eq_false h; omega, fun h => akm (by omega)⟩
theorem sE {σ : Nat → List Int} {a b : SE} : (SA.mk false a b true).holds σ ↔ a.eval σ = b.eval σ := decide_eq_true_iff
theorem sN {σ : Nat → List Int} {a b : SE} : (SA.mk false a b false).holds σ ↔ ¬ a.eval σ = b.eval σ := decide_eq_false_iff_not
theorem a09 : ∀ (n : Nat) (l : List Int), agk n l = asu n l
 | 0, _ => rfl
 | _ + 1, [] => rfl
 | _ + 1, [_] => rfl
 | n + 1, a :: b :: l => by show _ :: agk n _ = _ :: asu n _; rw [a09 n]
theorem a3d (l : List Int) : atp l = acj l := by unfold atp acj; rw [a09]
theorem evs : (∀ (σ : Nat → List Int) (i : Nat), (SE.v i).eval σ = (σ i).headD 0) ∧
  (∀ (σ : Nat → List Int) (n : Int), (SE.c n).eval σ = n) ∧
  (∀ (σ : Nat → List Int) (g : GE), (SE.len g).eval σ = ((g.eval σ).length : Int)) ∧
  (∀ (σ : Nat → List Int) (g : GE) (e : SE), (SE.rd g e).eval σ = (g.eval σ).getD (e.eval σ).toNat 0) ∧
  (∀ (σ : Nat → List Int) (g : GE) (e : SE), (SE.dr g e).eval σ = drJ (g.eval σ) (e.eval σ)) ∧
  (∀ (σ : Nat → List Int) (g : GE) (e : SE), (SE.dw g e).eval σ = dwJ (g.eval σ) (e.eval σ)) ∧
  (∀ (σ : Nat → List Int) (g h : GE), (SE.eqg g h).eval σ = if g.eval σ = h.eval σ then 1 else 0) ∧
  (∀ (σ : Nat → List Int) (g h : GE), (SE.mhas g h).eval σ = a6a (g.eval σ) (h.eval σ)) ∧
  (∀ (σ : Nat → List Int) (g h : GE), (SE.mget g h).eval σ = brj (g.eval σ) (h.eval σ)) ∧
  (∀ (σ : Nat → List Int) (k : IntKind) (a b : SE), (SE.bin 0 k a b).eval σ = k.wrap (a.eval σ + b.eval σ)) ∧
  (∀ (σ : Nat → List Int) (k : IntKind) (a b : SE), (SE.bin 1 k a b).eval σ = k.wrap (a.eval σ - b.eval σ)) ∧
  (∀ (σ : Nat → List Int) (k : IntKind) (a b : SE), (SE.bin 2 k a b).eval σ = k.wrap (a.eval σ * b.eval σ)) ∧
  (∀ (σ : Nat → List Int) (k : IntKind) (a b : SE), (SE.bin 4 k a b).eval σ = (a.eval σ).tmod (b.eval σ)) ∧
  (∀ (σ : Nat → List Int) (k : IntKind) (a b : SE), (SE.bin 6 k a b).eval σ = a.eval σ + b.eval σ) ∧
  (∀ (σ : Nat → List Int) (k : IntKind) (a b : SE), (SE.bin 7 k a b).eval σ = a.eval σ * b.eval σ) ∧
  (∀ (σ : Nat → List Int) (k : IntKind) (a b : SE), (SE.bin 8 k a b).eval σ = im 8 k (a.eval σ) (b.eval σ)) ∧
  (∀ (σ : Nat → List Int) (k : IntKind) (a b : SE), (SE.bin 9 k a b).eval σ = im 9 k (a.eval σ) (b.eval σ)) ∧
  (∀ (σ : Nat → List Int) (k : IntKind) (a b : SE), (SE.bin 11 k a b).eval σ = im 11 k (a.eval σ) (b.eval σ)) ∧
  (∀ (σ : Nat → List Int) (k : IntKind) (a b : SE), (SE.bin 12 k a b).eval σ = im 12 k (a.eval σ) (b.eval σ)) ∧
  (∀ (σ : Nat → List Int) (k : IntKind) (a b : SE), (SE.bin 13 k a b).eval σ = im 13 k (a.eval σ) (b.eval σ)) ∧
  (∀ (σ : Nat → List Int) (i : Nat), (GE.s i).eval σ = σ i) ∧
  (∀ (σ : Nat → List Int), GE.nil.eval σ = []) ∧
  (∀ (σ : Nat → List Int), (GE.lit 0 0).eval σ = []) ∧
  (∀ (σ : Nat → List Int) (e : SE), (GE.one e).eval σ = [e.eval σ]) ∧
  (∀ (σ : Nat → List Int) (g h : GE), (GE.cat g h).eval σ = g.eval σ ++ h.eval σ) ∧
  (∀ (σ : Nat → List Int) (g : GE) (a b : SE), (GE.cut g a b).eval σ = ((g.eval σ).take (b.eval σ).toNat).drop (a.eval σ).toNat) ∧
  (∀ (σ : Nat → List Int) (c : SE), (SE.app 40 (.i c .nil)).eval σ = ali (c.eval σ)) ∧
  (∀ (σ : Nat → List Int) (c : SE), (SE.app 41 (.i c .nil)).eval σ = v6 (c.eval σ)) ∧
  (∀ (σ : Nat → List Int) (R : GE) (p b : SE), (SE.app 43 (.g R (.i p (.i b .nil)))).eval σ = af (R.eval σ) (p.eval σ) (b.eval σ)) ∧
  (∀ (σ : Nat → List Int) (R b : GE) (p q : SE), (SE.app 44 (.g R (.i p (.g b (.i q .nil))))).eval σ = (lg (R.eval σ) (p.eval σ) (b.eval σ) (q.eval σ)).f) ∧
  (∀ (σ : Nat → List Int) (R b : GE) (p q : SE), (SE.app 45 (.g R (.i p (.g b (.i q .nil))))).eval σ = (lg (R.eval σ) (p.eval σ) (b.eval σ) (q.eval σ)).p) ∧
  (∀ (σ : Nat → List Int) (R b : GE) (p q : SE), (SE.app 46 (.g R (.i p (.g b (.i q .nil))))).eval σ = (lg (R.eval σ) (p.eval σ) (b.eval σ) (q.eval σ)).q) ∧
  (∀ (σ : Nat → List Int) (s : GE), (SE.app 47 (.g s .nil)).eval σ = acp (s.eval σ)) ∧
  (∀ (σ : Nat → List Int) (s : GE), (SE.app 48 (.g s .nil)).eval σ = a6d (s.eval σ)) ∧
  (∀ (σ : Nat → List Int) (s : GE) (p : SE), (SE.app 49 (.g s (.i p .nil))).eval σ = td (s.eval σ) (p.eval σ)) ∧
  (∀ (σ : Nat → List Int) (s : GE), (SE.app 50 (.g s .nil)).eval σ = b9 (s.eval σ)) ∧
  (∀ (σ : Nat → List Int) (d : GE) (p s m t : SE), (SE.app 51 (.g d (.i p (.i s (.i m (.i t .nil)))))).eval σ = (acf (d.eval σ) (p.eval σ) (s.eval σ) (m.eval σ) (t.eval σ)).k) ∧
  (∀ (σ : Nat → List Int) (d : GE) (p s m t : SE), (SE.app 52 (.g d (.i p (.i s (.i m (.i t .nil)))))).eval σ = (acf (d.eval σ) (p.eval σ) (s.eval σ) (m.eval σ) (t.eval σ)).n) ∧
  (∀ (σ : Nat → List Int) (G : GE), (SE.app 53 (.g G .nil)).eval σ = afn (G.eval σ)) ∧
  (∀ (σ : Nat → List Int) (G s : GE), (SE.app 54 (.g G (.g s .nil))).eval σ = (gb (G.eval σ) (s.eval σ)).f) ∧
  (∀ (σ : Nat → List Int) (G s : GE), (SE.app 55 (.g G (.g s .nil))).eval σ = (gb (G.eval σ) (s.eval σ)).n) ∧
  (∀ (σ : Nat → List Int) (h : GE) (z : SE), (SE.app 57 (.g h (.i z .nil))).eval σ = (pa (h.eval σ) (z.eval σ)).f) ∧
  (∀ (σ : Nat → List Int) (h : GE) (z : SE), (SE.app 58 (.g h (.i z .nil))).eval σ = (afg (h.eval σ) (z.eval σ)).f) ∧
  (∀ (σ : Nat → List Int) (h s : GE), (SE.app 59 (.g h (.g s .nil))).eval σ = (qr (h.eval σ) (s.eval σ)).f) ∧
  (∀ (σ : Nat → List Int) (R h G : GE) (p o : SE), (SE.app 60 (.g R (.i p (.i o (.g h (.g G .nil)))))).eval σ = (al (R.eval σ) (p.eval σ) (o.eval σ) (h.eval σ) (G.eval σ)).f) ∧
  (∀ (σ : Nat → List Int) (R h G : GE) (p o : SE), (SE.app 61 (.g R (.i p (.i o (.g h (.g G .nil)))))).eval σ = (al (R.eval σ) (p.eval σ) (o.eval σ) (h.eval σ) (G.eval σ)).a) ∧
  (∀ (σ : Nat → List Int) (R h G : GE) (p o : SE), (SE.app 62 (.g R (.i p (.i o (.g h (.g G .nil)))))).eval σ = (al (R.eval σ) (p.eval σ) (o.eval σ) (h.eval σ) (G.eval σ)).k) ∧
  (∀ (σ : Nat → List Int) (R h G : GE) (p o : SE), (SE.app 63 (.g R (.i p (.i o (.g h (.g G .nil)))))).eval σ = (al (R.eval σ) (p.eval σ) (o.eval σ) (h.eval σ) (G.eval σ)).n) ∧
  (∀ (σ : Nat → List Int) (R h G : GE) (p o : SE), (SE.app 64 (.g R (.i p (.i o (.g h (.g G .nil)))))).eval σ = (al (R.eval σ) (p.eval σ) (o.eval σ) (h.eval σ) (G.eval σ)).p) ∧
  (∀ (σ : Nat → List Int) (R h G : GE) (p o a c k n : SE), (SE.app 65 (.g R (.i p (.i o (.i a (.i c (.i k (.i n (.g h (.g G .nil)))))))))).eval σ = (iu (R.eval σ) (p.eval σ) (o.eval σ) (a.eval σ) (c.eval σ) (k.eval σ) (n.eval σ) (h.eval σ) (G.eval σ)).f) ∧
  (∀ (σ : Nat → List Int) (R h G : GE) (p o a c k n : SE), (SE.app 66 (.g R (.i p (.i o (.i a (.i c (.i k (.i n (.g h (.g G .nil)))))))))).eval σ = (iu (R.eval σ) (p.eval σ) (o.eval σ) (a.eval σ) (c.eval σ) (k.eval σ) (n.eval σ) (h.eval σ) (G.eval σ)).a) ∧
  (∀ (σ : Nat → List Int) (R h G : GE) (p o a c k n : SE), (SE.app 67 (.g R (.i p (.i o (.i a (.i c (.i k (.i n (.g h (.g G .nil)))))))))).eval σ = (iu (R.eval σ) (p.eval σ) (o.eval σ) (a.eval σ) (c.eval σ) (k.eval σ) (n.eval σ) (h.eval σ) (G.eval σ)).k) ∧
  (∀ (σ : Nat → List Int) (R h G : GE) (p o a c k n : SE), (SE.app 68 (.g R (.i p (.i o (.i a (.i c (.i k (.i n (.g h (.g G .nil)))))))))).eval σ = (iu (R.eval σ) (p.eval σ) (o.eval σ) (a.eval σ) (c.eval σ) (k.eval σ) (n.eval σ) (h.eval σ) (G.eval σ)).n) ∧
  (∀ (σ : Nat → List Int) (R h G : GE) (p o a c k n : SE), (SE.app 69 (.g R (.i p (.i o (.i a (.i c (.i k (.i n (.g h (.g G .nil)))))))))).eval σ = (iu (R.eval σ) (p.eval σ) (o.eval σ) (a.eval σ) (c.eval σ) (k.eval σ) (n.eval σ) (h.eval σ) (G.eval σ)).p) ∧
  (∀ (σ : Nat → List Int) (R h G : GE) (p o a c : SE), (SE.app 70 (.g R (.i p (.i o (.i a (.i c (.g h (.g G .nil)))))))).eval σ = (qd (R.eval σ) (p.eval σ) (o.eval σ) (a.eval σ) (c.eval σ) (h.eval σ) (G.eval σ)).f) ∧
  (∀ (σ : Nat → List Int) (R h G : GE) (p o a c : SE), (SE.app 71 (.g R (.i p (.i o (.i a (.i c (.g h (.g G .nil)))))))).eval σ = (qd (R.eval σ) (p.eval σ) (o.eval σ) (a.eval σ) (c.eval σ) (h.eval σ) (G.eval σ)).a) ∧
  (∀ (σ : Nat → List Int) (R h G : GE) (p o a c : SE), (SE.app 72 (.g R (.i p (.i o (.i a (.i c (.g h (.g G .nil)))))))).eval σ = (qd (R.eval σ) (p.eval σ) (o.eval σ) (a.eval σ) (c.eval σ) (h.eval σ) (G.eval σ)).n) ∧
  (∀ (σ : Nat → List Int) (R h G : GE) (p o a c : SE), (SE.app 73 (.g R (.i p (.i o (.i a (.i c (.g h (.g G .nil)))))))).eval σ = (qd (R.eval σ) (p.eval σ) (o.eval σ) (a.eval σ) (c.eval σ) (h.eval σ) (G.eval σ)).p) ∧
  (∀ (σ : Nat → List Int) (h : GE) (i k n : SE), (SE.app 74 (.i i (.g h (.i k (.i n .nil))))).eval σ = (l9 (i.eval σ) (h.eval σ) (k.eval σ) (n.eval σ)).f) ∧
  (∀ (σ : Nat → List Int) (h : GE) (i k n : SE), (SE.app 75 (.i i (.g h (.i k (.i n .nil))))).eval σ = (l9 (i.eval σ) (h.eval σ) (k.eval σ) (n.eval σ)).k) ∧
  (∀ (σ : Nat → List Int) (h : GE) (i k n : SE), (SE.app 76 (.i i (.g h (.i k (.i n .nil))))).eval σ = (l9 (i.eval σ) (h.eval σ) (k.eval σ) (n.eval σ)).n) ∧
  (∀ (σ : Nat → List Int) (c : SE), (SE.app 77 (.i c .nil)).eval σ = aa2 (c.eval σ)) ∧
  (∀ (σ : Nat → List Int) (c : SE), (SE.app 78 (.i c .nil)).eval σ = alg (c.eval σ)) ∧
  (∀ (σ : Nat → List Int) (c : SE), (SE.app 79 (.i c .nil)).eval σ = vf (c.eval σ)) ∧
  (∀ (σ : Nat → List Int) (R : GE) (p c n : SE), (SE.app 80 (.g R (.i p (.i c (.i n .nil))))).eval σ = (mp (R.eval σ) (p.eval σ) (c.eval σ) (n.eval σ)).p) ∧
  (∀ (σ : Nat → List Int) (R : GE) (p c n : SE), (SE.app 81 (.g R (.i p (.i c (.i n .nil))))).eval σ = (mp (R.eval σ) (p.eval σ) (c.eval σ) (n.eval σ)).c) ∧
  (∀ (σ : Nat → List Int) (R : GE) (p c n : SE), (SE.app 82 (.g R (.i p (.i c (.i n .nil))))).eval σ = (mp (R.eval σ) (p.eval σ) (c.eval σ) (n.eval σ)).a) ∧
  (∀ (σ : Nat → List Int) (R : GE) (p a : SE), (SE.app 83 (.g R (.i p (.i a .nil)))).eval σ = (vb (R.eval σ) (p.eval σ) (a.eval σ)).f) ∧
  (∀ (σ : Nat → List Int) (R : GE) (p a : SE), (SE.app 84 (.g R (.i p (.i a .nil)))).eval σ = (vb (R.eval σ) (p.eval σ) (a.eval σ)).a) ∧
  (∀ (σ : Nat → List Int) (R : GE) (p a : SE), (SE.app 85 (.g R (.i p (.i a .nil)))).eval σ = (vb (R.eval σ) (p.eval σ) (a.eval σ)).c) ∧
  (∀ (σ : Nat → List Int) (R : GE) (p a : SE), (SE.app 86 (.g R (.i p (.i a .nil)))).eval σ = (vb (R.eval σ) (p.eval σ) (a.eval σ)).p) ∧
  (∀ (σ : Nat → List Int) (R : GE) (p : SE), (SE.app 87 (.g R (.i p .nil))).eval σ = (gr (R.eval σ) (p.eval σ)).f) ∧
  (∀ (σ : Nat → List Int) (R : GE) (p : SE), (SE.app 88 (.g R (.i p .nil))).eval σ = (gr (R.eval σ) (p.eval σ)).a) ∧
  (∀ (σ : Nat → List Int) (R : GE) (p : SE), (SE.app 89 (.g R (.i p .nil))).eval σ = (gr (R.eval σ) (p.eval σ)).c) ∧
  (∀ (σ : Nat → List Int) (R : GE) (p : SE), (SE.app 90 (.g R (.i p .nil))).eval σ = (gr (R.eval σ) (p.eval σ)).p) ∧
  (∀ (σ : Nat → List Int) (R b : GE) (p : SE), (SE.app 91 (.g R (.i p (.g b .nil)))).eval σ = (np (R.eval σ) (p.eval σ) (b.eval σ)).f) ∧
  (∀ (σ : Nat → List Int) (R b : GE) (p : SE), (SE.app 92 (.g R (.i p (.g b .nil)))).eval σ = (np (R.eval σ) (p.eval σ) (b.eval σ)).a) ∧
  (∀ (σ : Nat → List Int) (R b : GE) (p : SE), (SE.app 93 (.g R (.i p (.g b .nil)))).eval σ = (np (R.eval σ) (p.eval σ) (b.eval σ)).p) ∧
  (∀ (σ : Nat → List Int) (R : GE) (p : SE), (SE.app 94 (.g R (.i p .nil))).eval σ = xo (R.eval σ) (p.eval σ)) ∧
  (∀ (σ : Nat → List Int) (R : GE) (p b : SE), (SE.app 95 (.g R (.i p (.i b .nil)))).eval σ = (j4 (R.eval σ) (p.eval σ) (b.eval σ)).p) ∧
  (∀ (σ : Nat → List Int) (R : GE) (p b : SE), (SE.app 96 (.g R (.i p (.i b .nil)))).eval σ = (j4 (R.eval σ) (p.eval σ) (b.eval σ)).b) ∧
  (∀ (σ : Nat → List Int) (R : GE) (p : SE), (SE.app 97 (.g R (.i p .nil))).eval σ = (jl (R.eval σ) (p.eval σ)).f) ∧
  (∀ (σ : Nat → List Int) (R : GE) (p : SE), (SE.app 98 (.g R (.i p .nil))).eval σ = (jl (R.eval σ) (p.eval σ)).a) ∧
  (∀ (σ : Nat → List Int) (R : GE) (p : SE), (SE.app 100 (.g R (.i p .nil))).eval σ = (jl (R.eval σ) (p.eval σ)).c) ∧
  (∀ (σ : Nat → List Int) (R : GE) (p : SE), (SE.app 101 (.g R (.i p .nil))).eval σ = (jl (R.eval σ) (p.eval σ)).p) ∧
  (∀ (σ : Nat → List Int) (R : GE) (p : SE), (SE.app 102 (.g R (.i p .nil))).eval σ = (oe (R.eval σ) (p.eval σ)).f) ∧
  (∀ (σ : Nat → List Int) (R : GE) (p : SE), (SE.app 103 (.g R (.i p .nil))).eval σ = (oe (R.eval σ) (p.eval σ)).a) ∧
  (∀ (σ : Nat → List Int) (R : GE) (p : SE), (SE.app 104 (.g R (.i p .nil))).eval σ = (oe (R.eval σ) (p.eval σ)).c) ∧
  (∀ (σ : Nat → List Int) (R : GE) (p : SE), (SE.app 105 (.g R (.i p .nil))).eval σ = (oe (R.eval σ) (p.eval σ)).p) ∧
  (∀ (σ : Nat → List Int) (R l h G : GE) (p : SE), (SE.app 106 (.g R (.i p (.g l (.g h (.g G .nil)))))).eval σ = (zu (R.eval σ) (p.eval σ) (l.eval σ) (h.eval σ) (G.eval σ)).f) ∧
  (∀ (σ : Nat → List Int) (R l h G : GE) (p : SE), (SE.app 107 (.g R (.i p (.g l (.g h (.g G .nil)))))).eval σ = (zu (R.eval σ) (p.eval σ) (l.eval σ) (h.eval σ) (G.eval σ)).a) ∧
  (∀ (σ : Nat → List Int) (R : GE) (p : SE), (SE.app 108 (.g R (.i p .nil))).eval σ = yl (R.eval σ) (p.eval σ)) ∧
  (∀ (σ : Nat → List Int) (s : GE) (p : SE), (GE.app 6 (.g s (.i p .nil))).eval σ = ai (s.eval σ) (p.eval σ).toNat) ∧
  (∀ (σ : Nat → List Int) (c : SE), (GE.app 40 (.i c .nil)).eval σ = ll (c.eval σ)) ∧
  (∀ (σ : Nat → List Int) (R b : GE) (p q : SE), (GE.app 44 (.g R (.i p (.g b (.i q .nil))))).eval σ = (lg (R.eval σ) (p.eval σ) (b.eval σ) (q.eval σ)).b) ∧
  (∀ (σ : Nat → List Int) (s : GE), (GE.app 47 (.g s .nil)).eval σ = oo (s.eval σ)) ∧
  (∀ (σ : Nat → List Int) (G s : GE), (GE.app 54 (.g G (.g s .nil))).eval σ = (gb (G.eval σ) (s.eval σ)).G) ∧
  (∀ (σ : Nat → List Int) (h : GE) (z : SE), (GE.app 57 (.g h (.i z .nil))).eval σ = (pa (h.eval σ) (z.eval σ)).h) ∧
  (∀ (σ : Nat → List Int) (h : GE) (z : SE), (GE.app 58 (.g h (.i z .nil))).eval σ = (afg (h.eval σ) (z.eval σ)).h) ∧
  (∀ (σ : Nat → List Int) (h s : GE), (GE.app 59 (.g h (.g s .nil))).eval σ = (qr (h.eval σ) (s.eval σ)).h) ∧
  (∀ (σ : Nat → List Int) (R h G : GE) (p o : SE), (GE.app 60 (.g R (.i p (.i o (.g h (.g G .nil)))))).eval σ = (al (R.eval σ) (p.eval σ) (o.eval σ) (h.eval σ) (G.eval σ)).h) ∧
  (∀ (σ : Nat → List Int) (R h G : GE) (p o : SE), (GE.app 61 (.g R (.i p (.i o (.g h (.g G .nil)))))).eval σ = (al (R.eval σ) (p.eval σ) (o.eval σ) (h.eval σ) (G.eval σ)).G) ∧
  (∀ (σ : Nat → List Int) (R h G : GE) (p o a c k n : SE), (GE.app 65 (.g R (.i p (.i o (.i a (.i c (.i k (.i n (.g h (.g G .nil)))))))))).eval σ = (iu (R.eval σ) (p.eval σ) (o.eval σ) (a.eval σ) (c.eval σ) (k.eval σ) (n.eval σ) (h.eval σ) (G.eval σ)).h) ∧
  (∀ (σ : Nat → List Int) (R h G : GE) (p o a c k n : SE), (GE.app 66 (.g R (.i p (.i o (.i a (.i c (.i k (.i n (.g h (.g G .nil)))))))))).eval σ = (iu (R.eval σ) (p.eval σ) (o.eval σ) (a.eval σ) (c.eval σ) (k.eval σ) (n.eval σ) (h.eval σ) (G.eval σ)).G) ∧
  (∀ (σ : Nat → List Int) (R h G : GE) (p o a c : SE), (GE.app 70 (.g R (.i p (.i o (.i a (.i c (.g h (.g G .nil)))))))).eval σ = (qd (R.eval σ) (p.eval σ) (o.eval σ) (a.eval σ) (c.eval σ) (h.eval σ) (G.eval σ)).h) ∧
  (∀ (σ : Nat → List Int) (R h G : GE) (p o a c : SE), (GE.app 71 (.g R (.i p (.i o (.i a (.i c (.g h (.g G .nil)))))))).eval σ = (qd (R.eval σ) (p.eval σ) (o.eval σ) (a.eval σ) (c.eval σ) (h.eval σ) (G.eval σ)).G) ∧
  (∀ (σ : Nat → List Int) (h : GE) (i k n : SE), (GE.app 74 (.i i (.g h (.i k (.i n .nil))))).eval σ = (l9 (i.eval σ) (h.eval σ) (k.eval σ) (n.eval σ)).h) ∧
  (∀ (σ : Nat → List Int) (R b : GE) (p : SE), (GE.app 91 (.g R (.i p (.g b .nil)))).eval σ = (np (R.eval σ) (p.eval σ) (b.eval σ)).b) ∧
  (∀ (σ : Nat → List Int) (R l h G : GE) (p : SE), (GE.app 106 (.g R (.i p (.g l (.g h (.g G .nil)))))).eval σ = (zu (R.eval σ) (p.eval σ) (l.eval σ) (h.eval σ) (G.eval σ)).l) ∧
  (∀ (σ : Nat → List Int) (R l h G : GE) (p : SE), (GE.app 107 (.g R (.i p (.g l (.g h (.g G .nil)))))).eval σ = (zu (R.eval σ) (p.eval σ) (l.eval σ) (h.eval σ) (G.eval σ)).h) ∧
  (∀ (σ : Nat → List Int) (R l h G : GE) (p : SE), (GE.app 108 (.g R (.i p (.g l (.g h (.g G .nil)))))).eval σ = (zu (R.eval σ) (p.eval σ) (l.eval σ) (h.eval σ) (G.eval σ)).G) :=
 ⟨by intros; rfl, by intros; rfl, by intros; rfl, by intros; rfl, by intros; rfl, by intros; rfl, by intros; rfl, by intros; simp only [SE.eval, a6a, a3d], by intros; simp only [SE.eval, brj, a3d], by intros; rfl, by intros; rfl, by intros; rfl, by intros; rfl, by intros; rfl, by intros; rfl, by intros; rfl, by intros; rfl, by intros; rfl, by intros; rfl, by intros; rfl, by intros; rfl, by intros; rfl, by intros; rfl, by intros; rfl, by intros; rfl, by intros; rfl, by intros; rfl, by intros; rfl, by intros; rfl, by intros; rfl, by intros; rfl, by intros; rfl, by intros; rfl, by intros; rfl, by intros; rfl, by intros; rfl, by intros; rfl, by intros; rfl, by intros; rfl, by intros; rfl, by intros; rfl, by intros; rfl, by intros; rfl, by intros; rfl, by intros; rfl, by intros; rfl, by intros; rfl, by intros; rfl, by intros; rfl, by intros; rfl, by intros; rfl, by intros; rfl, by intros; rfl, by intros; rfl, by intros; rfl, by intros; rfl, by intros; rfl, by intros; rfl, by intros; rfl, by intros; rfl, by intros; rfl, by intros; rfl, by intros; rfl, by intros; rfl, by intros; rfl, by intros; rfl, by intros; rfl, by intros; rfl, by intros; rfl, by intros; rfl, by intros; rfl, by intros; rfl, by intros; rfl, by intros; rfl, by intros; rfl, by intros; rfl, by intros; rfl, by intros; rfl, by intros; rfl, by intros; rfl, by intros; rfl, by intros; rfl, by intros; rfl, by intros; rfl, by intros; rfl, by intros; rfl, by intros; rfl, by intros; rfl, by intros; rfl, by intros; rfl, by intros; rfl, by intros; rfl, by intros; rfl, by intros; rfl, by intros; rfl, by intros; rfl, by intros; rfl, by intros; rfl, by intros; rfl, by intros; rfl, by intros; rfl, by intros; rfl, by intros; rfl, by intros; rfl, by intros; rfl, by intros; rfl, by intros; rfl, by intros; rfl, by intros; rfl, by intros; rfl, by intros; rfl⟩
theorem wr : (∀ x : Int, -9223372036854775808 ≤ x ∧ x ≤ 9223372036854775807 → IntKind.i64.wrap x = x) ∧ (∀ x : Int, -2147483648 ≤ x ∧ x ≤ 2147483647 → IntKind.i32.wrap x = x) ∧
  (∀ x : Int, 0 ≤ x ∧ x ≤ 4294967295 → IntKind.u32.wrap x = x) ∧ (∀ x : Int, 0 ≤ x ∧ x ≤ 255 → IntKind.u8.wrap x = x) ∧ (∀ x : Int, IntKind.u64.wrap x = x % 18446744073709551616) ∧ (∀ x : Int, 0 ≤ x ∧ x ≤ 18446744073709551615 → x % 18446744073709551616 = x) ∧
  (∀ x : Int, x + 0 = x) ∧ (∀ x : Int, 0 + x = x) ∧ (∀ x : Int, -1 * x = -x) ∧ (∀ x y : Int, x + -y = x - y) ∧ (∀ x : Int, ([x] : List Int).headD 0 = x) ∧ (∀ (α : Type) (a b : α), (if True then a else b) = a) ∧ (∀ (α : Type) (a b : α), (if False then a else b) = b) ∧ (¬True ↔ False) ∧ (¬False ↔ True) ∧ (∀ p : Prop, (False ∧ p ↔ False)) ∧ (∀ p : Prop, (True ∧ p ↔ p)) ∧ (∀ p : Prop, (p ∧ False ↔ False)) ∧ (∀ p : Prop, (p ∧ True ↔ p)) ∧ (∀ p : Prop, (p ∨ True ↔ True)) ∧ (∀ p : Prop, (p ∨ False ↔ p)) ∧ (∀ p : Prop, (True ∨ p ↔ True)) ∧ (∀ p : Prop, (False ∨ p ↔ p)) ∧ (∀ p : Prop, ((True → p) ↔ p)) ∧ (∀ p : Prop, ((False → p) ↔ True)) ∧ (∀ x : Int, x + 1 + 1 = x + 2) ∧ (∀ x : Int, x + 1 + 2 = x + 3) ∧ (∀ x : Int, x + 2 + 1 = x + 3) ∧ (∀ l m : List Int, (((l ++ m).length : Nat) : Int) = (l.length : Int) + (m.length : Int)) ∧ (∀ (p : Prop) [Decidable p], ((if p then (1 : Int) else 0) = 1 ↔ p)) ∧ ((0 : Int).toNat = 0) ∧ ((1 : Int).toNat = 1) ∧ ((2 : Int).toNat = 2) :=
 ⟨fun _ h => bh7 h, fun _ h => b2v h, fun _ h => bqq h, fun _ h => b33 h, fun x => by simp only [IntKind.wrap, IntKind.bits, IntKind.signed]; simp, fun x h => Int.emod_eq_of_lt h.1 (by omega), Int.add_zero, Int.zero_add, fun x => (Int.neg_eq_neg_one_mul x).symm, fun _ _ => Int.sub_eq_add_neg.symm, fun _ => rfl, fun _ _ _ => if_pos trivial, fun _ _ _ => if_neg id, by simp, by simp, by simp, by simp, by simp, by simp, by simp, by simp, by simp, by simp, by simp, by simp, by omega, by omega, by omega, by simp, fun p _ => by by_cases h : p <;> simp [h], rfl, rfl, rfl⟩
end Go.Ev
set_option maxRecDepth 100000
set_option linter.all false
namespace Go.Ev
section
variable {σ : Nat → List Int}
open Classical in
theorem s42 {g : GE} : (SA.mk false (.app 42 (.g g .nil)) (.c 1) true).holds σ ↔ gn (g.eval σ) := by
 show decide (bqi 42 [g.eval σ] = 1) = true ↔ _
 rw [decide_eq_true_iff]
 exact b2y
theorem gl [Gv] (a b : SE) : (SA.mk true a b true).holds Gv.σ ∧ a.eval Gv.σ < b.eval Gv.σ ∨ (SA.mk true a b false).holds Gv.σ ∧ b.eval Gv.σ ≤ a.eval Gv.σ := sl a b
theorem gq [Gv] (a b : SE) : (SA.mk false a b true).holds Gv.σ ∧ a.eval Gv.σ = b.eval Gv.σ ∨ (SA.mk false a b false).holds Gv.σ ∧ ¬ a.eval Gv.σ = b.eval Gv.σ := se a b
theorem bT [Gv] (a b : SE) (h : a.eval Gv.σ < b.eval Gv.σ) : (SA.mk true a b true).holds Gv.σ := ax5 h
theorem bF [Gv] (a b : SE) (h : b.eval Gv.σ ≤ a.eval Gv.σ) : (SA.mk true a b false).holds Gv.σ := akm (by omega)
theorem bE [Gv] (a b : SE) (h : a.eval Gv.σ = b.eval Gv.σ) : (SA.mk false a b true).holds Gv.σ := biy h
theorem bN [Gv] (a b : SE) (h : ¬ a.eval Gv.σ = b.eval Gv.σ) : (SA.mk false a b false).holds Gv.σ := bjy h
theorem aj {A B : List SA} (h : SAll σ (A ++ B)) : SAll σ A ∧ SAll σ B := ⟨fun x hx => h x (List.mem_append_left _ hx), fun x hx => h x (List.mem_append_right _ hx)⟩
theorem bp9 {R : List Int} (hR : gn R) (i : Nat) : 0 ≤ R.getD i 0 ∧ R.getD i 0 < 1114112 := by
 by_cases h : i < R.length
 ·have := hR.2 (R[i]) (List.getElem_mem h)
  rw [show R.getD i 0 = R[i] by simp [List.getD, h]]; exact this
 ·rw [show R.getD i 0 = 0 by simp [List.getD, Nat.le_of_not_lt h]]; omega
theorem qc (hR : gn (σ 0)) (e : SE) : 0 ≤ (SE.rd (.s 0) e).eval σ ∧ (SE.rd (.s 0) e).eval σ < 1114112 := bp9 hR _
theorem f40 (a : SE) : 1 ≤ (SE.len (.app 40 (.i a .nil))).eval σ ∧ (SE.len (.app 40 (.i a .nil))).eval σ ≤ 4 := by
 show 1 ≤ ((ll (a.eval σ)).length : Int) ∧ ((ll (a.eval σ)).length : Int) ≤ 4
 unfold ll
 repeat' split
 all_goals (simp only [zO, zS]; omega)
theorem brv : (GE.lit 3 15712189).eval σ = [239, 191, 189] := by
 simp only [GE.eval]
 decide +kernel
theorem dc (R : List Int) (p b : Int) : af R p b = if p < (R.length : Int) then
  if b = 1 then af R (p + 1) (if R.getD p.toNat 0 = 10 then 0 else 1)
  else if R.getD p.toNat 0 = 59 then af R (p + 1) 1
  else if ali (R.getD p.toNat 0) = 1 then af R (p + 1) 0
  else p
 else p := by
 conv => lhs; rw [af]
 split <;> rfl
theorem gm (R : List Int) : ∀ (n : Nat) (p b : Int), ((R.length : Int) - p).toNat ≤ n → p ≤ (R.length : Int) → af R p b ≤ (R.length : Int)
 | 0, p, b, h, hp => by rw [dc, if_neg (by omega)]; omega
 | n + 1, p, b, h, hp => by
   rw [dc]
   split
   ·split
    ·exact gm R n (p + 1) _ (by omega) (by omega)
    ·split
     ·exact gm R n (p + 1) 1 (by omega) (by omega)
     ·split
      ·exact gm R n (p + 1) 0 (by omega) (by omega)
      ·omega
   ·omega
theorem f43 (a b : SE) : a.eval σ ≤ (SE.app 43 (.g (.s 0) (.i a (.i b .nil)))).eval σ ∧ (a.eval σ ≤ ((σ 0).length : Int) → (SE.app 43 (.g (.s 0) (.i a (.i b .nil)))).eval σ ≤ ((σ 0).length : Int)) :=
 ⟨fq _ _ _, fun h => gm _ _ _ _ (zY _) h⟩
end
end Go.Ev
set_option maxRecDepth 100000
set_option linter.all false
namespace Go.Ev
/- Lemmas that carry their tactic as a default: what is decided is kept in one list. -/
noncomputable section
def znm : TM → TM
 | .mk f vs nxi Li A _ r nxo Lo => .mk f vs nxi Li A none r nxo Lo
def znl : LT → LT
 | .mk f k us nxi Li A _ r nxo Lo => .mk f k us nxi Li A none r nxo Lo
end
section
variable [Gv]
theorem zh {A : List SA} (hI : SAll Gv.σ A) {l : List TM} (h : ∀ t ∈ l, am t) : vk (agl A l) := apu hI _ h
theorem zp {A : List SA} (hI : SAll Gv.σ A) {l : List LT} (h : ∀ t ∈ l, au t) : alc (b4k A l) := bs7 hI _ h
theorem zm0 {P : Prop} {f : FuncId} {us : List AV} {nxi : Nat} {Li : List HO} {A : List SA} {r : TR} {nxo : Nat} {Lo : List HO} (T : List (Nat × Nat)) {H : aqu} (hH : vk H) {L : abj} (hL : alc L) (hA : SAll Gv.σ A) (hx : Nat.blt nxi 65536 = true := by rfl) (ht : aex Li = true := by rfl) (h : aio T nxi nxo .nil Lo r (enter (ald H L 2000) f (aVs A us) (ax (aHO A Li) nxi)) = true := by kernel_rfl) : P → ba f us nxi Li r nxo Lo := fun _ => br (E := .nil) hH hL hA trivial hx ht h
theorem zm {P : Prop} {f : FuncId} {us : List AV} {nxi : Nat} {Li : List HO} {A : List SA} {r : TR} {nxo : Nat} {Lo : List HO} (T : List (Nat × Nat)) (E : EqL) {H : aqu} (hH : vk H) {L : abj} (hL : alc L) (hA : SAll Gv.σ A) (hE : E.all Gv.σ) (hx : Nat.blt nxi 65536 = true := by rfl) (ht : aex Li = true := by rfl) (h : aio T nxi nxo E Lo r (enter (ald H L 2000) f (aVs A us) (ax (aHO A Li) nxi)) = true := by kernel_rfl) : P → ba f us nxi Li r nxo Lo := fun _ => br (E := E) hH hL hA hE hx ht h
theorem zt0 {P : Prop} {f k : Nat} {us : List AV} {nxi : Nat} {Li : List HO} {A : List SA} {r : LR} {nxo : Nat} {Lo : List HO} (T : List (Nat × Nat)) {H : aqu} (hH : vk H) {L : abj} (hL : alc L) (hA : SAll Gv.σ A) (hx : Nat.blt nxi 65536 = true := by rfl) (ht : aex Li = true := by rfl) (h : xh T nxi nxo .nil Lo (cy us) r (xq (afa f k) (ald H L 2000) (.mk f (cy us) false none) (.mk (tc (aVs A us) 0 qw) [] .none (ax (aHO A Li) nxi))) = true := by kernel_rfl) : P → b7 f k us nxi Li r nxo Lo := fun _ => rq (E := .nil) hH hL hA trivial hx ht h
theorem zt {P : Prop} {f k : Nat} {us : List AV} {nxi : Nat} {Li : List HO} {A : List SA} {r : LR} {nxo : Nat} {Lo : List HO} (T : List (Nat × Nat)) (E : EqL) {H : aqu} (hH : vk H) {L : abj} (hL : alc L) (hA : SAll Gv.σ A) (hE : E.all Gv.σ) (hx : Nat.blt nxi 65536 = true := by rfl) (ht : aex Li = true := by rfl) (h : xh T nxi nxo E Lo (cy us) r (xq (afa f k) (ald H L 2000) (.mk f (cy us) false none) (.mk (tc (aVs A us) 0 qw) [] .none (ax (aHO A Li) nxi))) = true := by kernel_rfl) : P → b7 f k us nxi Li r nxo Lo := fun _ => rq (E := E) hH hL hA hE hx ht h
theorem zl1 {L : List SA} (hI : SAll Gv.σ L) (a b : SE) {x y : Int} (ha : a.eval Gv.σ = x := by (try simp (disch := omega) only [evs, wr]); rfl) (hb : b.eval Gv.σ = y := by (try simp (disch := omega) only [evs, wr]); rfl) : SAll Gv.σ (.mk true a b true :: L) ∧ x < y ∨ SAll Gv.σ (.mk true a b false :: L) ∧ y ≤ x := by subst ha hb; exact (gl a b).imp (fun h => ⟨sc h.1 hI, h.2⟩) (fun h => ⟨sc h.1 hI, h.2⟩)
theorem zf1 {p q : Prop} (h : p) (e : p = q := by (try simp (disch := omega) only [evs, wr]); rfl) : q := e ▸ h
theorem zT1 {L : List SA} (hI : SAll Gv.σ L) (a b : SE) (h : a.eval Gv.σ < b.eval Gv.σ := by simp (disch := omega) only [evs, wr] <;> omega) : SAll Gv.σ (.mk true a b true :: L) := sc (bT a b h) hI
theorem zF1 {L : List SA} (hI : SAll Gv.σ L) (a b : SE) (h : b.eval Gv.σ ≤ a.eval Gv.σ := by simp (disch := omega) only [evs, wr] <;> omega) : SAll Gv.σ (.mk true a b false :: L) := sc (bF a b h) hI
theorem zq1 {L : List SA} (hI : SAll Gv.σ L) (a b : SE) {x y : Int} (ha : a.eval Gv.σ = x := by (try simp (disch := omega) only [evs, wr]); rfl) (hb : b.eval Gv.σ = y := by (try simp (disch := omega) only [evs, wr]); rfl) : SAll Gv.σ (.mk false a b true :: L) ∧ x = y ∨ SAll Gv.σ (.mk false a b false :: L) ∧ ¬ x = y := by subst ha hb; exact (gq a b).imp (fun h => ⟨sc h.1 hI, h.2⟩) (fun h => ⟨sc h.1 hI, h.2⟩)
theorem zE1 {L : List SA} (hI : SAll Gv.σ L) (a b : SE) (h : a.eval Gv.σ = b.eval Gv.σ := by simp (disch := omega) only [evs, wr] <;> omega) : SAll Gv.σ (.mk false a b true :: L) := sc (bE a b h) hI
theorem zN1 {L : List SA} (hI : SAll Gv.σ L) (a b : SE) (h : ¬ a.eval Gv.σ = b.eval Gv.σ := by simp (disch := omega) only [evs, wr] <;> omega) : SAll Gv.σ (.mk false a b false :: L) := sc (bN a b h) hI
theorem zf2 {p q : Prop} (h : p) (e : p = q := by (try simp (disch := omega) only [if_pos, if_neg, ali, wr]); rfl) : q := e ▸ h
theorem zn1 {A : List SA} {P : Prop} (h : SAll Gv.σ A → False := by intro h; simp (disch := omega) only [sall_cons, sT, sF, sE, sN, evs, wr, u] at h <;> omega) : SAll Gv.σ A → P := fun x => (h x).elim
theorem ze1 {E : EqL} (h : E.all Gv.σ := by simp (disch := omega) only [EqL.all, and_true, evs, wr, u] <;> omega) : E.all Gv.σ := h
theorem zf3 {p q : Prop} (h : p) (e : p = q := by (try simp (disch := omega) only [if_pos, if_neg, sh8, lo8]); rfl) : q := e ▸ h
theorem ze2 {E : EqL} (h : E.all Gv.σ := by simp (disch := omega) only [EqL.all, and_true, evs, wr, u, sh8, lo8, brv, zJ, zD, zO, zS] <;> omega) : E.all Gv.σ := h
theorem zf4 {p q : Prop} (h : p) (e : p = q := by (try simp (disch := omega) only [if_pos, if_neg, wr]); rfl) : q := e ▸ h
theorem zf5 {p q : Prop} (h : p) (e : p = q := by (try simp (disch := omega) only [if_pos, if_neg, wr, zD]); rfl) : q := e ▸ h
theorem ze3 {E : EqL} (h : E.all Gv.σ := by simp (disch := omega) only [EqL.all, and_true, evs, wr, u, zD] <;> omega) : E.all Gv.σ := h
theorem zf6 {p q : Prop} (h : p) (e : p = q := by (try simp (disch := omega) only [k1, if_pos, if_neg, wr, u2]); rfl) : q := e ▸ h
theorem zn2 {A : List SA} {P : Prop} (h : SAll Gv.σ A → False := by intro h; simp (disch := omega) only [sall_cons, sT, sF, sE, sN, evs, wr, acp, bea, u2, u] at h <;> omega) : SAll Gv.σ A → P := fun x => (h x).elim
theorem ze4 {E : EqL} (h : E.all Gv.σ := by simp (disch := omega) only [EqL.all, and_true, evs, wr, acp, bea, u2, u] <;> omega) : E.all Gv.σ := h
theorem zf7 {p q : Prop} (h : p) (e : p = q := by (try simp (disch := omega) only [if_pos, if_neg]); rfl) : q := e ▸ h
theorem zf8 {p q : Prop} (h : p) (e : p = q := by (try simp (disch := omega) only [bp, if_pos, if_neg, wr]); rfl) : q := e ▸ h
theorem zf9 {p q : Prop} (h : p) (e : p = q := by (try simp (disch := omega) only [if_pos, if_neg, ite_self, wr]); rfl) : q := e ▸ h
theorem aej {p q : Prop} (h : p) (e : p = q := by (try simp (disch := omega) only [ay, bts, if_pos, if_neg, wr]); rfl) : q := e ▸ h
theorem zn3 {A : List SA} {P : Prop} (h : SAll Gv.σ A → False := by intro h; simp (disch := omega) only [sall_cons, sT, sF, sE, sN, evs, wr, if_pos, if_neg, gd3, u] at h <;> omega) : SAll Gv.σ A → P := fun x => (h x).elim
theorem zn4 {A : List SA} {P : Prop} (h : SAll Gv.σ A → False := by intro h; simp (disch := omega) only [sall_cons, sT, sF, sE, sN, evs, wr, alz, if_pos, if_neg, gd3, u] at h <;> omega) : SAll Gv.σ A → P := fun x => (h x).elim
theorem zn5 {A : List SA} {P : Prop} (h : SAll Gv.σ A → False := by intro h; simp (disch := omega) only [sall_cons, sT, sF, sE, sN, evs, wr, agy, if_pos, if_neg, gd3, u] at h <;> omega) : SAll Gv.σ A → P := fun x => (h x).elim
theorem ze5 {E : EqL} (h : E.all Gv.σ := by simp (disch := omega) only [EqL.all, and_true, evs, wr, if_pos, if_neg, gd3, u] <;> omega) : E.all Gv.σ := h
theorem ze6 {E : EqL} (h : E.all Gv.σ := by simp (disch := omega) only [EqL.all, and_true, evs, wr, alz, if_pos, if_neg, gd3, u] <;> omega) : E.all Gv.σ := h
theorem ze7 {E : EqL} (h : E.all Gv.σ := by simp (disch := omega) only [EqL.all, and_true, evs, wr, agy, if_pos, if_neg, gd3, u] <;> omega) : E.all Gv.σ := h
theorem cc2 {L : List SA} (hI : SAll Gv.σ L) (a b : SE) {x y : Int} (ha : a.eval Gv.σ = x := by (try simp (disch := omega) only [evs, wr, Int.sub_add_cancel]); rfl) (hb : b.eval Gv.σ = y := by (try simp (disch := omega) only [evs, wr, Int.sub_add_cancel]); rfl) : SAll Gv.σ (.mk true a b true :: L) ∧ x < y ∨ SAll Gv.σ (.mk true a b false :: L) ∧ y ≤ x := by subst ha hb; exact (gl a b).imp (fun h => ⟨sc h.1 hI, h.2⟩) (fun h => ⟨sc h.1 hI, h.2⟩)
theorem avi {p q : Prop} (h : p) (e : p = q := by (try simp (disch := omega) only [evs, wr, Int.sub_add_cancel]); rfl) : q := e ▸ h
theorem bqn {L : List SA} (hI : SAll Gv.σ L) (a b : SE) (h : a.eval Gv.σ < b.eval Gv.σ := by simp (disch := omega) only [evs, wr, Int.sub_add_cancel] <;> omega) : SAll Gv.σ (.mk true a b true :: L) := sc (bT a b h) hI
theorem bq3 {L : List SA} (hI : SAll Gv.σ L) (a b : SE) (h : b.eval Gv.σ ≤ a.eval Gv.σ := by simp (disch := omega) only [evs, wr, Int.sub_add_cancel] <;> omega) : SAll Gv.σ (.mk true a b false :: L) := sc (bF a b h) hI
theorem b19 {L : List SA} (hI : SAll Gv.σ L) (a b : SE) {x y : Int} (ha : a.eval Gv.σ = x := by (try simp (disch := omega) only [evs, wr, Int.sub_add_cancel]); rfl) (hb : b.eval Gv.σ = y := by (try simp (disch := omega) only [evs, wr, Int.sub_add_cancel]); rfl) : SAll Gv.σ (.mk false a b true :: L) ∧ x = y ∨ SAll Gv.σ (.mk false a b false :: L) ∧ ¬ x = y := by subst ha hb; exact (gq a b).imp (fun h => ⟨sc h.1 hI, h.2⟩) (fun h => ⟨sc h.1 hI, h.2⟩)
theorem asj {L : List SA} (hI : SAll Gv.σ L) (a b : SE) {x y : Int} (ha : a.eval Gv.σ = x := by (try simp (disch := omega) only [evs, wr, zS]); rfl) (hb : b.eval Gv.σ = y := by (try simp (disch := omega) only [evs, wr, zS]); rfl) : SAll Gv.σ (.mk true a b true :: L) ∧ x < y ∨ SAll Gv.σ (.mk true a b false :: L) ∧ y ≤ x := by subst ha hb; exact (gl a b).imp (fun h => ⟨sc h.1 hI, h.2⟩) (fun h => ⟨sc h.1 hI, h.2⟩)
theorem aq {p q : Prop} (h : p) (e : p = q := by (try simp (disch := omega) only [evs, wr, zS]); rfl) : q := e ▸ h
theorem fo {L : List SA} (hI : SAll Gv.σ L) (a b : SE) (h : a.eval Gv.σ < b.eval Gv.σ := by simp (disch := omega) only [evs, wr, zS] <;> omega) : SAll Gv.σ (.mk true a b true :: L) := sc (bT a b h) hI
theorem az {L : List SA} (hI : SAll Gv.σ L) (a b : SE) (h : b.eval Gv.σ ≤ a.eval Gv.σ := by simp (disch := omega) only [evs, wr, zS] <;> omega) : SAll Gv.σ (.mk true a b false :: L) := sc (bF a b h) hI
theorem ji {L : List SA} (hI : SAll Gv.σ L) (a b : SE) {x y : Int} (ha : a.eval Gv.σ = x := by (try simp (disch := omega) only [evs, wr, zS]); rfl) (hb : b.eval Gv.σ = y := by (try simp (disch := omega) only [evs, wr, zS]); rfl) : SAll Gv.σ (.mk false a b true :: L) ∧ x = y ∨ SAll Gv.σ (.mk false a b false :: L) ∧ ¬ x = y := by subst ha hb; exact (gq a b).imp (fun h => ⟨sc h.1 hI, h.2⟩) (fun h => ⟨sc h.1 hI, h.2⟩)
theorem bi7 {L : List SA} (hI : SAll Gv.σ L) (a b : SE) (h : ¬ a.eval Gv.σ = b.eval Gv.σ := by simp (disch := omega) only [evs, wr, zS] <;> omega) : SAll Gv.σ (.mk false a b false :: L) := sc (bN a b h) hI
theorem s8 {p q : Prop} (h : p) (e : p = q := by (try simp (disch := omega) only [if_pos, if_neg, zD, wr]); rfl) : q := e ▸ h
theorem zn6 {A : List SA} {P : Prop} (h : SAll Gv.σ A → False := by intro h; simp (disch := omega) only [sall_cons, sT, sF, sE, sN, evs, wr, a8c, zJ, zD, u] at h <;> omega) : SAll Gv.σ A → P := fun x => (h x).elim
theorem zn7 {A : List SA} {P : Prop} (h : SAll Gv.σ A → False := by intro h; simp (disch := omega) only [sall_cons, sT, sF, sE, sN, evs, wr, Int.sub_add_cancel, e0, u2, e1, u] at h <;> omega) : SAll Gv.σ A → P := fun x => (h x).elim
theorem zn8 {A : List SA} {P : Prop} (h : SAll Gv.σ A → False := by intro h; simp (disch := omega) only [sall_cons, sT, sF, sE, sN, evs, wr, Int.sub_add_cancel, e1, u] at h <;> omega) : SAll Gv.σ A → P := fun x => (h x).elim
theorem zn9 {A : List SA} {P : Prop} (h : SAll Gv.σ A → False := by intro h; simp (disch := omega) only [sall_cons, sT, sF, sE, sN, evs, wr, zD, zS, u] at h <;> omega) : SAll Gv.σ A → P := fun x => (h x).elim
theorem ze8 {E : EqL} (h : E.all Gv.σ := by simp (disch := omega) only [EqL.all, and_true, evs, wr, a8c, zJ, zD, u] <;> omega) : E.all Gv.σ := h
theorem ze9 {E : EqL} (h : E.all Gv.σ := by simp (disch := omega) only [EqL.all, and_true, evs, wr, Int.sub_add_cancel, e0, u2, e1, u] <;> omega) : E.all Gv.σ := h
theorem ccb {E : EqL} (h : E.all Gv.σ := by simp (disch := omega) only [EqL.all, and_true, evs, wr, Int.sub_add_cancel, e1, u] <;> omega) : E.all Gv.σ := h
theorem te {E : EqL} (h : E.all Gv.σ := by simp (disch := omega) only [EqL.all, and_true, evs, wr, zD, zS, u] <;> omega) : E.all Gv.σ := h
theorem ahl {L : List SA} (hI : SAll Gv.σ L) (a b : SE) {x y : Int} (ha : a.eval Gv.σ = x := by (try simp (disch := omega) only [evs, wr, ab6, vj, zS]); rfl) (hb : b.eval Gv.σ = y := by (try simp (disch := omega) only [evs, wr, ab6, vj, zS]); rfl) : SAll Gv.σ (.mk true a b true :: L) ∧ x < y ∨ SAll Gv.σ (.mk true a b false :: L) ∧ y ≤ x := by subst ha hb; exact (gl a b).imp (fun h => ⟨sc h.1 hI, h.2⟩) (fun h => ⟨sc h.1 hI, h.2⟩)
theorem bz {p q : Prop} (h : p) (e : p = q := by (try simp (disch := omega) only [evs, wr, ab6, vj, zS]); rfl) : q := e ▸ h
theorem abk {L : List SA} (hI : SAll Gv.σ L) (a b : SE) (h : a.eval Gv.σ < b.eval Gv.σ := by simp (disch := omega) only [evs, wr, ab6, vj, zS] <;> omega) : SAll Gv.σ (.mk true a b true :: L) := sc (bT a b h) hI
theorem d8 {L : List SA} (hI : SAll Gv.σ L) (a b : SE) (h : b.eval Gv.σ ≤ a.eval Gv.σ := by simp (disch := omega) only [evs, wr, ab6, vj, zS] <;> omega) : SAll Gv.σ (.mk true a b false :: L) := sc (bF a b h) hI
theorem lk {L : List SA} (hI : SAll Gv.σ L) (a b : SE) {x y : Int} (ha : a.eval Gv.σ = x := by (try simp (disch := omega) only [evs, wr, ab6, vj, zS]); rfl) (hb : b.eval Gv.σ = y := by (try simp (disch := omega) only [evs, wr, ab6, vj, zS]); rfl) : SAll Gv.σ (.mk false a b true :: L) ∧ x = y ∨ SAll Gv.σ (.mk false a b false :: L) ∧ ¬ x = y := by subst ha hb; exact (gq a b).imp (fun h => ⟨sc h.1 hI, h.2⟩) (fun h => ⟨sc h.1 hI, h.2⟩)
theorem b0d {L : List SA} (hI : SAll Gv.σ L) (a b : SE) (h : a.eval Gv.σ = b.eval Gv.σ := by simp (disch := omega) only [evs, wr, ab6, vj, zS] <;> omega) : SAll Gv.σ (.mk false a b true :: L) := sc (bE a b h) hI
theorem cb2 {L : List SA} (hI : SAll Gv.σ L) (a b : SE) (h : ¬ a.eval Gv.σ = b.eval Gv.σ := by simp (disch := omega) only [evs, wr, ab6, vj, zS] <;> omega) : SAll Gv.σ (.mk false a b false :: L) := sc (bN a b h) hI
theorem gi {A : List SA} {P : Prop} (h : SAll Gv.σ A → False := by intro h; simp (disch := omega) only [sall_cons, sT, sF, sE, sN, evs, wr, ab6, vj, ar, hM, u] at h <;> omega) : SAll Gv.σ A → P := fun x => (h x).elim
theorem gc {E : EqL} (h : E.all Gv.σ := by simp (disch := omega) only [EqL.all, and_true, evs, wr, ab6, vj, ar, hM, u] <;> omega) : E.all Gv.σ := h
theorem l8 {p q : Prop} (h : p) (e : p = q := by (try simp (disch := omega) only [bp, ay, bh, btv, hM, ae8, bad, if_pos, if_neg, wr]); rfl) : q := e ▸ h
theorem l7 {A : List SA} {P : Prop} (h : SAll Gv.σ A → False := by intro h; simp (disch := omega) only [sall_cons, sT, sF, sE, sN, evs, wr, ae8, ar, u] at h <;> omega) : SAll Gv.σ A → P := fun x => (h x).elim
theorem l6 {E : EqL} (h : E.all Gv.σ := by simp (disch := omega) only [EqL.all, and_true, evs, wr, ae8, ar, u] <;> omega) : E.all Gv.σ := h
theorem bfu {A : List SA} {P : Prop} (h : SAll Gv.σ A → False := by intro h; simp (disch := omega) only [sall_cons, sT, sF, sE, sN, evs, wr, zJ, zD, zO, u] at h <;> omega) : SAll Gv.σ A → P := fun x => (h x).elim
theorem ca5 {E : EqL} (h : E.all Gv.σ := by simp (disch := omega) only [EqL.all, and_true, evs, wr, zJ, zD, zO, u] <;> omega) : E.all Gv.σ := h
theorem b6z {L : List SA} (hI : SAll Gv.σ L) (a b : SE) {x y : Int} (ha : a.eval Gv.σ = x := by (try simp (disch := omega) only [evs, evx, wr, zJ, zD]); rfl) (hb : b.eval Gv.σ = y := by (try simp (disch := omega) only [evs, evx, wr, zJ, zD]); rfl) : SAll Gv.σ (.mk true a b true :: L) ∧ x < y ∨ SAll Gv.σ (.mk true a b false :: L) ∧ y ≤ x := by subst ha hb; exact (gl a b).imp (fun h => ⟨sc h.1 hI, h.2⟩) (fun h => ⟨sc h.1 hI, h.2⟩)
theorem btu {p q : Prop} (h : p) (e : p = q := by (try simp (disch := omega) only [evs, evx, wr, zJ, zD]); rfl) : q := e ▸ h
theorem b09 {L : List SA} (hI : SAll Gv.σ L) (a b : SE) (h : b.eval Gv.σ ≤ a.eval Gv.σ := by simp (disch := omega) only [evs, evx, wr, zJ, zD] <;> omega) : SAll Gv.σ (.mk true a b false :: L) := sc (bF a b h) hI
theorem bqu {L : List SA} (hI : SAll Gv.σ L) (a b : SE) {x y : Int} (ha : a.eval Gv.σ = x := by (try simp (disch := omega) only [evs, evx, wr, zJ, zD]); rfl) (hb : b.eval Gv.σ = y := by (try simp (disch := omega) only [evs, evx, wr, zJ, zD]); rfl) : SAll Gv.σ (.mk false a b true :: L) ∧ x = y ∨ SAll Gv.σ (.mk false a b false :: L) ∧ ¬ x = y := by subst ha hb; exact (gq a b).imp (fun h => ⟨sc h.1 hI, h.2⟩) (fun h => ⟨sc h.1 hI, h.2⟩)
theorem b5r {L : List SA} (hI : SAll Gv.σ L) (a b : SE) (h : a.eval Gv.σ = b.eval Gv.σ := by simp (disch := omega) only [evs, evx, wr, zJ, zD] <;> omega) : SAll Gv.σ (.mk false a b true :: L) := sc (bE a b h) hI
theorem b45 {L : List SA} (hI : SAll Gv.σ L) (a b : SE) (h : ¬ a.eval Gv.σ = b.eval Gv.σ := by simp (disch := omega) only [evs, evx, wr, zJ, zD] <;> omega) : SAll Gv.σ (.mk false a b false :: L) := sc (bN a b h) hI
theorem bth {L : List SA} (hI : SAll Gv.σ L) (a b : SE) (h : a.eval Gv.σ < b.eval Gv.σ := by simp (disch := omega) only [evs, evx, wr] <;> omega) : SAll Gv.σ (.mk true a b true :: L) := sc (bT a b h) hI
theorem x6 {A : List SA} {P : Prop} (h : SAll Gv.σ A → False := by intro h; simp (disch := omega) only [sall_cons, sT, sF, sE, sN, evs, evx, wr, zJ, zD, u] at h <;> omega) : SAll Gv.σ A → P := fun x => (h x).elim
theorem b10 {E : EqL} (h : E.all Gv.σ := by simp (disch := omega) only [EqL.all, and_true, evs, evx, wr, u] <;> omega) : E.all Gv.σ := h
theorem b5s {E : EqL} (h : E.all Gv.σ := by simp (disch := omega) only [EqL.all, and_true, evs, evx, wr, zJ, zD, u] <;> omega) : E.all Gv.σ := h
theorem qv {L : List SA} (hI : SAll Gv.σ L) (a b : SE) {x y : Int} (ha : a.eval Gv.σ = x := by (try simp (disch := omega) only [evs, evx, wr, tn]); rfl) (hb : b.eval Gv.σ = y := by (try simp (disch := omega) only [evs, evx, wr, tn]); rfl) : SAll Gv.σ (.mk true a b true :: L) ∧ x < y ∨ SAll Gv.σ (.mk true a b false :: L) ∧ y ≤ x := by subst ha hb; exact (gl a b).imp (fun h => ⟨sc h.1 hI, h.2⟩) (fun h => ⟨sc h.1 hI, h.2⟩)
theorem a5e {L : List SA} (hI : SAll Gv.σ L) (a b : SE) (h : a.eval Gv.σ < b.eval Gv.σ := by simp (disch := omega) only [evs, evx, wr, tn] <;> omega) : SAll Gv.σ (.mk true a b true :: L) := sc (bT a b h) hI
theorem btc {L : List SA} (hI : SAll Gv.σ L) (a b : SE) (h : b.eval Gv.σ ≤ a.eval Gv.σ := by simp (disch := omega) only [evs, evx, wr, tn] <;> omega) : SAll Gv.σ (.mk true a b false :: L) := sc (bF a b h) hI
theorem bql {L : List SA} (hI : SAll Gv.σ L) (a b : SE) {x y : Int} (ha : a.eval Gv.σ = x := by (try simp (disch := omega) only [evs, evx, wr, zJ, zD, zP, zO, zS, List.append_assoc, nh, List.length_drop]); rfl) (hb : b.eval Gv.σ = y := by (try simp (disch := omega) only [evs, evx, wr, zJ, zD, zP, zO, zS, List.append_assoc, nh, List.length_drop]); rfl) : SAll Gv.σ (.mk true a b true :: L) ∧ x < y ∨ SAll Gv.σ (.mk true a b false :: L) ∧ y ≤ x := by subst ha hb; exact (gl a b).imp (fun h => ⟨sc h.1 hI, h.2⟩) (fun h => ⟨sc h.1 hI, h.2⟩)
theorem b8h {p q : Prop} (h : p) (e : p = q := by (try simp (disch := omega) only [evs, evx, wr, zJ, zD, zP, zO, zS, List.append_assoc, nh, List.length_drop]); rfl) : q := e ▸ h
theorem b96 {L : List SA} (hI : SAll Gv.σ L) (a b : SE) (h : a.eval Gv.σ < b.eval Gv.σ := by simp (disch := omega) only [evs, evx, wr, zJ, zD, zP, zO, zS, List.append_assoc, nh, List.length_drop] <;> omega) : SAll Gv.σ (.mk true a b true :: L) := sc (bT a b h) hI
theorem aic {L : List SA} (hI : SAll Gv.σ L) (a b : SE) (h : b.eval Gv.σ ≤ a.eval Gv.σ := by simp (disch := omega) only [evs, evx, wr, zJ, zD, zP, zO, zS, List.append_assoc, nh, List.length_drop] <;> omega) : SAll Gv.σ (.mk true a b false :: L) := sc (bF a b h) hI
theorem bgj {L : List SA} (hI : SAll Gv.σ L) (a b : SE) {x y : Int} (ha : a.eval Gv.σ = x := by (try simp (disch := omega) only [evs, evx, wr, zJ, zD, zP, zO, zS, List.append_assoc, nh, List.length_drop]); rfl) (hb : b.eval Gv.σ = y := by (try simp (disch := omega) only [evs, evx, wr, zJ, zD, zP, zO, zS, List.append_assoc, nh, List.length_drop]); rfl) : SAll Gv.σ (.mk false a b true :: L) ∧ x = y ∨ SAll Gv.σ (.mk false a b false :: L) ∧ ¬ x = y := by subst ha hb; exact (gq a b).imp (fun h => ⟨sc h.1 hI, h.2⟩) (fun h => ⟨sc h.1 hI, h.2⟩)
theorem cbb {L : List SA} (hI : SAll Gv.σ L) (a b : SE) (h : a.eval Gv.σ = b.eval Gv.σ := by simp (disch := omega) only [evs, evx, wr, zJ, zD, zP, zO, zS, List.append_assoc, nh, List.length_drop] <;> omega) : SAll Gv.σ (.mk false a b true :: L) := sc (bE a b h) hI
theorem alh {A : List SA} {P : Prop} (h : SAll Gv.σ A → False := by intro h; simp (disch := omega) only [sall_cons, sT, sF, sE, sN, evs, evx, wr, zJ, zD, zP, zO, zS, List.append_assoc, nh, List.length_drop, en, List.append_nil, u] at h <;> omega) : SAll Gv.σ A → P := fun x => (h x).elim
theorem aws {A : List SA} {P : Prop} (h : SAll Gv.σ A → False := by intro h; simp (disch := omega) only [sall_cons, sT, sF, sE, sN, evs, evx, wr, zJ, zD, zP, zO, zS, List.append_assoc, nh, List.length_drop, u] at h <;> omega) : SAll Gv.σ A → P := fun x => (h x).elim
theorem b1k {E : EqL} (h : E.all Gv.σ := by simp (disch := omega) only [EqL.all, and_true, evs, evx, wr, zJ, zD, zP, zO, zS, List.append_assoc, nh, List.length_drop, en, List.append_nil, u] <;> omega) : E.all Gv.σ := h
theorem bru {L : List SA} (hI : SAll Gv.σ L) (a b : SE) {x y : Int} (ha : a.eval Gv.σ = x := by (try simp (disch := omega) only [evs, evx, wr, ev3, zP, zO, zS]); rfl) (hb : b.eval Gv.σ = y := by (try simp (disch := omega) only [evs, evx, wr, ev3, zP, zO, zS]); rfl) : SAll Gv.σ (.mk true a b true :: L) ∧ x < y ∨ SAll Gv.σ (.mk true a b false :: L) ∧ y ≤ x := by subst ha hb; exact (gl a b).imp (fun h => ⟨sc h.1 hI, h.2⟩) (fun h => ⟨sc h.1 hI, h.2⟩)
theorem bm3 {L : List SA} (hI : SAll Gv.σ L) (a b : SE) (h : a.eval Gv.σ < b.eval Gv.σ := by simp (disch := omega) only [evs, evx, wr, ev3, zP, zO, zS] <;> omega) : SAll Gv.σ (.mk true a b true :: L) := sc (bT a b h) hI
theorem xy {L : List SA} (hI : SAll Gv.σ L) (a b : SE) (h : b.eval Gv.σ ≤ a.eval Gv.σ := by simp (disch := omega) only [evs, evx, wr, ev3, zP, zO, zS] <;> omega) : SAll Gv.σ (.mk true a b false :: L) := sc (bF a b h) hI
theorem blj {E : EqL} (h : E.all Gv.σ := by simp (disch := omega) only [EqL.all, and_true, evs, evx, wr, ev3, zP, zO, zS, bhx, Lib.encodeRuneZ_one, Lib.encodeRuneZ_two, Lib.encodeRuneZ_three, Lib.encodeRuneZ_four, List.append_assoc, zJ, zD, List.append_nil, List.cons.injEq, List.append_cancel_left_eq, and_true, un, u] <;> omega) : E.all Gv.σ := h
theorem cb4 {E : EqL} (h : E.all Gv.σ := by simp (disch := omega) only [EqL.all, and_true, evs, evx, wr, ev3, zP, zO, zS, zD, u] <;> omega) : E.all Gv.σ := h
theorem b17 {L : List SA} (hI : SAll Gv.σ L) (a b : SE) {x y : Int} (ha : a.eval Gv.σ = x := by (try simp (disch := omega) only [evs, evx, wr, zJ, zD, ev3, e1, e2, zP, zO, zS]); rfl) (hb : b.eval Gv.σ = y := by (try simp (disch := omega) only [evs, evx, wr, zJ, zD, ev3, e1, e2, zP, zO, zS]); rfl) : SAll Gv.σ (.mk true a b true :: L) ∧ x < y ∨ SAll Gv.σ (.mk true a b false :: L) ∧ y ≤ x := by subst ha hb; exact (gl a b).imp (fun h => ⟨sc h.1 hI, h.2⟩) (fun h => ⟨sc h.1 hI, h.2⟩)
theorem bsb {p q : Prop} (h : p) (e : p = q := by (try simp (disch := omega) only [evs, evx, wr, zJ, zD, ev3, e1, e2, zP, zO, zS]); rfl) : q := e ▸ h
theorem b73 {L : List SA} (hI : SAll Gv.σ L) (a b : SE) (h : a.eval Gv.σ < b.eval Gv.σ := by simp (disch := omega) only [evs, evx, wr, zJ, zD, ev3, e1, e2, zP, zO, zS] <;> omega) : SAll Gv.σ (.mk true a b true :: L) := sc (bT a b h) hI
theorem asr {L : List SA} (hI : SAll Gv.σ L) (a b : SE) (h : b.eval Gv.σ ≤ a.eval Gv.σ := by simp (disch := omega) only [evs, evx, wr, zJ, zD, ev3, e1, e2, zP, zO, zS] <;> omega) : SAll Gv.σ (.mk true a b false :: L) := sc (bF a b h) hI
theorem b0n {L : List SA} (hI : SAll Gv.σ L) (a b : SE) {x y : Int} (ha : a.eval Gv.σ = x := by (try simp (disch := omega) only [evs, evx, wr, zJ, zD, ev3, e1, e2, zP, zO, zS]); rfl) (hb : b.eval Gv.σ = y := by (try simp (disch := omega) only [evs, evx, wr, zJ, zD, ev3, e1, e2, zP, zO, zS]); rfl) : SAll Gv.σ (.mk false a b true :: L) ∧ x = y ∨ SAll Gv.σ (.mk false a b false :: L) ∧ ¬ x = y := by subst ha hb; exact (gq a b).imp (fun h => ⟨sc h.1 hI, h.2⟩) (fun h => ⟨sc h.1 hI, h.2⟩)
theorem a6n {L : List SA} (hI : SAll Gv.σ L) (a b : SE) (h : a.eval Gv.σ = b.eval Gv.σ := by simp (disch := omega) only [evs, evx, wr, zJ, zD, ev3, e1, e2, zP, zO, zS] <;> omega) : SAll Gv.σ (.mk false a b true :: L) := sc (bE a b h) hI
end
end Go.Ev
set_option maxRecDepth 100000
set_option linter.all false
namespace Go.Ev
abbrev a49 : AL := .g (.s 0) (.i (.v 1) (.i (.c 0) .nil))
abbrev oc : SE := .app 43 a49
abbrev bio : List SA := [.mk true oc (.len (.s 0)) false]
abbrev bjt : List SA := [.mk true oc (.len (.s 0)) true]
abbrev a7l : AL := .g (.s 0) (.i (.v 1) (.i (.c 1) .nil))
abbrev aga : SE := .app 43 a7l
abbrev bm4 : List SA := [.mk true aga (.len (.s 0)) false]
abbrev bh4 : List SA := [.mk true aga (.len (.s 0)) true]
abbrev ae4 : SE := .rd (.s 0) (.v 1)
abbrev dm : SE := .bin 0 .i64 (.v 1) (.c 1)
abbrev ada : SE := .app 43 (.g (.s 0) (.i dm (.i (.c 1) .nil)))
abbrev c9 : SE := .bin 6 .i64 (.len (.s 0)) (.bin 7 .i64 (.c (-1)) dm)
abbrev j9 : SE := .bin 6 .i64 (.len (.s 0)) (.bin 7 .i64 (.c (-1)) (.v 1))
abbrev jf : SE := .app 43 (.g (.s 0) (.i dm (.i (.c 0) .nil)))
noncomputable section
def rdO (k h t r : Nat) (p o : SE) : HO := .mk k (.cells 65 false 0 0 [.ptr (K.of h) 0, .ptr (K.of t) 0, .gv (.sl (K.of r) 1 (.len (.s 0)) []), .sym .i64 p [], .sym .i64 o []])
def rwO (r : Nat) : HO := .mk r (.gob (.gh 3 [.i64] (.len (.s 0)) (.s 0)))
def tps (n : Nat) : List AV := List.replicate n .top
def s1 (k : Nat) (a b : SE) : SE := .app k (.g (.s 0) (.i a (.i b .nil)))
def mLn : SE := .bin 6 .i64 (.len (.s 0)) (.bin 7 .i64 (.c (-1)) (.v 1))
def pI : List SA := [.mk false (.app 42 (.g (.s 0) .nil)) (.c 1) true, .mk true (.v 1) (.c 0) false, .mk true (.len (.s 0)) (.v 1) false]
def boa : List AV := [.ptr (K.of 256) 0, .top, .bool false] ++ tps 39
def bsw : List HO := [rdO 256 258 259 257 (.v 1) (.v 2), rwO 257]
def bwx : List HO := [rdO 256 258 259 257 (.app 43 a49) (.v 2), rwO 257]
def bz4 : LR := (.x 0 (.ptr (K.of 256) 0 :: tps 41))
def bp1 (m : SE) : LT := .mk 36 3 boa 260 bsw (pI ++ bio) (some (mLn, m)) bz4 260 bwx
def bu0 : LT := znl (bp1 (.c 0))
def bt8 : List HO := [rdO 256 258 259 257 (.app 43 a49) (.v 2), rwO 257]
def bvx : LR := (.r (.ptr (K.of 256) 0 :: tps 41))
def btq (m : SE) : LT := .mk 36 3 boa 260 bsw (pI ++ bjt) (some (mLn, m)) bvx 260 bt8
def bwq : LT := znl (btq (.c 0))
def bpr : List AV := [.ptr (K.of 256) 0, .top, .bool true] ++ tps 39
def bs4 : List HO := [rdO 256 258 259 257 (.v 1) (.v 2), rwO 257]
def bvo : List HO := [rdO 256 258 259 257 (.app 43 a7l) (.v 2), rwO 257]
def bzh : LR := (.x 0 (.ptr (K.of 256) 0 :: tps 41))
def b08 (m : SE) : LT := .mk 36 3 bpr 260 bs4 (pI ++ bm4) (some (mLn, m)) bzh 260 bvo
def bxh : List HO := [rdO 256 258 259 257 (.app 43 a7l) (.v 2), rwO 257]
def bt4 : LR := (.r (.ptr (K.of 256) 0 :: tps 41))
def b3y (m : SE) : LT := .mk 36 3 bpr 260 bs4 (pI ++ bh4) (some (mLn, m)) bt4 260 bxh
end
theorem qx {σ : Nat → List Int} (h : SAll σ pI) : gn (σ 0) ∧ 0 ≤ (σ 1).headD 0 ∧ (σ 1).headD 0 ≤ ((σ 0).length : Int) ∧ (σ 0).length ≤ 4000 := by
 simp only [pI, sall_cons, s42, sF, evs] at h
 exact ⟨h.1, h.2.1, h.2.2.1, h.1.1⟩
def b0z [Gv] : Prop := (SAll Gv.σ bio → b7 36 3 boa 260 bsw bz4 260 bwx) ∧ (SAll Gv.σ bjt → b7 36 3 boa 260 bsw bvx 260 bt8)
theorem caa [Gv] (hh : ∀ t ∈ [bp1 mLn, btq mLn, b08 mLn, b3y mLn], au t) (hI : SAll Gv.σ pI) : b0z := by
 obtain ⟨hR, hp0, hpl, hL⟩ := qx hI
 rcases zl1 hI (.v 1) (.len (.s 0)) with ⟨hI, k1⟩ | ⟨hI, k1⟩
 ·have := zf1 (qc hR (.v 1))
  rcases zq1 hI ae4 (.c 59) with ⟨hI, k2⟩ | ⟨hI, k2⟩
  ·have hI := zF1 hI dm (.c 0)
   have hI := zF1 hI (.len (.s 0)) dm
   have := zf1 (f43 (σ := Gv.σ) dm (.c 1))
   rcases zl1 hI ada (.len (.s 0)) with ⟨hI, k5⟩ | ⟨hI, k5⟩
   ·have hI := zT1 hI c9 j9
    have hI := zF1 hI c9 (.c 0)
    have := zf1 (f43 (σ := Gv.σ) (.v 1) (.c 0))
    have u := zf2 (dc (Gv.σ 0) ((Gv.σ 1).headD 0) 0)
    exact ⟨zn1,
     zt [] (.i ada oc .nil) aa (zp hI hh) hI ze1⟩
   ·have hI := zT1 hI c9 j9
    have hI := zF1 hI c9 (.c 0)
    have := zf1 (f43 (σ := Gv.σ) (.v 1) (.c 0))
    have u := zf2 (dc (Gv.σ 0) ((Gv.σ 1).headD 0) 0)
    exact ⟨zt [] (.i ada oc .nil) aa (zp hI hh) hI ze1,
     zn1⟩
  ·rcases zq1 hI ae4 (.c 9) with ⟨hI, k3⟩ | ⟨hI, k3⟩
   ·have hI := zF1 hI dm (.c 0)
    have hI := zF1 hI (.len (.s 0)) dm
    have := zf1 (f43 (σ := Gv.σ) dm (.c 0))
    rcases zl1 hI jf (.len (.s 0)) with ⟨hI, k6⟩ | ⟨hI, k6⟩
    ·have hI := zT1 hI c9 j9
     have hI := zF1 hI c9 (.c 0)
     have := zf1 (f43 (σ := Gv.σ) (.v 1) (.c 0))
     have u := zf2 (dc (Gv.σ 0) ((Gv.σ 1).headD 0) 0)
     exact ⟨zn1,
      zt [] (.i jf oc .nil) aa (zp hI hh) hI ze1⟩
    ·have hI := zT1 hI c9 j9
     have hI := zF1 hI c9 (.c 0)
     have := zf1 (f43 (σ := Gv.σ) (.v 1) (.c 0))
     have u := zf2 (dc (Gv.σ 0) ((Gv.σ 1).headD 0) 0)
     exact ⟨zt [] (.i jf oc .nil) aa (zp hI hh) hI ze1,
      zn1⟩
   ·rcases zq1 hI ae4 (.c 10) with ⟨hI, k4⟩ | ⟨hI, k4⟩
    ·have hI := zF1 hI dm (.c 0)
     have hI := zF1 hI (.len (.s 0)) dm
     have := zf1 (f43 (σ := Gv.σ) dm (.c 0))
     rcases zl1 hI jf (.len (.s 0)) with ⟨hI, k7⟩ | ⟨hI, k7⟩
     ·have hI := zT1 hI c9 j9
      have hI := zF1 hI c9 (.c 0)
      have := zf1 (f43 (σ := Gv.σ) (.v 1) (.c 0))
      have u := zf2 (dc (Gv.σ 0) ((Gv.σ 1).headD 0) 0)
      exact ⟨zn1,
       zt [] (.i jf oc .nil) aa (zp hI hh) hI ze1⟩
     ·have hI := zT1 hI c9 j9
      have hI := zF1 hI c9 (.c 0)
      have := zf1 (f43 (σ := Gv.σ) (.v 1) (.c 0))
      have u := zf2 (dc (Gv.σ 0) ((Gv.σ 1).headD 0) 0)
      exact ⟨zt [] (.i jf oc .nil) aa (zp hI hh) hI ze1,
       zn1⟩
    ·rcases zq1 hI ae4 (.c 12) with ⟨hI, k5⟩ | ⟨hI, k5⟩
     ·have hI := zF1 hI dm (.c 0)
      have hI := zF1 hI (.len (.s 0)) dm
      have := zf1 (f43 (σ := Gv.σ) dm (.c 0))
      rcases zl1 hI jf (.len (.s 0)) with ⟨hI, k8⟩ | ⟨hI, k8⟩
      ·have hI := zT1 hI c9 j9
       have hI := zF1 hI c9 (.c 0)
       have := zf1 (f43 (σ := Gv.σ) (.v 1) (.c 0))
       have u := zf2 (dc (Gv.σ 0) ((Gv.σ 1).headD 0) 0)
       exact ⟨zn1,
        zt [] (.i jf oc .nil) aa (zp hI hh) hI ze1⟩
      ·have hI := zT1 hI c9 j9
       have hI := zF1 hI c9 (.c 0)
       have := zf1 (f43 (σ := Gv.σ) (.v 1) (.c 0))
       have u := zf2 (dc (Gv.σ 0) ((Gv.σ 1).headD 0) 0)
       exact ⟨zt [] (.i jf oc .nil) aa (zp hI hh) hI ze1,
        zn1⟩
     ·rcases zq1 hI ae4 (.c 13) with ⟨hI, k6⟩ | ⟨hI, k6⟩
      ·have hI := zF1 hI dm (.c 0)
       have hI := zF1 hI (.len (.s 0)) dm
       have := zf1 (f43 (σ := Gv.σ) dm (.c 0))
       rcases zl1 hI jf (.len (.s 0)) with ⟨hI, k9⟩ | ⟨hI, k9⟩
       ·have hI := zT1 hI c9 j9
        have hI := zF1 hI c9 (.c 0)
        have := zf1 (f43 (σ := Gv.σ) (.v 1) (.c 0))
        have u := zf2 (dc (Gv.σ 0) ((Gv.σ 1).headD 0) 0)
        exact ⟨zn1,
         zt [] (.i jf oc .nil) aa (zp hI hh) hI ze1⟩
       ·have hI := zT1 hI c9 j9
        have hI := zF1 hI c9 (.c 0)
        have := zf1 (f43 (σ := Gv.σ) (.v 1) (.c 0))
        have u := zf2 (dc (Gv.σ 0) ((Gv.σ 1).headD 0) 0)
        exact ⟨zt [] (.i jf oc .nil) aa (zp hI hh) hI ze1,
         zn1⟩
      ·rcases zq1 hI ae4 (.c 32) with ⟨hI, k7⟩ | ⟨hI, k7⟩
       ·have hI := zF1 hI dm (.c 0)
        have hI := zF1 hI (.len (.s 0)) dm
        have := zf1 (f43 (σ := Gv.σ) dm (.c 0))
        rcases zl1 hI jf (.len (.s 0)) with ⟨hI, k10⟩ | ⟨hI, k10⟩
        ·have hI := zT1 hI c9 j9
         have hI := zF1 hI c9 (.c 0)
         have := zf1 (f43 (σ := Gv.σ) (.v 1) (.c 0))
         have u := zf2 (dc (Gv.σ 0) ((Gv.σ 1).headD 0) 0)
         exact ⟨zn1,
          zt [] (.i jf oc .nil) aa (zp hI hh) hI ze1⟩
        ·have hI := zT1 hI c9 j9
         have hI := zF1 hI c9 (.c 0)
         have := zf1 (f43 (σ := Gv.σ) (.v 1) (.c 0))
         have u := zf2 (dc (Gv.σ 0) ((Gv.σ 1).headD 0) 0)
         exact ⟨zt [] (.i jf oc .nil) aa (zp hI hh) hI ze1,
          zn1⟩
       ·have := zf1 (f43 (σ := Gv.σ) (.v 1) (.c 0))
        have u := zf2 (dc (Gv.σ 0) ((Gv.σ 1).headD 0) 0)
        exact ⟨zn1,
         zt [] (.i (.v 1) oc .nil) aa (zp hI hh) hI ze1⟩
 ·have := zf1 (f43 (σ := Gv.σ) (.v 1) (.c 0))
  have u := zf2 (dc (Gv.σ 0) ((Gv.σ 1).headD 0) 0)
  exact ⟨zt [] (.i (.v 1) oc .nil) aa (zp hI hh) hI ze1,
   zn1⟩
def b4h [Gv] : Prop := (SAll Gv.σ bm4 → b7 36 3 bpr 260 bs4 bzh 260 bvo) ∧ (SAll Gv.σ bh4 → b7 36 3 bpr 260 bs4 bt4 260 bxh)
theorem b8l [Gv] (hh : ∀ t ∈ [bp1 mLn, btq mLn, b08 mLn, b3y mLn], au t) (hI : SAll Gv.σ pI) : b4h := by
 obtain ⟨hR, hp0, hpl, hL⟩ := qx hI
 rcases zl1 hI (.v 1) (.len (.s 0)) with ⟨hI, k1⟩ | ⟨hI, k1⟩
 ·have := zf1 (qc hR (.v 1))
  rcases zq1 hI ae4 (.c 10) with ⟨hI, k2⟩ | ⟨hI, k2⟩
  ·have hI := zF1 hI dm (.c 0)
   have hI := zF1 hI (.len (.s 0)) dm
   have := zf1 (f43 (σ := Gv.σ) dm (.c 0))
   rcases zl1 hI jf (.len (.s 0)) with ⟨hI, k5⟩ | ⟨hI, k5⟩
   ·have hI := zT1 hI c9 j9
    have hI := zF1 hI c9 (.c 0)
    have := zf1 (f43 (σ := Gv.σ) (.v 1) (.c 1))
    have u := zf2 (dc (Gv.σ 0) ((Gv.σ 1).headD 0) 1)
    exact ⟨zn1,
     zt [] (.i jf aga .nil) aa (zp hI hh) hI ze1⟩
   ·have hI := zT1 hI c9 j9
    have hI := zF1 hI c9 (.c 0)
    have := zf1 (f43 (σ := Gv.σ) (.v 1) (.c 1))
    have u := zf2 (dc (Gv.σ 0) ((Gv.σ 1).headD 0) 1)
    exact ⟨zt [] (.i jf aga .nil) aa (zp hI hh) hI ze1,
     zn1⟩
  ·have hI := zF1 hI dm (.c 0)
   have hI := zF1 hI (.len (.s 0)) dm
   have := zf1 (f43 (σ := Gv.σ) dm (.c 1))
   rcases zl1 hI ada (.len (.s 0)) with ⟨hI, k5⟩ | ⟨hI, k5⟩
   ·have hI := zT1 hI c9 j9
    have hI := zF1 hI c9 (.c 0)
    have := zf1 (f43 (σ := Gv.σ) (.v 1) (.c 1))
    have u := zf2 (dc (Gv.σ 0) ((Gv.σ 1).headD 0) 1)
    exact ⟨zn1,
     zt [] (.i ada aga .nil) aa (zp hI hh) hI ze1⟩
   ·have hI := zT1 hI c9 j9
    have hI := zF1 hI c9 (.c 0)
    have := zf1 (f43 (σ := Gv.σ) (.v 1) (.c 1))
    have u := zf2 (dc (Gv.σ 0) ((Gv.σ 1).headD 0) 1)
    exact ⟨zt [] (.i ada aga .nil) aa (zp hI hh) hI ze1,
     zn1⟩
 ·have := zf1 (f43 (σ := Gv.σ) (.v 1) (.c 1))
  have u := zf2 (dc (Gv.σ 0) ((Gv.σ 1).headD 0) 1)
  exact ⟨zt [] (.i (.v 1) aga .nil) aa (zp hI hh) hI ze1,
   zn1⟩
theorem a4m : ∀ (B : Nat) (σ : Nat → List Int), SAll σ pI → (mLn).eval σ < (B : Int) → @b0z ⟨σ⟩ ∧ @b4h ⟨σ⟩
 | 0, σ, hI, hb => by obtain ⟨h1, h2, h3, h4⟩ := qx hI; simp only [mLn, evs, wr] at hb; omega
 | B + 1, σ, hI, hb => by
   have ih : ∀ σ' : Nat → List Int, SAll σ' pI → 0 ≤ (mLn).eval σ' ∧ (mLn).eval σ' < (mLn).eval σ → @b0z ⟨σ'⟩ ∧ @b4h ⟨σ'⟩ := fun σ' h h' => a4m B σ' h (by omega)
   have hh : ∀ t ∈ [bp1 (mLn), btq (mLn), b08 (mLn), b3y (mLn)], @au ⟨σ⟩ t := by
    intro t ht
    simp only [List.mem_cons, zH, or_false] at ht
    rcases ht with rfl | rfl | rfl | rfl
    ·exact fun σ' _ hA hb => (ih σ' (aj hA).1 hb).1.1 (aj hA).2
    ·exact fun σ' _ hA hb => (ih σ' (aj hA).1 hb).1.2 (aj hA).2
    ·exact fun σ' _ hA hb => (ih σ' (aj hA).1 hb).2.1 (aj hA).2
    ·exact fun σ' _ hA hb => (ih σ' (aj hA).1 hb).2.2 (aj hA).2
   exact ⟨@caa ⟨σ⟩ hh hI, @b8l ⟨σ⟩ hh hI⟩
theorem bq9 [Gv] : au bu0 := fun σ _ hA _ => (a4m (((mLn).eval σ).toNat + 1) σ (aj hA).1 (by omega)).1.1 (aj hA).2
theorem btr [Gv] : au bwq := fun σ _ hA _ => (a4m (((mLn).eval σ).toNat + 1) σ (aj hA).1 (by omega)).1.2 (aj hA).2
end Go.Ev
set_option maxRecDepth 100000
set_option linter.all false
namespace Go.Ev
theorem bp (R : List Int) (p : Int) : chA R p = if p < (R.length : Int) then R.getD p.toNat 0 else -1 := by
 conv => lhs; unfold chA
 try rfl
theorem jg (c : Int) : v6 c = if c = 40 ∨ c = 41 ∨ c = 91 ∨ c = 93 ∨ c = 34 ∨ c = 39 ∨ c = 96 ∨ c = 44 ∨ c = 59 ∨ ali c = 1 then 1 else 0 := by
 conv => lhs; unfold v6
 try rfl
theorem ay (R : List Int) (p : Int) : yl R p = if p < (R.length : Int) then v6 (R.getD p.toNat 0) else 1 := by
 conv => lhs; unfold yl
 try rfl
theorem ot (c : Int) : ll c =
 if 127 < c then
  if 2047 < c then
   if c < 55296 then [im 9 .u8 224 (sh8 c 12), lo8 (sh8 c 6), lo8 (IntKind.u8.wrap c)]
   else if 57343 < c then
    if 65535 < c then [im 9 .u8 240 (sh8 c 18), lo8 (sh8 c 12), lo8 (sh8 c 6), lo8 (IntKind.u8.wrap c)]
    else [im 9 .u8 224 (sh8 c 12), lo8 (sh8 c 6), lo8 (IntKind.u8.wrap c)]
   else [239, 191, 189]
  else [im 9 .u8 192 (sh8 c 6), lo8 (IntKind.u8.wrap c)]
 else [c] := by
 conv => lhs; unfold ll
 try rfl
theorem c7 (R : List Int) (p : Int) (b : List Int) (q : Int) : lg R p b q =
 if p < (R.length : Int) then
  if v6 (R.getD p.toNat 0) = 1 then ⟨0, p, b, q⟩
  else if R.getD p.toNat 0 = 92 then
   (if p + 1 < (R.length : Int) then lg R (p + 2) (b ++ ll (R.getD (p + 1).toNat 0)) 1 else ⟨5, 0, [], 0⟩)
  else lg R (p + 1) (b ++ ll (R.getD p.toNat 0)) q
 else ⟨0, p, b, q⟩ := by
 conv => lhs; unfold lg
 try rfl
theorem js (d : List Int) (p sum most fits : Int) : acf d p sum most fits =
 if p < (d.length : Int) then
  if drJ d p < 48 ∨ 57 < drJ d p then ⟨0, 0⟩
  else if 0 < dwJ d p then
   (if most < (sum * 10 % 18446744073709551616 + (drJ d p - 48)) % 18446744073709551616 then acf d (p + dwJ d p) most most 0
    else acf d (p + dwJ d p) ((sum * 10 % 18446744073709551616 + (drJ d p - 48)) % 18446744073709551616) most fits)
  else ⟨0, 0⟩
 else ⟨if fits = 1 then 1 else 2, sum⟩ := by
 conv => lhs; unfold acf
 try rfl
theorem xd (s : List Int) : a4k s = if s.getD 0 0 = 45 then 1 else 0 := by
 conv => lhs; unfold a4k
 try rfl
theorem ui (s : List Int) : a5p s = if oo s = [] ∨ (s.length : Int) - ((oo s).length : Int) > 1 then ⟨0, 0⟩ else acf (oo s) 0 0 (if a4k s = 1 then 2305843009213693952 else 2305843009213693951) 1 := by
 conv => lhs; unfold a5p
 try rfl
theorem bea (s : List Int) : a6d s = if a4k s = 1 then -(a5p s).n else (a5p s).n := by
 conv => lhs; unfold a6d
 try rfl
theorem amt (s : List Int) (p : Int) : td s p =
 if p < (s.length : Int) then (if 0 < dwJ s p then 1 + td s (p + dwJ s p) else 0) else 0 := by
 conv => lhs; unfold td
 try rfl
theorem rt (G s : List Int) : gb G s =
 if b9 s = 0 then ⟨5, 0, G⟩
 else if 1000 < td s 0 then ⟨4, 0, G⟩
 else if a6a G s = 1 then ⟨0, brj G s, G⟩
 else if afn G < 16384 then ⟨0, afn G, afn G :: (s.length : Int) :: (s ++ G)⟩
 else ⟨7, 0, G⟩ := by
 conv => lhs; unfold gb
 try rfl
theorem bri (h : List Int) (z : Int) : pa h z = if hM h = hL h ∨ 1048576 < hU h + z then ⟨7, h⟩ else ⟨0, [hL h, hM h + 1, hU h + z]⟩ := by
 conv => lhs; unfold pa
 try rfl
theorem alz (h : List Int) (n : Int) : afg h n = if 65536 < n then ⟨4, h⟩ else pa h n := by
 conv => lhs; unfold afg
 try rfl
theorem agy (h s : List Int) : qr h s = if b9 s = 0 then ⟨5, h⟩ else if 65536 < td s 0 then ⟨4, h⟩ else pa h (td s 0) := by
 conv => lhs; unfold qr
 try rfl
theorem ahw (c : Int) : aa2 c = if c = 110 then 10 else if c = 116 then 9 else if c = 101 then 27 else -1 := by
 conv => lhs; unfold aa2
 try rfl
theorem w9 (c : Int) : alg c = if 48 ≤ c ∧ c ≤ 57 then c - 48 else if 97 ≤ c ∧ c ≤ 102 then c - 87 else if 65 ≤ c ∧ c ≤ 70 then c - 55 else -1 := by
 conv => lhs; unfold alg
 try rfl
theorem ny (R : List Int) (p c n : Int) : mp R p c n =
 if n < 6 ∧ p < (R.length : Int) then
  if alg (R.getD p.toNat 0) < 0 then ⟨0, n, c, p⟩
  else mp R (p + 1) (im 9 .i64 (im 11 .i64 c 4) (alg (R.getD p.toNat 0))) (n + 1)
 else ⟨0, n, c, p⟩ := by
 conv => lhs; unfold mp
 try rfl
theorem pz (c : Int) : vf c = if 0 ≤ c ∧ c ≤ 1114111 ∧ ¬(55296 ≤ c ∧ c ≤ 57343) then 1 else 0 := by
 conv => lhs; unfold vf
 try rfl
theorem ue (R : List Int) (p at_ : Int) : vb R p at_ =
 if (mp R p 0 0).p < (R.length : Int) then
  if (mp R p 0 0).a = 0 ∨ R.getD (mp R p 0 0).p.toNat 0 ≠ 92 ∨ vf (mp R p 0 0).c = 0 then ⟨5, at_, 0, 0⟩
  else ⟨0, 0, (mp R p 0 0).c, (mp R p 0 0).p + 1⟩
 else ⟨5, (R.length : Int), 0, 0⟩ := by
 conv => lhs; unfold vb
 try rfl
theorem nr (R : List Int) (p : Int) : gr R p =
 if p < (R.length : Int) then
  if R.getD p.toNat 0 = 10 then ⟨0, 0, -1, p + 1⟩
  else if R.getD p.toNat 0 = 92 ∨ R.getD p.toNat 0 = 34 then ⟨0, 0, R.getD p.toNat 0, p + 1⟩
  else if R.getD p.toNat 0 = 120 then vb R (p + 1) (p - 1)
  else if aa2 (R.getD p.toNat 0) < 0 then ⟨5, p - 1, 0, 0⟩
  else ⟨0, 0, aa2 (R.getD p.toNat 0), p + 1⟩
 else ⟨5, (R.length : Int), 0, 0⟩ := by
 conv => lhs; unfold gr
 try rfl
theorem c8 (R : List Int) (p : Int) (b : List Int) : np R p b =
 if p < (R.length : Int) then
  if R.getD p.toNat 0 = 34 then ⟨0, 0, b, p + 1⟩
  else if R.getD p.toNat 0 = 92 then
   (if (gr R (p + 1)).f = 0 then
     (if p < (gr R (p + 1)).p then
       (if (gr R (p + 1)).c < 0 then np R (gr R (p + 1)).p b else np R (gr R (p + 1)).p (b ++ ll (gr R (p + 1)).c))
      else ⟨5, 0, [], 0⟩)
    else ⟨(gr R (p + 1)).f, (gr R (p + 1)).a, [], 0⟩)
  else np R (p + 1) (b ++ ll (R.getD p.toNat 0))
 else ⟨5, (R.length : Int), [], 0⟩ := by
 conv => lhs; unfold np
 try rfl
theorem mn (R : List Int) (p : Int) : xo R p = if chA R p = 92 ∧ chA R (p + 2) = 45 then (if chA R (p + 1) = 67 then 67108864 else if chA R (p + 1) = 77 then 134217728 else if chA R (p + 1) = 83 then 33554432 else 0) else 0 := by
 conv => lhs; unfold xo
 try rfl
theorem tv (R : List Int) (p b : Int) : j4 R p b =
 if p < (R.length : Int) then (if xo R p = 0 then ⟨p, b⟩ else j4 R (p + 3) (im 9 .i64 b (xo R p))) else ⟨p, b⟩ := by
 conv => lhs; unfold j4
 try rfl
theorem j5 (R : List Int) (p : Int) : jl R p =
 if p < (R.length : Int) then
  if R.getD p.toNat 0 = 92 then
   (if p + 1 < (R.length : Int) then
     (if aa2 (R.getD (p + 1).toNat 0) < 0 then
       (if R.getD (p + 1).toNat 0 = 115 then ⟨0, 0, 32, p + 2⟩
        else if R.getD (p + 1).toNat 0 = 100 then ⟨0, 0, 127, p + 2⟩
        else if 97 ≤ R.getD (p + 1).toNat 0 ∧ R.getD (p + 1).toNat 0 ≤ 122 ∨ 65 ≤ R.getD (p + 1).toNat 0 ∧ R.getD (p + 1).toNat 0 ≤ 90 then ⟨5, p, 0, 0⟩
        else ⟨0, 0, R.getD (p + 1).toNat 0, p + 2⟩)
      else ⟨0, 0, aa2 (R.getD (p + 1).toNat 0), p + 2⟩)
    else ⟨5, (R.length : Int), 0, 0⟩)
  else ⟨0, 0, R.getD p.toNat 0, p + 1⟩
 else ⟨5, (R.length : Int), 0, 0⟩ := by
 conv => lhs; unfold jl
 try rfl
theorem bts (c b : Int) : bop c b =
 if im 8 .i64 b 67108864 = 0 then im 9 .i64 c b
 else if 97 ≤ c ∧ c ≤ 122 ∨ 64 ≤ c ∧ c ≤ 95 then im 9 .i64 (c.tmod 32) (im 13 .i64 b 67108864)
 else if c = 63 then im 9 .i64 127 (im 13 .i64 b 67108864)
 else im 9 .i64 c b := by
 conv => lhs; unfold bop
 try rfl
theorem ee (R : List Int) (q : Int) : oe R q =
 if (jl R (j4 R (q + 1) 0).p).f = 0 then
  if yl R (jl R (j4 R (q + 1) 0).p).p = 1 then ⟨0, 0, bop (jl R (j4 R (q + 1) 0).p).c (j4 R (q + 1) 0).b, (jl R (j4 R (q + 1) 0).p).p⟩
  else ⟨5, (jl R (j4 R (q + 1) 0).p).p, 0, 0⟩
 else ⟨(jl R (j4 R (q + 1) 0).p).f, (jl R (j4 R (q + 1) 0).p).a, 0, 0⟩ := by
 conv => lhs; unfold oe
 try rfl
theorem bm (G s : List Int) (at_ p : Int) (h : List Int) : ai7 G s at_ p h = if (gb G s).f = 0 then ⟨0, 0, 1, (gb G s).n, p, h, (gb G s).G⟩ else bad (gb G s).f at_ := by
 conv => lhs; unfold ai7
 try rfl
theorem al6 (t : TK) (len q : Int) (h G : List Int) : alj t len q h G =
 if t.f = 0 then
  if t.q = 0 ∧ acp t.b = 2 then bad 15 q
  else if t.q = 0 ∧ acp t.b = 1 then ⟨0, 0, 0, a6d t.b, t.p, h, G⟩
  else if t.q = 0 ∧ t.b = [46] then bad 5 q
  else if 1000 < td t.b 0 then bad 4 q
  else ai7 G t.b q t.p h
 else bad 5 len := by
 conv => lhs; unfold alj
 try rfl
theorem bj (t : TX) (q : Int) (h G : List Int) : a2r t q h G =
 if t.f = 0 then (if (qr h t.b).f = 0 then ⟨0, 0, 3, hM h, t.p, (qr h t.b).h, G⟩ else bad (qr h t.b).f q) else bad t.f t.a := by
 conv => lhs; unfold a2r
 try rfl
theorem bl (t : ER) (h G : List Int) : a4c t h G = if t.f = 0 then ⟨0, 0, 0, t.c, t.p, h, G⟩ else bad t.f t.a := by
 conv => lhs; unfold a4c
 try rfl
theorem bh (c : CN) (q p : Int) (G : List Int) : asv c q p G = if c.f = 0 then ⟨0, 0, c.k, c.n, p, c.h, G⟩ else bad c.f q := by
 conv => lhs; unfold asv
 try rfl
theorem btv (v : AR) (q p n : Int) (G : List Int) : avr v q p n G = if v.f = 0 then ⟨0, 0, 4, n, p, v.h, G⟩ else bad v.f q := by
 conv => lhs; unfold avr
 try rfl
theorem bn (r : FR) (q : Int) : we r q = if r.f = 0 then asv (l9 2 r.h 1 0) q r.p r.G else r := by
 conv => lhs; unfold we
 try rfl
theorem ap (R : List Int) (p o : Int) (h G : List Int) : al R p o h G =
 if af R p 0 < (R.length : Int) then
  if chA R (af R p 0) = 40 then (if 200 ≤ o then bad 12 (af R p 0) else iu R (af R p 0 + 1) (o + 1) (af R p 0) 0 1 0 h G)
  else if chA R (af R p 0) = 91 then (if 200 ≤ o then bad 12 (af R p 0) else qd R (af R p 0 + 1) (o + 1) (af R p 0) 0 h G)
  else if chA R (af R p 0) = 41 ∨ chA R (af R p 0) = 93 then bad 5 (af R p 0)
  else if chA R (af R p 0) = 34 then a2r (np R (af R p 0 + 1) []) (af R p 0) h G
  else if chA R (af R p 0) = 63 then a4c (oe R (af R p 0)) h G
  else if chA R (af R p 0) = 39 ∨ chA R (af R p 0) = 96 then (if 200 ≤ o then bad 12 (af R p 0) else we (al R (af R p 0 + 1) (o + 1) h G) (af R p 0))
  else if chA R (af R p 0) = 44 then
   (if chA R (af R p 0 + 1) = 64 then (if 200 ≤ o then bad 12 (af R p 0) else we (al R (af R p 0 + 2) (o + 1) h G) (af R p 0))
    else (if 200 ≤ o then bad 12 (af R p 0) else we (al R (af R p 0 + 1) (o + 1) h G) (af R p 0)))
  else if chA R (af R p 0) = 35 then
   (if chA R (af R p 0 + 1) = 39 then (if 200 ≤ o then bad 12 (af R p 0) else we (al R (af R p 0 + 2) (o + 1) h G) (af R p 0))
    else if chA R (af R p 0 + 1) = 35 ∧ yl R (af R p 0 + 2) = 1 then ai7 G [] (af R p 0) (af R p 0 + 2) h
    else bad 5 (af R p 0))
  else alj (lg R (af R p 0) [] 0) (R.length : Int) (af R p 0) h G
 else bad 5 (R.length : Int) := by
 conv => lhs; unfold al
 try rfl
theorem ce (R : List Int) (p o at_ cnt tk tn : Int) (h G : List Int) : iu R p o at_ cnt tk tn h G =
 if af R p 0 < (R.length : Int) then
  if chA R (af R p 0) = 41 then asv (l9 cnt h tk tn) at_ (af R p 0 + 1) G
  else if chA R (af R p 0) = 46 ∧ yl R (af R p 0 + 1) = 1 ∧ 0 < cnt then
   (if (al R (af R p 0 + 1) o h G).f = 0 then
     (if af R p 0 < af R (al R (af R p 0 + 1) o h G).p 0 then
       (if chA R (af R (al R (af R p 0 + 1) o h G).p 0) = 41 then iu R (af R (al R (af R p 0 + 1) o h G).p 0) o at_ cnt (al R (af R p 0 + 1) o h G).k (al R (af R p 0 + 1) o h G).n (al R (af R p 0 + 1) o h G).h (al R (af R p 0 + 1) o h G).G
        else bad 5 (af R (al R (af R p 0 + 1) o h G).p 0))
      else bad 5 0)
    else al R (af R p 0 + 1) o h G)
  else
   (if (al R (af R p 0) o h G).f = 0 then
     (if af R p 0 < (al R (af R p 0) o h G).p then iu R (al R (af R p 0) o h G).p o at_ (cnt + 1) tk tn (al R (af R p 0) o h G).h (al R (af R p 0) o h G).G else bad 5 0)
    else al R (af R p 0) o h G)
 else bad 5 (R.length : Int) := by
 conv => lhs; unfold iu
 try rfl
theorem ga (R : List Int) (p o at_ cnt : Int) (h G : List Int) : qd R p o at_ cnt h G =
 if af R p 0 < (R.length : Int) then
  if chA R (af R p 0) = 93 then avr (afg h cnt) at_ (af R p 0 + 1) (hM h) G
  else
   (if (al R (af R p 0) o h G).f = 0 then
     (if af R p 0 < (al R (af R p 0) o h G).p then qd R (al R (af R p 0) o h G).p o at_ (cnt + 1) (al R (af R p 0) o h G).h (al R (af R p 0) o h G).G else bad 5 0)
    else al R (af R p 0) o h G)
 else bad 5 (R.length : Int) := by
 conv => lhs; unfold qd
 try rfl
end Go.Ev
set_option maxRecDepth 100000
set_option linter.all false
namespace Go.Ev
abbrev bjb : List SA := [.mk false (.app 41 (.i (.v 1) .nil)) (.c 1) true]
abbrev bnx : List SA := [.mk false (.app 41 (.i (.v 1) .nil)) (.c 1) false]
abbrev bi3 : AL := .g (.s 0) (.i (.v 1) (.i (.c 0) .nil))
abbrev aby : GE := .app 40 (.i (.v 1) .nil)
abbrev afu : GE := .cat (.s 3) aby
abbrev act : SE := .len aby
abbrev afk : SE := .bin 6 .i64 (.len (.s 3)) act
abbrev bl9 : List SA := [.mk true (.c 50000) (.len (.s 3)) false]
abbrev qq : SE := .bin 0 .u32 (.v 1) (.c 0)
abbrev aee : SE := .bin 6 .i64 (.len (.s 3)) (.c 3)
abbrev bat : SE := .bin 0 .u8 (.bin 12 .i32 (.v 1) (.c 12)) (.c 0)
abbrev a70 : SE := .bin 0 .u8 (.bin 12 .i32 (.v 1) (.c 6)) (.c 0)
abbrev beb : GE := .one (.bin 9 .u8 (.c 128) (.bin 8 .u8 (.bin 0 .u8 (.v 1) (.c 0)) (.c 63)))
abbrev bds : GE := .cat (.one (.bin 9 .u8 (.c 128) (.bin 8 .u8 a70 (.c 63)))) beb
abbrev ayl : GE := .cat (.one (.bin 9 .u8 (.c 224) bat)) bds
abbrev bc2 : GE := .cat (.s 3) ayl
abbrev bcq : SE := .bin 6 .i64 (.len (.s 3)) (.c 4)
abbrev a75 : GE := .cat (.one (.bin 9 .u8 (.c 240) (.bin 0 .u8 (.bin 12 .i32 (.v 1) (.c 18)) (.c 0)))) (.cat (.one (.bin 9 .u8 (.c 128) (.bin 8 .u8 bat (.c 63)))) bds)
abbrev baq : SE := .bin 6 .i64 (.len (.s 3)) (.c 2)
abbrev ba9 : GE := .cat (.one (.bin 9 .u8 (.c 192) a70)) beb
abbrev a92 : SE := .bin 6 .i64 (.len (.s 3)) (.c 1)
noncomputable section
def dlU : List AV := [.sym .i64 (.v 1) []]
def dlI : List HO := []
def b7i : List HO := []
def b7l : TR := .ret (.bool true)
def aen : TM := .mk 28 dlU 256 dlI ([] ++ bjb) none b7l 256 b7i
def b62 : List HO := []
def b5f : TR := .ret (.bool false)
def aeh : TM := .mk 28 dlU 256 dlI ([] ++ bnx) none b5f 256 b62
def b8x : List AV := [.int .i64 92]
def b9j : List HO := []
def b5b : List HO := []
def b6l : TR := .ret (.bool false)
def bes : TM := .mk 28 b8x 256 b9j ([] ++ []) none b6l 256 b5b
def b9b : List AV := [.ptr (K.of 256) 0]
def b9x : List HO := [rdO 256 258 259 257 (.v 1) (.v 2), rwO 257]
def cab : List HO := [rdO 256 258 259 257 (.app 43 bi3) (.v 2), rwO 257]
def caj : TR := .ret (.tuple [])
def af8 : TM := .mk 36 b9b 260 b9x (pI ++ []) none caj 260 cab
def buO (k r : Nat) (g : GE) (n : SE) : List HO := [.mk k (.cells 108 false 0 0 [.ptr (K.of k) 0, .gv (.sl (K.of r) 1 n [])]), .mk r (.gob (.gh 5 [.u8] n g))]
def wI : List SA := [.mk true (.v 1) (.c 0) false, .mk true (.v 1) (.c 1114112) true]
def b6d : List AV := [.ptr (K.of 256) 0, .sym .i32 (.v 1) []]
def b47 : List HO := buO 256 257 (.s 3) (.len (.s 3))
def b5j : List HO := buO 256 258 afu afk
def b6p : TR := .ret (.tuple [.top, .nilIface])
def b0u : TM := .mk 68 b6d 258 b47 ((wI ++ bl9) ++ []) none b6p 259 b5j
def b8g : List AV := [.ptr (K.of 256) 0, .sym .i32 (.v 1) []]
def b83 : List HO := [.mk 256 (.cells 108 false 0 0 [.nilPtr, .nilSlice])]
def b49 : List HO := buO 256 257 (.app 40 (.i (.v 1) .nil)) act
def b9u : TR := .ret (.tuple [.top, .nilIface])
def b2o : TM := .mk 68 b8g 257 b83 (wI ++ []) none b9u 258 b49
end
def dlG [Gv] : Prop := (SAll Gv.σ bjb → ba 28 dlU 256 dlI b7l 256 b7i) ∧ (SAll Gv.σ bnx → ba 28 dlU 256 dlI b5f 256 b62)
theorem b72 [Gv] (hI : SAll Gv.σ []) : dlG := by
 rcases zq1 hI (.v 1) (.c 40) with ⟨hI, k1⟩ | ⟨hI, k1⟩
 ·have u := zf2 (jg ((Gv.σ 1).headD 0))
  exact ⟨zm0 [] aa ag hI,
   zn1⟩
 ·rcases zq1 hI (.v 1) (.c 41) with ⟨hI, k2⟩ | ⟨hI, k2⟩
  ·have u := zf2 (jg ((Gv.σ 1).headD 0))
   exact ⟨zm0 [] aa ag hI,
    zn1⟩
  ·rcases zq1 hI (.v 1) (.c 91) with ⟨hI, k3⟩ | ⟨hI, k3⟩
   ·have u := zf2 (jg ((Gv.σ 1).headD 0))
    exact ⟨zm0 [] aa ag hI,
     zn1⟩
   ·rcases zq1 hI (.v 1) (.c 93) with ⟨hI, k4⟩ | ⟨hI, k4⟩
    ·have u := zf2 (jg ((Gv.σ 1).headD 0))
     exact ⟨zm0 [] aa ag hI,
      zn1⟩
    ·rcases zq1 hI (.v 1) (.c 34) with ⟨hI, k5⟩ | ⟨hI, k5⟩
     ·have u := zf2 (jg ((Gv.σ 1).headD 0))
      exact ⟨zm0 [] aa ag hI,
       zn1⟩
     ·rcases zq1 hI (.v 1) (.c 39) with ⟨hI, k6⟩ | ⟨hI, k6⟩
      ·have u := zf2 (jg ((Gv.σ 1).headD 0))
       exact ⟨zm0 [] aa ag hI,
        zn1⟩
      ·rcases zq1 hI (.v 1) (.c 96) with ⟨hI, k7⟩ | ⟨hI, k7⟩
       ·have u := zf2 (jg ((Gv.σ 1).headD 0))
        exact ⟨zm0 [] aa ag hI,
         zn1⟩
       ·rcases zq1 hI (.v 1) (.c 44) with ⟨hI, k8⟩ | ⟨hI, k8⟩
        ·have u := zf2 (jg ((Gv.σ 1).headD 0))
         exact ⟨zm0 [] aa ag hI,
          zn1⟩
        ·rcases zq1 hI (.v 1) (.c 59) with ⟨hI, k9⟩ | ⟨hI, k9⟩
         ·have u := zf2 (jg ((Gv.σ 1).headD 0))
          exact ⟨zm0 [] aa ag hI,
           zn1⟩
         ·rcases zq1 hI (.v 1) (.c 9) with ⟨hI, k10⟩ | ⟨hI, k10⟩
          ·have u := zf2 (jg ((Gv.σ 1).headD 0))
           exact ⟨zm0 [] aa ag hI,
            zn1⟩
          ·rcases zq1 hI (.v 1) (.c 10) with ⟨hI, k11⟩ | ⟨hI, k11⟩
           ·have u := zf2 (jg ((Gv.σ 1).headD 0))
            exact ⟨zm0 [] aa ag hI,
             zn1⟩
           ·rcases zq1 hI (.v 1) (.c 12) with ⟨hI, k12⟩ | ⟨hI, k12⟩
            ·have u := zf2 (jg ((Gv.σ 1).headD 0))
             exact ⟨zm0 [] aa ag hI,
              zn1⟩
            ·rcases zq1 hI (.v 1) (.c 13) with ⟨hI, k13⟩ | ⟨hI, k13⟩
             ·have u := zf2 (jg ((Gv.σ 1).headD 0))
              exact ⟨zm0 [] aa ag hI,
               zn1⟩
             ·rcases zq1 hI (.v 1) (.c 32) with ⟨hI, k14⟩ | ⟨hI, k14⟩
              ·have u := zf2 (jg ((Gv.σ 1).headD 0))
               exact ⟨zm0 [] aa ag hI,
                zn1⟩
              ·have u := zf2 (jg ((Gv.σ 1).headD 0))
               exact ⟨zn1,
                zm0 [] aa ag hI⟩
theorem avt [Gv] : am aen := fun σ _ hA _ => (@b72 ⟨σ⟩  (aj hA).1).1 (aj hA).2
theorem ay0 [Gv] : am aeh := fun σ _ hA _ => (@b72 ⟨σ⟩  (aj hA).1).2 (aj hA).2
def cbr [Gv] : Prop := (SAll Gv.σ [] → ba 28 b8x 256 b9j b6l 256 b5b)
theorem b6q [Gv] (hI : SAll Gv.σ []) : cbr := by
 have u := trivial
 exact zm0 [] aa ag hI
theorem bje [Gv] : am bes := fun σ _ hA _ => (@b6q ⟨σ⟩  (aj hA).1) (aj hA).2
theorem axm {α : Type} {p : α → Prop} {a b : α} (ha : p a) (hb : p b) : ∀ t ∈ [a, b], p t := by
 intro t ht
 simp only [List.mem_cons, zH, or_false] at ht
 rcases ht with rfl | rfl
 ·exact ha
 ·exact hb
theorem cg {α : Type} {p : α → Prop} {a : α} (ha : p a) : ∀ t ∈ [a], p t := by
 intro t ht
 rw [List.mem_singleton] at ht; subst ht; exact ha
theorem sk2 [Gv] : ∀ t ∈ [bu0, bwq], au t := axm bq9 btr
def cco [Gv] : Prop := (SAll Gv.σ [] → ba 36 b9b 260 b9x caj 260 cab)
theorem b7x [Gv] (hI : SAll Gv.σ pI) : cco := by
 obtain ⟨hR, hp0, hpl, hL⟩ := qx hI
 have := zf1 (f43 (σ := Gv.σ) (.v 1) (.c 0))
 rcases zl1 hI (.app 43 bi3) (.len (.s 0)) with ⟨hI, k1⟩ | ⟨hI, k1⟩
 ·have u := trivial
  exact zm0 [] aa (zp hI sk2) hI
 ·have u := trivial
  exact zm0 [] aa (zp hI sk2) hI
theorem a54 [Gv] : am af8 := fun σ _ hA _ => (@b7x ⟨σ⟩  (aj hA).1) (aj hA).2
theorem bks {σ : Nat → List Int} (h : SAll σ wI) : 0 ≤ (σ 1).headD 0 ∧ (σ 1).headD 0 < 1114112 := by
 simp only [wI, sall_cons, sT, sF, evs] at h
 exact ⟨h.1, h.2.1⟩
def cbi [Gv] : Prop := (SAll Gv.σ [] → ba 68 b6d 258 b47 b6p 259 b5j)
theorem b7e [Gv] (hI : SAll Gv.σ (wI ++ bl9)) : cbi := by
 have hw := bks (aj hI).1
 have h50 : ((Gv.σ 3).length : Int) ≤ 50000 := by have := (aj hI).2; simp only [sall_cons, sF, evs] at this; exact this.1
 rcases zl1 hI (.c 127) qq with ⟨hI, k1⟩ | ⟨hI, k1⟩
 ·rcases zl1 hI (.c 2047) qq with ⟨hI, k2⟩ | ⟨hI, k2⟩
  ·rcases zl1 hI qq (.c 55296) with ⟨hI, k3⟩ | ⟨hI, k3⟩
   ·have hI := zF1 hI (.c 60000) aee
    have := zf1 (f40 (σ := Gv.σ) (.v 1))
    have u := zf3 (ot ((Gv.σ 1).headD 0))
    exact zm [(259, 258)] (.i aee afk (.g bc2 afu .nil)) aa ag hI ze2
   ·rcases zl1 hI (.c 57343) qq with ⟨hI, k4⟩ | ⟨hI, k4⟩
    ·rcases zl1 hI (.c 65535) qq with ⟨hI, k5⟩ | ⟨hI, k5⟩
     ·have hI := zF1 hI (.c 1114111) qq
      have hI := zF1 hI (.c 60000) bcq
      have := zf1 (f40 (σ := Gv.σ) (.v 1))
      have u := zf3 (ot ((Gv.σ 1).headD 0))
      exact zm [(259, 258)] (.i bcq afk (.g (.cat (.s 3) a75) afu .nil)) aa ag hI ze2
     ·have hI := zF1 hI (.c 60000) aee
      have := zf1 (f40 (σ := Gv.σ) (.v 1))
      have u := zf3 (ot ((Gv.σ 1).headD 0))
      exact zm [(259, 258)] (.i aee afk (.g bc2 afu .nil)) aa ag hI ze2
    ·have hI := zF1 hI (.c 65535) qq
     have hI := zF1 hI (.c 60000) aee
     have := zf1 (f40 (σ := Gv.σ) (.v 1))
     have u := zf3 (ot ((Gv.σ 1).headD 0))
     exact zm [(259, 258)] (.i aee afk (.g (.cat (.s 3) (.cat (.one (.c 239)) (.cat (.one (.c 191)) (.one (.c 189))))) afu .nil)) aa ag hI ze2
  ·have hI := zF1 hI (.c 60000) baq
   have := zf1 (f40 (σ := Gv.σ) (.v 1))
   have u := zf3 (ot ((Gv.σ 1).headD 0))
   exact zm [(259, 258)] (.i baq afk (.g (.cat (.s 3) ba9) afu .nil)) aa ag hI ze2
 ·have hI := zF1 hI (.c 60000) a92
  have := zf1 (f40 (σ := Gv.σ) (.v 1))
  have u := zf3 (ot ((Gv.σ 1).headD 0))
  exact zm [(259, 258)] (.i a92 afk (.g (.cat (.s 3) (.one (.bin 0 .u8 (.v 1) (.c 0)))) afu .nil)) aa ag hI ze2
theorem bjx [Gv] : am b0u := fun σ _ hA _ => (@b7e ⟨σ⟩  (aj hA).1) (aj hA).2
def can [Gv] : Prop := (SAll Gv.σ [] → ba 68 b8g 257 b83 b9u 258 b49)
theorem b5c [Gv] (hI : SAll Gv.σ wI) : can := by
 have hw := bks hI
 rcases zl1 hI (.c 127) qq with ⟨hI, k1⟩ | ⟨hI, k1⟩
 ·rcases zl1 hI (.c 2047) qq with ⟨hI, k2⟩ | ⟨hI, k2⟩
  ·rcases zl1 hI qq (.c 55296) with ⟨hI, k3⟩ | ⟨hI, k3⟩
   ·have := zf1 (f40 (σ := Gv.σ) (.v 1))
    have u := zf3 (ot ((Gv.σ 1).headD 0))
    exact zm [(258, 257)] (.i (.c 3) act (.g ayl aby .nil)) aa ag hI ze2
   ·rcases zl1 hI (.c 57343) qq with ⟨hI, k4⟩ | ⟨hI, k4⟩
    ·rcases zl1 hI (.c 65535) qq with ⟨hI, k5⟩ | ⟨hI, k5⟩
     ·have hI := zF1 hI (.c 1114111) qq
      have := zf1 (f40 (σ := Gv.σ) (.v 1))
      have u := zf3 (ot ((Gv.σ 1).headD 0))
      exact zm [(258, 257)] (.i (.c 4) act (.g a75 aby .nil)) aa ag hI ze2
     ·have := zf1 (f40 (σ := Gv.σ) (.v 1))
      have u := zf3 (ot ((Gv.σ 1).headD 0))
      exact zm [(258, 257)] (.i (.c 3) act (.g ayl aby .nil)) aa ag hI ze2
    ·have hI := zF1 hI (.c 65535) qq
     have := zf1 (f40 (σ := Gv.σ) (.v 1))
     have u := zf3 (ot ((Gv.σ 1).headD 0))
     exact zm [(258, 257)] (.i (.c 3) act (.g (.lit 3 15712189) aby .nil)) aa ag hI ze2
  ·have := zf1 (f40 (σ := Gv.σ) (.v 1))
   have u := zf3 (ot ((Gv.σ 1).headD 0))
   exact zm [(258, 257)] (.i (.c 2) act (.g ba9 aby .nil)) aa ag hI ze2
 ·have := zf1 (f40 (σ := Gv.σ) (.v 1))
  have u := zf3 (ot ((Gv.σ 1).headD 0))
  exact zm [(258, 257)] (.i (.c 1) act (.g (.one (.bin 0 .u8 (.v 1) (.c 0))) aby .nil)) aa ag hI ze2
theorem bmg [Gv] : am b2o := fun σ _ hA _ => (@b5c ⟨σ⟩  (aj hA).1) (aj hA).2
end Go.Ev
