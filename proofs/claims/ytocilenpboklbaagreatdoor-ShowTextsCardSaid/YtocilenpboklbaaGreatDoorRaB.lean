import Derived.Test.YtocilenpboklbaaGreatDoorEvGh
import Derived.Lib.DecodeN
set_option maxRecDepth 100000
set_option linter.all false
namespace Go.Ev
section
variable {σ : Nat → List Int}
theorem sall_cons {A : List SA} {x : SA} : SAll σ (x :: A) ↔ x.holds σ ∧ SAll σ A := by
 constructor
 ·exact fun h => ⟨h _ (by simp), fun y hy => h y (zA _ hy)⟩
 ·rintro ⟨h1, h2⟩ y hy
  rcases List.mem_cons.1 hy with rfl | hy
  ·exact h1
  ·exact h2 y hy
theorem an6 {a b : SE} (h : a.eval σ < b.eval σ) : (SA.mk true a b true).holds σ := decide_eq_true h
theorem ad1 {a b : SE} (h : ¬ a.eval σ < b.eval σ) : (SA.mk true a b false).holds σ := decide_eq_false h
theorem a9h {a b : SE} (h : ¬ a.eval σ = b.eval σ) : (SA.mk false a b false).holds σ := decide_eq_false h
theorem a9g {a b : SE} (h : a.eval σ = b.eval σ) : (SA.mk false a b true).holds σ := decide_eq_true h
end
open Classical in
theorem btu {p : Prop} : (if p then (1 : Int) else 0) = 1 ↔ p := by
 by_cases h : p
 ·rw [if_pos h]; exact ⟨fun _ => h, fun _ => rfl⟩
 ·rw [if_neg h]; exact ⟨fun e => absurd e (by decide), fun e => absurd e h⟩
theorem bcz {x : Int} (h : -9223372036854775808 ≤ x ∧ x ≤ 9223372036854775807) : IntKind.i64.wrap x = x := by
 simp only [IntKind.wrap, IntKind.bits, IntKind.signed]; simp; omega
theorem bra {x : Int} (h : -2147483648 ≤ x ∧ x ≤ 2147483647) : IntKind.i32.wrap x = x := by
 simp only [IntKind.wrap, IntKind.bits, IntKind.signed]; simp; omega
theorem bih {x : Int} (h : 0 ≤ x ∧ x ≤ 4294967295) : IntKind.u32.wrap x = x := by
 simp only [IntKind.wrap, IntKind.bits, IntKind.signed]; simp; omega
theorem brb {x : Int} (h : 0 ≤ x ∧ x ≤ 255) : IntKind.u8.wrap x = x := by
 simp only [IntKind.wrap, IntKind.bits, IntKind.signed]; simp; omega
theorem my (l : List Int) (p : Nat) (h : p < l.length) : 1 ≤ (Utf8.decode (aj l) p).2 ∧ p + (Utf8.decode (aj l) p).2 ≤ l.length ∧ (Utf8.decode (aj l) p).1 ≤ 1114111 := by
 have hs : (aj l).size = l.length := cx (l := l)
 rw [Lib.decode_at, hs]
 generalize ((aj l).get! p).toNat = b0
 generalize ((aj l).get! (p + 1)).toNat = b1
 generalize ((aj l).get! (p + 2)).toNat = b2
 generalize ((aj l).get! (p + 3)).toNat = b3
 unfold Lib.decodeN
 repeat' split
 all_goals simp only
 all_goals omega
theorem adp : ∀ (f g : Nat) (s : List Int) (p : Nat), s.length ≤ p + f → s.length ≤ p + g → ia f s p = ia g s p
 | 0, 0, _, _, _, _ => rfl
 | 0, g + 1, s, p, h, _ => by unfold ia; rw [if_neg (by omega)]
 | f + 1, 0, s, p, _, h => by unfold ia; rw [if_neg (by omega)]
 | f + 1, g + 1, s, p, h1, h2 => by
   unfold ia
   split
   ·rename_i hp
    have := (my s p hp).1
    have e : aj s = py s := rfl
    rw [e] at this
    rw [adp f g s _ (by omega) (by omega)]
   ·rfl
theorem wj {s : List Int} {p : Nat} (h : p < s.length) : ak s p = ((Utf8.decode (aj s) p).1 : Int) :: ak s (p + (Utf8.decode (aj s) p).2) := by
 obtain ⟨f, hf⟩ : ∃ f, s.length = f + 1 := ⟨s.length - 1, by omega⟩
 have hd := (my s p h).1
 show ia s.length s p = _ :: ia s.length s _
 rw [hf]
 show (if p < s.length then _ else _) = _
 rw [if_pos h]
 congr 1
 exact adp _ _ _ _ (by show s.length ≤ p + (Utf8.decode (aj s) p).2 + f; omega) (by show s.length ≤ p + (Utf8.decode (aj s) p).2 + (f + 1); omega)
theorem awd {s : List Int} {p : Nat} (h : s.length ≤ p) : ak s p = [] := by
 show ia s.length s p = []
 cases hf : s.length with
 | zero => rfl
 | succ f => show (if p < s.length then _ else _) = _; rw [if_neg (by omega)]
end Go.Ev
set_option maxRecDepth 100000
set_option linter.all false
namespace Go.Ev
theorem sl {σ : Nat → List Int} (a b : SE) : (SA.mk true a b true).holds σ ∧ a.eval σ < b.eval σ ∨ (SA.mk true a b false).holds σ ∧ b.eval σ ≤ a.eval σ := by
 by_cases h : a.eval σ < b.eval σ
 ·exact .inl ⟨an6 h, h⟩
 ·exact .inr ⟨ad1 h, by omega⟩
theorem se {σ : Nat → List Int} (a b : SE) : (SA.mk false a b true).holds σ ∧ a.eval σ = b.eval σ ∨ (SA.mk false a b false).holds σ ∧ ¬ a.eval σ = b.eval σ := by
 by_cases h : a.eval σ = b.eval σ
 ·exact .inl ⟨a9g h, h⟩
 ·exact .inr ⟨a9h h, h⟩
theorem sc {σ : Nat → List Int} {A : List SA} {x : SA} (h : x.holds σ) (h' : SAll σ A) : SAll σ (x :: A) := sall_cons.2 ⟨h, h'⟩
theorem sT {σ : Nat → List Int} {a b : SE} : (SA.mk true a b true).holds σ ↔ a.eval σ < b.eval σ := decide_eq_true_iff
theorem sF {σ : Nat → List Int} {a b : SE} : (SA.mk true a b false).holds σ ↔ b.eval σ ≤ a.eval σ := ⟨fun h => by have := of_decide_eq_false h; omega, fun h => ad1 (by omega)⟩
theorem sE {σ : Nat → List Int} {a b : SE} : (SA.mk false a b true).holds σ ↔ a.eval σ = b.eval σ := decide_eq_true_iff
theorem sN {σ : Nat → List Int} {a b : SE} : (SA.mk false a b false).holds σ ↔ ¬ a.eval σ = b.eval σ := decide_eq_false_iff_not
theorem aud : ∀ (n : Nat) (l : List Int), az1 n l = alo n l
 | 0, _ => rfl
 | _ + 1, [] => rfl
 | _ + 1, [_] => rfl
 | n + 1, a :: b :: l => by show _ :: az1 n _ = _ :: alo n _; rw [aud n]
theorem auc (l : List Int) : aub l = wy l := by unfold aub wy; rw [aud]
theorem evs : (∀ (σ : Nat → List Int) (i : Nat), (SE.v i).eval σ = (σ i).headD 0) ∧
  (∀ (σ : Nat → List Int) (n : Int), (SE.c n).eval σ = n) ∧
  (∀ (σ : Nat → List Int) (g : GE), (SE.len g).eval σ = ((g.eval σ).length : Int)) ∧
  (∀ (σ : Nat → List Int) (g : GE) (e : SE), (SE.rd g e).eval σ = (g.eval σ).getD (e.eval σ).toNat 0) ∧
  (∀ (σ : Nat → List Int) (g : GE) (e : SE), (SE.dr g e).eval σ = drJ (g.eval σ) (e.eval σ)) ∧
  (∀ (σ : Nat → List Int) (g : GE) (e : SE), (SE.dw g e).eval σ = dwJ (g.eval σ) (e.eval σ)) ∧
  (∀ (σ : Nat → List Int) (g h : GE), (SE.eqg g h).eval σ = if g.eval σ = h.eval σ then 1 else 0) ∧
  (∀ (σ : Nat → List Int) (g h : GE), (SE.mhas g h).eval σ = bo5 (g.eval σ) (h.eval σ)) ∧
  (∀ (σ : Nat → List Int) (g h : GE), (SE.mget g h).eval σ = bo3 (g.eval σ) (h.eval σ)) ∧
  (∀ (σ : Nat → List Int) (k : IntKind) (a b : SE), (SE.bin 0 k a b).eval σ = k.wrap (a.eval σ + b.eval σ)) ∧
  (∀ (σ : Nat → List Int) (k : IntKind) (a b : SE), (SE.bin 1 k a b).eval σ = k.wrap (a.eval σ - b.eval σ)) ∧
  (∀ (σ : Nat → List Int) (k : IntKind) (a b : SE), (SE.bin 2 k a b).eval σ = k.wrap (a.eval σ * b.eval σ)) ∧
  (∀ (σ : Nat → List Int) (k : IntKind) (a b : SE), (SE.bin 4 k a b).eval σ = (a.eval σ).tmod (b.eval σ)) ∧
  (∀ (σ : Nat → List Int) (k : IntKind) (a b : SE), (SE.bin 6 k a b).eval σ = a.eval σ + b.eval σ) ∧
  (∀ (σ : Nat → List Int) (k : IntKind) (a b : SE), (SE.bin 7 k a b).eval σ = a.eval σ * b.eval σ) ∧
  (∀ (σ : Nat → List Int) (k : IntKind) (a b : SE), (SE.bin 8 k a b).eval σ = jn 8 k (a.eval σ) (b.eval σ)) ∧
  (∀ (σ : Nat → List Int) (k : IntKind) (a b : SE), (SE.bin 9 k a b).eval σ = jn 9 k (a.eval σ) (b.eval σ)) ∧
  (∀ (σ : Nat → List Int) (k : IntKind) (a b : SE), (SE.bin 11 k a b).eval σ = jn 11 k (a.eval σ) (b.eval σ)) ∧
  (∀ (σ : Nat → List Int) (k : IntKind) (a b : SE), (SE.bin 12 k a b).eval σ = jn 12 k (a.eval σ) (b.eval σ)) ∧
  (∀ (σ : Nat → List Int) (k : IntKind) (a b : SE), (SE.bin 13 k a b).eval σ = jn 13 k (a.eval σ) (b.eval σ)) ∧
  (∀ (σ : Nat → List Int) (i : Nat), (GE.s i).eval σ = σ i) ∧
  (∀ (σ : Nat → List Int), GE.nil.eval σ = []) ∧
  (∀ (σ : Nat → List Int), (GE.lit 0 0).eval σ = []) ∧
  (∀ (σ : Nat → List Int) (e : SE), (GE.one e).eval σ = [e.eval σ]) ∧
  (∀ (σ : Nat → List Int) (g h : GE), (GE.cat g h).eval σ = g.eval σ ++ h.eval σ) ∧
  (∀ (σ : Nat → List Int) (g : GE) (a b : SE), (GE.cut g a b).eval σ = ((g.eval σ).take (b.eval σ).toNat).drop (a.eval σ).toNat) ∧
  (∀ (σ : Nat → List Int) (c : SE), (SE.app 40 (.i c .nil)).eval σ = ald (c.eval σ)) ∧
  (∀ (σ : Nat → List Int) (c : SE), (SE.app 41 (.i c .nil)).eval σ = sj (c.eval σ)) ∧
  (∀ (σ : Nat → List Int) (R : GE) (p b : SE), (SE.app 43 (.g R (.i p (.i b .nil)))).eval σ = al (R.eval σ) (p.eval σ) (b.eval σ)) ∧
  (∀ (σ : Nat → List Int) (R b : GE) (p q : SE), (SE.app 44 (.g R (.i p (.g b (.i q .nil))))).eval σ = (kk (R.eval σ) (p.eval σ) (b.eval σ) (q.eval σ)).f) ∧
  (∀ (σ : Nat → List Int) (R b : GE) (p q : SE), (SE.app 45 (.g R (.i p (.g b (.i q .nil))))).eval σ = (kk (R.eval σ) (p.eval σ) (b.eval σ) (q.eval σ)).p) ∧
  (∀ (σ : Nat → List Int) (R b : GE) (p q : SE), (SE.app 46 (.g R (.i p (.g b (.i q .nil))))).eval σ = (kk (R.eval σ) (p.eval σ) (b.eval σ) (q.eval σ)).q) ∧
  (∀ (σ : Nat → List Int) (s : GE), (SE.app 47 (.g s .nil)).eval σ = qw (s.eval σ)) ∧
  (∀ (σ : Nat → List Int) (s : GE), (SE.app 48 (.g s .nil)).eval σ = auo (s.eval σ)) ∧
  (∀ (σ : Nat → List Int) (s : GE) (p : SE), (SE.app 49 (.g s (.i p .nil))).eval σ = vt (s.eval σ) (p.eval σ)) ∧
  (∀ (σ : Nat → List Int) (s : GE), (SE.app 50 (.g s .nil)).eval σ = bj (s.eval σ)) ∧
  (∀ (σ : Nat → List Int) (d : GE) (p s m t : SE), (SE.app 51 (.g d (.i p (.i s (.i m (.i t .nil)))))).eval σ = (lf (d.eval σ) (p.eval σ) (s.eval σ) (m.eval σ) (t.eval σ)).k) ∧
  (∀ (σ : Nat → List Int) (d : GE) (p s m t : SE), (SE.app 52 (.g d (.i p (.i s (.i m (.i t .nil)))))).eval σ = (lf (d.eval σ) (p.eval σ) (s.eval σ) (m.eval σ) (t.eval σ)).n) ∧
  (∀ (σ : Nat → List Int) (G : GE), (SE.app 53 (.g G .nil)).eval σ = aia (G.eval σ)) ∧
  (∀ (σ : Nat → List Int) (G s : GE), (SE.app 54 (.g G (.g s .nil))).eval σ = (nj (G.eval σ) (s.eval σ)).f) ∧
  (∀ (σ : Nat → List Int) (G s : GE), (SE.app 55 (.g G (.g s .nil))).eval σ = (nj (G.eval σ) (s.eval σ)).n) ∧
  (∀ (σ : Nat → List Int) (h : GE) (z : SE), (SE.app 57 (.g h (.i z .nil))).eval σ = (ua (h.eval σ) (z.eval σ)).f) ∧
  (∀ (σ : Nat → List Int) (h : GE) (z : SE), (SE.app 58 (.g h (.i z .nil))).eval σ = (bcv (h.eval σ) (z.eval σ)).f) ∧
  (∀ (σ : Nat → List Int) (h s : GE), (SE.app 59 (.g h (.g s .nil))).eval σ = (n8 (h.eval σ) (s.eval σ)).f) ∧
  (∀ (σ : Nat → List Int) (R h G : GE) (p o : SE), (SE.app 60 (.g R (.i p (.i o (.g h (.g G .nil)))))).eval σ = (ce (R.eval σ) (p.eval σ) (o.eval σ) (h.eval σ) (G.eval σ)).f) ∧
  (∀ (σ : Nat → List Int) (R h G : GE) (p o : SE), (SE.app 61 (.g R (.i p (.i o (.g h (.g G .nil)))))).eval σ = (ce (R.eval σ) (p.eval σ) (o.eval σ) (h.eval σ) (G.eval σ)).a) ∧
  (∀ (σ : Nat → List Int) (R h G : GE) (p o : SE), (SE.app 62 (.g R (.i p (.i o (.g h (.g G .nil)))))).eval σ = (ce (R.eval σ) (p.eval σ) (o.eval σ) (h.eval σ) (G.eval σ)).k) ∧
  (∀ (σ : Nat → List Int) (R h G : GE) (p o : SE), (SE.app 63 (.g R (.i p (.i o (.g h (.g G .nil)))))).eval σ = (ce (R.eval σ) (p.eval σ) (o.eval σ) (h.eval σ) (G.eval σ)).n) ∧
  (∀ (σ : Nat → List Int) (R h G : GE) (p o : SE), (SE.app 64 (.g R (.i p (.i o (.g h (.g G .nil)))))).eval σ = (ce (R.eval σ) (p.eval σ) (o.eval σ) (h.eval σ) (G.eval σ)).p) ∧
  (∀ (σ : Nat → List Int) (R h G : GE) (p o a c k n : SE), (SE.app 65 (.g R (.i p (.i o (.i a (.i c (.i k (.i n (.g h (.g G .nil)))))))))).eval σ = (n5 (R.eval σ) (p.eval σ) (o.eval σ) (a.eval σ) (c.eval σ) (k.eval σ) (n.eval σ) (h.eval σ) (G.eval σ)).f) ∧
  (∀ (σ : Nat → List Int) (R h G : GE) (p o a c k n : SE), (SE.app 66 (.g R (.i p (.i o (.i a (.i c (.i k (.i n (.g h (.g G .nil)))))))))).eval σ = (n5 (R.eval σ) (p.eval σ) (o.eval σ) (a.eval σ) (c.eval σ) (k.eval σ) (n.eval σ) (h.eval σ) (G.eval σ)).a) ∧
  (∀ (σ : Nat → List Int) (R h G : GE) (p o a c k n : SE), (SE.app 67 (.g R (.i p (.i o (.i a (.i c (.i k (.i n (.g h (.g G .nil)))))))))).eval σ = (n5 (R.eval σ) (p.eval σ) (o.eval σ) (a.eval σ) (c.eval σ) (k.eval σ) (n.eval σ) (h.eval σ) (G.eval σ)).k) ∧
  (∀ (σ : Nat → List Int) (R h G : GE) (p o a c k n : SE), (SE.app 68 (.g R (.i p (.i o (.i a (.i c (.i k (.i n (.g h (.g G .nil)))))))))).eval σ = (n5 (R.eval σ) (p.eval σ) (o.eval σ) (a.eval σ) (c.eval σ) (k.eval σ) (n.eval σ) (h.eval σ) (G.eval σ)).n) ∧
  (∀ (σ : Nat → List Int) (R h G : GE) (p o a c k n : SE), (SE.app 69 (.g R (.i p (.i o (.i a (.i c (.i k (.i n (.g h (.g G .nil)))))))))).eval σ = (n5 (R.eval σ) (p.eval σ) (o.eval σ) (a.eval σ) (c.eval σ) (k.eval σ) (n.eval σ) (h.eval σ) (G.eval σ)).p) ∧
  (∀ (σ : Nat → List Int) (R h G : GE) (p o a c : SE), (SE.app 70 (.g R (.i p (.i o (.i a (.i c (.g h (.g G .nil)))))))).eval σ = (ack (R.eval σ) (p.eval σ) (o.eval σ) (a.eval σ) (c.eval σ) (h.eval σ) (G.eval σ)).f) ∧
  (∀ (σ : Nat → List Int) (R h G : GE) (p o a c : SE), (SE.app 71 (.g R (.i p (.i o (.i a (.i c (.g h (.g G .nil)))))))).eval σ = (ack (R.eval σ) (p.eval σ) (o.eval σ) (a.eval σ) (c.eval σ) (h.eval σ) (G.eval σ)).a) ∧
  (∀ (σ : Nat → List Int) (R h G : GE) (p o a c : SE), (SE.app 72 (.g R (.i p (.i o (.i a (.i c (.g h (.g G .nil)))))))).eval σ = (ack (R.eval σ) (p.eval σ) (o.eval σ) (a.eval σ) (c.eval σ) (h.eval σ) (G.eval σ)).n) ∧
  (∀ (σ : Nat → List Int) (R h G : GE) (p o a c : SE), (SE.app 73 (.g R (.i p (.i o (.i a (.i c (.g h (.g G .nil)))))))).eval σ = (ack (R.eval σ) (p.eval σ) (o.eval σ) (a.eval σ) (c.eval σ) (h.eval σ) (G.eval σ)).p) ∧
  (∀ (σ : Nat → List Int) (h : GE) (i k n : SE), (SE.app 74 (.i i (.g h (.i k (.i n .nil))))).eval σ = (si (i.eval σ) (h.eval σ) (k.eval σ) (n.eval σ)).f) ∧
  (∀ (σ : Nat → List Int) (h : GE) (i k n : SE), (SE.app 75 (.i i (.g h (.i k (.i n .nil))))).eval σ = (si (i.eval σ) (h.eval σ) (k.eval σ) (n.eval σ)).k) ∧
  (∀ (σ : Nat → List Int) (h : GE) (i k n : SE), (SE.app 76 (.i i (.g h (.i k (.i n .nil))))).eval σ = (si (i.eval σ) (h.eval σ) (k.eval σ) (n.eval σ)).n) ∧
  (∀ (σ : Nat → List Int) (c : SE), (SE.app 77 (.i c .nil)).eval σ = acb (c.eval σ)) ∧
  (∀ (σ : Nat → List Int) (c : SE), (SE.app 78 (.i c .nil)).eval σ = aik (c.eval σ)) ∧
  (∀ (σ : Nat → List Int) (c : SE), (SE.app 79 (.i c .nil)).eval σ = qf (c.eval σ)) ∧
  (∀ (σ : Nat → List Int) (R : GE) (p c n : SE), (SE.app 80 (.g R (.i p (.i c (.i n .nil))))).eval σ = (mp (R.eval σ) (p.eval σ) (c.eval σ) (n.eval σ)).p) ∧
  (∀ (σ : Nat → List Int) (R : GE) (p c n : SE), (SE.app 81 (.g R (.i p (.i c (.i n .nil))))).eval σ = (mp (R.eval σ) (p.eval σ) (c.eval σ) (n.eval σ)).c) ∧
  (∀ (σ : Nat → List Int) (R : GE) (p c n : SE), (SE.app 82 (.g R (.i p (.i c (.i n .nil))))).eval σ = (mp (R.eval σ) (p.eval σ) (c.eval σ) (n.eval σ)).a) ∧
  (∀ (σ : Nat → List Int) (R : GE) (p a : SE), (SE.app 83 (.g R (.i p (.i a .nil)))).eval σ = (ul (R.eval σ) (p.eval σ) (a.eval σ)).f) ∧
  (∀ (σ : Nat → List Int) (R : GE) (p a : SE), (SE.app 84 (.g R (.i p (.i a .nil)))).eval σ = (ul (R.eval σ) (p.eval σ) (a.eval σ)).a) ∧
  (∀ (σ : Nat → List Int) (R : GE) (p a : SE), (SE.app 85 (.g R (.i p (.i a .nil)))).eval σ = (ul (R.eval σ) (p.eval σ) (a.eval σ)).c) ∧
  (∀ (σ : Nat → List Int) (R : GE) (p a : SE), (SE.app 86 (.g R (.i p (.i a .nil)))).eval σ = (ul (R.eval σ) (p.eval σ) (a.eval σ)).p) ∧
  (∀ (σ : Nat → List Int) (R : GE) (p : SE), (SE.app 87 (.g R (.i p .nil))).eval σ = (jc (R.eval σ) (p.eval σ)).f) ∧
  (∀ (σ : Nat → List Int) (R : GE) (p : SE), (SE.app 88 (.g R (.i p .nil))).eval σ = (jc (R.eval σ) (p.eval σ)).a) ∧
  (∀ (σ : Nat → List Int) (R : GE) (p : SE), (SE.app 89 (.g R (.i p .nil))).eval σ = (jc (R.eval σ) (p.eval σ)).c) ∧
  (∀ (σ : Nat → List Int) (R : GE) (p : SE), (SE.app 90 (.g R (.i p .nil))).eval σ = (jc (R.eval σ) (p.eval σ)).p) ∧
  (∀ (σ : Nat → List Int) (R b : GE) (p : SE), (SE.app 91 (.g R (.i p (.g b .nil)))).eval σ = (jp (R.eval σ) (p.eval σ) (b.eval σ)).f) ∧
  (∀ (σ : Nat → List Int) (R b : GE) (p : SE), (SE.app 92 (.g R (.i p (.g b .nil)))).eval σ = (jp (R.eval σ) (p.eval σ) (b.eval σ)).a) ∧
  (∀ (σ : Nat → List Int) (R b : GE) (p : SE), (SE.app 93 (.g R (.i p (.g b .nil)))).eval σ = (jp (R.eval σ) (p.eval σ) (b.eval σ)).p) ∧
  (∀ (σ : Nat → List Int) (R : GE) (p : SE), (SE.app 94 (.g R (.i p .nil))).eval σ = bgo (R.eval σ) (p.eval σ)) ∧
  (∀ (σ : Nat → List Int) (R : GE) (p b : SE), (SE.app 95 (.g R (.i p (.i b .nil)))).eval σ = (aea (R.eval σ) (p.eval σ) (b.eval σ)).p) ∧
  (∀ (σ : Nat → List Int) (R : GE) (p b : SE), (SE.app 96 (.g R (.i p (.i b .nil)))).eval σ = (aea (R.eval σ) (p.eval σ) (b.eval σ)).b) ∧
  (∀ (σ : Nat → List Int) (R : GE) (p : SE), (SE.app 97 (.g R (.i p .nil))).eval σ = (zl (R.eval σ) (p.eval σ)).f) ∧
  (∀ (σ : Nat → List Int) (R : GE) (p : SE), (SE.app 98 (.g R (.i p .nil))).eval σ = (zl (R.eval σ) (p.eval σ)).a) ∧
  (∀ (σ : Nat → List Int) (R : GE) (p : SE), (SE.app 100 (.g R (.i p .nil))).eval σ = (zl (R.eval σ) (p.eval σ)).c) ∧
  (∀ (σ : Nat → List Int) (R : GE) (p : SE), (SE.app 101 (.g R (.i p .nil))).eval σ = (zl (R.eval σ) (p.eval σ)).p) ∧
  (∀ (σ : Nat → List Int) (R : GE) (p : SE), (SE.app 102 (.g R (.i p .nil))).eval σ = (aba (R.eval σ) (p.eval σ)).f) ∧
  (∀ (σ : Nat → List Int) (R : GE) (p : SE), (SE.app 103 (.g R (.i p .nil))).eval σ = (aba (R.eval σ) (p.eval σ)).a) ∧
  (∀ (σ : Nat → List Int) (R : GE) (p : SE), (SE.app 104 (.g R (.i p .nil))).eval σ = (aba (R.eval σ) (p.eval σ)).c) ∧
  (∀ (σ : Nat → List Int) (R : GE) (p : SE), (SE.app 105 (.g R (.i p .nil))).eval σ = (aba (R.eval σ) (p.eval σ)).p) ∧
  (∀ (σ : Nat → List Int) (R l h G : GE) (p : SE), (SE.app 106 (.g R (.i p (.g l (.g h (.g G .nil)))))).eval σ = (ub (R.eval σ) (p.eval σ) (l.eval σ) (h.eval σ) (G.eval σ)).f) ∧
  (∀ (σ : Nat → List Int) (R l h G : GE) (p : SE), (SE.app 107 (.g R (.i p (.g l (.g h (.g G .nil)))))).eval σ = (ub (R.eval σ) (p.eval σ) (l.eval σ) (h.eval σ) (G.eval σ)).a) ∧
  (∀ (σ : Nat → List Int) (R : GE) (p : SE), (SE.app 108 (.g R (.i p .nil))).eval σ = apb (R.eval σ) (p.eval σ)) ∧
  (∀ (σ : Nat → List Int) (s : GE) (p : SE), (GE.app 6 (.g s (.i p .nil))).eval σ = ak (s.eval σ) (p.eval σ).toNat) ∧
  (∀ (σ : Nat → List Int) (c : SE), (GE.app 40 (.i c .nil)).eval σ = c9 (c.eval σ)) ∧
  (∀ (σ : Nat → List Int) (R b : GE) (p q : SE), (GE.app 44 (.g R (.i p (.g b (.i q .nil))))).eval σ = (kk (R.eval σ) (p.eval σ) (b.eval σ) (q.eval σ)).b) ∧
  (∀ (σ : Nat → List Int) (s : GE), (GE.app 47 (.g s .nil)).eval σ = gy (s.eval σ)) ∧
  (∀ (σ : Nat → List Int) (G s : GE), (GE.app 54 (.g G (.g s .nil))).eval σ = (nj (G.eval σ) (s.eval σ)).G) ∧
  (∀ (σ : Nat → List Int) (h : GE) (z : SE), (GE.app 57 (.g h (.i z .nil))).eval σ = (ua (h.eval σ) (z.eval σ)).h) ∧
  (∀ (σ : Nat → List Int) (h : GE) (z : SE), (GE.app 58 (.g h (.i z .nil))).eval σ = (bcv (h.eval σ) (z.eval σ)).h) ∧
  (∀ (σ : Nat → List Int) (h s : GE), (GE.app 59 (.g h (.g s .nil))).eval σ = (n8 (h.eval σ) (s.eval σ)).h) ∧
  (∀ (σ : Nat → List Int) (R h G : GE) (p o : SE), (GE.app 60 (.g R (.i p (.i o (.g h (.g G .nil)))))).eval σ = (ce (R.eval σ) (p.eval σ) (o.eval σ) (h.eval σ) (G.eval σ)).h) ∧
  (∀ (σ : Nat → List Int) (R h G : GE) (p o : SE), (GE.app 61 (.g R (.i p (.i o (.g h (.g G .nil)))))).eval σ = (ce (R.eval σ) (p.eval σ) (o.eval σ) (h.eval σ) (G.eval σ)).G) ∧
  (∀ (σ : Nat → List Int) (R h G : GE) (p o a c k n : SE), (GE.app 65 (.g R (.i p (.i o (.i a (.i c (.i k (.i n (.g h (.g G .nil)))))))))).eval σ = (n5 (R.eval σ) (p.eval σ) (o.eval σ) (a.eval σ) (c.eval σ) (k.eval σ) (n.eval σ) (h.eval σ) (G.eval σ)).h) ∧
  (∀ (σ : Nat → List Int) (R h G : GE) (p o a c k n : SE), (GE.app 66 (.g R (.i p (.i o (.i a (.i c (.i k (.i n (.g h (.g G .nil)))))))))).eval σ = (n5 (R.eval σ) (p.eval σ) (o.eval σ) (a.eval σ) (c.eval σ) (k.eval σ) (n.eval σ) (h.eval σ) (G.eval σ)).G) ∧
  (∀ (σ : Nat → List Int) (R h G : GE) (p o a c : SE), (GE.app 70 (.g R (.i p (.i o (.i a (.i c (.g h (.g G .nil)))))))).eval σ = (ack (R.eval σ) (p.eval σ) (o.eval σ) (a.eval σ) (c.eval σ) (h.eval σ) (G.eval σ)).h) ∧
  (∀ (σ : Nat → List Int) (R h G : GE) (p o a c : SE), (GE.app 71 (.g R (.i p (.i o (.i a (.i c (.g h (.g G .nil)))))))).eval σ = (ack (R.eval σ) (p.eval σ) (o.eval σ) (a.eval σ) (c.eval σ) (h.eval σ) (G.eval σ)).G) ∧
  (∀ (σ : Nat → List Int) (h : GE) (i k n : SE), (GE.app 74 (.i i (.g h (.i k (.i n .nil))))).eval σ = (si (i.eval σ) (h.eval σ) (k.eval σ) (n.eval σ)).h) ∧
  (∀ (σ : Nat → List Int) (R b : GE) (p : SE), (GE.app 91 (.g R (.i p (.g b .nil)))).eval σ = (jp (R.eval σ) (p.eval σ) (b.eval σ)).b) ∧
  (∀ (σ : Nat → List Int) (R l h G : GE) (p : SE), (GE.app 106 (.g R (.i p (.g l (.g h (.g G .nil)))))).eval σ = (ub (R.eval σ) (p.eval σ) (l.eval σ) (h.eval σ) (G.eval σ)).l) ∧
  (∀ (σ : Nat → List Int) (R l h G : GE) (p : SE), (GE.app 107 (.g R (.i p (.g l (.g h (.g G .nil)))))).eval σ = (ub (R.eval σ) (p.eval σ) (l.eval σ) (h.eval σ) (G.eval σ)).h) ∧
  (∀ (σ : Nat → List Int) (R l h G : GE) (p : SE), (GE.app 108 (.g R (.i p (.g l (.g h (.g G .nil)))))).eval σ = (ub (R.eval σ) (p.eval σ) (l.eval σ) (h.eval σ) (G.eval σ)).G) :=
 ⟨by intros; rfl, by intros; rfl, by intros; rfl, by intros; rfl, by intros; rfl, by intros; rfl, by intros; rfl, by intros; simp only [SE.eval, bo5, auc], by intros; simp only [SE.eval, bo3, auc], by intros; rfl, by intros; rfl, by intros; rfl, by intros; rfl, by intros; rfl, by intros; rfl, by intros; rfl, by intros; rfl, by intros; rfl, by intros; rfl, by intros; rfl, by intros; rfl, by intros; rfl, by intros; rfl, by intros; rfl, by intros; rfl, by intros; rfl, by intros; rfl, by intros; rfl, by intros; rfl, by intros; rfl, by intros; rfl, by intros; rfl, by intros; rfl, by intros; rfl, by intros; rfl, by intros; rfl, by intros; rfl, by intros; rfl, by intros; rfl, by intros; rfl, by intros; rfl, by intros; rfl, by intros; rfl, by intros; rfl, by intros; rfl, by intros; rfl, by intros; rfl, by intros; rfl, by intros; rfl, by intros; rfl, by intros; rfl, by intros; rfl, by intros; rfl, by intros; rfl, by intros; rfl, by intros; rfl, by intros; rfl, by intros; rfl, by intros; rfl, by intros; rfl, by intros; rfl, by intros; rfl, by intros; rfl, by intros; rfl, by intros; rfl, by intros; rfl, by intros; rfl, by intros; rfl, by intros; rfl, by intros; rfl, by intros; rfl, by intros; rfl, by intros; rfl, by intros; rfl, by intros; rfl, by intros; rfl, by intros; rfl, by intros; rfl, by intros; rfl, by intros; rfl, by intros; rfl, by intros; rfl, by intros; rfl, by intros; rfl, by intros; rfl, by intros; rfl, by intros; rfl, by intros; rfl, by intros; rfl, by intros; rfl, by intros; rfl, by intros; rfl, by intros; rfl, by intros; rfl, by intros; rfl, by intros; rfl, by intros; rfl, by intros; rfl, by intros; rfl, by intros; rfl, by intros; rfl, by intros; rfl, by intros; rfl, by intros; rfl, by intros; rfl, by intros; rfl, by intros; rfl, by intros; rfl, by intros; rfl, by intros; rfl, by intros; rfl⟩
theorem wr : (∀ x : Int, -9223372036854775808 ≤ x ∧ x ≤ 9223372036854775807 → IntKind.i64.wrap x = x) ∧ (∀ x : Int, -2147483648 ≤ x ∧ x ≤ 2147483647 → IntKind.i32.wrap x = x) ∧
  (∀ x : Int, 0 ≤ x ∧ x ≤ 4294967295 → IntKind.u32.wrap x = x) ∧ (∀ x : Int, 0 ≤ x ∧ x ≤ 255 → IntKind.u8.wrap x = x) ∧ (∀ x : Int, IntKind.u64.wrap x = x % 18446744073709551616) ∧ (∀ x : Int, 0 ≤ x ∧ x ≤ 18446744073709551615 → x % 18446744073709551616 = x) ∧
  (∀ x : Int, x + 0 = x) ∧ (∀ x : Int, 0 + x = x) ∧ (∀ x : Int, -1 * x = -x) ∧ (∀ x y : Int, x + -y = x - y) ∧ (∀ x : Int, ([x] : List Int).headD 0 = x) ∧ (∀ (α : Type) (a b : α), (if True then a else b) = a) ∧ (∀ (α : Type) (a b : α), (if False then a else b) = b) ∧ (¬True ↔ False) ∧ (¬False ↔ True) ∧ (∀ p : Prop, (False ∧ p ↔ False)) ∧ (∀ p : Prop, (True ∧ p ↔ p)) ∧ (∀ p : Prop, (p ∧ False ↔ False)) ∧ (∀ p : Prop, (p ∧ True ↔ p)) ∧ (∀ p : Prop, (p ∨ True ↔ True)) ∧ (∀ p : Prop, (p ∨ False ↔ p)) ∧ (∀ p : Prop, (True ∨ p ↔ True)) ∧ (∀ p : Prop, (False ∨ p ↔ p)) ∧ (∀ p : Prop, ((True → p) ↔ p)) ∧ (∀ p : Prop, ((False → p) ↔ True)) ∧ (∀ x : Int, x + 1 + 1 = x + 2) ∧ (∀ x : Int, x + 1 + 2 = x + 3) ∧ (∀ x : Int, x + 2 + 1 = x + 3) ∧ (∀ l m : List Int, (((l ++ m).length : Nat) : Int) = (l.length : Int) + (m.length : Int)) ∧ (∀ (p : Prop) [Decidable p], ((if p then (1 : Int) else 0) = 1 ↔ p)) ∧ ((0 : Int).toNat = 0) ∧ ((1 : Int).toNat = 1) ∧ ((2 : Int).toNat = 2) :=
 ⟨fun _ h => bcz h, fun _ h => bra h, fun _ h => bih h, fun _ h => brb h, fun x => by simp only [IntKind.wrap, IntKind.bits, IntKind.signed]; simp, fun x h => Int.emod_eq_of_lt h.1 (by omega), Int.add_zero, Int.zero_add, fun x => (Int.neg_eq_neg_one_mul x).symm, fun _ _ => Int.sub_eq_add_neg.symm, fun _ => rfl, fun _ _ _ => if_pos trivial, fun _ _ _ => if_neg id, by simp, by simp, by simp, by simp, by simp, by simp, by simp, by simp, by simp, by simp, by simp, by simp, by omega, by omega, by omega, by simp, fun p _ => by by_cases h : p <;> simp [h], rfl, rfl, rfl⟩
end Go.Ev
set_option maxRecDepth 100000
set_option linter.all false
namespace Go.Ev
section
variable {σ : Nat → List Int}
open Classical in
theorem s42 {g : GE} : (SA.mk false (.app 42 (.g g .nil)) (.c 1) true).holds σ ↔ ou (g.eval σ) := by
 show decide (bp2 42 [g.eval σ] = 1) = true ↔ _
 rw [decide_eq_true_iff]
 exact btu
theorem gl [Gv] (a b : SE) : (SA.mk true a b true).holds Gv.σ ∧ a.eval Gv.σ < b.eval Gv.σ ∨ (SA.mk true a b false).holds Gv.σ ∧ b.eval Gv.σ ≤ a.eval Gv.σ := sl a b
theorem gq [Gv] (a b : SE) : (SA.mk false a b true).holds Gv.σ ∧ a.eval Gv.σ = b.eval Gv.σ ∨ (SA.mk false a b false).holds Gv.σ ∧ ¬ a.eval Gv.σ = b.eval Gv.σ := se a b
theorem bT [Gv] (a b : SE) (h : a.eval Gv.σ < b.eval Gv.σ) : (SA.mk true a b true).holds Gv.σ := an6 h
theorem bF [Gv] (a b : SE) (h : b.eval Gv.σ ≤ a.eval Gv.σ) : (SA.mk true a b false).holds Gv.σ := ad1 (by omega)
theorem bE [Gv] (a b : SE) (h : a.eval Gv.σ = b.eval Gv.σ) : (SA.mk false a b true).holds Gv.σ := a9g h
theorem bN [Gv] (a b : SE) (h : ¬ a.eval Gv.σ = b.eval Gv.σ) : (SA.mk false a b false).holds Gv.σ := a9h h
theorem ai {A B : List SA} (h : SAll σ (A ++ B)) : SAll σ A ∧ SAll σ B := ⟨fun x hx => h x (List.mem_append_left _ hx), fun x hx => h x (List.mem_append_right _ hx)⟩
theorem bva {R : List Int} (hR : ou R) (i : Nat) : 0 ≤ R.getD i 0 ∧ R.getD i 0 < 1114112 := by
 by_cases h : i < R.length
 ·have := hR.2 (R[i]) (List.getElem_mem h)
  rw [show R.getD i 0 = R[i] by simp [List.getD, h]]; exact this
 ·rw [show R.getD i 0 = 0 by simp [List.getD, Nat.le_of_not_lt h]]; omega
theorem adu (hR : ou (σ 0)) (e : SE) : 0 ≤ (SE.rd (.s 0) e).eval σ ∧ (SE.rd (.s 0) e).eval σ < 1114112 := bva hR _
theorem f40 (a : SE) : 1 ≤ (SE.len (.app 40 (.i a .nil))).eval σ ∧ (SE.len (.app 40 (.i a .nil))).eval σ ≤ 4 := by
 show 1 ≤ ((c9 (a.eval σ)).length : Int) ∧ ((c9 (a.eval σ)).length : Int) ≤ 4
 unfold c9
 repeat' split
 all_goals (simp only [zO, zS]; omega)
theorem bf9 : (GE.lit 3 15712189).eval σ = [239, 191, 189] := by
 simp only [GE.eval]
 decide +kernel
theorem ec (R : List Int) (p b : Int) : al R p b = if p < (R.length : Int) then
  if b = 1 then al R (p + 1) (if R.getD p.toNat 0 = 10 then 0 else 1)
  else if R.getD p.toNat 0 = 59 then al R (p + 1) 1
  else if ald (R.getD p.toNat 0) = 1 then al R (p + 1) 0
  else p
 else p := by
 conv => lhs; rw [al]
 split <;> rfl
theorem ace (R : List Int) : ∀ (n : Nat) (p b : Int), ((R.length : Int) - p).toNat ≤ n → p ≤ (R.length : Int) → al R p b ≤ (R.length : Int)
 | 0, p, b, h, hp => by rw [ec, if_neg (by omega)]; omega
 | n + 1, p, b, h, hp => by
   rw [ec]
   split
   ·split
    ·exact ace R n (p + 1) _ (by omega) (by omega)
    ·split
     ·exact ace R n (p + 1) 1 (by omega) (by omega)
     ·split
      ·exact ace R n (p + 1) 0 (by omega) (by omega)
      ·omega
   ·omega
theorem f43 (a b : SE) : a.eval σ ≤ (SE.app 43 (.g (.s 0) (.i a (.i b .nil)))).eval σ ∧ (a.eval σ ≤ ((σ 0).length : Int) → (SE.app 43 (.g (.s 0) (.i a (.i b .nil)))).eval σ ≤ ((σ 0).length : Int)) :=
 ⟨af8 _ _ _, fun h => ace _ _ _ _ (zY _) h⟩
end
end Go.Ev
set_option maxRecDepth 100000
set_option linter.all false
namespace Go.Ev
/- Lemmas that carry their tactic as a default: what is decided is kept in one list. -/
noncomputable section
def znl : LT → LT
 | .mk f k us nxi Li A _ r nxo Lo => .mk f k us nxi Li A none r nxo Lo
end
section
variable [Gv]
theorem zh {A : List SA} (hI : SAll Gv.σ A) {l : List TM} (h : ∀ t ∈ l, ax t) : pq (abx A l) := ai9 hI _ h
theorem zp {A : List SA} (hI : SAll Gv.σ A) {l : List LT} (h : ∀ t ∈ l, au t) : afm (bpj A l) := bgf hI _ h
theorem zm0 {P : Prop} {f : FuncId} {us : List AV} {nxi : Nat} {Li : List HO} {A : List SA} {r : TR} {nxo : Nat} {Lo : List HO} (T : List (Nat × Nat)) {H : ahr} (hH : pq H) {L : vk} (hL : afm L) (hA : SAll Gv.σ A) (hx : Nat.blt nxi 65536 = true := by rfl) (ht : zj Li = true := by rfl) (h : aa7 T nxi nxo .nil Lo r (enter (afo H L 2000) f (aVs A us) (bl (aHO A Li) nxi)) = true := by kernel_rfl) : P → bz f us nxi Li r nxo Lo := fun _ => bf (E := .nil) hH hL hA trivial hx ht h
theorem zm {P : Prop} {f : FuncId} {us : List AV} {nxi : Nat} {Li : List HO} {A : List SA} {r : TR} {nxo : Nat} {Lo : List HO} (T : List (Nat × Nat)) (E : EqL) {H : ahr} (hH : pq H) {L : vk} (hL : afm L) (hA : SAll Gv.σ A) (hE : E.all Gv.σ) (hx : Nat.blt nxi 65536 = true := by rfl) (ht : zj Li = true := by rfl) (h : aa7 T nxi nxo E Lo r (enter (afo H L 2000) f (aVs A us) (bl (aHO A Li) nxi)) = true := by kernel_rfl) : P → bz f us nxi Li r nxo Lo := fun _ => bf (E := E) hH hL hA hE hx ht h
theorem zt0 {P : Prop} {f k : Nat} {us : List AV} {nxi : Nat} {Li : List HO} {A : List SA} {r : LR} {nxo : Nat} {Lo : List HO} (T : List (Nat × Nat)) {H : ahr} (hH : pq H) {L : vk} (hL : afm L) (hA : SAll Gv.σ A) (hx : Nat.blt nxi 65536 = true := by rfl) (ht : zj Li = true := by rfl) (h : rq T nxi nxo .nil Lo (bq us) r (sh (zn f k) (afo H L 2000) (.mk f (bq us) false none) (.mk (nw (aVs A us) 0 mt) [] .none (bl (aHO A Li) nxi))) = true := by kernel_rfl) : P → bw f k us nxi Li r nxo Lo := fun _ => na (E := .nil) hH hL hA trivial hx ht h
theorem zt {P : Prop} {f k : Nat} {us : List AV} {nxi : Nat} {Li : List HO} {A : List SA} {r : LR} {nxo : Nat} {Lo : List HO} (T : List (Nat × Nat)) (E : EqL) {H : ahr} (hH : pq H) {L : vk} (hL : afm L) (hA : SAll Gv.σ A) (hE : E.all Gv.σ) (hx : Nat.blt nxi 65536 = true := by rfl) (ht : zj Li = true := by rfl) (h : rq T nxi nxo E Lo (bq us) r (sh (zn f k) (afo H L 2000) (.mk f (bq us) false none) (.mk (nw (aVs A us) 0 mt) [] .none (bl (aHO A Li) nxi))) = true := by kernel_rfl) : P → bw f k us nxi Li r nxo Lo := fun _ => na (E := E) hH hL hA hE hx ht h
theorem zl1 {L : List SA} (hI : SAll Gv.σ L) (a b : SE) {x y : Int} (ha : a.eval Gv.σ = x := by (try simp (disch := omega) only [evs, wr]); rfl) (hb : b.eval Gv.σ = y := by (try simp (disch := omega) only [evs, wr]); rfl) : SAll Gv.σ (.mk true a b true :: L) ∧ x < y ∨ SAll Gv.σ (.mk true a b false :: L) ∧ y ≤ x := by subst ha hb; exact (gl a b).imp (fun h => ⟨sc h.1 hI, h.2⟩) (fun h => ⟨sc h.1 hI, h.2⟩)
theorem zf1 {p q : Prop} (h : p) (e : p = q := by (try simp (disch := omega) only [evs, wr]); rfl) : q := e ▸ h
theorem zT1 {L : List SA} (hI : SAll Gv.σ L) (a b : SE) (h : a.eval Gv.σ < b.eval Gv.σ := by simp (disch := omega) only [evs, wr] <;> omega) : SAll Gv.σ (.mk true a b true :: L) := sc (bT a b h) hI
theorem zF1 {L : List SA} (hI : SAll Gv.σ L) (a b : SE) (h : b.eval Gv.σ ≤ a.eval Gv.σ := by simp (disch := omega) only [evs, wr] <;> omega) : SAll Gv.σ (.mk true a b false :: L) := sc (bF a b h) hI
theorem zq1 {L : List SA} (hI : SAll Gv.σ L) (a b : SE) {x y : Int} (ha : a.eval Gv.σ = x := by (try simp (disch := omega) only [evs, wr]); rfl) (hb : b.eval Gv.σ = y := by (try simp (disch := omega) only [evs, wr]); rfl) : SAll Gv.σ (.mk false a b true :: L) ∧ x = y ∨ SAll Gv.σ (.mk false a b false :: L) ∧ ¬ x = y := by subst ha hb; exact (gq a b).imp (fun h => ⟨sc h.1 hI, h.2⟩) (fun h => ⟨sc h.1 hI, h.2⟩)
theorem zE1 {L : List SA} (hI : SAll Gv.σ L) (a b : SE) (h : a.eval Gv.σ = b.eval Gv.σ := by simp (disch := omega) only [evs, wr] <;> omega) : SAll Gv.σ (.mk false a b true :: L) := sc (bE a b h) hI
theorem zN1 {L : List SA} (hI : SAll Gv.σ L) (a b : SE) (h : ¬ a.eval Gv.σ = b.eval Gv.σ := by simp (disch := omega) only [evs, wr] <;> omega) : SAll Gv.σ (.mk false a b false :: L) := sc (bN a b h) hI
theorem zf2 {p q : Prop} (h : p) (e : p = q := by (try simp (disch := omega) only [if_pos, if_neg, ald, wr]); rfl) : q := e ▸ h
theorem zn1 {A : List SA} {P : Prop} (h : SAll Gv.σ A → False := by intro h; simp (disch := omega) only [sall_cons, sT, sF, sE, sN, evs, wr, u] at h <;> omega) : SAll Gv.σ A → P := fun x => (h x).elim
theorem ze1 {E : EqL} (h : E.all Gv.σ := by simp (disch := omega) only [EqL.all, and_true, evs, wr, u] <;> omega) : E.all Gv.σ := h
theorem zf3 {p q : Prop} (h : p) (e : p = q := by (try simp (disch := omega) only [if_pos, if_neg, sh8, lo8]); rfl) : q := e ▸ h
theorem ze2 {E : EqL} (h : E.all Gv.σ := by simp (disch := omega) only [EqL.all, and_true, evs, wr, u, sh8, lo8, bf9, zJ, zD, zO, zS] <;> omega) : E.all Gv.σ := h
theorem zf4 {p q : Prop} (h : p) (e : p = q := by (try simp (disch := omega) only [if_pos, if_neg, wr]); rfl) : q := e ▸ h
theorem zf5 {p q : Prop} (h : p) (e : p = q := by (try simp (disch := omega) only [if_pos, if_neg, wr, zD]); rfl) : q := e ▸ h
theorem ze3 {E : EqL} (h : E.all Gv.σ := by simp (disch := omega) only [EqL.all, and_true, evs, wr, u, zD] <;> omega) : E.all Gv.σ := h
theorem zf6 {p q : Prop} (h : p) (e : p = q := by (try simp (disch := omega) only [k1, if_pos, if_neg, wr, u2]); rfl) : q := e ▸ h
theorem zn2 {A : List SA} {P : Prop} (h : SAll Gv.σ A → False := by intro h; simp (disch := omega) only [sall_cons, sT, sF, sE, sN, evs, wr, qw, azl, u2, u] at h <;> omega) : SAll Gv.σ A → P := fun x => (h x).elim
theorem ze4 {E : EqL} (h : E.all Gv.σ := by simp (disch := omega) only [EqL.all, and_true, evs, wr, qw, azl, u2, u] <;> omega) : E.all Gv.σ := h
theorem zf7 {p q : Prop} (h : p) (e : p = q := by (try simp (disch := omega) only [if_pos, if_neg]); rfl) : q := e ▸ h
theorem om {p q : Prop} (h : p) (e : p = q := by (try simp (disch := omega) only [if_pos, if_neg, zD, wr]); rfl) : q := e ▸ h
theorem a7s {A : List SA} {P : Prop} (h : SAll Gv.σ A → False := by intro h; simp (disch := omega) only [sall_cons, sT, sF, sE, sN, evs, wr, zJ, zD, zO, u] at h <;> omega) : SAll Gv.σ A → P := fun x => (h x).elim
theorem b13 {E : EqL} (h : E.all Gv.σ := by simp (disch := omega) only [EqL.all, and_true, evs, wr, zJ, zD, zO, u] <;> omega) : E.all Gv.σ := h
theorem mr {L : List SA} (hI : SAll Gv.σ L) (a b : SE) {x y : Int} (ha : a.eval Gv.σ = x := by (try simp (disch := omega) only [evs, evx, wr, tn]); rfl) (hb : b.eval Gv.σ = y := by (try simp (disch := omega) only [evs, evx, wr, tn]); rfl) : SAll Gv.σ (.mk true a b true :: L) ∧ x < y ∨ SAll Gv.σ (.mk true a b false :: L) ∧ y ≤ x := by subst ha hb; exact (gl a b).imp (fun h => ⟨sc h.1 hI, h.2⟩) (fun h => ⟨sc h.1 hI, h.2⟩)
theorem ay1 {L : List SA} (hI : SAll Gv.σ L) (a b : SE) (h : a.eval Gv.σ < b.eval Gv.σ := by simp (disch := omega) only [evs, evx, wr, tn] <;> omega) : SAll Gv.σ (.mk true a b true :: L) := sc (bT a b h) hI
theorem bjw {L : List SA} (hI : SAll Gv.σ L) (a b : SE) (h : b.eval Gv.σ ≤ a.eval Gv.σ := by simp (disch := omega) only [evs, evx, wr, tn] <;> omega) : SAll Gv.σ (.mk true a b false :: L) := sc (bF a b h) hI
theorem bjz {L : List SA} (hI : SAll Gv.σ L) (a b : SE) {x y : Int} (ha : a.eval Gv.σ = x := by (try simp (disch := omega) only [evs, evx, wr, zJ, zD, zP, zO, zS, List.append_assoc, j4, List.length_drop]); rfl) (hb : b.eval Gv.σ = y := by (try simp (disch := omega) only [evs, evx, wr, zJ, zD, zP, zO, zS, List.append_assoc, j4, List.length_drop]); rfl) : SAll Gv.σ (.mk true a b true :: L) ∧ x < y ∨ SAll Gv.σ (.mk true a b false :: L) ∧ y ≤ x := by subst ha hb; exact (gl a b).imp (fun h => ⟨sc h.1 hI, h.2⟩) (fun h => ⟨sc h.1 hI, h.2⟩)
theorem bws {p q : Prop} (h : p) (e : p = q := by (try simp (disch := omega) only [evs, evx, wr, zJ, zD, zP, zO, zS, List.append_assoc, j4, List.length_drop]); rfl) : q := e ▸ h
theorem bwo {L : List SA} (hI : SAll Gv.σ L) (a b : SE) (h : a.eval Gv.σ < b.eval Gv.σ := by simp (disch := omega) only [evs, evx, wr, zJ, zD, zP, zO, zS, List.append_assoc, j4, List.length_drop] <;> omega) : SAll Gv.σ (.mk true a b true :: L) := sc (bT a b h) hI
theorem adi {L : List SA} (hI : SAll Gv.σ L) (a b : SE) (h : b.eval Gv.σ ≤ a.eval Gv.σ := by simp (disch := omega) only [evs, evx, wr, zJ, zD, zP, zO, zS, List.append_assoc, j4, List.length_drop] <;> omega) : SAll Gv.σ (.mk true a b false :: L) := sc (bF a b h) hI
theorem a7t {L : List SA} (hI : SAll Gv.σ L) (a b : SE) {x y : Int} (ha : a.eval Gv.σ = x := by (try simp (disch := omega) only [evs, evx, wr, zJ, zD, zP, zO, zS, List.append_assoc, j4, List.length_drop]); rfl) (hb : b.eval Gv.σ = y := by (try simp (disch := omega) only [evs, evx, wr, zJ, zD, zP, zO, zS, List.append_assoc, j4, List.length_drop]); rfl) : SAll Gv.σ (.mk false a b true :: L) ∧ x = y ∨ SAll Gv.σ (.mk false a b false :: L) ∧ ¬ x = y := by subst ha hb; exact (gq a b).imp (fun h => ⟨sc h.1 hI, h.2⟩) (fun h => ⟨sc h.1 hI, h.2⟩)
theorem b10 {L : List SA} (hI : SAll Gv.σ L) (a b : SE) (h : a.eval Gv.σ = b.eval Gv.σ := by simp (disch := omega) only [evs, evx, wr, zJ, zD, zP, zO, zS, List.append_assoc, j4, List.length_drop] <;> omega) : SAll Gv.σ (.mk false a b true :: L) := sc (bE a b h) hI
theorem aft {A : List SA} {P : Prop} (h : SAll Gv.σ A → False := by intro h; simp (disch := omega) only [sall_cons, sT, sF, sE, sN, evs, evx, wr, zJ, zD, zP, zO, zS, List.append_assoc, j4, List.length_drop, en, List.append_nil, u] at h <;> omega) : SAll Gv.σ A → P := fun x => (h x).elim
theorem ash {A : List SA} {P : Prop} (h : SAll Gv.σ A → False := by intro h; simp (disch := omega) only [sall_cons, sT, sF, sE, sN, evs, evx, wr, zJ, zD, zP, zO, zS, List.append_assoc, j4, List.length_drop, u] at h <;> omega) : SAll Gv.σ A → P := fun x => (h x).elim
theorem brk {E : EqL} (h : E.all Gv.σ := by simp (disch := omega) only [EqL.all, and_true, evs, evx, wr, zJ, zD, zP, zO, zS, List.append_assoc, j4, List.length_drop, en, List.append_nil, u] <;> omega) : E.all Gv.σ := h
theorem bwt {L : List SA} (hI : SAll Gv.σ L) (a b : SE) {x y : Int} (ha : a.eval Gv.σ = x := by (try simp (disch := omega) only [evs, evx, evT, evq, wr, zP, zO, zS]); rfl) (hb : b.eval Gv.σ = y := by (try simp (disch := omega) only [evs, evx, evT, evq, wr, zP, zO, zS]); rfl) : SAll Gv.σ (.mk true a b true :: L) ∧ x < y ∨ SAll Gv.σ (.mk true a b false :: L) ∧ y ≤ x := by subst ha hb; exact (gl a b).imp (fun h => ⟨sc h.1 hI, h.2⟩) (fun h => ⟨sc h.1 hI, h.2⟩)
theorem afs {p q : Prop} (h : p) (e : p = q := by (try simp (disch := omega) only [evs, evx, evT, evq, wr, zP, zO, zS]); rfl) : q := e ▸ h
theorem ak8 {L : List SA} (hI : SAll Gv.σ L) (a b : SE) (h : a.eval Gv.σ < b.eval Gv.σ := by simp (disch := omega) only [evs, evx, evT, evq, wr, zP, zO, zS] <;> omega) : SAll Gv.σ (.mk true a b true :: L) := sc (bT a b h) hI
theorem ip {L : List SA} (hI : SAll Gv.σ L) (a b : SE) (h : b.eval Gv.σ ≤ a.eval Gv.σ := by simp (disch := omega) only [evs, evx, evT, evq, wr, zP, zO, zS] <;> omega) : SAll Gv.σ (.mk true a b false :: L) := sc (bF a b h) hI
theorem bj4 {L : List SA} (hI : SAll Gv.σ L) (a b : SE) {x y : Int} (ha : a.eval Gv.σ = x := by (try simp (disch := omega) only [evs, evx, evT, evq, wr, zP, zO, zS]); rfl) (hb : b.eval Gv.σ = y := by (try simp (disch := omega) only [evs, evx, evT, evq, wr, zP, zO, zS]); rfl) : SAll Gv.σ (.mk false a b true :: L) ∧ x = y ∨ SAll Gv.σ (.mk false a b false :: L) ∧ ¬ x = y := by subst ha hb; exact (gq a b).imp (fun h => ⟨sc h.1 hI, h.2⟩) (fun h => ⟨sc h.1 hI, h.2⟩)
theorem bwv {A : List SA} {P : Prop} (h : SAll Gv.σ A → False := by intro h; simp (disch := omega) only [sall_cons, sT, sF, sE, sN, evs, evx, evT, evq, wr, zP, zO, zS, u] at h <;> omega) : SAll Gv.σ A → P := fun x => (h x).elim
theorem ay2 {E : EqL} (h : E.all Gv.σ := by simp (disch := omega) only [EqL.all, and_true, evs, evx, evT, evq, wr, zP, zO, zS, List.append_assoc, zJ, zD, List.append_nil, u] <;> omega) : E.all Gv.σ := h
theorem bwu {L : List SA} (hI : SAll Gv.σ L) (a b : SE) {x y : Int} (ha : a.eval Gv.σ = x := by (try simp (disch := omega) only [evs, evx, evT, evq, wr, zJ, zD, zP, zO, zS]); rfl) (hb : b.eval Gv.σ = y := by (try simp (disch := omega) only [evs, evx, evT, evq, wr, zJ, zD, zP, zO, zS]); rfl) : SAll Gv.σ (.mk true a b true :: L) ∧ x < y ∨ SAll Gv.σ (.mk true a b false :: L) ∧ y ≤ x := by subst ha hb; exact (gl a b).imp (fun h => ⟨sc h.1 hI, h.2⟩) (fun h => ⟨sc h.1 hI, h.2⟩)
theorem a7r {p q : Prop} (h : p) (e : p = q := by (try simp (disch := omega) only [evs, evx, evT, evq, wr, zJ, zD, zP, zO, zS]); rfl) : q := e ▸ h
theorem bwp {L : List SA} (hI : SAll Gv.σ L) (a b : SE) (h : a.eval Gv.σ < b.eval Gv.σ := by simp (disch := omega) only [evs, evx, evT, evq, wr, zJ, zD, zP, zO, zS] <;> omega) : SAll Gv.σ (.mk true a b true :: L) := sc (bT a b h) hI
theorem ae0 {L : List SA} (hI : SAll Gv.σ L) (a b : SE) (h : b.eval Gv.σ ≤ a.eval Gv.σ := by simp (disch := omega) only [evs, evx, evT, evq, wr, zJ, zD, zP, zO, zS] <;> omega) : SAll Gv.σ (.mk true a b false :: L) := sc (bF a b h) hI
theorem bri {L : List SA} (hI : SAll Gv.σ L) (a b : SE) (h : ¬ a.eval Gv.σ = b.eval Gv.σ := by simp (disch := omega) only [evs, evx, evT, evq, wr, zJ, zD, zP, zO, zS] <;> omega) : SAll Gv.σ (.mk false a b false :: L) := sc (bN a b h) hI
theorem bj2 {A : List SA} {P : Prop} (h : SAll Gv.σ A → False := by intro h; simp (disch := omega) only [sall_cons, sT, sF, sE, sN, evs, evx, evT, evq, wr, zJ, zD, zP, zO, zS, u] at h <;> omega) : SAll Gv.σ A → P := fun x => (h x).elim
theorem avz {p q : Prop} (h : p) (e : p = q := by (try simp (disch := omega) only [evs, wr, zD, zJ]); rfl) : q := e ▸ h
theorem bjx {L : List SA} (hI : SAll Gv.σ L) (a b : SE) (h : b.eval Gv.σ ≤ a.eval Gv.σ := by simp (disch := omega) only [evs, wr, zD, zJ] <;> omega) : SAll Gv.σ (.mk true a b false :: L) := sc (bF a b h) hI
theorem bwx {L : List SA} (hI : SAll Gv.σ L) (a b : SE) {x y : Int} (ha : a.eval Gv.σ = x := by (try simp (disch := omega) only [evs, wr, zD, zJ]); rfl) (hb : b.eval Gv.σ = y := by (try simp (disch := omega) only [evs, wr, zD, zJ]); rfl) : SAll Gv.σ (.mk false a b true :: L) ∧ x = y ∨ SAll Gv.σ (.mk false a b false :: L) ∧ ¬ x = y := by subst ha hb; exact (gq a b).imp (fun h => ⟨sc h.1 hI, h.2⟩) (fun h => ⟨sc h.1 hI, h.2⟩)
theorem bj0 {L : List SA} (hI : SAll Gv.σ L) (a b : SE) {x y : Int} (ha : a.eval Gv.σ = x := by (try simp (disch := omega) only [evs, wr, zD, zJ, zS, evZ]); rfl) (hb : b.eval Gv.σ = y := by (try simp (disch := omega) only [evs, wr, zD, zJ, zS, evZ]); rfl) : SAll Gv.σ (.mk true a b true :: L) ∧ x < y ∨ SAll Gv.σ (.mk true a b false :: L) ∧ y ≤ x := by subst ha hb; exact (gl a b).imp (fun h => ⟨sc h.1 hI, h.2⟩) (fun h => ⟨sc h.1 hI, h.2⟩)
theorem b9 {p q : Prop} (h : p) (e : p = q := by (try simp (disch := omega) only [evs, wr, zD, zJ, zS, evZ]); rfl) : q := e ▸ h
theorem qu {L : List SA} (hI : SAll Gv.σ L) (a b : SE) (h : a.eval Gv.σ < b.eval Gv.σ := by simp (disch := omega) only [evs, wr, zD, zJ, zS, evZ] <;> omega) : SAll Gv.σ (.mk true a b true :: L) := sc (bT a b h) hI
theorem dx {L : List SA} (hI : SAll Gv.σ L) (a b : SE) (h : b.eval Gv.σ ≤ a.eval Gv.σ := by simp (disch := omega) only [evs, wr, zD, zJ, zS, evZ] <;> omega) : SAll Gv.σ (.mk true a b false :: L) := sc (bF a b h) hI
theorem vj {L : List SA} (hI : SAll Gv.σ L) (a b : SE) {x y : Int} (ha : a.eval Gv.σ = x := by (try simp (disch := omega) only [evs, wr, zD, zJ, zS, evZ]); rfl) (hb : b.eval Gv.σ = y := by (try simp (disch := omega) only [evs, wr, zD, zJ, zS, evZ]); rfl) : SAll Gv.σ (.mk false a b true :: L) ∧ x = y ∨ SAll Gv.σ (.mk false a b false :: L) ∧ ¬ x = y := by subst ha hb; exact (gq a b).imp (fun h => ⟨sc h.1 hI, h.2⟩) (fun h => ⟨sc h.1 hI, h.2⟩)
theorem b11 {L : List SA} (hI : SAll Gv.σ L) (a b : SE) (h : a.eval Gv.σ = b.eval Gv.σ := by simp (disch := omega) only [evs, wr, zD, zJ, zS, evZ] <;> omega) : SAll Gv.σ (.mk false a b true :: L) := sc (bE a b h) hI
theorem bj3 {A : List SA} {P : Prop} (h : SAll Gv.σ A → False := by intro h; simp (disch := omega) only [sall_cons, sT, sF, sE, sN, evs, wr, zJ, zD, evH, td, if_pos, if_neg, u] at h <;> omega) : SAll Gv.σ A → P := fun x => (h x).elim
theorem ez {A : List SA} {P : Prop} (h : SAll Gv.σ A → False := by intro h; simp (disch := omega) only [sall_cons, sT, sF, sE, sN, evs, wr, zD, zJ, zS, evZ, u] at h <;> omega) : SAll Gv.σ A → P := fun x => (h x).elim
theorem bjy {E : EqL} (h : E.all Gv.σ := by simp (disch := omega) only [EqL.all, and_true, evs, wr, zJ, zD, evH, td, if_pos, if_neg, u] <;> omega) : E.all Gv.σ := h
theorem ol {E : EqL} (h : E.all Gv.σ := by simp (disch := omega) only [EqL.all, and_true, evs, wr, zD, zJ, zS, evZ, u] <;> omega) : E.all Gv.σ := h
theorem b15 {p q : Prop} (h : p) (e : p = q := by (try simp (disch := omega) only [evs, evx, wr, zJ, zD, zP, zO, zS, hsk, hst, ht1, ht2]); rfl) : q := e ▸ h
theorem bwq {L : List SA} (hI : SAll Gv.σ L) (a b : SE) (h : a.eval Gv.σ < b.eval Gv.σ := by simp (disch := omega) only [evs, evx, wr, zJ, zD, zP, zO, zS, hsk, hst, ht1, ht2] <;> omega) : SAll Gv.σ (.mk true a b true :: L) := sc (bT a b h) hI
theorem alr {L : List SA} (hI : SAll Gv.σ L) (a b : SE) (h : b.eval Gv.σ ≤ a.eval Gv.σ := by simp (disch := omega) only [evs, evx, wr, zJ, zD, zP, zO, zS, hsk, hst, ht1, ht2] <;> omega) : SAll Gv.σ (.mk true a b false :: L) := sc (bF a b h) hI
theorem b17 {L : List SA} (hI : SAll Gv.σ L) (a b : SE) {x y : Int} (ha : a.eval Gv.σ = x := by (try simp (disch := omega) only [evs, evx, wr, zJ, zD, zP, zO, zS, hsk, hst, ht1, ht2]); rfl) (hb : b.eval Gv.σ = y := by (try simp (disch := omega) only [evs, evx, wr, zJ, zD, zP, zO, zS, hsk, hst, ht1, ht2]); rfl) : SAll Gv.σ (.mk false a b true :: L) ∧ x = y ∨ SAll Gv.σ (.mk false a b false :: L) ∧ ¬ x = y := by subst ha hb; exact (gq a b).imp (fun h => ⟨sc h.1 hI, h.2⟩) (fun h => ⟨sc h.1 hI, h.2⟩)
theorem bej {L : List SA} (hI : SAll Gv.σ L) (a b : SE) (h : a.eval Gv.σ = b.eval Gv.σ := by simp (disch := omega) only [evs, evx, wr, zJ, zD, zP, zO, zS, hsk, hst, ht1, ht2] <;> omega) : SAll Gv.σ (.mk false a b true :: L) := sc (bE a b h) hI
theorem ae1 {L : List SA} (hI : SAll Gv.σ L) (a b : SE) (h : ¬ a.eval Gv.σ = b.eval Gv.σ := by simp (disch := omega) only [evs, evx, wr, zJ, zD, zP, zO, zS, hsk, hst, ht1, ht2] <;> omega) : SAll Gv.σ (.mk false a b false :: L) := sc (bN a b h) hI
theorem b16 {p q : Prop} (h : p) (e : p = q := by (try simp (disch := omega) only [evs, evx, wr, zJ, zD, zP, zO, zS, hsk]); rfl) : q := e ▸ h
theorem b12 {L : List SA} (hI : SAll Gv.σ L) (a b : SE) (h : a.eval Gv.σ < b.eval Gv.σ := by simp (disch := omega) only [evs, evx, wr, zJ, zD, zP, zO, zS, hsk] <;> omega) : SAll Gv.σ (.mk true a b true :: L) := sc (bT a b h) hI
theorem avx {L : List SA} (hI : SAll Gv.σ L) (a b : SE) (h : b.eval Gv.σ ≤ a.eval Gv.σ := by simp (disch := omega) only [evs, evx, wr, zJ, zD, zP, zO, zS, hsk] <;> omega) : SAll Gv.σ (.mk true a b false :: L) := sc (bF a b h) hI
theorem bjv {L : List SA} (hI : SAll Gv.σ L) (a b : SE) (h : a.eval Gv.σ = b.eval Gv.σ := by simp (disch := omega) only [evs, evx, wr, zJ, zD, zP, zO, zS, hsk] <;> omega) : SAll Gv.σ (.mk false a b true :: L) := sc (bE a b h) hI
theorem a7q {L : List SA} (hI : SAll Gv.σ L) (a b : SE) (h : ¬ a.eval Gv.σ = b.eval Gv.σ := by simp (disch := omega) only [evs, evx, wr, zJ, zD, zP, zO, zS, hsk] <;> omega) : SAll Gv.σ (.mk false a b false :: L) := sc (bN a b h) hI
theorem bww {A : List SA} {P : Prop} (h : SAll Gv.σ A → False := by intro h; simp (disch := omega) only [sall_cons, sT, sF, sE, sN, evs, evx, wr, zJ, zD, zP, zO, zS, hsk, hst, ht1, ht2, u] at h <;> omega) : SAll Gv.σ A → P := fun x => (h x).elim
theorem b14 {E : EqL} (h : E.all Gv.σ := by simp (disch := omega) only [EqL.all, and_true, evs, evx, wr, zJ, zD, zP, zO, zS, hsk, u] <;> omega) : E.all Gv.σ := h
theorem bwr {E : EqL} (h : E.all Gv.σ := by simp (disch := omega) only [EqL.all, and_true, evs, evx, wr, zJ, zD, zP, zO, zS, hsk, hst, ht1, ht2, u] <;> omega) : E.all Gv.σ := h
theorem bj1 {L : List SA} (hI : SAll Gv.σ L) (a b : SE) {x y : Int} (ha : a.eval Gv.σ = x := by (try simp (disch := omega) only [evs, evx, wr, evT, evq, uk, zJ, zD, List.drop_zero, List.getD_cons_zero, zP, zO, zS, evH, eq_self, if_true, Int.toNat_zero, z1, z2, z3, z5, z6, y1, y2, y3, d2, d3, d7, d8, e3, e4]); rfl) (hb : b.eval Gv.σ = y := by (try simp (disch := omega) only [evs, evx, wr, evT, evq, uk, zJ, zD, List.drop_zero, List.getD_cons_zero, zP, zO, zS, evH, eq_self, if_true, Int.toNat_zero, z1, z2, z3, z5, z6, y1, y2, y3, d2, d3, d7, d8, e3, e4]); rfl) : SAll Gv.σ (.mk true a b true :: L) ∧ x < y ∨ SAll Gv.σ (.mk true a b false :: L) ∧ y ≤ x := by subst ha hb; exact (gl a b).imp (fun h => ⟨sc h.1 hI, h.2⟩) (fun h => ⟨sc h.1 hI, h.2⟩)
theorem ak9 {p q : Prop} (h : p) (e : p = q := by (try simp (disch := omega) only [evs, evx, wr, evT, evq, uk, zJ, zD, List.drop_zero, List.getD_cons_zero, zP, zO, zS, evH, eq_self, if_true, Int.toNat_zero, z1, z2, z3, z5, z6, y1, y2, y3, d2, d3, d7, d8, e3, e4]); rfl) : q := e ▸ h
theorem brj {L : List SA} (hI : SAll Gv.σ L) (a b : SE) (h : a.eval Gv.σ < b.eval Gv.σ := by simp (disch := omega) only [evs, evx, wr, evT, evq, uk, zJ, zD, List.drop_zero, List.getD_cons_zero, zP, zO, zS, evH, eq_self, if_true, Int.toNat_zero, z1, z2, z3, z5, z6, y1, y2, y3, d2, d3, d7, d8, e3, e4] <;> omega) : SAll Gv.σ (.mk true a b true :: L) := sc (bT a b h) hI
theorem vw {L : List SA} (hI : SAll Gv.σ L) (a b : SE) (h : b.eval Gv.σ ≤ a.eval Gv.σ := by simp (disch := omega) only [evs, evx, wr, evT, evq, uk, zJ, zD, List.drop_zero, List.getD_cons_zero, zP, zO, zS, evH, eq_self, if_true, Int.toNat_zero, z1, z2, z3, z5, z6, y1, y2, y3, d2, d3, d7, d8, e3, e4] <;> omega) : SAll Gv.σ (.mk true a b false :: L) := sc (bF a b h) hI
theorem brl {L : List SA} (hI : SAll Gv.σ L) (a b : SE) {x y : Int} (ha : a.eval Gv.σ = x := by (try simp (disch := omega) only [evs, evx, wr, evT, evq, uk, zJ, zD, List.drop_zero, List.getD_cons_zero, zP, zO, zS, evH, eq_self, if_true, Int.toNat_zero, z1, z2, z3, z5, z6, y1, y2, y3, d2, d3, d7, d8, e3, e4]); rfl) (hb : b.eval Gv.σ = y := by (try simp (disch := omega) only [evs, evx, wr, evT, evq, uk, zJ, zD, List.drop_zero, List.getD_cons_zero, zP, zO, zS, evH, eq_self, if_true, Int.toNat_zero, z1, z2, z3, z5, z6, y1, y2, y3, d2, d3, d7, d8, e3, e4]); rfl) : SAll Gv.σ (.mk false a b true :: L) ∧ x = y ∨ SAll Gv.σ (.mk false a b false :: L) ∧ ¬ x = y := by subst ha hb; exact (gq a b).imp (fun h => ⟨sc h.1 hI, h.2⟩) (fun h => ⟨sc h.1 hI, h.2⟩)
theorem lk {L : List SA} (hI : SAll Gv.σ L) (a b : SE) (h : a.eval Gv.σ = b.eval Gv.σ := by simp (disch := omega) only [evs, evx, wr, evT, evq, uk, zJ, zD, List.drop_zero, List.getD_cons_zero, zP, zO, zS, evH, eq_self, if_true, Int.toNat_zero, z1, z2, z3, z5, z6, y1, y2, y3, d2, d3, d7, d8, e3, e4] <;> omega) : SAll Gv.σ (.mk false a b true :: L) := sc (bE a b h) hI
theorem avy {L : List SA} (hI : SAll Gv.σ L) (a b : SE) (h : ¬ a.eval Gv.σ = b.eval Gv.σ := by simp (disch := omega) only [evs, evx, wr, evT, evq, uk, zJ, zD, List.drop_zero, List.getD_cons_zero, zP, zO, zS, evH, eq_self, if_true, Int.toNat_zero, z1, z2, z3, z5, z6, y1, y2, y3, d2, d3, d7, d8, e3, e4] <;> omega) : SAll Gv.σ (.mk false a b false :: L) := sc (bN a b h) hI
end
end Go.Ev
set_option maxRecDepth 100000
set_option linter.all false
namespace Go.Ev
abbrev ax6 : AL := .g (.s 0) (.i (.v 1) (.i (.c 0) .nil))
abbrev kp : SE := .app 43 ax6
abbrev bda : List SA := [.mk true kp (.len (.s 0)) false]
abbrev bdb : List SA := [.mk true kp (.len (.s 0)) true]
abbrev ax7 : AL := .g (.s 0) (.i (.v 1) (.i (.c 1) .nil))
abbrev aaq : SE := .app 43 ax7
abbrev bdc : List SA := [.mk true aaq (.len (.s 0)) false]
abbrev bdd : List SA := [.mk true aaq (.len (.s 0)) true]
abbrev aar : SE := .rd (.s 0) (.v 1)
abbrev cr : SE := .bin 0 .i64 (.v 1) (.c 1)
abbrev yn : SE := .app 43 (.g (.s 0) (.i cr (.i (.c 1) .nil)))
abbrev b7 : SE := .bin 6 .i64 (.len (.s 0)) (.bin 7 .i64 (.c (-1)) cr)
abbrev ib : SE := .bin 6 .i64 (.len (.s 0)) (.bin 7 .i64 (.c (-1)) (.v 1))
abbrev fy : SE := .app 43 (.g (.s 0) (.i cr (.i (.c 0) .nil)))
noncomputable section
def rdO (k h t r : Nat) (p o : SE) : HO := .mk k (.cells 117 false 0 0 [.ptr (K.of h) 0, .ptr (K.of t) 0, .gv (.sl (K.of r) 1 (.len (.s 0)) []), .sym .i64 p [], .sym .i64 o []])
def rwO (r : Nat) : HO := .mk r (.gob (.gh 3 [.i64] (.len (.s 0)) (.s 0)))
def tps (n : Nat) : List AV := List.replicate n .top
def s1 (k : Nat) (a b : SE) : SE := .app k (.g (.s 0) (.i a (.i b .nil)))
def mLn : SE := .bin 6 .i64 (.len (.s 0)) (.bin 7 .i64 (.c (-1)) (.v 1))
def pI : List SA := [.mk false (.app 42 (.g (.s 0) .nil)) (.c 1) true, .mk true (.v 1) (.c 0) false, .mk true (.len (.s 0)) (.v 1) false]
def bho : List AV := [.ptr (K.of 256) 0, .top, .bool false] ++ tps 39
def bhl : List HO := [rdO 256 258 259 257 (.v 1) (.v 2), rwO 257]
def bm8 : List HO := [rdO 256 258 259 257 (.app 43 ax6) (.v 2), rwO 257]
def bm9 : LR := (.x 0 (.ptr (K.of 256) 0 :: tps 41))
def bhp (m : SE) : LT := .mk 64 3 bho 260 bhl (pI ++ bda) (some (mLn, m)) bm9 260 bm8
def bm7 : LT := znl (bhp (.c 0))
def bm5 : List HO := [rdO 256 258 259 257 (.app 43 ax6) (.v 2), rwO 257]
def bm6 : LR := (.r (.ptr (K.of 256) 0 :: tps 41))
def bhm (m : SE) : LT := .mk 64 3 bho 260 bhl (pI ++ bdb) (some (mLn, m)) bm6 260 bm5
def bm4 : LT := znl (bhm (.c 0))
def bhs : List AV := [.ptr (K.of 256) 0, .top, .bool true] ++ tps 39
def bhr : List HO := [rdO 256 258 259 257 (.v 1) (.v 2), rwO 257]
def bnc : List HO := [rdO 256 258 259 257 (.app 43 ax7) (.v 2), rwO 257]
def bnd : LR := (.x 0 (.ptr (K.of 256) 0 :: tps 41))
def bqr (m : SE) : LT := .mk 64 3 bhs 260 bhr (pI ++ bdc) (some (mLn, m)) bnd 260 bnc
def bna : List HO := [rdO 256 258 259 257 (.app 43 ax7) (.v 2), rwO 257]
def bnb : LR := (.r (.ptr (K.of 256) 0 :: tps 41))
def bqq (m : SE) : LT := .mk 64 3 bhs 260 bhr (pI ++ bdd) (some (mLn, m)) bnb 260 bna
end
theorem tw {σ : Nat → List Int} (h : SAll σ pI) : ou (σ 0) ∧ 0 ≤ (σ 1).headD 0 ∧ (σ 1).headD 0 ≤ ((σ 0).length : Int) ∧ (σ 0).length ≤ 4000 := by
 simp only [pI, sall_cons, s42, sF, evs] at h
 exact ⟨h.1, h.2.1, h.2.2.1, h.1.1⟩
def bqo [Gv] : Prop := (SAll Gv.σ bda → bw 64 3 bho 260 bhl bm9 260 bm8) ∧ (SAll Gv.σ bdb → bw 64 3 bho 260 bhl bm6 260 bm5)
theorem bsz [Gv] (hh : ∀ t ∈ [bhp mLn, bhm mLn, bqr mLn, bqq mLn], au t) (hI : SAll Gv.σ pI) : bqo := by
 obtain ⟨hR, hp0, hpl, hL⟩ := tw hI
 rcases zl1 hI (.v 1) (.len (.s 0)) with ⟨hI, k1⟩ | ⟨hI, k1⟩
 ·have := zf1 (adu hR (.v 1))
  rcases zq1 hI aar (.c 59) with ⟨hI, k2⟩ | ⟨hI, k2⟩
  ·have hI := zF1 hI cr (.c 0)
   have hI := zF1 hI (.len (.s 0)) cr
   have := zf1 (f43 (σ := Gv.σ) cr (.c 1))
   rcases zl1 hI yn (.len (.s 0)) with ⟨hI, k5⟩ | ⟨hI, k5⟩
   ·have hI := zT1 hI b7 ib
    have hI := zF1 hI b7 (.c 0)
    have := zf1 (f43 (σ := Gv.σ) (.v 1) (.c 0))
    have u := zf2 (ec (Gv.σ 0) ((Gv.σ 1).headD 0) 0)
    exact ⟨zn1,
     zt [] (.i yn kp .nil) aa (zp hI hh) hI ze1⟩
   ·have hI := zT1 hI b7 ib
    have hI := zF1 hI b7 (.c 0)
    have := zf1 (f43 (σ := Gv.σ) (.v 1) (.c 0))
    have u := zf2 (ec (Gv.σ 0) ((Gv.σ 1).headD 0) 0)
    exact ⟨zt [] (.i yn kp .nil) aa (zp hI hh) hI ze1,
     zn1⟩
  ·rcases zq1 hI aar (.c 9) with ⟨hI, k3⟩ | ⟨hI, k3⟩
   ·have hI := zF1 hI cr (.c 0)
    have hI := zF1 hI (.len (.s 0)) cr
    have := zf1 (f43 (σ := Gv.σ) cr (.c 0))
    rcases zl1 hI fy (.len (.s 0)) with ⟨hI, k6⟩ | ⟨hI, k6⟩
    ·have hI := zT1 hI b7 ib
     have hI := zF1 hI b7 (.c 0)
     have := zf1 (f43 (σ := Gv.σ) (.v 1) (.c 0))
     have u := zf2 (ec (Gv.σ 0) ((Gv.σ 1).headD 0) 0)
     exact ⟨zn1,
      zt [] (.i fy kp .nil) aa (zp hI hh) hI ze1⟩
    ·have hI := zT1 hI b7 ib
     have hI := zF1 hI b7 (.c 0)
     have := zf1 (f43 (σ := Gv.σ) (.v 1) (.c 0))
     have u := zf2 (ec (Gv.σ 0) ((Gv.σ 1).headD 0) 0)
     exact ⟨zt [] (.i fy kp .nil) aa (zp hI hh) hI ze1,
      zn1⟩
   ·rcases zq1 hI aar (.c 10) with ⟨hI, k4⟩ | ⟨hI, k4⟩
    ·have hI := zF1 hI cr (.c 0)
     have hI := zF1 hI (.len (.s 0)) cr
     have := zf1 (f43 (σ := Gv.σ) cr (.c 0))
     rcases zl1 hI fy (.len (.s 0)) with ⟨hI, k7⟩ | ⟨hI, k7⟩
     ·have hI := zT1 hI b7 ib
      have hI := zF1 hI b7 (.c 0)
      have := zf1 (f43 (σ := Gv.σ) (.v 1) (.c 0))
      have u := zf2 (ec (Gv.σ 0) ((Gv.σ 1).headD 0) 0)
      exact ⟨zn1,
       zt [] (.i fy kp .nil) aa (zp hI hh) hI ze1⟩
     ·have hI := zT1 hI b7 ib
      have hI := zF1 hI b7 (.c 0)
      have := zf1 (f43 (σ := Gv.σ) (.v 1) (.c 0))
      have u := zf2 (ec (Gv.σ 0) ((Gv.σ 1).headD 0) 0)
      exact ⟨zt [] (.i fy kp .nil) aa (zp hI hh) hI ze1,
       zn1⟩
    ·rcases zq1 hI aar (.c 12) with ⟨hI, k5⟩ | ⟨hI, k5⟩
     ·have hI := zF1 hI cr (.c 0)
      have hI := zF1 hI (.len (.s 0)) cr
      have := zf1 (f43 (σ := Gv.σ) cr (.c 0))
      rcases zl1 hI fy (.len (.s 0)) with ⟨hI, k8⟩ | ⟨hI, k8⟩
      ·have hI := zT1 hI b7 ib
       have hI := zF1 hI b7 (.c 0)
       have := zf1 (f43 (σ := Gv.σ) (.v 1) (.c 0))
       have u := zf2 (ec (Gv.σ 0) ((Gv.σ 1).headD 0) 0)
       exact ⟨zn1,
        zt [] (.i fy kp .nil) aa (zp hI hh) hI ze1⟩
      ·have hI := zT1 hI b7 ib
       have hI := zF1 hI b7 (.c 0)
       have := zf1 (f43 (σ := Gv.σ) (.v 1) (.c 0))
       have u := zf2 (ec (Gv.σ 0) ((Gv.σ 1).headD 0) 0)
       exact ⟨zt [] (.i fy kp .nil) aa (zp hI hh) hI ze1,
        zn1⟩
     ·rcases zq1 hI aar (.c 13) with ⟨hI, k6⟩ | ⟨hI, k6⟩
      ·have hI := zF1 hI cr (.c 0)
       have hI := zF1 hI (.len (.s 0)) cr
       have := zf1 (f43 (σ := Gv.σ) cr (.c 0))
       rcases zl1 hI fy (.len (.s 0)) with ⟨hI, k9⟩ | ⟨hI, k9⟩
       ·have hI := zT1 hI b7 ib
        have hI := zF1 hI b7 (.c 0)
        have := zf1 (f43 (σ := Gv.σ) (.v 1) (.c 0))
        have u := zf2 (ec (Gv.σ 0) ((Gv.σ 1).headD 0) 0)
        exact ⟨zn1,
         zt [] (.i fy kp .nil) aa (zp hI hh) hI ze1⟩
       ·have hI := zT1 hI b7 ib
        have hI := zF1 hI b7 (.c 0)
        have := zf1 (f43 (σ := Gv.σ) (.v 1) (.c 0))
        have u := zf2 (ec (Gv.σ 0) ((Gv.σ 1).headD 0) 0)
        exact ⟨zt [] (.i fy kp .nil) aa (zp hI hh) hI ze1,
         zn1⟩
      ·rcases zq1 hI aar (.c 32) with ⟨hI, k7⟩ | ⟨hI, k7⟩
       ·have hI := zF1 hI cr (.c 0)
        have hI := zF1 hI (.len (.s 0)) cr
        have := zf1 (f43 (σ := Gv.σ) cr (.c 0))
        rcases zl1 hI fy (.len (.s 0)) with ⟨hI, k10⟩ | ⟨hI, k10⟩
        ·have hI := zT1 hI b7 ib
         have hI := zF1 hI b7 (.c 0)
         have := zf1 (f43 (σ := Gv.σ) (.v 1) (.c 0))
         have u := zf2 (ec (Gv.σ 0) ((Gv.σ 1).headD 0) 0)
         exact ⟨zn1,
          zt [] (.i fy kp .nil) aa (zp hI hh) hI ze1⟩
        ·have hI := zT1 hI b7 ib
         have hI := zF1 hI b7 (.c 0)
         have := zf1 (f43 (σ := Gv.σ) (.v 1) (.c 0))
         have u := zf2 (ec (Gv.σ 0) ((Gv.σ 1).headD 0) 0)
         exact ⟨zt [] (.i fy kp .nil) aa (zp hI hh) hI ze1,
          zn1⟩
       ·have := zf1 (f43 (σ := Gv.σ) (.v 1) (.c 0))
        have u := zf2 (ec (Gv.σ 0) ((Gv.σ 1).headD 0) 0)
        exact ⟨zn1,
         zt [] (.i (.v 1) kp .nil) aa (zp hI hh) hI ze1⟩
 ·have := zf1 (f43 (σ := Gv.σ) (.v 1) (.c 0))
  have u := zf2 (ec (Gv.σ 0) ((Gv.σ 1).headD 0) 0)
  exact ⟨zt [] (.i (.v 1) kp .nil) aa (zp hI hh) hI ze1,
   zn1⟩
def bqp [Gv] : Prop := (SAll Gv.σ bdc → bw 64 3 bhs 260 bhr bnd 260 bnc) ∧ (SAll Gv.σ bdd → bw 64 3 bhs 260 bhr bnb 260 bna)
theorem bs0 [Gv] (hh : ∀ t ∈ [bhp mLn, bhm mLn, bqr mLn, bqq mLn], au t) (hI : SAll Gv.σ pI) : bqp := by
 obtain ⟨hR, hp0, hpl, hL⟩ := tw hI
 rcases zl1 hI (.v 1) (.len (.s 0)) with ⟨hI, k1⟩ | ⟨hI, k1⟩
 ·have := zf1 (adu hR (.v 1))
  rcases zq1 hI aar (.c 10) with ⟨hI, k2⟩ | ⟨hI, k2⟩
  ·have hI := zF1 hI cr (.c 0)
   have hI := zF1 hI (.len (.s 0)) cr
   have := zf1 (f43 (σ := Gv.σ) cr (.c 0))
   rcases zl1 hI fy (.len (.s 0)) with ⟨hI, k5⟩ | ⟨hI, k5⟩
   ·have hI := zT1 hI b7 ib
    have hI := zF1 hI b7 (.c 0)
    have := zf1 (f43 (σ := Gv.σ) (.v 1) (.c 1))
    have u := zf2 (ec (Gv.σ 0) ((Gv.σ 1).headD 0) 1)
    exact ⟨zn1,
     zt [] (.i fy aaq .nil) aa (zp hI hh) hI ze1⟩
   ·have hI := zT1 hI b7 ib
    have hI := zF1 hI b7 (.c 0)
    have := zf1 (f43 (σ := Gv.σ) (.v 1) (.c 1))
    have u := zf2 (ec (Gv.σ 0) ((Gv.σ 1).headD 0) 1)
    exact ⟨zt [] (.i fy aaq .nil) aa (zp hI hh) hI ze1,
     zn1⟩
  ·have hI := zF1 hI cr (.c 0)
   have hI := zF1 hI (.len (.s 0)) cr
   have := zf1 (f43 (σ := Gv.σ) cr (.c 1))
   rcases zl1 hI yn (.len (.s 0)) with ⟨hI, k5⟩ | ⟨hI, k5⟩
   ·have hI := zT1 hI b7 ib
    have hI := zF1 hI b7 (.c 0)
    have := zf1 (f43 (σ := Gv.σ) (.v 1) (.c 1))
    have u := zf2 (ec (Gv.σ 0) ((Gv.σ 1).headD 0) 1)
    exact ⟨zn1,
     zt [] (.i yn aaq .nil) aa (zp hI hh) hI ze1⟩
   ·have hI := zT1 hI b7 ib
    have hI := zF1 hI b7 (.c 0)
    have := zf1 (f43 (σ := Gv.σ) (.v 1) (.c 1))
    have u := zf2 (ec (Gv.σ 0) ((Gv.σ 1).headD 0) 1)
    exact ⟨zt [] (.i yn aaq .nil) aa (zp hI hh) hI ze1,
     zn1⟩
 ·have := zf1 (f43 (σ := Gv.σ) (.v 1) (.c 1))
  have u := zf2 (ec (Gv.σ 0) ((Gv.σ 1).headD 0) 1)
  exact ⟨zt [] (.i (.v 1) aaq .nil) aa (zp hI hh) hI ze1,
   zn1⟩
theorem axl : ∀ (B : Nat) (σ : Nat → List Int), SAll σ pI → (mLn).eval σ < (B : Int) → @bqo ⟨σ⟩ ∧ @bqp ⟨σ⟩
 | 0, σ, hI, hb => by obtain ⟨h1, h2, h3, h4⟩ := tw hI; simp only [mLn, evs, wr] at hb; omega
 | B + 1, σ, hI, hb => by
   have ih : ∀ σ' : Nat → List Int, SAll σ' pI → 0 ≤ (mLn).eval σ' ∧ (mLn).eval σ' < (mLn).eval σ → @bqo ⟨σ'⟩ ∧ @bqp ⟨σ'⟩ := fun σ' h h' => axl B σ' h (by omega)
   have hh : ∀ t ∈ [bhp (mLn), bhm (mLn), bqr (mLn), bqq (mLn)], @au ⟨σ⟩ t := by
    intro t ht
    simp only [List.mem_cons, zH, or_false] at ht
    rcases ht with rfl | rfl | rfl | rfl
    ·exact fun σ' _ hA hb => (ih σ' (ai hA).1 hb).1.1 (ai hA).2
    ·exact fun σ' _ hA hb => (ih σ' (ai hA).1 hb).1.2 (ai hA).2
    ·exact fun σ' _ hA hb => (ih σ' (ai hA).1 hb).2.1 (ai hA).2
    ·exact fun σ' _ hA hb => (ih σ' (ai hA).1 hb).2.2 (ai hA).2
   exact ⟨@bsz ⟨σ⟩ hh hI, @bs0 ⟨σ⟩ hh hI⟩
theorem bhq [Gv] : au bm7 := fun σ _ hA _ => (axl (((mLn).eval σ).toNat + 1) σ (ai hA).1 (by omega)).1.1 (ai hA).2
theorem bhn [Gv] : au bm4 := fun σ _ hA _ => (axl (((mLn).eval σ).toNat + 1) σ (ai hA).1 (by omega)).1.2 (ai hA).2
end Go.Ev
set_option maxRecDepth 100000
set_option linter.all false
namespace Go.Ev
theorem jb (c : Int) : sj c = if c = 40 ∨ c = 41 ∨ c = 91 ∨ c = 93 ∨ c = 34 ∨ c = 39 ∨ c = 96 ∨ c = 44 ∨ c = 59 ∨ ald c = 1 then 1 else 0 := by
 conv => lhs; unfold sj
 try rfl
theorem bfc (R : List Int) (p : Int) : apb R p = if p < (R.length : Int) then sj (R.getD p.toNat 0) else 1 := by
 conv => lhs; unfold apb
 try rfl
theorem kx (c : Int) : c9 c =
 if 127 < c then
  if 2047 < c then
   if c < 55296 then [jn 9 .u8 224 (sh8 c 12), lo8 (sh8 c 6), lo8 (IntKind.u8.wrap c)]
   else if 57343 < c then
    if 65535 < c then [jn 9 .u8 240 (sh8 c 18), lo8 (sh8 c 12), lo8 (sh8 c 6), lo8 (IntKind.u8.wrap c)]
    else [jn 9 .u8 224 (sh8 c 12), lo8 (sh8 c 6), lo8 (IntKind.u8.wrap c)]
   else [239, 191, 189]
  else [jn 9 .u8 192 (sh8 c 6), lo8 (IntKind.u8.wrap c)]
 else [c] := by
 conv => lhs; unfold c9
 try rfl
theorem da (R : List Int) (p : Int) (b : List Int) (q : Int) : kk R p b q =
 if p < (R.length : Int) then
  if sj (R.getD p.toNat 0) = 1 then ⟨0, p, b, q⟩
  else if R.getD p.toNat 0 = 92 then
   (if p + 1 < (R.length : Int) then kk R (p + 2) (b ++ c9 (R.getD (p + 1).toNat 0)) 1 else ⟨5, 0, [], 0⟩)
  else kk R (p + 1) (b ++ c9 (R.getD p.toNat 0)) q
 else ⟨0, p, b, q⟩ := by
 conv => lhs; unfold kk
 try rfl
theorem gd (d : List Int) (p sum most fits : Int) : lf d p sum most fits =
 if p < (d.length : Int) then
  if drJ d p < 48 ∨ 57 < drJ d p then ⟨0, 0⟩
  else if 0 < dwJ d p then
   (if most < (sum * 10 % 18446744073709551616 + (drJ d p - 48)) % 18446744073709551616 then lf d (p + dwJ d p) most most 0
    else lf d (p + dwJ d p) ((sum * 10 % 18446744073709551616 + (drJ d p - 48)) % 18446744073709551616) most fits)
  else ⟨0, 0⟩
 else ⟨if fits = 1 then 1 else 2, sum⟩ := by
 conv => lhs; unfold lf
 try rfl
theorem re (s : List Int) : zc s = if s.getD 0 0 = 45 then 1 else 0 := by
 conv => lhs; unfold zc
 try rfl
theorem ow (s : List Int) : ajm s = if gy s = [] ∨ (s.length : Int) - ((gy s).length : Int) > 1 then ⟨0, 0⟩ else lf (gy s) 0 0 (if zc s = 1 then 2305843009213693952 else 2305843009213693951) 1 := by
 conv => lhs; unfold ajm
 try rfl
theorem azl (s : List Int) : auo s = if zc s = 1 then -(ajm s).n else (ajm s).n := by
 conv => lhs; unfold auo
 try rfl
theorem abk (s : List Int) (p : Int) : vt s p =
 if p < (s.length : Int) then (if 0 < dwJ s p then 1 + vt s (p + dwJ s p) else 0) else 0 := by
 conv => lhs; unfold vt
 try rfl
theorem bfb (h : List Int) (z : Int) : ua h z = if hM h = hL h ∨ 1048576 < hU h + z then ⟨7, h⟩ else ⟨0, [hL h, hM h + 1, hU h + z]⟩ := by
 conv => lhs; unfold ua
 try rfl
theorem td (h s : List Int) : n8 h s = if bj s = 0 then ⟨5, h⟩ else if 65536 < vt s 0 then ⟨4, h⟩ else ua h (vt s 0) := by
 conv => lhs; unfold n8
 try rfl
theorem abl (c : Int) : acb c = if c = 110 then 10 else if c = 116 then 9 else if c = 101 then 27 else -1 := by
 conv => lhs; unfold acb
 try rfl
theorem rc (c : Int) : aik c = if 48 ≤ c ∧ c ≤ 57 then c - 48 else if 97 ≤ c ∧ c ≤ 102 then c - 87 else if 65 ≤ c ∧ c ≤ 70 then c - 55 else -1 := by
 conv => lhs; unfold aik
 try rfl
theorem xu (R : List Int) (p c n : Int) : mp R p c n =
 if n < 6 ∧ p < (R.length : Int) then
  if aik (R.getD p.toNat 0) < 0 then ⟨0, n, c, p⟩
  else mp R (p + 1) (jn 9 .i64 (jn 11 .i64 c 4) (aik (R.getD p.toNat 0))) (n + 1)
 else ⟨0, n, c, p⟩ := by
 conv => lhs; unfold mp
 try rfl
theorem lr (c : Int) : qf c = if 0 ≤ c ∧ c ≤ 1114111 ∧ ¬(55296 ≤ c ∧ c ≤ 57343) then 1 else 0 := by
 conv => lhs; unfold qf
 try rfl
theorem xr (R : List Int) (p at_ : Int) : ul R p at_ =
 if (mp R p 0 0).p < (R.length : Int) then
  if (mp R p 0 0).a = 0 ∨ R.getD (mp R p 0 0).p.toNat 0 ≠ 92 ∨ qf (mp R p 0 0).c = 0 then ⟨5, at_, 0, 0⟩
  else ⟨0, 0, (mp R p 0 0).c, (mp R p 0 0).p + 1⟩
 else ⟨5, (R.length : Int), 0, 0⟩ := by
 conv => lhs; unfold ul
 try rfl
theorem ov (R : List Int) (p : Int) : jc R p =
 if p < (R.length : Int) then
  if R.getD p.toNat 0 = 10 then ⟨0, 0, -1, p + 1⟩
  else if R.getD p.toNat 0 = 92 ∨ R.getD p.toNat 0 = 34 then ⟨0, 0, R.getD p.toNat 0, p + 1⟩
  else if R.getD p.toNat 0 = 120 then ul R (p + 1) (p - 1)
  else if acb (R.getD p.toNat 0) < 0 then ⟨5, p - 1, 0, 0⟩
  else ⟨0, 0, acb (R.getD p.toNat 0), p + 1⟩
 else ⟨5, (R.length : Int), 0, 0⟩ := by
 conv => lhs; unfold jc
 try rfl
theorem cq (R : List Int) (p : Int) (b : List Int) : jp R p b =
 if p < (R.length : Int) then
  if R.getD p.toNat 0 = 34 then ⟨0, 0, b, p + 1⟩
  else if R.getD p.toNat 0 = 92 then
   (if (jc R (p + 1)).f = 0 then
     (if p < (jc R (p + 1)).p then
       (if (jc R (p + 1)).c < 0 then jp R (jc R (p + 1)).p b else jp R (jc R (p + 1)).p (b ++ c9 (jc R (p + 1)).c))
      else ⟨5, 0, [], 0⟩)
    else ⟨(jc R (p + 1)).f, (jc R (p + 1)).a, [], 0⟩)
  else jp R (p + 1) (b ++ c9 (R.getD p.toNat 0))
 else ⟨5, (R.length : Int), [], 0⟩ := by
 conv => lhs; unfold jp
 try rfl
end Go.Ev
set_option maxRecDepth 100000
set_option linter.all false
namespace Go.Ev
abbrev bde : List SA := [.mk false (.app 41 (.i (.v 1) .nil)) (.c 1) true]
abbrev bdf : List SA := [.mk false (.app 41 (.i (.v 1) .nil)) (.c 1) false]
abbrev bdg : AL := .g (.s 0) (.i (.v 1) (.i (.c 0) .nil))
abbrev xg : GE := .app 40 (.i (.v 1) .nil)
abbrev aas : GE := .cat (.s 3) xg
abbrev xh : SE := .len xg
abbrev aat : SE := .bin 6 .i64 (.len (.s 3)) xh
abbrev bdh : List SA := [.mk true (.c 50000) (.len (.s 3)) false]
abbrev mm : SE := .bin 0 .u32 (.v 1) (.c 0)
abbrev yo : SE := .bin 6 .i64 (.len (.s 3)) (.c 3)
abbrev a0z : SE := .bin 0 .u8 (.bin 12 .i32 (.v 1) (.c 12)) (.c 0)
abbrev a00 : SE := .bin 0 .u8 (.bin 12 .i32 (.v 1) (.c 6)) (.c 0)
abbrev a01 : GE := .one (.bin 9 .u8 (.c 128) (.bin 8 .u8 (.bin 0 .u8 (.v 1) (.c 0)) (.c 63)))
abbrev a02 : GE := .cat (.one (.bin 9 .u8 (.c 128) (.bin 8 .u8 a00 (.c 63)))) a01
abbrev apq : GE := .cat (.one (.bin 9 .u8 (.c 224) a0z)) a02
abbrev a03 : GE := .cat (.s 3) apq
abbrev a04 : SE := .bin 6 .i64 (.len (.s 3)) (.c 4)
abbrev a05 : GE := .cat (.one (.bin 9 .u8 (.c 240) (.bin 0 .u8 (.bin 12 .i32 (.v 1) (.c 18)) (.c 0)))) (.cat (.one (.bin 9 .u8 (.c 128) (.bin 8 .u8 a0z (.c 63)))) a02)
abbrev a06 : SE := .bin 6 .i64 (.len (.s 3)) (.c 2)
abbrev a07 : GE := .cat (.one (.bin 9 .u8 (.c 192) a00)) a01
abbrev a08 : SE := .bin 6 .i64 (.len (.s 3)) (.c 1)
noncomputable section
def dlU : List AV := [.sym .i64 (.v 1) []]
def dlI : List HO := []
def br6 : List HO := []
def br7 : TR := .ret (.bool true)
def be9 : TM := .mk 181 dlU 256 dlI ([] ++ bde) none br7 256 br6
def br4 : List HO := []
def br5 : TR := .ret (.bool false)
def be8 : TM := .mk 181 dlU 256 dlI ([] ++ bdf) none br5 256 br4
def bsc : List AV := [.int .i64 92]
def br9 : List HO := []
def bsa : List HO := []
def bsb : TR := .ret (.bool false)
def br8 : TM := .mk 181 bsc 256 br9 ([] ++ []) none bsb 256 bsa
def bvx : List AV := [.ptr (K.of 256) 0]
def bvu : List HO := [rdO 256 258 259 257 (.v 1) (.v 2), rwO 257]
def bvv : List HO := [rdO 256 258 259 257 (.app 43 bdg) (.v 2), rwO 257]
def bvw : TR := .ret (.tuple [])
def bqt : TM := .mk 64 bvx 260 bvu (pI ++ []) none bvw 260 bvv
def buO (k r : Nat) (g : GE) (n : SE) : List HO := [.mk k (.cells 96 false 0 0 [.ptr (K.of k) 0, .gv (.sl (K.of r) 1 n [])]), .mk r (.gob (.gh 5 [.u8] n g))]
def wI : List SA := [.mk true (.v 1) (.c 0) false, .mk true (.v 1) (.c 1114112) true]
def bwh : List AV := [.ptr (K.of 256) 0, .sym .i32 (.v 1) []]
def bwe : List HO := buO 256 257 (.s 3) (.len (.s 3))
def bwf : List HO := buO 256 258 aas aat
def bwg : TR := .ret (.tuple [.top, .nilIface])
def bie : TM := .mk 146 bwh 258 bwe ((wI ++ bdh) ++ []) none bwg 259 bwf
def bwc : List AV := [.ptr (K.of 256) 0, .sym .i32 (.v 1) []]
def bv9 : List HO := [.mk 256 (.cells 96 false 0 0 [.nilPtr, .nilSlice])]
def bwa : List HO := buO 256 257 (.app 40 (.i (.v 1) .nil)) xh
def bwb : TR := .ret (.tuple [.top, .nilIface])
def bid : TM := .mk 146 bwc 257 bv9 (wI ++ []) none bwb 258 bwa
end
def dlG [Gv] : Prop := (SAll Gv.σ bde → bz 181 dlU 256 dlI br7 256 br6) ∧ (SAll Gv.σ bdf → bz 181 dlU 256 dlI br5 256 br4)
theorem bsk [Gv] (hI : SAll Gv.σ []) : dlG := by
 rcases zq1 hI (.v 1) (.c 40) with ⟨hI, k1⟩ | ⟨hI, k1⟩
 ·have u := zf2 (jb ((Gv.σ 1).headD 0))
  exact ⟨zm0 [] aa af hI,
   zn1⟩
 ·rcases zq1 hI (.v 1) (.c 41) with ⟨hI, k2⟩ | ⟨hI, k2⟩
  ·have u := zf2 (jb ((Gv.σ 1).headD 0))
   exact ⟨zm0 [] aa af hI,
    zn1⟩
  ·rcases zq1 hI (.v 1) (.c 91) with ⟨hI, k3⟩ | ⟨hI, k3⟩
   ·have u := zf2 (jb ((Gv.σ 1).headD 0))
    exact ⟨zm0 [] aa af hI,
     zn1⟩
   ·rcases zq1 hI (.v 1) (.c 93) with ⟨hI, k4⟩ | ⟨hI, k4⟩
    ·have u := zf2 (jb ((Gv.σ 1).headD 0))
     exact ⟨zm0 [] aa af hI,
      zn1⟩
    ·rcases zq1 hI (.v 1) (.c 34) with ⟨hI, k5⟩ | ⟨hI, k5⟩
     ·have u := zf2 (jb ((Gv.σ 1).headD 0))
      exact ⟨zm0 [] aa af hI,
       zn1⟩
     ·rcases zq1 hI (.v 1) (.c 39) with ⟨hI, k6⟩ | ⟨hI, k6⟩
      ·have u := zf2 (jb ((Gv.σ 1).headD 0))
       exact ⟨zm0 [] aa af hI,
        zn1⟩
      ·rcases zq1 hI (.v 1) (.c 96) with ⟨hI, k7⟩ | ⟨hI, k7⟩
       ·have u := zf2 (jb ((Gv.σ 1).headD 0))
        exact ⟨zm0 [] aa af hI,
         zn1⟩
       ·rcases zq1 hI (.v 1) (.c 44) with ⟨hI, k8⟩ | ⟨hI, k8⟩
        ·have u := zf2 (jb ((Gv.σ 1).headD 0))
         exact ⟨zm0 [] aa af hI,
          zn1⟩
        ·rcases zq1 hI (.v 1) (.c 59) with ⟨hI, k9⟩ | ⟨hI, k9⟩
         ·have u := zf2 (jb ((Gv.σ 1).headD 0))
          exact ⟨zm0 [] aa af hI,
           zn1⟩
         ·rcases zq1 hI (.v 1) (.c 9) with ⟨hI, k10⟩ | ⟨hI, k10⟩
          ·have u := zf2 (jb ((Gv.σ 1).headD 0))
           exact ⟨zm0 [] aa af hI,
            zn1⟩
          ·rcases zq1 hI (.v 1) (.c 10) with ⟨hI, k11⟩ | ⟨hI, k11⟩
           ·have u := zf2 (jb ((Gv.σ 1).headD 0))
            exact ⟨zm0 [] aa af hI,
             zn1⟩
           ·rcases zq1 hI (.v 1) (.c 12) with ⟨hI, k12⟩ | ⟨hI, k12⟩
            ·have u := zf2 (jb ((Gv.σ 1).headD 0))
             exact ⟨zm0 [] aa af hI,
              zn1⟩
            ·rcases zq1 hI (.v 1) (.c 13) with ⟨hI, k13⟩ | ⟨hI, k13⟩
             ·have u := zf2 (jb ((Gv.σ 1).headD 0))
              exact ⟨zm0 [] aa af hI,
               zn1⟩
             ·rcases zq1 hI (.v 1) (.c 32) with ⟨hI, k14⟩ | ⟨hI, k14⟩
              ·have u := zf2 (jb ((Gv.σ 1).headD 0))
               exact ⟨zm0 [] aa af hI,
                zn1⟩
              ·have u := zf2 (jb ((Gv.σ 1).headD 0))
               exact ⟨zn1,
                zm0 [] aa af hI⟩
theorem awf [Gv] : ax be9 := fun σ _ hA _ => (@bsk ⟨σ⟩  (ai hA).1).1 (ai hA).2
theorem awe [Gv] : ax be8 := fun σ _ hA _ => (@bsk ⟨σ⟩  (ai hA).1).2 (ai hA).2
def bz4 [Gv] : Prop := (SAll Gv.σ [] → bz 181 bsc 256 br9 bsb 256 bsa)
theorem bsl [Gv] (hI : SAll Gv.σ []) : bz4 := by
 have u := trivial
 exact zm0 [] aa af hI
theorem bow [Gv] : ax br8 := fun σ _ hA _ => (@bsl ⟨σ⟩  (ai hA).1) (ai hA).2
theorem aph {α : Type} {p : α → Prop} {a b : α} (ha : p a) (hb : p b) : ∀ t ∈ [a, b], p t := by
 intro t ht
 simp only [List.mem_cons, zH, or_false] at ht
 rcases ht with rfl | rfl
 ·exact ha
 ·exact hb
theorem ed {α : Type} {p : α → Prop} {a : α} (ha : p a) : ∀ t ∈ [a], p t := by
 intro t ht
 rw [List.mem_singleton] at ht; subst ht; exact ha
theorem sk2 [Gv] : ∀ t ∈ [bm7, bm4], au t := aph bhq bhn
def b1f [Gv] : Prop := (SAll Gv.σ [] → bz 64 bvx 260 bvu bvw 260 bvv)
theorem bs1 [Gv] (hI : SAll Gv.σ pI) : b1f := by
 obtain ⟨hR, hp0, hpl, hL⟩ := tw hI
 have := zf1 (f43 (σ := Gv.σ) (.v 1) (.c 0))
 rcases zl1 hI (.app 43 bdg) (.len (.s 0)) with ⟨hI, k1⟩ | ⟨hI, k1⟩
 ·have u := trivial
  exact zm0 [] aa (zp hI sk2) hI
 ·have u := trivial
  exact zm0 [] aa (zp hI sk2) hI
theorem bbp [Gv] : ax bqt := fun σ _ hA _ => (@bs1 ⟨σ⟩  (ai hA).1) (ai hA).2
theorem bcy {σ : Nat → List Int} (h : SAll σ wI) : 0 ≤ (σ 1).headD 0 ∧ (σ 1).headD 0 < 1114112 := by
 simp only [wI, sall_cons, sT, sF, evs] at h
 exact ⟨h.1, h.2.1⟩
def b1q [Gv] : Prop := (SAll Gv.σ [] → bz 146 bwh 258 bwe bwg 259 bwf)
theorem bs8 [Gv] (hI : SAll Gv.σ (wI ++ bdh)) : b1q := by
 have hw := bcy (ai hI).1
 have h50 : ((Gv.σ 3).length : Int) ≤ 50000 := by have := (ai hI).2; simp only [sall_cons, sF, evs] at this; exact this.1
 rcases zl1 hI (.c 127) mm with ⟨hI, k1⟩ | ⟨hI, k1⟩
 ·rcases zl1 hI (.c 2047) mm with ⟨hI, k2⟩ | ⟨hI, k2⟩
  ·rcases zl1 hI mm (.c 55296) with ⟨hI, k3⟩ | ⟨hI, k3⟩
   ·have hI := zF1 hI (.c 400000) yo
    have := zf1 (f40 (σ := Gv.σ) (.v 1))
    have u := zf3 (kx ((Gv.σ 1).headD 0))
    exact zm [(259, 258)] (.i yo aat (.g a03 aas .nil)) aa af hI ze2
   ·rcases zl1 hI (.c 57343) mm with ⟨hI, k4⟩ | ⟨hI, k4⟩
    ·rcases zl1 hI (.c 65535) mm with ⟨hI, k5⟩ | ⟨hI, k5⟩
     ·have hI := zF1 hI (.c 1114111) mm
      have hI := zF1 hI (.c 400000) a04
      have := zf1 (f40 (σ := Gv.σ) (.v 1))
      have u := zf3 (kx ((Gv.σ 1).headD 0))
      exact zm [(259, 258)] (.i a04 aat (.g (.cat (.s 3) a05) aas .nil)) aa af hI ze2
     ·have hI := zF1 hI (.c 400000) yo
      have := zf1 (f40 (σ := Gv.σ) (.v 1))
      have u := zf3 (kx ((Gv.σ 1).headD 0))
      exact zm [(259, 258)] (.i yo aat (.g a03 aas .nil)) aa af hI ze2
    ·have hI := zF1 hI (.c 65535) mm
     have hI := zF1 hI (.c 400000) yo
     have := zf1 (f40 (σ := Gv.σ) (.v 1))
     have u := zf3 (kx ((Gv.σ 1).headD 0))
     exact zm [(259, 258)] (.i yo aat (.g (.cat (.s 3) (.cat (.one (.c 239)) (.cat (.one (.c 191)) (.one (.c 189))))) aas .nil)) aa af hI ze2
  ·have hI := zF1 hI (.c 400000) a06
   have := zf1 (f40 (σ := Gv.σ) (.v 1))
   have u := zf3 (kx ((Gv.σ 1).headD 0))
   exact zm [(259, 258)] (.i a06 aat (.g (.cat (.s 3) a07) aas .nil)) aa af hI ze2
 ·have hI := zF1 hI (.c 400000) a08
  have := zf1 (f40 (σ := Gv.σ) (.v 1))
  have u := zf3 (kx ((Gv.σ 1).headD 0))
  exact zm [(259, 258)] (.i a08 aat (.g (.cat (.s 3) (.one (.bin 0 .u8 (.v 1) (.c 0)))) aas .nil)) aa af hI ze2
theorem ax3 [Gv] : ax bie := fun σ _ hA _ => (@bs8 ⟨σ⟩  (ai hA).1) (ai hA).2
def b1p [Gv] : Prop := (SAll Gv.σ [] → bz 146 bwc 257 bv9 bwb 258 bwa)
theorem bs7 [Gv] (hI : SAll Gv.σ wI) : b1p := by
 have hw := bcy hI
 rcases zl1 hI (.c 127) mm with ⟨hI, k1⟩ | ⟨hI, k1⟩
 ·rcases zl1 hI (.c 2047) mm with ⟨hI, k2⟩ | ⟨hI, k2⟩
  ·rcases zl1 hI mm (.c 55296) with ⟨hI, k3⟩ | ⟨hI, k3⟩
   ·have := zf1 (f40 (σ := Gv.σ) (.v 1))
    have u := zf3 (kx ((Gv.σ 1).headD 0))
    exact zm [(258, 257)] (.i (.c 3) xh (.g apq xg .nil)) aa af hI ze2
   ·rcases zl1 hI (.c 57343) mm with ⟨hI, k4⟩ | ⟨hI, k4⟩
    ·rcases zl1 hI (.c 65535) mm with ⟨hI, k5⟩ | ⟨hI, k5⟩
     ·have hI := zF1 hI (.c 1114111) mm
      have := zf1 (f40 (σ := Gv.σ) (.v 1))
      have u := zf3 (kx ((Gv.σ 1).headD 0))
      exact zm [(258, 257)] (.i (.c 4) xh (.g a05 xg .nil)) aa af hI ze2
     ·have := zf1 (f40 (σ := Gv.σ) (.v 1))
      have u := zf3 (kx ((Gv.σ 1).headD 0))
      exact zm [(258, 257)] (.i (.c 3) xh (.g apq xg .nil)) aa af hI ze2
    ·have hI := zF1 hI (.c 65535) mm
     have := zf1 (f40 (σ := Gv.σ) (.v 1))
     have u := zf3 (kx ((Gv.σ 1).headD 0))
     exact zm [(258, 257)] (.i (.c 3) xh (.g (.lit 3 15712189) xg .nil)) aa af hI ze2
  ·have := zf1 (f40 (σ := Gv.σ) (.v 1))
   have u := zf3 (kx ((Gv.σ 1).headD 0))
   exact zm [(258, 257)] (.i (.c 2) xh (.g a07 xg .nil)) aa af hI ze2
 ·have := zf1 (f40 (σ := Gv.σ) (.v 1))
  have u := zf3 (kx ((Gv.σ 1).headD 0))
  exact zm [(258, 257)] (.i (.c 1) xh (.g (.one (.bin 0 .u8 (.v 1) (.c 0))) xg .nil)) aa af hI ze2
theorem ax2 [Gv] : ax bid := fun σ _ hA _ => (@bs7 ⟨σ⟩  (ai hA).1) (ai hA).2
end Go.Ev
