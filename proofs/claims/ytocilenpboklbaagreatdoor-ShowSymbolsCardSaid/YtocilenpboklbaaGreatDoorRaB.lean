import Derived.Test.YtocilenpboklbaaGreatDoorEvGh
import Derived.Lib.DecodeN
set_option maxRecDepth 100000
set_option linter.all false
namespace Go.Ev
section
variable {σ : Nat → List Int}
theorem sall_cons {A : List SA} {x : SA} : SAll σ (x :: A) ↔ x.holds σ ∧ SAll σ A := by
 constructor
 ·exact fun h => ⟨h _ (by simp), fun y hy => h y (zA _ hy)⟩
 ·rintro ⟨h1, h2⟩ y hy
  rcases List.mem_cons.1 hy with rfl | hy
  ·exact h1
  ·exact h2 y hy
theorem anf {a b : SE} (h : a.eval σ < b.eval σ) : (SA.mk true a b true).holds σ := decide_eq_true h
theorem adl {a b : SE} (h : ¬ a.eval σ < b.eval σ) : (SA.mk true a b false).holds σ := decide_eq_false h
theorem a76 {a b : SE} (h : ¬ a.eval σ = b.eval σ) : (SA.mk false a b false).holds σ := decide_eq_false h
theorem a75 {a b : SE} (h : a.eval σ = b.eval σ) : (SA.mk false a b true).holds σ := decide_eq_true h
end
open Classical in
theorem bqa {p : Prop} : (if p then (1 : Int) else 0) = 1 ↔ p := by
 by_cases h : p
 ·rw [if_pos h]; exact ⟨fun _ => h, fun _ => rfl⟩
 ·rw [if_neg h]; exact ⟨fun e => absurd e (by decide), fun e => absurd e h⟩
theorem bbr {x : Int} (h : -9223372036854775808 ≤ x ∧ x ≤ 9223372036854775807) : IntKind.i64.wrap x = x := by
 simp only [IntKind.wrap, IntKind.bits, IntKind.signed]; simp; omega
theorem bns {x : Int} (h : -2147483648 ≤ x ∧ x ≤ 2147483647) : IntKind.i32.wrap x = x := by
 simp only [IntKind.wrap, IntKind.bits, IntKind.signed]; simp; omega
theorem bgj {x : Int} (h : 0 ≤ x ∧ x ≤ 4294967295) : IntKind.u32.wrap x = x := by
 simp only [IntKind.wrap, IntKind.bits, IntKind.signed]; simp; omega
theorem bnt {x : Int} (h : 0 ≤ x ∧ x ≤ 255) : IntKind.u8.wrap x = x := by
 simp only [IntKind.wrap, IntKind.bits, IntKind.signed]; simp; omega
theorem mz (l : List Int) (p : Nat) (h : p < l.length) : 1 ≤ (Utf8.decode (al l) p).2 ∧ p + (Utf8.decode (al l) p).2 ≤ l.length ∧ (Utf8.decode (al l) p).1 ≤ 1114111 := by
 have hs : (al l).size = l.length := cy (l := l)
 rw [Lib.decode_at, hs]
 generalize ((al l).get! p).toNat = b0
 generalize ((al l).get! (p + 1)).toNat = b1
 generalize ((al l).get! (p + 2)).toNat = b2
 generalize ((al l).get! (p + 3)).toNat = b3
 unfold Lib.decodeN
 repeat' split
 all_goals simp only
 all_goals omega
theorem ada : ∀ (f g : Nat) (s : List Int) (p : Nat), s.length ≤ p + f → s.length ≤ p + g → gx f s p = gx g s p
 | 0, 0, _, _, _, _ => rfl
 | 0, g + 1, s, p, h, _ => by unfold gx; rw [if_neg (by omega)]
 | f + 1, 0, s, p, _, h => by unfold gx; rw [if_neg (by omega)]
 | f + 1, g + 1, s, p, h1, h2 => by
   unfold gx
   split
   ·rename_i hp
    have := (mz s p hp).1
    have e : al s = pw s := rfl
    rw [e] at this
    rw [ada f g s _ (by omega) (by omega)]
   ·rfl
theorem vq {s : List Int} {p : Nat} (h : p < s.length) : ae s p = ((Utf8.decode (al s) p).1 : Int) :: ae s (p + (Utf8.decode (al s) p).2) := by
 obtain ⟨f, hf⟩ : ∃ f, s.length = f + 1 := ⟨s.length - 1, by omega⟩
 have hd := (mz s p h).1
 show gx s.length s p = _ :: gx s.length s _
 rw [hf]
 show (if p < s.length then _ else _) = _
 rw [if_pos h]
 congr 1
 exact ada _ _ _ _ (by show s.length ≤ p + (Utf8.decode (al s) p).2 + f; omega) (by show s.length ≤ p + (Utf8.decode (al s) p).2 + (f + 1); omega)
theorem avc {s : List Int} {p : Nat} (h : s.length ≤ p) : ae s p = [] := by
 show gx s.length s p = []
 cases hf : s.length with
 | zero => rfl
 | succ f => show (if p < s.length then _ else _) = _; rw [if_neg (by omega)]
end Go.Ev
set_option maxRecDepth 100000
set_option linter.all false
namespace Go.Ev
theorem sl {σ : Nat → List Int} (a b : SE) : (SA.mk true a b true).holds σ ∧ a.eval σ < b.eval σ ∨ (SA.mk true a b false).holds σ ∧ b.eval σ ≤ a.eval σ := by
 by_cases h : a.eval σ < b.eval σ
 ·exact .inl ⟨anf h, h⟩
 ·exact .inr ⟨adl h, by omega⟩
theorem se {σ : Nat → List Int} (a b : SE) : (SA.mk false a b true).holds σ ∧ a.eval σ = b.eval σ ∨ (SA.mk false a b false).holds σ ∧ ¬ a.eval σ = b.eval σ := by
 by_cases h : a.eval σ = b.eval σ
 ·exact .inl ⟨a75 h, h⟩
 ·exact .inr ⟨a76 h, h⟩
theorem sc {σ : Nat → List Int} {A : List SA} {x : SA} (h : x.holds σ) (h' : SAll σ A) : SAll σ (x :: A) := sall_cons.2 ⟨h, h'⟩
theorem sT {σ : Nat → List Int} {a b : SE} : (SA.mk true a b true).holds σ ↔ a.eval σ < b.eval σ := decide_eq_true_iff
theorem sF {σ : Nat → List Int} {a b : SE} : (SA.mk true a b false).holds σ ↔ b.eval σ ≤ a.eval σ := ⟨fun h => by have := of_decide_eq_false h; omega, fun h => adl (by omega)⟩
theorem sE {σ : Nat → List Int} {a b : SE} : (SA.mk false a b true).holds σ ↔ a.eval σ = b.eval σ := decide_eq_true_iff
theorem sN {σ : Nat → List Int} {a b : SE} : (SA.mk false a b false).holds σ ↔ ¬ a.eval σ = b.eval σ := decide_eq_false_iff_not
theorem ath : ∀ (n : Nat) (l : List Int), wj n l = akv n l
 | 0, _ => rfl
 | _ + 1, [] => rfl
 | _ + 1, [_] => rfl
 | n + 1, a :: b :: l => by show _ :: wj n _ = _ :: akv n _; rw [ath n]
theorem atg (l : List Int) : tg l = wh l := by unfold tg wh; rw [ath]
theorem evs : (∀ (σ : Nat → List Int) (i : Nat), (SE.v i).eval σ = (σ i).headD 0) ∧
  (∀ (σ : Nat → List Int) (n : Int), (SE.c n).eval σ = n) ∧
  (∀ (σ : Nat → List Int) (g : GE), (SE.len g).eval σ = ((g.eval σ).length : Int)) ∧
  (∀ (σ : Nat → List Int) (g : GE) (e : SE), (SE.rd g e).eval σ = (g.eval σ).getD (e.eval σ).toNat 0) ∧
  (∀ (σ : Nat → List Int) (g : GE) (e : SE), (SE.dr g e).eval σ = drJ (g.eval σ) (e.eval σ)) ∧
  (∀ (σ : Nat → List Int) (g : GE) (e : SE), (SE.dw g e).eval σ = dwJ (g.eval σ) (e.eval σ)) ∧
  (∀ (σ : Nat → List Int) (g h : GE), (SE.eqg g h).eval σ = if g.eval σ = h.eval σ then 1 else 0) ∧
  (∀ (σ : Nat → List Int) (g h : GE), (SE.mhas g h).eval σ = yu (g.eval σ) (h.eval σ)) ∧
  (∀ (σ : Nat → List Int) (g h : GE), (SE.mget g h).eval σ = a4n (g.eval σ) (h.eval σ)) ∧
  (∀ (σ : Nat → List Int) (k : IntKind) (a b : SE), (SE.bin 0 k a b).eval σ = k.wrap (a.eval σ + b.eval σ)) ∧
  (∀ (σ : Nat → List Int) (k : IntKind) (a b : SE), (SE.bin 1 k a b).eval σ = k.wrap (a.eval σ - b.eval σ)) ∧
  (∀ (σ : Nat → List Int) (k : IntKind) (a b : SE), (SE.bin 2 k a b).eval σ = k.wrap (a.eval σ * b.eval σ)) ∧
  (∀ (σ : Nat → List Int) (k : IntKind) (a b : SE), (SE.bin 4 k a b).eval σ = (a.eval σ).tmod (b.eval σ)) ∧
  (∀ (σ : Nat → List Int) (k : IntKind) (a b : SE), (SE.bin 6 k a b).eval σ = a.eval σ + b.eval σ) ∧
  (∀ (σ : Nat → List Int) (k : IntKind) (a b : SE), (SE.bin 7 k a b).eval σ = a.eval σ * b.eval σ) ∧
  (∀ (σ : Nat → List Int) (k : IntKind) (a b : SE), (SE.bin 8 k a b).eval σ = kg 8 k (a.eval σ) (b.eval σ)) ∧
  (∀ (σ : Nat → List Int) (k : IntKind) (a b : SE), (SE.bin 9 k a b).eval σ = kg 9 k (a.eval σ) (b.eval σ)) ∧
  (∀ (σ : Nat → List Int) (k : IntKind) (a b : SE), (SE.bin 11 k a b).eval σ = kg 11 k (a.eval σ) (b.eval σ)) ∧
  (∀ (σ : Nat → List Int) (k : IntKind) (a b : SE), (SE.bin 12 k a b).eval σ = kg 12 k (a.eval σ) (b.eval σ)) ∧
  (∀ (σ : Nat → List Int) (k : IntKind) (a b : SE), (SE.bin 13 k a b).eval σ = kg 13 k (a.eval σ) (b.eval σ)) ∧
  (∀ (σ : Nat → List Int) (i : Nat), (GE.s i).eval σ = σ i) ∧
  (∀ (σ : Nat → List Int), GE.nil.eval σ = []) ∧
  (∀ (σ : Nat → List Int), (GE.lit 0 0).eval σ = []) ∧
  (∀ (σ : Nat → List Int) (e : SE), (GE.one e).eval σ = [e.eval σ]) ∧
  (∀ (σ : Nat → List Int) (g h : GE), (GE.cat g h).eval σ = g.eval σ ++ h.eval σ) ∧
  (∀ (σ : Nat → List Int) (g : GE) (a b : SE), (GE.cut g a b).eval σ = ((g.eval σ).take (b.eval σ).toNat).drop (a.eval σ).toNat) ∧
  (∀ (σ : Nat → List Int) (c : SE), (SE.app 40 (.i c .nil)).eval σ = ac1 (c.eval σ)) ∧
  (∀ (σ : Nat → List Int) (c : SE), (SE.app 41 (.i c .nil)).eval σ = jo (c.eval σ)) ∧
  (∀ (σ : Nat → List Int) (R : GE) (p b : SE), (SE.app 43 (.g R (.i p (.i b .nil)))).eval σ = ao (R.eval σ) (p.eval σ) (b.eval σ)) ∧
  (∀ (σ : Nat → List Int) (R b : GE) (p q : SE), (SE.app 44 (.g R (.i p (.g b (.i q .nil))))).eval σ = (cu (R.eval σ) (p.eval σ) (b.eval σ) (q.eval σ)).f) ∧
  (∀ (σ : Nat → List Int) (R b : GE) (p q : SE), (SE.app 45 (.g R (.i p (.g b (.i q .nil))))).eval σ = (cu (R.eval σ) (p.eval σ) (b.eval σ) (q.eval σ)).p) ∧
  (∀ (σ : Nat → List Int) (R b : GE) (p q : SE), (SE.app 46 (.g R (.i p (.g b (.i q .nil))))).eval σ = (cu (R.eval σ) (p.eval σ) (b.eval σ) (q.eval σ)).q) ∧
  (∀ (σ : Nat → List Int) (s : GE), (SE.app 47 (.g s .nil)).eval σ = abu (s.eval σ)) ∧
  (∀ (σ : Nat → List Int) (s : GE), (SE.app 48 (.g s .nil)).eval σ = a9o (s.eval σ)) ∧
  (∀ (σ : Nat → List Int) (s : GE) (p : SE), (SE.app 49 (.g s (.i p .nil))).eval σ = ac7 (s.eval σ) (p.eval σ)) ∧
  (∀ (σ : Nat → List Int) (s : GE), (SE.app 50 (.g s .nil)).eval σ = ar (s.eval σ)) ∧
  (∀ (σ : Nat → List Int) (d : GE) (p s m t : SE), (SE.app 51 (.g d (.i p (.i s (.i m (.i t .nil)))))).eval σ = (uk (d.eval σ) (p.eval σ) (s.eval σ) (m.eval σ) (t.eval σ)).k) ∧
  (∀ (σ : Nat → List Int) (d : GE) (p s m t : SE), (SE.app 52 (.g d (.i p (.i s (.i m (.i t .nil)))))).eval σ = (uk (d.eval σ) (p.eval σ) (s.eval σ) (m.eval σ) (t.eval σ)).n) ∧
  (∀ (σ : Nat → List Int) (G : GE), (SE.app 53 (.g G .nil)).eval σ = yr (G.eval σ)) ∧
  (∀ (σ : Nat → List Int) (G s : GE), (SE.app 54 (.g G (.g s .nil))).eval σ = (fe (G.eval σ) (s.eval σ)).f) ∧
  (∀ (σ : Nat → List Int) (G s : GE), (SE.app 55 (.g G (.g s .nil))).eval σ = (fe (G.eval σ) (s.eval σ)).n) ∧
  (∀ (σ : Nat → List Int) (h : GE) (z : SE), (SE.app 57 (.g h (.i z .nil))).eval σ = (aao (h.eval σ) (z.eval σ)).f) ∧
  (∀ (σ : Nat → List Int) (h : GE) (z : SE), (SE.app 58 (.g h (.i z .nil))).eval σ = (bbo (h.eval σ) (z.eval σ)).f) ∧
  (∀ (σ : Nat → List Int) (h s : GE), (SE.app 59 (.g h (.g s .nil))).eval σ = (ajx (h.eval σ) (s.eval σ)).f) ∧
  (∀ (σ : Nat → List Int) (R h G : GE) (p o : SE), (SE.app 60 (.g R (.i p (.i o (.g h (.g G .nil)))))).eval σ = (cg (R.eval σ) (p.eval σ) (o.eval σ) (h.eval σ) (G.eval σ)).f) ∧
  (∀ (σ : Nat → List Int) (R h G : GE) (p o : SE), (SE.app 61 (.g R (.i p (.i o (.g h (.g G .nil)))))).eval σ = (cg (R.eval σ) (p.eval σ) (o.eval σ) (h.eval σ) (G.eval σ)).a) ∧
  (∀ (σ : Nat → List Int) (R h G : GE) (p o : SE), (SE.app 62 (.g R (.i p (.i o (.g h (.g G .nil)))))).eval σ = (cg (R.eval σ) (p.eval σ) (o.eval σ) (h.eval σ) (G.eval σ)).k) ∧
  (∀ (σ : Nat → List Int) (R h G : GE) (p o : SE), (SE.app 63 (.g R (.i p (.i o (.g h (.g G .nil)))))).eval σ = (cg (R.eval σ) (p.eval σ) (o.eval σ) (h.eval σ) (G.eval σ)).n) ∧
  (∀ (σ : Nat → List Int) (R h G : GE) (p o : SE), (SE.app 64 (.g R (.i p (.i o (.g h (.g G .nil)))))).eval σ = (cg (R.eval σ) (p.eval σ) (o.eval σ) (h.eval σ) (G.eval σ)).p) ∧
  (∀ (σ : Nat → List Int) (R h G : GE) (p o a c k n : SE), (SE.app 65 (.g R (.i p (.i o (.i a (.i c (.i k (.i n (.g h (.g G .nil)))))))))).eval σ = (n6 (R.eval σ) (p.eval σ) (o.eval σ) (a.eval σ) (c.eval σ) (k.eval σ) (n.eval σ) (h.eval σ) (G.eval σ)).f) ∧
  (∀ (σ : Nat → List Int) (R h G : GE) (p o a c k n : SE), (SE.app 66 (.g R (.i p (.i o (.i a (.i c (.i k (.i n (.g h (.g G .nil)))))))))).eval σ = (n6 (R.eval σ) (p.eval σ) (o.eval σ) (a.eval σ) (c.eval σ) (k.eval σ) (n.eval σ) (h.eval σ) (G.eval σ)).a) ∧
  (∀ (σ : Nat → List Int) (R h G : GE) (p o a c k n : SE), (SE.app 67 (.g R (.i p (.i o (.i a (.i c (.i k (.i n (.g h (.g G .nil)))))))))).eval σ = (n6 (R.eval σ) (p.eval σ) (o.eval σ) (a.eval σ) (c.eval σ) (k.eval σ) (n.eval σ) (h.eval σ) (G.eval σ)).k) ∧
  (∀ (σ : Nat → List Int) (R h G : GE) (p o a c k n : SE), (SE.app 68 (.g R (.i p (.i o (.i a (.i c (.i k (.i n (.g h (.g G .nil)))))))))).eval σ = (n6 (R.eval σ) (p.eval σ) (o.eval σ) (a.eval σ) (c.eval σ) (k.eval σ) (n.eval σ) (h.eval σ) (G.eval σ)).n) ∧
  (∀ (σ : Nat → List Int) (R h G : GE) (p o a c k n : SE), (SE.app 69 (.g R (.i p (.i o (.i a (.i c (.i k (.i n (.g h (.g G .nil)))))))))).eval σ = (n6 (R.eval σ) (p.eval σ) (o.eval σ) (a.eval σ) (c.eval σ) (k.eval σ) (n.eval σ) (h.eval σ) (G.eval σ)).p) ∧
  (∀ (σ : Nat → List Int) (R h G : GE) (p o a c : SE), (SE.app 70 (.g R (.i p (.i o (.i a (.i c (.g h (.g G .nil)))))))).eval σ = (ab6 (R.eval σ) (p.eval σ) (o.eval σ) (a.eval σ) (c.eval σ) (h.eval σ) (G.eval σ)).f) ∧
  (∀ (σ : Nat → List Int) (R h G : GE) (p o a c : SE), (SE.app 71 (.g R (.i p (.i o (.i a (.i c (.g h (.g G .nil)))))))).eval σ = (ab6 (R.eval σ) (p.eval σ) (o.eval σ) (a.eval σ) (c.eval σ) (h.eval σ) (G.eval σ)).a) ∧
  (∀ (σ : Nat → List Int) (R h G : GE) (p o a c : SE), (SE.app 72 (.g R (.i p (.i o (.i a (.i c (.g h (.g G .nil)))))))).eval σ = (ab6 (R.eval σ) (p.eval σ) (o.eval σ) (a.eval σ) (c.eval σ) (h.eval σ) (G.eval σ)).n) ∧
  (∀ (σ : Nat → List Int) (R h G : GE) (p o a c : SE), (SE.app 73 (.g R (.i p (.i o (.i a (.i c (.g h (.g G .nil)))))))).eval σ = (ab6 (R.eval σ) (p.eval σ) (o.eval σ) (a.eval σ) (c.eval σ) (h.eval σ) (G.eval σ)).p) ∧
  (∀ (σ : Nat → List Int) (h : GE) (i k n : SE), (SE.app 74 (.i i (.g h (.i k (.i n .nil))))).eval σ = (rv (i.eval σ) (h.eval σ) (k.eval σ) (n.eval σ)).f) ∧
  (∀ (σ : Nat → List Int) (h : GE) (i k n : SE), (SE.app 75 (.i i (.g h (.i k (.i n .nil))))).eval σ = (rv (i.eval σ) (h.eval σ) (k.eval σ) (n.eval σ)).k) ∧
  (∀ (σ : Nat → List Int) (h : GE) (i k n : SE), (SE.app 76 (.i i (.g h (.i k (.i n .nil))))).eval σ = (rv (i.eval σ) (h.eval σ) (k.eval σ) (n.eval σ)).n) ∧
  (∀ (σ : Nat → List Int) (c : SE), (SE.app 77 (.i c .nil)).eval σ = a5x (c.eval σ)) ∧
  (∀ (σ : Nat → List Int) (c : SE), (SE.app 78 (.i c .nil)).eval σ = bdw (c.eval σ)) ∧
  (∀ (σ : Nat → List Int) (c : SE), (SE.app 79 (.i c .nil)).eval σ = anm (c.eval σ)) ∧
  (∀ (σ : Nat → List Int) (R : GE) (p c n : SE), (SE.app 80 (.g R (.i p (.i c (.i n .nil))))).eval σ = (ac8 (R.eval σ) (p.eval σ) (c.eval σ) (n.eval σ)).p) ∧
  (∀ (σ : Nat → List Int) (R : GE) (p c n : SE), (SE.app 81 (.g R (.i p (.i c (.i n .nil))))).eval σ = (ac8 (R.eval σ) (p.eval σ) (c.eval σ) (n.eval σ)).c) ∧
  (∀ (σ : Nat → List Int) (R : GE) (p c n : SE), (SE.app 82 (.g R (.i p (.i c (.i n .nil))))).eval σ = (ac8 (R.eval σ) (p.eval σ) (c.eval σ) (n.eval σ)).a) ∧
  (∀ (σ : Nat → List Int) (R : GE) (p a : SE), (SE.app 83 (.g R (.i p (.i a .nil)))).eval σ = (amw (R.eval σ) (p.eval σ) (a.eval σ)).f) ∧
  (∀ (σ : Nat → List Int) (R : GE) (p a : SE), (SE.app 84 (.g R (.i p (.i a .nil)))).eval σ = (amw (R.eval σ) (p.eval σ) (a.eval σ)).a) ∧
  (∀ (σ : Nat → List Int) (R : GE) (p a : SE), (SE.app 85 (.g R (.i p (.i a .nil)))).eval σ = (amw (R.eval σ) (p.eval σ) (a.eval σ)).c) ∧
  (∀ (σ : Nat → List Int) (R : GE) (p a : SE), (SE.app 86 (.g R (.i p (.i a .nil)))).eval σ = (amw (R.eval σ) (p.eval σ) (a.eval σ)).p) ∧
  (∀ (σ : Nat → List Int) (R : GE) (p : SE), (SE.app 87 (.g R (.i p .nil))).eval σ = (yt (R.eval σ) (p.eval σ)).f) ∧
  (∀ (σ : Nat → List Int) (R : GE) (p : SE), (SE.app 88 (.g R (.i p .nil))).eval σ = (yt (R.eval σ) (p.eval σ)).a) ∧
  (∀ (σ : Nat → List Int) (R : GE) (p : SE), (SE.app 89 (.g R (.i p .nil))).eval σ = (yt (R.eval σ) (p.eval σ)).c) ∧
  (∀ (σ : Nat → List Int) (R : GE) (p : SE), (SE.app 90 (.g R (.i p .nil))).eval σ = (yt (R.eval σ) (p.eval σ)).p) ∧
  (∀ (σ : Nat → List Int) (R b : GE) (p : SE), (SE.app 91 (.g R (.i p (.g b .nil)))).eval σ = (afj (R.eval σ) (p.eval σ) (b.eval σ)).f) ∧
  (∀ (σ : Nat → List Int) (R b : GE) (p : SE), (SE.app 92 (.g R (.i p (.g b .nil)))).eval σ = (afj (R.eval σ) (p.eval σ) (b.eval σ)).a) ∧
  (∀ (σ : Nat → List Int) (R b : GE) (p : SE), (SE.app 93 (.g R (.i p (.g b .nil)))).eval σ = (afj (R.eval σ) (p.eval σ) (b.eval σ)).p) ∧
  (∀ (σ : Nat → List Int) (R : GE) (p : SE), (SE.app 94 (.g R (.i p .nil))).eval σ = be4 (R.eval σ) (p.eval σ)) ∧
  (∀ (σ : Nat → List Int) (R : GE) (p b : SE), (SE.app 95 (.g R (.i p (.i b .nil)))).eval σ = (adx (R.eval σ) (p.eval σ) (b.eval σ)).p) ∧
  (∀ (σ : Nat → List Int) (R : GE) (p b : SE), (SE.app 96 (.g R (.i p (.i b .nil)))).eval σ = (adx (R.eval σ) (p.eval σ) (b.eval σ)).b) ∧
  (∀ (σ : Nat → List Int) (R : GE) (p : SE), (SE.app 97 (.g R (.i p .nil))).eval σ = (y9 (R.eval σ) (p.eval σ)).f) ∧
  (∀ (σ : Nat → List Int) (R : GE) (p : SE), (SE.app 98 (.g R (.i p .nil))).eval σ = (y9 (R.eval σ) (p.eval σ)).a) ∧
  (∀ (σ : Nat → List Int) (R : GE) (p : SE), (SE.app 100 (.g R (.i p .nil))).eval σ = (y9 (R.eval σ) (p.eval σ)).c) ∧
  (∀ (σ : Nat → List Int) (R : GE) (p : SE), (SE.app 101 (.g R (.i p .nil))).eval σ = (y9 (R.eval σ) (p.eval σ)).p) ∧
  (∀ (σ : Nat → List Int) (R : GE) (p : SE), (SE.app 102 (.g R (.i p .nil))).eval σ = (aa1 (R.eval σ) (p.eval σ)).f) ∧
  (∀ (σ : Nat → List Int) (R : GE) (p : SE), (SE.app 103 (.g R (.i p .nil))).eval σ = (aa1 (R.eval σ) (p.eval σ)).a) ∧
  (∀ (σ : Nat → List Int) (R : GE) (p : SE), (SE.app 104 (.g R (.i p .nil))).eval σ = (aa1 (R.eval σ) (p.eval σ)).c) ∧
  (∀ (σ : Nat → List Int) (R : GE) (p : SE), (SE.app 105 (.g R (.i p .nil))).eval σ = (aa1 (R.eval σ) (p.eval σ)).p) ∧
  (∀ (σ : Nat → List Int) (R l h G : GE) (p : SE), (SE.app 106 (.g R (.i p (.g l (.g h (.g G .nil)))))).eval σ = (tl (R.eval σ) (p.eval σ) (l.eval σ) (h.eval σ) (G.eval σ)).f) ∧
  (∀ (σ : Nat → List Int) (R l h G : GE) (p : SE), (SE.app 107 (.g R (.i p (.g l (.g h (.g G .nil)))))).eval σ = (tl (R.eval σ) (p.eval σ) (l.eval σ) (h.eval σ) (G.eval σ)).a) ∧
  (∀ (σ : Nat → List Int) (R : GE) (p : SE), (SE.app 108 (.g R (.i p .nil))).eval σ = aon (R.eval σ) (p.eval σ)) ∧
  (∀ (σ : Nat → List Int) (s : GE) (p : SE), (GE.app 6 (.g s (.i p .nil))).eval σ = ae (s.eval σ) (p.eval σ).toNat) ∧
  (∀ (σ : Nat → List Int) (c : SE), (GE.app 40 (.i c .nil)).eval σ = dh (c.eval σ)) ∧
  (∀ (σ : Nat → List Int) (R b : GE) (p q : SE), (GE.app 44 (.g R (.i p (.g b (.i q .nil))))).eval σ = (cu (R.eval σ) (p.eval σ) (b.eval σ) (q.eval σ)).b) ∧
  (∀ (σ : Nat → List Int) (s : GE), (GE.app 47 (.g s .nil)).eval σ = ew (s.eval σ)) ∧
  (∀ (σ : Nat → List Int) (G s : GE), (GE.app 54 (.g G (.g s .nil))).eval σ = (fe (G.eval σ) (s.eval σ)).G) ∧
  (∀ (σ : Nat → List Int) (h : GE) (z : SE), (GE.app 57 (.g h (.i z .nil))).eval σ = (aao (h.eval σ) (z.eval σ)).h) ∧
  (∀ (σ : Nat → List Int) (h : GE) (z : SE), (GE.app 58 (.g h (.i z .nil))).eval σ = (bbo (h.eval σ) (z.eval σ)).h) ∧
  (∀ (σ : Nat → List Int) (h s : GE), (GE.app 59 (.g h (.g s .nil))).eval σ = (ajx (h.eval σ) (s.eval σ)).h) ∧
  (∀ (σ : Nat → List Int) (R h G : GE) (p o : SE), (GE.app 60 (.g R (.i p (.i o (.g h (.g G .nil)))))).eval σ = (cg (R.eval σ) (p.eval σ) (o.eval σ) (h.eval σ) (G.eval σ)).h) ∧
  (∀ (σ : Nat → List Int) (R h G : GE) (p o : SE), (GE.app 61 (.g R (.i p (.i o (.g h (.g G .nil)))))).eval σ = (cg (R.eval σ) (p.eval σ) (o.eval σ) (h.eval σ) (G.eval σ)).G) ∧
  (∀ (σ : Nat → List Int) (R h G : GE) (p o a c k n : SE), (GE.app 65 (.g R (.i p (.i o (.i a (.i c (.i k (.i n (.g h (.g G .nil)))))))))).eval σ = (n6 (R.eval σ) (p.eval σ) (o.eval σ) (a.eval σ) (c.eval σ) (k.eval σ) (n.eval σ) (h.eval σ) (G.eval σ)).h) ∧
  (∀ (σ : Nat → List Int) (R h G : GE) (p o a c k n : SE), (GE.app 66 (.g R (.i p (.i o (.i a (.i c (.i k (.i n (.g h (.g G .nil)))))))))).eval σ = (n6 (R.eval σ) (p.eval σ) (o.eval σ) (a.eval σ) (c.eval σ) (k.eval σ) (n.eval σ) (h.eval σ) (G.eval σ)).G) ∧
  (∀ (σ : Nat → List Int) (R h G : GE) (p o a c : SE), (GE.app 70 (.g R (.i p (.i o (.i a (.i c (.g h (.g G .nil)))))))).eval σ = (ab6 (R.eval σ) (p.eval σ) (o.eval σ) (a.eval σ) (c.eval σ) (h.eval σ) (G.eval σ)).h) ∧
  (∀ (σ : Nat → List Int) (R h G : GE) (p o a c : SE), (GE.app 71 (.g R (.i p (.i o (.i a (.i c (.g h (.g G .nil)))))))).eval σ = (ab6 (R.eval σ) (p.eval σ) (o.eval σ) (a.eval σ) (c.eval σ) (h.eval σ) (G.eval σ)).G) ∧
  (∀ (σ : Nat → List Int) (h : GE) (i k n : SE), (GE.app 74 (.i i (.g h (.i k (.i n .nil))))).eval σ = (rv (i.eval σ) (h.eval σ) (k.eval σ) (n.eval σ)).h) ∧
  (∀ (σ : Nat → List Int) (R b : GE) (p : SE), (GE.app 91 (.g R (.i p (.g b .nil)))).eval σ = (afj (R.eval σ) (p.eval σ) (b.eval σ)).b) ∧
  (∀ (σ : Nat → List Int) (R l h G : GE) (p : SE), (GE.app 106 (.g R (.i p (.g l (.g h (.g G .nil)))))).eval σ = (tl (R.eval σ) (p.eval σ) (l.eval σ) (h.eval σ) (G.eval σ)).l) ∧
  (∀ (σ : Nat → List Int) (R l h G : GE) (p : SE), (GE.app 107 (.g R (.i p (.g l (.g h (.g G .nil)))))).eval σ = (tl (R.eval σ) (p.eval σ) (l.eval σ) (h.eval σ) (G.eval σ)).h) ∧
  (∀ (σ : Nat → List Int) (R l h G : GE) (p : SE), (GE.app 108 (.g R (.i p (.g l (.g h (.g G .nil)))))).eval σ = (tl (R.eval σ) (p.eval σ) (l.eval σ) (h.eval σ) (G.eval σ)).G) :=
 ⟨by intros; rfl, by intros; rfl, by intros; rfl, by intros; rfl, by intros; rfl, by intros; rfl, by intros; rfl, by intros; simp only [SE.eval, yu, atg], by intros; simp only [SE.eval, a4n, atg], by intros; rfl, by intros; rfl, by intros; rfl, by intros; rfl, by intros; rfl, by intros; rfl, by intros; rfl, by intros; rfl, by intros; rfl, by intros; rfl, by intros; rfl, by intros; rfl, by intros; rfl, by intros; rfl, by intros; rfl, by intros; rfl, by intros; rfl, by intros; rfl, by intros; rfl, by intros; rfl, by intros; rfl, by intros; rfl, by intros; rfl, by intros; rfl, by intros; rfl, by intros; rfl, by intros; rfl, by intros; rfl, by intros; rfl, by intros; rfl, by intros; rfl, by intros; rfl, by intros; rfl, by intros; rfl, by intros; rfl, by intros; rfl, by intros; rfl, by intros; rfl, by intros; rfl, by intros; rfl, by intros; rfl, by intros; rfl, by intros; rfl, by intros; rfl, by intros; rfl, by intros; rfl, by intros; rfl, by intros; rfl, by intros; rfl, by intros; rfl, by intros; rfl, by intros; rfl, by intros; rfl, by intros; rfl, by intros; rfl, by intros; rfl, by intros; rfl, by intros; rfl, by intros; rfl, by intros; rfl, by intros; rfl, by intros; rfl, by intros; rfl, by intros; rfl, by intros; rfl, by intros; rfl, by intros; rfl, by intros; rfl, by intros; rfl, by intros; rfl, by intros; rfl, by intros; rfl, by intros; rfl, by intros; rfl, by intros; rfl, by intros; rfl, by intros; rfl, by intros; rfl, by intros; rfl, by intros; rfl, by intros; rfl, by intros; rfl, by intros; rfl, by intros; rfl, by intros; rfl, by intros; rfl, by intros; rfl, by intros; rfl, by intros; rfl, by intros; rfl, by intros; rfl, by intros; rfl, by intros; rfl, by intros; rfl, by intros; rfl, by intros; rfl, by intros; rfl, by intros; rfl, by intros; rfl, by intros; rfl, by intros; rfl, by intros; rfl⟩
theorem wr : (∀ x : Int, -9223372036854775808 ≤ x ∧ x ≤ 9223372036854775807 → IntKind.i64.wrap x = x) ∧ (∀ x : Int, -2147483648 ≤ x ∧ x ≤ 2147483647 → IntKind.i32.wrap x = x) ∧
  (∀ x : Int, 0 ≤ x ∧ x ≤ 4294967295 → IntKind.u32.wrap x = x) ∧ (∀ x : Int, 0 ≤ x ∧ x ≤ 255 → IntKind.u8.wrap x = x) ∧ (∀ x : Int, IntKind.u64.wrap x = x % 18446744073709551616) ∧ (∀ x : Int, 0 ≤ x ∧ x ≤ 18446744073709551615 → x % 18446744073709551616 = x) ∧
  (∀ x : Int, x + 0 = x) ∧ (∀ x : Int, 0 + x = x) ∧ (∀ x : Int, -1 * x = -x) ∧ (∀ x y : Int, x + -y = x - y) ∧ (∀ x : Int, ([x] : List Int).headD 0 = x) ∧ (∀ (α : Type) (a b : α), (if True then a else b) = a) ∧ (∀ (α : Type) (a b : α), (if False then a else b) = b) ∧ (¬True ↔ False) ∧ (¬False ↔ True) ∧ (∀ p : Prop, (False ∧ p ↔ False)) ∧ (∀ p : Prop, (True ∧ p ↔ p)) ∧ (∀ p : Prop, (p ∧ False ↔ False)) ∧ (∀ p : Prop, (p ∧ True ↔ p)) ∧ (∀ p : Prop, (p ∨ True ↔ True)) ∧ (∀ p : Prop, (p ∨ False ↔ p)) ∧ (∀ p : Prop, (True ∨ p ↔ True)) ∧ (∀ p : Prop, (False ∨ p ↔ p)) ∧ (∀ p : Prop, ((True → p) ↔ p)) ∧ (∀ p : Prop, ((False → p) ↔ True)) ∧ (∀ x : Int, x + 1 + 1 = x + 2) ∧ (∀ x : Int, x + 1 + 2 = x + 3) ∧ (∀ x : Int, x + 2 + 1 = x + 3) ∧ (∀ l m : List Int, (((l ++ m).length : Nat) : Int) = (l.length : Int) + (m.length : Int)) ∧ (∀ (p : Prop) [Decidable p], ((if p then (1 : Int) else 0) = 1 ↔ p)) ∧ ((0 : Int).toNat = 0) ∧ ((1 : Int).toNat = 1) ∧ ((2 : Int).toNat = 2) :=
 ⟨fun _ h => bbr h, fun _ h => bns h, fun _ h => bgj h, fun _ h => bnt h, fun x => by simp only [IntKind.wrap, IntKind.bits, IntKind.signed]; simp, fun x h => Int.emod_eq_of_lt h.1 (by omega), Int.add_zero, Int.zero_add, fun x => (Int.neg_eq_neg_one_mul x).symm, fun _ _ => Int.sub_eq_add_neg.symm, fun _ => rfl, fun _ _ _ => if_pos trivial, fun _ _ _ => if_neg id, by simp, by simp, by simp, by simp, by simp, by simp, by simp, by simp, by simp, by simp, by simp, by simp, by omega, by omega, by omega, by simp, fun p _ => by by_cases h : p <;> simp [h], rfl, rfl, rfl⟩
end Go.Ev
set_option maxRecDepth 100000
set_option linter.all false
namespace Go.Ev
section
variable {σ : Nat → List Int}
open Classical in
theorem s42 {g : GE} : (SA.mk false (.app 42 (.g g .nil)) (.c 1) true).holds σ ↔ ae9 (g.eval σ) := by
 show decide (bl9 42 [g.eval σ] = 1) = true ↔ _
 rw [decide_eq_true_iff]
 exact bqa
theorem gl [Gv] (a b : SE) : (SA.mk true a b true).holds Gv.σ ∧ a.eval Gv.σ < b.eval Gv.σ ∨ (SA.mk true a b false).holds Gv.σ ∧ b.eval Gv.σ ≤ a.eval Gv.σ := sl a b
theorem gq [Gv] (a b : SE) : (SA.mk false a b true).holds Gv.σ ∧ a.eval Gv.σ = b.eval Gv.σ ∨ (SA.mk false a b false).holds Gv.σ ∧ ¬ a.eval Gv.σ = b.eval Gv.σ := se a b
theorem bT [Gv] (a b : SE) (h : a.eval Gv.σ < b.eval Gv.σ) : (SA.mk true a b true).holds Gv.σ := anf h
theorem bF [Gv] (a b : SE) (h : b.eval Gv.σ ≤ a.eval Gv.σ) : (SA.mk true a b false).holds Gv.σ := adl (by omega)
theorem bE [Gv] (a b : SE) (h : a.eval Gv.σ = b.eval Gv.σ) : (SA.mk false a b true).holds Gv.σ := a75 h
theorem bN [Gv] (a b : SE) (h : ¬ a.eval Gv.σ = b.eval Gv.σ) : (SA.mk false a b false).holds Gv.σ := a76 h
theorem ap {A B : List SA} (h : SAll σ (A ++ B)) : SAll σ A ∧ SAll σ B := ⟨fun x hx => h x (List.mem_append_left _ hx), fun x hx => h x (List.mem_append_right _ hx)⟩
theorem bz1 {R : List Int} (hR : ae9 R) (i : Nat) : 0 ≤ R.getD i 0 ∧ R.getD i 0 < 1114112 := by
 by_cases h : i < R.length
 ·have := hR.2 (R[i]) (List.getElem_mem h)
  rw [show R.getD i 0 = R[i] by simp [List.getD, h]]; exact this
 ·rw [show R.getD i 0 = 0 by simp [List.getD, Nat.le_of_not_lt h]]; omega
theorem asj (hR : ae9 (σ 0)) (e : SE) : 0 ≤ (SE.rd (.s 0) e).eval σ ∧ (SE.rd (.s 0) e).eval σ < 1114112 := bz1 hR _
theorem f40 (a : SE) : 1 ≤ (SE.len (.app 40 (.i a .nil))).eval σ ∧ (SE.len (.app 40 (.i a .nil))).eval σ ≤ 4 := by
 show 1 ≤ ((dh (a.eval σ)).length : Int) ∧ ((dh (a.eval σ)).length : Int) ≤ 4
 unfold dh
 repeat' split
 all_goals (simp only [zO, zS]; omega)
theorem bet : (GE.lit 3 15712189).eval σ = [239, 191, 189] := by
 simp only [GE.eval]
 decide +kernel
theorem ed (R : List Int) (p b : Int) : ao R p b = if p < (R.length : Int) then
  if b = 1 then ao R (p + 1) (if R.getD p.toNat 0 = 10 then 0 else 1)
  else if R.getD p.toNat 0 = 59 then ao R (p + 1) 1
  else if ac1 (R.getD p.toNat 0) = 1 then ao R (p + 1) 0
  else p
 else p := by
 conv => lhs; rw [ao]
 split <;> rfl
theorem ab1 (R : List Int) : ∀ (n : Nat) (p b : Int), ((R.length : Int) - p).toNat ≤ n → p ≤ (R.length : Int) → ao R p b ≤ (R.length : Int)
 | 0, p, b, h, hp => by rw [ed, if_neg (by omega)]; omega
 | n + 1, p, b, h, hp => by
   rw [ed]
   split
   ·split
    ·exact ab1 R n (p + 1) _ (by omega) (by omega)
    ·split
     ·exact ab1 R n (p + 1) 1 (by omega) (by omega)
     ·split
      ·exact ab1 R n (p + 1) 0 (by omega) (by omega)
      ·omega
   ·omega
theorem f43 (a b : SE) : a.eval σ ≤ (SE.app 43 (.g (.s 0) (.i a (.i b .nil)))).eval σ ∧ (a.eval σ ≤ ((σ 0).length : Int) → (SE.app 43 (.g (.s 0) (.i a (.i b .nil)))).eval σ ≤ ((σ 0).length : Int)) :=
 ⟨af2 _ _ _, fun h => ab1 _ _ _ _ (zY _) h⟩
end
end Go.Ev
set_option maxRecDepth 100000
set_option linter.all false
namespace Go.Ev
/- Lemmas that carry their tactic as a default: what is decided is kept in one list. -/
noncomputable section
def znl : LT → LT
 | .mk f k us nxi Li A _ r nxo Lo => .mk f k us nxi Li A none r nxo Lo
end
section
variable [Gv]
theorem zh {A : List SA} (hI : SAll Gv.σ A) {l : List TM} (h : ∀ t ∈ l, bj t) : pl (abl A l) := ai hI _ h
theorem zp {A : List SA} (hI : SAll Gv.σ A) {l : List LT} (h : ∀ t ∈ l, be t) : afe (bls A l) := bey hI _ h
theorem zm0 {P : Prop} {f : FuncId} {us : List AV} {nxi : Nat} {Li : List HO} {A : List SA} {r : TR} {nxo : Nat} {Lo : List HO} (T : List (Nat × Nat)) {H : ahb} (hH : pl H) {L : u5} (hL : afe L) (hA : SAll Gv.σ A) (hx : Nat.blt nxi 65536 = true := by rfl) (ht : y7 Li = true := by rfl) (h : aay T nxi nxo .nil Lo r (enter (yw H L 2000) f (aVs A us) (bo (aHO A Li) nxi)) = true := by kernel_rfl) : P → aq f us nxi Li r nxo Lo := fun _ => ag (E := .nil) hH hL hA trivial hx ht h
theorem zm {P : Prop} {f : FuncId} {us : List AV} {nxi : Nat} {Li : List HO} {A : List SA} {r : TR} {nxo : Nat} {Lo : List HO} (T : List (Nat × Nat)) (E : EqL) {H : ahb} (hH : pl H) {L : u5} (hL : afe L) (hA : SAll Gv.σ A) (hE : E.all Gv.σ) (hx : Nat.blt nxi 65536 = true := by rfl) (ht : y7 Li = true := by rfl) (h : aay T nxi nxo E Lo r (enter (yw H L 2000) f (aVs A us) (bo (aHO A Li) nxi)) = true := by kernel_rfl) : P → aq f us nxi Li r nxo Lo := fun _ => ag (E := E) hH hL hA hE hx ht h
theorem zt0 {P : Prop} {f k : Nat} {us : List AV} {nxi : Nat} {Li : List HO} {A : List SA} {r : LR} {nxo : Nat} {Lo : List HO} (T : List (Nat × Nat)) {H : ahb} (hH : pl H) {L : u5} (hL : afe L) (hA : SAll Gv.σ A) (hx : Nat.blt nxi 65536 = true := by rfl) (ht : y7 Li = true := by rfl) (h : lb T nxi nxo .nil Lo (br us) r (md (pn f k) (yw H L 2000) (.mk f (br us) false none) (.mk (kw (aVs A us) 0 kc) [] .none (bo (aHO A Li) nxi))) = true := by kernel_rfl) : P → b8 f k us nxi Li r nxo Lo := fun _ => fj (E := .nil) hH hL hA trivial hx ht h
theorem zt {P : Prop} {f k : Nat} {us : List AV} {nxi : Nat} {Li : List HO} {A : List SA} {r : LR} {nxo : Nat} {Lo : List HO} (T : List (Nat × Nat)) (E : EqL) {H : ahb} (hH : pl H) {L : u5} (hL : afe L) (hA : SAll Gv.σ A) (hE : E.all Gv.σ) (hx : Nat.blt nxi 65536 = true := by rfl) (ht : y7 Li = true := by rfl) (h : lb T nxi nxo E Lo (br us) r (md (pn f k) (yw H L 2000) (.mk f (br us) false none) (.mk (kw (aVs A us) 0 kc) [] .none (bo (aHO A Li) nxi))) = true := by kernel_rfl) : P → b8 f k us nxi Li r nxo Lo := fun _ => fj (E := E) hH hL hA hE hx ht h
theorem zl1 {L : List SA} (hI : SAll Gv.σ L) (a b : SE) {x y : Int} (ha : a.eval Gv.σ = x := by (try simp (disch := omega) only [evs, wr]); rfl) (hb : b.eval Gv.σ = y := by (try simp (disch := omega) only [evs, wr]); rfl) : SAll Gv.σ (.mk true a b true :: L) ∧ x < y ∨ SAll Gv.σ (.mk true a b false :: L) ∧ y ≤ x := by subst ha hb; exact (gl a b).imp (fun h => ⟨sc h.1 hI, h.2⟩) (fun h => ⟨sc h.1 hI, h.2⟩)
theorem zf1 {p q : Prop} (h : p) (e : p = q := by (try simp (disch := omega) only [evs, wr]); rfl) : q := e ▸ h
theorem zT1 {L : List SA} (hI : SAll Gv.σ L) (a b : SE) (h : a.eval Gv.σ < b.eval Gv.σ := by simp (disch := omega) only [evs, wr] <;> omega) : SAll Gv.σ (.mk true a b true :: L) := sc (bT a b h) hI
theorem zF1 {L : List SA} (hI : SAll Gv.σ L) (a b : SE) (h : b.eval Gv.σ ≤ a.eval Gv.σ := by simp (disch := omega) only [evs, wr] <;> omega) : SAll Gv.σ (.mk true a b false :: L) := sc (bF a b h) hI
theorem zq1 {L : List SA} (hI : SAll Gv.σ L) (a b : SE) {x y : Int} (ha : a.eval Gv.σ = x := by (try simp (disch := omega) only [evs, wr]); rfl) (hb : b.eval Gv.σ = y := by (try simp (disch := omega) only [evs, wr]); rfl) : SAll Gv.σ (.mk false a b true :: L) ∧ x = y ∨ SAll Gv.σ (.mk false a b false :: L) ∧ ¬ x = y := by subst ha hb; exact (gq a b).imp (fun h => ⟨sc h.1 hI, h.2⟩) (fun h => ⟨sc h.1 hI, h.2⟩)
theorem zE1 {L : List SA} (hI : SAll Gv.σ L) (a b : SE) (h : a.eval Gv.σ = b.eval Gv.σ := by simp (disch := omega) only [evs, wr] <;> omega) : SAll Gv.σ (.mk false a b true :: L) := sc (bE a b h) hI
theorem zN1 {L : List SA} (hI : SAll Gv.σ L) (a b : SE) (h : ¬ a.eval Gv.σ = b.eval Gv.σ := by simp (disch := omega) only [evs, wr] <;> omega) : SAll Gv.σ (.mk false a b false :: L) := sc (bN a b h) hI
theorem zf2 {p q : Prop} (h : p) (e : p = q := by (try simp (disch := omega) only [if_pos, if_neg, ac1, wr]); rfl) : q := e ▸ h
theorem zn1 {A : List SA} {P : Prop} (h : SAll Gv.σ A → False := by intro h; simp (disch := omega) only [sall_cons, sT, sF, sE, sN, evs, wr, u] at h <;> omega) : SAll Gv.σ A → P := fun x => (h x).elim
theorem ze1 {E : EqL} (h : E.all Gv.σ := by simp (disch := omega) only [EqL.all, and_true, evs, wr, u] <;> omega) : E.all Gv.σ := h
theorem zf3 {p q : Prop} (h : p) (e : p = q := by (try simp (disch := omega) only [if_pos, if_neg, sh8, lo8]); rfl) : q := e ▸ h
theorem ze2 {E : EqL} (h : E.all Gv.σ := by simp (disch := omega) only [EqL.all, and_true, evs, wr, u, sh8, lo8, bet, zJ, zD, zO, zS] <;> omega) : E.all Gv.σ := h
theorem zf4 {p q : Prop} (h : p) (e : p = q := by (try simp (disch := omega) only [if_pos, if_neg, wr]); rfl) : q := e ▸ h
theorem zf5 {p q : Prop} (h : p) (e : p = q := by (try simp (disch := omega) only [if_pos, if_neg, wr, zD]); rfl) : q := e ▸ h
theorem ze3 {E : EqL} (h : E.all Gv.σ := by simp (disch := omega) only [EqL.all, and_true, evs, wr, u, zD] <;> omega) : E.all Gv.σ := h
theorem zf6 {p q : Prop} (h : p) (e : p = q := by (try simp (disch := omega) only [k1, if_pos, if_neg, wr, u2]); rfl) : q := e ▸ h
theorem zn2 {A : List SA} {P : Prop} (h : SAll Gv.σ A → False := by intro h; simp (disch := omega) only [sall_cons, sT, sF, sE, sN, evs, wr, abu, aza, u2, u] at h <;> omega) : SAll Gv.σ A → P := fun x => (h x).elim
theorem ze4 {E : EqL} (h : E.all Gv.σ := by simp (disch := omega) only [EqL.all, and_true, evs, wr, abu, aza, u2, u] <;> omega) : E.all Gv.σ := h
theorem zn6 {A : List SA} {P : Prop} (h : SAll Gv.σ A → False := by intro h; simp (disch := omega) only [sall_cons, sT, sF, sE, sN, evs, wr, nj, zJ, zD, u] at h <;> omega) : SAll Gv.σ A → P := fun x => (h x).elim
theorem ze8 {E : EqL} (h : E.all Gv.σ := by simp (disch := omega) only [EqL.all, and_true, evs, wr, nj, zJ, zD, u] <;> omega) : E.all Gv.σ := h
theorem a6j {A : List SA} {P : Prop} (h : SAll Gv.σ A → False := by intro h; simp (disch := omega) only [sall_cons, sT, sF, sE, sN, evs, wr, zJ, zD, zO, u] at h <;> omega) : SAll Gv.σ A → P := fun x => (h x).elim
theorem b04 {E : EqL} (h : E.all Gv.σ := by simp (disch := omega) only [EqL.all, and_true, evs, wr, zJ, zD, zO, u] <;> omega) : E.all Gv.σ := h
theorem mw {L : List SA} (hI : SAll Gv.σ L) (a b : SE) {x y : Int} (ha : a.eval Gv.σ = x := by (try simp (disch := omega) only [evs, evx, wr, tn]); rfl) (hb : b.eval Gv.σ = y := by (try simp (disch := omega) only [evs, evx, wr, tn]); rfl) : SAll Gv.σ (.mk true a b true :: L) ∧ x < y ∨ SAll Gv.σ (.mk true a b false :: L) ∧ y ≤ x := by subst ha hb; exact (gl a b).imp (fun h => ⟨sc h.1 hI, h.2⟩) (fun h => ⟨sc h.1 hI, h.2⟩)
theorem ayo {L : List SA} (hI : SAll Gv.σ L) (a b : SE) (h : a.eval Gv.σ < b.eval Gv.σ := by simp (disch := omega) only [evs, evx, wr, tn] <;> omega) : SAll Gv.σ (.mk true a b true :: L) := sc (bT a b h) hI
theorem bht {L : List SA} (hI : SAll Gv.σ L) (a b : SE) (h : b.eval Gv.σ ≤ a.eval Gv.σ := by simp (disch := omega) only [evs, evx, wr, tn] <;> omega) : SAll Gv.σ (.mk true a b false :: L) := sc (bF a b h) hI
theorem bhw {L : List SA} (hI : SAll Gv.σ L) (a b : SE) {x y : Int} (ha : a.eval Gv.σ = x := by (try simp (disch := omega) only [evs, evx, wr, zJ, zD, zP, zO, zS, List.append_assoc, jy, List.length_drop]); rfl) (hb : b.eval Gv.σ = y := by (try simp (disch := omega) only [evs, evx, wr, zJ, zD, zP, zO, zS, List.append_assoc, jy, List.length_drop]); rfl) : SAll Gv.σ (.mk true a b true :: L) ∧ x < y ∨ SAll Gv.σ (.mk true a b false :: L) ∧ y ≤ x := by subst ha hb; exact (gl a b).imp (fun h => ⟨sc h.1 hI, h.2⟩) (fun h => ⟨sc h.1 hI, h.2⟩)
theorem btz {p q : Prop} (h : p) (e : p = q := by (try simp (disch := omega) only [evs, evx, wr, zJ, zD, zP, zO, zS, List.append_assoc, jy, List.length_drop]); rfl) : q := e ▸ h
theorem btu {L : List SA} (hI : SAll Gv.σ L) (a b : SE) (h : a.eval Gv.σ < b.eval Gv.σ := by simp (disch := omega) only [evs, evx, wr, zJ, zD, zP, zO, zS, List.append_assoc, jy, List.length_drop] <;> omega) : SAll Gv.σ (.mk true a b true :: L) := sc (bT a b h) hI
theorem acy {L : List SA} (hI : SAll Gv.σ L) (a b : SE) (h : b.eval Gv.σ ≤ a.eval Gv.σ := by simp (disch := omega) only [evs, evx, wr, zJ, zD, zP, zO, zS, List.append_assoc, jy, List.length_drop] <;> omega) : SAll Gv.σ (.mk true a b false :: L) := sc (bF a b h) hI
theorem a6k {L : List SA} (hI : SAll Gv.σ L) (a b : SE) {x y : Int} (ha : a.eval Gv.σ = x := by (try simp (disch := omega) only [evs, evx, wr, zJ, zD, zP, zO, zS, List.append_assoc, jy, List.length_drop]); rfl) (hb : b.eval Gv.σ = y := by (try simp (disch := omega) only [evs, evx, wr, zJ, zD, zP, zO, zS, List.append_assoc, jy, List.length_drop]); rfl) : SAll Gv.σ (.mk false a b true :: L) ∧ x = y ∨ SAll Gv.σ (.mk false a b false :: L) ∧ ¬ x = y := by subst ha hb; exact (gq a b).imp (fun h => ⟨sc h.1 hI, h.2⟩) (fun h => ⟨sc h.1 hI, h.2⟩)
theorem b01 {L : List SA} (hI : SAll Gv.σ L) (a b : SE) (h : a.eval Gv.σ = b.eval Gv.σ := by simp (disch := omega) only [evs, evx, wr, zJ, zD, zP, zO, zS, List.append_assoc, jy, List.length_drop] <;> omega) : SAll Gv.σ (.mk false a b true :: L) := sc (bE a b h) hI
theorem afm {A : List SA} {P : Prop} (h : SAll Gv.σ A → False := by intro h; simp (disch := omega) only [sall_cons, sT, sF, sE, sN, evs, evx, wr, zJ, zD, zP, zO, zS, List.append_assoc, jy, List.length_drop, en, List.append_nil, u] at h <;> omega) : SAll Gv.σ A → P := fun x => (h x).elim
theorem arl {A : List SA} {P : Prop} (h : SAll Gv.σ A → False := by intro h; simp (disch := omega) only [sall_cons, sT, sF, sE, sN, evs, evx, wr, zJ, zD, zP, zO, zS, List.append_assoc, jy, List.length_drop, u] at h <;> omega) : SAll Gv.σ A → P := fun x => (h x).elim
theorem bn1 {E : EqL} (h : E.all Gv.σ := by simp (disch := omega) only [EqL.all, and_true, evs, evx, wr, zJ, zD, zP, zO, zS, List.append_assoc, jy, List.length_drop, en, List.append_nil, u] <;> omega) : E.all Gv.σ := h
theorem bt0 {L : List SA} (hI : SAll Gv.σ L) (a b : SE) {x y : Int} (ha : a.eval Gv.σ = x := by (try simp (disch := omega) only [evs, evx, evT, evq, wr, zP, zO, zS]); rfl) (hb : b.eval Gv.σ = y := by (try simp (disch := omega) only [evs, evx, evT, evq, wr, zP, zO, zS]); rfl) : SAll Gv.σ (.mk true a b true :: L) ∧ x < y ∨ SAll Gv.σ (.mk true a b false :: L) ∧ y ≤ x := by subst ha hb; exact (gl a b).imp (fun h => ⟨sc h.1 hI, h.2⟩) (fun h => ⟨sc h.1 hI, h.2⟩)
theorem afl {p q : Prop} (h : p) (e : p = q := by (try simp (disch := omega) only [evs, evx, evT, evq, wr, zP, zO, zS]); rfl) : q := e ▸ h
theorem akj {L : List SA} (hI : SAll Gv.σ L) (a b : SE) (h : a.eval Gv.σ < b.eval Gv.σ := by simp (disch := omega) only [evs, evx, evT, evq, wr, zP, zO, zS] <;> omega) : SAll Gv.σ (.mk true a b true :: L) := sc (bT a b h) hI
theorem il {L : List SA} (hI : SAll Gv.σ L) (a b : SE) (h : b.eval Gv.σ ≤ a.eval Gv.σ := by simp (disch := omega) only [evs, evx, evT, evq, wr, zP, zO, zS] <;> omega) : SAll Gv.σ (.mk true a b false :: L) := sc (bF a b h) hI
theorem bhx {L : List SA} (hI : SAll Gv.σ L) (a b : SE) {x y : Int} (ha : a.eval Gv.σ = x := by (try simp (disch := omega) only [evs, evx, evT, evq, wr, zP, zO, zS]); rfl) (hb : b.eval Gv.σ = y := by (try simp (disch := omega) only [evs, evx, evT, evq, wr, zP, zO, zS]); rfl) : SAll Gv.σ (.mk false a b true :: L) ∧ x = y ∨ SAll Gv.σ (.mk false a b false :: L) ∧ ¬ x = y := by subst ha hb; exact (gq a b).imp (fun h => ⟨sc h.1 hI, h.2⟩) (fun h => ⟨sc h.1 hI, h.2⟩)
theorem bt1 {A : List SA} {P : Prop} (h : SAll Gv.σ A → False := by intro h; simp (disch := omega) only [sall_cons, sT, sF, sE, sN, evs, evx, evT, evq, wr, zP, zO, zS, u] at h <;> omega) : SAll Gv.σ A → P := fun x => (h x).elim
theorem ayp {E : EqL} (h : E.all Gv.σ := by simp (disch := omega) only [EqL.all, and_true, evs, evx, evT, evq, wr, zP, zO, zS, List.append_assoc, zJ, zD, List.append_nil, u] <;> omega) : E.all Gv.σ := h
theorem b05 {p q : Prop} (h : p) (e : p = q := by (try simp (disch := omega) only [evs, evx, evT, evq, evy, ui, jp, wr]); rfl) : q := e ▸ h
theorem b02 {L : List SA} (hI : SAll Gv.σ L) (a b : SE) (h : b.eval Gv.σ ≤ a.eval Gv.σ := by simp (disch := omega) only [evs, evx, evT, evq, evy, ui, jp, wr] <;> omega) : SAll Gv.σ (.mk true a b false :: L) := sc (bF a b h) hI
theorem b08 {L : List SA} (hI : SAll Gv.σ L) (a b : SE) {x y : Int} (ha : a.eval Gv.σ = x := by (try simp (disch := omega) only [evs, evx, evT, evq, evy, ui, jp, wr]); rfl) (hb : b.eval Gv.σ = y := by (try simp (disch := omega) only [evs, evx, evT, evq, evy, ui, jp, wr]); rfl) : SAll Gv.σ (.mk false a b true :: L) ∧ x = y ∨ SAll Gv.σ (.mk false a b false :: L) ∧ ¬ x = y := by subst ha hb; exact (gq a b).imp (fun h => ⟨sc h.1 hI, h.2⟩) (fun h => ⟨sc h.1 hI, h.2⟩)
theorem btw {E : EqL} (h : E.all Gv.σ := by simp (disch := omega) only [EqL.all, and_true, evs, evx, evT, evq, evy, ui, jp, wr, u] <;> omega) : E.all Gv.σ := h
theorem b03 {L : List SA} (hI : SAll Gv.σ L) (a b : SE) (h : a.eval Gv.σ < b.eval Gv.σ := by simp (disch := omega) only [evs, evx, evT, evq, evy, ui, jp, wr, ac9, Int.toNat_zero, adr] <;> omega) : SAll Gv.σ (.mk true a b true :: L) := sc (bT a b h) hI
theorem bhu {L : List SA} (hI : SAll Gv.σ L) (a b : SE) (h : b.eval Gv.σ ≤ a.eval Gv.σ := by simp (disch := omega) only [evs, evx, evT, evq, evy, ui, jp, wr, ac9, Int.toNat_zero, adr] <;> omega) : SAll Gv.σ (.mk true a b false :: L) := sc (bF a b h) hI
theorem au0 {L : List SA} (hI : SAll Gv.σ L) (a b : SE) {x y : Int} (ha : a.eval Gv.σ = x := by (try simp (disch := omega) only [evs, evx, evT, evq, evy, ui, jp, wr, ac9, Int.toNat_zero, adr]); rfl) (hb : b.eval Gv.σ = y := by (try simp (disch := omega) only [evs, evx, evT, evq, evy, ui, jp, wr, ac9, Int.toNat_zero, adr]); rfl) : SAll Gv.σ (.mk false a b true :: L) ∧ x = y ∨ SAll Gv.σ (.mk false a b false :: L) ∧ ¬ x = y := by subst ha hb; exact (gq a b).imp (fun h => ⟨sc h.1 hI, h.2⟩) (fun h => ⟨sc h.1 hI, h.2⟩)
theorem b06 {L : List SA} (hI : SAll Gv.σ L) (a b : SE) {x y : Int} (ha : a.eval Gv.σ = x := by (try simp (disch := omega) only [evs, evx, evT, evq, evy, ui, jp, wr, ac9, Int.toNat_zero, Int.toNat_one, ww, nw, zJ, zD, zO]); rfl) (hb : b.eval Gv.σ = y := by (try simp (disch := omega) only [evs, evx, evT, evq, evy, ui, jp, wr, ac9, Int.toNat_zero, Int.toNat_one, ww, nw, zJ, zD, zO]); rfl) : SAll Gv.σ (.mk true a b true :: L) ∧ x < y ∨ SAll Gv.σ (.mk true a b false :: L) ∧ y ≤ x := by subst ha hb; exact (gl a b).imp (fun h => ⟨sc h.1 hI, h.2⟩) (fun h => ⟨sc h.1 hI, h.2⟩)
theorem bdb {p q : Prop} (h : p) (e : p = q := by (try simp (disch := omega) only [evs, evx, evT, evq, evy, ui, jp, wr, ac9, Int.toNat_zero, Int.toNat_one, ww, nw, zJ, zD, zO]); rfl) : q := e ▸ h
theorem aym {L : List SA} (hI : SAll Gv.σ L) (a b : SE) (h : b.eval Gv.σ ≤ a.eval Gv.σ := by simp (disch := omega) only [evs, evx, evT, evq, evy, ui, jp, wr, ac9, Int.toNat_zero, Int.toNat_one, ww, nw, zJ, zD, zO] <;> omega) : SAll Gv.σ (.mk true a b false :: L) := sc (bF a b h) hI
theorem bdd {L : List SA} (hI : SAll Gv.σ L) (a b : SE) {x y : Int} (ha : a.eval Gv.σ = x := by (try simp (disch := omega) only [evs, evx, evT, evq, evy, ui, jp, wr, ac9, Int.toNat_zero, Int.toNat_one, ww, nw, zJ, zD, zO]); rfl) (hb : b.eval Gv.σ = y := by (try simp (disch := omega) only [evs, evx, evT, evq, evy, ui, jp, wr, ac9, Int.toNat_zero, Int.toNat_one, ww, nw, zJ, zD, zO]); rfl) : SAll Gv.σ (.mk false a b true :: L) ∧ x = y ∨ SAll Gv.σ (.mk false a b false :: L) ∧ ¬ x = y := by subst ha hb; exact (gq a b).imp (fun h => ⟨sc h.1 hI, h.2⟩) (fun h => ⟨sc h.1 hI, h.2⟩)
theorem bts {L : List SA} (hI : SAll Gv.σ L) (a b : SE) (h : ¬ a.eval Gv.σ = b.eval Gv.σ := by simp (disch := omega) only [evs, evx, evT, evq, evy, ui, jp, wr, ac9, Int.toNat_zero, Int.toNat_one, ww, nw, zJ, zD, zO] <;> omega) : SAll Gv.σ (.mk false a b false :: L) := sc (bN a b h) hI
theorem arm {A : List SA} {P : Prop} (h : SAll Gv.σ A → False := by intro h; simp (disch := omega) only [sall_cons, sT, sF, sE, sN, evs, evx, evT, evq, evy, ui, jp, wr, ac9, Int.toNat_zero, adr, u] at h <;> omega) : SAll Gv.σ A → P := fun x => (h x).elim
theorem ayq {E : EqL} (h : E.all Gv.σ := by simp (disch := omega) only [EqL.all, and_true, evs, evx, evT, evq, evy, ui, jp, wr, ac9, Int.toNat_zero, Int.toNat_one, ww, nw, zJ, zD, zO, u] <;> omega) : E.all Gv.σ := h
theorem bdc {p q : Prop} (h : p) (e : p = q := by (try simp (disch := omega) only [evs, evx, evT, evq, evy, adr, wr, zJ, zD, zP, zO, zS]); rfl) : q := e ▸ h
theorem btv {L : List SA} (hI : SAll Gv.σ L) (a b : SE) (h : a.eval Gv.σ < b.eval Gv.σ := by simp (disch := omega) only [evs, evx, evT, evq, evy, adr, wr, zJ, zD, zP, zO, zS] <;> omega) : SAll Gv.σ (.mk true a b true :: L) := sc (bT a b h) hI
theorem ark {L : List SA} (hI : SAll Gv.σ L) (a b : SE) (h : b.eval Gv.σ ≤ a.eval Gv.σ := by simp (disch := omega) only [evs, evx, evT, evq, evy, adr, wr, zJ, zD, zP, zO, zS] <;> omega) : SAll Gv.σ (.mk true a b false :: L) := sc (bF a b h) hI
theorem btt {L : List SA} (hI : SAll Gv.σ L) (a b : SE) (h : ¬ a.eval Gv.σ = b.eval Gv.σ := by simp (disch := omega) only [evs, evx, evT, evq, evy, adr, wr, zJ, zD, zP, zO, zS] <;> omega) : SAll Gv.σ (.mk false a b false :: L) := sc (bN a b h) hI
theorem btx {E : EqL} (h : E.all Gv.σ := by simp (disch := omega) only [EqL.all, and_true, evs, evx, evT, evq, evy, adr, wr, zJ, zD, zP, zO, zS, u] <;> omega) : E.all Gv.σ := h
theorem aky {p q : Prop} (h : p) (e : p = q := by (try simp (disch := omega) only [evs, evx, wr, zJ, zD, evy, nw, jp, zP, zO, zS, hsk, hst, ht1]); rfl) : q := e ▸ h
theorem bnz {L : List SA} (hI : SAll Gv.σ L) (a b : SE) (h : a.eval Gv.σ < b.eval Gv.σ := by simp (disch := omega) only [evs, evx, wr, zJ, zD, evy, nw, jp, zP, zO, zS, hsk, hst, ht1] <;> omega) : SAll Gv.σ (.mk true a b true :: L) := sc (bT a b h) hI
theorem acz {L : List SA} (hI : SAll Gv.σ L) (a b : SE) (h : b.eval Gv.σ ≤ a.eval Gv.σ := by simp (disch := omega) only [evs, evx, wr, zJ, zD, evy, nw, jp, zP, zO, zS, hsk, hst, ht1] <;> omega) : SAll Gv.σ (.mk true a b false :: L) := sc (bF a b h) hI
theorem b09 {L : List SA} (hI : SAll Gv.σ L) (a b : SE) {x y : Int} (ha : a.eval Gv.σ = x := by (try simp (disch := omega) only [evs, evx, wr, zJ, zD, evy, nw, jp, zP, zO, zS, hsk, hst, ht1]); rfl) (hb : b.eval Gv.σ = y := by (try simp (disch := omega) only [evs, evx, wr, zJ, zD, evy, nw, jp, zP, zO, zS, hsk, hst, ht1]); rfl) : SAll Gv.σ (.mk false a b true :: L) ∧ x = y ∨ SAll Gv.σ (.mk false a b false :: L) ∧ ¬ x = y := by subst ha hb; exact (gq a b).imp (fun h => ⟨sc h.1 hI, h.2⟩) (fun h => ⟨sc h.1 hI, h.2⟩)
theorem ayl {L : List SA} (hI : SAll Gv.σ L) (a b : SE) (h : a.eval Gv.σ = b.eval Gv.σ := by simp (disch := omega) only [evs, evx, wr, zJ, zD, evy, nw, jp, zP, zO, zS, hsk, hst, ht1] <;> omega) : SAll Gv.σ (.mk false a b true :: L) := sc (bE a b h) hI
theorem aeq {L : List SA} (hI : SAll Gv.σ L) (a b : SE) (h : ¬ a.eval Gv.σ = b.eval Gv.σ := by simp (disch := omega) only [evs, evx, wr, zJ, zD, evy, nw, jp, zP, zO, zS, hsk, hst, ht1] <;> omega) : SAll Gv.σ (.mk false a b false :: L) := sc (bN a b h) hI
theorem bty {E : EqL} (h : E.all Gv.σ := by simp (disch := omega) only [EqL.all, and_true, evs, evx, wr, zJ, zD, evy, nw, jp, zP, zO, zS, hsk, hst, ht1, u] <;> omega) : E.all Gv.σ := h
theorem akz {p q : Prop} (h : p) (e : p = q := by (try simp (disch := omega) only [evs, evx, wr, zJ, zD, evy, nw, jp, zP, zO, zS, hsk, hst, ht1, hsk1, hse, e1, e2, e3, Int.toNat_one]); rfl) : q := e ▸ h
theorem aer {L : List SA} (hI : SAll Gv.σ L) (a b : SE) (h : a.eval Gv.σ < b.eval Gv.σ := by simp (disch := omega) only [evs, evx, wr, zJ, zD, evy, nw, jp, zP, zO, zS, hsk, hst, ht1, hsk1, hse, e1, e2, e3, Int.toNat_one] <;> omega) : SAll Gv.σ (.mk true a b true :: L) := sc (bT a b h) hI
theorem ej {L : List SA} (hI : SAll Gv.σ L) (a b : SE) (h : b.eval Gv.σ ≤ a.eval Gv.σ := by simp (disch := omega) only [evs, evx, wr, zJ, zD, evy, nw, jp, zP, zO, zS, hsk, hst, ht1, hsk1, hse, e1, e2, e3, Int.toNat_one] <;> omega) : SAll Gv.σ (.mk true a b false :: L) := sc (bF a b h) hI
theorem bn2 {L : List SA} (hI : SAll Gv.σ L) (a b : SE) {x y : Int} (ha : a.eval Gv.σ = x := by (try simp (disch := omega) only [evs, evx, wr, zJ, zD, evy, nw, jp, zP, zO, zS, hsk, hst, ht1, hsk1, hse, e1, e2, e3, Int.toNat_one]); rfl) (hb : b.eval Gv.σ = y := by (try simp (disch := omega) only [evs, evx, wr, zJ, zD, evy, nw, jp, zP, zO, zS, hsk, hst, ht1, hsk1, hse, e1, e2, e3, Int.toNat_one]); rfl) : SAll Gv.σ (.mk false a b true :: L) ∧ x = y ∨ SAll Gv.σ (.mk false a b false :: L) ∧ ¬ x = y := by subst ha hb; exact (gq a b).imp (fun h => ⟨sc h.1 hI, h.2⟩) (fun h => ⟨sc h.1 hI, h.2⟩)
theorem vf {L : List SA} (hI : SAll Gv.σ L) (a b : SE) (h : a.eval Gv.σ = b.eval Gv.σ := by simp (disch := omega) only [evs, evx, wr, zJ, zD, evy, nw, jp, zP, zO, zS, hsk, hst, ht1, hsk1, hse, e1, e2, e3, Int.toNat_one] <;> omega) : SAll Gv.σ (.mk false a b true :: L) := sc (bE a b h) hI
theorem oa {L : List SA} (hI : SAll Gv.σ L) (a b : SE) (h : ¬ a.eval Gv.σ = b.eval Gv.σ := by simp (disch := omega) only [evs, evx, wr, zJ, zD, evy, nw, jp, zP, zO, zS, hsk, hst, ht1, hsk1, hse, e1, e2, e3, Int.toNat_one] <;> omega) : SAll Gv.σ (.mk false a b false :: L) := sc (bN a b h) hI
theorem bhv {E : EqL} (h : E.all Gv.σ := by simp (disch := omega) only [EqL.all, and_true, evs, evx, wr, zJ, zD, evy, nw, jp, zP, zO, zS, hsk, hst, ht1, hsk1, hse, e1, e2, e3, Int.toNat_one, u] <;> omega) : E.all Gv.σ := h
theorem b07 {L : List SA} (hI : SAll Gv.σ L) (a b : SE) {x y : Int} (ha : a.eval Gv.σ = x := by (try simp (disch := omega) only [evs, evx, evy, wr, evT, nj, vo, as8, aex, y0, z0, z6, z7, z8, z9, z10, z11, z12, z13, z14, z15, z16, z17, z18, z19, z20, i1, zJ, zD, List.append_assoc, List.getD_cons_zero, zP, zO, zS, Int.toNat_zero, Int.toNat_one, eq_self, if_true]); rfl) (hb : b.eval Gv.σ = y := by (try simp (disch := omega) only [evs, evx, evy, wr, evT, nj, vo, as8, aex, y0, z0, z6, z7, z8, z9, z10, z11, z12, z13, z14, z15, z16, z17, z18, z19, z20, i1, zJ, zD, List.append_assoc, List.getD_cons_zero, zP, zO, zS, Int.toNat_zero, Int.toNat_one, eq_self, if_true]); rfl) : SAll Gv.σ (.mk true a b true :: L) ∧ x < y ∨ SAll Gv.σ (.mk true a b false :: L) ∧ y ≤ x := by subst ha hb; exact (gl a b).imp (fun h => ⟨sc h.1 hI, h.2⟩) (fun h => ⟨sc h.1 hI, h.2⟩)
theorem bn0 {L : List SA} (hI : SAll Gv.σ L) (a b : SE) (h : a.eval Gv.σ < b.eval Gv.σ := by simp (disch := omega) only [evs, evx, evy, wr, evT, nj, vo, as8, aex, y0, z0, z6, z7, z8, z9, z10, z11, z12, z13, z14, z15, z16, z17, z18, z19, z20, i1, zJ, zD, List.append_assoc, List.getD_cons_zero, zP, zO, zS, Int.toNat_zero, Int.toNat_one, eq_self, if_true] <;> omega) : SAll Gv.σ (.mk true a b true :: L) := sc (bT a b h) hI
theorem aep {L : List SA} (hI : SAll Gv.σ L) (a b : SE) (h : b.eval Gv.σ ≤ a.eval Gv.σ := by simp (disch := omega) only [evs, evx, evy, wr, evT, nj, vo, as8, aex, y0, z0, z6, z7, z8, z9, z10, z11, z12, z13, z14, z15, z16, z17, z18, z19, z20, i1, zJ, zD, List.append_assoc, List.getD_cons_zero, zP, zO, zS, Int.toNat_zero, Int.toNat_one, eq_self, if_true] <;> omega) : SAll Gv.σ (.mk true a b false :: L) := sc (bF a b h) hI
theorem b1a {L : List SA} (hI : SAll Gv.σ L) (a b : SE) {x y : Int} (ha : a.eval Gv.σ = x := by (try simp (disch := omega) only [evs, evx, evy, wr, evT, nj, vo, as8, aex, y0, z0, z6, z7, z8, z9, z10, z11, z12, z13, z14, z15, z16, z17, z18, z19, z20, i1, zJ, zD, List.append_assoc, List.getD_cons_zero, zP, zO, zS, Int.toNat_zero, Int.toNat_one, eq_self, if_true]); rfl) (hb : b.eval Gv.σ = y := by (try simp (disch := omega) only [evs, evx, evy, wr, evT, nj, vo, as8, aex, y0, z0, z6, z7, z8, z9, z10, z11, z12, z13, z14, z15, z16, z17, z18, z19, z20, i1, zJ, zD, List.append_assoc, List.getD_cons_zero, zP, zO, zS, Int.toNat_zero, Int.toNat_one, eq_self, if_true]); rfl) : SAll Gv.σ (.mk false a b true :: L) ∧ x = y ∨ SAll Gv.σ (.mk false a b false :: L) ∧ ¬ x = y := by subst ha hb; exact (gq a b).imp (fun h => ⟨sc h.1 hI, h.2⟩) (fun h => ⟨sc h.1 hI, h.2⟩)
theorem vg {L : List SA} (hI : SAll Gv.σ L) (a b : SE) (h : a.eval Gv.σ = b.eval Gv.σ := by simp (disch := omega) only [evs, evx, evy, wr, evT, nj, vo, as8, aex, y0, z0, z6, z7, z8, z9, z10, z11, z12, z13, z14, z15, z16, z17, z18, z19, z20, i1, zJ, zD, List.append_assoc, List.getD_cons_zero, zP, zO, zS, Int.toNat_zero, Int.toNat_one, eq_self, if_true] <;> omega) : SAll Gv.σ (.mk false a b true :: L) := sc (bE a b h) hI
theorem ayn {L : List SA} (hI : SAll Gv.σ L) (a b : SE) (h : ¬ a.eval Gv.σ = b.eval Gv.σ := by simp (disch := omega) only [evs, evx, evy, wr, evT, nj, vo, as8, aex, y0, z0, z6, z7, z8, z9, z10, z11, z12, z13, z14, z15, z16, z17, z18, z19, z20, i1, zJ, zD, List.append_assoc, List.getD_cons_zero, zP, zO, zS, Int.toNat_zero, Int.toNat_one, eq_self, if_true] <;> omega) : SAll Gv.σ (.mk false a b false :: L) := sc (bN a b h) hI
end
end Go.Ev
set_option maxRecDepth 100000
set_option linter.all false
namespace Go.Ev
abbrev axg : AL := .g (.s 0) (.i (.v 1) (.i (.c 0) .nil))
abbrev kr : SE := .app 43 axg
abbrev bb2 : List SA := [.mk true kr (.len (.s 0)) false]
abbrev bb3 : List SA := [.mk true kr (.len (.s 0)) true]
abbrev axh : AL := .g (.s 0) (.i (.v 1) (.i (.c 1) .nil))
abbrev aah : SE := .app 43 axh
abbrev bb4 : List SA := [.mk true aah (.len (.s 0)) false]
abbrev bb5 : List SA := [.mk true aah (.len (.s 0)) true]
abbrev aai : SE := .rd (.s 0) (.v 1)
abbrev cr : SE := .bin 0 .i64 (.v 1) (.c 1)
abbrev yf : SE := .app 43 (.g (.s 0) (.i cr (.i (.c 1) .nil)))
abbrev b9 : SE := .bin 6 .i64 (.len (.s 0)) (.bin 7 .i64 (.c (-1)) cr)
abbrev gy : SE := .bin 6 .i64 (.len (.s 0)) (.bin 7 .i64 (.c (-1)) (.v 1))
abbrev ga : SE := .app 43 (.g (.s 0) (.i cr (.i (.c 0) .nil)))
noncomputable section
def rdO (k h t r : Nat) (p o : SE) : HO := .mk k (.cells 117 false 0 0 [.ptr (K.of h) 0, .ptr (K.of t) 0, .gv (.sl (K.of r) 1 (.len (.s 0)) []), .sym .i64 p [], .sym .i64 o []])
def rwO (r : Nat) : HO := .mk r (.gob (.gh 3 [.i64] (.len (.s 0)) (.s 0)))
def tps (n : Nat) : List AV := List.replicate n .top
def s1 (k : Nat) (a b : SE) : SE := .app k (.g (.s 0) (.i a (.i b .nil)))
def mLn : SE := .bin 6 .i64 (.len (.s 0)) (.bin 7 .i64 (.c (-1)) (.v 1))
def pI : List SA := [.mk false (.app 42 (.g (.s 0) .nil)) (.c 1) true, .mk true (.v 1) (.c 0) false, .mk true (.len (.s 0)) (.v 1) false]
def bfu : List AV := [.ptr (K.of 256) 0, .top, .bool false] ++ tps 39
def bfr : List HO := [rdO 256 258 259 257 (.v 1) (.v 2), rwO 257]
def bjr : List HO := [rdO 256 258 259 257 (.app 43 axg) (.v 2), rwO 257]
def bjs : LR := (.x 0 (.ptr (K.of 256) 0 :: tps 41))
def bfv (m : SE) : LT := .mk 64 3 bfu 260 bfr (pI ++ bb2) (some (mLn, m)) bjs 260 bjr
def bjq : LT := znl (bfv (.c 0))
def bjo : List HO := [rdO 256 258 259 257 (.app 43 axg) (.v 2), rwO 257]
def bjp : LR := (.r (.ptr (K.of 256) 0 :: tps 41))
def bfs (m : SE) : LT := .mk 64 3 bfu 260 bfr (pI ++ bb3) (some (mLn, m)) bjp 260 bjo
def bjn : LT := znl (bfs (.c 0))
def bfy : List AV := [.ptr (K.of 256) 0, .top, .bool true] ++ tps 39
def bfx : List HO := [rdO 256 258 259 257 (.v 1) (.v 2), rwO 257]
def bjv : List HO := [rdO 256 258 259 257 (.app 43 axh) (.v 2), rwO 257]
def bjw : LR := (.x 0 (.ptr (K.of 256) 0 :: tps 41))
def bmz (m : SE) : LT := .mk 64 3 bfy 260 bfx (pI ++ bb4) (some (mLn, m)) bjw 260 bjv
def bjt : List HO := [rdO 256 258 259 257 (.app 43 axh) (.v 2), rwO 257]
def bju : LR := (.r (.ptr (K.of 256) 0 :: tps 41))
def bmy (m : SE) : LT := .mk 64 3 bfy 260 bfx (pI ++ bb5) (some (mLn, m)) bju 260 bjt
end
theorem al5 {σ : Nat → List Int} (h : SAll σ pI) : ae9 (σ 0) ∧ 0 ≤ (σ 1).headD 0 ∧ (σ 1).headD 0 ≤ ((σ 0).length : Int) ∧ (σ 0).length ≤ 4000 := by
 simp only [pI, sall_cons, s42, sF, evs] at h
 exact ⟨h.1, h.2.1, h.2.2.1, h.1.1⟩
def bmw [Gv] : Prop := (SAll Gv.σ bb2 → b8 64 3 bfu 260 bfr bjs 260 bjr) ∧ (SAll Gv.σ bb3 → b8 64 3 bfu 260 bfr bjp 260 bjo)
theorem bpd [Gv] (hh : ∀ t ∈ [bfv mLn, bfs mLn, bmz mLn, bmy mLn], be t) (hI : SAll Gv.σ pI) : bmw := by
 obtain ⟨hR, hp0, hpl, hL⟩ := al5 hI
 rcases zl1 hI (.v 1) (.len (.s 0)) with ⟨hI, k1⟩ | ⟨hI, k1⟩
 ·have := zf1 (asj hR (.v 1))
  rcases zq1 hI aai (.c 59) with ⟨hI, k2⟩ | ⟨hI, k2⟩
  ·have hI := zF1 hI cr (.c 0)
   have hI := zF1 hI (.len (.s 0)) cr
   have := zf1 (f43 (σ := Gv.σ) cr (.c 1))
   rcases zl1 hI yf (.len (.s 0)) with ⟨hI, k5⟩ | ⟨hI, k5⟩
   ·have hI := zT1 hI b9 gy
    have hI := zF1 hI b9 (.c 0)
    have := zf1 (f43 (σ := Gv.σ) (.v 1) (.c 0))
    have u := zf2 (ed (Gv.σ 0) ((Gv.σ 1).headD 0) 0)
    exact ⟨zn1,
     zt [] (.i yf kr .nil) ab (zp hI hh) hI ze1⟩
   ·have hI := zT1 hI b9 gy
    have hI := zF1 hI b9 (.c 0)
    have := zf1 (f43 (σ := Gv.σ) (.v 1) (.c 0))
    have u := zf2 (ed (Gv.σ 0) ((Gv.σ 1).headD 0) 0)
    exact ⟨zt [] (.i yf kr .nil) ab (zp hI hh) hI ze1,
     zn1⟩
  ·rcases zq1 hI aai (.c 9) with ⟨hI, k3⟩ | ⟨hI, k3⟩
   ·have hI := zF1 hI cr (.c 0)
    have hI := zF1 hI (.len (.s 0)) cr
    have := zf1 (f43 (σ := Gv.σ) cr (.c 0))
    rcases zl1 hI ga (.len (.s 0)) with ⟨hI, k6⟩ | ⟨hI, k6⟩
    ·have hI := zT1 hI b9 gy
     have hI := zF1 hI b9 (.c 0)
     have := zf1 (f43 (σ := Gv.σ) (.v 1) (.c 0))
     have u := zf2 (ed (Gv.σ 0) ((Gv.σ 1).headD 0) 0)
     exact ⟨zn1,
      zt [] (.i ga kr .nil) ab (zp hI hh) hI ze1⟩
    ·have hI := zT1 hI b9 gy
     have hI := zF1 hI b9 (.c 0)
     have := zf1 (f43 (σ := Gv.σ) (.v 1) (.c 0))
     have u := zf2 (ed (Gv.σ 0) ((Gv.σ 1).headD 0) 0)
     exact ⟨zt [] (.i ga kr .nil) ab (zp hI hh) hI ze1,
      zn1⟩
   ·rcases zq1 hI aai (.c 10) with ⟨hI, k4⟩ | ⟨hI, k4⟩
    ·have hI := zF1 hI cr (.c 0)
     have hI := zF1 hI (.len (.s 0)) cr
     have := zf1 (f43 (σ := Gv.σ) cr (.c 0))
     rcases zl1 hI ga (.len (.s 0)) with ⟨hI, k7⟩ | ⟨hI, k7⟩
     ·have hI := zT1 hI b9 gy
      have hI := zF1 hI b9 (.c 0)
      have := zf1 (f43 (σ := Gv.σ) (.v 1) (.c 0))
      have u := zf2 (ed (Gv.σ 0) ((Gv.σ 1).headD 0) 0)
      exact ⟨zn1,
       zt [] (.i ga kr .nil) ab (zp hI hh) hI ze1⟩
     ·have hI := zT1 hI b9 gy
      have hI := zF1 hI b9 (.c 0)
      have := zf1 (f43 (σ := Gv.σ) (.v 1) (.c 0))
      have u := zf2 (ed (Gv.σ 0) ((Gv.σ 1).headD 0) 0)
      exact ⟨zt [] (.i ga kr .nil) ab (zp hI hh) hI ze1,
       zn1⟩
    ·rcases zq1 hI aai (.c 12) with ⟨hI, k5⟩ | ⟨hI, k5⟩
     ·have hI := zF1 hI cr (.c 0)
      have hI := zF1 hI (.len (.s 0)) cr
      have := zf1 (f43 (σ := Gv.σ) cr (.c 0))
      rcases zl1 hI ga (.len (.s 0)) with ⟨hI, k8⟩ | ⟨hI, k8⟩
      ·have hI := zT1 hI b9 gy
       have hI := zF1 hI b9 (.c 0)
       have := zf1 (f43 (σ := Gv.σ) (.v 1) (.c 0))
       have u := zf2 (ed (Gv.σ 0) ((Gv.σ 1).headD 0) 0)
       exact ⟨zn1,
        zt [] (.i ga kr .nil) ab (zp hI hh) hI ze1⟩
      ·have hI := zT1 hI b9 gy
       have hI := zF1 hI b9 (.c 0)
       have := zf1 (f43 (σ := Gv.σ) (.v 1) (.c 0))
       have u := zf2 (ed (Gv.σ 0) ((Gv.σ 1).headD 0) 0)
       exact ⟨zt [] (.i ga kr .nil) ab (zp hI hh) hI ze1,
        zn1⟩
     ·rcases zq1 hI aai (.c 13) with ⟨hI, k6⟩ | ⟨hI, k6⟩
      ·have hI := zF1 hI cr (.c 0)
       have hI := zF1 hI (.len (.s 0)) cr
       have := zf1 (f43 (σ := Gv.σ) cr (.c 0))
       rcases zl1 hI ga (.len (.s 0)) with ⟨hI, k9⟩ | ⟨hI, k9⟩
       ·have hI := zT1 hI b9 gy
        have hI := zF1 hI b9 (.c 0)
        have := zf1 (f43 (σ := Gv.σ) (.v 1) (.c 0))
        have u := zf2 (ed (Gv.σ 0) ((Gv.σ 1).headD 0) 0)
        exact ⟨zn1,
         zt [] (.i ga kr .nil) ab (zp hI hh) hI ze1⟩
       ·have hI := zT1 hI b9 gy
        have hI := zF1 hI b9 (.c 0)
        have := zf1 (f43 (σ := Gv.σ) (.v 1) (.c 0))
        have u := zf2 (ed (Gv.σ 0) ((Gv.σ 1).headD 0) 0)
        exact ⟨zt [] (.i ga kr .nil) ab (zp hI hh) hI ze1,
         zn1⟩
      ·rcases zq1 hI aai (.c 32) with ⟨hI, k7⟩ | ⟨hI, k7⟩
       ·have hI := zF1 hI cr (.c 0)
        have hI := zF1 hI (.len (.s 0)) cr
        have := zf1 (f43 (σ := Gv.σ) cr (.c 0))
        rcases zl1 hI ga (.len (.s 0)) with ⟨hI, k10⟩ | ⟨hI, k10⟩
        ·have hI := zT1 hI b9 gy
         have hI := zF1 hI b9 (.c 0)
         have := zf1 (f43 (σ := Gv.σ) (.v 1) (.c 0))
         have u := zf2 (ed (Gv.σ 0) ((Gv.σ 1).headD 0) 0)
         exact ⟨zn1,
          zt [] (.i ga kr .nil) ab (zp hI hh) hI ze1⟩
        ·have hI := zT1 hI b9 gy
         have hI := zF1 hI b9 (.c 0)
         have := zf1 (f43 (σ := Gv.σ) (.v 1) (.c 0))
         have u := zf2 (ed (Gv.σ 0) ((Gv.σ 1).headD 0) 0)
         exact ⟨zt [] (.i ga kr .nil) ab (zp hI hh) hI ze1,
          zn1⟩
       ·have := zf1 (f43 (σ := Gv.σ) (.v 1) (.c 0))
        have u := zf2 (ed (Gv.σ 0) ((Gv.σ 1).headD 0) 0)
        exact ⟨zn1,
         zt [] (.i (.v 1) kr .nil) ab (zp hI hh) hI ze1⟩
 ·have := zf1 (f43 (σ := Gv.σ) (.v 1) (.c 0))
  have u := zf2 (ed (Gv.σ 0) ((Gv.σ 1).headD 0) 0)
  exact ⟨zt [] (.i (.v 1) kr .nil) ab (zp hI hh) hI ze1,
   zn1⟩
def bmx [Gv] : Prop := (SAll Gv.σ bb4 → b8 64 3 bfy 260 bfx bjw 260 bjv) ∧ (SAll Gv.σ bb5 → b8 64 3 bfy 260 bfx bju 260 bjt)
theorem bpe [Gv] (hh : ∀ t ∈ [bfv mLn, bfs mLn, bmz mLn, bmy mLn], be t) (hI : SAll Gv.σ pI) : bmx := by
 obtain ⟨hR, hp0, hpl, hL⟩ := al5 hI
 rcases zl1 hI (.v 1) (.len (.s 0)) with ⟨hI, k1⟩ | ⟨hI, k1⟩
 ·have := zf1 (asj hR (.v 1))
  rcases zq1 hI aai (.c 10) with ⟨hI, k2⟩ | ⟨hI, k2⟩
  ·have hI := zF1 hI cr (.c 0)
   have hI := zF1 hI (.len (.s 0)) cr
   have := zf1 (f43 (σ := Gv.σ) cr (.c 0))
   rcases zl1 hI ga (.len (.s 0)) with ⟨hI, k5⟩ | ⟨hI, k5⟩
   ·have hI := zT1 hI b9 gy
    have hI := zF1 hI b9 (.c 0)
    have := zf1 (f43 (σ := Gv.σ) (.v 1) (.c 1))
    have u := zf2 (ed (Gv.σ 0) ((Gv.σ 1).headD 0) 1)
    exact ⟨zn1,
     zt [] (.i ga aah .nil) ab (zp hI hh) hI ze1⟩
   ·have hI := zT1 hI b9 gy
    have hI := zF1 hI b9 (.c 0)
    have := zf1 (f43 (σ := Gv.σ) (.v 1) (.c 1))
    have u := zf2 (ed (Gv.σ 0) ((Gv.σ 1).headD 0) 1)
    exact ⟨zt [] (.i ga aah .nil) ab (zp hI hh) hI ze1,
     zn1⟩
  ·have hI := zF1 hI cr (.c 0)
   have hI := zF1 hI (.len (.s 0)) cr
   have := zf1 (f43 (σ := Gv.σ) cr (.c 1))
   rcases zl1 hI yf (.len (.s 0)) with ⟨hI, k5⟩ | ⟨hI, k5⟩
   ·have hI := zT1 hI b9 gy
    have hI := zF1 hI b9 (.c 0)
    have := zf1 (f43 (σ := Gv.σ) (.v 1) (.c 1))
    have u := zf2 (ed (Gv.σ 0) ((Gv.σ 1).headD 0) 1)
    exact ⟨zn1,
     zt [] (.i yf aah .nil) ab (zp hI hh) hI ze1⟩
   ·have hI := zT1 hI b9 gy
    have hI := zF1 hI b9 (.c 0)
    have := zf1 (f43 (σ := Gv.σ) (.v 1) (.c 1))
    have u := zf2 (ed (Gv.σ 0) ((Gv.σ 1).headD 0) 1)
    exact ⟨zt [] (.i yf aah .nil) ab (zp hI hh) hI ze1,
     zn1⟩
 ·have := zf1 (f43 (σ := Gv.σ) (.v 1) (.c 1))
  have u := zf2 (ed (Gv.σ 0) ((Gv.σ 1).headD 0) 1)
  exact ⟨zt [] (.i (.v 1) aah .nil) ab (zp hI hh) hI ze1,
   zn1⟩
theorem awj : ∀ (B : Nat) (σ : Nat → List Int), SAll σ pI → (mLn).eval σ < (B : Int) → @bmw ⟨σ⟩ ∧ @bmx ⟨σ⟩
 | 0, σ, hI, hb => by obtain ⟨h1, h2, h3, h4⟩ := al5 hI; simp only [mLn, evs, wr] at hb; omega
 | B + 1, σ, hI, hb => by
   have ih : ∀ σ' : Nat → List Int, SAll σ' pI → 0 ≤ (mLn).eval σ' ∧ (mLn).eval σ' < (mLn).eval σ → @bmw ⟨σ'⟩ ∧ @bmx ⟨σ'⟩ := fun σ' h h' => awj B σ' h (by omega)
   have hh : ∀ t ∈ [bfv (mLn), bfs (mLn), bmz (mLn), bmy (mLn)], @be ⟨σ⟩ t := by
    intro t ht
    simp only [List.mem_cons, zH, or_false] at ht
    rcases ht with rfl | rfl | rfl | rfl
    ·exact fun σ' _ hA hb => (ih σ' (ap hA).1 hb).1.1 (ap hA).2
    ·exact fun σ' _ hA hb => (ih σ' (ap hA).1 hb).1.2 (ap hA).2
    ·exact fun σ' _ hA hb => (ih σ' (ap hA).1 hb).2.1 (ap hA).2
    ·exact fun σ' _ hA hb => (ih σ' (ap hA).1 hb).2.2 (ap hA).2
   exact ⟨@bpd ⟨σ⟩ hh hI, @bpe ⟨σ⟩ hh hI⟩
theorem bfw [Gv] : be bjq := fun σ _ hA _ => (awj (((mLn).eval σ).toNat + 1) σ (ap hA).1 (by omega)).1.1 (ap hA).2
theorem bft [Gv] : be bjn := fun σ _ hA _ => (awj (((mLn).eval σ).toNat + 1) σ (ap hA).1 (by omega)).1.2 (ap hA).2
end Go.Ev
set_option maxRecDepth 100000
set_option linter.all false
namespace Go.Ev
theorem ja (c : Int) : jo c = if c = 40 ∨ c = 41 ∨ c = 91 ∨ c = 93 ∨ c = 34 ∨ c = 39 ∨ c = 96 ∨ c = 44 ∨ c = 59 ∨ ac1 c = 1 then 1 else 0 := by
 conv => lhs; unfold jo
 try rfl
theorem bd1 (R : List Int) (p : Int) : aon R p = if p < (R.length : Int) then jo (R.getD p.toNat 0) else 1 := by
 conv => lhs; unfold aon
 try rfl
theorem kz (c : Int) : dh c =
 if 127 < c then
  if 2047 < c then
   if c < 55296 then [kg 9 .u8 224 (sh8 c 12), lo8 (sh8 c 6), lo8 (IntKind.u8.wrap c)]
   else if 57343 < c then
    if 65535 < c then [kg 9 .u8 240 (sh8 c 18), lo8 (sh8 c 12), lo8 (sh8 c 6), lo8 (IntKind.u8.wrap c)]
    else [kg 9 .u8 224 (sh8 c 12), lo8 (sh8 c 6), lo8 (IntKind.u8.wrap c)]
   else [239, 191, 189]
  else [kg 9 .u8 192 (sh8 c 6), lo8 (IntKind.u8.wrap c)]
 else [c] := by
 conv => lhs; unfold dh
 try rfl
theorem dl (R : List Int) (p : Int) (b : List Int) (q : Int) : cu R p b q =
 if p < (R.length : Int) then
  if jo (R.getD p.toNat 0) = 1 then ⟨0, p, b, q⟩
  else if R.getD p.toNat 0 = 92 then
   (if p + 1 < (R.length : Int) then cu R (p + 2) (b ++ dh (R.getD (p + 1).toNat 0)) 1 else ⟨5, 0, [], 0⟩)
  else cu R (p + 1) (b ++ dh (R.getD p.toNat 0)) q
 else ⟨0, p, b, q⟩ := by
 conv => lhs; unfold cu
 try rfl
theorem gd (d : List Int) (p sum most fits : Int) : uk d p sum most fits =
 if p < (d.length : Int) then
  if drJ d p < 48 ∨ 57 < drJ d p then ⟨0, 0⟩
  else if 0 < dwJ d p then
   (if most < (sum * 10 % 18446744073709551616 + (drJ d p - 48)) % 18446744073709551616 then uk d (p + dwJ d p) most most 0
    else uk d (p + dwJ d p) ((sum * 10 % 18446744073709551616 + (drJ d p - 48)) % 18446744073709551616) most fits)
  else ⟨0, 0⟩
 else ⟨if fits = 1 then 1 else 2, sum⟩ := by
 conv => lhs; unfold uk
 try rfl
theorem qx (s : List Int) : avz s = if s.getD 0 0 = 45 then 1 else 0 := by
 conv => lhs; unfold avz
 try rfl
theorem oq (s : List Int) : atq s = if ew s = [] ∨ (s.length : Int) - ((ew s).length : Int) > 1 then ⟨0, 0⟩ else uk (ew s) 0 0 (if avz s = 1 then 2305843009213693952 else 2305843009213693951) 1 := by
 conv => lhs; unfold atq
 try rfl
theorem aza (s : List Int) : a9o s = if avz s = 1 then -(atq s).n else (atq s).n := by
 conv => lhs; unfold a9o
 try rfl
theorem afs (s : List Int) (p : Int) : ac7 s p =
 if p < (s.length : Int) then (if 0 < dwJ s p then 1 + ac7 s (p + dwJ s p) else 0) else 0 := by
 conv => lhs; unfold ac7
 try rfl
theorem lj (G s : List Int) : fe G s =
 if ar s = 0 then ⟨5, 0, G⟩
 else if 1000 < ac7 s 0 then ⟨4, 0, G⟩
 else if yu G s = 1 then ⟨0, a4n G s, G⟩
 else if yr G < 16384 then ⟨0, yr G, yr G :: (s.length : Int) :: (s ++ G)⟩
 else ⟨7, 0, G⟩ := by
 conv => lhs; unfold fe
 try rfl
theorem bd0 (h : List Int) (z : Int) : aao h z = if hM h = hL h ∨ 1048576 < hU h + z then ⟨7, h⟩ else ⟨0, [hL h, hM h + 1, hU h + z]⟩ := by
 conv => lhs; unfold aao
 try rfl
end Go.Ev
set_option maxRecDepth 100000
set_option linter.all false
namespace Go.Ev
abbrev bb6 : List SA := [.mk false (.app 41 (.i (.v 1) .nil)) (.c 1) true]
abbrev bb7 : List SA := [.mk false (.app 41 (.i (.v 1) .nil)) (.c 1) false]
abbrev bb8 : AL := .g (.s 0) (.i (.v 1) (.i (.c 0) .nil))
abbrev w7 : GE := .app 40 (.i (.v 1) .nil)
abbrev aaj : GE := .cat (.s 3) w7
abbrev w8 : SE := .len w7
abbrev aak : SE := .bin 6 .i64 (.len (.s 3)) w8
abbrev bb9 : List SA := [.mk true (.c 50000) (.len (.s 3)) false]
abbrev mo : SE := .bin 0 .u32 (.v 1) (.c 0)
abbrev yg : SE := .bin 6 .i64 (.len (.s 3)) (.c 3)
abbrev a0k : SE := .bin 0 .u8 (.bin 12 .i32 (.v 1) (.c 12)) (.c 0)
abbrev a0l : SE := .bin 0 .u8 (.bin 12 .i32 (.v 1) (.c 6)) (.c 0)
abbrev a0m : GE := .one (.bin 9 .u8 (.c 128) (.bin 8 .u8 (.bin 0 .u8 (.v 1) (.c 0)) (.c 63)))
abbrev a0n : GE := .cat (.one (.bin 9 .u8 (.c 128) (.bin 8 .u8 a0l (.c 63)))) a0m
abbrev ao0 : GE := .cat (.one (.bin 9 .u8 (.c 224) a0k)) a0n
abbrev a0o : GE := .cat (.s 3) ao0
abbrev a0p : SE := .bin 6 .i64 (.len (.s 3)) (.c 4)
abbrev a0q : GE := .cat (.one (.bin 9 .u8 (.c 240) (.bin 0 .u8 (.bin 12 .i32 (.v 1) (.c 18)) (.c 0)))) (.cat (.one (.bin 9 .u8 (.c 128) (.bin 8 .u8 a0k (.c 63)))) a0n)
abbrev a0r : SE := .bin 6 .i64 (.len (.s 3)) (.c 2)
abbrev a0s : GE := .cat (.one (.bin 9 .u8 (.c 192) a0l)) a0m
abbrev a0t : SE := .bin 6 .i64 (.len (.s 3)) (.c 1)
noncomputable section
def dlU : List AV := [.sym .i64 (.v 1) []]
def dlI : List HO := []
def bog : List HO := []
def boh : TR := .ret (.bool true)
def bdy : TM := .mk 181 dlU 256 dlI ([] ++ bb6) none boh 256 bog
def boe : List HO := []
def bof : TR := .ret (.bool false)
def bdx : TM := .mk 181 dlU 256 dlI ([] ++ bb7) none bof 256 boe
def bom : List AV := [.int .i64 92]
def boj : List HO := []
def bok : List HO := []
def bol : TR := .ret (.bool false)
def boi : TM := .mk 181 bom 256 boj ([] ++ []) none bol 256 bok
def bsj : List AV := [.ptr (K.of 256) 0]
def bsg : List HO := [rdO 256 258 259 257 (.v 1) (.v 2), rwO 257]
def bsh : List HO := [rdO 256 258 259 257 (.app 43 bb8) (.v 2), rwO 257]
def bsi : TR := .ret (.tuple [])
def bsf : TM := .mk 64 bsj 260 bsg (pI ++ []) none bsi 260 bsh
def buO (k r : Nat) (g : GE) (n : SE) : List HO := [.mk k (.cells 96 false 0 0 [.ptr (K.of k) 0, .gv (.sl (K.of r) 1 n [])]), .mk r (.gob (.gh 5 [.u8] n g))]
def wI : List SA := [.mk true (.v 1) (.c 0) false, .mk true (.v 1) (.c 1114112) true]
def btl : List AV := [.ptr (K.of 256) 0, .sym .i32 (.v 1) []]
def bti : List HO := buO 256 257 (.s 3) (.len (.s 3))
def btj : List HO := buO 256 258 aaj aak
def btk : TR := .ret (.tuple [.top, .nilIface])
def bnr : TM := .mk 146 btl 258 bti ((wI ++ bb9) ++ []) none btk 259 btj
def bth : List AV := [.ptr (K.of 256) 0, .sym .i32 (.v 1) []]
def bte : List HO := [.mk 256 (.cells 96 false 0 0 [.nilPtr, .nilSlice])]
def btf : List HO := buO 256 257 (.app 40 (.i (.v 1) .nil)) w8
def btg : TR := .ret (.tuple [.top, .nilIface])
def bnq : TM := .mk 146 bth 257 bte (wI ++ []) none btg 258 btf
end
def dlG [Gv] : Prop := (SAll Gv.σ bb6 → aq 181 dlU 256 dlI boh 256 bog) ∧ (SAll Gv.σ bb7 → aq 181 dlU 256 dlI bof 256 boe)
theorem bos [Gv] (hI : SAll Gv.σ []) : dlG := by
 rcases zq1 hI (.v 1) (.c 40) with ⟨hI, k1⟩ | ⟨hI, k1⟩
 ·have u := zf2 (ja ((Gv.σ 1).headD 0))
  exact ⟨zm0 [] ab ac hI,
   zn1⟩
 ·rcases zq1 hI (.v 1) (.c 41) with ⟨hI, k2⟩ | ⟨hI, k2⟩
  ·have u := zf2 (ja ((Gv.σ 1).headD 0))
   exact ⟨zm0 [] ab ac hI,
    zn1⟩
  ·rcases zq1 hI (.v 1) (.c 91) with ⟨hI, k3⟩ | ⟨hI, k3⟩
   ·have u := zf2 (ja ((Gv.σ 1).headD 0))
    exact ⟨zm0 [] ab ac hI,
     zn1⟩
   ·rcases zq1 hI (.v 1) (.c 93) with ⟨hI, k4⟩ | ⟨hI, k4⟩
    ·have u := zf2 (ja ((Gv.σ 1).headD 0))
     exact ⟨zm0 [] ab ac hI,
      zn1⟩
    ·rcases zq1 hI (.v 1) (.c 34) with ⟨hI, k5⟩ | ⟨hI, k5⟩
     ·have u := zf2 (ja ((Gv.σ 1).headD 0))
      exact ⟨zm0 [] ab ac hI,
       zn1⟩
     ·rcases zq1 hI (.v 1) (.c 39) with ⟨hI, k6⟩ | ⟨hI, k6⟩
      ·have u := zf2 (ja ((Gv.σ 1).headD 0))
       exact ⟨zm0 [] ab ac hI,
        zn1⟩
      ·rcases zq1 hI (.v 1) (.c 96) with ⟨hI, k7⟩ | ⟨hI, k7⟩
       ·have u := zf2 (ja ((Gv.σ 1).headD 0))
        exact ⟨zm0 [] ab ac hI,
         zn1⟩
       ·rcases zq1 hI (.v 1) (.c 44) with ⟨hI, k8⟩ | ⟨hI, k8⟩
        ·have u := zf2 (ja ((Gv.σ 1).headD 0))
         exact ⟨zm0 [] ab ac hI,
          zn1⟩
        ·rcases zq1 hI (.v 1) (.c 59) with ⟨hI, k9⟩ | ⟨hI, k9⟩
         ·have u := zf2 (ja ((Gv.σ 1).headD 0))
          exact ⟨zm0 [] ab ac hI,
           zn1⟩
         ·rcases zq1 hI (.v 1) (.c 9) with ⟨hI, k10⟩ | ⟨hI, k10⟩
          ·have u := zf2 (ja ((Gv.σ 1).headD 0))
           exact ⟨zm0 [] ab ac hI,
            zn1⟩
          ·rcases zq1 hI (.v 1) (.c 10) with ⟨hI, k11⟩ | ⟨hI, k11⟩
           ·have u := zf2 (ja ((Gv.σ 1).headD 0))
            exact ⟨zm0 [] ab ac hI,
             zn1⟩
           ·rcases zq1 hI (.v 1) (.c 12) with ⟨hI, k12⟩ | ⟨hI, k12⟩
            ·have u := zf2 (ja ((Gv.σ 1).headD 0))
             exact ⟨zm0 [] ab ac hI,
              zn1⟩
            ·rcases zq1 hI (.v 1) (.c 13) with ⟨hI, k13⟩ | ⟨hI, k13⟩
             ·have u := zf2 (ja ((Gv.σ 1).headD 0))
              exact ⟨zm0 [] ab ac hI,
               zn1⟩
             ·rcases zq1 hI (.v 1) (.c 32) with ⟨hI, k14⟩ | ⟨hI, k14⟩
              ·have u := zf2 (ja ((Gv.σ 1).headD 0))
               exact ⟨zm0 [] ab ac hI,
                zn1⟩
              ·have u := zf2 (ja ((Gv.σ 1).headD 0))
               exact ⟨zn1,
                zm0 [] ab ac hI⟩
theorem ave [Gv] : bj bdy := fun σ _ hA _ => (@bos ⟨σ⟩  (ap hA).1).1 (ap hA).2
theorem avd [Gv] : bj bdx := fun σ _ hA _ => (@bos ⟨σ⟩  (ap hA).1).2 (ap hA).2
def byy [Gv] : Prop := (SAll Gv.σ [] → aq 181 bom 256 boj bol 256 bok)
theorem bou [Gv] (hI : SAll Gv.σ []) : byy := by
 have u := trivial
 exact zm0 [] ab ac hI
theorem bk1 [Gv] : bj boi := fun σ _ hA _ => (@bou ⟨σ⟩  (ap hA).1) (ap hA).2
theorem bgb {α : Type} {p : α → Prop} {a b : α} (ha : p a) (hb : p b) : ∀ t ∈ [a, b], p t := by
 intro t ht
 simp only [List.mem_cons, zH, or_false] at ht
 rcases ht with rfl | rfl
 ·exact ha
 ·exact hb
theorem gg {α : Type} {p : α → Prop} {a : α} (ha : p a) : ∀ t ∈ [a], p t := by
 intro t ht
 rw [List.mem_singleton] at ht; subst ht; exact ha
theorem sk2 [Gv] : ∀ t ∈ [bjq, bjn], be t := bgb bfw bft
def bz9 [Gv] : Prop := (SAll Gv.σ [] → aq 64 bsj 260 bsg bsi 260 bsh)
theorem bpf [Gv] (hI : SAll Gv.σ pI) : bz9 := by
 obtain ⟨hR, hp0, hpl, hL⟩ := al5 hI
 have := zf1 (f43 (σ := Gv.σ) (.v 1) (.c 0))
 rcases zl1 hI (.app 43 bb8) (.len (.s 0)) with ⟨hI, k1⟩ | ⟨hI, k1⟩
 ·have u := trivial
  exact zm0 [] ab (zp hI sk2) hI
 ·have u := trivial
  exact zm0 [] ab (zp hI sk2) hI
theorem bm1 [Gv] : bj bsf := fun σ _ hA _ => (@bpf ⟨σ⟩  (ap hA).1) (ap hA).2
theorem bkj {σ : Nat → List Int} (h : SAll σ wI) : 0 ≤ (σ 1).headD 0 ∧ (σ 1).headD 0 < 1114112 := by
 simp only [wI, sall_cons, sT, sF, evs] at h
 exact ⟨h.1, h.2.1⟩
def b0o [Gv] : Prop := (SAll Gv.σ [] → aq 146 btl 258 bti btk 259 btj)
theorem bpp [Gv] (hI : SAll Gv.σ (wI ++ bb9)) : b0o := by
 have hw := bkj (ap hI).1
 have h50 : ((Gv.σ 3).length : Int) ≤ 50000 := by have := (ap hI).2; simp only [sall_cons, sF, evs] at this; exact this.1
 rcases zl1 hI (.c 127) mo with ⟨hI, k1⟩ | ⟨hI, k1⟩
 ·rcases zl1 hI (.c 2047) mo with ⟨hI, k2⟩ | ⟨hI, k2⟩
  ·rcases zl1 hI mo (.c 55296) with ⟨hI, k3⟩ | ⟨hI, k3⟩
   ·have hI := zF1 hI (.c 400000) yg
    have := zf1 (f40 (σ := Gv.σ) (.v 1))
    have u := zf3 (kz ((Gv.σ 1).headD 0))
    exact zm [(259, 258)] (.i yg aak (.g a0o aaj .nil)) ab ac hI ze2
   ·rcases zl1 hI (.c 57343) mo with ⟨hI, k4⟩ | ⟨hI, k4⟩
    ·rcases zl1 hI (.c 65535) mo with ⟨hI, k5⟩ | ⟨hI, k5⟩
     ·have hI := zF1 hI (.c 1114111) mo
      have hI := zF1 hI (.c 400000) a0p
      have := zf1 (f40 (σ := Gv.σ) (.v 1))
      have u := zf3 (kz ((Gv.σ 1).headD 0))
      exact zm [(259, 258)] (.i a0p aak (.g (.cat (.s 3) a0q) aaj .nil)) ab ac hI ze2
     ·have hI := zF1 hI (.c 400000) yg
      have := zf1 (f40 (σ := Gv.σ) (.v 1))
      have u := zf3 (kz ((Gv.σ 1).headD 0))
      exact zm [(259, 258)] (.i yg aak (.g a0o aaj .nil)) ab ac hI ze2
    ·have hI := zF1 hI (.c 65535) mo
     have hI := zF1 hI (.c 400000) yg
     have := zf1 (f40 (σ := Gv.σ) (.v 1))
     have u := zf3 (kz ((Gv.σ 1).headD 0))
     exact zm [(259, 258)] (.i yg aak (.g (.cat (.s 3) (.cat (.one (.c 239)) (.cat (.one (.c 191)) (.one (.c 189))))) aaj .nil)) ab ac hI ze2
  ·have hI := zF1 hI (.c 400000) a0r
   have := zf1 (f40 (σ := Gv.σ) (.v 1))
   have u := zf3 (kz ((Gv.σ 1).headD 0))
   exact zm [(259, 258)] (.i a0r aak (.g (.cat (.s 3) a0s) aaj .nil)) ab ac hI ze2
 ·have hI := zF1 hI (.c 400000) a0t
  have := zf1 (f40 (σ := Gv.σ) (.v 1))
  have u := zf3 (kz ((Gv.σ 1).headD 0))
  exact zm [(259, 258)] (.i a0t aak (.g (.cat (.s 3) (.one (.bin 0 .u8 (.v 1) (.c 0)))) aaj .nil)) ab ac hI ze2
theorem bbq [Gv] : bj bnr := fun σ _ hA _ => (@bpp ⟨σ⟩  (ap hA).1) (ap hA).2
def b0n [Gv] : Prop := (SAll Gv.σ [] → aq 146 bth 257 bte btg 258 btf)
theorem bpo [Gv] (hI : SAll Gv.σ wI) : b0n := by
 have hw := bkj hI
 rcases zl1 hI (.c 127) mo with ⟨hI, k1⟩ | ⟨hI, k1⟩
 ·rcases zl1 hI (.c 2047) mo with ⟨hI, k2⟩ | ⟨hI, k2⟩
  ·rcases zl1 hI mo (.c 55296) with ⟨hI, k3⟩ | ⟨hI, k3⟩
   ·have := zf1 (f40 (σ := Gv.σ) (.v 1))
    have u := zf3 (kz ((Gv.σ 1).headD 0))
    exact zm [(258, 257)] (.i (.c 3) w8 (.g ao0 w7 .nil)) ab ac hI ze2
   ·rcases zl1 hI (.c 57343) mo with ⟨hI, k4⟩ | ⟨hI, k4⟩
    ·rcases zl1 hI (.c 65535) mo with ⟨hI, k5⟩ | ⟨hI, k5⟩
     ·have hI := zF1 hI (.c 1114111) mo
      have := zf1 (f40 (σ := Gv.σ) (.v 1))
      have u := zf3 (kz ((Gv.σ 1).headD 0))
      exact zm [(258, 257)] (.i (.c 4) w8 (.g a0q w7 .nil)) ab ac hI ze2
     ·have := zf1 (f40 (σ := Gv.σ) (.v 1))
      have u := zf3 (kz ((Gv.σ 1).headD 0))
      exact zm [(258, 257)] (.i (.c 3) w8 (.g ao0 w7 .nil)) ab ac hI ze2
    ·have hI := zF1 hI (.c 65535) mo
     have := zf1 (f40 (σ := Gv.σ) (.v 1))
     have u := zf3 (kz ((Gv.σ 1).headD 0))
     exact zm [(258, 257)] (.i (.c 3) w8 (.g (.lit 3 15712189) w7 .nil)) ab ac hI ze2
  ·have := zf1 (f40 (σ := Gv.σ) (.v 1))
   have u := zf3 (kz ((Gv.σ 1).headD 0))
   exact zm [(258, 257)] (.i (.c 2) w8 (.g a0s w7 .nil)) ab ac hI ze2
 ·have := zf1 (f40 (σ := Gv.σ) (.v 1))
  have u := zf3 (kz ((Gv.σ 1).headD 0))
  exact zm [(258, 257)] (.i (.c 1) w8 (.g (.one (.bin 0 .u8 (.v 1) (.c 0))) w7 .nil)) ab ac hI ze2
theorem bbp [Gv] : bj bnq := fun σ _ hA _ => (@bpo ⟨σ⟩  (ap hA).1) (ap hA).2
end Go.Ev
