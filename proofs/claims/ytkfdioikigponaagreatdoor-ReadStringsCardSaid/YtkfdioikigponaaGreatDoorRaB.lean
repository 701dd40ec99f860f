import Derived.Test.YtkfdioikigponaaGreatDoorEvGh
import Derived.Lib.DecodeN
set_option maxRecDepth 100000
set_option linter.all false
namespace Go.Ev
section
variable {σ : Nat → List Int}
theorem sall_cons {A : List SA} {x : SA} : SAll σ (x :: A) ↔ x.holds σ ∧ SAll σ A := by
 constructor
 ·exact fun h => ⟨h _ (by simp), fun y hy => h y (zA _ hy)⟩
 ·rintro ⟨h1, h2⟩ y hy
  rcases List.mem_cons.1 hy with rfl | hy
  ·exact h1
  ·exact h2 y hy
theorem anu {a b : SE} (h : a.eval σ < b.eval σ) : (SA.mk true a b true).holds σ := decide_eq_true h
theorem aey {a b : SE} (h : ¬ a.eval σ < b.eval σ) : (SA.mk true a b false).holds σ := decide_eq_false h
theorem bbe {a b : SE} (h : ¬ a.eval σ = b.eval σ) : (SA.mk false a b false).holds σ := decide_eq_false h
theorem a7u {a b : SE} (h : a.eval σ = b.eval σ) : (SA.mk false a b true).holds σ := decide_eq_true h
end
open Classical in
theorem btu {p : Prop} : (if p then (1 : Int) else 0) = 1 ↔ p := by
 by_cases h : p
 ·rw [if_pos h]; exact ⟨fun _ => h, fun _ => rfl⟩
 ·rw [if_neg h]; exact ⟨fun e => absurd e (by decide), fun e => absurd e h⟩
theorem a78 {x : Int} (h : -9223372036854775808 ≤ x ∧ x ≤ 9223372036854775807) : IntKind.i64.wrap x = x := by
 simp only [IntKind.wrap, IntKind.bits, IntKind.signed]; simp; omega
theorem bne {x : Int} (h : -2147483648 ≤ x ∧ x ≤ 2147483647) : IntKind.i32.wrap x = x := by
 simp only [IntKind.wrap, IntKind.bits, IntKind.signed]; simp; omega
theorem bie {x : Int} (h : 0 ≤ x ∧ x ≤ 4294967295) : IntKind.u32.wrap x = x := by
 simp only [IntKind.wrap, IntKind.bits, IntKind.signed]; simp; omega
theorem bpa {x : Int} (h : 0 ≤ x ∧ x ≤ 255) : IntKind.u8.wrap x = x := by
 simp only [IntKind.wrap, IntKind.bits, IntKind.signed]; simp; omega
theorem np (l : List Int) (p : Nat) (h : p < l.length) : 1 ≤ (Utf8.decode (aj l) p).2 ∧ p + (Utf8.decode (aj l) p).2 ≤ l.length ∧ (Utf8.decode (aj l) p).1 ≤ 1114111 := by
 have hs : (aj l).size = l.length := dg (l := l)
 rw [Lib.decode_at, hs]
 generalize ((aj l).get! p).toNat = b0
 generalize ((aj l).get! (p + 1)).toNat = b1
 generalize ((aj l).get! (p + 2)).toNat = b2
 generalize ((aj l).get! (p + 3)).toNat = b3
 unfold Lib.decodeN
 repeat' split
 all_goals simp only
 all_goals omega
theorem ael : ∀ (f g : Nat) (s : List Int) (p : Nat), s.length ≤ p + f → s.length ≤ p + g → ic f s p = ic g s p
 | 0, 0, _, _, _, _ => rfl
 | 0, g + 1, s, p, h, _ => by unfold ic; rw [if_neg (by omega)]
 | f + 1, 0, s, p, _, h => by unfold ic; rw [if_neg (by omega)]
 | f + 1, g + 1, s, p, h1, h2 => by
   unfold ic
   split
   ·rename_i hp
    have := (np s p hp).1
    have e : aj s = rj s := rfl
    rw [e] at this
    rw [ael f g s _ (by omega) (by omega)]
   ·rfl
theorem rr {s : List Int} {p : Nat} (h : p < s.length) : av s p = ((Utf8.decode (aj s) p).1 : Int) :: av s (p + (Utf8.decode (aj s) p).2) := by
 obtain ⟨f, hf⟩ : ∃ f, s.length = f + 1 := ⟨s.length - 1, by omega⟩
 have hd := (np s p h).1
 show ic s.length s p = _ :: ic s.length s _
 rw [hf]
 show (if p < s.length then _ else _) = _
 rw [if_pos h]
 congr 1
 exact ael _ _ _ _ (by show s.length ≤ p + (Utf8.decode (aj s) p).2 + f; omega) (by show s.length ≤ p + (Utf8.decode (aj s) p).2 + (f + 1); omega)
theorem axv {s : List Int} {p : Nat} (h : s.length ≤ p) : av s p = [] := by
 show ic s.length s p = []
 cases hf : s.length with
 | zero => rfl
 | succ f => show (if p < s.length then _ else _) = _; rw [if_neg (by omega)]
end Go.Ev
set_option maxRecDepth 100000
set_option linter.all false
namespace Go.Ev
theorem sl {σ : Nat → List Int} (a b : SE) : (SA.mk true a b true).holds σ ∧ a.eval σ < b.eval σ ∨ (SA.mk true a b false).holds σ ∧ b.eval σ ≤ a.eval σ := by
 by_cases h : a.eval σ < b.eval σ
 ·exact .inl ⟨anu h, h⟩
 ·exact .inr ⟨aey h, by omega⟩
theorem se {σ : Nat → List Int} (a b : SE) : (SA.mk false a b true).holds σ ∧ a.eval σ = b.eval σ ∨ (SA.mk false a b false).holds σ ∧ ¬ a.eval σ = b.eval σ := by
 by_cases h : a.eval σ = b.eval σ
 ·exact .inl ⟨a7u h, h⟩
 ·exact .inr ⟨bbe h, h⟩
theorem sc {σ : Nat → List Int} {A : List SA} {x : SA} (h : x.holds σ) (h' : SAll σ A) : SAll σ (x :: A) := sall_cons.2 ⟨h, h'⟩
theorem sT {σ : Nat → List Int} {a b : SE} : (SA.mk true a b true).holds σ ↔ a.eval σ < b.eval σ := decide_eq_true_iff
theorem sF {σ : Nat → List Int} {a b : SE} : (SA.mk true a b false).holds σ ↔ b.eval σ ≤ a.eval σ := ⟨fun h => by have := of_decide_eq_false h; omega, fun h => aey (by omega)⟩
theorem sE {σ : Nat → List Int} {a b : SE} : (SA.mk false a b true).holds σ ↔ a.eval σ = b.eval σ := decide_eq_true_iff
theorem sN {σ : Nat → List Int} {a b : SE} : (SA.mk false a b false).holds σ ↔ ¬ a.eval σ = b.eval σ := decide_eq_false_iff_not
theorem asv : ∀ (n : Nat) (l : List Int), azm n l = alo n l
 | 0, _ => rfl
 | _ + 1, [] => rfl
 | _ + 1, [_] => rfl
 | n + 1, a :: b :: l => by show _ :: azm n _ = _ :: alo n _; rw [asv n]
theorem auz (l : List Int) : au1 l = xi l := by unfold au1 xi; rw [asv]
theorem evs : (∀ (σ : Nat → List Int) (i : Nat), (SE.v i).eval σ = (σ i).headD 0) ∧
  (∀ (σ : Nat → List Int) (n : Int), (SE.c n).eval σ = n) ∧
  (∀ (σ : Nat → List Int) (g : GE), (SE.len g).eval σ = ((g.eval σ).length : Int)) ∧
  (∀ (σ : Nat → List Int) (g : GE) (e : SE), (SE.rd g e).eval σ = (g.eval σ).getD (e.eval σ).toNat 0) ∧
  (∀ (σ : Nat → List Int) (g : GE) (e : SE), (SE.dr g e).eval σ = drJ (g.eval σ) (e.eval σ)) ∧
  (∀ (σ : Nat → List Int) (g : GE) (e : SE), (SE.dw g e).eval σ = dwJ (g.eval σ) (e.eval σ)) ∧
  (∀ (σ : Nat → List Int) (g h : GE), (SE.eqg g h).eval σ = if g.eval σ = h.eval σ then 1 else 0) ∧
  (∀ (σ : Nat → List Int) (g h : GE), (SE.mhas g h).eval σ = bnu (g.eval σ) (h.eval σ)) ∧
  (∀ (σ : Nat → List Int) (g h : GE), (SE.mget g h).eval σ = bpi (g.eval σ) (h.eval σ)) ∧
  (∀ (σ : Nat → List Int) (k : IntKind) (a b : SE), (SE.bin 0 k a b).eval σ = k.wrap (a.eval σ + b.eval σ)) ∧
  (∀ (σ : Nat → List Int) (k : IntKind) (a b : SE), (SE.bin 1 k a b).eval σ = k.wrap (a.eval σ - b.eval σ)) ∧
  (∀ (σ : Nat → List Int) (k : IntKind) (a b : SE), (SE.bin 2 k a b).eval σ = k.wrap (a.eval σ * b.eval σ)) ∧
  (∀ (σ : Nat → List Int) (k : IntKind) (a b : SE), (SE.bin 4 k a b).eval σ = (a.eval σ).tmod (b.eval σ)) ∧
  (∀ (σ : Nat → List Int) (k : IntKind) (a b : SE), (SE.bin 6 k a b).eval σ = a.eval σ + b.eval σ) ∧
  (∀ (σ : Nat → List Int) (k : IntKind) (a b : SE), (SE.bin 7 k a b).eval σ = a.eval σ * b.eval σ) ∧
  (∀ (σ : Nat → List Int) (k : IntKind) (a b : SE), (SE.bin 8 k a b).eval σ = gc 8 k (a.eval σ) (b.eval σ)) ∧
  (∀ (σ : Nat → List Int) (k : IntKind) (a b : SE), (SE.bin 9 k a b).eval σ = gc 9 k (a.eval σ) (b.eval σ)) ∧
  (∀ (σ : Nat → List Int) (k : IntKind) (a b : SE), (SE.bin 11 k a b).eval σ = gc 11 k (a.eval σ) (b.eval σ)) ∧
  (∀ (σ : Nat → List Int) (k : IntKind) (a b : SE), (SE.bin 12 k a b).eval σ = gc 12 k (a.eval σ) (b.eval σ)) ∧
  (∀ (σ : Nat → List Int) (k : IntKind) (a b : SE), (SE.bin 13 k a b).eval σ = gc 13 k (a.eval σ) (b.eval σ)) ∧
  (∀ (σ : Nat → List Int) (i : Nat), (GE.s i).eval σ = σ i) ∧
  (∀ (σ : Nat → List Int), GE.nil.eval σ = []) ∧
  (∀ (σ : Nat → List Int), (GE.lit 0 0).eval σ = []) ∧
  (∀ (σ : Nat → List Int) (e : SE), (GE.one e).eval σ = [e.eval σ]) ∧
  (∀ (σ : Nat → List Int) (g h : GE), (GE.cat g h).eval σ = g.eval σ ++ h.eval σ) ∧
  (∀ (σ : Nat → List Int) (g : GE) (a b : SE), (GE.cut g a b).eval σ = ((g.eval σ).take (b.eval σ).toNat).drop (a.eval σ).toNat) ∧
  (∀ (σ : Nat → List Int) (c : SE), (SE.app 40 (.i c .nil)).eval σ = a56 (c.eval σ)) ∧
  (∀ (σ : Nat → List Int) (c : SE), (SE.app 41 (.i c .nil)).eval σ = bhr (c.eval σ)) ∧
  (∀ (σ : Nat → List Int) (R : GE) (p b : SE), (SE.app 43 (.g R (.i p (.i b .nil)))).eval σ = al (R.eval σ) (p.eval σ) (b.eval σ)) ∧
  (∀ (σ : Nat → List Int) (R b : GE) (p q : SE), (SE.app 44 (.g R (.i p (.g b (.i q .nil))))).eval σ = (aik (R.eval σ) (p.eval σ) (b.eval σ) (q.eval σ)).f) ∧
  (∀ (σ : Nat → List Int) (R b : GE) (p q : SE), (SE.app 45 (.g R (.i p (.g b (.i q .nil))))).eval σ = (aik (R.eval σ) (p.eval σ) (b.eval σ) (q.eval σ)).p) ∧
  (∀ (σ : Nat → List Int) (R b : GE) (p q : SE), (SE.app 46 (.g R (.i p (.g b (.i q .nil))))).eval σ = (aik (R.eval σ) (p.eval σ) (b.eval σ) (q.eval σ)).q) ∧
  (∀ (σ : Nat → List Int) (s : GE), (SE.app 47 (.g s .nil)).eval σ = bic (s.eval σ)) ∧
  (∀ (σ : Nat → List Int) (s : GE), (SE.app 48 (.g s .nil)).eval σ = bnt (s.eval σ)) ∧
  (∀ (σ : Nat → List Int) (s : GE) (p : SE), (SE.app 49 (.g s (.i p .nil))).eval σ = zg (s.eval σ) (p.eval σ)) ∧
  (∀ (σ : Nat → List Int) (s : GE), (SE.app 50 (.g s .nil)).eval σ = b8 (s.eval σ)) ∧
  (∀ (σ : Nat → List Int) (d : GE) (p s m t : SE), (SE.app 51 (.g d (.i p (.i s (.i m (.i t .nil)))))).eval σ = (axj (d.eval σ) (p.eval σ) (s.eval σ) (m.eval σ) (t.eval σ)).k) ∧
  (∀ (σ : Nat → List Int) (d : GE) (p s m t : SE), (SE.app 52 (.g d (.i p (.i s (.i m (.i t .nil)))))).eval σ = (axj (d.eval σ) (p.eval σ) (s.eval σ) (m.eval σ) (t.eval σ)).n) ∧
  (∀ (σ : Nat → List Int) (G : GE), (SE.app 53 (.g G .nil)).eval σ = avq (G.eval σ)) ∧
  (∀ (σ : Nat → List Int) (G s : GE), (SE.app 54 (.g G (.g s .nil))).eval σ = (n5 (G.eval σ) (s.eval σ)).f) ∧
  (∀ (σ : Nat → List Int) (G s : GE), (SE.app 55 (.g G (.g s .nil))).eval σ = (n5 (G.eval σ) (s.eval σ)).n) ∧
  (∀ (σ : Nat → List Int) (h : GE) (z : SE), (SE.app 57 (.g h (.i z .nil))).eval σ = (ug (h.eval σ) (z.eval σ)).f) ∧
  (∀ (σ : Nat → List Int) (h : GE) (z : SE), (SE.app 58 (.g h (.i z .nil))).eval σ = (bcu (h.eval σ) (z.eval σ)).f) ∧
  (∀ (σ : Nat → List Int) (h s : GE), (SE.app 59 (.g h (.g s .nil))).eval σ = (nc (h.eval σ) (s.eval σ)).f) ∧
  (∀ (σ : Nat → List Int) (R h G : GE) (p o : SE), (SE.app 60 (.g R (.i p (.i o (.g h (.g G .nil)))))).eval σ = (cr (R.eval σ) (p.eval σ) (o.eval σ) (h.eval σ) (G.eval σ)).f) ∧
  (∀ (σ : Nat → List Int) (R h G : GE) (p o : SE), (SE.app 61 (.g R (.i p (.i o (.g h (.g G .nil)))))).eval σ = (cr (R.eval σ) (p.eval σ) (o.eval σ) (h.eval σ) (G.eval σ)).a) ∧
  (∀ (σ : Nat → List Int) (R h G : GE) (p o : SE), (SE.app 62 (.g R (.i p (.i o (.g h (.g G .nil)))))).eval σ = (cr (R.eval σ) (p.eval σ) (o.eval σ) (h.eval σ) (G.eval σ)).k) ∧
  (∀ (σ : Nat → List Int) (R h G : GE) (p o : SE), (SE.app 63 (.g R (.i p (.i o (.g h (.g G .nil)))))).eval σ = (cr (R.eval σ) (p.eval σ) (o.eval σ) (h.eval σ) (G.eval σ)).n) ∧
  (∀ (σ : Nat → List Int) (R h G : GE) (p o : SE), (SE.app 64 (.g R (.i p (.i o (.g h (.g G .nil)))))).eval σ = (cr (R.eval σ) (p.eval σ) (o.eval σ) (h.eval σ) (G.eval σ)).p) ∧
  (∀ (σ : Nat → List Int) (R h G : GE) (p o a c k n : SE), (SE.app 65 (.g R (.i p (.i o (.i a (.i c (.i k (.i n (.g h (.g G .nil)))))))))).eval σ = (oh (R.eval σ) (p.eval σ) (o.eval σ) (a.eval σ) (c.eval σ) (k.eval σ) (n.eval σ) (h.eval σ) (G.eval σ)).f) ∧
  (∀ (σ : Nat → List Int) (R h G : GE) (p o a c k n : SE), (SE.app 66 (.g R (.i p (.i o (.i a (.i c (.i k (.i n (.g h (.g G .nil)))))))))).eval σ = (oh (R.eval σ) (p.eval σ) (o.eval σ) (a.eval σ) (c.eval σ) (k.eval σ) (n.eval σ) (h.eval σ) (G.eval σ)).a) ∧
  (∀ (σ : Nat → List Int) (R h G : GE) (p o a c k n : SE), (SE.app 67 (.g R (.i p (.i o (.i a (.i c (.i k (.i n (.g h (.g G .nil)))))))))).eval σ = (oh (R.eval σ) (p.eval σ) (o.eval σ) (a.eval σ) (c.eval σ) (k.eval σ) (n.eval σ) (h.eval σ) (G.eval σ)).k) ∧
  (∀ (σ : Nat → List Int) (R h G : GE) (p o a c k n : SE), (SE.app 68 (.g R (.i p (.i o (.i a (.i c (.i k (.i n (.g h (.g G .nil)))))))))).eval σ = (oh (R.eval σ) (p.eval σ) (o.eval σ) (a.eval σ) (c.eval σ) (k.eval σ) (n.eval σ) (h.eval σ) (G.eval σ)).n) ∧
  (∀ (σ : Nat → List Int) (R h G : GE) (p o a c k n : SE), (SE.app 69 (.g R (.i p (.i o (.i a (.i c (.i k (.i n (.g h (.g G .nil)))))))))).eval σ = (oh (R.eval σ) (p.eval σ) (o.eval σ) (a.eval σ) (c.eval σ) (k.eval σ) (n.eval σ) (h.eval σ) (G.eval σ)).p) ∧
  (∀ (σ : Nat → List Int) (R h G : GE) (p o a c : SE), (SE.app 70 (.g R (.i p (.i o (.i a (.i c (.g h (.g G .nil)))))))).eval σ = (ada (R.eval σ) (p.eval σ) (o.eval σ) (a.eval σ) (c.eval σ) (h.eval σ) (G.eval σ)).f) ∧
  (∀ (σ : Nat → List Int) (R h G : GE) (p o a c : SE), (SE.app 71 (.g R (.i p (.i o (.i a (.i c (.g h (.g G .nil)))))))).eval σ = (ada (R.eval σ) (p.eval σ) (o.eval σ) (a.eval σ) (c.eval σ) (h.eval σ) (G.eval σ)).a) ∧
  (∀ (σ : Nat → List Int) (R h G : GE) (p o a c : SE), (SE.app 72 (.g R (.i p (.i o (.i a (.i c (.g h (.g G .nil)))))))).eval σ = (ada (R.eval σ) (p.eval σ) (o.eval σ) (a.eval σ) (c.eval σ) (h.eval σ) (G.eval σ)).n) ∧
  (∀ (σ : Nat → List Int) (R h G : GE) (p o a c : SE), (SE.app 73 (.g R (.i p (.i o (.i a (.i c (.g h (.g G .nil)))))))).eval σ = (ada (R.eval σ) (p.eval σ) (o.eval σ) (a.eval σ) (c.eval σ) (h.eval σ) (G.eval σ)).p) ∧
  (∀ (σ : Nat → List Int) (h : GE) (i k n : SE), (SE.app 74 (.i i (.g h (.i k (.i n .nil))))).eval σ = (sw (i.eval σ) (h.eval σ) (k.eval σ) (n.eval σ)).f) ∧
  (∀ (σ : Nat → List Int) (h : GE) (i k n : SE), (SE.app 75 (.i i (.g h (.i k (.i n .nil))))).eval σ = (sw (i.eval σ) (h.eval σ) (k.eval σ) (n.eval σ)).k) ∧
  (∀ (σ : Nat → List Int) (h : GE) (i k n : SE), (SE.app 76 (.i i (.g h (.i k (.i n .nil))))).eval σ = (sw (i.eval σ) (h.eval σ) (k.eval σ) (n.eval σ)).n) ∧
  (∀ (σ : Nat → List Int) (c : SE), (SE.app 77 (.i c .nil)).eval σ = act (c.eval σ)) ∧
  (∀ (σ : Nat → List Int) (c : SE), (SE.app 78 (.i c .nil)).eval σ = tg (c.eval σ)) ∧
  (∀ (σ : Nat → List Int) (c : SE), (SE.app 79 (.i c .nil)).eval σ = kh (c.eval σ)) ∧
  (∀ (σ : Nat → List Int) (R : GE) (p c n : SE), (SE.app 80 (.g R (.i p (.i c (.i n .nil))))).eval σ = (kz (R.eval σ) (p.eval σ) (c.eval σ) (n.eval σ)).p) ∧
  (∀ (σ : Nat → List Int) (R : GE) (p c n : SE), (SE.app 81 (.g R (.i p (.i c (.i n .nil))))).eval σ = (kz (R.eval σ) (p.eval σ) (c.eval σ) (n.eval σ)).c) ∧
  (∀ (σ : Nat → List Int) (R : GE) (p c n : SE), (SE.app 82 (.g R (.i p (.i c (.i n .nil))))).eval σ = (kz (R.eval σ) (p.eval σ) (c.eval σ) (n.eval σ)).a) ∧
  (∀ (σ : Nat → List Int) (R : GE) (p a : SE), (SE.app 83 (.g R (.i p (.i a .nil)))).eval σ = (sq (R.eval σ) (p.eval σ) (a.eval σ)).f) ∧
  (∀ (σ : Nat → List Int) (R : GE) (p a : SE), (SE.app 84 (.g R (.i p (.i a .nil)))).eval σ = (sq (R.eval σ) (p.eval σ) (a.eval σ)).a) ∧
  (∀ (σ : Nat → List Int) (R : GE) (p a : SE), (SE.app 85 (.g R (.i p (.i a .nil)))).eval σ = (sq (R.eval σ) (p.eval σ) (a.eval σ)).c) ∧
  (∀ (σ : Nat → List Int) (R : GE) (p a : SE), (SE.app 86 (.g R (.i p (.i a .nil)))).eval σ = (sq (R.eval σ) (p.eval σ) (a.eval σ)).p) ∧
  (∀ (σ : Nat → List Int) (R : GE) (p : SE), (SE.app 87 (.g R (.i p .nil))).eval σ = (jd (R.eval σ) (p.eval σ)).f) ∧
  (∀ (σ : Nat → List Int) (R : GE) (p : SE), (SE.app 88 (.g R (.i p .nil))).eval σ = (jd (R.eval σ) (p.eval σ)).a) ∧
  (∀ (σ : Nat → List Int) (R : GE) (p : SE), (SE.app 89 (.g R (.i p .nil))).eval σ = (jd (R.eval σ) (p.eval σ)).c) ∧
  (∀ (σ : Nat → List Int) (R : GE) (p : SE), (SE.app 90 (.g R (.i p .nil))).eval σ = (jd (R.eval σ) (p.eval σ)).p) ∧
  (∀ (σ : Nat → List Int) (R b : GE) (p : SE), (SE.app 91 (.g R (.i p (.g b .nil)))).eval σ = (gi (R.eval σ) (p.eval σ) (b.eval σ)).f) ∧
  (∀ (σ : Nat → List Int) (R b : GE) (p : SE), (SE.app 92 (.g R (.i p (.g b .nil)))).eval σ = (gi (R.eval σ) (p.eval σ) (b.eval σ)).a) ∧
  (∀ (σ : Nat → List Int) (R b : GE) (p : SE), (SE.app 93 (.g R (.i p (.g b .nil)))).eval σ = (gi (R.eval σ) (p.eval σ) (b.eval σ)).p) ∧
  (∀ (σ : Nat → List Int) (R : GE) (p : SE), (SE.app 94 (.g R (.i p .nil))).eval σ = bgu (R.eval σ) (p.eval σ)) ∧
  (∀ (σ : Nat → List Int) (R : GE) (p b : SE), (SE.app 95 (.g R (.i p (.i b .nil)))).eval σ = (aez (R.eval σ) (p.eval σ) (b.eval σ)).p) ∧
  (∀ (σ : Nat → List Int) (R : GE) (p b : SE), (SE.app 96 (.g R (.i p (.i b .nil)))).eval σ = (aez (R.eval σ) (p.eval σ) (b.eval σ)).b) ∧
  (∀ (σ : Nat → List Int) (R : GE) (p : SE), (SE.app 97 (.g R (.i p .nil))).eval σ = (aao (R.eval σ) (p.eval σ)).f) ∧
  (∀ (σ : Nat → List Int) (R : GE) (p : SE), (SE.app 98 (.g R (.i p .nil))).eval σ = (aao (R.eval σ) (p.eval σ)).a) ∧
  (∀ (σ : Nat → List Int) (R : GE) (p : SE), (SE.app 100 (.g R (.i p .nil))).eval σ = (aao (R.eval σ) (p.eval σ)).c) ∧
  (∀ (σ : Nat → List Int) (R : GE) (p : SE), (SE.app 101 (.g R (.i p .nil))).eval σ = (aao (R.eval σ) (p.eval σ)).p) ∧
  (∀ (σ : Nat → List Int) (R : GE) (p : SE), (SE.app 102 (.g R (.i p .nil))).eval σ = (ab1 (R.eval σ) (p.eval σ)).f) ∧
  (∀ (σ : Nat → List Int) (R : GE) (p : SE), (SE.app 103 (.g R (.i p .nil))).eval σ = (ab1 (R.eval σ) (p.eval σ)).a) ∧
  (∀ (σ : Nat → List Int) (R : GE) (p : SE), (SE.app 104 (.g R (.i p .nil))).eval σ = (ab1 (R.eval σ) (p.eval σ)).c) ∧
  (∀ (σ : Nat → List Int) (R : GE) (p : SE), (SE.app 105 (.g R (.i p .nil))).eval σ = (ab1 (R.eval σ) (p.eval σ)).p) ∧
  (∀ (σ : Nat → List Int) (R l h G : GE) (p : SE), (SE.app 106 (.g R (.i p (.g l (.g h (.g G .nil)))))).eval σ = (va (R.eval σ) (p.eval σ) (l.eval σ) (h.eval σ) (G.eval σ)).f) ∧
  (∀ (σ : Nat → List Int) (R l h G : GE) (p : SE), (SE.app 107 (.g R (.i p (.g l (.g h (.g G .nil)))))).eval σ = (va (R.eval σ) (p.eval σ) (l.eval σ) (h.eval σ) (G.eval σ)).a) ∧
  (∀ (σ : Nat → List Int) (R : GE) (p : SE), (SE.app 108 (.g R (.i p .nil))).eval σ = a5x (R.eval σ) (p.eval σ)) ∧
  (∀ (σ : Nat → List Int) (s : GE) (p : SE), (GE.app 6 (.g s (.i p .nil))).eval σ = av (s.eval σ) (p.eval σ).toNat) ∧
  (∀ (σ : Nat → List Int) (c : SE), (GE.app 40 (.i c .nil)).eval σ = ee (c.eval σ)) ∧
  (∀ (σ : Nat → List Int) (R b : GE) (p q : SE), (GE.app 44 (.g R (.i p (.g b (.i q .nil))))).eval σ = (aik (R.eval σ) (p.eval σ) (b.eval σ) (q.eval σ)).b) ∧
  (∀ (σ : Nat → List Int) (s : GE), (GE.app 47 (.g s .nil)).eval σ = auu (s.eval σ)) ∧
  (∀ (σ : Nat → List Int) (G s : GE), (GE.app 54 (.g G (.g s .nil))).eval σ = (n5 (G.eval σ) (s.eval σ)).G) ∧
  (∀ (σ : Nat → List Int) (h : GE) (z : SE), (GE.app 57 (.g h (.i z .nil))).eval σ = (ug (h.eval σ) (z.eval σ)).h) ∧
  (∀ (σ : Nat → List Int) (h : GE) (z : SE), (GE.app 58 (.g h (.i z .nil))).eval σ = (bcu (h.eval σ) (z.eval σ)).h) ∧
  (∀ (σ : Nat → List Int) (h s : GE), (GE.app 59 (.g h (.g s .nil))).eval σ = (nc (h.eval σ) (s.eval σ)).h) ∧
  (∀ (σ : Nat → List Int) (R h G : GE) (p o : SE), (GE.app 60 (.g R (.i p (.i o (.g h (.g G .nil)))))).eval σ = (cr (R.eval σ) (p.eval σ) (o.eval σ) (h.eval σ) (G.eval σ)).h) ∧
  (∀ (σ : Nat → List Int) (R h G : GE) (p o : SE), (GE.app 61 (.g R (.i p (.i o (.g h (.g G .nil)))))).eval σ = (cr (R.eval σ) (p.eval σ) (o.eval σ) (h.eval σ) (G.eval σ)).G) ∧
  (∀ (σ : Nat → List Int) (R h G : GE) (p o a c k n : SE), (GE.app 65 (.g R (.i p (.i o (.i a (.i c (.i k (.i n (.g h (.g G .nil)))))))))).eval σ = (oh (R.eval σ) (p.eval σ) (o.eval σ) (a.eval σ) (c.eval σ) (k.eval σ) (n.eval σ) (h.eval σ) (G.eval σ)).h) ∧
  (∀ (σ : Nat → List Int) (R h G : GE) (p o a c k n : SE), (GE.app 66 (.g R (.i p (.i o (.i a (.i c (.i k (.i n (.g h (.g G .nil)))))))))).eval σ = (oh (R.eval σ) (p.eval σ) (o.eval σ) (a.eval σ) (c.eval σ) (k.eval σ) (n.eval σ) (h.eval σ) (G.eval σ)).G) ∧
  (∀ (σ : Nat → List Int) (R h G : GE) (p o a c : SE), (GE.app 70 (.g R (.i p (.i o (.i a (.i c (.g h (.g G .nil)))))))).eval σ = (ada (R.eval σ) (p.eval σ) (o.eval σ) (a.eval σ) (c.eval σ) (h.eval σ) (G.eval σ)).h) ∧
  (∀ (σ : Nat → List Int) (R h G : GE) (p o a c : SE), (GE.app 71 (.g R (.i p (.i o (.i a (.i c (.g h (.g G .nil)))))))).eval σ = (ada (R.eval σ) (p.eval σ) (o.eval σ) (a.eval σ) (c.eval σ) (h.eval σ) (G.eval σ)).G) ∧
  (∀ (σ : Nat → List Int) (h : GE) (i k n : SE), (GE.app 74 (.i i (.g h (.i k (.i n .nil))))).eval σ = (sw (i.eval σ) (h.eval σ) (k.eval σ) (n.eval σ)).h) ∧
  (∀ (σ : Nat → List Int) (R b : GE) (p : SE), (GE.app 91 (.g R (.i p (.g b .nil)))).eval σ = (gi (R.eval σ) (p.eval σ) (b.eval σ)).b) ∧
  (∀ (σ : Nat → List Int) (R l h G : GE) (p : SE), (GE.app 106 (.g R (.i p (.g l (.g h (.g G .nil)))))).eval σ = (va (R.eval σ) (p.eval σ) (l.eval σ) (h.eval σ) (G.eval σ)).l) ∧
  (∀ (σ : Nat → List Int) (R l h G : GE) (p : SE), (GE.app 107 (.g R (.i p (.g l (.g h (.g G .nil)))))).eval σ = (va (R.eval σ) (p.eval σ) (l.eval σ) (h.eval σ) (G.eval σ)).h) ∧
  (∀ (σ : Nat → List Int) (R l h G : GE) (p : SE), (GE.app 108 (.g R (.i p (.g l (.g h (.g G .nil)))))).eval σ = (va (R.eval σ) (p.eval σ) (l.eval σ) (h.eval σ) (G.eval σ)).G) :=
 ⟨by intros; rfl, by intros; rfl, by intros; rfl, by intros; rfl, by intros; rfl, by intros; rfl, by intros; rfl, by intros; simp only [SE.eval, bnu, auz], by intros; simp only [SE.eval, bpi, auz], by intros; rfl, by intros; rfl, by intros; rfl, by intros; rfl, by intros; rfl, by intros; rfl, by intros; rfl, by intros; rfl, by intros; rfl, by intros; rfl, by intros; rfl, by intros; rfl, by intros; rfl, by intros; rfl, by intros; rfl, by intros; rfl, by intros; rfl, by intros; rfl, by intros; rfl, by intros; rfl, by intros; rfl, by intros; rfl, by intros; rfl, by intros; rfl, by intros; rfl, by intros; rfl, by intros; rfl, by intros; rfl, by intros; rfl, by intros; rfl, by intros; rfl, by intros; rfl, by intros; rfl, by intros; rfl, by intros; rfl, by intros; rfl, by intros; rfl, by intros; rfl, by intros; rfl, by intros; rfl, by intros; rfl, by intros; rfl, by intros; rfl, by intros; rfl, by intros; rfl, by intros; rfl, by intros; rfl, by intros; rfl, by intros; rfl, by intros; rfl, by intros; rfl, by intros; rfl, by intros; rfl, by intros; rfl, by intros; rfl, by intros; rfl, by intros; rfl, by intros; rfl, by intros; rfl, by intros; rfl, by intros; rfl, by intros; rfl, by intros; rfl, by intros; rfl, by intros; rfl, by intros; rfl, by intros; rfl, by intros; rfl, by intros; rfl, by intros; rfl, by intros; rfl, by intros; rfl, by intros; rfl, by intros; rfl, by intros; rfl, by intros; rfl, by intros; rfl, by intros; rfl, by intros; rfl, by intros; rfl, by intros; rfl, by intros; rfl, by intros; rfl, by intros; rfl, by intros; rfl, by intros; rfl, by intros; rfl, by intros; rfl, by intros; rfl, by intros; rfl, by intros; rfl, by intros; rfl, by intros; rfl, by intros; rfl, by intros; rfl, by intros; rfl, by intros; rfl, by intros; rfl, by intros; rfl, by intros; rfl, by intros; rfl, by intros; rfl⟩
theorem wr : (∀ x : Int, -9223372036854775808 ≤ x ∧ x ≤ 9223372036854775807 → IntKind.i64.wrap x = x) ∧ (∀ x : Int, -2147483648 ≤ x ∧ x ≤ 2147483647 → IntKind.i32.wrap x = x) ∧
  (∀ x : Int, 0 ≤ x ∧ x ≤ 4294967295 → IntKind.u32.wrap x = x) ∧ (∀ x : Int, 0 ≤ x ∧ x ≤ 255 → IntKind.u8.wrap x = x) ∧ (∀ x : Int, IntKind.u64.wrap x = x % 18446744073709551616) ∧ (∀ x : Int, 0 ≤ x ∧ x ≤ 18446744073709551615 → x % 18446744073709551616 = x) ∧
  (∀ x : Int, x + 0 = x) ∧ (∀ x : Int, 0 + x = x) ∧ (∀ x : Int, -1 * x = -x) ∧ (∀ x y : Int, x + -y = x - y) ∧ (∀ x : Int, ([x] : List Int).headD 0 = x) ∧ (∀ (α : Type) (a b : α), (if True then a else b) = a) ∧ (∀ (α : Type) (a b : α), (if False then a else b) = b) ∧ (¬True ↔ False) ∧ (¬False ↔ True) ∧ (∀ p : Prop, (False ∧ p ↔ False)) ∧ (∀ p : Prop, (True ∧ p ↔ p)) ∧ (∀ p : Prop, (p ∧ False ↔ False)) ∧ (∀ p : Prop, (p ∧ True ↔ p)) ∧ (∀ p : Prop, (p ∨ True ↔ True)) ∧ (∀ p : Prop, (p ∨ False ↔ p)) ∧ (∀ p : Prop, (True ∨ p ↔ True)) ∧ (∀ p : Prop, (False ∨ p ↔ p)) ∧ (∀ p : Prop, ((True → p) ↔ p)) ∧ (∀ p : Prop, ((False → p) ↔ True)) ∧ (∀ x : Int, x + 1 + 1 = x + 2) ∧ (∀ x : Int, x + 1 + 2 = x + 3) ∧ (∀ x : Int, x + 2 + 1 = x + 3) ∧ (∀ l m : List Int, (((l ++ m).length : Nat) : Int) = (l.length : Int) + (m.length : Int)) ∧ (∀ (p : Prop) [Decidable p], ((if p then (1 : Int) else 0) = 1 ↔ p)) ∧ ((0 : Int).toNat = 0) ∧ ((1 : Int).toNat = 1) ∧ ((2 : Int).toNat = 2) :=
 ⟨fun _ h => a78 h, fun _ h => bne h, fun _ h => bie h, fun _ h => bpa h, fun x => by simp only [IntKind.wrap, IntKind.bits, IntKind.signed]; simp, fun x h => Int.emod_eq_of_lt h.1 (by omega), Int.add_zero, Int.zero_add, fun x => (Int.neg_eq_neg_one_mul x).symm, fun _ _ => Int.sub_eq_add_neg.symm, fun _ => rfl, fun _ _ _ => if_pos trivial, fun _ _ _ => if_neg id, by simp, by simp, by simp, by simp, by simp, by simp, by simp, by simp, by simp, by simp, by simp, by simp, by omega, by omega, by omega, by simp, fun p _ => by by_cases h : p <;> simp [h], rfl, rfl, rfl⟩
end Go.Ev
set_option maxRecDepth 100000
set_option linter.all false
namespace Go.Ev
section
variable {σ : Nat → List Int}
open Classical in
theorem s42 {g : GE} : (SA.mk false (.app 42 (.g g .nil)) (.c 1) true).holds σ ↔ rt (g.eval σ) := by
 show decide (bom 42 [g.eval σ] = 1) = true ↔ _
 rw [decide_eq_true_iff]
 exact btu
theorem gl [Gv] (a b : SE) : (SA.mk true a b true).holds Gv.σ ∧ a.eval Gv.σ < b.eval Gv.σ ∨ (SA.mk true a b false).holds Gv.σ ∧ b.eval Gv.σ ≤ a.eval Gv.σ := sl a b
theorem gq [Gv] (a b : SE) : (SA.mk false a b true).holds Gv.σ ∧ a.eval Gv.σ = b.eval Gv.σ ∨ (SA.mk false a b false).holds Gv.σ ∧ ¬ a.eval Gv.σ = b.eval Gv.σ := se a b
theorem bT [Gv] (a b : SE) (h : a.eval Gv.σ < b.eval Gv.σ) : (SA.mk true a b true).holds Gv.σ := anu h
theorem bF [Gv] (a b : SE) (h : b.eval Gv.σ ≤ a.eval Gv.σ) : (SA.mk true a b false).holds Gv.σ := aey (by omega)
theorem bE [Gv] (a b : SE) (h : a.eval Gv.σ = b.eval Gv.σ) : (SA.mk false a b true).holds Gv.σ := a7u h
theorem bN [Gv] (a b : SE) (h : ¬ a.eval Gv.σ = b.eval Gv.σ) : (SA.mk false a b false).holds Gv.σ := bbe h
theorem ak {A B : List SA} (h : SAll σ (A ++ B)) : SAll σ A ∧ SAll σ B := ⟨fun x hx => h x (List.mem_append_left _ hx), fun x hx => h x (List.mem_append_right _ hx)⟩
theorem bsx {R : List Int} (hR : rt R) (i : Nat) : 0 ≤ R.getD i 0 ∧ R.getD i 0 < 1114112 := by
 by_cases h : i < R.length
 ·have := hR.2 (R[i]) (List.getElem_mem h)
  rw [show R.getD i 0 = R[i] by simp [List.getD, h]]; exact this
 ·rw [show R.getD i 0 = 0 by simp [List.getD, Nat.le_of_not_lt h]]; omega
theorem aq8 (hR : rt (σ 0)) (e : SE) : 0 ≤ (SE.rd (.s 0) e).eval σ ∧ (SE.rd (.s 0) e).eval σ < 1114112 := bsx hR _
theorem f40 (a : SE) : 1 ≤ (SE.len (.app 40 (.i a .nil))).eval σ ∧ (SE.len (.app 40 (.i a .nil))).eval σ ≤ 4 := by
 show 1 ≤ ((ee (a.eval σ)).length : Int) ∧ ((ee (a.eval σ)).length : Int) ≤ 4
 unfold ee
 repeat' split
 all_goals (simp only [zO, zS]; omega)
theorem bdh : (GE.lit 3 15712189).eval σ = [239, 191, 189] := by
 simp only [GE.eval]
 decide +kernel
theorem er (R : List Int) (p b : Int) : al R p b = if p < (R.length : Int) then
  if b = 1 then al R (p + 1) (if R.getD p.toNat 0 = 10 then 0 else 1)
  else if R.getD p.toNat 0 = 59 then al R (p + 1) 1
  else if a56 (R.getD p.toNat 0) = 1 then al R (p + 1) 0
  else p
 else p := by
 conv => lhs; rw [al]
 split <;> rfl
theorem xc (R : List Int) : ∀ (n : Nat) (p b : Int), ((R.length : Int) - p).toNat ≤ n → p ≤ (R.length : Int) → al R p b ≤ (R.length : Int)
 | 0, p, b, h, hp => by rw [er, if_neg (by omega)]; omega
 | n + 1, p, b, h, hp => by
   rw [er]
   split
   ·split
    ·exact xc R n (p + 1) _ (by omega) (by omega)
    ·split
     ·exact xc R n (p + 1) 1 (by omega) (by omega)
     ·split
      ·exact xc R n (p + 1) 0 (by omega) (by omega)
      ·omega
   ·omega
theorem f43 (a b : SE) : a.eval σ ≤ (SE.app 43 (.g (.s 0) (.i a (.i b .nil)))).eval σ ∧ (a.eval σ ≤ ((σ 0).length : Int) → (SE.app 43 (.g (.s 0) (.i a (.i b .nil)))).eval σ ≤ ((σ 0).length : Int)) :=
 ⟨aco _ _ _, fun h => xc _ _ _ _ (zY _) h⟩
end
end Go.Ev
set_option maxRecDepth 100000
set_option linter.all false
namespace Go.Ev
/- Lemmas that carry their tactic as a default: what is decided is kept in one list. -/
noncomputable section
def znl : LT → LT
 | .mk f k us nxi Li A _ r nxo Lo => .mk f k us nxi Li A none r nxo Lo
end
section
variable [Gv]
theorem zh {A : List SA} (hI : SAll Gv.σ A) {l : List TM} (h : ∀ t ∈ l, bn t) : ow (ac7 A l) := aiv hI _ h
theorem zp {A : List SA} (hI : SAll Gv.σ A) {l : List LT} (h : ∀ t ∈ l, bh t) : afp (brt A l) := bhe hI _ h
theorem zm0 {P : Prop} {f : FuncId} {us : List AV} {nxi : Nat} {Li : List HO} {A : List SA} {r : TR} {nxo : Nat} {Lo : List HO} (T : List (Nat × Nat)) {H : afn} (hH : ow H) {L : vj} (hL : afp L) (hA : SAll Gv.σ A) (hx : Nat.blt nxi 65536 = true := by rfl) (ht : zi Li = true := by rfl) (h : acm T nxi nxo .nil Lo r (enter (alr H L 2000) f (aVs A us) (bq (aHO A Li) nxi)) = true := by kernel_rfl) : P → cz f us nxi Li r nxo Lo := fun _ => bf (E := .nil) hH hL hA trivial hx ht h
theorem zm {P : Prop} {f : FuncId} {us : List AV} {nxi : Nat} {Li : List HO} {A : List SA} {r : TR} {nxo : Nat} {Lo : List HO} (T : List (Nat × Nat)) (E : EqL) {H : afn} (hH : ow H) {L : vj} (hL : afp L) (hA : SAll Gv.σ A) (hE : E.all Gv.σ) (hx : Nat.blt nxi 65536 = true := by rfl) (ht : zi Li = true := by rfl) (h : acm T nxi nxo E Lo r (enter (alr H L 2000) f (aVs A us) (bq (aHO A Li) nxi)) = true := by kernel_rfl) : P → cz f us nxi Li r nxo Lo := fun _ => bf (E := E) hH hL hA hE hx ht h
theorem zt0 {P : Prop} {f k : Nat} {us : List AV} {nxi : Nat} {Li : List HO} {A : List SA} {r : LR} {nxo : Nat} {Lo : List HO} (T : List (Nat × Nat)) {H : afn} (hH : ow H) {L : vj} (hL : afp L) (hA : SAll Gv.σ A) (hx : Nat.blt nxi 65536 = true := by rfl) (ht : zi Li = true := by rfl) (h : y8 T nxi nxo .nil Lo (b7 us) r (w5 (akl f k) (alr H L 2000) (.mk f (b7 us) false none) (.mk (qy (aVs A us) 0 o6) [] .none (bq (aHO A Li) nxi))) = true := by kernel_rfl) : P → di f k us nxi Li r nxo Lo := fun _ => yj (E := .nil) hH hL hA trivial hx ht h
theorem zt {P : Prop} {f k : Nat} {us : List AV} {nxi : Nat} {Li : List HO} {A : List SA} {r : LR} {nxo : Nat} {Lo : List HO} (T : List (Nat × Nat)) (E : EqL) {H : afn} (hH : ow H) {L : vj} (hL : afp L) (hA : SAll Gv.σ A) (hE : E.all Gv.σ) (hx : Nat.blt nxi 65536 = true := by rfl) (ht : zi Li = true := by rfl) (h : y8 T nxi nxo E Lo (b7 us) r (w5 (akl f k) (alr H L 2000) (.mk f (b7 us) false none) (.mk (qy (aVs A us) 0 o6) [] .none (bq (aHO A Li) nxi))) = true := by kernel_rfl) : P → di f k us nxi Li r nxo Lo := fun _ => yj (E := E) hH hL hA hE hx ht h
theorem zl1 {L : List SA} (hI : SAll Gv.σ L) (a b : SE) {x y : Int} (ha : a.eval Gv.σ = x := by (try simp (disch := omega) only [evs, wr]); rfl) (hb : b.eval Gv.σ = y := by (try simp (disch := omega) only [evs, wr]); rfl) : SAll Gv.σ (.mk true a b true :: L) ∧ x < y ∨ SAll Gv.σ (.mk true a b false :: L) ∧ y ≤ x := by subst ha hb; exact (gl a b).imp (fun h => ⟨sc h.1 hI, h.2⟩) (fun h => ⟨sc h.1 hI, h.2⟩)
theorem zf1 {p q : Prop} (h : p) (e : p = q := by (try simp (disch := omega) only [evs, wr]); rfl) : q := e ▸ h
theorem zT1 {L : List SA} (hI : SAll Gv.σ L) (a b : SE) (h : a.eval Gv.σ < b.eval Gv.σ := by simp (disch := omega) only [evs, wr] <;> omega) : SAll Gv.σ (.mk true a b true :: L) := sc (bT a b h) hI
theorem zF1 {L : List SA} (hI : SAll Gv.σ L) (a b : SE) (h : b.eval Gv.σ ≤ a.eval Gv.σ := by simp (disch := omega) only [evs, wr] <;> omega) : SAll Gv.σ (.mk true a b false :: L) := sc (bF a b h) hI
theorem zq1 {L : List SA} (hI : SAll Gv.σ L) (a b : SE) {x y : Int} (ha : a.eval Gv.σ = x := by (try simp (disch := omega) only [evs, wr]); rfl) (hb : b.eval Gv.σ = y := by (try simp (disch := omega) only [evs, wr]); rfl) : SAll Gv.σ (.mk false a b true :: L) ∧ x = y ∨ SAll Gv.σ (.mk false a b false :: L) ∧ ¬ x = y := by subst ha hb; exact (gq a b).imp (fun h => ⟨sc h.1 hI, h.2⟩) (fun h => ⟨sc h.1 hI, h.2⟩)
theorem zE1 {L : List SA} (hI : SAll Gv.σ L) (a b : SE) (h : a.eval Gv.σ = b.eval Gv.σ := by simp (disch := omega) only [evs, wr] <;> omega) : SAll Gv.σ (.mk false a b true :: L) := sc (bE a b h) hI
theorem zf2 {p q : Prop} (h : p) (e : p = q := by (try simp (disch := omega) only [if_pos, if_neg, a56, wr]); rfl) : q := e ▸ h
theorem zn1 {A : List SA} {P : Prop} (h : SAll Gv.σ A → False := by intro h; simp (disch := omega) only [sall_cons, sT, sF, sE, sN, evs, wr, u] at h <;> omega) : SAll Gv.σ A → P := fun x => (h x).elim
theorem ze1 {E : EqL} (h : E.all Gv.σ := by simp (disch := omega) only [EqL.all, and_true, evs, wr, u] <;> omega) : E.all Gv.σ := h
theorem zf3 {p q : Prop} (h : p) (e : p = q := by (try simp (disch := omega) only [if_pos, if_neg, sh8, lo8]); rfl) : q := e ▸ h
theorem ze2 {E : EqL} (h : E.all Gv.σ := by simp (disch := omega) only [EqL.all, and_true, evs, wr, u, sh8, lo8, bdh, zJ, zD, zO, zS] <;> omega) : E.all Gv.σ := h
theorem zf4 {p q : Prop} (h : p) (e : p = q := by (try simp (disch := omega) only [if_pos, if_neg, wr]); rfl) : q := e ▸ h
theorem zf7 {p q : Prop} (h : p) (e : p = q := by (try simp (disch := omega) only [if_pos, if_neg]); rfl) : q := e ▸ h
theorem gr {p q : Prop} (h : p) (e : p = q := by (try simp (disch := omega) only [if_pos, if_neg, zD, wr]); rfl) : q := e ▸ h
theorem a6s {A : List SA} {P : Prop} (h : SAll Gv.σ A → False := by intro h; simp (disch := omega) only [sall_cons, sT, sF, sE, sN, evs, wr, zJ, zD, zO, u] at h <;> omega) : SAll Gv.σ A → P := fun x => (h x).elim
theorem b56 {E : EqL} (h : E.all Gv.σ := by simp (disch := omega) only [EqL.all, and_true, evs, wr, zJ, zD, zO, u] <;> omega) : E.all Gv.σ := h
theorem m9 {L : List SA} (hI : SAll Gv.σ L) (a b : SE) {x y : Int} (ha : a.eval Gv.σ = x := by (try simp (disch := omega) only [evs, evx, wr, tn]); rfl) (hb : b.eval Gv.σ = y := by (try simp (disch := omega) only [evs, evx, wr, tn]); rfl) : SAll Gv.σ (.mk true a b true :: L) ∧ x < y ∨ SAll Gv.σ (.mk true a b false :: L) ∧ y ≤ x := by subst ha hb; exact (gl a b).imp (fun h => ⟨sc h.1 hI, h.2⟩) (fun h => ⟨sc h.1 hI, h.2⟩)
theorem ayb {L : List SA} (hI : SAll Gv.σ L) (a b : SE) (h : a.eval Gv.σ < b.eval Gv.σ := by simp (disch := omega) only [evs, evx, wr, tn] <;> omega) : SAll Gv.σ (.mk true a b true :: L) := sc (bT a b h) hI
theorem bfr {L : List SA} (hI : SAll Gv.σ L) (a b : SE) (h : b.eval Gv.σ ≤ a.eval Gv.σ := by simp (disch := omega) only [evs, evx, wr, tn] <;> omega) : SAll Gv.σ (.mk true a b false :: L) := sc (bF a b h) hI
theorem bnn {L : List SA} (hI : SAll Gv.σ L) (a b : SE) {x y : Int} (ha : a.eval Gv.σ = x := by (try simp (disch := omega) only [evs, evx, wr, zJ, zD, zP, zO, zS, List.append_assoc, j1, List.length_drop]); rfl) (hb : b.eval Gv.σ = y := by (try simp (disch := omega) only [evs, evx, wr, zJ, zD, zP, zO, zS, List.append_assoc, j1, List.length_drop]); rfl) : SAll Gv.σ (.mk true a b true :: L) ∧ x < y ∨ SAll Gv.σ (.mk true a b false :: L) ∧ y ≤ x := by subst ha hb; exact (gl a b).imp (fun h => ⟨sc h.1 hI, h.2⟩) (fun h => ⟨sc h.1 hI, h.2⟩)
theorem bt6 {p q : Prop} (h : p) (e : p = q := by (try simp (disch := omega) only [evs, evx, wr, zJ, zD, zP, zO, zS, List.append_assoc, j1, List.length_drop]); rfl) : q := e ▸ h
theorem bwz {L : List SA} (hI : SAll Gv.σ L) (a b : SE) (h : a.eval Gv.σ < b.eval Gv.σ := by simp (disch := omega) only [evs, evx, wr, zJ, zD, zP, zO, zS, List.append_assoc, j1, List.length_drop] <;> omega) : SAll Gv.σ (.mk true a b true :: L) := sc (bT a b h) hI
theorem abm {L : List SA} (hI : SAll Gv.σ L) (a b : SE) (h : b.eval Gv.σ ≤ a.eval Gv.σ := by simp (disch := omega) only [evs, evx, wr, zJ, zD, zP, zO, zS, List.append_assoc, j1, List.length_drop] <;> omega) : SAll Gv.σ (.mk true a b false :: L) := sc (bF a b h) hI
theorem bbj {L : List SA} (hI : SAll Gv.σ L) (a b : SE) {x y : Int} (ha : a.eval Gv.σ = x := by (try simp (disch := omega) only [evs, evx, wr, zJ, zD, zP, zO, zS, List.append_assoc, j1, List.length_drop]); rfl) (hb : b.eval Gv.σ = y := by (try simp (disch := omega) only [evs, evx, wr, zJ, zD, zP, zO, zS, List.append_assoc, j1, List.length_drop]); rfl) : SAll Gv.σ (.mk false a b true :: L) ∧ x = y ∨ SAll Gv.σ (.mk false a b false :: L) ∧ ¬ x = y := by subst ha hb; exact (gq a b).imp (fun h => ⟨sc h.1 hI, h.2⟩) (fun h => ⟨sc h.1 hI, h.2⟩)
theorem b4l {L : List SA} (hI : SAll Gv.σ L) (a b : SE) (h : a.eval Gv.σ = b.eval Gv.σ := by simp (disch := omega) only [evs, evx, wr, zJ, zD, zP, zO, zS, List.append_assoc, j1, List.length_drop] <;> omega) : SAll Gv.σ (.mk false a b true :: L) := sc (bE a b h) hI
theorem afq {A : List SA} {P : Prop} (h : SAll Gv.σ A → False := by intro h; simp (disch := omega) only [sall_cons, sT, sF, sE, sN, evs, evx, wr, zJ, zD, zP, zO, zS, List.append_assoc, j1, List.length_drop, en, List.append_nil, u] at h <;> omega) : SAll Gv.σ A → P := fun x => (h x).elim
theorem a52 {A : List SA} {P : Prop} (h : SAll Gv.σ A → False := by intro h; simp (disch := omega) only [sall_cons, sT, sF, sE, sN, evs, evx, wr, zJ, zD, zP, zO, zS, List.append_assoc, j1, List.length_drop, u] at h <;> omega) : SAll Gv.σ A → P := fun x => (h x).elim
theorem bqa {E : EqL} (h : E.all Gv.σ := by simp (disch := omega) only [EqL.all, and_true, evs, evx, wr, zJ, zD, zP, zO, zS, List.append_assoc, j1, List.length_drop, en, List.append_nil, u] <;> omega) : E.all Gv.σ := h
theorem vr {L : List SA} (hI : SAll Gv.σ L) (a b : SE) {x y : Int} (ha : a.eval Gv.σ = x := by (try simp (disch := omega) only [evs, evx, wr, evS, zP, zO, zS]); rfl) (hb : b.eval Gv.σ = y := by (try simp (disch := omega) only [evs, evx, wr, evS, zP, zO, zS]); rfl) : SAll Gv.σ (.mk true a b true :: L) ∧ x < y ∨ SAll Gv.σ (.mk true a b false :: L) ∧ y ≤ x := by subst ha hb; exact (gl a b).imp (fun h => ⟨sc h.1 hI, h.2⟩) (fun h => ⟨sc h.1 hI, h.2⟩)
theorem bnl {p q : Prop} (h : p) (e : p = q := by (try simp (disch := omega) only [evs, evx, wr, evS, zP, zO, zS]); rfl) : q := e ▸ h
theorem zr {L : List SA} (hI : SAll Gv.σ L) (a b : SE) (h : a.eval Gv.σ < b.eval Gv.σ := by simp (disch := omega) only [evs, evx, wr, evS, zP, zO, zS] <;> omega) : SAll Gv.σ (.mk true a b true :: L) := sc (bT a b h) hI
theorem gd {L : List SA} (hI : SAll Gv.σ L) (a b : SE) (h : b.eval Gv.σ ≤ a.eval Gv.σ := by simp (disch := omega) only [evs, evx, wr, evS, zP, zO, zS] <;> omega) : SAll Gv.σ (.mk true a b false :: L) := sc (bF a b h) hI
theorem ajm {L : List SA} (hI : SAll Gv.σ L) (a b : SE) {x y : Int} (ha : a.eval Gv.σ = x := by (try simp (disch := omega) only [evs, evx, wr, evS, zP, zO, zS]); rfl) (hb : b.eval Gv.σ = y := by (try simp (disch := omega) only [evs, evx, wr, evS, zP, zO, zS]); rfl) : SAll Gv.σ (.mk false a b true :: L) ∧ x = y ∨ SAll Gv.σ (.mk false a b false :: L) ∧ ¬ x = y := by subst ha hb; exact (gq a b).imp (fun h => ⟨sc h.1 hI, h.2⟩) (fun h => ⟨sc h.1 hI, h.2⟩)
theorem ni {A : List SA} {P : Prop} (h : SAll Gv.σ A → False := by intro h; simp (disch := omega) only [sall_cons, sT, sF, sE, sN, evs, evx, wr, evS, zP, zO, zS, aex, Lib.encodeRuneZ_one, Lib.encodeRuneZ_two, Lib.encodeRuneZ_three, Lib.encodeRuneZ_four, List.append_assoc, zJ, zD, List.append_nil, List.cons.injEq, List.append_cancel_left_eq, and_true, un, u] at h <;> omega) : SAll Gv.σ A → P := fun x => (h x).elim
theorem a5q {A : List SA} {P : Prop} (h : SAll Gv.σ A → False := by intro h; simp (disch := omega) only [sall_cons, sT, sF, sE, sN, evs, evx, wr, evS, zP, zO, zS, zD, u] at h <;> omega) : SAll Gv.σ A → P := fun x => (h x).elim
theorem bwp {E : EqL} (h : E.all Gv.σ := by simp (disch := omega) only [EqL.all, and_true, evs, evx, wr, evS, zP, zO, zS, bgs, bfo, u] <;> omega) : E.all Gv.σ := h
theorem aiu {E : EqL} (h : E.all Gv.σ := by simp (disch := omega) only [EqL.all, and_true, evs, evx, wr, evS, zP, zO, zS, aex, Lib.encodeRuneZ_one, Lib.encodeRuneZ_two, Lib.encodeRuneZ_three, Lib.encodeRuneZ_four, List.append_assoc, zJ, zD, List.append_nil, List.cons.injEq, List.append_cancel_left_eq, and_true, un, u] <;> omega) : E.all Gv.σ := h
theorem a7l {L : List SA} (hI : SAll Gv.σ L) (a b : SE) {x y : Int} (ha : a.eval Gv.σ = x := by (try simp (disch := omega) only [evs, evx, wr, evS, evT, zP, zO, zS]); rfl) (hb : b.eval Gv.σ = y := by (try simp (disch := omega) only [evs, evx, wr, evS, evT, zP, zO, zS]); rfl) : SAll Gv.σ (.mk true a b true :: L) ∧ x < y ∨ SAll Gv.σ (.mk true a b false :: L) ∧ y ≤ x := by subst ha hb; exact (gl a b).imp (fun h => ⟨sc h.1 hI, h.2⟩) (fun h => ⟨sc h.1 hI, h.2⟩)
theorem awn {p q : Prop} (h : p) (e : p = q := by (try simp (disch := omega) only [evs, evx, wr, evS, evT, zP, zO, zS]); rfl) : q := e ▸ h
theorem pc {L : List SA} (hI : SAll Gv.σ L) (a b : SE) (h : a.eval Gv.σ < b.eval Gv.σ := by simp (disch := omega) only [evs, evx, wr, evS, evT, zP, zO, zS] <;> omega) : SAll Gv.σ (.mk true a b true :: L) := sc (bT a b h) hI
theorem cg {L : List SA} (hI : SAll Gv.σ L) (a b : SE) (h : b.eval Gv.σ ≤ a.eval Gv.σ := by simp (disch := omega) only [evs, evx, wr, evS, evT, zP, zO, zS] <;> omega) : SAll Gv.σ (.mk true a b false :: L) := sc (bF a b h) hI
theorem ayj {L : List SA} (hI : SAll Gv.σ L) (a b : SE) {x y : Int} (ha : a.eval Gv.σ = x := by (try simp (disch := omega) only [evs, evx, wr, evS, evT, zP, zO, zS]); rfl) (hb : b.eval Gv.σ = y := by (try simp (disch := omega) only [evs, evx, wr, evS, evT, zP, zO, zS]); rfl) : SAll Gv.σ (.mk false a b true :: L) ∧ x = y ∨ SAll Gv.σ (.mk false a b false :: L) ∧ ¬ x = y := by subst ha hb; exact (gq a b).imp (fun h => ⟨sc h.1 hI, h.2⟩) (fun h => ⟨sc h.1 hI, h.2⟩)
theorem afm {L : List SA} (hI : SAll Gv.σ L) (a b : SE) (h : a.eval Gv.σ = b.eval Gv.σ := by simp (disch := omega) only [evs, evx, wr, evS, evT, zP, zO, zS] <;> omega) : SAll Gv.σ (.mk false a b true :: L) := sc (bE a b h) hI
theorem atw {L : List SA} (hI : SAll Gv.σ L) (a b : SE) (h : ¬ a.eval Gv.σ = b.eval Gv.σ := by simp (disch := omega) only [evs, evx, wr, evS, evT, zP, zO, zS] <;> omega) : SAll Gv.σ (.mk false a b false :: L) := sc (bN a b h) hI
theorem ad2 {E : EqL} (h : E.all Gv.σ := by simp (disch := omega) only [EqL.all, and_true, evs, evx, wr, evS, evT, zP, zO, zS, aex, Lib.encodeRuneZ_one, Lib.encodeRuneZ_two, Lib.encodeRuneZ_three, Lib.encodeRuneZ_four, List.append_assoc, zJ, zD, List.append_nil, List.cons.injEq, List.append_cancel_left_eq, and_true, un, b3g, b4a, b3e, b3m, u] <;> omega) : E.all Gv.σ := h
theorem asg {p q : Prop} (h : p) (e : p = q := by (try simp (disch := omega) only [evs, wr, zD, zJ]); rfl) : q := e ▸ h
theorem bpg {L : List SA} (hI : SAll Gv.σ L) (a b : SE) (h : b.eval Gv.σ ≤ a.eval Gv.σ := by simp (disch := omega) only [evs, wr, zD, zJ] <;> omega) : SAll Gv.σ (.mk true a b false :: L) := sc (bF a b h) hI
theorem bvr {L : List SA} (hI : SAll Gv.σ L) (a b : SE) {x y : Int} (ha : a.eval Gv.σ = x := by (try simp (disch := omega) only [evs, wr, zD, zJ]); rfl) (hb : b.eval Gv.σ = y := by (try simp (disch := omega) only [evs, wr, zD, zJ]); rfl) : SAll Gv.σ (.mk false a b true :: L) ∧ x = y ∨ SAll Gv.σ (.mk false a b false :: L) ∧ ¬ x = y := by subst ha hb; exact (gq a b).imp (fun h => ⟨sc h.1 hI, h.2⟩) (fun h => ⟨sc h.1 hI, h.2⟩)
theorem as0 {L : List SA} (hI : SAll Gv.σ L) (a b : SE) {x y : Int} (ha : a.eval Gv.σ = x := by (try simp (disch := omega) only [evs, wr, zD, zJ, zS, evZ.1]); rfl) (hb : b.eval Gv.σ = y := by (try simp (disch := omega) only [evs, wr, zD, zJ, zS, evZ.1]); rfl) : SAll Gv.σ (.mk true a b true :: L) ∧ x < y ∨ SAll Gv.σ (.mk true a b false :: L) ∧ y ≤ x := by subst ha hb; exact (gl a b).imp (fun h => ⟨sc h.1 hI, h.2⟩) (fun h => ⟨sc h.1 hI, h.2⟩)
theorem ay {p q : Prop} (h : p) (e : p = q := by (try simp (disch := omega) only [evs, wr, zD, zJ, zS, evZ.1]); rfl) : q := e ▸ h
theorem ip {L : List SA} (hI : SAll Gv.σ L) (a b : SE) (h : a.eval Gv.σ < b.eval Gv.σ := by simp (disch := omega) only [evs, wr, zD, zJ, zS, evZ.1] <;> omega) : SAll Gv.σ (.mk true a b true :: L) := sc (bT a b h) hI
theorem bj {L : List SA} (hI : SAll Gv.σ L) (a b : SE) (h : b.eval Gv.σ ≤ a.eval Gv.σ := by simp (disch := omega) only [evs, wr, zD, zJ, zS, evZ.1] <;> omega) : SAll Gv.σ (.mk true a b false :: L) := sc (bF a b h) hI
theorem lx {L : List SA} (hI : SAll Gv.σ L) (a b : SE) {x y : Int} (ha : a.eval Gv.σ = x := by (try simp (disch := omega) only [evs, wr, zD, zJ, zS, evZ.1]); rfl) (hb : b.eval Gv.σ = y := by (try simp (disch := omega) only [evs, wr, zD, zJ, zS, evZ.1]); rfl) : SAll Gv.σ (.mk false a b true :: L) ∧ x = y ∨ SAll Gv.σ (.mk false a b false :: L) ∧ ¬ x = y := by subst ha hb; exact (gq a b).imp (fun h => ⟨sc h.1 hI, h.2⟩) (fun h => ⟨sc h.1 hI, h.2⟩)
theorem b3f {L : List SA} (hI : SAll Gv.σ L) (a b : SE) (h : a.eval Gv.σ = b.eval Gv.σ := by simp (disch := omega) only [evs, wr, zD, zJ, zS, evZ.1] <;> omega) : SAll Gv.σ (.mk false a b true :: L) := sc (bE a b h) hI
theorem btg {L : List SA} (hI : SAll Gv.σ L) (a b : SE) (h : ¬ a.eval Gv.σ = b.eval Gv.σ := by simp (disch := omega) only [evs, wr, zD, zJ, zS, evZ.1] <;> omega) : SAll Gv.σ (.mk false a b false :: L) := sc (bN a b h) hI
theorem bu9 {A : List SA} {P : Prop} (h : SAll Gv.σ A → False := by intro h; simp (disch := omega) only [sall_cons, sT, sF, sE, sN, evs, wr, zJ, zD, evH, qi, if_pos, if_neg, u] at h <;> omega) : SAll Gv.σ A → P := fun x => (h x).elim
theorem da {A : List SA} {P : Prop} (h : SAll Gv.σ A → False := by intro h; simp (disch := omega) only [sall_cons, sT, sF, sE, sN, evs, wr, zD, zJ, zS, evZ.1, u] at h <;> omega) : SAll Gv.σ A → P := fun x => (h x).elim
theorem bh7 {E : EqL} (h : E.all Gv.σ := by simp (disch := omega) only [EqL.all, and_true, evs, wr, zJ, zD, evH, qi, if_pos, if_neg, u] <;> omega) : E.all Gv.σ := h
theorem gz {E : EqL} (h : E.all Gv.σ := by simp (disch := omega) only [EqL.all, and_true, evs, wr, zD, zJ, zS, evZ.1, u] <;> omega) : E.all Gv.σ := h
theorem a6d {p q : Prop} (h : p) (e : p = q := by (try simp (disch := omega) only [evs, evx, wr, zJ, zD, zP, zO, zS, hsk]); rfl) : q := e ▸ h
theorem bv8 {L : List SA} (hI : SAll Gv.σ L) (a b : SE) (h : a.eval Gv.σ < b.eval Gv.σ := by simp (disch := omega) only [evs, evx, wr, zJ, zD, zP, zO, zS, hsk] <;> omega) : SAll Gv.σ (.mk true a b true :: L) := sc (bT a b h) hI
theorem ze {L : List SA} (hI : SAll Gv.σ L) (a b : SE) (h : b.eval Gv.σ ≤ a.eval Gv.σ := by simp (disch := omega) only [evs, evx, wr, zJ, zD, zP, zO, zS, hsk] <;> omega) : SAll Gv.σ (.mk true a b false :: L) := sc (bF a b h) hI
theorem a5k {L : List SA} (hI : SAll Gv.σ L) (a b : SE) (h : a.eval Gv.σ = b.eval Gv.σ := by simp (disch := omega) only [evs, evx, wr, zJ, zD, zP, zO, zS, hsk] <;> omega) : SAll Gv.σ (.mk false a b true :: L) := sc (bE a b h) hI
theorem aed {L : List SA} (hI : SAll Gv.σ L) (a b : SE) (h : ¬ a.eval Gv.σ = b.eval Gv.σ := by simp (disch := omega) only [evs, evx, wr, zJ, zD, zP, zO, zS, hsk] <;> omega) : SAll Gv.σ (.mk false a b false :: L) := sc (bN a b h) hI
theorem bsz {E : EqL} (h : E.all Gv.σ := by simp (disch := omega) only [EqL.all, and_true, evs, evx, wr, zJ, zD, zP, zO, zS, hsk, u] <;> omega) : E.all Gv.σ := h
theorem bdb {L : List SA} (hI : SAll Gv.σ L) (a b : SE) {x y : Int} (ha : a.eval Gv.σ = x := by (try simp (disch := omega) only [evs, evx, wr, evS, evT, m0, zJ, zD, List.drop_zero, List.getD_cons_zero, zP, zO, zS, evH, eq_self, if_true, l1, ew, z1, z2, z3, z4, z5, z6, z7]); rfl) (hb : b.eval Gv.σ = y := by (try simp (disch := omega) only [evs, evx, wr, evS, evT, m0, zJ, zD, List.drop_zero, List.getD_cons_zero, zP, zO, zS, evH, eq_self, if_true, l1, ew, z1, z2, z3, z4, z5, z6, z7]); rfl) : SAll Gv.σ (.mk true a b true :: L) ∧ x < y ∨ SAll Gv.σ (.mk true a b false :: L) ∧ y ≤ x := by subst ha hb; exact (gl a b).imp (fun h => ⟨sc h.1 hI, h.2⟩) (fun h => ⟨sc h.1 hI, h.2⟩)
theorem bsj {L : List SA} (hI : SAll Gv.σ L) (a b : SE) (h : a.eval Gv.σ < b.eval Gv.σ := by simp (disch := omega) only [evs, evx, wr, evS, evT, m0, zJ, zD, List.drop_zero, List.getD_cons_zero, zP, zO, zS, evH, eq_self, if_true, l1, ew, z1, z2, z3, z4, z5, z6, z7] <;> omega) : SAll Gv.σ (.mk true a b true :: L) := sc (bT a b h) hI
theorem auh {L : List SA} (hI : SAll Gv.σ L) (a b : SE) (h : b.eval Gv.σ ≤ a.eval Gv.σ := by simp (disch := omega) only [evs, evx, wr, evS, evT, m0, zJ, zD, List.drop_zero, List.getD_cons_zero, zP, zO, zS, evH, eq_self, if_true, l1, ew, z1, z2, z3, z4, z5, z6, z7] <;> omega) : SAll Gv.σ (.mk true a b false :: L) := sc (bF a b h) hI
theorem b4i {L : List SA} (hI : SAll Gv.σ L) (a b : SE) {x y : Int} (ha : a.eval Gv.σ = x := by (try simp (disch := omega) only [evs, evx, wr, evS, evT, m0, zJ, zD, List.drop_zero, List.getD_cons_zero, zP, zO, zS, evH, eq_self, if_true, l1, ew, z1, z2, z3, z4, z5, z6, z7]); rfl) (hb : b.eval Gv.σ = y := by (try simp (disch := omega) only [evs, evx, wr, evS, evT, m0, zJ, zD, List.drop_zero, List.getD_cons_zero, zP, zO, zS, evH, eq_self, if_true, l1, ew, z1, z2, z3, z4, z5, z6, z7]); rfl) : SAll Gv.σ (.mk false a b true :: L) ∧ x = y ∨ SAll Gv.σ (.mk false a b false :: L) ∧ ¬ x = y := by subst ha hb; exact (gq a b).imp (fun h => ⟨sc h.1 hI, h.2⟩) (fun h => ⟨sc h.1 hI, h.2⟩)
theorem aqj {L : List SA} (hI : SAll Gv.σ L) (a b : SE) (h : a.eval Gv.σ = b.eval Gv.σ := by simp (disch := omega) only [evs, evx, wr, evS, evT, m0, zJ, zD, List.drop_zero, List.getD_cons_zero, zP, zO, zS, evH, eq_self, if_true, l1, ew, z1, z2, z3, z4, z5, z6, z7] <;> omega) : SAll Gv.σ (.mk false a b true :: L) := sc (bE a b h) hI
theorem b4t {L : List SA} (hI : SAll Gv.σ L) (a b : SE) (h : ¬ a.eval Gv.σ = b.eval Gv.σ := by simp (disch := omega) only [evs, evx, wr, evS, evT, m0, zJ, zD, List.drop_zero, List.getD_cons_zero, zP, zO, zS, evH, eq_self, if_true, l1, ew, z1, z2, z3, z4, z5, z6, z7] <;> omega) : SAll Gv.σ (.mk false a b false :: L) := sc (bN a b h) hI
theorem a67 {L : List SA} (hI : SAll Gv.σ L) (a b : SE) {x y : Int} (ha : a.eval Gv.σ = x := by (try simp (disch := omega) only [evs, evx, wr, evS, evT, m0, zJ, zD, List.drop_zero, List.getD_cons_zero, zP, zO, zS, evH, eq_self, if_true]); rfl) (hb : b.eval Gv.σ = y := by (try simp (disch := omega) only [evs, evx, wr, evS, evT, m0, zJ, zD, List.drop_zero, List.getD_cons_zero, zP, zO, zS, evH, eq_self, if_true]); rfl) : SAll Gv.σ (.mk true a b true :: L) ∧ x < y ∨ SAll Gv.σ (.mk true a b false :: L) ∧ y ≤ x := by subst ha hb; exact (gl a b).imp (fun h => ⟨sc h.1 hI, h.2⟩) (fun h => ⟨sc h.1 hI, h.2⟩)
theorem a6k {L : List SA} (hI : SAll Gv.σ L) (a b : SE) (h : a.eval Gv.σ < b.eval Gv.σ := by simp (disch := omega) only [evs, evx, wr, evS, evT, m0, zJ, zD, List.drop_zero, List.getD_cons_zero, zP, zO, zS, evH, eq_self, if_true] <;> omega) : SAll Gv.σ (.mk true a b true :: L) := sc (bT a b h) hI
theorem btp {L : List SA} (hI : SAll Gv.σ L) (a b : SE) (h : b.eval Gv.σ ≤ a.eval Gv.σ := by simp (disch := omega) only [evs, evx, wr, evS, evT, m0, zJ, zD, List.drop_zero, List.getD_cons_zero, zP, zO, zS, evH, eq_self, if_true] <;> omega) : SAll Gv.σ (.mk true a b false :: L) := sc (bF a b h) hI
theorem buk {L : List SA} (hI : SAll Gv.σ L) (a b : SE) {x y : Int} (ha : a.eval Gv.σ = x := by (try simp (disch := omega) only [evs, evx, wr, evS, evT, m0, zJ, zD, List.drop_zero, List.getD_cons_zero, zP, zO, zS, evH, eq_self, if_true]); rfl) (hb : b.eval Gv.σ = y := by (try simp (disch := omega) only [evs, evx, wr, evS, evT, m0, zJ, zD, List.drop_zero, List.getD_cons_zero, zP, zO, zS, evH, eq_self, if_true]); rfl) : SAll Gv.σ (.mk false a b true :: L) ∧ x = y ∨ SAll Gv.σ (.mk false a b false :: L) ∧ ¬ x = y := by subst ha hb; exact (gq a b).imp (fun h => ⟨sc h.1 hI, h.2⟩) (fun h => ⟨sc h.1 hI, h.2⟩)
end
end Go.Ev
set_option maxRecDepth 100000
set_option linter.all false
namespace Go.Ev
abbrev axa : AL := .g (.s 0) (.i (.v 1) (.i (.c 0) .nil))
abbrev kp : SE := .app 43 axa
abbrev bbr : List SA := [.mk true kp (.len (.s 0)) false]
abbrev a7c : List SA := [.mk true kp (.len (.s 0)) true]
abbrev axl : AL := .g (.s 0) (.i (.v 1) (.i (.c 1) .nil))
abbrev zu : SE := .app 43 axl
abbrev a8h : List SA := [.mk true zu (.len (.s 0)) false]
abbrev a80 : List SA := [.mk true zu (.len (.s 0)) true]
abbrev aar : SE := .rd (.s 0) (.v 1)
abbrev c9 : SE := .bin 0 .i64 (.v 1) (.c 1)
abbrev xv : SE := .app 43 (.g (.s 0) (.i c9 (.i (.c 1) .nil)))
abbrev b9 : SE := .bin 6 .i64 (.len (.s 0)) (.bin 7 .i64 (.c (-1)) c9)
abbrev ie : SE := .bin 6 .i64 (.len (.s 0)) (.bin 7 .i64 (.c (-1)) (.v 1))
abbrev gb : SE := .app 43 (.g (.s 0) (.i c9 (.i (.c 0) .nil)))
noncomputable section
def rdO (k h t r : Nat) (p o : SE) : HO := .mk k (.cells 65 false 0 0 [.ptr (K.of h) 0, .ptr (K.of t) 0, .gv (.sl (K.of r) 1 (.len (.s 0)) []), .sym .i64 p [], .sym .i64 o []])
def rwO (r : Nat) : HO := .mk r (.gob (.gh 3 [.i64] (.len (.s 0)) (.s 0)))
def tps (n : Nat) : List AV := List.replicate n .top
def s1 (k : Nat) (a b : SE) : SE := .app k (.g (.s 0) (.i a (.i b .nil)))
def mLn : SE := .bin 6 .i64 (.len (.s 0)) (.bin 7 .i64 (.c (-1)) (.v 1))
def pI : List SA := [.mk false (.app 42 (.g (.s 0) .nil)) (.c 1) true, .mk true (.v 1) (.c 0) false, .mk true (.len (.s 0)) (.v 1) false]
def bho : List AV := [.ptr (K.of 256) 0, .top, .bool false] ++ tps 39
def bh0 : List HO := [rdO 256 258 259 257 (.v 1) (.v 2), rwO 257]
def bke : List HO := [rdO 256 258 259 257 (.app 43 axa) (.v 2), rwO 257]
def bki : LR := (.x 0 (.ptr (K.of 256) 0 :: tps 41))
def bfe (m : SE) : LT := .mk 36 3 bho 260 bh0 (pI ++ bbr) (some (mLn, m)) bki 260 bke
def bjo : LT := znl (bfe (.c 0))
def blb : List HO := [rdO 256 258 259 257 (.app 43 axa) (.v 2), rwO 257]
def bkh : LR := (.r (.ptr (K.of 256) 0 :: tps 41))
def bgd (m : SE) : LT := .mk 36 3 bho 260 bh0 (pI ++ a7c) (some (mLn, m)) bkh 260 blb
def bkd : LT := znl (bgd (.c 0))
def bde : List AV := [.ptr (K.of 256) 0, .top, .bool true] ++ tps 39
def bdx : List HO := [rdO 256 258 259 257 (.v 1) (.v 2), rwO 257]
def bj5 : List HO := [rdO 256 258 259 257 (.app 43 axl) (.v 2), rwO 257]
def bl0 : LR := (.x 0 (.ptr (K.of 256) 0 :: tps 41))
def bqs (m : SE) : LT := .mk 36 3 bde 260 bdx (pI ++ a8h) (some (mLn, m)) bl0 260 bj5
def bjw : List HO := [rdO 256 258 259 257 (.app 43 axl) (.v 2), rwO 257]
def bjh : LR := (.r (.ptr (K.of 256) 0 :: tps 41))
def bp7 (m : SE) : LT := .mk 36 3 bde 260 bdx (pI ++ a80) (some (mLn, m)) bjh 260 bjw
end
theorem s9 {σ : Nat → List Int} (h : SAll σ pI) : rt (σ 0) ∧ 0 ≤ (σ 1).headD 0 ∧ (σ 1).headD 0 ≤ ((σ 0).length : Int) ∧ (σ 0).length ≤ 4000 := by
 simp only [pI, sall_cons, s42, sF, evs] at h
 exact ⟨h.1, h.2.1, h.2.2.1, h.1.1⟩
def bp9 [Gv] : Prop := (SAll Gv.σ bbr → di 36 3 bho 260 bh0 bki 260 bke) ∧ (SAll Gv.σ a7c → di 36 3 bho 260 bh0 bkh 260 blb)
theorem bw9 [Gv] (hh : ∀ t ∈ [bfe mLn, bgd mLn, bqs mLn, bp7 mLn], bh t) (hI : SAll Gv.σ pI) : bp9 := by
 obtain ⟨hR, hp0, hpl, hL⟩ := s9 hI
 rcases zl1 hI (.v 1) (.len (.s 0)) with ⟨hI, k1⟩ | ⟨hI, k1⟩
 ·have := zf1 (aq8 hR (.v 1))
  rcases zq1 hI aar (.c 59) with ⟨hI, k2⟩ | ⟨hI, k2⟩
  ·have hI := zF1 hI c9 (.c 0)
   have hI := zF1 hI (.len (.s 0)) c9
   have := zf1 (f43 (σ := Gv.σ) c9 (.c 1))
   rcases zl1 hI xv (.len (.s 0)) with ⟨hI, k5⟩ | ⟨hI, k5⟩
   ·have hI := zT1 hI b9 ie
    have hI := zF1 hI b9 (.c 0)
    have := zf1 (f43 (σ := Gv.σ) (.v 1) (.c 0))
    have u := zf2 (er (Gv.σ 0) ((Gv.σ 1).headD 0) 0)
    exact ⟨zn1,
     zt [] (.i xv kp .nil) ac (zp hI hh) hI ze1⟩
   ·have hI := zT1 hI b9 ie
    have hI := zF1 hI b9 (.c 0)
    have := zf1 (f43 (σ := Gv.σ) (.v 1) (.c 0))
    have u := zf2 (er (Gv.σ 0) ((Gv.σ 1).headD 0) 0)
    exact ⟨zt [] (.i xv kp .nil) ac (zp hI hh) hI ze1,
     zn1⟩
  ·rcases zq1 hI aar (.c 9) with ⟨hI, k3⟩ | ⟨hI, k3⟩
   ·have hI := zF1 hI c9 (.c 0)
    have hI := zF1 hI (.len (.s 0)) c9
    have := zf1 (f43 (σ := Gv.σ) c9 (.c 0))
    rcases zl1 hI gb (.len (.s 0)) with ⟨hI, k6⟩ | ⟨hI, k6⟩
    ·have hI := zT1 hI b9 ie
     have hI := zF1 hI b9 (.c 0)
     have := zf1 (f43 (σ := Gv.σ) (.v 1) (.c 0))
     have u := zf2 (er (Gv.σ 0) ((Gv.σ 1).headD 0) 0)
     exact ⟨zn1,
      zt [] (.i gb kp .nil) ac (zp hI hh) hI ze1⟩
    ·have hI := zT1 hI b9 ie
     have hI := zF1 hI b9 (.c 0)
     have := zf1 (f43 (σ := Gv.σ) (.v 1) (.c 0))
     have u := zf2 (er (Gv.σ 0) ((Gv.σ 1).headD 0) 0)
     exact ⟨zt [] (.i gb kp .nil) ac (zp hI hh) hI ze1,
      zn1⟩
   ·rcases zq1 hI aar (.c 10) with ⟨hI, k4⟩ | ⟨hI, k4⟩
    ·have hI := zF1 hI c9 (.c 0)
     have hI := zF1 hI (.len (.s 0)) c9
     have := zf1 (f43 (σ := Gv.σ) c9 (.c 0))
     rcases zl1 hI gb (.len (.s 0)) with ⟨hI, k7⟩ | ⟨hI, k7⟩
     ·have hI := zT1 hI b9 ie
      have hI := zF1 hI b9 (.c 0)
      have := zf1 (f43 (σ := Gv.σ) (.v 1) (.c 0))
      have u := zf2 (er (Gv.σ 0) ((Gv.σ 1).headD 0) 0)
      exact ⟨zn1,
       zt [] (.i gb kp .nil) ac (zp hI hh) hI ze1⟩
     ·have hI := zT1 hI b9 ie
      have hI := zF1 hI b9 (.c 0)
      have := zf1 (f43 (σ := Gv.σ) (.v 1) (.c 0))
      have u := zf2 (er (Gv.σ 0) ((Gv.σ 1).headD 0) 0)
      exact ⟨zt [] (.i gb kp .nil) ac (zp hI hh) hI ze1,
       zn1⟩
    ·rcases zq1 hI aar (.c 12) with ⟨hI, k5⟩ | ⟨hI, k5⟩
     ·have hI := zF1 hI c9 (.c 0)
      have hI := zF1 hI (.len (.s 0)) c9
      have := zf1 (f43 (σ := Gv.σ) c9 (.c 0))
      rcases zl1 hI gb (.len (.s 0)) with ⟨hI, k8⟩ | ⟨hI, k8⟩
      ·have hI := zT1 hI b9 ie
       have hI := zF1 hI b9 (.c 0)
       have := zf1 (f43 (σ := Gv.σ) (.v 1) (.c 0))
       have u := zf2 (er (Gv.σ 0) ((Gv.σ 1).headD 0) 0)
       exact ⟨zn1,
        zt [] (.i gb kp .nil) ac (zp hI hh) hI ze1⟩
      ·have hI := zT1 hI b9 ie
       have hI := zF1 hI b9 (.c 0)
       have := zf1 (f43 (σ := Gv.σ) (.v 1) (.c 0))
       have u := zf2 (er (Gv.σ 0) ((Gv.σ 1).headD 0) 0)
       exact ⟨zt [] (.i gb kp .nil) ac (zp hI hh) hI ze1,
        zn1⟩
     ·rcases zq1 hI aar (.c 13) with ⟨hI, k6⟩ | ⟨hI, k6⟩
      ·have hI := zF1 hI c9 (.c 0)
       have hI := zF1 hI (.len (.s 0)) c9
       have := zf1 (f43 (σ := Gv.σ) c9 (.c 0))
       rcases zl1 hI gb (.len (.s 0)) with ⟨hI, k9⟩ | ⟨hI, k9⟩
       ·have hI := zT1 hI b9 ie
        have hI := zF1 hI b9 (.c 0)
        have := zf1 (f43 (σ := Gv.σ) (.v 1) (.c 0))
        have u := zf2 (er (Gv.σ 0) ((Gv.σ 1).headD 0) 0)
        exact ⟨zn1,
         zt [] (.i gb kp .nil) ac (zp hI hh) hI ze1⟩
       ·have hI := zT1 hI b9 ie
        have hI := zF1 hI b9 (.c 0)
        have := zf1 (f43 (σ := Gv.σ) (.v 1) (.c 0))
        have u := zf2 (er (Gv.σ 0) ((Gv.σ 1).headD 0) 0)
        exact ⟨zt [] (.i gb kp .nil) ac (zp hI hh) hI ze1,
         zn1⟩
      ·rcases zq1 hI aar (.c 32) with ⟨hI, k7⟩ | ⟨hI, k7⟩
       ·have hI := zF1 hI c9 (.c 0)
        have hI := zF1 hI (.len (.s 0)) c9
        have := zf1 (f43 (σ := Gv.σ) c9 (.c 0))
        rcases zl1 hI gb (.len (.s 0)) with ⟨hI, k10⟩ | ⟨hI, k10⟩
        ·have hI := zT1 hI b9 ie
         have hI := zF1 hI b9 (.c 0)
         have := zf1 (f43 (σ := Gv.σ) (.v 1) (.c 0))
         have u := zf2 (er (Gv.σ 0) ((Gv.σ 1).headD 0) 0)
         exact ⟨zn1,
          zt [] (.i gb kp .nil) ac (zp hI hh) hI ze1⟩
        ·have hI := zT1 hI b9 ie
         have hI := zF1 hI b9 (.c 0)
         have := zf1 (f43 (σ := Gv.σ) (.v 1) (.c 0))
         have u := zf2 (er (Gv.σ 0) ((Gv.σ 1).headD 0) 0)
         exact ⟨zt [] (.i gb kp .nil) ac (zp hI hh) hI ze1,
          zn1⟩
       ·have := zf1 (f43 (σ := Gv.σ) (.v 1) (.c 0))
        have u := zf2 (er (Gv.σ 0) ((Gv.σ 1).headD 0) 0)
        exact ⟨zn1,
         zt [] (.i (.v 1) kp .nil) ac (zp hI hh) hI ze1⟩
 ·have := zf1 (f43 (σ := Gv.σ) (.v 1) (.c 0))
  have u := zf2 (er (Gv.σ 0) ((Gv.σ 1).headD 0) 0)
  exact ⟨zt [] (.i (.v 1) kp .nil) ac (zp hI hh) hI ze1,
   zn1⟩
def bp1 [Gv] : Prop := (SAll Gv.σ a8h → di 36 3 bde 260 bdx bl0 260 bj5) ∧ (SAll Gv.σ a80 → di 36 3 bde 260 bdx bjh 260 bjw)
theorem bwl [Gv] (hh : ∀ t ∈ [bfe mLn, bgd mLn, bqs mLn, bp7 mLn], bh t) (hI : SAll Gv.σ pI) : bp1 := by
 obtain ⟨hR, hp0, hpl, hL⟩ := s9 hI
 rcases zl1 hI (.v 1) (.len (.s 0)) with ⟨hI, k1⟩ | ⟨hI, k1⟩
 ·have := zf1 (aq8 hR (.v 1))
  rcases zq1 hI aar (.c 10) with ⟨hI, k2⟩ | ⟨hI, k2⟩
  ·have hI := zF1 hI c9 (.c 0)
   have hI := zF1 hI (.len (.s 0)) c9
   have := zf1 (f43 (σ := Gv.σ) c9 (.c 0))
   rcases zl1 hI gb (.len (.s 0)) with ⟨hI, k5⟩ | ⟨hI, k5⟩
   ·have hI := zT1 hI b9 ie
    have hI := zF1 hI b9 (.c 0)
    have := zf1 (f43 (σ := Gv.σ) (.v 1) (.c 1))
    have u := zf2 (er (Gv.σ 0) ((Gv.σ 1).headD 0) 1)
    exact ⟨zn1,
     zt [] (.i gb zu .nil) ac (zp hI hh) hI ze1⟩
   ·have hI := zT1 hI b9 ie
    have hI := zF1 hI b9 (.c 0)
    have := zf1 (f43 (σ := Gv.σ) (.v 1) (.c 1))
    have u := zf2 (er (Gv.σ 0) ((Gv.σ 1).headD 0) 1)
    exact ⟨zt [] (.i gb zu .nil) ac (zp hI hh) hI ze1,
     zn1⟩
  ·have hI := zF1 hI c9 (.c 0)
   have hI := zF1 hI (.len (.s 0)) c9
   have := zf1 (f43 (σ := Gv.σ) c9 (.c 1))
   rcases zl1 hI xv (.len (.s 0)) with ⟨hI, k5⟩ | ⟨hI, k5⟩
   ·have hI := zT1 hI b9 ie
    have hI := zF1 hI b9 (.c 0)
    have := zf1 (f43 (σ := Gv.σ) (.v 1) (.c 1))
    have u := zf2 (er (Gv.σ 0) ((Gv.σ 1).headD 0) 1)
    exact ⟨zn1,
     zt [] (.i xv zu .nil) ac (zp hI hh) hI ze1⟩
   ·have hI := zT1 hI b9 ie
    have hI := zF1 hI b9 (.c 0)
    have := zf1 (f43 (σ := Gv.σ) (.v 1) (.c 1))
    have u := zf2 (er (Gv.σ 0) ((Gv.σ 1).headD 0) 1)
    exact ⟨zt [] (.i xv zu .nil) ac (zp hI hh) hI ze1,
     zn1⟩
 ·have := zf1 (f43 (σ := Gv.σ) (.v 1) (.c 1))
  have u := zf2 (er (Gv.σ 0) ((Gv.σ 1).headD 0) 1)
  exact ⟨zt [] (.i (.v 1) zu .nil) ac (zp hI hh) hI ze1,
   zn1⟩
theorem axk : ∀ (B : Nat) (σ : Nat → List Int), SAll σ pI → (mLn).eval σ < (B : Int) → @bp9 ⟨σ⟩ ∧ @bp1 ⟨σ⟩
 | 0, σ, hI, hb => by obtain ⟨h1, h2, h3, h4⟩ := s9 hI; simp only [mLn, evs, wr] at hb; omega
 | B + 1, σ, hI, hb => by
   have ih : ∀ σ' : Nat → List Int, SAll σ' pI → 0 ≤ (mLn).eval σ' ∧ (mLn).eval σ' < (mLn).eval σ → @bp9 ⟨σ'⟩ ∧ @bp1 ⟨σ'⟩ := fun σ' h h' => axk B σ' h (by omega)
   have hh : ∀ t ∈ [bfe (mLn), bgd (mLn), bqs (mLn), bp7 (mLn)], @bh ⟨σ⟩ t := by
    intro t ht
    simp only [List.mem_cons, zH, or_false] at ht
    rcases ht with rfl | rfl | rfl | rfl
    ·exact fun σ' _ hA hb => (ih σ' (ak hA).1 hb).1.1 (ak hA).2
    ·exact fun σ' _ hA hb => (ih σ' (ak hA).1 hb).1.2 (ak hA).2
    ·exact fun σ' _ hA hb => (ih σ' (ak hA).1 hb).2.1 (ak hA).2
    ·exact fun σ' _ hA hb => (ih σ' (ak hA).1 hb).2.2 (ak hA).2
   exact ⟨@bw9 ⟨σ⟩ hh hI, @bwl ⟨σ⟩ hh hI⟩
theorem bfu [Gv] : bh bjo := fun σ _ hA _ => (axk (((mLn).eval σ).toNat + 1) σ (ak hA).1 (by omega)).1.1 (ak hA).2
theorem bi5 [Gv] : bh bkd := fun σ _ hA _ => (axk (((mLn).eval σ).toNat + 1) σ (ak hA).1 (by omega)).1.2 (ak hA).2
end Go.Ev
set_option maxRecDepth 100000
set_option linter.all false
namespace Go.Ev
theorem lf (c : Int) : ee c =
 if 127 < c then
  if 2047 < c then
   if c < 55296 then [gc 9 .u8 224 (sh8 c 12), lo8 (sh8 c 6), lo8 (IntKind.u8.wrap c)]
   else if 57343 < c then
    if 65535 < c then [gc 9 .u8 240 (sh8 c 18), lo8 (sh8 c 12), lo8 (sh8 c 6), lo8 (IntKind.u8.wrap c)]
    else [gc 9 .u8 224 (sh8 c 12), lo8 (sh8 c 6), lo8 (IntKind.u8.wrap c)]
   else [239, 191, 189]
  else [gc 9 .u8 192 (sh8 c 6), lo8 (IntKind.u8.wrap c)]
 else [c] := by
 conv => lhs; unfold ee
 try rfl
theorem ac6 (s : List Int) (p : Int) : zg s p =
 if p < (s.length : Int) then (if 0 < dwJ s p then 1 + zg s (p + dwJ s p) else 0) else 0 := by
 conv => lhs; unfold zg
 try rfl
theorem bdj (h : List Int) (z : Int) : ug h z = if hM h = hL h ∨ 1048576 < hU h + z then ⟨7, h⟩ else ⟨0, [hL h, hM h + 1, hU h + z]⟩ := by
 conv => lhs; unfold ug
 try rfl
theorem qi (h s : List Int) : nc h s = if b8 s = 0 then ⟨5, h⟩ else if 65536 < zg s 0 then ⟨4, h⟩ else ug h (zg s 0) := by
 conv => lhs; unfold nc
 try rfl
theorem aba (c : Int) : act c = if c = 110 then 10 else if c = 116 then 9 else if c = 101 then 27 else -1 := by
 conv => lhs; unfold act
 try rfl
theorem rv (c : Int) : tg c = if 48 ≤ c ∧ c ≤ 57 then c - 48 else if 97 ≤ c ∧ c ≤ 102 then c - 87 else if 65 ≤ c ∧ c ≤ 70 then c - 55 else -1 := by
 conv => lhs; unfold tg
 try rfl
theorem xx (R : List Int) (p c n : Int) : kz R p c n =
 if n < 6 ∧ p < (R.length : Int) then
  if tg (R.getD p.toNat 0) < 0 then ⟨0, n, c, p⟩
  else kz R (p + 1) (gc 9 .i64 (gc 11 .i64 c 4) (tg (R.getD p.toNat 0))) (n + 1)
 else ⟨0, n, c, p⟩ := by
 conv => lhs; unfold kz
 try rfl
theorem mh (c : Int) : kh c = if 0 ≤ c ∧ c ≤ 1114111 ∧ ¬(55296 ≤ c ∧ c ≤ 57343) then 1 else 0 := by
 conv => lhs; unfold kh
 try rfl
theorem x9 (R : List Int) (p at_ : Int) : sq R p at_ =
 if (kz R p 0 0).p < (R.length : Int) then
  if (kz R p 0 0).a = 0 ∨ R.getD (kz R p 0 0).p.toNat 0 ≠ 92 ∨ kh (kz R p 0 0).c = 0 then ⟨5, at_, 0, 0⟩
  else ⟨0, 0, (kz R p 0 0).c, (kz R p 0 0).p + 1⟩
 else ⟨5, (R.length : Int), 0, 0⟩ := by
 conv => lhs; unfold sq
 try rfl
theorem pq (R : List Int) (p : Int) : jd R p =
 if p < (R.length : Int) then
  if R.getD p.toNat 0 = 10 then ⟨0, 0, -1, p + 1⟩
  else if R.getD p.toNat 0 = 92 ∨ R.getD p.toNat 0 = 34 then ⟨0, 0, R.getD p.toNat 0, p + 1⟩
  else if R.getD p.toNat 0 = 120 then sq R (p + 1) (p - 1)
  else if act (R.getD p.toNat 0) < 0 then ⟨5, p - 1, 0, 0⟩
  else ⟨0, 0, act (R.getD p.toNat 0), p + 1⟩
 else ⟨5, (R.length : Int), 0, 0⟩ := by
 conv => lhs; unfold jd
 try rfl
theorem bg (R : List Int) (p : Int) (b : List Int) : gi R p b =
 if p < (R.length : Int) then
  if R.getD p.toNat 0 = 34 then ⟨0, 0, b, p + 1⟩
  else if R.getD p.toNat 0 = 92 then
   (if (jd R (p + 1)).f = 0 then
     (if p < (jd R (p + 1)).p then
       (if (jd R (p + 1)).c < 0 then gi R (jd R (p + 1)).p b else gi R (jd R (p + 1)).p (b ++ ee (jd R (p + 1)).c))
      else ⟨5, 0, [], 0⟩)
    else ⟨(jd R (p + 1)).f, (jd R (p + 1)).a, [], 0⟩)
  else gi R (p + 1) (b ++ ee (R.getD p.toNat 0))
 else ⟨5, (R.length : Int), [], 0⟩ := by
 conv => lhs; unfold gi
 try rfl
end Go.Ev
set_option maxRecDepth 100000
set_option linter.all false
namespace Go.Ev
abbrev b3a : List SA := [.mk false (.app 41 (.i (.v 1) .nil)) (.c 1) true]
abbrev b28 : List SA := [.mk false (.app 41 (.i (.v 1) .nil)) (.c 1) false]
abbrev bb4 : AL := .g (.s 0) (.i (.v 1) (.i (.c 0) .nil))
abbrev vw : GE := .app 40 (.i (.v 1) .nil)
abbrev aan : GE := .cat (.s 3) vw
abbrev wc : SE := .len vw
abbrev aax : SE := .bin 6 .i64 (.len (.s 3)) wc
abbrev a9s : List SA := [.mk true (.c 50000) (.len (.s 3)) false]
abbrev mt : SE := .bin 0 .u32 (.v 1) (.c 0)
abbrev xu : SE := .bin 6 .i64 (.len (.s 3)) (.c 3)
abbrev a25 : SE := .bin 0 .u8 (.bin 12 .i32 (.v 1) (.c 12)) (.c 0)
abbrev a3g : SE := .bin 0 .u8 (.bin 12 .i32 (.v 1) (.c 6)) (.c 0)
abbrev a09 : GE := .one (.bin 9 .u8 (.c 128) (.bin 8 .u8 (.bin 0 .u8 (.v 1) (.c 0)) (.c 63)))
abbrev a0f : GE := .cat (.one (.bin 9 .u8 (.c 128) (.bin 8 .u8 a3g (.c 63)))) a09
abbrev arn : GE := .cat (.one (.bin 9 .u8 (.c 224) a25)) a0f
abbrev a37 : GE := .cat (.s 3) arn
abbrev a2t : SE := .bin 6 .i64 (.len (.s 3)) (.c 4)
abbrev a3h : GE := .cat (.one (.bin 9 .u8 (.c 240) (.bin 0 .u8 (.bin 12 .i32 (.v 1) (.c 18)) (.c 0)))) (.cat (.one (.bin 9 .u8 (.c 128) (.bin 8 .u8 a25 (.c 63)))) a0f)
abbrev ay1 : SE := .bin 6 .i64 (.len (.s 3)) (.c 2)
abbrev a4k : GE := .cat (.one (.bin 9 .u8 (.c 192) a3g)) a09
abbrev az6 : SE := .bin 6 .i64 (.len (.s 3)) (.c 1)
noncomputable section
def bu1 : List AV := [.ptr (K.of 256) 0]
def bvk : List HO := [rdO 256 258 259 257 (.v 1) (.v 2), rwO 257]
def bts : List HO := [rdO 256 258 259 257 (.app 43 bb4) (.v 2), rwO 257]
def bvc : TR := .ret (.tuple [])
def bti : TM := .mk 36 bu1 260 bvk (pI ++ []) none bvc 260 bts
def buO (k r : Nat) (g : GE) (n : SE) : List HO := [.mk k (.cells 108 false 0 0 [.ptr (K.of k) 0, .gv (.sl (K.of r) 1 n [])]), .mk r (.gob (.gh 5 [.u8] n g))]
def wI : List SA := [.mk true (.v 1) (.c 0) false, .mk true (.v 1) (.c 1114112) true]
def bwk : List AV := [.ptr (K.of 256) 0, .sym .i32 (.v 1) []]
def bv2 : List HO := buO 256 257 (.s 3) (.len (.s 3))
def bu7 : List HO := buO 256 258 aan aax
def buy : TR := .ret (.tuple [.top, .nilIface])
def bnm : TM := .mk 68 bwk 258 bv2 ((wI ++ a9s) ++ []) none buy 259 bu7
def bsn : List AV := [.ptr (K.of 256) 0, .sym .i32 (.v 1) []]
def bu5 : List HO := [.mk 256 (.cells 108 false 0 0 [.nilPtr, .nilSlice])]
def bsq : List HO := buO 256 257 (.app 40 (.i (.v 1) .nil)) wc
def bwt : TR := .ret (.tuple [.top, .nilIface])
def bm8 : TM := .mk 68 bsn 257 bu5 (wI ++ []) none bwt 258 bsq
end
theorem aor {α : Type} {p : α → Prop} {a b : α} (ha : p a) (hb : p b) : ∀ t ∈ [a, b], p t := by
 intro t ht
 simp only [List.mem_cons, zH, or_false] at ht
 rcases ht with rfl | rfl
 ·exact ha
 ·exact hb
theorem j5 {α : Type} {p : α → Prop} {a : α} (ha : p a) : ∀ t ∈ [a], p t := by
 intro t ht
 rw [List.mem_singleton] at ht; subst ht; exact ha
theorem sk2 [Gv] : ∀ t ∈ [bjo, bkd], bh t := aor bfu bi5
def b4p [Gv] : Prop := (SAll Gv.σ [] → cz 36 bu1 260 bvk bvc 260 bts)
theorem bw1 [Gv] (hI : SAll Gv.σ pI) : b4p := by
 obtain ⟨hR, hp0, hpl, hL⟩ := s9 hI
 have := zf1 (f43 (σ := Gv.σ) (.v 1) (.c 0))
 rcases zl1 hI (.app 43 bb4) (.len (.s 0)) with ⟨hI, k1⟩ | ⟨hI, k1⟩
 ·have u := trivial
  exact zm0 [] ac (zp hI sk2) hI
 ·have u := trivial
  exact zm0 [] ac (zp hI sk2) hI
theorem bq5 [Gv] : bn bti := fun σ _ hA _ => (@bw1 ⟨σ⟩  (ak hA).1) (ak hA).2
theorem bcv {σ : Nat → List Int} (h : SAll σ wI) : 0 ≤ (σ 1).headD 0 ∧ (σ 1).headD 0 < 1114112 := by
 simp only [wI, sall_cons, sT, sF, evs] at h
 exact ⟨h.1, h.2.1⟩
def b4k [Gv] : Prop := (SAll Gv.σ [] → cz 68 bwk 258 bv2 buy 259 bu7)
theorem bwo [Gv] (hI : SAll Gv.σ (wI ++ a9s)) : b4k := by
 have hw := bcv (ak hI).1
 have h50 : ((Gv.σ 3).length : Int) ≤ 50000 := by have := (ak hI).2; simp only [sall_cons, sF, evs] at this; exact this.1
 rcases zl1 hI (.c 127) mt with ⟨hI, k1⟩ | ⟨hI, k1⟩
 ·rcases zl1 hI (.c 2047) mt with ⟨hI, k2⟩ | ⟨hI, k2⟩
  ·rcases zl1 hI mt (.c 55296) with ⟨hI, k3⟩ | ⟨hI, k3⟩
   ·have hI := zF1 hI (.c 400000) xu
    have := zf1 (f40 (σ := Gv.σ) (.v 1))
    have u := zf3 (lf ((Gv.σ 1).headD 0))
    exact zm [(259, 258)] (.i xu aax (.g a37 aan .nil)) ac ai hI ze2
   ·rcases zl1 hI (.c 57343) mt with ⟨hI, k4⟩ | ⟨hI, k4⟩
    ·rcases zl1 hI (.c 65535) mt with ⟨hI, k5⟩ | ⟨hI, k5⟩
     ·have hI := zF1 hI (.c 1114111) mt
      have hI := zF1 hI (.c 400000) a2t
      have := zf1 (f40 (σ := Gv.σ) (.v 1))
      have u := zf3 (lf ((Gv.σ 1).headD 0))
      exact zm [(259, 258)] (.i a2t aax (.g (.cat (.s 3) a3h) aan .nil)) ac ai hI ze2
     ·have hI := zF1 hI (.c 400000) xu
      have := zf1 (f40 (σ := Gv.σ) (.v 1))
      have u := zf3 (lf ((Gv.σ 1).headD 0))
      exact zm [(259, 258)] (.i xu aax (.g a37 aan .nil)) ac ai hI ze2
    ·have hI := zF1 hI (.c 65535) mt
     have hI := zF1 hI (.c 400000) xu
     have := zf1 (f40 (σ := Gv.σ) (.v 1))
     have u := zf3 (lf ((Gv.σ 1).headD 0))
     exact zm [(259, 258)] (.i xu aax (.g (.cat (.s 3) (.cat (.one (.c 239)) (.cat (.one (.c 191)) (.one (.c 189))))) aan .nil)) ac ai hI ze2
  ·have hI := zF1 hI (.c 400000) ay1
   have := zf1 (f40 (σ := Gv.σ) (.v 1))
   have u := zf3 (lf ((Gv.σ 1).headD 0))
   exact zm [(259, 258)] (.i ay1 aax (.g (.cat (.s 3) a4k) aan .nil)) ac ai hI ze2
 ·have hI := zF1 hI (.c 400000) az6
  have := zf1 (f40 (σ := Gv.σ) (.v 1))
  have u := zf3 (lf ((Gv.σ 1).headD 0))
  exact zm [(259, 258)] (.i az6 aax (.g (.cat (.s 3) (.one (.bin 0 .u8 (.v 1) (.c 0)))) aan .nil)) ac ai hI ze2
theorem ba9 [Gv] : bn bnm := fun σ _ hA _ => (@bwo ⟨σ⟩  (ak hA).1) (ak hA).2
def b3o [Gv] : Prop := (SAll Gv.σ [] → cz 68 bsn 257 bu5 bwt 258 bsq)
theorem bsk [Gv] (hI : SAll Gv.σ wI) : b3o := by
 have hw := bcv hI
 rcases zl1 hI (.c 127) mt with ⟨hI, k1⟩ | ⟨hI, k1⟩
 ·rcases zl1 hI (.c 2047) mt with ⟨hI, k2⟩ | ⟨hI, k2⟩
  ·rcases zl1 hI mt (.c 55296) with ⟨hI, k3⟩ | ⟨hI, k3⟩
   ·have := zf1 (f40 (σ := Gv.σ) (.v 1))
    have u := zf3 (lf ((Gv.σ 1).headD 0))
    exact zm [(258, 257)] (.i (.c 3) wc (.g arn vw .nil)) ac ai hI ze2
   ·rcases zl1 hI (.c 57343) mt with ⟨hI, k4⟩ | ⟨hI, k4⟩
    ·rcases zl1 hI (.c 65535) mt with ⟨hI, k5⟩ | ⟨hI, k5⟩
     ·have hI := zF1 hI (.c 1114111) mt
      have := zf1 (f40 (σ := Gv.σ) (.v 1))
      have u := zf3 (lf ((Gv.σ 1).headD 0))
      exact zm [(258, 257)] (.i (.c 4) wc (.g a3h vw .nil)) ac ai hI ze2
     ·have := zf1 (f40 (σ := Gv.σ) (.v 1))
      have u := zf3 (lf ((Gv.σ 1).headD 0))
      exact zm [(258, 257)] (.i (.c 3) wc (.g arn vw .nil)) ac ai hI ze2
    ·have hI := zF1 hI (.c 65535) mt
     have := zf1 (f40 (σ := Gv.σ) (.v 1))
     have u := zf3 (lf ((Gv.σ 1).headD 0))
     exact zm [(258, 257)] (.i (.c 3) wc (.g (.lit 3 15712189) vw .nil)) ac ai hI ze2
  ·have := zf1 (f40 (σ := Gv.σ) (.v 1))
   have u := zf3 (lf ((Gv.σ 1).headD 0))
   exact zm [(258, 257)] (.i (.c 2) wc (.g a4k vw .nil)) ac ai hI ze2
 ·have := zf1 (f40 (σ := Gv.σ) (.v 1))
  have u := zf3 (lf ((Gv.σ 1).headD 0))
  exact zm [(258, 257)] (.i (.c 1) wc (.g (.one (.bin 0 .u8 (.v 1) (.c 0))) vw .nil)) ac ai hI ze2
theorem a8w [Gv] : bn bm8 := fun σ _ hA _ => (@bsk ⟨σ⟩  (ak hA).1) (ak hA).2
end Go.Ev
