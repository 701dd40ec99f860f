import Derived.Test.YtkfdioikigponaaGreatDoorEvGh
import Derived.Lib.DecodeN
set_option maxRecDepth 100000
set_option linter.all false
namespace Go.Ev
section
variable {σ : Nat → List Int}
theorem sall_cons {A : List SA} {x : SA} : SAll σ (x :: A) ↔ x.holds σ ∧ SAll σ A := by
 constructor
 ·exact fun h => ⟨h _ (by simp), fun y hy => h y (List.mem_cons_of_mem _ hy)⟩
 ·rintro ⟨h1, h2⟩ y hy
  rcases List.mem_cons.1 hy with rfl | hy
  ·exact h1
  ·exact h2 y hy
theorem avf {a b : SE} (h : a.eval σ < b.eval σ) : (SA.mk true a b true).holds σ := decide_eq_true h
theorem akk {a b : SE} (h : ¬ a.eval σ < b.eval σ) : (SA.mk true a b false).holds σ := decide_eq_false h
theorem bom {a b : SE} (h : ¬ a.eval σ = b.eval σ) : (SA.mk false a b false).holds σ := decide_eq_false h
theorem bkf {a b : SE} (h : a.eval σ = b.eval σ) : (SA.mk false a b true).holds σ := decide_eq_true h
end
open Classical in
theorem bj8 {p : Prop} : (if p then (1 : Int) else 0) = 1 ↔ p := by
 by_cases h : p
 ·rw [if_pos h]; exact ⟨fun _ => h, fun _ => rfl⟩
 ·rw [if_neg h]; exact ⟨fun e => absurd e (by decide), fun e => absurd e h⟩
theorem bnu {x : Int} (h : -9223372036854775808 ≤ x ∧ x ≤ 9223372036854775807) : IntKind.i64.wrap x = x := by
 simp only [IntKind.wrap, IntKind.bits, IntKind.signed]; simp; omega
theorem b02 {x : Int} (h : -2147483648 ≤ x ∧ x ≤ 2147483647) : IntKind.i32.wrap x = x := by
 simp only [IntKind.wrap, IntKind.bits, IntKind.signed]; simp; omega
theorem bt1 {x : Int} (h : 0 ≤ x ∧ x ≤ 4294967295) : IntKind.u32.wrap x = x := by
 simp only [IntKind.wrap, IntKind.bits, IntKind.signed]; simp; omega
theorem b2s {x : Int} (h : 0 ≤ x ∧ x ≤ 255) : IntKind.u8.wrap x = x := by
 simp only [IntKind.wrap, IntKind.bits, IntKind.signed]; simp; omega
theorem re (l : List Int) (p : Nat) (h : p < l.length) : 1 ≤ (Utf8.decode (ar l) p).2 ∧ p + (Utf8.decode (ar l) p).2 ≤ l.length ∧ (Utf8.decode (ar l) p).1 ≤ 1114111 := by
 have hs : (ar l).size = l.length := fw (l := l)
 rw [Lib.decode_at, hs]
 generalize ((ar l).get! p).toNat = b0
 generalize ((ar l).get! (p + 1)).toNat = b1
 generalize ((ar l).get! (p + 2)).toNat = b2
 generalize ((ar l).get! (p + 3)).toNat = b3
 unfold Lib.decodeN
 repeat' split
 all_goals simp only
 all_goals omega
theorem atw : ∀ (f g : Nat) (s : List Int) (p : Nat), s.length ≤ p + f → s.length ≤ p + g → nv f s p = nv g s p
 | 0, 0, _, _, _, _ => rfl
 | 0, g + 1, s, p, h, _ => by unfold nv; rw [if_neg (by omega)]
 | f + 1, 0, s, p, _, h => by unfold nv; rw [if_neg (by omega)]
 | f + 1, g + 1, s, p, h1, h2 => by
   unfold nv
   split
   ·rename_i hp
    have := (re s p hp).1
    have e : ar s = aap s := rfl
    rw [e] at this
    rw [atw f g s _ (by omega) (by omega)]
   ·rfl
theorem abw {s : List Int} {p : Nat} (h : p < s.length) : ah s p = ((Utf8.decode (ar s) p).1 : Int) :: ah s (p + (Utf8.decode (ar s) p).2) := by
 obtain ⟨f, hf⟩ : ∃ f, s.length = f + 1 := ⟨s.length - 1, by omega⟩
 have hd := (re s p h).1
 show nv s.length s p = _ :: nv s.length s _
 rw [hf]
 show (if p < s.length then _ else _) = _
 rw [if_pos h]
 congr 1
 exact atw _ _ _ _ (by show s.length ≤ p + (Utf8.decode (ar s) p).2 + f; omega) (by show s.length ≤ p + (Utf8.decode (ar s) p).2 + (f + 1); omega)
theorem a7m {s : List Int} {p : Nat} (h : s.length ≤ p) : ah s p = [] := by
 show nv s.length s p = []
 cases hf : s.length with
 | zero => rfl
 | succ f => show (if p < s.length then _ else _) = _; rw [if_neg (by omega)]
end Go.Ev
set_option maxRecDepth 100000
set_option linter.all false
namespace Go.Ev
theorem sl {σ : Nat → List Int} (a b : SE) : (SA.mk true a b true).holds σ ∧ a.eval σ < b.eval σ ∨ (SA.mk true a b false).holds σ ∧ b.eval σ ≤ a.eval σ := by
 by_cases h : a.eval σ < b.eval σ
 ·exact .inl ⟨avf h, h⟩
 ·exact .inr ⟨akk h, by omega⟩
theorem se {σ : Nat → List Int} (a b : SE) : (SA.mk false a b true).holds σ ∧ a.eval σ = b.eval σ ∨ (SA.mk false a b false).holds σ ∧ ¬ a.eval σ = b.eval σ := by
 by_cases h : a.eval σ = b.eval σ
 ·exact .inl ⟨bkf h, h⟩
 ·exact .inr ⟨bom h, h⟩
theorem sc {σ : Nat → List Int} {A : List SA} {x : SA} (h : x.holds σ) (h' : SAll σ A) : SAll σ (x :: A) := sall_cons.2 ⟨h, h'⟩
theorem sT {σ : Nat → List Int} {a b : SE} : (SA.mk true a b true).holds σ ↔ a.eval σ < b.eval σ := decide_eq_true_iff
theorem sF {σ : Nat → List Int} {a b : SE} : (SA.mk true a b false).holds σ ↔ b.eval σ ≤ a.eval σ := ⟨fun h => by have := of_decide_eq_false h; omega, fun h => akk (by omega)⟩
theorem sE {σ : Nat → List Int} {a b : SE} : (SA.mk false a b true).holds σ ↔ a.eval σ = b.eval σ := decide_eq_true_iff
theorem sN {σ : Nat → List Int} {a b : SE} : (SA.mk false a b false).holds σ ↔ ¬ a.eval σ = b.eval σ := decide_eq_false_iff_not
theorem a4c : ∀ (n : Nat) (l : List Int), ahc n l = as1 n l
 | 0, _ => rfl
 | _ + 1, [] => rfl
 | _ + 1, [_] => rfl
 | n + 1, a :: b :: l => by show _ :: ahc n _ = _ :: as1 n _; rw [a4c n]
theorem a2z (l : List Int) : auy l = acy l := by unfold auy acy; rw [a4c]
theorem evs : (∀ (σ : Nat → List Int) (i : Nat), (SE.v i).eval σ = (σ i).headD 0) ∧
  (∀ (σ : Nat → List Int) (n : Int), (SE.c n).eval σ = n) ∧
  (∀ (σ : Nat → List Int) (g : GE), (SE.len g).eval σ = ((g.eval σ).length : Int)) ∧
  (∀ (σ : Nat → List Int) (g : GE) (e : SE), (SE.rd g e).eval σ = (g.eval σ).getD (e.eval σ).toNat 0) ∧
  (∀ (σ : Nat → List Int) (g : GE) (e : SE), (SE.dr g e).eval σ = drJ (g.eval σ) (e.eval σ)) ∧
  (∀ (σ : Nat → List Int) (g : GE) (e : SE), (SE.dw g e).eval σ = dwJ (g.eval σ) (e.eval σ)) ∧
  (∀ (σ : Nat → List Int) (g h : GE), (SE.eqg g h).eval σ = if g.eval σ = h.eval σ then 1 else 0) ∧
  (∀ (σ : Nat → List Int) (g h : GE), (SE.mhas g h).eval σ = a51 (g.eval σ) (h.eval σ)) ∧
  (∀ (σ : Nat → List Int) (g h : GE), (SE.mget g h).eval σ = btx (g.eval σ) (h.eval σ)) ∧
  (∀ (σ : Nat → List Int) (k : IntKind) (a b : SE), (SE.bin 0 k a b).eval σ = k.wrap (a.eval σ + b.eval σ)) ∧
  (∀ (σ : Nat → List Int) (k : IntKind) (a b : SE), (SE.bin 1 k a b).eval σ = k.wrap (a.eval σ - b.eval σ)) ∧
  (∀ (σ : Nat → List Int) (k : IntKind) (a b : SE), (SE.bin 2 k a b).eval σ = k.wrap (a.eval σ * b.eval σ)) ∧
  (∀ (σ : Nat → List Int) (k : IntKind) (a b : SE), (SE.bin 4 k a b).eval σ = (a.eval σ).tmod (b.eval σ)) ∧
  (∀ (σ : Nat → List Int) (k : IntKind) (a b : SE), (SE.bin 6 k a b).eval σ = a.eval σ + b.eval σ) ∧
  (∀ (σ : Nat → List Int) (k : IntKind) (a b : SE), (SE.bin 7 k a b).eval σ = a.eval σ * b.eval σ) ∧
  (∀ (σ : Nat → List Int) (k : IntKind) (a b : SE), (SE.bin 8 k a b).eval σ = kg 8 k (a.eval σ) (b.eval σ)) ∧
  (∀ (σ : Nat → List Int) (k : IntKind) (a b : SE), (SE.bin 9 k a b).eval σ = kg 9 k (a.eval σ) (b.eval σ)) ∧
  (∀ (σ : Nat → List Int) (k : IntKind) (a b : SE), (SE.bin 11 k a b).eval σ = kg 11 k (a.eval σ) (b.eval σ)) ∧
  (∀ (σ : Nat → List Int) (k : IntKind) (a b : SE), (SE.bin 12 k a b).eval σ = kg 12 k (a.eval σ) (b.eval σ)) ∧
  (∀ (σ : Nat → List Int) (k : IntKind) (a b : SE), (SE.bin 13 k a b).eval σ = kg 13 k (a.eval σ) (b.eval σ)) ∧
  (∀ (σ : Nat → List Int) (i : Nat), (GE.s i).eval σ = σ i) ∧
  (∀ (σ : Nat → List Int), GE.nil.eval σ = []) ∧
  (∀ (σ : Nat → List Int), (GE.lit 0 0).eval σ = []) ∧
  (∀ (σ : Nat → List Int) (e : SE), (GE.one e).eval σ = [e.eval σ]) ∧
  (∀ (σ : Nat → List Int) (g h : GE), (GE.cat g h).eval σ = g.eval σ ++ h.eval σ) ∧
  (∀ (σ : Nat → List Int) (g : GE) (a b : SE), (GE.cut g a b).eval σ = ((g.eval σ).take (b.eval σ).toNat).drop (a.eval σ).toNat) ∧
  (∀ (σ : Nat → List Int) (c : SE), (SE.app 40 (.i c .nil)).eval σ = ape (c.eval σ)) ∧
  (∀ (σ : Nat → List Int) (c : SE), (SE.app 41 (.i c .nil)).eval σ = xu (c.eval σ)) ∧
  (∀ (σ : Nat → List Int) (R : GE) (p b : SE), (SE.app 43 (.g R (.i p (.i b .nil)))).eval σ = ae (R.eval σ) (p.eval σ) (b.eval σ)) ∧
  (∀ (σ : Nat → List Int) (R b : GE) (p q : SE), (SE.app 44 (.g R (.i p (.g b (.i q .nil))))).eval σ = (nw (R.eval σ) (p.eval σ) (b.eval σ) (q.eval σ)).f) ∧
  (∀ (σ : Nat → List Int) (R b : GE) (p q : SE), (SE.app 45 (.g R (.i p (.g b (.i q .nil))))).eval σ = (nw (R.eval σ) (p.eval σ) (b.eval σ) (q.eval σ)).p) ∧
  (∀ (σ : Nat → List Int) (R b : GE) (p q : SE), (SE.app 46 (.g R (.i p (.g b (.i q .nil))))).eval σ = (nw (R.eval σ) (p.eval σ) (b.eval σ) (q.eval σ)).q) ∧
  (∀ (σ : Nat → List Int) (s : GE), (SE.app 47 (.g s .nil)).eval σ = afk (s.eval σ)) ∧
  (∀ (σ : Nat → List Int) (s : GE), (SE.app 48 (.g s .nil)).eval σ = a42 (s.eval σ)) ∧
  (∀ (σ : Nat → List Int) (s : GE) (p : SE), (SE.app 49 (.g s (.i p .nil))).eval σ = tq (s.eval σ) (p.eval σ)) ∧
  (∀ (σ : Nat → List Int) (s : GE), (SE.app 50 (.g s .nil)).eval σ = jh (s.eval σ)) ∧
  (∀ (σ : Nat → List Int) (d : GE) (p s m t : SE), (SE.app 51 (.g d (.i p (.i s (.i m (.i t .nil)))))).eval σ = (ab7 (d.eval σ) (p.eval σ) (s.eval σ) (m.eval σ) (t.eval σ)).k) ∧
  (∀ (σ : Nat → List Int) (d : GE) (p s m t : SE), (SE.app 52 (.g d (.i p (.i s (.i m (.i t .nil)))))).eval σ = (ab7 (d.eval σ) (p.eval σ) (s.eval σ) (m.eval σ) (t.eval σ)).n) ∧
  (∀ (σ : Nat → List Int) (G : GE), (SE.app 53 (.g G .nil)).eval σ = qc (G.eval σ)) ∧
  (∀ (σ : Nat → List Int) (G s : GE), (SE.app 54 (.g G (.g s .nil))).eval σ = (du (G.eval σ) (s.eval σ)).f) ∧
  (∀ (σ : Nat → List Int) (G s : GE), (SE.app 55 (.g G (.g s .nil))).eval σ = (du (G.eval σ) (s.eval σ)).n) ∧
  (∀ (σ : Nat → List Int) (h : GE) (z : SE), (SE.app 57 (.g h (.i z .nil))).eval σ = (o7 (h.eval σ) (z.eval σ)).f) ∧
  (∀ (σ : Nat → List Int) (h : GE) (z : SE), (SE.app 58 (.g h (.i z .nil))).eval σ = (af1 (h.eval σ) (z.eval σ)).f) ∧
  (∀ (σ : Nat → List Int) (h s : GE), (SE.app 59 (.g h (.g s .nil))).eval σ = (qz (h.eval σ) (s.eval σ)).f) ∧
  (∀ (σ : Nat → List Int) (R h G : GE) (p o : SE), (SE.app 60 (.g R (.i p (.i o (.g h (.g G .nil)))))).eval σ = (al (R.eval σ) (p.eval σ) (o.eval σ) (h.eval σ) (G.eval σ)).f) ∧
  (∀ (σ : Nat → List Int) (R h G : GE) (p o : SE), (SE.app 61 (.g R (.i p (.i o (.g h (.g G .nil)))))).eval σ = (al (R.eval σ) (p.eval σ) (o.eval σ) (h.eval σ) (G.eval σ)).a) ∧
  (∀ (σ : Nat → List Int) (R h G : GE) (p o : SE), (SE.app 62 (.g R (.i p (.i o (.g h (.g G .nil)))))).eval σ = (al (R.eval σ) (p.eval σ) (o.eval σ) (h.eval σ) (G.eval σ)).k) ∧
  (∀ (σ : Nat → List Int) (R h G : GE) (p o : SE), (SE.app 63 (.g R (.i p (.i o (.g h (.g G .nil)))))).eval σ = (al (R.eval σ) (p.eval σ) (o.eval σ) (h.eval σ) (G.eval σ)).n) ∧
  (∀ (σ : Nat → List Int) (R h G : GE) (p o : SE), (SE.app 64 (.g R (.i p (.i o (.g h (.g G .nil)))))).eval σ = (al (R.eval σ) (p.eval σ) (o.eval σ) (h.eval σ) (G.eval σ)).p) ∧
  (∀ (σ : Nat → List Int) (R h G : GE) (p o a c k n : SE), (SE.app 65 (.g R (.i p (.i o (.i a (.i c (.i k (.i n (.g h (.g G .nil)))))))))).eval σ = (lg (R.eval σ) (p.eval σ) (o.eval σ) (a.eval σ) (c.eval σ) (k.eval σ) (n.eval σ) (h.eval σ) (G.eval σ)).f) ∧
  (∀ (σ : Nat → List Int) (R h G : GE) (p o a c k n : SE), (SE.app 66 (.g R (.i p (.i o (.i a (.i c (.i k (.i n (.g h (.g G .nil)))))))))).eval σ = (lg (R.eval σ) (p.eval σ) (o.eval σ) (a.eval σ) (c.eval σ) (k.eval σ) (n.eval σ) (h.eval σ) (G.eval σ)).a) ∧
  (∀ (σ : Nat → List Int) (R h G : GE) (p o a c k n : SE), (SE.app 67 (.g R (.i p (.i o (.i a (.i c (.i k (.i n (.g h (.g G .nil)))))))))).eval σ = (lg (R.eval σ) (p.eval σ) (o.eval σ) (a.eval σ) (c.eval σ) (k.eval σ) (n.eval σ) (h.eval σ) (G.eval σ)).k) ∧
  (∀ (σ : Nat → List Int) (R h G : GE) (p o a c k n : SE), (SE.app 68 (.g R (.i p (.i o (.i a (.i c (.i k (.i n (.g h (.g G .nil)))))))))).eval σ = (lg (R.eval σ) (p.eval σ) (o.eval σ) (a.eval σ) (c.eval σ) (k.eval σ) (n.eval σ) (h.eval σ) (G.eval σ)).n) ∧
  (∀ (σ : Nat → List Int) (R h G : GE) (p o a c k n : SE), (SE.app 69 (.g R (.i p (.i o (.i a (.i c (.i k (.i n (.g h (.g G .nil)))))))))).eval σ = (lg (R.eval σ) (p.eval σ) (o.eval σ) (a.eval σ) (c.eval σ) (k.eval σ) (n.eval σ) (h.eval σ) (G.eval σ)).p) ∧
  (∀ (σ : Nat → List Int) (R h G : GE) (p o a c : SE), (SE.app 70 (.g R (.i p (.i o (.i a (.i c (.g h (.g G .nil)))))))).eval σ = (ud (R.eval σ) (p.eval σ) (o.eval σ) (a.eval σ) (c.eval σ) (h.eval σ) (G.eval σ)).f) ∧
  (∀ (σ : Nat → List Int) (R h G : GE) (p o a c : SE), (SE.app 71 (.g R (.i p (.i o (.i a (.i c (.g h (.g G .nil)))))))).eval σ = (ud (R.eval σ) (p.eval σ) (o.eval σ) (a.eval σ) (c.eval σ) (h.eval σ) (G.eval σ)).a) ∧
  (∀ (σ : Nat → List Int) (R h G : GE) (p o a c : SE), (SE.app 72 (.g R (.i p (.i o (.i a (.i c (.g h (.g G .nil)))))))).eval σ = (ud (R.eval σ) (p.eval σ) (o.eval σ) (a.eval σ) (c.eval σ) (h.eval σ) (G.eval σ)).n) ∧
  (∀ (σ : Nat → List Int) (R h G : GE) (p o a c : SE), (SE.app 73 (.g R (.i p (.i o (.i a (.i c (.g h (.g G .nil)))))))).eval σ = (ud (R.eval σ) (p.eval σ) (o.eval σ) (a.eval σ) (c.eval σ) (h.eval σ) (G.eval σ)).p) ∧
  (∀ (σ : Nat → List Int) (h : GE) (i k n : SE), (SE.app 74 (.i i (.g h (.i k (.i n .nil))))).eval σ = (mn (i.eval σ) (h.eval σ) (k.eval σ) (n.eval σ)).f) ∧
  (∀ (σ : Nat → List Int) (h : GE) (i k n : SE), (SE.app 75 (.i i (.g h (.i k (.i n .nil))))).eval σ = (mn (i.eval σ) (h.eval σ) (k.eval σ) (n.eval σ)).k) ∧
  (∀ (σ : Nat → List Int) (h : GE) (i k n : SE), (SE.app 76 (.i i (.g h (.i k (.i n .nil))))).eval σ = (mn (i.eval σ) (h.eval σ) (k.eval σ) (n.eval σ)).n) ∧
  (∀ (σ : Nat → List Int) (c : SE), (SE.app 77 (.i c .nil)).eval σ = abr (c.eval σ)) ∧
  (∀ (σ : Nat → List Int) (c : SE), (SE.app 78 (.i c .nil)).eval σ = aql (c.eval σ)) ∧
  (∀ (σ : Nat → List Int) (c : SE), (SE.app 79 (.i c .nil)).eval σ = xn (c.eval σ)) ∧
  (∀ (σ : Nat → List Int) (R : GE) (p c n : SE), (SE.app 80 (.g R (.i p (.i c (.i n .nil))))).eval σ = (qx (R.eval σ) (p.eval σ) (c.eval σ) (n.eval σ)).p) ∧
  (∀ (σ : Nat → List Int) (R : GE) (p c n : SE), (SE.app 81 (.g R (.i p (.i c (.i n .nil))))).eval σ = (qx (R.eval σ) (p.eval σ) (c.eval σ) (n.eval σ)).c) ∧
  (∀ (σ : Nat → List Int) (R : GE) (p c n : SE), (SE.app 82 (.g R (.i p (.i c (.i n .nil))))).eval σ = (qx (R.eval σ) (p.eval σ) (c.eval σ) (n.eval σ)).a) ∧
  (∀ (σ : Nat → List Int) (R : GE) (p a : SE), (SE.app 83 (.g R (.i p (.i a .nil)))).eval σ = (aar (R.eval σ) (p.eval σ) (a.eval σ)).f) ∧
  (∀ (σ : Nat → List Int) (R : GE) (p a : SE), (SE.app 84 (.g R (.i p (.i a .nil)))).eval σ = (aar (R.eval σ) (p.eval σ) (a.eval σ)).a) ∧
  (∀ (σ : Nat → List Int) (R : GE) (p a : SE), (SE.app 85 (.g R (.i p (.i a .nil)))).eval σ = (aar (R.eval σ) (p.eval σ) (a.eval σ)).c) ∧
  (∀ (σ : Nat → List Int) (R : GE) (p a : SE), (SE.app 86 (.g R (.i p (.i a .nil)))).eval σ = (aar (R.eval σ) (p.eval σ) (a.eval σ)).p) ∧
  (∀ (σ : Nat → List Int) (R : GE) (p : SE), (SE.app 87 (.g R (.i p .nil))).eval σ = (lu (R.eval σ) (p.eval σ)).f) ∧
  (∀ (σ : Nat → List Int) (R : GE) (p : SE), (SE.app 88 (.g R (.i p .nil))).eval σ = (lu (R.eval σ) (p.eval σ)).a) ∧
  (∀ (σ : Nat → List Int) (R : GE) (p : SE), (SE.app 89 (.g R (.i p .nil))).eval σ = (lu (R.eval σ) (p.eval σ)).c) ∧
  (∀ (σ : Nat → List Int) (R : GE) (p : SE), (SE.app 90 (.g R (.i p .nil))).eval σ = (lu (R.eval σ) (p.eval σ)).p) ∧
  (∀ (σ : Nat → List Int) (R b : GE) (p : SE), (SE.app 91 (.g R (.i p (.g b .nil)))).eval σ = (te (R.eval σ) (p.eval σ) (b.eval σ)).f) ∧
  (∀ (σ : Nat → List Int) (R b : GE) (p : SE), (SE.app 92 (.g R (.i p (.g b .nil)))).eval σ = (te (R.eval σ) (p.eval σ) (b.eval σ)).a) ∧
  (∀ (σ : Nat → List Int) (R b : GE) (p : SE), (SE.app 93 (.g R (.i p (.g b .nil)))).eval σ = (te (R.eval σ) (p.eval σ) (b.eval σ)).p) ∧
  (∀ (σ : Nat → List Int) (R : GE) (p : SE), (SE.app 94 (.g R (.i p .nil))).eval σ = asz (R.eval σ) (p.eval σ)) ∧
  (∀ (σ : Nat → List Int) (R : GE) (p b : SE), (SE.app 95 (.g R (.i p (.i b .nil)))).eval σ = (rm (R.eval σ) (p.eval σ) (b.eval σ)).p) ∧
  (∀ (σ : Nat → List Int) (R : GE) (p b : SE), (SE.app 96 (.g R (.i p (.i b .nil)))).eval σ = (rm (R.eval σ) (p.eval σ) (b.eval σ)).b) ∧
  (∀ (σ : Nat → List Int) (R : GE) (p : SE), (SE.app 97 (.g R (.i p .nil))).eval σ = (o6 (R.eval σ) (p.eval σ)).f) ∧
  (∀ (σ : Nat → List Int) (R : GE) (p : SE), (SE.app 98 (.g R (.i p .nil))).eval σ = (o6 (R.eval σ) (p.eval σ)).a) ∧
  (∀ (σ : Nat → List Int) (R : GE) (p : SE), (SE.app 100 (.g R (.i p .nil))).eval σ = (o6 (R.eval σ) (p.eval σ)).c) ∧
  (∀ (σ : Nat → List Int) (R : GE) (p : SE), (SE.app 101 (.g R (.i p .nil))).eval σ = (o6 (R.eval σ) (p.eval σ)).p) ∧
  (∀ (σ : Nat → List Int) (R : GE) (p : SE), (SE.app 102 (.g R (.i p .nil))).eval σ = (th (R.eval σ) (p.eval σ)).f) ∧
  (∀ (σ : Nat → List Int) (R : GE) (p : SE), (SE.app 103 (.g R (.i p .nil))).eval σ = (th (R.eval σ) (p.eval σ)).a) ∧
  (∀ (σ : Nat → List Int) (R : GE) (p : SE), (SE.app 104 (.g R (.i p .nil))).eval σ = (th (R.eval σ) (p.eval σ)).c) ∧
  (∀ (σ : Nat → List Int) (R : GE) (p : SE), (SE.app 105 (.g R (.i p .nil))).eval σ = (th (R.eval σ) (p.eval σ)).p) ∧
  (∀ (σ : Nat → List Int) (R l h G : GE) (p : SE), (SE.app 106 (.g R (.i p (.g l (.g h (.g G .nil)))))).eval σ = (fj (R.eval σ) (p.eval σ) (l.eval σ) (h.eval σ) (G.eval σ)).f) ∧
  (∀ (σ : Nat → List Int) (R l h G : GE) (p : SE), (SE.app 107 (.g R (.i p (.g l (.g h (.g G .nil)))))).eval σ = (fj (R.eval σ) (p.eval σ) (l.eval σ) (h.eval σ) (G.eval σ)).a) ∧
  (∀ (σ : Nat → List Int) (R : GE) (p : SE), (SE.app 108 (.g R (.i p .nil))).eval σ = alm (R.eval σ) (p.eval σ)) ∧
  (∀ (σ : Nat → List Int) (s : GE) (p : SE), (GE.app 6 (.g s (.i p .nil))).eval σ = ah (s.eval σ) (p.eval σ).toNat) ∧
  (∀ (σ : Nat → List Int) (c : SE), (GE.app 40 (.i c .nil)).eval σ = uj (c.eval σ)) ∧
  (∀ (σ : Nat → List Int) (R b : GE) (p q : SE), (GE.app 44 (.g R (.i p (.g b (.i q .nil))))).eval σ = (nw (R.eval σ) (p.eval σ) (b.eval σ) (q.eval σ)).b) ∧
  (∀ (σ : Nat → List Int) (s : GE), (GE.app 47 (.g s .nil)).eval σ = od (s.eval σ)) ∧
  (∀ (σ : Nat → List Int) (G s : GE), (GE.app 54 (.g G (.g s .nil))).eval σ = (du (G.eval σ) (s.eval σ)).G) ∧
  (∀ (σ : Nat → List Int) (h : GE) (z : SE), (GE.app 57 (.g h (.i z .nil))).eval σ = (o7 (h.eval σ) (z.eval σ)).h) ∧
  (∀ (σ : Nat → List Int) (h : GE) (z : SE), (GE.app 58 (.g h (.i z .nil))).eval σ = (af1 (h.eval σ) (z.eval σ)).h) ∧
  (∀ (σ : Nat → List Int) (h s : GE), (GE.app 59 (.g h (.g s .nil))).eval σ = (qz (h.eval σ) (s.eval σ)).h) ∧
  (∀ (σ : Nat → List Int) (R h G : GE) (p o : SE), (GE.app 60 (.g R (.i p (.i o (.g h (.g G .nil)))))).eval σ = (al (R.eval σ) (p.eval σ) (o.eval σ) (h.eval σ) (G.eval σ)).h) ∧
  (∀ (σ : Nat → List Int) (R h G : GE) (p o : SE), (GE.app 61 (.g R (.i p (.i o (.g h (.g G .nil)))))).eval σ = (al (R.eval σ) (p.eval σ) (o.eval σ) (h.eval σ) (G.eval σ)).G) ∧
  (∀ (σ : Nat → List Int) (R h G : GE) (p o a c k n : SE), (GE.app 65 (.g R (.i p (.i o (.i a (.i c (.i k (.i n (.g h (.g G .nil)))))))))).eval σ = (lg (R.eval σ) (p.eval σ) (o.eval σ) (a.eval σ) (c.eval σ) (k.eval σ) (n.eval σ) (h.eval σ) (G.eval σ)).h) ∧
  (∀ (σ : Nat → List Int) (R h G : GE) (p o a c k n : SE), (GE.app 66 (.g R (.i p (.i o (.i a (.i c (.i k (.i n (.g h (.g G .nil)))))))))).eval σ = (lg (R.eval σ) (p.eval σ) (o.eval σ) (a.eval σ) (c.eval σ) (k.eval σ) (n.eval σ) (h.eval σ) (G.eval σ)).G) ∧
  (∀ (σ : Nat → List Int) (R h G : GE) (p o a c : SE), (GE.app 70 (.g R (.i p (.i o (.i a (.i c (.g h (.g G .nil)))))))).eval σ = (ud (R.eval σ) (p.eval σ) (o.eval σ) (a.eval σ) (c.eval σ) (h.eval σ) (G.eval σ)).h) ∧
  (∀ (σ : Nat → List Int) (R h G : GE) (p o a c : SE), (GE.app 71 (.g R (.i p (.i o (.i a (.i c (.g h (.g G .nil)))))))).eval σ = (ud (R.eval σ) (p.eval σ) (o.eval σ) (a.eval σ) (c.eval σ) (h.eval σ) (G.eval σ)).G) ∧
  (∀ (σ : Nat → List Int) (h : GE) (i k n : SE), (GE.app 74 (.i i (.g h (.i k (.i n .nil))))).eval σ = (mn (i.eval σ) (h.eval σ) (k.eval σ) (n.eval σ)).h) ∧
  (∀ (σ : Nat → List Int) (R b : GE) (p : SE), (GE.app 91 (.g R (.i p (.g b .nil)))).eval σ = (te (R.eval σ) (p.eval σ) (b.eval σ)).b) ∧
  (∀ (σ : Nat → List Int) (R l h G : GE) (p : SE), (GE.app 106 (.g R (.i p (.g l (.g h (.g G .nil)))))).eval σ = (fj (R.eval σ) (p.eval σ) (l.eval σ) (h.eval σ) (G.eval σ)).l) ∧
  (∀ (σ : Nat → List Int) (R l h G : GE) (p : SE), (GE.app 107 (.g R (.i p (.g l (.g h (.g G .nil)))))).eval σ = (fj (R.eval σ) (p.eval σ) (l.eval σ) (h.eval σ) (G.eval σ)).h) ∧
  (∀ (σ : Nat → List Int) (R l h G : GE) (p : SE), (GE.app 108 (.g R (.i p (.g l (.g h (.g G .nil)))))).eval σ = (fj (R.eval σ) (p.eval σ) (l.eval σ) (h.eval σ) (G.eval σ)).G) :=
 ⟨by intros; rfl, by intros; rfl, by intros; rfl, by intros; rfl, by intros; rfl, by intros; rfl, by intros; rfl, by intros; simp only [SE.eval, a51, a2z], by intros; simp only [SE.eval, btx, a2z], by intros; rfl, by intros; rfl, by intros; rfl, by intros; rfl, by intros; rfl, by intros; rfl, by intros; rfl, by intros; rfl, by intros; rfl, by intros; rfl, by intros; rfl, by intros; rfl, by intros; rfl, by intros; rfl, by intros; rfl, by intros; rfl, by intros; rfl, by intros; rfl, by intros; rfl, by intros; rfl, by intros; rfl, by intros; rfl, by intros; rfl, by intros; rfl, by intros; rfl, by intros; rfl, by intros; rfl, by intros; rfl, by intros; rfl, by intros; rfl, by intros; rfl, by intros; rfl, by intros; rfl, by intros; rfl, by intros; rfl, by intros; rfl, by intros; rfl, by intros; rfl, by intros; rfl, by intros; rfl, by intros; rfl, by intros; rfl, by intros; rfl, by intros; rfl, by intros; rfl, by intros; rfl, by intros; rfl, by intros; rfl, by intros; rfl, by intros; rfl, by intros; rfl, by intros; rfl, by intros; rfl, by intros; rfl, by intros; rfl, by intros; rfl, by intros; rfl, by intros; rfl, by intros; rfl, by intros; rfl, by intros; rfl, by intros; rfl, by intros; rfl, by intros; rfl, by intros; rfl, by intros; rfl, by intros; rfl, by intros; rfl, by intros; rfl, by intros; rfl, by intros; rfl, by intros; rfl, by intros; rfl, by intros; rfl, by intros; rfl, by intros; rfl, by intros; rfl, by intros; rfl, by intros; rfl, by intros; rfl, by intros; rfl, by intros; rfl, by intros; rfl, by intros; rfl, by intros; rfl, by intros; rfl, by intros; rfl, by intros; rfl, by intros; rfl, by intros; rfl, by intros; rfl, by intros; rfl, by intros; rfl, by intros; rfl, by intros; rfl, by intros; rfl, by intros; rfl, by intros; rfl, by intros; rfl, by intros; rfl, by intros; rfl, by intros; rfl⟩
theorem wr : (∀ x : Int, -9223372036854775808 ≤ x ∧ x ≤ 9223372036854775807 → IntKind.i64.wrap x = x) ∧ (∀ x : Int, -2147483648 ≤ x ∧ x ≤ 2147483647 → IntKind.i32.wrap x = x) ∧
  (∀ x : Int, 0 ≤ x ∧ x ≤ 4294967295 → IntKind.u32.wrap x = x) ∧ (∀ x : Int, 0 ≤ x ∧ x ≤ 255 → IntKind.u8.wrap x = x) ∧ (∀ x : Int, IntKind.u64.wrap x = x % 18446744073709551616) ∧ (∀ x : Int, 0 ≤ x ∧ x ≤ 18446744073709551615 → x % 18446744073709551616 = x) ∧
  (∀ x : Int, x + 0 = x) ∧ (∀ x : Int, 0 + x = x) ∧ (∀ x : Int, -1 * x = -x) ∧ (∀ x y : Int, x + -y = x - y) ∧ (∀ x : Int, ([x] : List Int).headD 0 = x) ∧ (∀ (α : Type) (a b : α), (if True then a else b) = a) ∧ (∀ (α : Type) (a b : α), (if False then a else b) = b) ∧ (¬True ↔ False) ∧ (¬False ↔ True) ∧ (∀ p : Prop, (False ∧ p ↔ False)) ∧ (∀ p : Prop, (True ∧ p ↔ p)) ∧ (∀ p : Prop, (p ∧ False ↔ False)) ∧ (∀ p : Prop, (p ∧ True ↔ p)) ∧ (∀ p : Prop, (p ∨ True ↔ True)) ∧ (∀ p : Prop, (p ∨ False ↔ p)) ∧ (∀ p : Prop, (True ∨ p ↔ True)) ∧ (∀ p : Prop, (False ∨ p ↔ p)) ∧ (∀ p : Prop, ((True → p) ↔ p)) ∧ (∀ p : Prop, ((False → p) ↔ True)) ∧ (∀ x : Int, x + 1 + 1 = x + 2) ∧ (∀ x : Int, x + 1 + 2 = x + 3) ∧ (∀ x : Int, x + 2 + 1 = x + 3) ∧ (∀ l m : List Int, (((l ++ m).length : Nat) : Int) = (l.length : Int) + (m.length : Int)) ∧ (∀ (p : Prop) [Decidable p], ((if p then (1 : Int) else 0) = 1 ↔ p)) ∧ ((0 : Int).toNat = 0) ∧ ((1 : Int).toNat = 1) ∧ ((2 : Int).toNat = 2) :=
 ⟨fun _ h => bnu h, fun _ h => b02 h, fun _ h => bt1 h, fun _ h => b2s h, fun x => by simp only [IntKind.wrap, IntKind.bits, IntKind.signed]; simp, fun x h => Int.emod_eq_of_lt h.1 (by omega), Int.add_zero, Int.zero_add, fun x => (Int.neg_eq_neg_one_mul x).symm, fun _ _ => Int.sub_eq_add_neg.symm, fun _ => rfl, fun _ _ _ => if_pos trivial, fun _ _ _ => if_neg id, by simp, by simp, by simp, by simp, by simp, by simp, by simp, by simp, by simp, by simp, by simp, by simp, by omega, by omega, by omega, by simp, fun p _ => by by_cases h : p <;> simp [h], rfl, rfl, rfl⟩
end Go.Ev
set_option maxRecDepth 100000
set_option linter.all false
namespace Go.Ev
section
variable {σ : Nat → List Int}
open Classical in
theorem s42 {g : GE} : (SA.mk false (.app 42 (.g g .nil)) (.c 1) true).holds σ ↔ gd (g.eval σ) := by
 show decide (bq1 42 [g.eval σ] = 1) = true ↔ _
 rw [decide_eq_true_iff]
 exact bj8
theorem gl [Gv] (a b : SE) : (SA.mk true a b true).holds Gv.σ ∧ a.eval Gv.σ < b.eval Gv.σ ∨ (SA.mk true a b false).holds Gv.σ ∧ b.eval Gv.σ ≤ a.eval Gv.σ := sl a b
theorem gq [Gv] (a b : SE) : (SA.mk false a b true).holds Gv.σ ∧ a.eval Gv.σ = b.eval Gv.σ ∨ (SA.mk false a b false).holds Gv.σ ∧ ¬ a.eval Gv.σ = b.eval Gv.σ := se a b
theorem bT [Gv] (a b : SE) (h : a.eval Gv.σ < b.eval Gv.σ) : (SA.mk true a b true).holds Gv.σ := avf h
theorem bF [Gv] (a b : SE) (h : b.eval Gv.σ ≤ a.eval Gv.σ) : (SA.mk true a b false).holds Gv.σ := akk (by omega)
theorem bE [Gv] (a b : SE) (h : a.eval Gv.σ = b.eval Gv.σ) : (SA.mk false a b true).holds Gv.σ := bkf h
theorem bN [Gv] (a b : SE) (h : ¬ a.eval Gv.σ = b.eval Gv.σ) : (SA.mk false a b false).holds Gv.σ := bom h
theorem aj {A B : List SA} (h : SAll σ (A ++ B)) : SAll σ A ∧ SAll σ B := ⟨fun x hx => h x (List.mem_append_left _ hx), fun x hx => h x (List.mem_append_right _ hx)⟩
theorem brj {R : List Int} (hR : gd R) (i : Nat) : 0 ≤ R.getD i 0 ∧ R.getD i 0 < 1114112 := by
 by_cases h : i < R.length
 ·have := hR.2 (R[i]) (List.getElem_mem h)
  rw [show R.getD i 0 = R[i] by simp [List.getD, h]]; exact this
 ·rw [show R.getD i 0 = 0 by simp [List.getD, Nat.le_of_not_lt h]]; omega
theorem pz (hR : gd (σ 0)) (e : SE) : 0 ≤ (SE.rd (.s 0) e).eval σ ∧ (SE.rd (.s 0) e).eval σ < 1114112 := brj hR _
theorem f40 (a : SE) : 1 ≤ (SE.len (.app 40 (.i a .nil))).eval σ ∧ (SE.len (.app 40 (.i a .nil))).eval σ ≤ 4 := by
 show 1 ≤ ((uj (a.eval σ)).length : Int) ∧ ((uj (a.eval σ)).length : Int) ≤ 4
 unfold uj
 repeat' split
 all_goals (simp only [List.length_cons, List.length_nil]; omega)
theorem br0 : (GE.lit 3 15712189).eval σ = [239, 191, 189] := by
 simp only [GE.eval]
 decide +kernel
theorem dy (R : List Int) (p b : Int) : ae R p b = if p < (R.length : Int) then
  if b = 1 then ae R (p + 1) (if R.getD p.toNat 0 = 10 then 0 else 1)
  else if R.getD p.toNat 0 = 59 then ae R (p + 1) 1
  else if ape (R.getD p.toNat 0) = 1 then ae R (p + 1) 0
  else p
 else p := by
 conv => lhs; rw [ae]
 split <;> rfl
theorem dm (R : List Int) : ∀ (n : Nat) (p b : Int), ((R.length : Int) - p).toNat ≤ n → p ≤ (R.length : Int) → ae R p b ≤ (R.length : Int)
 | 0, p, b, h, hp => by rw [dy, if_neg (by omega)]; omega
 | n + 1, p, b, h, hp => by
   rw [dy]
   split
   ·split
    ·exact dm R n (p + 1) _ (by omega) (by omega)
    ·split
     ·exact dm R n (p + 1) 1 (by omega) (by omega)
     ·split
      ·exact dm R n (p + 1) 0 (by omega) (by omega)
      ·omega
   ·omega
theorem f43 (a b : SE) : a.eval σ ≤ (SE.app 43 (.g (.s 0) (.i a (.i b .nil)))).eval σ ∧ (a.eval σ ≤ ((σ 0).length : Int) → (SE.app 43 (.g (.s 0) (.i a (.i b .nil)))).eval σ ≤ ((σ 0).length : Int)) :=
 ⟨d8 _ _ _, fun h => dm _ _ _ _ (Nat.le_refl _) h⟩
end
end Go.Ev
set_option maxRecDepth 100000
set_option linter.all false
namespace Go.Ev
/- Lemmas that carry their tactic as a default: what is decided is kept in one list. -/
section
variable [Gv]
theorem zh {A : List SA} (hI : SAll Gv.σ A) {l : List TM} (h : ∀ t ∈ l, ap t) : o9 (ahw A l) := asg hI _ h
theorem zp {A : List SA} (hI : SAll Gv.σ A) {l : List LT} (h : ∀ t ∈ l, ba t) : aex (b2d A l) := btg hI _ h
theorem zm0 {P : Prop} {f : FuncId} {us : List AV} {nxi : Nat} {Li : List HO} {A : List SA} {r : TR} {nxo : Nat} {Lo : List HO} (T : List (Nat × Nat)) {H : ahd} (hH : o9 H) {L : tu} (hL : aex L) (hA : SAll Gv.σ A) (hx : Nat.blt nxi 65536 = true := by rfl) (ht : ye Li = true := by rfl) (h : ai8 T nxi nxo .nil Lo r (enter (aez H L 2000) f (aVs A us) (aq (aHO A Li) nxi)) = true := by kernel_rfl) : P → bh f us nxi Li r nxo Lo := fun _ => y4 (E := .nil) hH hL hA trivial hx ht h
theorem zm {P : Prop} {f : FuncId} {us : List AV} {nxi : Nat} {Li : List HO} {A : List SA} {r : TR} {nxo : Nat} {Lo : List HO} (T : List (Nat × Nat)) (E : EqL) {H : ahd} (hH : o9 H) {L : tu} (hL : aex L) (hA : SAll Gv.σ A) (hE : E.all Gv.σ) (hx : Nat.blt nxi 65536 = true := by rfl) (ht : ye Li = true := by rfl) (h : ai8 T nxi nxo E Lo r (enter (aez H L 2000) f (aVs A us) (aq (aHO A Li) nxi)) = true := by kernel_rfl) : P → bh f us nxi Li r nxo Lo := fun _ => y4 (E := E) hH hL hA hE hx ht h
theorem zt0 {P : Prop} {f k : Nat} {us : List AV} {nxi : Nat} {Li : List HO} {A : List SA} {r : LR} {nxo : Nat} {Lo : List HO} (T : List (Nat × Nat)) {H : ahd} (hH : o9 H) {L : tu} (hL : aex L) (hA : SAll Gv.σ A) (hx : Nat.blt nxi 65536 = true := by rfl) (ht : ye Li = true := by rfl) (h : w5 T nxi nxo .nil Lo (cj us) r (qs (tr f k) (aez H L 2000) (.mk f (cj us) false none) (.mk (kc (aVs A us) 0 j4) [] .none (aq (aHO A Li) nxi))) = true := by kernel_rfl) : P → cg f k us nxi Li r nxo Lo := fun _ => rp (E := .nil) hH hL hA trivial hx ht h
theorem zt {P : Prop} {f k : Nat} {us : List AV} {nxi : Nat} {Li : List HO} {A : List SA} {r : LR} {nxo : Nat} {Lo : List HO} (T : List (Nat × Nat)) (E : EqL) {H : ahd} (hH : o9 H) {L : tu} (hL : aex L) (hA : SAll Gv.σ A) (hE : E.all Gv.σ) (hx : Nat.blt nxi 65536 = true := by rfl) (ht : ye Li = true := by rfl) (h : w5 T nxi nxo E Lo (cj us) r (qs (tr f k) (aez H L 2000) (.mk f (cj us) false none) (.mk (kc (aVs A us) 0 j4) [] .none (aq (aHO A Li) nxi))) = true := by kernel_rfl) : P → cg f k us nxi Li r nxo Lo := fun _ => rp (E := E) hH hL hA hE hx ht h
theorem zd0 {P : Prop} {f k : Nat} {us : List AV} {ds : List AD} {nxi : Nat} {Li : List HO} {A : List SA} {r : LR} {nxo : Nat} {Lo : List HO} (T : List (Nat × Nat)) {H : ahd} (hH : o9 H) {L : tu} (hL : aex L) (hA : SAll Gv.σ A) (hx : Nat.blt nxi 65536 = true := by rfl) (ht : ye Li = true := by rfl) (hd : afa ds = true := by rfl) (h : yg T nxi nxo .nil Lo (cj us) ds r (qs (tr f k) (aez H L 2000) (.mk f (cj us) false none) (.mk (kc (aVs A us) 0 j4) (aAD A ds) .none (aq (aHO A Li) nxi))) = true := by kernel_rfl) : P → aba f k us ds nxi Li r nxo Lo := fun _ => aug (E := .nil) hH hL hA trivial hx ht hd h
theorem zd {P : Prop} {f k : Nat} {us : List AV} {ds : List AD} {nxi : Nat} {Li : List HO} {A : List SA} {r : LR} {nxo : Nat} {Lo : List HO} (T : List (Nat × Nat)) (E : EqL) {H : ahd} (hH : o9 H) {L : tu} (hL : aex L) (hA : SAll Gv.σ A) (hE : E.all Gv.σ) (hx : Nat.blt nxi 65536 = true := by rfl) (ht : ye Li = true := by rfl) (hd : afa ds = true := by rfl) (h : yg T nxi nxo E Lo (cj us) ds r (qs (tr f k) (aez H L 2000) (.mk f (cj us) false none) (.mk (kc (aVs A us) 0 j4) (aAD A ds) .none (aq (aHO A Li) nxi))) = true := by kernel_rfl) : P → aba f k us ds nxi Li r nxo Lo := fun _ => aug (E := E) hH hL hA hE hx ht hd h
theorem zl1 {L : List SA} (hI : SAll Gv.σ L) (a b : SE) {x y : Int} (ha : a.eval Gv.σ = x := by (try simp (disch := omega) only [evs, wr]); rfl) (hb : b.eval Gv.σ = y := by (try simp (disch := omega) only [evs, wr]); rfl) : SAll Gv.σ (.mk true a b true :: L) ∧ x < y ∨ SAll Gv.σ (.mk true a b false :: L) ∧ y ≤ x := by subst ha hb; exact (gl a b).imp (fun h => ⟨sc h.1 hI, h.2⟩) (fun h => ⟨sc h.1 hI, h.2⟩)
theorem zf1 {p q : Prop} (h : p) (e : p = q := by (try simp (disch := omega) only [evs, wr]); rfl) : q := e ▸ h
theorem zT1 {L : List SA} (hI : SAll Gv.σ L) (a b : SE) (h : a.eval Gv.σ < b.eval Gv.σ := by simp (disch := omega) only [evs, wr] <;> omega) : SAll Gv.σ (.mk true a b true :: L) := sc (bT a b h) hI
theorem zF1 {L : List SA} (hI : SAll Gv.σ L) (a b : SE) (h : b.eval Gv.σ ≤ a.eval Gv.σ := by simp (disch := omega) only [evs, wr] <;> omega) : SAll Gv.σ (.mk true a b false :: L) := sc (bF a b h) hI
theorem zq1 {L : List SA} (hI : SAll Gv.σ L) (a b : SE) {x y : Int} (ha : a.eval Gv.σ = x := by (try simp (disch := omega) only [evs, wr]); rfl) (hb : b.eval Gv.σ = y := by (try simp (disch := omega) only [evs, wr]); rfl) : SAll Gv.σ (.mk false a b true :: L) ∧ x = y ∨ SAll Gv.σ (.mk false a b false :: L) ∧ ¬ x = y := by subst ha hb; exact (gq a b).imp (fun h => ⟨sc h.1 hI, h.2⟩) (fun h => ⟨sc h.1 hI, h.2⟩)
theorem zE1 {L : List SA} (hI : SAll Gv.σ L) (a b : SE) (h : a.eval Gv.σ = b.eval Gv.σ := by simp (disch := omega) only [evs, wr] <;> omega) : SAll Gv.σ (.mk false a b true :: L) := sc (bE a b h) hI
theorem zN1 {L : List SA} (hI : SAll Gv.σ L) (a b : SE) (h : ¬ a.eval Gv.σ = b.eval Gv.σ := by simp (disch := omega) only [evs, wr] <;> omega) : SAll Gv.σ (.mk false a b false :: L) := sc (bN a b h) hI
theorem zf2 {p q : Prop} (h : p) (e : p = q := by (try simp (disch := omega) only [if_pos, if_neg, ape, wr]); rfl) : q := e ▸ h
theorem zn1 {A : List SA} {P : Prop} (h : SAll Gv.σ A → False := by intro h; simp (disch := omega) only [sall_cons, sT, sF, sE, sN, evs, wr, u] at h <;> omega) : SAll Gv.σ A → P := fun x => (h x).elim
theorem ze1 {E : EqL} (h : E.all Gv.σ := by simp (disch := omega) only [EqL.all, and_true, evs, wr, u] <;> omega) : E.all Gv.σ := h
theorem zf3 {p q : Prop} (h : p) (e : p = q := by (try simp (disch := omega) only [if_pos, if_neg, sh8, lo8]); rfl) : q := e ▸ h
theorem ze2 {E : EqL} (h : E.all Gv.σ := by simp (disch := omega) only [EqL.all, and_true, evs, wr, u, sh8, lo8, br0, List.cons_append, List.nil_append, List.length_cons, List.length_nil] <;> omega) : E.all Gv.σ := h
theorem zf4 {p q : Prop} (h : p) (e : p = q := by (try simp (disch := omega) only [if_pos, if_neg, wr]); rfl) : q := e ▸ h
theorem zf5 {p q : Prop} (h : p) (e : p = q := by (try simp (disch := omega) only [if_pos, if_neg, wr, List.nil_append]); rfl) : q := e ▸ h
theorem ze3 {E : EqL} (h : E.all Gv.σ := by simp (disch := omega) only [EqL.all, and_true, evs, wr, u, List.nil_append] <;> omega) : E.all Gv.σ := h
theorem zf6 {p q : Prop} (h : p) (e : p = q := by (try simp (disch := omega) only [k1, if_pos, if_neg, wr, u2]); rfl) : q := e ▸ h
theorem zn2 {A : List SA} {P : Prop} (h : SAll Gv.σ A → False := by intro h; simp (disch := omega) only [sall_cons, sT, sF, sE, sN, evs, wr, afk, bbg, u2, u] at h <;> omega) : SAll Gv.σ A → P := fun x => (h x).elim
theorem ze4 {E : EqL} (h : E.all Gv.σ := by simp (disch := omega) only [EqL.all, and_true, evs, wr, afk, bbg, u2, u] <;> omega) : E.all Gv.σ := h
theorem zf7 {p q : Prop} (h : p) (e : p = q := by (try simp (disch := omega) only [if_pos, if_neg]); rfl) : q := e ▸ h
theorem zf8 {p q : Prop} (h : p) (e : p = q := by (try simp (disch := omega) only [br, if_pos, if_neg, wr]); rfl) : q := e ▸ h
theorem zf9 {p q : Prop} (h : p) (e : p = q := by (try simp (disch := omega) only [if_pos, if_neg, ite_self, wr]); rfl) : q := e ▸ h
theorem aev {p q : Prop} (h : p) (e : p = q := by (try simp (disch := omega) only [bg, br6, if_pos, if_neg, wr]); rfl) : q := e ▸ h
theorem zn3 {A : List SA} {P : Prop} (h : SAll Gv.σ A → False := by intro h; simp (disch := omega) only [sall_cons, sT, sF, sE, sN, evs, wr, if_pos, if_neg, gd3, u] at h <;> omega) : SAll Gv.σ A → P := fun x => (h x).elim
theorem zn4 {A : List SA} {P : Prop} (h : SAll Gv.σ A → False := by intro h; simp (disch := omega) only [sall_cons, sT, sF, sE, sN, evs, wr, anv, if_pos, if_neg, gd3, u] at h <;> omega) : SAll Gv.σ A → P := fun x => (h x).elim
theorem zn5 {A : List SA} {P : Prop} (h : SAll Gv.σ A → False := by intro h; simp (disch := omega) only [sall_cons, sT, sF, sE, sN, evs, wr, ahm, if_pos, if_neg, gd3, u] at h <;> omega) : SAll Gv.σ A → P := fun x => (h x).elim
theorem ze5 {E : EqL} (h : E.all Gv.σ := by simp (disch := omega) only [EqL.all, and_true, evs, wr, if_pos, if_neg, gd3, u] <;> omega) : E.all Gv.σ := h
theorem ze6 {E : EqL} (h : E.all Gv.σ := by simp (disch := omega) only [EqL.all, and_true, evs, wr, anv, if_pos, if_neg, gd3, u] <;> omega) : E.all Gv.σ := h
theorem ze7 {E : EqL} (h : E.all Gv.σ := by simp (disch := omega) only [EqL.all, and_true, evs, wr, ahm, if_pos, if_neg, gd3, u] <;> omega) : E.all Gv.σ := h
theorem b9u {L : List SA} (hI : SAll Gv.σ L) (a b : SE) {x y : Int} (ha : a.eval Gv.σ = x := by (try simp (disch := omega) only [evs, wr, Int.sub_add_cancel]); rfl) (hb : b.eval Gv.σ = y := by (try simp (disch := omega) only [evs, wr, Int.sub_add_cancel]); rfl) : SAll Gv.σ (.mk true a b true :: L) ∧ x < y ∨ SAll Gv.σ (.mk true a b false :: L) ∧ y ≤ x := by subst ha hb; exact (gl a b).imp (fun h => ⟨sc h.1 hI, h.2⟩) (fun h => ⟨sc h.1 hI, h.2⟩)
theorem a0k {p q : Prop} (h : p) (e : p = q := by (try simp (disch := omega) only [evs, wr, Int.sub_add_cancel]); rfl) : q := e ▸ h
theorem bth {L : List SA} (hI : SAll Gv.σ L) (a b : SE) (h : a.eval Gv.σ < b.eval Gv.σ := by simp (disch := omega) only [evs, wr, Int.sub_add_cancel] <;> omega) : SAll Gv.σ (.mk true a b true :: L) := sc (bT a b h) hI
theorem bty {L : List SA} (hI : SAll Gv.σ L) (a b : SE) (h : b.eval Gv.σ ≤ a.eval Gv.σ := by simp (disch := omega) only [evs, wr, Int.sub_add_cancel] <;> omega) : SAll Gv.σ (.mk true a b false :: L) := sc (bF a b h) hI
theorem b0h {L : List SA} (hI : SAll Gv.σ L) (a b : SE) {x y : Int} (ha : a.eval Gv.σ = x := by (try simp (disch := omega) only [evs, wr, Int.sub_add_cancel]); rfl) (hb : b.eval Gv.σ = y := by (try simp (disch := omega) only [evs, wr, Int.sub_add_cancel]); rfl) : SAll Gv.σ (.mk false a b true :: L) ∧ x = y ∨ SAll Gv.σ (.mk false a b false :: L) ∧ ¬ x = y := by subst ha hb; exact (gq a b).imp (fun h => ⟨sc h.1 hI, h.2⟩) (fun h => ⟨sc h.1 hI, h.2⟩)
theorem arb {L : List SA} (hI : SAll Gv.σ L) (a b : SE) {x y : Int} (ha : a.eval Gv.σ = x := by (try simp (disch := omega) only [evs, wr, List.length_nil]); rfl) (hb : b.eval Gv.σ = y := by (try simp (disch := omega) only [evs, wr, List.length_nil]); rfl) : SAll Gv.σ (.mk true a b true :: L) ∧ x < y ∨ SAll Gv.σ (.mk true a b false :: L) ∧ y ≤ x := by subst ha hb; exact (gl a b).imp (fun h => ⟨sc h.1 hI, h.2⟩) (fun h => ⟨sc h.1 hI, h.2⟩)
theorem au {p q : Prop} (h : p) (e : p = q := by (try simp (disch := omega) only [evs, wr, List.length_nil]); rfl) : q := e ▸ h
theorem fu {L : List SA} (hI : SAll Gv.σ L) (a b : SE) (h : a.eval Gv.σ < b.eval Gv.σ := by simp (disch := omega) only [evs, wr, List.length_nil] <;> omega) : SAll Gv.σ (.mk true a b true :: L) := sc (bT a b h) hI
theorem be {L : List SA} (hI : SAll Gv.σ L) (a b : SE) (h : b.eval Gv.σ ≤ a.eval Gv.σ := by simp (disch := omega) only [evs, wr, List.length_nil] <;> omega) : SAll Gv.σ (.mk true a b false :: L) := sc (bF a b h) hI
theorem jf {L : List SA} (hI : SAll Gv.σ L) (a b : SE) {x y : Int} (ha : a.eval Gv.σ = x := by (try simp (disch := omega) only [evs, wr, List.length_nil]); rfl) (hb : b.eval Gv.σ = y := by (try simp (disch := omega) only [evs, wr, List.length_nil]); rfl) : SAll Gv.σ (.mk false a b true :: L) ∧ x = y ∨ SAll Gv.σ (.mk false a b false :: L) ∧ ¬ x = y := by subst ha hb; exact (gq a b).imp (fun h => ⟨sc h.1 hI, h.2⟩) (fun h => ⟨sc h.1 hI, h.2⟩)
theorem bn2 {L : List SA} (hI : SAll Gv.σ L) (a b : SE) (h : ¬ a.eval Gv.σ = b.eval Gv.σ := by simp (disch := omega) only [evs, wr, List.length_nil] <;> omega) : SAll Gv.σ (.mk false a b false :: L) := sc (bN a b h) hI
theorem tg {p q : Prop} (h : p) (e : p = q := by (try simp (disch := omega) only [if_pos, if_neg, List.nil_append, wr]); rfl) : q := e ▸ h
theorem zn6 {A : List SA} {P : Prop} (h : SAll Gv.σ A → False := by intro h; simp (disch := omega) only [sall_cons, sT, sF, sE, sN, evs, wr, azc, List.cons_append, List.nil_append, u] at h <;> omega) : SAll Gv.σ A → P := fun x => (h x).elim
theorem zn7 {A : List SA} {P : Prop} (h : SAll Gv.σ A → False := by intro h; simp (disch := omega) only [sall_cons, sT, sF, sE, sN, evs, wr, Int.sub_add_cancel, e0, u2, e1, u] at h <;> omega) : SAll Gv.σ A → P := fun x => (h x).elim
theorem zn8 {A : List SA} {P : Prop} (h : SAll Gv.σ A → False := by intro h; simp (disch := omega) only [sall_cons, sT, sF, sE, sN, evs, wr, Int.sub_add_cancel, e1, u] at h <;> omega) : SAll Gv.σ A → P := fun x => (h x).elim
theorem zn9 {A : List SA} {P : Prop} (h : SAll Gv.σ A → False := by intro h; simp (disch := omega) only [sall_cons, sT, sF, sE, sN, evs, wr, List.nil_append, List.length_nil, u] at h <;> omega) : SAll Gv.σ A → P := fun x => (h x).elim
theorem ze8 {E : EqL} (h : E.all Gv.σ := by simp (disch := omega) only [EqL.all, and_true, evs, wr, azc, List.cons_append, List.nil_append, u] <;> omega) : E.all Gv.σ := h
theorem ze9 {E : EqL} (h : E.all Gv.σ := by simp (disch := omega) only [EqL.all, and_true, evs, wr, Int.sub_add_cancel, e0, u2, e1, u] <;> omega) : E.all Gv.σ := h
theorem b9b {E : EqL} (h : E.all Gv.σ := by simp (disch := omega) only [EqL.all, and_true, evs, wr, Int.sub_add_cancel, e1, u] <;> omega) : E.all Gv.σ := h
theorem s8 {E : EqL} (h : E.all Gv.σ := by simp (disch := omega) only [EqL.all, and_true, evs, wr, List.nil_append, List.length_nil, u] <;> omega) : E.all Gv.σ := h
theorem ajf {L : List SA} (hI : SAll Gv.σ L) (a b : SE) {x y : Int} (ha : a.eval Gv.σ = x := by (try simp (disch := omega) only [evs, wr, acd, vj, List.length_nil]); rfl) (hb : b.eval Gv.σ = y := by (try simp (disch := omega) only [evs, wr, acd, vj, List.length_nil]); rfl) : SAll Gv.σ (.mk true a b true :: L) ∧ x < y ∨ SAll Gv.σ (.mk true a b false :: L) ∧ y ≤ x := by subst ha hb; exact (gl a b).imp (fun h => ⟨sc h.1 hI, h.2⟩) (fun h => ⟨sc h.1 hI, h.2⟩)
theorem ca {p q : Prop} (h : p) (e : p = q := by (try simp (disch := omega) only [evs, wr, acd, vj, List.length_nil]); rfl) : q := e ▸ h
theorem abt {L : List SA} (hI : SAll Gv.σ L) (a b : SE) (h : a.eval Gv.σ < b.eval Gv.σ := by simp (disch := omega) only [evs, wr, acd, vj, List.length_nil] <;> omega) : SAll Gv.σ (.mk true a b true :: L) := sc (bT a b h) hI
theorem d9 {L : List SA} (hI : SAll Gv.σ L) (a b : SE) (h : b.eval Gv.σ ≤ a.eval Gv.σ := by simp (disch := omega) only [evs, wr, acd, vj, List.length_nil] <;> omega) : SAll Gv.σ (.mk true a b false :: L) := sc (bF a b h) hI
theorem li {L : List SA} (hI : SAll Gv.σ L) (a b : SE) {x y : Int} (ha : a.eval Gv.σ = x := by (try simp (disch := omega) only [evs, wr, acd, vj, List.length_nil]); rfl) (hb : b.eval Gv.σ = y := by (try simp (disch := omega) only [evs, wr, acd, vj, List.length_nil]); rfl) : SAll Gv.σ (.mk false a b true :: L) ∧ x = y ∨ SAll Gv.σ (.mk false a b false :: L) ∧ ¬ x = y := by subst ha hb; exact (gq a b).imp (fun h => ⟨sc h.1 hI, h.2⟩) (fun h => ⟨sc h.1 hI, h.2⟩)
theorem bz6 {L : List SA} (hI : SAll Gv.σ L) (a b : SE) (h : a.eval Gv.σ = b.eval Gv.σ := by simp (disch := omega) only [evs, wr, acd, vj, List.length_nil] <;> omega) : SAll Gv.σ (.mk false a b true :: L) := sc (bE a b h) hI
theorem cav {L : List SA} (hI : SAll Gv.σ L) (a b : SE) (h : ¬ a.eval Gv.σ = b.eval Gv.σ := by simp (disch := omega) only [evs, wr, acd, vj, List.length_nil] <;> omega) : SAll Gv.σ (.mk false a b false :: L) := sc (bN a b h) hI
theorem gi {A : List SA} {P : Prop} (h : SAll Gv.σ A → False := by intro h; simp (disch := omega) only [sall_cons, sT, sF, sE, sN, evs, wr, acd, vj, ax, hM, u] at h <;> omega) : SAll Gv.σ A → P := fun x => (h x).elim
theorem gp {E : EqL} (h : E.all Gv.σ := by simp (disch := omega) only [EqL.all, and_true, evs, wr, acd, vj, ax, hM, u] <;> omega) : E.all Gv.σ := h
theorem lz {p q : Prop} (h : p) (e : p = q := by (try simp (disch := omega) only [br, bg, bj, bru, hM, afg, bad, if_pos, if_neg, wr]); rfl) : q := e ▸ h
theorem l6 {A : List SA} {P : Prop} (h : SAll Gv.σ A → False := by intro h; simp (disch := omega) only [sall_cons, sT, sF, sE, sN, evs, wr, afg, ax, u] at h <;> omega) : SAll Gv.σ A → P := fun x => (h x).elim
theorem lv {E : EqL} (h : E.all Gv.σ := by simp (disch := omega) only [EqL.all, and_true, evs, wr, afg, ax, u] <;> omega) : E.all Gv.σ := h
theorem bfq {A : List SA} {P : Prop} (h : SAll Gv.σ A → False := by intro h; simp (disch := omega) only [sall_cons, sT, sF, sE, sN, evs, wr, List.cons_append, List.nil_append, List.length_cons, u] at h <;> omega) : SAll Gv.σ A → P := fun x => (h x).elim
theorem b88 {E : EqL} (h : E.all Gv.σ := by simp (disch := omega) only [EqL.all, and_true, evs, wr, List.cons_append, List.nil_append, List.length_cons, u] <;> omega) : E.all Gv.σ := h
theorem a75 {L : List SA} (hI : SAll Gv.σ L) (a b : SE) {x y : Int} (ha : a.eval Gv.σ = x := by (try simp (disch := omega) only [evs, evx, wr, List.cons_append, List.nil_append]); rfl) (hb : b.eval Gv.σ = y := by (try simp (disch := omega) only [evs, evx, wr, List.cons_append, List.nil_append]); rfl) : SAll Gv.σ (.mk true a b true :: L) ∧ x < y ∨ SAll Gv.σ (.mk true a b false :: L) ∧ y ≤ x := by subst ha hb; exact (gl a b).imp (fun h => ⟨sc h.1 hI, h.2⟩) (fun h => ⟨sc h.1 hI, h.2⟩)
theorem xx {p q : Prop} (h : p) (e : p = q := by (try simp (disch := omega) only [evs, evx, wr, List.cons_append, List.nil_append]); rfl) : q := e ▸ h
theorem as2 {L : List SA} (hI : SAll Gv.σ L) (a b : SE) (h : a.eval Gv.σ < b.eval Gv.σ := by simp (disch := omega) only [evs, evx, wr, List.cons_append, List.nil_append] <;> omega) : SAll Gv.σ (.mk true a b true :: L) := sc (bT a b h) hI
theorem abq {L : List SA} (hI : SAll Gv.σ L) (a b : SE) (h : b.eval Gv.σ ≤ a.eval Gv.σ := by simp (disch := omega) only [evs, evx, wr, List.cons_append, List.nil_append] <;> omega) : SAll Gv.σ (.mk true a b false :: L) := sc (bF a b h) hI
theorem ay3 {L : List SA} (hI : SAll Gv.σ L) (a b : SE) {x y : Int} (ha : a.eval Gv.σ = x := by (try simp (disch := omega) only [evs, evx, wr, List.cons_append, List.nil_append]); rfl) (hb : b.eval Gv.σ = y := by (try simp (disch := omega) only [evs, evx, wr, List.cons_append, List.nil_append]); rfl) : SAll Gv.σ (.mk false a b true :: L) ∧ x = y ∨ SAll Gv.σ (.mk false a b false :: L) ∧ ¬ x = y := by subst ha hb; exact (gq a b).imp (fun h => ⟨sc h.1 hI, h.2⟩) (fun h => ⟨sc h.1 hI, h.2⟩)
theorem ac0 {L : List SA} (hI : SAll Gv.σ L) (a b : SE) (h : a.eval Gv.σ = b.eval Gv.σ := by simp (disch := omega) only [evs, evx, wr, List.cons_append, List.nil_append] <;> omega) : SAll Gv.σ (.mk false a b true :: L) := sc (bE a b h) hI
theorem bg0 {L : List SA} (hI : SAll Gv.σ L) (a b : SE) (h : ¬ a.eval Gv.σ = b.eval Gv.σ := by simp (disch := omega) only [evs, evx, wr, List.cons_append, List.nil_append] <;> omega) : SAll Gv.σ (.mk false a b false :: L) := sc (bN a b h) hI
theorem brt {L : List SA} (hI : SAll Gv.σ L) (a b : SE) (h : a.eval Gv.σ < b.eval Gv.σ := by simp (disch := omega) only [evs, evx, wr] <;> omega) : SAll Gv.σ (.mk true a b true :: L) := sc (bT a b h) hI
theorem ml {A : List SA} {P : Prop} (h : SAll Gv.σ A → False := by intro h; simp (disch := omega) only [sall_cons, sT, sF, sE, sN, evs, evx, wr, List.cons_append, List.nil_append, u] at h <;> omega) : SAll Gv.σ A → P := fun x => (h x).elim
theorem b0s {E : EqL} (h : E.all Gv.σ := by simp (disch := omega) only [EqL.all, and_true, evs, evx, wr, u] <;> omega) : E.all Gv.σ := h
theorem b7r {E : EqL} (h : E.all Gv.σ := by simp (disch := omega) only [EqL.all, and_true, evs, evx, wr, List.cons_append, List.nil_append, u] <;> omega) : E.all Gv.σ := h
theorem b3y {L : List SA} (hI : SAll Gv.σ L) (a b : SE) {x y : Int} (ha : a.eval Gv.σ = x := by (try simp (disch := omega) only [evs, evx, wr, List.cons_append, List.nil_append, List.length_append, List.length_cons, List.length_nil]); rfl) (hb : b.eval Gv.σ = y := by (try simp (disch := omega) only [evs, evx, wr, List.cons_append, List.nil_append, List.length_append, List.length_cons, List.length_nil]); rfl) : SAll Gv.σ (.mk true a b true :: L) ∧ x < y ∨ SAll Gv.σ (.mk true a b false :: L) ∧ y ≤ x := by subst ha hb; exact (gl a b).imp (fun h => ⟨sc h.1 hI, h.2⟩) (fun h => ⟨sc h.1 hI, h.2⟩)
theorem as4 {p q : Prop} (h : p) (e : p = q := by (try simp (disch := omega) only [evs, evx, wr, List.cons_append, List.nil_append, List.length_append, List.length_cons, List.length_nil]); rfl) : q := e ▸ h
theorem b6c {L : List SA} (hI : SAll Gv.σ L) (a b : SE) (h : a.eval Gv.σ < b.eval Gv.σ := by simp (disch := omega) only [evs, evx, wr, List.cons_append, List.nil_append, List.length_append, List.length_cons, List.length_nil] <;> omega) : SAll Gv.σ (.mk true a b true :: L) := sc (bT a b h) hI
theorem ahv {L : List SA} (hI : SAll Gv.σ L) (a b : SE) (h : b.eval Gv.σ ≤ a.eval Gv.σ := by simp (disch := omega) only [evs, evx, wr, List.cons_append, List.nil_append, List.length_append, List.length_cons, List.length_nil] <;> omega) : SAll Gv.σ (.mk true a b false :: L) := sc (bF a b h) hI
theorem bpi {L : List SA} (hI : SAll Gv.σ L) (a b : SE) {x y : Int} (ha : a.eval Gv.σ = x := by (try simp (disch := omega) only [evs, evx, wr, List.cons_append, List.nil_append, List.length_append, List.length_cons, List.length_nil]); rfl) (hb : b.eval Gv.σ = y := by (try simp (disch := omega) only [evs, evx, wr, List.cons_append, List.nil_append, List.length_append, List.length_cons, List.length_nil]); rfl) : SAll Gv.σ (.mk false a b true :: L) ∧ x = y ∨ SAll Gv.σ (.mk false a b false :: L) ∧ ¬ x = y := by subst ha hb; exact (gq a b).imp (fun h => ⟨sc h.1 hI, h.2⟩) (fun h => ⟨sc h.1 hI, h.2⟩)
theorem b99 {L : List SA} (hI : SAll Gv.σ L) (a b : SE) (h : a.eval Gv.σ = b.eval Gv.σ := by simp (disch := omega) only [evs, evx, wr, List.cons_append, List.nil_append, List.length_append, List.length_cons, List.length_nil] <;> omega) : SAll Gv.σ (.mk false a b true :: L) := sc (bE a b h) hI
theorem a4m {p q : Prop} (h : p) (e : p = q := by (try simp (disch := omega) only [if_pos, if_neg, wr, List.cons_append, List.nil_append]); rfl) : q := e ▸ h
theorem alh {A : List SA} {P : Prop} (h : SAll Gv.σ A → False := by intro h; simp (disch := omega) only [sall_cons, sT, sF, sE, sN, evs, evx, wr, List.cons_append, List.nil_append, List.length_append, List.length_cons, List.length_nil, u] at h <;> omega) : SAll Gv.σ A → P := fun x => (h x).elim
theorem a6p {E : EqL} (h : E.all Gv.σ := by simp (disch := omega) only [EqL.all, and_true, evs, evx, wr, List.cons_append, List.nil_append, List.length_append, List.length_cons, List.length_nil, u] <;> omega) : E.all Gv.σ := h
end
end Go.Ev
set_option maxRecDepth 100000
set_option linter.all false
namespace Go.Ev
abbrev a7u : AL := .g (.s 0) (.i (.v 1) (.i (.c 0) .nil))
abbrev ny : SE := .app 43 a7u
abbrev a4z : List SA := [.mk true ny (.len (.s 0)) false]
abbrev a6j : List SA := [.mk true ny (.len (.s 0)) true]
abbrev a5k : AL := .g (.s 0) (.i (.v 1) (.i (.c 1) .nil))
abbrev afy : SE := .app 43 a5k
abbrev blm : List SA := [.mk true afy (.len (.s 0)) false]
abbrev bor : List SA := [.mk true afy (.len (.s 0)) true]
abbrev afz : SE := .rd (.s 0) (.v 1)
abbrev dk : SE := .bin 0 .i64 (.v 1) (.c 1)
abbrev aek : SE := .app 43 (.g (.s 0) (.i dk (.i (.c 1) .nil)))
abbrev c9 : SE := .bin 6 .i64 (.len (.s 0)) (.bin 7 .i64 (.c (-1)) dk)
abbrev j0 : SE := .bin 6 .i64 (.len (.s 0)) (.bin 7 .i64 (.c (-1)) (.v 1))
abbrev je : SE := .app 43 (.g (.s 0) (.i dk (.i (.c 0) .nil)))
noncomputable section
def rdO (k h t r : Nat) (p o : SE) : HO := .mk k (.cells 65 false 0 0 [.ptr (K.of h) 0, .ptr (K.of t) 0, .gv (.sl (K.of r) 1 (.len (.s 0)) []), .sym .i64 p [], .sym .i64 o []])
def rwO (r : Nat) : HO := .mk r (.gob (.gh 3 [.i64] (.len (.s 0)) (.s 0)))
def tps (n : Nat) : List AV := List.replicate n .top
def s1 (k : Nat) (a b : SE) : SE := .app k (.g (.s 0) (.i a (.i b .nil)))
def mLn : SE := .bin 6 .i64 (.len (.s 0)) (.bin 7 .i64 (.c (-1)) (.v 1))
def pI : List SA := [.mk false (.app 42 (.g (.s 0) .nil)) (.c 1) true, .mk true (.v 1) (.c 0) false, .mk true (.len (.s 0)) (.v 1) false]
def bhn : List AV := [.ptr (K.of 256) 0, .top, .bool false] ++ tps 39
def bht : List HO := [rdO 256 258 259 257 (.v 1) (.v 2), rwO 257]
def bjp : List HO := [rdO 256 258 259 257 (.app 43 a7u) (.v 2), rwO 257]
def bn0 : LR := (.x 0 (.ptr (K.of 256) 0 :: tps 41))
def b3d (m : SE) : LT := .mk 36 3 bhn 260 bht (pI ++ a4z) (some (mLn, m)) bn0 260 bjp
def buy : LT := .mk 36 3 bhn 260 bht (pI ++ a4z) none bn0 260 bjp
def bm7 : List HO := [rdO 256 258 259 257 (.app 43 a7u) (.v 2), rwO 257]
def bj9 : LR := (.r (.ptr (K.of 256) 0 :: tps 41))
def b01 (m : SE) : LT := .mk 36 3 bhn 260 bht (pI ++ a6j) (some (mLn, m)) bj9 260 bm7
def bxr : LT := .mk 36 3 bhn 260 bht (pI ++ a6j) none bj9 260 bm7
def bq5 : List AV := [.ptr (K.of 256) 0, .top, .bool true] ++ tps 39
def bs4 : List HO := [rdO 256 258 259 257 (.v 1) (.v 2), rwO 257]
def byy : List HO := [rdO 256 258 259 257 (.app 43 a5k) (.v 2), rwO 257]
def bwv : LR := (.x 0 (.ptr (K.of 256) 0 :: tps 41))
def b3f (m : SE) : LT := .mk 36 3 bq5 260 bs4 (pI ++ blm) (some (mLn, m)) bwv 260 byy
def bx9 : List HO := [rdO 256 258 259 257 (.app 43 a5k) (.v 2), rwO 257]
def bur : LR := (.r (.ptr (K.of 256) 0 :: tps 41))
def b3k (m : SE) : LT := .mk 36 3 bq5 260 bs4 (pI ++ bor) (some (mLn, m)) bur 260 bx9
end
theorem qj {σ : Nat → List Int} (h : SAll σ pI) : gd (σ 0) ∧ 0 ≤ (σ 1).headD 0 ∧ (σ 1).headD 0 ≤ ((σ 0).length : Int) ∧ (σ 0).length ≤ 4000 := by
 simp only [pI, sall_cons, s42, sF, evs] at h
 exact ⟨h.1, h.2.1, h.2.2.1, h.1.1⟩
def b06 [Gv] : Prop := (SAll Gv.σ a4z → cg 36 3 bhn 260 bht bn0 260 bjp) ∧ (SAll Gv.σ a6j → cg 36 3 bhn 260 bht bj9 260 bm7)
theorem b4w [Gv] (hh : ∀ t ∈ [b3d mLn, b01 mLn, b3f mLn, b3k mLn], ba t) (hI : SAll Gv.σ pI) : b06 := by
 obtain ⟨hR, hp0, hpl, hL⟩ := qj hI
 rcases zl1 hI (.v 1) (.len (.s 0)) with ⟨hI, k1⟩ | ⟨hI, k1⟩
 ·have := zf1 (pz hR (.v 1))
  rcases zq1 hI afz (.c 59) with ⟨hI, k2⟩ | ⟨hI, k2⟩
  ·have hI := zF1 hI dk (.c 0)
   have hI := zF1 hI (.len (.s 0)) dk
   have := zf1 (f43 (σ := Gv.σ) dk (.c 1))
   rcases zl1 hI aek (.len (.s 0)) with ⟨hI, k5⟩ | ⟨hI, k5⟩
   ·have hI := zT1 hI c9 j0
    have hI := zF1 hI c9 (.c 0)
    have := zf1 (f43 (σ := Gv.σ) (.v 1) (.c 0))
    have u := zf2 (dy (Gv.σ 0) ((Gv.σ 1).headD 0) 0)
    exact ⟨zn1,
     zt [] (.i aek ny .nil) af (ao _ hh) hI ze1⟩
   ·have hI := zT1 hI c9 j0
    have hI := zF1 hI c9 (.c 0)
    have := zf1 (f43 (σ := Gv.σ) (.v 1) (.c 0))
    have u := zf2 (dy (Gv.σ 0) ((Gv.σ 1).headD 0) 0)
    exact ⟨zt [] (.i aek ny .nil) af (ao _ hh) hI ze1,
     zn1⟩
  ·rcases zq1 hI afz (.c 9) with ⟨hI, k3⟩ | ⟨hI, k3⟩
   ·have hI := zF1 hI dk (.c 0)
    have hI := zF1 hI (.len (.s 0)) dk
    have := zf1 (f43 (σ := Gv.σ) dk (.c 0))
    rcases zl1 hI je (.len (.s 0)) with ⟨hI, k6⟩ | ⟨hI, k6⟩
    ·have hI := zT1 hI c9 j0
     have hI := zF1 hI c9 (.c 0)
     have := zf1 (f43 (σ := Gv.σ) (.v 1) (.c 0))
     have u := zf2 (dy (Gv.σ 0) ((Gv.σ 1).headD 0) 0)
     exact ⟨zn1,
      zt [] (.i je ny .nil) af (ao _ hh) hI ze1⟩
    ·have hI := zT1 hI c9 j0
     have hI := zF1 hI c9 (.c 0)
     have := zf1 (f43 (σ := Gv.σ) (.v 1) (.c 0))
     have u := zf2 (dy (Gv.σ 0) ((Gv.σ 1).headD 0) 0)
     exact ⟨zt [] (.i je ny .nil) af (ao _ hh) hI ze1,
      zn1⟩
   ·rcases zq1 hI afz (.c 10) with ⟨hI, k4⟩ | ⟨hI, k4⟩
    ·have hI := zF1 hI dk (.c 0)
     have hI := zF1 hI (.len (.s 0)) dk
     have := zf1 (f43 (σ := Gv.σ) dk (.c 0))
     rcases zl1 hI je (.len (.s 0)) with ⟨hI, k7⟩ | ⟨hI, k7⟩
     ·have hI := zT1 hI c9 j0
      have hI := zF1 hI c9 (.c 0)
      have := zf1 (f43 (σ := Gv.σ) (.v 1) (.c 0))
      have u := zf2 (dy (Gv.σ 0) ((Gv.σ 1).headD 0) 0)
      exact ⟨zn1,
       zt [] (.i je ny .nil) af (ao _ hh) hI ze1⟩
     ·have hI := zT1 hI c9 j0
      have hI := zF1 hI c9 (.c 0)
      have := zf1 (f43 (σ := Gv.σ) (.v 1) (.c 0))
      have u := zf2 (dy (Gv.σ 0) ((Gv.σ 1).headD 0) 0)
      exact ⟨zt [] (.i je ny .nil) af (ao _ hh) hI ze1,
       zn1⟩
    ·rcases zq1 hI afz (.c 12) with ⟨hI, k5⟩ | ⟨hI, k5⟩
     ·have hI := zF1 hI dk (.c 0)
      have hI := zF1 hI (.len (.s 0)) dk
      have := zf1 (f43 (σ := Gv.σ) dk (.c 0))
      rcases zl1 hI je (.len (.s 0)) with ⟨hI, k8⟩ | ⟨hI, k8⟩
      ·have hI := zT1 hI c9 j0
       have hI := zF1 hI c9 (.c 0)
       have := zf1 (f43 (σ := Gv.σ) (.v 1) (.c 0))
       have u := zf2 (dy (Gv.σ 0) ((Gv.σ 1).headD 0) 0)
       exact ⟨zn1,
        zt [] (.i je ny .nil) af (ao _ hh) hI ze1⟩
      ·have hI := zT1 hI c9 j0
       have hI := zF1 hI c9 (.c 0)
       have := zf1 (f43 (σ := Gv.σ) (.v 1) (.c 0))
       have u := zf2 (dy (Gv.σ 0) ((Gv.σ 1).headD 0) 0)
       exact ⟨zt [] (.i je ny .nil) af (ao _ hh) hI ze1,
        zn1⟩
     ·rcases zq1 hI afz (.c 13) with ⟨hI, k6⟩ | ⟨hI, k6⟩
      ·have hI := zF1 hI dk (.c 0)
       have hI := zF1 hI (.len (.s 0)) dk
       have := zf1 (f43 (σ := Gv.σ) dk (.c 0))
       rcases zl1 hI je (.len (.s 0)) with ⟨hI, k9⟩ | ⟨hI, k9⟩
       ·have hI := zT1 hI c9 j0
        have hI := zF1 hI c9 (.c 0)
        have := zf1 (f43 (σ := Gv.σ) (.v 1) (.c 0))
        have u := zf2 (dy (Gv.σ 0) ((Gv.σ 1).headD 0) 0)
        exact ⟨zn1,
         zt [] (.i je ny .nil) af (ao _ hh) hI ze1⟩
       ·have hI := zT1 hI c9 j0
        have hI := zF1 hI c9 (.c 0)
        have := zf1 (f43 (σ := Gv.σ) (.v 1) (.c 0))
        have u := zf2 (dy (Gv.σ 0) ((Gv.σ 1).headD 0) 0)
        exact ⟨zt [] (.i je ny .nil) af (ao _ hh) hI ze1,
         zn1⟩
      ·rcases zq1 hI afz (.c 32) with ⟨hI, k7⟩ | ⟨hI, k7⟩
       ·have hI := zF1 hI dk (.c 0)
        have hI := zF1 hI (.len (.s 0)) dk
        have := zf1 (f43 (σ := Gv.σ) dk (.c 0))
        rcases zl1 hI je (.len (.s 0)) with ⟨hI, k10⟩ | ⟨hI, k10⟩
        ·have hI := zT1 hI c9 j0
         have hI := zF1 hI c9 (.c 0)
         have := zf1 (f43 (σ := Gv.σ) (.v 1) (.c 0))
         have u := zf2 (dy (Gv.σ 0) ((Gv.σ 1).headD 0) 0)
         exact ⟨zn1,
          zt [] (.i je ny .nil) af (ao _ hh) hI ze1⟩
        ·have hI := zT1 hI c9 j0
         have hI := zF1 hI c9 (.c 0)
         have := zf1 (f43 (σ := Gv.σ) (.v 1) (.c 0))
         have u := zf2 (dy (Gv.σ 0) ((Gv.σ 1).headD 0) 0)
         exact ⟨zt [] (.i je ny .nil) af (ao _ hh) hI ze1,
          zn1⟩
       ·have := zf1 (f43 (σ := Gv.σ) (.v 1) (.c 0))
        have u := zf2 (dy (Gv.σ 0) ((Gv.σ 1).headD 0) 0)
        exact ⟨zn1,
         zt [] (.i (.v 1) ny .nil) af (ao _ hh) hI ze1⟩
 ·have := zf1 (f43 (σ := Gv.σ) (.v 1) (.c 0))
  have u := zf2 (dy (Gv.σ 0) ((Gv.σ 1).headD 0) 0)
  exact ⟨zt [] (.i (.v 1) ny .nil) af (ao _ hh) hI ze1,
   zn1⟩
def b1h [Gv] : Prop := (SAll Gv.σ blm → cg 36 3 bq5 260 bs4 bwv 260 byy) ∧ (SAll Gv.σ bor → cg 36 3 bq5 260 bs4 bur 260 bx9)
theorem b6j [Gv] (hh : ∀ t ∈ [b3d mLn, b01 mLn, b3f mLn, b3k mLn], ba t) (hI : SAll Gv.σ pI) : b1h := by
 obtain ⟨hR, hp0, hpl, hL⟩ := qj hI
 rcases zl1 hI (.v 1) (.len (.s 0)) with ⟨hI, k1⟩ | ⟨hI, k1⟩
 ·have := zf1 (pz hR (.v 1))
  rcases zq1 hI afz (.c 10) with ⟨hI, k2⟩ | ⟨hI, k2⟩
  ·have hI := zF1 hI dk (.c 0)
   have hI := zF1 hI (.len (.s 0)) dk
   have := zf1 (f43 (σ := Gv.σ) dk (.c 0))
   rcases zl1 hI je (.len (.s 0)) with ⟨hI, k5⟩ | ⟨hI, k5⟩
   ·have hI := zT1 hI c9 j0
    have hI := zF1 hI c9 (.c 0)
    have := zf1 (f43 (σ := Gv.σ) (.v 1) (.c 1))
    have u := zf2 (dy (Gv.σ 0) ((Gv.σ 1).headD 0) 1)
    exact ⟨zn1,
     zt [] (.i je afy .nil) af (ao _ hh) hI ze1⟩
   ·have hI := zT1 hI c9 j0
    have hI := zF1 hI c9 (.c 0)
    have := zf1 (f43 (σ := Gv.σ) (.v 1) (.c 1))
    have u := zf2 (dy (Gv.σ 0) ((Gv.σ 1).headD 0) 1)
    exact ⟨zt [] (.i je afy .nil) af (ao _ hh) hI ze1,
     zn1⟩
  ·have hI := zF1 hI dk (.c 0)
   have hI := zF1 hI (.len (.s 0)) dk
   have := zf1 (f43 (σ := Gv.σ) dk (.c 1))
   rcases zl1 hI aek (.len (.s 0)) with ⟨hI, k5⟩ | ⟨hI, k5⟩
   ·have hI := zT1 hI c9 j0
    have hI := zF1 hI c9 (.c 0)
    have := zf1 (f43 (σ := Gv.σ) (.v 1) (.c 1))
    have u := zf2 (dy (Gv.σ 0) ((Gv.σ 1).headD 0) 1)
    exact ⟨zn1,
     zt [] (.i aek afy .nil) af (ao _ hh) hI ze1⟩
   ·have hI := zT1 hI c9 j0
    have hI := zF1 hI c9 (.c 0)
    have := zf1 (f43 (σ := Gv.σ) (.v 1) (.c 1))
    have u := zf2 (dy (Gv.σ 0) ((Gv.σ 1).headD 0) 1)
    exact ⟨zt [] (.i aek afy .nil) af (ao _ hh) hI ze1,
     zn1⟩
 ·have := zf1 (f43 (σ := Gv.σ) (.v 1) (.c 1))
  have u := zf2 (dy (Gv.σ 0) ((Gv.σ 1).headD 0) 1)
  exact ⟨zt [] (.i (.v 1) afy .nil) af (ao _ hh) hI ze1,
   zn1⟩
theorem a56 : ∀ (B : Nat) (σ : Nat → List Int), SAll σ pI → (mLn).eval σ < (B : Int) → @b06 ⟨σ⟩ ∧ @b1h ⟨σ⟩
 | 0, σ, hI, hb => by obtain ⟨h1, h2, h3, h4⟩ := qj hI; simp only [mLn, evs, wr] at hb; omega
 | B + 1, σ, hI, hb => by
   have ih : ∀ σ' : Nat → List Int, SAll σ' pI → 0 ≤ (mLn).eval σ' ∧ (mLn).eval σ' < (mLn).eval σ → @b06 ⟨σ'⟩ ∧ @b1h ⟨σ'⟩ := fun σ' h h' => a56 B σ' h (by omega)
   have hh : ∀ t ∈ [b3d (mLn), b01 (mLn), b3f (mLn), b3k (mLn)], @ba ⟨σ⟩ t := by
    intro t ht
    simp only [List.mem_cons, List.not_mem_nil, or_false] at ht
    rcases ht with rfl | rfl | rfl | rfl
    ·exact fun σ' _ hA hb => (ih σ' (aj hA).1 hb).1.1 (aj hA).2
    ·exact fun σ' _ hA hb => (ih σ' (aj hA).1 hb).1.2 (aj hA).2
    ·exact fun σ' _ hA hb => (ih σ' (aj hA).1 hb).2.1 (aj hA).2
    ·exact fun σ' _ hA hb => (ih σ' (aj hA).1 hb).2.2 (aj hA).2
   exact ⟨@b4w ⟨σ⟩ hh hI, @b6j ⟨σ⟩ hh hI⟩
theorem brl [Gv] : ba buy := fun σ _ hA _ => (a56 (((mLn).eval σ).toNat + 1) σ (aj hA).1 (by omega)).1.1 (aj hA).2
theorem bqj [Gv] : ba bxr := fun σ _ hA _ => (a56 (((mLn).eval σ).toNat + 1) σ (aj hA).1 (by omega)).1.2 (aj hA).2
end Go.Ev
set_option maxRecDepth 100000
set_option linter.all false
namespace Go.Ev
theorem br (R : List Int) (p : Int) : chA R p = if p < (R.length : Int) then R.getD p.toNat 0 else -1 := by
 conv => lhs; unfold chA
 try rfl
theorem jd (c : Int) : xu c = if c = 40 ∨ c = 41 ∨ c = 91 ∨ c = 93 ∨ c = 34 ∨ c = 39 ∨ c = 96 ∨ c = 44 ∨ c = 59 ∨ ape c = 1 then 1 else 0 := by
 conv => lhs; unfold xu
 try rfl
theorem bg (R : List Int) (p : Int) : alm R p = if p < (R.length : Int) then xu (R.getD p.toNat 0) else 1 := by
 conv => lhs; unfold alm
 try rfl
theorem oo (c : Int) : uj c =
 if 127 < c then
  if 2047 < c then
   if c < 55296 then [kg 9 .u8 224 (sh8 c 12), lo8 (sh8 c 6), lo8 (IntKind.u8.wrap c)]
   else if 57343 < c then
    if 65535 < c then [kg 9 .u8 240 (sh8 c 18), lo8 (sh8 c 12), lo8 (sh8 c 6), lo8 (IntKind.u8.wrap c)]
    else [kg 9 .u8 224 (sh8 c 12), lo8 (sh8 c 6), lo8 (IntKind.u8.wrap c)]
   else [239, 191, 189]
  else [kg 9 .u8 192 (sh8 c 6), lo8 (IntKind.u8.wrap c)]
 else [c] := by
 conv => lhs; unfold uj
 try rfl
theorem dg (R : List Int) (p : Int) (b : List Int) (q : Int) : nw R p b q =
 if p < (R.length : Int) then
  if xu (R.getD p.toNat 0) = 1 then ⟨0, p, b, q⟩
  else if R.getD p.toNat 0 = 92 then
   (if p + 1 < (R.length : Int) then nw R (p + 2) (b ++ uj (R.getD (p + 1).toNat 0)) 1 else ⟨5, 0, [], 0⟩)
  else nw R (p + 1) (b ++ uj (R.getD p.toNat 0)) q
 else ⟨0, p, b, q⟩ := by
 conv => lhs; unfold nw
 try rfl
theorem jl (d : List Int) (p sum most fits : Int) : ab7 d p sum most fits =
 if p < (d.length : Int) then
  if drJ d p < 48 ∨ 57 < drJ d p then ⟨0, 0⟩
  else if 0 < dwJ d p then
   (if most < (sum * 10 % 18446744073709551616 + (drJ d p - 48)) % 18446744073709551616 then ab7 d (p + dwJ d p) most most 0
    else ab7 d (p + dwJ d p) ((sum * 10 % 18446744073709551616 + (drJ d p - 48)) % 18446744073709551616) most fits)
  else ⟨0, 0⟩
 else ⟨if fits = 1 then 1 else 2, sum⟩ := by
 conv => lhs; unfold ab7
 try rfl
theorem wk (s : List Int) : a7o s = if s.getD 0 0 = 45 then 1 else 0 := by
 conv => lhs; unfold a7o
 try rfl
theorem ua (s : List Int) : a6b s = if od s = [] ∨ (s.length : Int) - ((od s).length : Int) > 1 then ⟨0, 0⟩ else ab7 (od s) 0 0 (if a7o s = 1 then 2305843009213693952 else 2305843009213693951) 1 := by
 conv => lhs; unfold a6b
 try rfl
theorem bbg (s : List Int) : a42 s = if a7o s = 1 then -(a6b s).n else (a6b s).n := by
 conv => lhs; unfold a42
 try rfl
theorem amb (s : List Int) (p : Int) : tq s p =
 if p < (s.length : Int) then (if 0 < dwJ s p then 1 + tq s (p + dwJ s p) else 0) else 0 := by
 conv => lhs; unfold tq
 try rfl
theorem pd (G s : List Int) : du G s =
 if jh s = 0 then ⟨5, 0, G⟩
 else if 1000 < tq s 0 then ⟨4, 0, G⟩
 else if a51 G s = 1 then ⟨0, btx G s, G⟩
 else if qc G < 16384 then ⟨0, qc G, qc G :: (s.length : Int) :: (s ++ G)⟩
 else ⟨7, 0, G⟩ := by
 conv => lhs; unfold du
 try rfl
theorem br1 (h : List Int) (z : Int) : o7 h z = if hM h = hL h ∨ 1048576 < hU h + z then ⟨7, h⟩ else ⟨0, [hL h, hM h + 1, hU h + z]⟩ := by
 conv => lhs; unfold o7
 try rfl
theorem anv (h : List Int) (n : Int) : af1 h n = if 65536 < n then ⟨4, h⟩ else o7 h n := by
 conv => lhs; unfold af1
 try rfl
theorem ahm (h s : List Int) : qz h s = if jh s = 0 then ⟨5, h⟩ else if 65536 < tq s 0 then ⟨4, h⟩ else o7 h (tq s 0) := by
 conv => lhs; unfold qz
 try rfl
theorem aht (c : Int) : abr c = if c = 110 then 10 else if c = 116 then 9 else if c = 101 then 27 else -1 := by
 conv => lhs; unfold abr
 try rfl
theorem wn (c : Int) : aql c = if 48 ≤ c ∧ c ≤ 57 then c - 48 else if 97 ≤ c ∧ c ≤ 102 then c - 87 else if 65 ≤ c ∧ c ≤ 70 then c - 55 else -1 := by
 conv => lhs; unfold aql
 try rfl
theorem aeu (R : List Int) (p c n : Int) : qx R p c n =
 if n < 6 ∧ p < (R.length : Int) then
  if aql (R.getD p.toNat 0) < 0 then ⟨0, n, c, p⟩
  else qx R (p + 1) (kg 9 .i64 (kg 11 .i64 c 4) (aql (R.getD p.toNat 0))) (n + 1)
 else ⟨0, n, c, p⟩ := by
 conv => lhs; unfold qx
 try rfl
theorem pj (c : Int) : xn c = if 0 ≤ c ∧ c ≤ 1114111 ∧ ¬(55296 ≤ c ∧ c ≤ 57343) then 1 else 0 := by
 conv => lhs; unfold xn
 try rfl
theorem ad9 (R : List Int) (p at_ : Int) : aar R p at_ =
 if (qx R p 0 0).p < (R.length : Int) then
  if (qx R p 0 0).a = 0 ∨ R.getD (qx R p 0 0).p.toNat 0 ≠ 92 ∨ xn (qx R p 0 0).c = 0 then ⟨5, at_, 0, 0⟩
  else ⟨0, 0, (qx R p 0 0).c, (qx R p 0 0).p + 1⟩
 else ⟨5, (R.length : Int), 0, 0⟩ := by
 conv => lhs; unfold aar
 try rfl
theorem ur (R : List Int) (p : Int) : lu R p =
 if p < (R.length : Int) then
  if R.getD p.toNat 0 = 10 then ⟨0, 0, -1, p + 1⟩
  else if R.getD p.toNat 0 = 92 ∨ R.getD p.toNat 0 = 34 then ⟨0, 0, R.getD p.toNat 0, p + 1⟩
  else if R.getD p.toNat 0 = 120 then aar R (p + 1) (p - 1)
  else if abr (R.getD p.toNat 0) < 0 then ⟨5, p - 1, 0, 0⟩
  else ⟨0, 0, abr (R.getD p.toNat 0), p + 1⟩
 else ⟨5, (R.length : Int), 0, 0⟩ := by
 conv => lhs; unfold lu
 try rfl
theorem df (R : List Int) (p : Int) (b : List Int) : te R p b =
 if p < (R.length : Int) then
  if R.getD p.toNat 0 = 34 then ⟨0, 0, b, p + 1⟩
  else if R.getD p.toNat 0 = 92 then
   (if (lu R (p + 1)).f = 0 then
     (if p < (lu R (p + 1)).p then
       (if (lu R (p + 1)).c < 0 then te R (lu R (p + 1)).p b else te R (lu R (p + 1)).p (b ++ uj (lu R (p + 1)).c))
      else ⟨5, 0, [], 0⟩)
    else ⟨(lu R (p + 1)).f, (lu R (p + 1)).a, [], 0⟩)
  else te R (p + 1) (b ++ uj (R.getD p.toNat 0))
 else ⟨5, (R.length : Int), [], 0⟩ := by
 conv => lhs; unfold te
 try rfl
theorem uq (R : List Int) (p : Int) : asz R p = if chA R p = 92 ∧ chA R (p + 2) = 45 then (if chA R (p + 1) = 67 then 67108864 else if chA R (p + 1) = 77 then 134217728 else if chA R (p + 1) = 83 then 33554432 else 0) else 0 := by
 conv => lhs; unfold asz
 try rfl
theorem am3 (R : List Int) (p b : Int) : rm R p b =
 if p < (R.length : Int) then (if asz R p = 0 then ⟨p, b⟩ else rm R (p + 3) (kg 9 .i64 b (asz R p))) else ⟨p, b⟩ := by
 conv => lhs; unfold rm
 try rfl
theorem ot (R : List Int) (p : Int) : o6 R p =
 if p < (R.length : Int) then
  if R.getD p.toNat 0 = 92 then
   (if p + 1 < (R.length : Int) then
     (if abr (R.getD (p + 1).toNat 0) < 0 then
       (if R.getD (p + 1).toNat 0 = 115 then ⟨0, 0, 32, p + 2⟩
        else if R.getD (p + 1).toNat 0 = 100 then ⟨0, 0, 127, p + 2⟩
        else if 97 ≤ R.getD (p + 1).toNat 0 ∧ R.getD (p + 1).toNat 0 ≤ 122 ∨ 65 ≤ R.getD (p + 1).toNat 0 ∧ R.getD (p + 1).toNat 0 ≤ 90 then ⟨5, p, 0, 0⟩
        else ⟨0, 0, R.getD (p + 1).toNat 0, p + 2⟩)
      else ⟨0, 0, abr (R.getD (p + 1).toNat 0), p + 2⟩)
    else ⟨5, (R.length : Int), 0, 0⟩)
  else ⟨0, 0, R.getD p.toNat 0, p + 1⟩
 else ⟨5, (R.length : Int), 0, 0⟩ := by
 conv => lhs; unfold o6
 try rfl
theorem br6 (c b : Int) : btz c b =
 if kg 8 .i64 b 67108864 = 0 then kg 9 .i64 c b
 else if 97 ≤ c ∧ c ≤ 122 ∨ 64 ≤ c ∧ c ≤ 95 then kg 9 .i64 (c.tmod 32) (kg 13 .i64 b 67108864)
 else if c = 63 then kg 9 .i64 127 (kg 13 .i64 b 67108864)
 else kg 9 .i64 c b := by
 conv => lhs; unfold btz
 try rfl
theorem gk (R : List Int) (q : Int) : th R q =
 if (o6 R (rm R (q + 1) 0).p).f = 0 then
  if alm R (o6 R (rm R (q + 1) 0).p).p = 1 then ⟨0, 0, btz (o6 R (rm R (q + 1) 0).p).c (rm R (q + 1) 0).b, (o6 R (rm R (q + 1) 0).p).p⟩
  else ⟨5, (o6 R (rm R (q + 1) 0).p).p, 0, 0⟩
 else ⟨(o6 R (rm R (q + 1) 0).p).f, (o6 R (rm R (q + 1) 0).p).a, 0, 0⟩ := by
 conv => lhs; unfold th
 try rfl
theorem bl (G s : List Int) (at_ p : Int) (h : List Int) : akm G s at_ p h = if (du G s).f = 0 then ⟨0, 0, 1, (du G s).n, p, h, (du G s).G⟩ else bad (du G s).f at_ := by
 conv => lhs; unfold akm
 try rfl
theorem bpp (t : TK) (len q : Int) (h G : List Int) : ave t len q h G =
 if t.f = 0 then
  if t.q = 0 ∧ afk t.b = 2 then bad 15 q
  else if t.q = 0 ∧ afk t.b = 1 then ⟨0, 0, 0, a42 t.b, t.p, h, G⟩
  else if t.q = 0 ∧ t.b = [46] then bad 5 q
  else if 1000 < tq t.b 0 then bad 4 q
  else akm G t.b q t.p h
 else bad 5 len := by
 conv => lhs; unfold ave
 try rfl
theorem bo (t : TX) (q : Int) (h G : List Int) : a7w t q h G =
 if t.f = 0 then (if (qz h t.b).f = 0 then ⟨0, 0, 3, hM h, t.p, (qz h t.b).h, G⟩ else bad (qz h t.b).f q) else bad t.f t.a := by
 conv => lhs; unfold a7w
 try rfl
theorem bp (t : ER) (h G : List Int) : a6o t h G = if t.f = 0 then ⟨0, 0, 0, t.c, t.p, h, G⟩ else bad t.f t.a := by
 conv => lhs; unfold a6o
 try rfl
theorem bj (c : CN) (q p : Int) (G : List Int) : alk c q p G = if c.f = 0 then ⟨0, 0, c.k, c.n, p, c.h, G⟩ else bad c.f q := by
 conv => lhs; unfold alk
 try rfl
theorem bru (v : AR) (q p n : Int) (G : List Int) : ase v q p n G = if v.f = 0 then ⟨0, 0, 4, n, p, v.h, G⟩ else bad v.f q := by
 conv => lhs; unfold ase
 try rfl
theorem bn (r : FR) (q : Int) : zw r q = if r.f = 0 then alk (mn 2 r.h 1 0) q r.p r.G else r := by
 conv => lhs; unfold zw
 try rfl
theorem av (R : List Int) (p o : Int) (h G : List Int) : al R p o h G =
 if ae R p 0 < (R.length : Int) then
  if chA R (ae R p 0) = 40 then (if 200 ≤ o then bad 12 (ae R p 0) else lg R (ae R p 0 + 1) (o + 1) (ae R p 0) 0 1 0 h G)
  else if chA R (ae R p 0) = 91 then (if 200 ≤ o then bad 12 (ae R p 0) else ud R (ae R p 0 + 1) (o + 1) (ae R p 0) 0 h G)
  else if chA R (ae R p 0) = 41 ∨ chA R (ae R p 0) = 93 then bad 5 (ae R p 0)
  else if chA R (ae R p 0) = 34 then a7w (te R (ae R p 0 + 1) []) (ae R p 0) h G
  else if chA R (ae R p 0) = 63 then a6o (th R (ae R p 0)) h G
  else if chA R (ae R p 0) = 39 ∨ chA R (ae R p 0) = 96 then (if 200 ≤ o then bad 12 (ae R p 0) else zw (al R (ae R p 0 + 1) (o + 1) h G) (ae R p 0))
  else if chA R (ae R p 0) = 44 then
   (if chA R (ae R p 0 + 1) = 64 then (if 200 ≤ o then bad 12 (ae R p 0) else zw (al R (ae R p 0 + 2) (o + 1) h G) (ae R p 0))
    else (if 200 ≤ o then bad 12 (ae R p 0) else zw (al R (ae R p 0 + 1) (o + 1) h G) (ae R p 0)))
  else if chA R (ae R p 0) = 35 then
   (if chA R (ae R p 0 + 1) = 39 then (if 200 ≤ o then bad 12 (ae R p 0) else zw (al R (ae R p 0 + 2) (o + 1) h G) (ae R p 0))
    else if chA R (ae R p 0 + 1) = 35 ∧ alm R (ae R p 0 + 2) = 1 then akm G [] (ae R p 0) (ae R p 0 + 2) h
    else bad 5 (ae R p 0))
  else ave (nw R (ae R p 0) [] 0) (R.length : Int) (ae R p 0) h G
 else bad 5 (R.length : Int) := by
 conv => lhs; unfold al
 try rfl
theorem c7 (R : List Int) (p o at_ cnt tk tn : Int) (h G : List Int) : lg R p o at_ cnt tk tn h G =
 if ae R p 0 < (R.length : Int) then
  if chA R (ae R p 0) = 41 then alk (mn cnt h tk tn) at_ (ae R p 0 + 1) G
  else if chA R (ae R p 0) = 46 ∧ alm R (ae R p 0 + 1) = 1 ∧ 0 < cnt then
   (if (al R (ae R p 0 + 1) o h G).f = 0 then
     (if ae R p 0 < ae R (al R (ae R p 0 + 1) o h G).p 0 then
       (if chA R (ae R (al R (ae R p 0 + 1) o h G).p 0) = 41 then lg R (ae R (al R (ae R p 0 + 1) o h G).p 0) o at_ cnt (al R (ae R p 0 + 1) o h G).k (al R (ae R p 0 + 1) o h G).n (al R (ae R p 0 + 1) o h G).h (al R (ae R p 0 + 1) o h G).G
        else bad 5 (ae R (al R (ae R p 0 + 1) o h G).p 0))
      else bad 5 0)
    else al R (ae R p 0 + 1) o h G)
  else
   (if (al R (ae R p 0) o h G).f = 0 then
     (if ae R p 0 < (al R (ae R p 0) o h G).p then lg R (al R (ae R p 0) o h G).p o at_ (cnt + 1) tk tn (al R (ae R p 0) o h G).h (al R (ae R p 0) o h G).G else bad 5 0)
    else al R (ae R p 0) o h G)
 else bad 5 (R.length : Int) := by
 conv => lhs; unfold lg
 try rfl
theorem jn (R : List Int) (p o at_ cnt : Int) (h G : List Int) : ud R p o at_ cnt h G =
 if ae R p 0 < (R.length : Int) then
  if chA R (ae R p 0) = 93 then ase (af1 h cnt) at_ (ae R p 0 + 1) (hM h) G
  else
   (if (al R (ae R p 0) o h G).f = 0 then
     (if ae R p 0 < (al R (ae R p 0) o h G).p then ud R (al R (ae R p 0) o h G).p o at_ (cnt + 1) (al R (ae R p 0) o h G).h (al R (ae R p 0) o h G).G else bad 5 0)
    else al R (ae R p 0) o h G)
 else bad 5 (R.length : Int) := by
 conv => lhs; unfold ud
 try rfl
theorem qh (R : List Int) (p : Int) (l h G : List Int) : fj R p l h G =
 if p < (R.length : Int) then
  (if (al R p 0 h G).f = 0 then
    (if p < ae R (al R p 0 h G).p 0 then fj R (ae R (al R p 0 h G).p 0) (l ++ [(al R p 0 h G).k, (al R p 0 h G).n]) (al R p 0 h G).h (al R p 0 h G).G else ⟨5, 0, [], [], []⟩)
   else ⟨(al R p 0 h G).f, (al R p 0 h G).a, [], [], []⟩)
 else ⟨0, 0, l, h, G⟩ := by
 conv => lhs; unfold fj
 try rfl
end Go.Ev
set_option maxRecDepth 100000
set_option linter.all false
namespace Go.Ev
abbrev bnk : List SA := [.mk false (.app 41 (.i (.v 1) .nil)) (.c 1) true]
abbrev bnl : List SA := [.mk false (.app 41 (.i (.v 1) .nil)) (.c 1) false]
abbrev bkh : AL := .g (.s 0) (.i (.v 1) (.i (.c 0) .nil))
abbrev acs : GE := .app 40 (.i (.v 1) .nil)
abbrev af0 : GE := .cat (.s 3) acs
abbrev acx : SE := .len acs
abbrev afp : SE := .bin 6 .i64 (.len (.s 3)) acx
abbrev bmy : List SA := [.mk true (.c 50000) (.len (.s 3)) false]
abbrev ql : SE := .bin 0 .u32 (.v 1) (.c 0)
abbrev adz : SE := .bin 6 .i64 (.len (.s 3)) (.c 3)
abbrev bbt : SE := .bin 0 .u8 (.bin 12 .i32 (.v 1) (.c 12)) (.c 0)
abbrev bd5 : SE := .bin 0 .u8 (.bin 12 .i32 (.v 1) (.c 6)) (.c 0)
abbrev bex : GE := .one (.bin 9 .u8 (.c 128) (.bin 8 .u8 (.bin 0 .u8 (.v 1) (.c 0)) (.c 63)))
abbrev ban : GE := .cat (.one (.bin 9 .u8 (.c 128) (.bin 8 .u8 bd5 (.c 63)))) bex
abbrev awd : GE := .cat (.one (.bin 9 .u8 (.c 224) bbt)) ban
abbrev be8 : GE := .cat (.s 3) awd
abbrev a8f : SE := .bin 6 .i64 (.len (.s 3)) (.c 4)
abbrev bco : GE := .cat (.one (.bin 9 .u8 (.c 240) (.bin 0 .u8 (.bin 12 .i32 (.v 1) (.c 18)) (.c 0)))) (.cat (.one (.bin 9 .u8 (.c 128) (.bin 8 .u8 bbt (.c 63)))) ban)
abbrev a9e : SE := .bin 6 .i64 (.len (.s 3)) (.c 2)
abbrev be2 : GE := .cat (.one (.bin 9 .u8 (.c 192) bd5)) bex
abbrev bc4 : SE := .bin 6 .i64 (.len (.s 3)) (.c 1)
noncomputable section
def dlU : List AV := [.sym .i64 (.v 1) []]
def dlI : List HO := []
def b37 : List HO := []
def b44 : TR := .ret (.bool true)
def aey : TM := .mk 28 dlU 256 dlI ([] ++ bnk) none b44 256 b37
def b6g : List HO := []
def b58 : TR := .ret (.bool false)
def ae4 : TM := .mk 28 dlU 256 dlI ([] ++ bnl) none b58 256 b6g
def b4b : List AV := [.int .i64 92]
def b7f : List HO := []
def b7x : List HO := []
def b8d : TR := .ret (.bool false)
def bfm : TM := .mk 28 b4b 256 b7f ([] ++ []) none b8d 256 b7x
def b7h : List AV := [.ptr (K.of 256) 0]
def b6o : List HO := [rdO 256 258 259 257 (.v 1) (.v 2), rwO 257]
def b4a : List HO := [rdO 256 258 259 257 (.app 43 bkh) (.v 2), rwO 257]
def b8r : TR := .ret (.tuple [])
def acp : TM := .mk 36 b7h 260 b6o (pI ++ []) none b8r 260 b4a
def buO (k r : Nat) (g : GE) (n : SE) : List HO := [.mk k (.cells 108 false 0 0 [.ptr (K.of k) 0, .gv (.sl (K.of r) 1 n [])]), .mk r (.gob (.gh 5 [.u8] n g))]
def wI : List SA := [.mk true (.v 1) (.c 0) false, .mk true (.v 1) (.c 1114112) true]
def b66 : List AV := [.ptr (K.of 256) 0, .sym .i32 (.v 1) []]
def b36 : List HO := buO 256 257 (.s 3) (.len (.s 3))
def b77 : List HO := buO 256 258 af0 afp
def b4v : TR := .ret (.tuple [.top, .nilIface])
def b2u : TM := .mk 68 b66 258 b36 ((wI ++ bmy) ++ []) none b4v 259 b77
def b8a : List AV := [.ptr (K.of 256) 0, .sym .i32 (.v 1) []]
def b5j : List HO := [.mk 256 (.cells 108 false 0 0 [.nilPtr, .nilSlice])]
def b7a : List HO := buO 256 257 (.app 40 (.i (.v 1) .nil)) acx
def b35 : TR := .ret (.tuple [.top, .nilIface])
def b1n : TM := .mk 68 b8a 257 b5j (wI ++ []) none b35 258 b7a
end
def dlG [Gv] : Prop := (SAll Gv.σ bnk → bh 28 dlU 256 dlI b44 256 b37) ∧ (SAll Gv.σ bnl → bh 28 dlU 256 dlI b58 256 b6g)
theorem b6s [Gv] (hI : SAll Gv.σ []) : dlG := by
 rcases zq1 hI (.v 1) (.c 40) with ⟨hI, k1⟩ | ⟨hI, k1⟩
 ·have u := zf2 (jd ((Gv.σ 1).headD 0))
  exact ⟨zm0 [] af ak hI,
   zn1⟩
 ·rcases zq1 hI (.v 1) (.c 41) with ⟨hI, k2⟩ | ⟨hI, k2⟩
  ·have u := zf2 (jd ((Gv.σ 1).headD 0))
   exact ⟨zm0 [] af ak hI,
    zn1⟩
  ·rcases zq1 hI (.v 1) (.c 91) with ⟨hI, k3⟩ | ⟨hI, k3⟩
   ·have u := zf2 (jd ((Gv.σ 1).headD 0))
    exact ⟨zm0 [] af ak hI,
     zn1⟩
   ·rcases zq1 hI (.v 1) (.c 93) with ⟨hI, k4⟩ | ⟨hI, k4⟩
    ·have u := zf2 (jd ((Gv.σ 1).headD 0))
     exact ⟨zm0 [] af ak hI,
      zn1⟩
    ·rcases zq1 hI (.v 1) (.c 34) with ⟨hI, k5⟩ | ⟨hI, k5⟩
     ·have u := zf2 (jd ((Gv.σ 1).headD 0))
      exact ⟨zm0 [] af ak hI,
       zn1⟩
     ·rcases zq1 hI (.v 1) (.c 39) with ⟨hI, k6⟩ | ⟨hI, k6⟩
      ·have u := zf2 (jd ((Gv.σ 1).headD 0))
       exact ⟨zm0 [] af ak hI,
        zn1⟩
      ·rcases zq1 hI (.v 1) (.c 96) with ⟨hI, k7⟩ | ⟨hI, k7⟩
       ·have u := zf2 (jd ((Gv.σ 1).headD 0))
        exact ⟨zm0 [] af ak hI,
         zn1⟩
       ·rcases zq1 hI (.v 1) (.c 44) with ⟨hI, k8⟩ | ⟨hI, k8⟩
        ·have u := zf2 (jd ((Gv.σ 1).headD 0))
         exact ⟨zm0 [] af ak hI,
          zn1⟩
        ·rcases zq1 hI (.v 1) (.c 59) with ⟨hI, k9⟩ | ⟨hI, k9⟩
         ·have u := zf2 (jd ((Gv.σ 1).headD 0))
          exact ⟨zm0 [] af ak hI,
           zn1⟩
         ·rcases zq1 hI (.v 1) (.c 9) with ⟨hI, k10⟩ | ⟨hI, k10⟩
          ·have u := zf2 (jd ((Gv.σ 1).headD 0))
           exact ⟨zm0 [] af ak hI,
            zn1⟩
          ·rcases zq1 hI (.v 1) (.c 10) with ⟨hI, k11⟩ | ⟨hI, k11⟩
           ·have u := zf2 (jd ((Gv.σ 1).headD 0))
            exact ⟨zm0 [] af ak hI,
             zn1⟩
           ·rcases zq1 hI (.v 1) (.c 12) with ⟨hI, k12⟩ | ⟨hI, k12⟩
            ·have u := zf2 (jd ((Gv.σ 1).headD 0))
             exact ⟨zm0 [] af ak hI,
              zn1⟩
            ·rcases zq1 hI (.v 1) (.c 13) with ⟨hI, k13⟩ | ⟨hI, k13⟩
             ·have u := zf2 (jd ((Gv.σ 1).headD 0))
              exact ⟨zm0 [] af ak hI,
               zn1⟩
             ·rcases zq1 hI (.v 1) (.c 32) with ⟨hI, k14⟩ | ⟨hI, k14⟩
              ·have u := zf2 (jd ((Gv.σ 1).headD 0))
               exact ⟨zm0 [] af ak hI,
                zn1⟩
              ·have u := zf2 (jd ((Gv.σ 1).headD 0))
               exact ⟨zn1,
                zm0 [] af ak hI⟩
theorem avj [Gv] : ap aey := fun σ _ hA _ => (@b6s ⟨σ⟩  (aj hA).1).1 (aj hA).2
theorem axm [Gv] : ap ae4 := fun σ _ hA _ => (@b6s ⟨σ⟩  (aj hA).1).2 (aj hA).2
def ca7 [Gv] : Prop := (SAll Gv.σ [] → bh 28 b4b 256 b7f b8d 256 b7x)
theorem b7o [Gv] (hI : SAll Gv.σ []) : ca7 := by
 have u := trivial
 exact zm0 [] af ak hI
theorem bms [Gv] : ap bfm := fun σ _ hA _ => (@b7o ⟨σ⟩  (aj hA).1) (aj hA).2
theorem avr {α : Type} {p : α → Prop} {a b : α} (ha : p a) (hb : p b) : ∀ t ∈ [a, b], p t := by
 intro t ht
 simp only [List.mem_cons, List.not_mem_nil, or_false] at ht
 rcases ht with rfl | rfl
 ·exact ha
 ·exact hb
theorem cu {α : Type} {p : α → Prop} {a : α} (ha : p a) : ∀ t ∈ [a], p t := by
 intro t ht
 rw [List.mem_singleton] at ht; subst ht; exact ha
theorem sk2 [Gv] : ∀ t ∈ [buy, bxr], ba t := avr brl bqj
def ca4 [Gv] : Prop := (SAll Gv.σ [] → bh 36 b7h 260 b6o b8r 260 b4a)
theorem b8j [Gv] (hI : SAll Gv.σ pI) : ca4 := by
 obtain ⟨hR, hp0, hpl, hL⟩ := qj hI
 have := zf1 (f43 (σ := Gv.σ) (.v 1) (.c 0))
 rcases zl1 hI (.app 43 bkh) (.len (.s 0)) with ⟨hI, k1⟩ | ⟨hI, k1⟩
 ·have u := trivial
  exact zm0 [] af (ao _ sk2) hI
 ·have u := trivial
  exact zm0 [] af (ao _ sk2) hI
theorem apl [Gv] : ap acp := fun σ _ hA _ => (@b8j ⟨σ⟩  (aj hA).1) (aj hA).2
theorem blj {σ : Nat → List Int} (h : SAll σ wI) : 0 ≤ (σ 1).headD 0 ∧ (σ 1).headD 0 < 1114112 := by
 simp only [wI, sall_cons, sT, sF, evs] at h
 exact ⟨h.1, h.2.1⟩
def ca6 [Gv] : Prop := (SAll Gv.σ [] → bh 68 b66 258 b36 b4v 259 b77)
theorem b5r [Gv] (hI : SAll Gv.σ (wI ++ bmy)) : ca6 := by
 have hw := blj (aj hI).1
 have h50 : ((Gv.σ 3).length : Int) ≤ 50000 := by have := (aj hI).2; simp only [sall_cons, sF, evs] at this; exact this.1
 rcases zl1 hI (.c 127) ql with ⟨hI, k1⟩ | ⟨hI, k1⟩
 ·rcases zl1 hI (.c 2047) ql with ⟨hI, k2⟩ | ⟨hI, k2⟩
  ·rcases zl1 hI ql (.c 55296) with ⟨hI, k3⟩ | ⟨hI, k3⟩
   ·have hI := zF1 hI (.c 60000) adz
    have := zf1 (f40 (σ := Gv.σ) (.v 1))
    have u := zf3 (oo ((Gv.σ 1).headD 0))
    exact zm [(259, 258)] (.i adz afp (.g be8 af0 .nil)) af ak hI ze2
   ·rcases zl1 hI (.c 57343) ql with ⟨hI, k4⟩ | ⟨hI, k4⟩
    ·rcases zl1 hI (.c 65535) ql with ⟨hI, k5⟩ | ⟨hI, k5⟩
     ·have hI := zF1 hI (.c 1114111) ql
      have hI := zF1 hI (.c 60000) a8f
      have := zf1 (f40 (σ := Gv.σ) (.v 1))
      have u := zf3 (oo ((Gv.σ 1).headD 0))
      exact zm [(259, 258)] (.i a8f afp (.g (.cat (.s 3) bco) af0 .nil)) af ak hI ze2
     ·have hI := zF1 hI (.c 60000) adz
      have := zf1 (f40 (σ := Gv.σ) (.v 1))
      have u := zf3 (oo ((Gv.σ 1).headD 0))
      exact zm [(259, 258)] (.i adz afp (.g be8 af0 .nil)) af ak hI ze2
    ·have hI := zF1 hI (.c 65535) ql
     have hI := zF1 hI (.c 60000) adz
     have := zf1 (f40 (σ := Gv.σ) (.v 1))
     have u := zf3 (oo ((Gv.σ 1).headD 0))
     exact zm [(259, 258)] (.i adz afp (.g (.cat (.s 3) (.cat (.one (.c 239)) (.cat (.one (.c 191)) (.one (.c 189))))) af0 .nil)) af ak hI ze2
  ·have hI := zF1 hI (.c 60000) a9e
   have := zf1 (f40 (σ := Gv.σ) (.v 1))
   have u := zf3 (oo ((Gv.σ 1).headD 0))
   exact zm [(259, 258)] (.i a9e afp (.g (.cat (.s 3) be2) af0 .nil)) af ak hI ze2
 ·have hI := zF1 hI (.c 60000) bc4
  have := zf1 (f40 (σ := Gv.σ) (.v 1))
  have u := zf3 (oo ((Gv.σ 1).headD 0))
  exact zm [(259, 258)] (.i bc4 afp (.g (.cat (.s 3) (.one (.bin 0 .u8 (.v 1) (.c 0)))) af0 .nil)) af ak hI ze2
theorem bjv [Gv] : ap b2u := fun σ _ hA _ => (@b5r ⟨σ⟩  (aj hA).1) (aj hA).2
def b89 [Gv] : Prop := (SAll Gv.σ [] → bh 68 b8a 257 b5j b35 258 b7a)
theorem b7m [Gv] (hI : SAll Gv.σ wI) : b89 := by
 have hw := blj hI
 rcases zl1 hI (.c 127) ql with ⟨hI, k1⟩ | ⟨hI, k1⟩
 ·rcases zl1 hI (.c 2047) ql with ⟨hI, k2⟩ | ⟨hI, k2⟩
  ·rcases zl1 hI ql (.c 55296) with ⟨hI, k3⟩ | ⟨hI, k3⟩
   ·have := zf1 (f40 (σ := Gv.σ) (.v 1))
    have u := zf3 (oo ((Gv.σ 1).headD 0))
    exact zm [(258, 257)] (.i (.c 3) acx (.g awd acs .nil)) af ak hI ze2
   ·rcases zl1 hI (.c 57343) ql with ⟨hI, k4⟩ | ⟨hI, k4⟩
    ·rcases zl1 hI (.c 65535) ql with ⟨hI, k5⟩ | ⟨hI, k5⟩
     ·have hI := zF1 hI (.c 1114111) ql
      have := zf1 (f40 (σ := Gv.σ) (.v 1))
      have u := zf3 (oo ((Gv.σ 1).headD 0))
      exact zm [(258, 257)] (.i (.c 4) acx (.g bco acs .nil)) af ak hI ze2
     ·have := zf1 (f40 (σ := Gv.σ) (.v 1))
      have u := zf3 (oo ((Gv.σ 1).headD 0))
      exact zm [(258, 257)] (.i (.c 3) acx (.g awd acs .nil)) af ak hI ze2
    ·have hI := zF1 hI (.c 65535) ql
     have := zf1 (f40 (σ := Gv.σ) (.v 1))
     have u := zf3 (oo ((Gv.σ 1).headD 0))
     exact zm [(258, 257)] (.i (.c 3) acx (.g (.lit 3 15712189) acs .nil)) af ak hI ze2
  ·have := zf1 (f40 (σ := Gv.σ) (.v 1))
   have u := zf3 (oo ((Gv.σ 1).headD 0))
   exact zm [(258, 257)] (.i (.c 2) acx (.g be2 acs .nil)) af ak hI ze2
 ·have := zf1 (f40 (σ := Gv.σ) (.v 1))
  have u := zf3 (oo ((Gv.σ 1).headD 0))
  exact zm [(258, 257)] (.i (.c 1) acx (.g (.one (.bin 0 .u8 (.v 1) (.c 0))) acs .nil)) af ak hI ze2
theorem bk5 [Gv] : ap b1n := fun σ _ hA _ => (@b7m ⟨σ⟩  (aj hA).1) (aj hA).2
end Go.Ev
