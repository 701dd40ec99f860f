import Derived.Test.YtkfdioikigponaaGreatDoorRaY
import Derived.Lib.MapLaws
import Derived.Lib.ValidLaws
set_option maxRecDepth 100000
set_option linter.all false
namespace Go.Ev
structure Ag (R R' : List Int) (e : Int) : Prop where
 le : e ≤ (R.length : Int)
 le' : e ≤ (R'.length : Int)
 eq : ∀ i : Int, 0 ≤ i → i < e → R'.getD i.toNat 0 = R.getD i.toNat 0
 st : yl R' e = 1
section
variable {R R' : List Int} {e : Int}
theorem yk (A : Ag R R' e) {i : Int} (h0 : 0 ≤ i) (h1 : i < e) : chA R' i = chA R i := by
 have := A.le; have := A.le'
 rw [bp, bp, if_pos (by omega), if_pos (by omega), A.eq i h0 h1]
theorem biz (A : Ag R R' e) {i : Int} (h0 : 0 ≤ i) (h1 : i < e) : yl R' i = yl R i := by
 have := A.le; have := A.le'
 rw [ay, ay, if_pos (by omega), if_pos (by omega), A.eq i h0 h1]
theorem a38 (A : Ag R R' e) {i : Int} (h0 : 0 ≤ i) (h1 : i ≤ e) (h : yl R i = 1) : yl R' i = 1 := by
 by_cases h2 : i < e
 ·rw [biz A h0 h2]; exact h
 ·rw [show i = e by omega]; exact A.st
theorem xa (A : Ag R R' e) : ∀ (n : Nat) (p b : Int), ((R.length : Int) - p).toNat ≤ n → 0 ≤ p → af R p b < e → af R' p b = af R p b
 | n, p, b, hn, h0, h => by
   have l := A.le; have l' := A.le'
   have g := fq R p b
   have hpe : p < e := by omega
   have hp : p < (R.length : Int) := by omega
   rw [dc] at h
   rw [dc R' p b, dc R p b, if_pos (by omega : p < (R'.length : Int))]
   rw [if_pos hp] at h ⊢
   rw [A.eq p h0 hpe]
   cases n with
   | zero => omega
   | succ n =>
     by_cases hb : b = 1
     ·simp only [if_pos hb] at h ⊢
      exact xa A n _ _ (by omega) (by omega) h
     ·simp only [if_neg hb] at h ⊢
      by_cases h1 : R.getD p.toNat 0 = 59
      ·simp only [if_pos h1] at h ⊢
       exact xa A n _ _ (by omega) (by omega) h
      ·simp only [if_neg h1] at h ⊢
       by_cases h2 : ali (R.getD p.toNat 0) = 1
       ·simp only [if_pos h2] at h ⊢
        exact xa A n _ _ (by omega) (by omega) h
       ·simp only [if_neg h2] at h ⊢
theorem a6s (A : Ag R R' e) : ∀ (n : Nat) (p : Int) (b : List Int) (q : Int), ((R.length : Int) - p).toNat ≤ n → 0 ≤ p → p ≤ e → (lg R p b q).f = 0 → (lg R p b q).p ≤ e → lg R' p b q = lg R p b q
 | n, p, b, q, hn, h0, hp, hf, he => by
   have l := A.le; have l' := A.le'
   by_cases hpe : p < e
   ·rw [c7] at hf he
    rw [c7 R' p b q, c7 R p b q, if_pos (by omega : p < (R'.length : Int))]
    rw [if_pos (by omega : p < (R.length : Int))] at hf he ⊢
    rw [A.eq p h0 hpe]
    cases n with
    | zero => omega
    | succ n =>
      by_cases h1 : v6 (R.getD p.toNat 0) = 1
      ·simp only [if_pos h1]
      ·simp only [if_neg h1] at hf he ⊢
       by_cases h2 : R.getD p.toNat 0 = 92
       ·simp only [if_pos h2] at hf he ⊢
        by_cases h3 : p + 1 < (R.length : Int)
        ·simp only [if_pos h3] at hf he ⊢
         have m := ((akn R _ (p + 2) (b ++ ll (R.getD (p + 1).toNat 0)) 1 (zY _) (by omega)).2 hf).1
         rw [if_pos (by omega), A.eq (p + 1) (by omega) (by omega)]
         exact a6s A n _ _ _ (by omega) (by omega) (by omega) hf he
        ·simp only [if_neg h3] at hf
         exact absurd hf (show ¬ (5 : Int) = 0 by decide)
       ·simp only [if_neg h2] at hf he ⊢
        have m := ((akn R _ (p + 1) (b ++ ll (R.getD p.toNat 0)) q (zY _) (by omega)).2 hf).1
        exact a6s A n _ _ _ (by omega) (by omega) (by omega) hf he
   ·have hpe : p = e := by omega
    subst hpe
    have st := A.st
    have hR' : lg R' p b q = ⟨0, p, b, q⟩ := by
     rw [ay] at st
     rw [c7]
     by_cases h1 : p < (R'.length : Int)
     ·rw [if_pos h1] at st ⊢; rw [if_pos st]
     ·rw [if_neg h1]
    rw [hR']
    rw [c7] at hf he ⊢
    by_cases h1 : p < (R.length : Int)
    ·rw [if_pos h1] at hf he ⊢
     by_cases h2 : v6 (R.getD p.toNat 0) = 1
     ·rw [if_pos h2]
     ·exfalso
      rw [if_neg h2] at hf he
      by_cases h3 : R.getD p.toNat 0 = 92
      ·rw [if_pos h3] at hf he
       by_cases h4 : p + 1 < (R.length : Int)
       ·rw [if_pos h4] at hf he
        have m := ((akn R _ (p + 2) (b ++ ll (R.getD (p + 1).toNat 0)) 1 (zY _) (by omega)).2 hf).1
        omega
       ·rw [if_neg h4] at hf; exact absurd hf (show ¬ (5 : Int) = 0 by decide)
      ·rw [if_neg h3] at hf he
       have m := ((akn R _ (p + 1) (b ++ ll (R.getD p.toNat 0)) q (zY _) (by omega)).2 hf).1
       omega
    ·rw [if_neg h1]
theorem bby (A : Ag R R' e) : ∀ (n : Nat) (p c m : Int), ((R.length : Int) - p).toNat ≤ n → 0 ≤ p → m ≤ 6 → (mp R p c m).p < e → mp R' p c m = mp R p c m
 | n, p, c, m, hn, h0, hm, h => by
   have l := A.le; have l' := A.le'
   by_cases h6 : m < 6
   ·by_cases hp : p < (R.length : Int)
    ·have g := (aro R _ p c m (zY _) (by omega) hm).1
     have hpe : p < e := by omega
     rw [ny] at h
     rw [ny R' p c m, ny R p c m, if_pos (show m < 6 ∧ p < (R'.length : Int) from ⟨h6, by omega⟩)]
     rw [if_pos (show m < 6 ∧ p < (R.length : Int) from ⟨h6, hp⟩)] at h ⊢
     rw [A.eq p h0 hpe]
     cases n with
     | zero => omega
     | succ n =>
       by_cases h1 : alg (R.getD p.toNat 0) < 0
       ·simp only [if_pos h1]
       ·simp only [if_neg h1] at h ⊢
        exact bby A n _ _ _ (by omega) (by omega) (by omega) h
    ·rw [ny, if_neg (fun x => hp x.2)] at h
     exact absurd (show p < e from h) (by omega)
   ·rw [ny R', ny R, if_neg (fun x => h6 x.1), if_neg (fun x => h6 x.1)]
theorem bq6 (A : Ag R R' e) {p a : Int} (h0 : 0 ≤ p) (hf : (vb R p a).f = 0) (he : (vb R p a).p ≤ e) : vb R' p a = vb R p a := by
 have l := A.le; have l' := A.le'
 rw [ue] at hf he
 rw [ue R' p a, ue R p a]
 by_cases h1 : (mp R p 0 0).p < (R.length : Int)
 ·rw [if_pos h1] at hf he ⊢
  by_cases h2 : (mp R p 0 0).a = 0 ∨ R.getD (mp R p 0 0).p.toNat 0 ≠ 92 ∨ vf (mp R p 0 0).c = 0
  ·rw [if_pos h2] at hf; exact absurd hf (show ¬ (5 : Int) = 0 by decide)
  ·rw [if_neg h2] at hf he ⊢
   have he : (mp R p 0 0).p + 1 ≤ e := he
   have g := (aro R _ p 0 0 (zY _))
   by_cases hp : p ≤ (R.length : Int)
   ·have g := (g hp (by omega)).1
    rw [bby A _ p 0 0 (zY _) h0 (by omega) (by omega), if_pos (by omega), A.eq _ (by omega) (by omega), if_neg h2]
   ·exfalso
    rw [ny, if_neg (fun x => hp (by have := x.2; omega))] at h1
    exact hp (by have h1 : p < (R.length : Int) := h1; omega)
 ·rw [if_neg h1] at hf; exact absurd hf (show ¬ (5 : Int) = 0 by decide)
theorem bib (A : Ag R R' e) {p : Int} (hR : gn R) (h0 : 0 ≤ p) (hp : p ≤ (R.length : Int)) (hf : (gr R p).f = 0) (he : (gr R p).p ≤ e) : gr R' p = gr R p := by
 have l := A.le; have l' := A.le'
 have g := (awy hR p hp).2 hf
 have gp : p < (gr R p).p := g.1
 rw [nr] at hf he
 rw [nr R' p, nr R p]
 have h1 : p < (R.length : Int) := by
  by_cases h1 : p < (R.length : Int)
  ·exact h1
  ·rw [if_neg h1] at hf; exact absurd hf (show ¬ (5 : Int) = 0 by decide)
 have hpe : p < e := by rw [← nr] at he; omega
 rw [if_pos h1] at hf he ⊢
 rw [if_pos (by omega), A.eq p h0 hpe]
 by_cases h2 : R.getD p.toNat 0 = 10
 ·simp only [if_pos h2]
 ·simp only [if_neg h2] at hf he ⊢
  by_cases h3 : R.getD p.toNat 0 = 92 ∨ R.getD p.toNat 0 = 34
  ·simp only [if_pos h3]
  ·simp only [if_neg h3] at hf he ⊢
   by_cases h4 : R.getD p.toNat 0 = 120
   ·simp only [if_pos h4] at hf he ⊢
    exact bq6 A (by omega) hf he
   ·simp only [if_neg h4]
theorem a4u (A : Ag R R' e) (hR : gn R) : ∀ (n : Nat) (p : Int) (b : List Int), ((R.length : Int) - p).toNat ≤ n → 0 ≤ p → p ≤ (R.length : Int) → (np R p b).f = 0 → (np R p b).p ≤ e → np R' p b = np R p b
 | n, p, b, hn, h0, hp, hf, he => by
   have l := A.le; have l' := A.le'
   have gp := ((ach hR _ p b (zY _) hp).2 hf).1
   have h1 : p < (R.length : Int) := by
    by_cases h1 : p < (R.length : Int)
    ·exact h1
    ·rw [c8, if_neg h1] at hf; exact absurd hf (show ¬ (5 : Int) = 0 by decide)
   have hpe : p < e := by omega
   rw [c8] at hf he
   rw [c8 R' p b, c8 R p b]
   rw [if_pos h1] at hf he ⊢
   rw [if_pos (by omega : p < (R'.length : Int)), A.eq p h0 hpe]
   cases n with
   | zero => omega
   | succ n =>
     by_cases h2 : R.getD p.toNat 0 = 34
     ·simp only [if_pos h2]
     ·simp only [if_neg h2] at hf he ⊢
      by_cases h3 : R.getD p.toNat 0 = 92
      ·simp only [if_pos h3] at hf he ⊢
       by_cases h4 : (gr R (p + 1)).f = 0
       ·simp only [if_pos h4] at hf he ⊢
        have g := (awy hR (p + 1) (by omega)).2 h4
        by_cases h5 : p < (gr R (p + 1)).p
        ·simp only [if_pos h5] at hf he ⊢
         have rec2 : ∀ b2 : List Int, (np R (gr R (p + 1)).p b2).f = 0 → (np R (gr R (p + 1)).p b2).p ≤ e → (gr R (p + 1)).p ≤ e ∧ np R' (gr R (p + 1)).p b2 = np R (gr R (p + 1)).p b2 := by
          intro b2 hf hb
          have g2 := ((ach hR _ (gr R (p + 1)).p b2 (zY _) g.2.1).2 hf).1
          exact ⟨by omega, a4u A hR n _ _ (by omega) (by omega) g.2.1 hf hb⟩
         by_cases h6 : (gr R (p + 1)).c < 0
         ·simp only [if_pos h6] at hf he ⊢
          obtain ⟨a1, a2⟩ := rec2 _ hf he
          rw [bib A hR (by omega) (by omega) h4 a1]
          simp only [if_pos h4, if_pos h5, if_pos h6]
          exact a2
         ·simp only [if_neg h6] at hf he ⊢
          obtain ⟨a1, a2⟩ := rec2 _ hf he
          rw [bib A hR (by omega) (by omega) h4 a1]
          simp only [if_pos h4, if_pos h5, if_neg h6]
          exact a2
        ·simp only [if_neg h5] at hf
         exact absurd hf (show ¬ (5 : Int) = 0 by decide)
       ·simp only [if_neg h4] at hf
        exact absurd hf (show ¬ (gr R (p + 1)).f = 0 from h4)
      ·simp only [if_neg h3] at hf he ⊢
       exact a4u A hR n _ _ (by omega) (by omega) (by omega) hf he
theorem b0h (A : Ag R R' e) {p : Int} (h0 : 0 ≤ p) (h1 : p + 2 < e) : xo R' p = xo R p := by
 rw [mn, mn, yk A h0 (by omega), yk A (i := p + 2) (by omega) h1, yk A (i := p + 1) (by omega) (by omega)]
theorem bnw (A : Ag R R' e) {p : Int} (h0 : 0 ≤ p) (hf : (jl R p).f = 0) (he : (jl R p).p ≤ e) : jl R' p = jl R p ∧ xo R' p = (if xo R p = 0 then 0 else xo R' p) := by
 have l := A.le; have l' := A.le'
 rw [j5] at hf he
 rw [j5 R' p, j5 R p]
 have h1 : p < (R.length : Int) := by
  by_cases h1 : p < (R.length : Int)
  ·exact h1
  ·rw [if_neg h1] at hf; exact absurd hf (show ¬ (5 : Int) = 0 by decide)
 rw [if_pos h1] at hf he ⊢
 by_cases h2 : R.getD p.toNat 0 = 92
 ·simp only [if_pos h2] at hf he ⊢
  by_cases h3 : p + 1 < (R.length : Int)
  ·simp only [if_pos h3] at hf he ⊢
   have h4 : p + 2 ≤ e ∧ ¬ (R.getD (p + 1).toNat 0 = 67 ∨ R.getD (p + 1).toNat 0 = 77 ∨ R.getD (p + 1).toNat 0 = 83) := by
    by_cases a1 : aa2 (R.getD (p + 1).toNat 0) < 0
    ·simp only [if_pos a1] at hf he
     by_cases a2 : R.getD (p + 1).toNat 0 = 115
     ·simp only [if_pos a2] at he; exact ⟨he, by omega⟩
     ·simp only [if_neg a2] at hf he
      by_cases a3 : R.getD (p + 1).toNat 0 = 100
      ·simp only [if_pos a3] at he; exact ⟨he, by omega⟩
      ·simp only [if_neg a3] at hf he
       by_cases a4 : 97 ≤ R.getD (p + 1).toNat 0 ∧ R.getD (p + 1).toNat 0 ≤ 122 ∨ 65 ≤ R.getD (p + 1).toNat 0 ∧ R.getD (p + 1).toNat 0 ≤ 90
       ·simp only [if_pos a4] at hf; exact absurd hf (show ¬ (5 : Int) = 0 by decide)
       ·simp only [if_neg a4] at he; exact ⟨he, by omega⟩
    ·simp only [if_neg a1] at he
     refine ⟨he, ?_⟩
     rintro (h | h | h) <;> rw [h] at a1 <;> exact a1 (by decide)
   rw [if_pos (by omega : p < (R'.length : Int)), A.eq p h0 (by omega), if_pos h2, if_pos (by omega : p + 1 < (R'.length : Int)), A.eq (p + 1) (by omega) (by omega)]
   refine ⟨rfl, ?_⟩
   have hz : xo R' p = 0 := by
    rw [mn, yk A (i := p + 1) (by omega) (by omega), bp R (p + 1), if_pos h3]
    by_cases b1 : chA R' p = 92 ∧ chA R' (p + 2) = 45
    ·rw [if_pos b1, if_neg (by omega), if_neg (by omega), if_neg (by omega)]
    ·rw [if_neg b1]
   rw [hz]; split <;> rfl
  ·simp only [if_neg h3] at hf; exact absurd hf (show ¬ (5 : Int) = 0 by decide)
 ·simp only [if_neg h2] at hf he ⊢
  have he : p + 1 ≤ e := he
  rw [if_pos (by omega : p < (R'.length : Int)), A.eq p h0 (by omega), if_neg h2]
  refine ⟨rfl, ?_⟩
  have hz : xo R' p = 0 := by
   rw [mn, yk A h0 (by omega), bp R p, if_pos h1, if_neg (fun x => h2 x.1)]
  rw [hz]; split <;> rfl
theorem boi {p : Int} (h0 : 0 ≤ p) (h : ¬ xo R p = 0) : p + 2 < (R.length : Int) := by
 rw [mn] at h
 by_cases h1 : chA R p = 92 ∧ chA R (p + 2) = 45
 ·have := h1.2
  rw [bp] at this
  by_cases h2 : p + 2 < (R.length : Int)
  ·exact h2
  ·rw [if_neg h2] at this; omega
 ·rw [if_neg h1] at h; exact absurd rfl h
theorem a73 (A : Ag R R' e) : ∀ (n : Nat) (p b : Int), ((R.length : Int) - p).toNat ≤ n → 0 ≤ p → (jl R (j4 R p b).p).f = 0 → (jl R (j4 R p b).p).p ≤ e → (j4 R p b).p < (jl R (j4 R p b).p).p → j4 R' p b = j4 R p b
 | n, p, b, hn, h0, hf, he, hl => by
   have l := A.le; have l' := A.le'
   by_cases h1 : p < (R.length : Int)
   ·by_cases h2 : xo R p = 0
    ·have e1 : j4 R p b = ⟨p, b⟩ := by rw [tv, if_pos h1, if_pos h2]
     rw [e1] at hf he hl
     have e2 := (bnw A h0 hf he).2
     rw [if_pos h2] at e2
     have hl : p < (jl R p).p := hl
     have he : (jl R p).p ≤ e := he
     rw [e1, tv, if_pos (by omega), if_pos e2]
    ·have e1 : j4 R p b = j4 R (p + 3) (im 9 .i64 b (xo R p)) := by rw [tv R p b, if_pos h1, if_neg h2]
     have m := boi h0 h2
     rw [e1] at hf he hl ⊢
     have g := (aof R _ (p + 3) (im 9 .i64 b (xo R p)) (zY _) (by omega)).1
     have q := b0h A h0 (by omega : p + 2 < e)
     rw [tv R' p b, if_pos (by omega), q, if_neg h2]
     cases n with
     | zero => omega
     | succ n => exact a73 A n _ _ (by omega) (by omega) hf he hl
   ·have e1 : j4 R p b = ⟨p, b⟩ := by rw [tv, if_neg h1]
    rw [e1] at hf
    exfalso
    have hf : (jl R p).f = 0 := hf
    rw [j5, if_neg h1] at hf
    exact absurd hf (show ¬ (5 : Int) = 0 by decide)
theorem bqw (A : Ag R R' e) (hR : gn R) {q : Int} (h0 : 0 ≤ q) (hq : q < (R.length : Int)) (hf : (oe R q).f = 0) (he : (oe R q).p ≤ e) : oe R' q = oe R q := by
 rw [ee] at hf he
 rw [ee R' q, ee R q]
 have hm := aof R _ (q + 1) 0 (zY _) (by omega)
 by_cases h1 : (jl R (j4 R (q + 1) 0).p).f = 0
 ·rw [if_pos h1] at hf he ⊢
  have hb := (a6w hR (p := (j4 R (q + 1) 0).p)).2 h1
  by_cases h2 : yl R (jl R (j4 R (q + 1) 0).p).p = 1
  ·rw [if_pos h2] at hf he ⊢
   have he : (jl R (j4 R (q + 1) 0).p).p ≤ e := he
   rw [a73 A _ (q + 1) 0 (zY _) (by omega) h1 he hb.1, (bnw A (by omega) h1 he).1, if_pos h1, if_pos (a38 A (by omega) he h2)]
  ·rw [if_neg h2] at hf; exact absurd hf (show ¬ (5 : Int) = 0 by decide)
 ·rw [if_neg h1] at hf; exact absurd hf (show ¬ (jl R (j4 R (q + 1) 0).p).f = 0 from h1)
theorem bfn (p o : Int) (h G : List Int) (hp : p ≤ (R.length : Int)) : al R p o h G = al R (af R p 0) o h G := by
 rw [ap R p, ap R (af R p 0), ajd R p hp]
theorem bf0 (p o a c k m : Int) (h G : List Int) (hp : p ≤ (R.length : Int)) : iu R p o a c k m h G = iu R (af R p 0) o a c k m h G := by
 rw [ce R p, ce R (af R p 0), ajd R p hp]
theorem bla (p o a c : Int) (h G : List Int) (hp : p ≤ (R.length : Int)) : qd R p o a c h G = qd R (af R p 0) o a c h G := by
 rw [ga R p, ga R (af R p 0), ajd R p hp]
theorem b31 {r : FR} {q : Int} (h : (we r q).f = 0) : r.f = 0 ∧ (we r q).p = r.p := by
 rw [bn] at h ⊢
 by_cases h1 : r.f = 0
 ·rw [if_pos h1] at h ⊢
  refine ⟨h1, ?_⟩
  rw [bh] at h ⊢
  by_cases h2 : (l9 2 r.h 1 0).f = 0
  ·rw [if_pos h2]
  ·rw [if_neg h2] at h; exact absurd h h2
 ·rw [if_neg h1] at h; exact absurd h h1
theorem bvq {G s : List Int} {a p : Int} {h : List Int} (hf : (ai7 G s a p h).f = 0) : (ai7 G s a p h).p = p := by
 rw [bm] at hf ⊢
 by_cases h1 : (gb G s).f = 0
 ·rw [if_pos h1]
 ·rw [if_neg h1] at hf; exact absurd hf h1
theorem b20 {t : TK} {n n' q : Int} {h G : List Int} (hf : (alj t n q h G).f = 0) : t.f = 0 ∧ (alj t n q h G).p = t.p ∧ alj t n' q h G = alj t n q h G := by
 rw [al6] at hf
 rw [al6 t n, al6 t n']
 by_cases h1 : t.f = 0
 ·simp only [if_pos h1] at hf ⊢
  refine ⟨h1, ?_, trivial⟩
  by_cases h2 : t.q = 0 ∧ acp t.b = 2
  ·rw [if_pos h2] at hf; exact absurd hf (show ¬ (15 : Int) = 0 by decide)
  ·rw [if_neg h2] at hf ⊢
   by_cases h3 : t.q = 0 ∧ acp t.b = 1
   ·rw [if_pos h3]
   ·rw [if_neg h3] at hf ⊢
    by_cases h4 : t.q = 0 ∧ t.b = [46]
    ·rw [if_pos h4] at hf; exact absurd hf (show ¬ (5 : Int) = 0 by decide)
    ·rw [if_neg h4] at hf ⊢
     by_cases h5 : 1000 < td t.b 0
     ·rw [if_pos h5] at hf; exact absurd hf (show ¬ (4 : Int) = 0 by decide)
     ·rw [if_neg h5] at hf ⊢; exact bvq hf
 ·rw [if_neg h1] at hf; exact absurd hf (show ¬ (5 : Int) = 0 by decide)
theorem bp8 {t : TX} {q : Int} {h G : List Int} (hf : (a2r t q h G).f = 0) : t.f = 0 ∧ (a2r t q h G).p = t.p := by
 rw [bj] at hf ⊢
 by_cases h1 : t.f = 0
 ·rw [if_pos h1] at hf ⊢
  refine ⟨h1, ?_⟩
  by_cases h2 : (qr h t.b).f = 0
  ·rw [if_pos h2]
  ·rw [if_neg h2] at hf; exact absurd hf h2
 ·rw [if_neg h1] at hf; exact absurd hf h1
theorem bs0 {t : ER} {h G : List Int} (hf : (a4c t h G).f = 0) : t.f = 0 ∧ (a4c t h G).p = t.p := by
 rw [bl] at hf ⊢
 by_cases h1 : t.f = 0
 ·rw [if_pos h1]; exact ⟨h1, rfl⟩
 ·rw [if_neg h1] at hf; exact absurd hf h1
theorem aaf {f a : Int} {P : Prop} (h : (bad f a).f = 0) (hf : ¬ f = 0) : P := absurd h hf
theorem bb6 (A : Ag R R' e) (hR : gn R) : ∀ (n : Nat),
  (∀ p o h G, (2 * ((R.length : Int) - p).toNat + 1 ≤ n) → 0 ≤ p → p ≤ (R.length : Int) → (al R p o h G).f = 0 → (al R p o h G).p ≤ e → al R' p o h G = al R p o h G) ∧
  (∀ p o a c k m h G, (2 * ((R.length : Int) - p).toNat + 2 ≤ n) → 0 ≤ p → p ≤ (R.length : Int) → (iu R p o a c k m h G).f = 0 → (iu R p o a c k m h G).p ≤ e → iu R' p o a c k m h G = iu R p o a c k m h G) ∧
  (∀ p o a c h G, (2 * ((R.length : Int) - p).toNat + 2 ≤ n) → 0 ≤ p → p ≤ (R.length : Int) → (qd R p o a c h G).f = 0 → (qd R p o a c h G).p ≤ e → qd R' p o a c h G = qd R p o a c h G)
 | 0 => ⟨fun _ _ _ _ h => by omega, fun _ _ _ _ _ _ _ _ h => by omega, fun _ _ _ _ _ _ h => by omega⟩
 | n + 1 => by
   obtain ⟨i1, i2, i3⟩ := bb6 A hR n
   have l := A.le; have l' := A.le'
   refine ⟨fun p o h G hn h0 hp hf he => ?_, fun p o a c k m h G hn h0 hp hf he => ?_, fun p o a c h G hn h0 hp hf he => ?_⟩
   ·have hg := fq R p 0
    have hl := gm R _ p 0 (zY _) hp
    have en : af R p 0 < (al R p o h G).p := by
     rw [bfn p o h G hp] at hf ⊢
     exact ((dx hR _).1 (af R p 0) o h G (zY _) hl hf).1
    have hqe : af R p 0 < e := by omega
    have sk := xa A _ p 0 (zY _) h0 hqe
    have hc := yk A (i := af R p 0) (by omega) hqe
    rw [ap] at hf he
    rw [ap R' p, ap R p, sk, hc, if_pos (by omega : af R p 0 < (R'.length : Int))]
    rw [if_pos (by omega : af R p 0 < (R.length : Int))] at hf he ⊢
    generalize af R p 0 = q at *
    have hpre : ∀ d : Int, (d = 1 ∨ d = 2) → q + d ≤ (R.length : Int) → (we (al R (q + d) (o + 1) h G) q).f = 0 → (we (al R (q + d) (o + 1) h G) q).p ≤ e → q + d < e ∧ we (al R' (q + d) (o + 1) h G) q = we (al R (q + d) (o + 1) h G) q := by
     intro d hd hq2 hf he
     obtain ⟨a1, a2⟩ := b31 hf
     have a3 := ((dx hR _).1 (q + d) (o + 1) h G (zY _) hq2 a1).1
     exact ⟨by omega, by rw [i1 (q + d) _ _ _ (by omega) (by omega) hq2 a1 (by omega)]⟩
    by_cases n1 : chA R q = 40
    ·simp only [if_pos n1] at hf he ⊢
     by_cases ho : 200 ≤ o
     ·simp only [if_pos ho] at hf; exact aaf hf (by decide)
     ·simp only [if_neg ho] at hf he ⊢
      exact i2 _ _ _ _ _ _ _ _ (by omega) (by omega) (by omega) hf he
    ·simp only [if_neg n1] at hf he ⊢
     by_cases n2 : chA R q = 91
     ·simp only [if_pos n2] at hf he ⊢
      by_cases ho : 200 ≤ o
      ·simp only [if_pos ho] at hf; exact aaf hf (by decide)
      ·simp only [if_neg ho] at hf he ⊢
       exact i3 _ _ _ _ _ _ (by omega) (by omega) (by omega) hf he
     ·simp only [if_neg n2] at hf he ⊢
      by_cases n3 : chA R q = 41 ∨ chA R q = 93
      ·simp only [if_pos n3] at hf; exact aaf hf (by decide)
      ·simp only [if_neg n3] at hf he ⊢
       by_cases n4 : chA R q = 34
       ·simp only [if_pos n4] at hf he ⊢
        obtain ⟨a1, a2⟩ := bp8 hf
        rw [a4u A hR _ (q + 1) [] (zY _) (by omega) (by omega) a1 (by omega)]
       ·simp only [if_neg n4] at hf he ⊢
        by_cases n5 : chA R q = 63
        ·simp only [if_pos n5] at hf he ⊢
         obtain ⟨a1, a2⟩ := bs0 hf
         rw [bqw A hR (by omega) (by omega) a1 (by omega)]
        ·simp only [if_neg n5] at hf he ⊢
         by_cases n6 : chA R q = 39 ∨ chA R q = 96
         ·simp only [if_pos n6] at hf he ⊢
          by_cases ho : 200 ≤ o
          ·simp only [if_pos ho] at hf; exact aaf hf (by decide)
          ·simp only [if_neg ho] at hf he ⊢
           exact (hpre 1 (.inl rfl) (by omega) hf he).2
         ·simp only [if_neg n6] at hf he ⊢
          have at1 : ∀ x : Int, 0 ≤ x → chA R (q + 1) = x → q + 2 ≤ (R.length : Int) := by
           intro x hx h9
           rw [bp] at h9
           by_cases h8 : q + 1 < (R.length : Int)
           ·omega
           ·rw [if_neg h8] at h9; omega
          by_cases n7 : chA R q = 44
          ·simp only [if_pos n7] at hf he ⊢
           by_cases h9 : chA R (q + 1) = 64
           ·simp only [if_pos h9] at hf he
            by_cases ho : 200 ≤ o
            ·simp only [if_pos ho] at hf; exact aaf hf (by decide)
            ·simp only [if_neg ho] at hf he
             obtain ⟨b1, b2⟩ := hpre 2 (.inr rfl) (at1 64 (by omega) h9) hf he
             rw [yk A (by omega) (by omega)]
             simp only [if_pos h9, if_neg ho]
             exact b2
           ·simp only [if_neg h9] at hf he
            by_cases ho : 200 ≤ o
            ·simp only [if_pos ho] at hf; exact aaf hf (by decide)
            ·simp only [if_neg ho] at hf he
             obtain ⟨b1, b2⟩ := hpre 1 (.inl rfl) (by omega) hf he
             rw [yk A (by omega) (by omega)]
             simp only [if_neg h9, if_neg ho]
             exact b2
          ·simp only [if_neg n7] at hf he ⊢
           by_cases n8 : chA R q = 35
           ·simp only [if_pos n8] at hf he ⊢
            by_cases h9 : chA R (q + 1) = 39
            ·simp only [if_pos h9] at hf he
             by_cases ho : 200 ≤ o
             ·simp only [if_pos ho] at hf; exact aaf hf (by decide)
             ·simp only [if_neg ho] at hf he
              obtain ⟨b1, b2⟩ := hpre 2 (.inr rfl) (at1 39 (by omega) h9) hf he
              rw [yk A (by omega) (by omega)]
              simp only [if_pos h9, if_neg ho]
              exact b2
            ·simp only [if_neg h9] at hf he
             by_cases h10 : chA R (q + 1) = 35 ∧ yl R (q + 2) = 1
             ·simp only [if_pos h10] at hf he
              have b1 := bvq hf
              rw [yk A (by omega) (by omega), a38 A (i := q + 2) (by omega) (by omega) h10.2]
              simp only [if_neg h9, and_true, if_pos h10.1, if_pos h10]
             ·simp only [if_neg h10] at hf; exact aaf hf (by decide)
           ·simp only [if_neg n8] at hf he ⊢
            obtain ⟨a1, a2, a3⟩ := b20 (n' := (R'.length : Int)) hf
            rw [a6s A _ q [] 0 (zY _) (by omega) (by omega) a1 (by omega)]
            exact a3
   ·have hg := fq R p 0
    have hl := gm R _ p 0 (zY _) hp
    have en : af R p 0 < (iu R p o a c k m h G).p := by
     rw [bf0 p o a c k m h G hp] at hf ⊢
     exact ((dx hR _).2.1 (af R p 0) o a c k m h G (zY _) hl hf).1
    have hqe : af R p 0 < e := by omega
    have sk := xa A _ p 0 (zY _) h0 hqe
    have hc := yk A (i := af R p 0) (by omega) hqe
    rw [ce] at hf he
    rw [ce R' p, ce R p, sk, hc, if_pos (by omega : af R p 0 < (R'.length : Int))]
    rw [if_pos (by omega : af R p 0 < (R.length : Int))] at hf he ⊢
    generalize af R p 0 = s at *
    by_cases n1 : chA R s = 41
    ·simp only [if_pos n1]
    ·simp only [if_neg n1] at hf he ⊢
     by_cases n2 : chA R s = 46 ∧ yl R (s + 1) = 1 ∧ 0 < c
     ·simp only [if_pos n2] at hf he ⊢
      by_cases n3 : (al R (s + 1) o h G).f = 0
      ·simp only [if_pos n3] at hf he ⊢
       have g1 := (dx hR _).1 (s + 1) o h G (zY _) (by omega) n3
       have g2 := fq R (al R (s + 1) o h G).p 0
       have g3 := gm R _ (al R (s + 1) o h G).p 0 (zY _) g1.2
       have g5 : s < af R (al R (s + 1) o h G).p 0 := by omega
       simp only [if_pos g5] at hf he ⊢
       by_cases n4 : chA R (af R (al R (s + 1) o h G).p 0) = 41
       ·simp only [if_pos n4] at hf he ⊢
        have g4 := (dx hR _).2.1 (af R (al R (s + 1) o h G).p 0) o a c (al R (s + 1) o h G).k (al R (s + 1) o h G).n (al R (s + 1) o h G).h (al R (s + 1) o h G).G (zY _) g3 hf
        have b0 : s + 1 < e := by omega
        have b1 := i1 (s + 1) o h G (by omega) (by omega) (by omega) n3 (by omega)
        have b2 := xa A _ (al R (s + 1) o h G).p 0 (zY _) (by omega) (by omega)
        have b3 := yk A (i := af R (al R (s + 1) o h G).p 0) (by omega) (by omega)
        rw [biz A (by omega) b0]
        simp only [if_pos n2, b1, if_pos n3, b2, b3, if_pos n4, if_pos g5]
        exact i2 _ _ _ _ _ _ _ _ (by omega) (by omega) (by omega) hf he
       ·simp only [if_neg n4] at hf; exact aaf hf (by decide)
      ·simp only [if_neg n3] at hf; exact absurd hf n3
     ·simp only [if_neg n2] at hf he
      by_cases n3 : (al R s o h G).f = 0
      ·simp only [if_pos n3] at hf he
       have g1 := (dx hR _).1 s o h G (zY _) (by omega) n3
       have g5 : s < (al R s o h G).p := by omega
       simp only [if_pos g5] at hf he
       have g4 := (dx hR _).2.1 (al R s o h G).p o a (c + 1) k m (al R s o h G).h (al R s o h G).G (zY _) g1.2 hf
       have b0 : s + 1 < e := by omega
       have b1 := i1 s o h G (by omega) (by omega) (by omega) n3 (by omega)
       rw [biz A (by omega) b0]
       simp only [if_neg n2, b1, if_pos n3, if_pos g5]
       exact i2 _ _ _ _ _ _ _ _ (by omega) (by omega) (by omega) hf he
      ·simp only [if_neg n3] at hf; exact absurd hf n3
   ·have hg := fq R p 0
    have hl := gm R _ p 0 (zY _) hp
    have en : af R p 0 < (qd R p o a c h G).p := by
     rw [bla p o a c h G hp] at hf ⊢
     exact ((dx hR _).2.2 (af R p 0) o a c h G (zY _) hl hf).1
    have hqe : af R p 0 < e := by omega
    have sk := xa A _ p 0 (zY _) h0 hqe
    have hc := yk A (i := af R p 0) (by omega) hqe
    rw [ga] at hf he
    rw [ga R' p, ga R p, sk, hc, if_pos (by omega : af R p 0 < (R'.length : Int))]
    rw [if_pos (by omega : af R p 0 < (R.length : Int))] at hf he ⊢
    generalize af R p 0 = s at *
    by_cases n1 : chA R s = 93
    ·simp only [if_pos n1]
    ·simp only [if_neg n1] at hf he ⊢
     by_cases n3 : (al R s o h G).f = 0
     ·simp only [if_pos n3] at hf he
      have g1 := (dx hR _).1 s o h G (zY _) (by omega) n3
      have g5 : s < (al R s o h G).p := by omega
      simp only [if_pos g5] at hf he
      have g4 := (dx hR _).2.2 (al R s o h G).p o a (c + 1) (al R s o h G).h (al R s o h G).G (zY _) g1.2 hf
      have b1 := i1 s o h G (by omega) (by omega) (by omega) n3 (by omega)
      simp only [b1, if_pos n3, if_pos g5]
      exact i3 _ _ _ _ _ _ (by omega) (by omega) (by omega) hf he
     ·simp only [if_neg n3] at hf; exact absurd hf n3
end
end Go.Ev
set_option maxRecDepth 100000
set_option linter.all false
namespace Go.Ev
theorem ajl : ∀ x : Int, 0 ≤ x → x < 256 → lo8 x = 128 + x % 64 := by
 have h : ∀ x : Fin 256, lo8 ((x.val : Nat) : Int) = 128 + ((x.val : Nat) : Int) % 64 := by decide +kernel
 intro x h0 h1
 have := h ⟨x.toNat, by omega⟩
 rw [show ((x.toNat : Nat) : Int) = x by omega] at this
 exact this
theorem cad : ∀ x : Int, 0 ≤ x → x < 16 → im 9 .u8 224 x = 224 + x := by
 have h : ∀ x : Fin 16, im 9 .u8 224 ((x.val : Nat) : Int) = 224 + ((x.val : Nat) : Int) := by decide +kernel
 intro x h0 h1
 have := h ⟨x.toNat, by omega⟩
 rw [show ((x.toNat : Nat) : Int) = x by omega] at this
 exact this
theorem b87 : ∀ x : Int, 0 ≤ x → x < 8 → im 9 .u8 240 x = 240 + x := by
 have h : ∀ x : Fin 8, im 9 .u8 240 ((x.val : Nat) : Int) = 240 + ((x.val : Nat) : Int) := by decide +kernel
 intro x h0 h1
 have := h ⟨x.toNat, by omega⟩
 rw [show ((x.toNat : Nat) : Int) = x by omega] at this
 exact this
theorem b41 : ∀ x : Int, 0 ≤ x → x < 32 → im 9 .u8 192 x = 192 + x := by
 have h : ∀ x : Fin 32, im 9 .u8 192 ((x.val : Nat) : Int) = 192 + ((x.val : Nat) : Int) := by decide +kernel
 intro x h0 h1
 have := h ⟨x.toNat, by omega⟩
 rw [show ((x.toNat : Nat) : Int) = x by omega] at this
 exact this
theorem ary (x : Int) : IntKind.u8.wrap x = x % 256 := by
 simp only [IntKind.wrap, IntKind.bits, IntKind.signed]; simp
theorem br1 (c : Int) : sh8 c 6 = c / 64 % 256 := by
 show IntKind.u8.wrap (c.fdiv 64) = _
 rw [ary, Int.fdiv_eq_ediv_of_nonneg _ (by omega)]
theorem bhp (c : Int) : sh8 c 12 = c / 4096 % 256 := by
 show IntKind.u8.wrap (c.fdiv 4096) = _
 rw [ary, Int.fdiv_eq_ediv_of_nonneg _ (by omega)]
theorem b7h (c : Int) : sh8 c 18 = c / 262144 % 256 := by
 show IntKind.u8.wrap (c.fdiv 262144) = _
 rw [ary, Int.fdiv_eq_ediv_of_nonneg _ (by omega)]
theorem bhx {c : Int} (h0 : 0 ≤ c) (h1 : c < 1114112) : ll c = Lib.encodeRuneZ c := by
 unfold ll
 by_cases a1 : 127 < c
 ·rw [if_pos a1]
  by_cases a2 : 2047 < c
  ·rw [if_pos a2]
   have e3 : [im 9 .u8 224 (c / 4096 % 256), lo8 (c / 64 % 256), lo8 (c % 256)] = [224 + c / 4096 % 256, 128 + c / 64 % 64, 128 + c % 64] ∨ 65535 < c := by
    by_cases h : 65535 < c
    ·exact .inr h
    ·refine .inl ?_
     rw [cad _ (by omega) (by omega), ajl _ (by omega) (by omega), ajl _ (by omega) (by omega)]
     congr 2
     ·omega
     ·congr 1; omega
   by_cases a3 : c < 55296
   ·rw [if_pos a3, bhp, br1, ary, Lib.encodeRuneZ_three (.inl ⟨by omega, a3⟩)]
    rcases e3 with e | e
    ·rw [e]; congr 1; omega
    ·omega
   ·rw [if_neg a3]
    by_cases a4 : 57343 < c
    ·rw [if_pos a4]
     by_cases a5 : 65535 < c
     ·rw [if_pos a5, b7h, bhp, br1, ary, Lib.encodeRuneZ_four (by omega) (by omega), b87 _ (by omega) (by omega), ajl _ (by omega) (by omega), ajl _ (by omega) (by omega), ajl _ (by omega) (by omega)]
      congr 1
      ·omega
      ·congr 1
       ·omega
       ·congr 1
        ·omega
        ·congr 1; omega
     ·rw [if_neg a5, bhp, br1, ary, Lib.encodeRuneZ_three (.inr ⟨by omega, by omega⟩)]
      rcases e3 with e | e
      ·rw [e]; congr 1; omega
      ·omega
    ·rw [if_neg a4, Lib.encodeRuneZ_bad (.inr (.inl ⟨by omega, by omega⟩))]
  ·rw [if_neg a2, br1, ary, Lib.encodeRuneZ_two (by omega) (by omega), b41 _ (by omega) (by omega), ajl _ (by omega) (by omega)]
   congr 1
   ·omega
   ·congr 1; omega
 ·rw [if_neg a1, Lib.encodeRuneZ_one h0 (by omega)]
def u8L (s : List Int) : List UInt8 := s.map fun x => UInt8.ofNat x.toNat
theorem b0q {l m : List Int} (hl : b8 l) (hm : b8 m) (h : u8L l = u8L m) : l = m := by
 refine aou hl hm ?_
 show ByteArray.mk (u8L l).toArray = ByteArray.mk (u8L m).toArray
 rw [h]
theorem a5x (s : List Int) : drJ s 0 = ((Lib.decodeL (u8L s)).1 : Int) := rfl
theorem b9n (s : List Int) : dwJ s 0 = ((Lib.decodeL (u8L s)).2 : Int) := rfl
theorem bdo {s : List Int} (h : b8 s) (n : Nat) : b8 (s.take n) := fun x hx => h x (List.mem_of_mem_take hx)
theorem bre {s : List Int} (h : b8 s) (n : Nat) : b8 (s.drop n) := fun x hx => h x (List.mem_of_mem_drop hx)
theorem b4m {s t : List Int} (h : b8 s) (h' : b8 t) : b8 (s ++ t) := fun x hx => (List.mem_append.1 hx).elim (h x) (h' x)
def aoz (s : List Int) : Prop := (Lib.decodeL (u8L s)).1 = 65533 ∧ (Lib.decodeL (u8L s)).2 = 1
theorem bmy {s : List Int} (hb : b8 s) (hs : s ≠ []) (hv : ¬ aoz s) : ll (drJ s 0) = s.take (Lib.decodeL (u8L s)).2 := by
 have e := Lib.encode_decode (u8L s) (by simpa [u8L] using hs) hv
 have hr := Lib.decodeL_rune (u8L s)
 rw [a5x, bhx (by omega) (by omega)]
 refine b0q (fun x hx => Lib.encodeRuneZ_byte _ x hx) (bdo hb _) ?_
 have e2 : u8L (Lib.encodeRuneZ ((Lib.decodeL (u8L s)).1 : Int)) = Lib.encodeRune ((Lib.decodeL (u8L s)).1 : Int) := rfl
 rw [e2, e]
 unfold u8L
 rw [List.map_take]
theorem ay6 {n b0 b1 b2 b3 : Nat} (hv : ¬ ((Lib.decodeN n b0 b1 b2 b3).1 = 65533 ∧ (Lib.decodeN n b0 b1 b2 b3).2 = 1)) {n' b1' b2' b3' : Nat} (hn : (Lib.decodeN n b0 b1 b2 b3).2 ≤ n')
  (h1 : 1 < (Lib.decodeN n b0 b1 b2 b3).2 → b1' = b1) (h2 : 2 < (Lib.decodeN n b0 b1 b2 b3).2 → b2' = b2) (h3 : 3 < (Lib.decodeN n b0 b1 b2 b3).2 → b3' = b3) : Lib.decodeN n' b0 b1' b2' b3' = Lib.decodeN n b0 b1 b2 b3 := by
 rcases Lib.decodeN_shape n b0 b1 b2 b3 with ⟨c, e⟩ | ⟨c1, c2, c3, cv, e⟩ | ⟨c1, c2, c3, c4, cv, cs, e⟩ | ⟨c1, c2, c3, c4, c5, cv, cw, e⟩ | e
 ·rw [e]; unfold Lib.decodeN; rw [if_pos c]
 ·rw [e] at hn h1 ⊢
  have q1 := h1 (by show (1 : Nat) < 2; omega)
  have hn : 2 ≤ n' := hn
  rw [q1]
  unfold Lib.decodeN
  rw [if_neg (by omega), if_pos (by omega), if_pos (by omega)]
 ·rw [e] at hn h1 h2 ⊢
  have q1 := h1 (by show (1 : Nat) < 3; omega)
  have q2 := h2 (by show (2 : Nat) < 3; omega)
  have hn : 3 ≤ n' := hn
  rw [q1, q2]
  unfold Lib.decodeN
  rw [if_neg (by omega), if_neg (by omega), if_pos (by omega), if_pos (by omega)]
 ·rw [e] at hn h1 h2 h3 ⊢
  have q1 := h1 (by show (1 : Nat) < 4; omega)
  have q2 := h2 (by show (2 : Nat) < 4; omega)
  have q3 := h3 (by show (3 : Nat) < 4; omega)
  have hn : 4 ≤ n' := hn
  rw [q1, q2, q3]
  unfold Lib.decodeN
  rw [if_neg (by omega), if_neg (by omega), if_neg (by omega), if_pos (by omega), if_pos (by omega)]
 ·rw [e] at hv; exact absurd ⟨rfl, rfl⟩ hv
theorem ol {α : Type} (l t : List α) (w i : Nat) (d : α) (hi : i < w) (hw : w ≤ l.length) : (l.take w ++ t).getD i d = l.getD i d := by
 rw [List.getD_eq_getElem?_getD, List.getD_eq_getElem?_getD, List.getElem?_append_left (by rw [List.length_take]; omega), List.getElem?_take, if_pos hi]
theorem bs8 {l : List UInt8} (hl : l ≠ []) (hv : ¬ ((Lib.decodeL l).1 = 65533 ∧ (Lib.decodeL l).2 = 1)) (t : List UInt8) : Lib.decodeL (l.take (Lib.decodeL l).2 ++ t) = Lib.decodeL l := by
 have hle := Lib.decodeL_le l hl
 have h1 := Lib.decodeL_width l
 rw [Lib.decodeL_N] at hv hle h1
 conv => rhs; rw [Lib.decodeL_N]
 rw [Lib.decodeL_N l]
 generalize hw : (Lib.decodeN l.length (l.getD 0 0).toNat (l.getD 1 0).toNat (l.getD 2 0).toNat (l.getD 3 0).toNat).2 = w at *
 rw [Lib.decodeL_N, ol l t w 0 0 (by omega) hle]
 refine ay6 (by rw [hw]; exact hv) ?_ ?_ ?_ ?_ <;> rw [hw]
 ·rw [zP, List.length_take]; omega
 ·intro h; rw [ol l t w 1 0 h hle]
 ·intro h; rw [ol l t w 2 0 h hle]
 ·intro h; rw [ol l t w 3 0 h hle]
theorem bpt (s : List Int) (n : Nat) : u8L (s.take n) = (u8L s).take n := by unfold u8L; rw [List.map_take]
theorem a88 (s : List Int) (n : Nat) : u8L (s.drop n) = (u8L s).drop n := by unfold u8L; rw [List.map_drop]
theorem b15 (s t : List Int) : u8L (s ++ t) = u8L s ++ u8L t := by unfold u8L; rw [List.map_append]
theorem axu (s : List Int) : (u8L s).length = s.length := by unfold u8L; rw [List.length_map]
theorem bf3 (s : List Int) (i : Nat) : (ao s).get! i = (u8L s).getD i 0 := by
 show ((u8L s).toArray).getD i default = _
 rw [Array.getD_eq_getD_getElem?, List.getD_eq_getElem?_getD, zL]; rfl
theorem bn6 (s : List Int) (p q : Nat) : Utf8.decode (ao s) (p + q) = Utf8.decode (ao (s.drop p)) q := by
 rw [Lib.decode_at, Lib.decode_at]
 simp only [bf3, a88]
 have e : ∀ i, ((u8L s).drop p).getD i 0 = (u8L s).getD (p + i) 0 := fun i => by rw [List.getD_eq_getElem?_getD, List.getD_eq_getElem?_getD, List.getElem?_drop]
 rw [e, e, e, e]
 have e2 : (ao s).size - (p + q) = (ao (s.drop p)).size - q := by
  rw [du, du, List.length_drop]; omega
 rw [e2]
 simp only [Nat.add_assoc]
theorem atv (s : List Int) (p : Nat) : ∀ (f q : Nat), kc f s (p + q) = kc f (s.drop p) q
 | 0, _ => rfl
 | f + 1, q => by
   unfold kc
   have e : Utf8.decode (va s) (p + q) = Utf8.decode (va (s.drop p)) q := bn6 s p q
   have hl : p + q < s.length ↔ q < (s.drop p).length := by rw [List.length_drop]; omega
   by_cases h : p + q < s.length
   ·rw [if_pos h, if_pos (hl.1 h), e, Nat.add_assoc, atv s p f]
   ·rw [if_neg h, if_neg (fun x => h (hl.2 x))]
theorem a03 (s : List Int) (p : Nat) : ai s p = ai (s.drop p) 0 := by
 unfold ai
 have := atv s p s.length 0
 rw [Nat.add_zero] at this
 rw [this, aj7 s.length (s.drop p).length (s.drop p) 0 (by rw [List.length_drop]; omega) (by omega)]
theorem tg {s : List Int} (hs : s ≠ []) : ai s 0 = drJ s 0 :: ai (s.drop (Lib.decodeL (u8L s)).2) 0 := by
 have h : 0 < s.length := List.length_pos_iff.2 hs
 have e := wj h
 rw [Nat.zero_add] at e
 rw [e]
 congr 1
 exact a03 s _
theorem akl (s : List Int) : b9 s = 1 ↔ Lib.validD (u8L s) = true := by
 show (if Lib.validD (u8L s) = true then (1 : Int) else 0) = 1 ↔ _
 by_cases h : Lib.validD (u8L s) = true
 ·rw [if_pos h]; exact ⟨fun _ => h, fun _ => rfl⟩
 ·rw [if_neg h]; exact ⟨fun e => absurd e (by decide), fun e => absurd e h⟩
theorem aav {s : List Int} (hs : s ≠ []) : b9 s = 1 ↔ ¬ aoz s ∧ b9 (s.drop (Lib.decodeL (u8L s)).2) = 1 := by
 rw [akl, akl, a88, Lib.validD_step (u8L s) (by simpa [u8L] using hs)]
 unfold aoz
 by_cases h : (Lib.decodeL (u8L s)).1 = 65533 ∧ (Lib.decodeL (u8L s)).2 = 1
 ·rw [if_pos h]; exact ⟨fun x => absurd x (by decide), fun x => absurd h x.1⟩
 ·rw [if_neg h]; exact ⟨fun x => ⟨h, x⟩, fun x => x.2⟩
theorem bm5 {s : List Int} (hs : s ≠ []) (hv : ¬ aoz s) (t : List Int) :
  ai (s.take (Lib.decodeL (u8L s)).2 ++ t) 0 = drJ s 0 :: ai t 0 ∧ (b9 t = 1 → b9 (s.take (Lib.decodeL (u8L s)).2 ++ t) = 1) := by
 have hl : u8L s ≠ [] := by simpa [u8L] using hs
 have e : Lib.decodeL (u8L (s.take (Lib.decodeL (u8L s)).2 ++ t)) = Lib.decodeL (u8L s) := by
  rw [b15, bpt]; exact bs8 hl hv (u8L t)
 have h1 := Lib.decodeL_width (u8L s)
 have hle := Lib.decodeL_le (u8L s) hl
 rw [axu] at hle
 have ht : (s.take (Lib.decodeL (u8L s)).2).length = (Lib.decodeL (u8L s)).2 := by rw [List.length_take]; omega
 have hne : s.take (Lib.decodeL (u8L s)).2 ++ t ≠ [] := by
  intro h
  have := congrArg List.length h
  rw [zP, ht, zS] at this
  omega
 have hd : (s.take (Lib.decodeL (u8L s)).2 ++ t).drop (Lib.decodeL (u8L s)).2 = t := by
  conv => lhs; arg 1; rw [← ht]
  rw [List.drop_left]
 constructor
 ·rw [tg hne, a5x, e, hd, a5x]
 ·intro hvt
  rw [aav hne]
  unfold aoz
  rw [e, hd]
  exact ⟨hv, hvt⟩
theorem a02 : ∀ (e : Nat) (s : List Int), b8 s → b9 s = 1 → e ≤ (ai s 0).length →
  b8 (((ai s 0).take e).flatMap ll) ∧ (((ai s 0).take e).flatMap ll).length ≤ s.length ∧
  ∀ t : List Int, ai (((ai s 0).take e).flatMap ll ++ t) 0 = (ai s 0).take e ++ ai t 0 ∧ (b9 t = 1 → b9 (((ai s 0).take e).flatMap ll ++ t) = 1)
 | 0, s, _, _, _ => ⟨fun x h => by simp at h, Nat.zero_le _, fun t => by
   rw [List.take_zero, List.flatMap_nil, zD, zD]
   exact ⟨rfl, fun h => h⟩⟩
 | e + 1, s, hb, hv, he => by
   have hs : s ≠ [] := by rintro rfl; exact absurd he (by show ¬ e + 1 ≤ 0; omega)
   obtain ⟨v1, v2⟩ := (aav hs).1 hv
   have hc := tg hs
   rw [hc] at he ⊢
   have he : e ≤ (ai (s.drop (Lib.decodeL (u8L s)).2) 0).length := by simpa using he
   obtain ⟨i1, i2, i3⟩ := a02 e (s.drop (Lib.decodeL (u8L s)).2) (bre hb _) v2 he
   rw [List.take_succ_cons, List.flatMap_cons, bmy hb hs v1]
   generalize ((ai (s.drop (Lib.decodeL (u8L s)).2) 0).take e).flatMap ll = f at *
   refine ⟨b4m (bdo hb _) i1, ?_, fun t => ?_⟩
   ·rw [zP, List.length_take]
    rw [List.length_drop] at i2
    omega
   ·obtain ⟨j1, j2⟩ := i3 t
    obtain ⟨k1, k2⟩ := bm5 hs v1 (f ++ t)
    rw [List.append_assoc, k1, j1]
    exact ⟨rfl, fun h => k2 (j2 h)⟩
theorem bf6 (t : List Int) : ai (32 :: t) 0 = 32 :: ai t 0 ∧ (b9 t = 1 → b9 (32 :: t) = 1) := by
 have e : Lib.decodeL (u8L (32 :: t)) = (32, 1) := Lib.decodeL_ascii 32 (u8L t) (by decide)
 constructor
 ·rw [tg (by simp), a5x, e]; rfl
 ·intro h
  rw [akl] at h ⊢
  show Lib.validD (32 :: u8L t) = true
  rw [Lib.validD_cons 32 (u8L t) (by decide)]; exact h
theorem bid {s t : List Int} {e : Int} (hb : b8 s) (hv : b9 s = 1) (h0 : 0 ≤ e) (he : e ≤ ((ai s 0).length : Int)) (ht : b9 t = 1) :
  Ag (ai s 0) (ai (wf (ai s 0) 0 e ++ ([32] ++ t)) 0) e ∧ b9 (wf (ai s 0) 0 e ++ ([32] ++ t)) = 1 ∧ e < ((ai (wf (ai s 0) 0 e ++ ([32] ++ t)) 0).length : Int) ∧ ((wf (ai s 0) 0 e).length : Int) ≤ (s.length : Int) := by
 obtain ⟨f1, f2, f3⟩ := a02 e.toNat s hb hv (by omega)
 have en : wf (ai s 0) 0 e = ((ai s 0).take e.toNat).flatMap ll := rfl
 rw [en]
 obtain ⟨b1, b2⟩ := bf6 t
 obtain ⟨g1, g2⟩ := f3 (32 :: t)
 have en2 : ([32] ++ t : List Int) = 32 :: t := rfl
 rw [en2, g1, b1]
 have hl : ((ai s 0).take e.toNat).length = e.toNat := by rw [List.length_take]; omega
 refine ⟨⟨he, ?_, fun i h1 h2 => ?_, ?_⟩, g2 (b2 ht), ?_, by omega⟩
 ·rw [zP, hl, zO]; omega
 ·exact ol _ _ _ _ _ (by omega) (by omega)
 ·rw [ay, zP, hl, zO, if_pos (by omega)]
  have : ((ai s 0).take e.toNat ++ 32 :: ai t 0).getD e.toNat 0 = 32 := by
   rw [List.getD_eq_getElem?_getD, List.getElem?_append_right (by omega), hl, Nat.sub_self]; rfl
  rw [this]; decide
 ·rw [zP, hl, zO]; omega
end Go.Ev
set_option maxRecDepth 100000
set_option linter.all false
namespace Go.Ev
theorem bg7 [Gv] {f nxi nxo i : Nat} {us : List AV} {Li Lo : List HO} {r : TR} (h : b8 (Gv.σ i) → ba f (.gv (.str (.s i) []) :: us) nxi Li r nxo Lo) : ba f (.gv (.str (.s i) []) :: us) nxi Li r nxo Lo := by
 intro ρ args w hg hw hc hv
 refine h ?_ ρ args w hg hw hc hv
 have hv2 := hv
 simp only [VRels] at hv2
 obtain ⟨v, vs, e, h1, _⟩ := hv2
 simp only [VRel, GVRel] at h1
 exact h1.2.2
theorem tu {s : List Int} (h : b8 s) (i : Nat) : 0 ≤ s.getD i 0 ∧ s.getD i 0 < 256 := by
 rw [List.getD_eq_getElem?_getD]
 cases hx : s[i]? with
 | none => exact ⟨by decide, by decide⟩
 | some x => exact h x (List.mem_of_getElem? hx)
theorem avg (s : List Int) (h : b8 s) (i : Nat) : (((u8L s).getD i 0).toNat : Int) = s.getD i 0 := by
 have hb := tu h i
 have e : (u8L s).getD i 0 = UInt8.ofNat (s.getD i 0).toNat := by
  unfold u8L
  rw [List.getD_eq_getElem?_getD, List.getD_eq_getElem?_getD, List.getElem?_map]
  cases s[i]? <;> rfl
 rw [e]
 generalize s.getD i 0 = x at *
 have : (UInt8.ofNat x.toNat).toNat = x.toNat := by simp; omega
 rw [this]; omega
theorem dh {s : List Int} (h : b8 s) (hs : 0 < s.length) :
  (s.getD 0 0 < 128 → ptN s = 1 ∧ ptC s = s.getD 0 0) ∧
  (194 ≤ s.getD 0 0 ∧ s.getD 0 0 < 224 ∧ 1 < (s.length : Int) ∧ 128 ≤ s.getD 1 0 ∧ s.getD 1 0 < 192 → ptN s = 2 ∧ ptC s = (s.getD 0 0 - 192) * 64 + s.getD 1 0 - 128) ∧
  (224 ≤ s.getD 0 0 ∧ s.getD 0 0 < 240 ∧ 2 < (s.length : Int) ∧ 128 ≤ s.getD 1 0 ∧ s.getD 1 0 < 192 ∧ 128 ≤ s.getD 2 0 ∧ s.getD 2 0 < 192 →
    (2048 ≤ ((s.getD 0 0 - 224) * 64 + s.getD 1 0 - 128) * 64 + s.getD 2 0 - 128 ∧ (((s.getD 0 0 - 224) * 64 + s.getD 1 0 - 128) * 64 + s.getD 2 0 - 128 < 55296 ∨ 57344 ≤ ((s.getD 0 0 - 224) * 64 + s.getD 1 0 - 128) * 64 + s.getD 2 0 - 128) →
      ptN s = 3 ∧ ptC s = ((s.getD 0 0 - 224) * 64 + s.getD 1 0 - 128) * 64 + s.getD 2 0 - 128) ∧
    (¬ (2048 ≤ ((s.getD 0 0 - 224) * 64 + s.getD 1 0 - 128) * 64 + s.getD 2 0 - 128 ∧ (((s.getD 0 0 - 224) * 64 + s.getD 1 0 - 128) * 64 + s.getD 2 0 - 128 < 55296 ∨ 57344 ≤ ((s.getD 0 0 - 224) * 64 + s.getD 1 0 - 128) * 64 + s.getD 2 0 - 128)) → ptN s = 0 ∧ ptC s = 0)) ∧
  (240 ≤ s.getD 0 0 ∧ s.getD 0 0 < 245 ∧ 3 < (s.length : Int) ∧ 128 ≤ s.getD 1 0 ∧ s.getD 1 0 < 192 ∧ 128 ≤ s.getD 2 0 ∧ s.getD 2 0 < 192 ∧ 128 ≤ s.getD 3 0 ∧ s.getD 3 0 < 192 →
    (65536 ≤ (((s.getD 0 0 - 240) * 64 + s.getD 1 0 - 128) * 64 + s.getD 2 0 - 128) * 64 + s.getD 3 0 - 128 ∧ (((s.getD 0 0 - 240) * 64 + s.getD 1 0 - 128) * 64 + s.getD 2 0 - 128) * 64 + s.getD 3 0 - 128 ≤ 1114111 →
      ptN s = 4 ∧ ptC s = (((s.getD 0 0 - 240) * 64 + s.getD 1 0 - 128) * 64 + s.getD 2 0 - 128) * 64 + s.getD 3 0 - 128) ∧
    (¬ (65536 ≤ (((s.getD 0 0 - 240) * 64 + s.getD 1 0 - 128) * 64 + s.getD 2 0 - 128) * 64 + s.getD 3 0 - 128 ∧ (((s.getD 0 0 - 240) * 64 + s.getD 1 0 - 128) * 64 + s.getD 2 0 - 128) * 64 + s.getD 3 0 - 128 ≤ 1114111) → ptN s = 0 ∧ ptC s = 0)) ∧
  (¬ s.getD 0 0 < 128 → ¬ (194 ≤ s.getD 0 0 ∧ s.getD 0 0 < 224 ∧ 1 < (s.length : Int) ∧ 128 ≤ s.getD 1 0 ∧ s.getD 1 0 < 192) → ¬ (224 ≤ s.getD 0 0 ∧ s.getD 0 0 < 240 ∧ 2 < (s.length : Int) ∧ 128 ≤ s.getD 1 0 ∧ s.getD 1 0 < 192 ∧ 128 ≤ s.getD 2 0 ∧ s.getD 2 0 < 192) →
    ¬ (240 ≤ s.getD 0 0 ∧ s.getD 0 0 < 245 ∧ 3 < (s.length : Int) ∧ 128 ≤ s.getD 1 0 ∧ s.getD 1 0 < 192 ∧ 128 ≤ s.getD 2 0 ∧ s.getD 2 0 < 192 ∧ 128 ≤ s.getD 3 0 ∧ s.getD 3 0 < 192) → ptN s = 0 ∧ ptC s = 0) := by
 have g0 := avg s h 0; have g1 := avg s h 1; have g2 := avg s h 2; have g3 := avg s h 3
 have r0 := tu h 0; have r1 := tu h 1; have r2 := tu h 2; have r3 := tu h 3
 unfold ptN ptC
 rw [a5x, b9n, Lib.decodeL_N, axu]
 generalize ((u8L s).getD 0 0).toNat = b0 at *
 generalize ((u8L s).getD 1 0).toNat = b1 at *
 generalize ((u8L s).getD 2 0).toNat = b2 at *
 generalize ((u8L s).getD 3 0).toNat = b3 at *
 generalize s.length = n at *
 have nob : ∀ c w : Nat, ¬ ((c : Int) = 65533 ∧ (w : Int) ≤ 1) → Lib.decodeN n b0 b1 b2 b3 = (c, w) →
   (if ((Lib.decodeN n b0 b1 b2 b3).1 : Int) = 65533 ∧ ((Lib.decodeN n b0 b1 b2 b3).2 : Int) ≤ 1 then (0 : Int) else ((Lib.decodeN n b0 b1 b2 b3).2 : Int)) = (w : Int) ∧
   (if ((Lib.decodeN n b0 b1 b2 b3).1 : Int) = 65533 ∧ ((Lib.decodeN n b0 b1 b2 b3).2 : Int) ≤ 1 then (0 : Int) else ((Lib.decodeN n b0 b1 b2 b3).1 : Int)) = (c : Int) := fun c w hn e => by
  rw [e]; dsimp only; rw [if_neg hn, if_neg hn]; exact ⟨rfl, rfl⟩
 have bad : Lib.decodeN n b0 b1 b2 b3 = (65533, 1) →
   (if ((Lib.decodeN n b0 b1 b2 b3).1 : Int) = 65533 ∧ ((Lib.decodeN n b0 b1 b2 b3).2 : Int) ≤ 1 then (0 : Int) else ((Lib.decodeN n b0 b1 b2 b3).2 : Int)) = 0 ∧
   (if ((Lib.decodeN n b0 b1 b2 b3).1 : Int) = 65533 ∧ ((Lib.decodeN n b0 b1 b2 b3).2 : Int) ≤ 1 then (0 : Int) else ((Lib.decodeN n b0 b1 b2 b3).1 : Int)) = 0 := fun e => by
  rw [e]; exact ⟨if_pos ⟨rfl, by decide⟩, if_pos ⟨rfl, by decide⟩⟩
 refine ⟨fun c => ?_, fun c => ?_, fun c => ⟨fun d => ?_, fun d => ?_⟩, fun c => ⟨fun d => ?_, fun d => ?_⟩, fun c1 c2 c3 c4 => ?_⟩
 ·have := nob b0 1 (by omega) (by unfold Lib.decodeN; rw [if_pos (by omega)])
  exact ⟨this.1, this.2.trans g0⟩
 ·have := nob (b0 % 32 * 64 + b1 % 64) 2 (by omega) (by unfold Lib.decodeN; rw [if_neg (by omega), if_pos (by omega), if_pos (by omega)])
  exact ⟨this.1, this.2.trans (by omega)⟩
 ·have := nob (b0 % 16 * 4096 + b1 % 64 * 64 + b2 % 64) 3 (by omega) (by unfold Lib.decodeN; rw [if_neg (by omega), if_neg (by omega), if_pos (by omega), if_pos (by omega)])
  exact ⟨this.1, this.2.trans (by omega)⟩
 ·exact bad (by unfold Lib.decodeN; rw [if_neg (by omega), if_neg (by omega), if_pos (by omega), if_neg (by omega)])
 ·have := nob (b0 % 8 * 262144 + b1 % 64 * 4096 + b2 % 64 * 64 + b3 % 64) 4 (by omega) (by unfold Lib.decodeN; rw [if_neg (by omega), if_neg (by omega), if_neg (by omega), if_pos (by omega), if_pos (by omega)])
  exact ⟨this.1, this.2.trans (by omega)⟩
 ·exact bad (by unfold Lib.decodeN; rw [if_neg (by omega), if_neg (by omega), if_neg (by omega), if_pos (by omega), if_neg (by omega)])
 ·refine bad ?_
  unfold Lib.decodeN
  rw [if_neg (by omega)]
  by_cases d1 : b0 / 32 = 6 ∧ (1 < n ∧ b1 / 64 = 2)
  ·rw [if_pos d1, if_neg (by omega)]
  ·rw [if_neg d1]
   by_cases d2 : b0 / 16 = 14 ∧ (1 < n ∧ b1 / 64 = 2) ∧ (2 < n ∧ b2 / 64 = 2)
   ·exfalso; omega
   ·rw [if_neg d2]
    by_cases d3 : b0 / 8 = 30 ∧ (1 < n ∧ b1 / 64 = 2) ∧ (2 < n ∧ b2 / 64 = 2) ∧ (3 < n ∧ b3 / 64 = 2)
    ·rw [if_pos d3, if_neg (by omega)]
    ·rw [if_neg d3]
theorem apw : ∀ (n : Nat) (s : List Int), s.length ≤ n → b9 s = 1 → ∀ x ∈ ai s 0, 0 ≤ x ∧ x < 1114112 ∧ ¬ (55296 ≤ x ∧ x ≤ 57343)
 | n, s, hn, hv, x, hx => by
   by_cases hs : s = []
   ·subst hs; cases hx
   ·obtain ⟨v1, v2⟩ := (aav hs).1 hv
    rw [tg hs] at hx
    have hw := Lib.decodeL_width (u8L s)
    have hl := List.length_pos_iff.2 hs
    rcases List.mem_cons.1 hx with rfl | hx
    ·rw [a5x]
     unfold aoz at v1
     rw [Lib.decodeL_N] at v1 ⊢
     rcases Lib.decodeN_shape (u8L s).length ((u8L s).getD 0 0).toNat ((u8L s).getD 1 0).toNat ((u8L s).getD 2 0).toNat ((u8L s).getD 3 0).toNat with ⟨c, e⟩ | ⟨c1, c2, c3, cv, e⟩ | ⟨c1, c2, c3, c4, cv, cs, e⟩ | ⟨c1, c2, c3, c4, c5, cv, cw, e⟩ | e
     ·rw [e]; dsimp only; omega
     ·rw [e]; dsimp only; omega
     ·rw [e]; dsimp only; omega
     ·rw [e]; dsimp only; omega
     ·rw [e] at v1; exact absurd ⟨rfl, rfl⟩ v1
    ·cases n with
     | zero => omega
     | succ n => exact apw n _ (by rw [List.length_drop]; omega) v2 x hx
theorem bjq {s : List Int} (hv : b9 s = 1) (i : Nat) (hi : i < (ai s 0).length) : 0 ≤ (ai s 0).getD i 0 ∧ (ai s 0).getD i 0 < 1114112 ∧ ¬ (55296 ≤ (ai s 0).getD i 0 ∧ (ai s 0).getD i 0 ≤ 57343) := by
 have : (ai s 0).getD i 0 ∈ ai s 0 := by
  rw [List.getD_eq_getElem?_getD, zK hi]; exact List.getElem_mem _
 exact apw _ s (zY _) hv _ this
theorem ab1 (l : List Int) (i n : Int) (h0 : 0 ≤ i) (h1 : i < n) (h2 : n ≤ (l.length : Int)) : wf l i n = ll (l.getD i.toNat 0) ++ wf l (i + 1) n := by
 have hi : i.toNat < (l.take n.toNat).length := by rw [List.length_take]; omega
 unfold wf
 rw [List.drop_eq_getElem_cons hi, List.flatMap_cons, show (i + 1).toNat = i.toNat + 1 by omega]
 congr 2
 rw [List.getElem_take, List.getD_eq_getElem?_getD, zK (by omega)]; rfl
theorem bpw (l : List Int) (i n : Int) (h : n ≤ i) : wf l i n = [] := by
 unfold wf
 rw [List.drop_eq_nil_of_le (by rw [List.length_take]; omega)]; rfl
section
variable {s t h G : List Int}
theorem rbh (hb : b8 s) (h3 : (s.length : Int) ≤ 1500) (hv : b9 s = 1) (ht : b9 t = 1) (hq : af (ai s 0) 0 0 < ((ai s 0).length : Int)) (hf : (al (ai s 0) (af (ai s 0) 0 0) 0 h G).f = 0) :
  0 ≤ (al (ai s 0) (af (ai s 0) 0 0) 0 h G).p ∧ (al (ai s 0) (af (ai s 0) 0 0) 0 h G).p ≤ ((ai s 0).length : Int) ∧
  b9 ((wf (ai s 0) 0 (al (ai s 0) (af (ai s 0) 0 0) 0 h G).p ++ [32]) ++ t) = 1 ∧ ((wf (ai s 0) 0 (al (ai s 0) (af (ai s 0) 0 0) 0 h G).p).length : Int) ≤ (s.length : Int) ∧
  af (ai ((wf (ai s 0) 0 (al (ai s 0) (af (ai s 0) 0 0) 0 h G).p ++ [32]) ++ t) 0) 0 0 = af (ai s 0) 0 0 ∧
  af (ai s 0) 0 0 < ((ai ((wf (ai s 0) 0 (al (ai s 0) (af (ai s 0) 0 0) 0 h G).p ++ [32]) ++ t) 0).length : Int) ∧
  al (ai ((wf (ai s 0) 0 (al (ai s 0) (af (ai s 0) 0 0) 0 h G).p ++ [32]) ++ t) 0) (af (ai s 0) 0 0) 0 h G = al (ai s 0) (af (ai s 0) 0 0) 0 h G := by
 have hR := ajo (s := s) (by omega)
 have g0 := fq (ai s 0) 0 0
 have e1 := (dx hR _).1 (af (ai s 0) 0 0) 0 h G (zY _) (by omega) hf
 obtain ⟨A, a1, a2, a3⟩ := bid (t := t) hb hv (e := (al (ai s 0) (af (ai s 0) 0 0) 0 h G).p) (by omega) e1.2 ht
 rw [← List.append_assoc] at A a1 a2
 have sk := xa A _ 0 0 (zY _) (Int.le_refl _) (by omega)
 exact ⟨by omega, e1.2, a1, a3, sk, by omega, (bb6 A hR _).1 _ 0 h G (zY _) (by omega) (by omega) hf (Int.le_refl _)⟩
theorem ccd (hb : b8 s) (h3 : (s.length : Int) ≤ 1500) (hv : b9 s = 1) (ht : b9 t = 1) (hq : af (ai s 0) 0 0 < ((ai s 0).length : Int)) (hf : (al (ai s 0) (af (ai s 0) 0 0) 0 h G).f = 0) :
  af (ai ((wf (ai s 0) 0 (al (ai s 0) (af (ai s 0) 0 0) 0 h G).p ++ [32]) ++ t) 0) 0 0 = af (ai s 0) 0 0 := (rbh hb h3 hv ht hq hf).2.2.2.2.1
theorem cch (hb : b8 s) (h3 : (s.length : Int) ≤ 1500) (hv : b9 s = 1) (ht : b9 t = 1) (hq : af (ai s 0) 0 0 < ((ai s 0).length : Int)) (hf : (al (ai s 0) (af (ai s 0) 0 0) 0 h G).f = 0) :
  al (ai ((wf (ai s 0) 0 (al (ai s 0) (af (ai s 0) 0 0) 0 h G).p ++ [32]) ++ t) 0) (af (ai s 0) 0 0) 0 h G = al (ai s 0) (af (ai s 0) 0 0) 0 h G := (rbh hb h3 hv ht hq hf).2.2.2.2.2.2
end
end Go.Ev
