import Derived.Test.YtkfdioikigponaaGreatDoorRaJ
set_option maxRecDepth 100000
set_option linter.all false
namespace Go.Ev
abbrev aj5 : AL := .i (.c 0) .nil
abbrev a67 : AL := .g .nil aj5
/- Where forms end. -/
theorem aia (R : List Int) : ∀ (n : Nat) (p b : Int), ((R.length : Int) - p).toNat ≤ n → ae R p b < (R.length : Int) → ape (R.getD (ae R p b).toNat 0) = 0 ∧ ¬ R.getD (ae R p b).toNat 0 = 59
 | 0, p, b, h, hl => by rw [dy, if_neg (by omega)] at hl; omega
 | n + 1, p, b, h, hl => by
   by_cases hp : p < (R.length : Int)
   ·have e := dy R p b
    rw [if_pos hp] at e
    split at e
    ·rw [e] at hl ⊢
     exact aia R n _ _ (by omega) hl
    ·split at e
     ·rw [e] at hl ⊢
      exact aia R n _ _ (by omega) hl
     ·split at e
      ·rw [e] at hl ⊢
       exact aia R n _ _ (by omega) hl
      ·rename_i h1 h2 h3
       rw [e]
       refine ⟨?_, h2⟩
       unfold ape at h3 ⊢
       split
       ·rename_i h4; rw [if_pos h4] at h3; exact absurd rfl h3
       ·rfl
   ·rw [dy, if_neg hp] at hl; omega
section
variable {σ : Nat → List Int}
theorem bfr (a : SE) : a.eval σ ≤ (SE.app 43 (.g (.s 0) (.i a aj5))).eval σ ∧ (a.eval σ ≤ (SE.len (.s 0)).eval σ → (SE.app 43 (.g (.s 0) (.i a aj5))).eval σ ≤ (SE.len (.s 0)).eval σ) ∧
  ((SE.app 43 (.g (.s 0) (.i a aj5))).eval σ < (SE.len (.s 0)).eval σ → (SE.app 40 (.i (.rd (.s 0) (.app 43 (.g (.s 0) (.i a aj5)))) .nil)).eval σ = 0 ∧ ¬ (SE.rd (.s 0) (.app 43 (.g (.s 0) (.i a aj5)))).eval σ = 59) :=
 ⟨(f43 a (.c 0)).1, (f43 a (.c 0)).2, fun h => aia _ _ _ _ (Nat.le_refl _) h⟩
end
/-- a token has at least one character -/
theorem bxu (R : List Int) (p : Int) (hp : p < (R.length : Int)) (hd : ¬ xu (R.getD p.toNat 0) = 1) (hf : (nw R p [] 0).f = 0) : p < (nw R p [] 0).p ∧ 1 ≤ ((nw R p [] 0).b.length : Int) := by
 have mono : ∀ (n : Nat) (p : Int) (b : List Int) (q : Int), ((R.length : Int) - p).toNat ≤ n → (nw R p b q).f = 0 → p ≤ (nw R p b q).p ∧ (b.length : Int) ≤ ((nw R p b q).b.length : Int) := by
  intro n
  induction n with
  | zero => intro p b q h _; rw [dg, if_neg (by omega)]; exact ⟨Int.le_refl _, Int.le_refl _⟩
  | succ n ih =>
    intro p b q h hf
    rw [dg] at hf ⊢
    split
    ·rename_i h1
     rw [if_pos h1] at hf
     split
     ·exact ⟨Int.le_refl _, Int.le_refl _⟩
     ·rename_i h2
      rw [if_neg h2] at hf
      split
      ·rename_i h3
       rw [if_pos h3] at hf
       split
       ·rename_i h4
        rw [if_pos h4] at hf
        have := ih (p + 2) _ 1 (by omega) hf
        rw [List.length_append] at this
        omega
       ·rename_i h4
        rw [if_neg h4] at hf
        exact absurd hf (show ¬ (5 : Int) = 0 by decide)
      ·rename_i h3
       rw [if_neg h3] at hf
       have := ih (p + 1) _ q (by omega) hf
       rw [List.length_append] at this
       omega
    ·exact ⟨Int.le_refl _, Int.le_refl _⟩
 rw [dg, if_pos hp, if_neg hd] at hf ⊢
 split
 ·rename_i h3
  rw [if_pos h3] at hf
  split
  ·rename_i h4
   rw [if_pos h4] at hf
   have := mono _ (p + 2) _ 1 (Nat.le_refl _) hf
   have h2 := awe (R.getD (p + 1).toNat 0)
   rw [List.nil_append] at *
   omega
  ·rename_i h4
   rw [if_neg h4] at hf
   exact absurd hf (show ¬ (5 : Int) = 0 by decide)
 ·rename_i h3
  rw [if_neg h3] at hf
  have := mono _ (p + 1) _ 0 (Nat.le_refl _) hf
  have h2 := awe (R.getD p.toNat 0)
  rw [List.nil_append] at *
  omega
theorem b2y (s : List Int) : afk s = 0 ∨ afk s = 1 ∨ afk s = 2 := by
 unfold afk
 rw [ua]
 split
 ·exact .inl rfl
 ·have := (awg (od s) _ 0 0 (if a7o s = 1 then 2305843009213693952 else 2305843009213693951) 1 (Nat.le_refl _) (by omega) (by split <;> omega) (.inr rfl)).1
  omega
theorem awj {R : List Int} (hR : gd R) (q : Int) (hq : q < (R.length : Int)) : ((th R q).f = 0 ∨ (th R q).f = 5) ∧ ((th R q).f = 0 → q < (th R q).p ∧ (th R q).p ≤ (R.length : Int)) := by
 have hm := a66 R _ (q + 1) 0 (Nat.le_refl _) (by omega)
 obtain ⟨h1, h2⟩ := bll hR (p := (rm R (q + 1) 0).p)
 rw [gk]
 split
 ·rename_i h
  have := h2 h
  split
  ·exact ⟨.inl rfl, fun _ => by dsimp only; omega⟩
  ·exact ⟨.inr rfl, fun h => absurd h (show ¬ (5 : Int) = 0 by decide)⟩
 ·exact ⟨h1, fun h => absurd h (by assumption)⟩
/-- a form, a list or a vector ends behind where it began -/
def afh (R : List Int) (p : Int) (r : FR) : Prop := r.f = 0 → p < r.p ∧ r.p ≤ (R.length : Int)
theorem dl {R : List Int} {p f a : Int} (h : ¬ f = 0) : afh R p (bad f a) := fun h' => absurd h' h
theorem di {R : List Int} {p : Int} {c : Prop} [Decidable c] {a b : FR} (h1 : c → afh R p a) (h2 : ¬ c → afh R p b) : afh R p (if c then a else b) := by
 by_cases h : c
 ·rw [if_pos h]; exact h1 h
 ·rw [if_neg h]; exact h2 h
theorem a0z {R G s : List Int} {p a e : Int} {h : List Int} (h1 : p < e) (h2 : e ≤ (R.length : Int)) : afh R p (akm G s a e h) := by
 unfold akm
 split
 ·exact fun _ => ⟨h1, h2⟩
 ·rename_i h3; exact dl h3
theorem a1w {R G : List Int} {c : CN} {p q e : Int} (h1 : p < e) (h2 : e ≤ (R.length : Int)) : afh R p (alk c q e G) := by
 unfold alk
 split
 ·exact fun _ => ⟨h1, h2⟩
 ·rename_i h3; exact dl h3
theorem bh7 {R G : List Int} {c : AR} {p q e n : Int} (h1 : p < e) (h2 : e ≤ (R.length : Int)) : afh R p (ase c q e n G) := by
 unfold ase
 split
 ·exact fun _ => ⟨h1, h2⟩
 ·rename_i h3; exact dl h3
theorem bl9 {R : List Int} {r : FR} {p p' q : Int} (hp : p ≤ p') (h : afh R p' r) : afh R p (zw r q) := by
 unfold zw
 split
 ·rename_i h3; have := h h3; exact a1w (by omega) this.2
 ·exact fun h' => by have := h h'; omega
theorem y3 {R : List Int} {r : FR} {p p' : Int} (hp : p ≤ p') (h : afh R p' r) : afh R p r := fun h' => by have := h h'; omega
theorem fp {R : List Int} (hR : gd R) : ∀ (n : Nat),
  (∀ p o h G, (2 * ((R.length : Int) - p).toNat + 1 ≤ n) → p ≤ (R.length : Int) → afh R p (al R p o h G)) ∧
  (∀ p o a c k m h G, (2 * ((R.length : Int) - p).toNat + 2 ≤ n) → p ≤ (R.length : Int) → afh R p (lg R p o a c k m h G)) ∧
  (∀ p o a c h G, (2 * ((R.length : Int) - p).toNat + 2 ≤ n) → p ≤ (R.length : Int) → afh R p (ud R p o a c h G))
 | 0 => ⟨fun _ _ _ _ h => by omega, fun _ _ _ _ _ _ _ _ h => by omega, fun _ _ _ _ _ _ h => by omega⟩
 | n + 1 => by
   obtain ⟨i1, i2, i3⟩ := fp hR n
   refine ⟨fun p o h G hn hp => ?_, fun p o a c k m h G hn hp => ?_, fun p o a c h G hn hp => ?_⟩
   ·have hg := d8 R p 0
    have hl := dm R _ p 0 (Nat.le_refl _) hp
    rw [av]
    refine di (fun hq => ?_) (fun _ => dl (by decide))
    have hat := aia R _ p 0 (Nat.le_refl _) hq
    have hc : chA R (ae R p 0) = R.getD (ae R p 0).toNat 0 := by rw [br, if_pos hq]
    have at1 : ∀ x : Int, 0 ≤ x → chA R (ae R p 0 + 1) = x → ae R p 0 + 1 < (R.length : Int) := by
     intro x hx h9
     rw [br] at h9
     by_cases h8 : ae R p 0 + 1 < (R.length : Int)
     ·exact h8
     ·rw [if_neg h8] at h9; omega
    rw [hc]
    generalize ae R p 0 = q at *
    have hpre : ∀ m : Int, (m = 1 ∨ m = 2) → q + m ≤ (R.length : Int) → afh R p (if 200 ≤ o then bad 12 q else zw (al R (q + m) (o + 1) h G) q) := fun m hm hl2 =>
     di (fun _ => dl (by decide)) (fun _ => bl9 (by omega) (i1 (q + m) _ _ _ (by omega) hl2))
    refine di (fun n1 => ?_) (fun n1 => ?_)
    ·exact di (fun _ => dl (by decide)) (fun _ => y3 (by omega) (i2 (q + 1) _ _ _ _ _ _ _ (by omega) (by omega)))
    refine di (fun n2 => ?_) (fun n2 => ?_)
    ·exact di (fun _ => dl (by decide)) (fun _ => y3 (by omega) (i3 (q + 1) _ _ _ _ _ (by omega) (by omega)))
    refine di (fun n3 => dl (by decide)) (fun n3 => ?_)
    refine di (fun n4 => ?_) (fun n4 => ?_)
    ·unfold a7w
     obtain ⟨_, hb⟩ := aj7 hR _ (q + 1) [] (Nat.le_refl _) (by omega)
     refine di (fun h1 => ?_) (fun h1 => dl h1)
     have := hb h1
     exact di (fun _ _ => ⟨by dsimp only; omega, by dsimp only; omega⟩) (fun h2 => dl h2)
    refine di (fun n5 => ?_) (fun n5 => ?_)
    ·unfold a6o
     obtain ⟨_, hb⟩ := awj hR q hq
     refine di (fun h1 => ?_) (fun h1 => dl h1)
     have := hb h1
     exact fun _ => ⟨by dsimp only; omega, by dsimp only; omega⟩
    refine di (fun n6 => hpre 1 (.inl rfl) (by omega)) (fun n6 => ?_)
    refine di (fun n7 => ?_) (fun n7 => ?_)
    ·exact di (fun h9 => hpre 2 (.inr rfl) (by have := at1 64 (by omega) h9; omega)) (fun _ => hpre 1 (.inl rfl) (by omega))
    refine di (fun n8 => ?_) (fun n8 => ?_)
    ·refine di (fun h9 => hpre 2 (.inr rfl) (by have := at1 39 (by omega) h9; omega)) (fun _ => ?_)
     exact di (fun h9 => a0z (by omega) (by have := at1 35 (by omega) h9.1; omega)) (fun _ => dl (by decide))
    ·have hd : ¬ xu (R.getD q.toNat 0) = 1 := by rw [jd, if_neg (by omega)]; decide
     unfold ave
     refine di (fun hf => ?_) (fun _ => dl (by decide))
     have h1 := bxu R q hq hd hf
     have h2 := (bcl R _ q [] 0 (Nat.le_refl _) (by omega)).2 hf
     refine di (fun _ => dl (by decide)) (fun _ => ?_)
     refine di (fun _ _ => ⟨by dsimp only; omega, h2.2.1⟩) (fun _ => ?_)
     refine di (fun _ => dl (by decide)) (fun _ => ?_)
     refine di (fun _ => dl (by decide)) (fun _ => ?_)
     exact a0z (by omega) h2.2.1
   ·have hg := d8 R p 0
    have hl := dm R _ p 0 (Nat.le_refl _) hp
    rw [c7]
    generalize ae R p 0 = s at *
    split
    ·rename_i hs
     split
     ·exact a1w (by omega) (by omega)
     ·split
      ·split
       ·rename_i hf
        have h1 := i1 (s + 1) o h G (by omega) (by omega) hf
        have h3 := d8 R (al R (s + 1) o h G).p 0
        have h4 := dm R _ (al R (s + 1) o h G).p 0 (Nat.le_refl _) h1.2
        split
        ·split
         ·exact y3 (by omega) (i2 _ _ _ _ _ _ _ _ (by omega) (by omega))
         ·exact dl (by decide)
        ·exact dl (by decide)
       ·rename_i hf
        exact fun h' => absurd h' hf
      ·split
       ·rename_i hf
        have h1 := i1 s o h G (by omega) (by omega) hf
        split
        ·exact y3 (by omega) (i2 _ _ _ _ _ _ _ _ (by omega) (by omega))
        ·exact dl (by decide)
       ·rename_i hf
        exact fun h' => absurd h' hf
    ·exact dl (by decide)
   ·have hg := d8 R p 0
    have hl := dm R _ p 0 (Nat.le_refl _) hp
    rw [jn]
    generalize ae R p 0 = s at *
    split
    ·rename_i hs
     split
     ·exact bh7 (by omega) (by omega)
     ·split
      ·rename_i hf
       have h1 := i1 s o h G (by omega) (by omega) hf
       split
       ·exact y3 (by omega) (i3 _ _ _ _ _ _ (by omega) (by omega))
       ·exact dl (by decide)
      ·rename_i hf
       exact fun h' => absurd h' hf
    ·exact dl (by decide)
theorem byb (R : List Int) : ∀ (n : Nat) (p o a c : Int) (h G : List Int), ((R.length : Int) - p).toNat ≤ n → (ud R p o a c h G).f = 0 → (ud R p o a c h G).k = 4
 | 0, p, o, a, c, h, G, hn, hf => by
   have hg := d8 R p 0
   rw [jn, if_neg (by omega)] at hf
   exact absurd hf (show ¬ (5 : Int) = 0 by decide)
 | n + 1, p, o, a, c, h, G, hn, hf => by
   have hg := d8 R p 0
   rw [jn] at hf ⊢
   generalize ae R p 0 = s at *
   by_cases h1 : s < (R.length : Int)
   ·rw [if_pos h1] at hf ⊢
    by_cases h2 : chA R s = 93
    ·rw [if_pos h2] at hf ⊢
     unfold ase at hf ⊢
     by_cases h3 : (af1 h c).f = 0
     ·rw [if_pos h3]
     ·rw [if_neg h3] at hf; exact absurd hf h3
    ·rw [if_neg h2] at hf ⊢
     by_cases h3 : (al R s o h G).f = 0
     ·rw [if_pos h3] at hf ⊢
      by_cases h4 : s < (al R s o h G).p
      ·rw [if_pos h4] at hf ⊢
       exact byb R n _ _ _ _ _ _ (by omega) hf
      ·rw [if_neg h4] at hf; exact absurd hf (show ¬ (5 : Int) = 0 by decide)
     ·rw [if_neg h3] at hf; exact absurd hf h3
   ·rw [if_neg h1] at hf; exact absurd hf (show ¬ (5 : Int) = 0 by decide)
section
variable {σ : Nat → List Int}
theorem cbm (a o b c : SE) (h g : GE) : (SE.app 70 (.g (.s 0) (.i a (.i o (.i b (.i c (.g h (.g g .nil)))))))).eval σ = 0 → (ud (σ 0) (a.eval σ) (o.eval σ) (b.eval σ) (c.eval σ) (h.eval σ) (g.eval σ)).k = 4 := fun hf => byb _ _ _ _ _ _ _ _ (Nat.le_refl _) hf
theorem ca8 (a : SE) : a.eval σ < (SE.len (.s 0)).eval σ → (SE.app 108 (.g (.s 0) (.i a .nil))).eval σ = 0 → (SE.app 44 (.g (.s 0) (.i a a67))).eval σ = 0 → a.eval σ < (SE.app 45 (.g (.s 0) (.i a a67))).eval σ ∧ 1 ≤ (SE.len (.app 44 (.g (.s 0) (.i a a67)))).eval σ := by
 intro h1 h2 h3
 have h1' : a.eval σ < ((σ 0).length : Int) := h1
 have h2' : alm (σ 0) (a.eval σ) = 0 := h2
 rw [bg, if_pos h1'] at h2'
 have h4 : ¬ xu ((σ 0).getD (a.eval σ).toNat 0) = 1 := by omega
 exact bxu _ _ h1' h4 h3
theorem f47 (g : GE) : (SE.app 47 (.g g .nil)).eval σ = 0 ∨ (SE.app 47 (.g g .nil)).eval σ = 1 ∨ (SE.app 47 (.g g .nil)).eval σ = 2 := b2y _
theorem cbf (hR : gd (σ 0)) (a : SE) : a.eval σ < (SE.len (.s 0)).eval σ → ((SE.app 102 (.g (.s 0) (.i a .nil))).eval σ = 0 ∨ (SE.app 102 (.g (.s 0) (.i a .nil))).eval σ = 5) ∧ ((SE.app 102 (.g (.s 0) (.i a .nil))).eval σ = 0 → a.eval σ < (SE.app 105 (.g (.s 0) (.i a .nil))).eval σ ∧ (SE.app 105 (.g (.s 0) (.i a .nil))).eval σ ≤ (SE.len (.s 0)).eval σ) := fun h => awj hR _ h
theorem f60 (hR : gd (σ 0)) (a o : SE) (h g : GE) : a.eval σ ≤ (SE.len (.s 0)).eval σ → (SE.app 60 (.g (.s 0) (.i a (.i o (.g h (.g g .nil)))))).eval σ = 0 → a.eval σ < (SE.app 64 (.g (.s 0) (.i a (.i o (.g h (.g g .nil)))))).eval σ ∧ (SE.app 64 (.g (.s 0) (.i a (.i o (.g h (.g g .nil)))))).eval σ ≤ (SE.len (.s 0)).eval σ := fun hp => (fp hR _).1 _ _ _ _ (Nat.le_refl _) hp
theorem f65 (hR : gd (σ 0)) (a o b c k n : SE) (h g : GE) : a.eval σ ≤ (SE.len (.s 0)).eval σ → (SE.app 65 (.g (.s 0) (.i a (.i o (.i b (.i c (.i k (.i n (.g h (.g g .nil)))))))))).eval σ = 0 → a.eval σ < (SE.app 69 (.g (.s 0) (.i a (.i o (.i b (.i c (.i k (.i n (.g h (.g g .nil)))))))))).eval σ ∧ (SE.app 69 (.g (.s 0) (.i a (.i o (.i b (.i c (.i k (.i n (.g h (.g g .nil)))))))))).eval σ ≤ (SE.len (.s 0)).eval σ := fun hp => (fp hR _).2.1 _ _ _ _ _ _ _ _ (Nat.le_refl _) hp
theorem f70 (hR : gd (σ 0)) (a o b c : SE) (h g : GE) : a.eval σ ≤ (SE.len (.s 0)).eval σ → (SE.app 70 (.g (.s 0) (.i a (.i o (.i b (.i c (.g h (.g g .nil)))))))).eval σ = 0 → a.eval σ < (SE.app 73 (.g (.s 0) (.i a (.i o (.i b (.i c (.g h (.g g .nil)))))))).eval σ ∧ (SE.app 73 (.g (.s 0) (.i a (.i o (.i b (.i c (.g h (.g g .nil)))))))).eval σ ≤ (SE.len (.s 0)).eval σ := fun hp => (fp hR _).2.2 _ _ _ _ _ _ (Nat.le_refl _) hp
end
end Go.Ev
