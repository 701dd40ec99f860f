import Derived.Test.YtkfdioikigponaaGreatDoorRaJ
set_option maxRecDepth 100000
set_option linter.all false
namespace Go.Ev
abbrev aju : AL := .i (.c 0) .nil
abbrev a6b : AL := .g .nil aju
theorem ad0 (R : List Int) : ∀ (n : Nat) (p b : Int), ((R.length : Int) - p).toNat ≤ n → af R p b < (R.length : Int) → ali (R.getD (af R p b).toNat 0) = 0 ∧ ¬ R.getD (af R p b).toNat 0 = 59
 | 0, p, b, h, hl => by rw [dc, if_neg (by omega)] at hl; omega
 | n + 1, p, b, h, hl => by
   by_cases hp : p < (R.length : Int)
   ·have e := dc R p b
    rw [if_pos hp] at e
    split at e
    ·rw [e] at hl ⊢
     exact ad0 R n _ _ (by omega) hl
    ·split at e
     ·rw [e] at hl ⊢
      exact ad0 R n _ _ (by omega) hl
     ·split at e
      ·rw [e] at hl ⊢
       exact ad0 R n _ _ (by omega) hl
      ·rename_i h1 h2 h3
       rw [e]
       refine ⟨?_, h2⟩
       unfold ali at h3 ⊢
       split
       ·rename_i h4; rw [if_pos h4] at h3; exact absurd rfl h3
       ·rfl
   ·rw [dc, if_neg hp] at hl; omega
section
variable {σ : Nat → List Int}
theorem bf1 (a : SE) : a.eval σ ≤ (SE.app 43 (.g (.s 0) (.i a aju))).eval σ ∧ (a.eval σ ≤ (SE.len (.s 0)).eval σ → (SE.app 43 (.g (.s 0) (.i a aju))).eval σ ≤ (SE.len (.s 0)).eval σ) ∧
  ((SE.app 43 (.g (.s 0) (.i a aju))).eval σ < (SE.len (.s 0)).eval σ → (SE.app 40 (.i (.rd (.s 0) (.app 43 (.g (.s 0) (.i a aju)))) .nil)).eval σ = 0 ∧ ¬ (SE.rd (.s 0) (.app 43 (.g (.s 0) (.i a aju)))).eval σ = 59) :=
 ⟨(f43 a (.c 0)).1, (f43 a (.c 0)).2, fun h => ad0 _ _ _ _ (zY _) h⟩
end
theorem bzr (R : List Int) (p : Int) (hp : p < (R.length : Int)) (hd : ¬ v6 (R.getD p.toNat 0) = 1) (hf : (lg R p [] 0).f = 0) : p < (lg R p [] 0).p ∧ 1 ≤ ((lg R p [] 0).b.length : Int) := by
 have mono : ∀ (n : Nat) (p : Int) (b : List Int) (q : Int), ((R.length : Int) - p).toNat ≤ n → (lg R p b q).f = 0 → p ≤ (lg R p b q).p ∧ (b.length : Int) ≤ ((lg R p b q).b.length : Int) := by
  intro n
  induction n with
  | zero => intro p b q h _; rw [c7, if_neg (by omega)]; exact ⟨Int.le_refl _, Int.le_refl _⟩
  | succ n ih =>
    intro p b q h hf
    rw [c7] at hf ⊢
    split
    ·rename_i h1
     rw [if_pos h1] at hf
     split
     ·exact ⟨Int.le_refl _, Int.le_refl _⟩
     ·rename_i h2
      rw [if_neg h2] at hf
      split
      ·rename_i h3
       rw [if_pos h3] at hf
       split
       ·rename_i h4
        rw [if_pos h4] at hf
        have := ih (p + 2) _ 1 (by omega) hf
        rw [zP] at this
        omega
       ·rename_i h4
        rw [if_neg h4] at hf
        exact absurd hf (show ¬ (5 : Int) = 0 by decide)
      ·rename_i h3
       rw [if_neg h3] at hf
       have := ih (p + 1) _ q (by omega) hf
       rw [zP] at this
       omega
    ·exact ⟨Int.le_refl _, Int.le_refl _⟩
 rw [c7, if_pos hp, if_neg hd] at hf ⊢
 split
 ·rename_i h3
  rw [if_pos h3] at hf
  split
  ·rename_i h4
   rw [if_pos h4] at hf
   have := mono _ (p + 2) _ 1 (zY _) hf
   have h2 := awv (R.getD (p + 1).toNat 0)
   rw [zD] at *
   omega
  ·rename_i h4
   rw [if_neg h4] at hf
   exact absurd hf (show ¬ (5 : Int) = 0 by decide)
 ·rename_i h3
  rw [if_neg h3] at hf
  have := mono _ (p + 1) _ 0 (zY _) hf
  have h2 := awv (R.getD p.toNat 0)
  rw [zD] at *
  omega
theorem b2u (s : List Int) : acp s = 0 ∨ acp s = 1 ∨ acp s = 2 := by
 unfold acp
 rw [ui]
 split
 ·exact .inl rfl
 ·have := (au4 (oo s) _ 0 0 (if a4k s = 1 then 2305843009213693952 else 2305843009213693951) 1 (zY _) (by omega) (by split <;> omega) (.inr rfl)).1
  omega
theorem azc {R : List Int} (hR : gn R) (q : Int) (hq : q < (R.length : Int)) : ((oe R q).f = 0 ∨ (oe R q).f = 5) ∧ ((oe R q).f = 0 → q < (oe R q).p ∧ (oe R q).p ≤ (R.length : Int)) := by
 have hm := aof R _ (q + 1) 0 (zY _) (by omega)
 obtain ⟨h1, h2⟩ := a6w hR (p := (j4 R (q + 1) 0).p)
 rw [ee]
 split
 ·rename_i h
  have := h2 h
  split
  ·exact ⟨.inl rfl, fun _ => by dsimp only; omega⟩
  ·exact ⟨.inr rfl, fun h => absurd h (show ¬ (5 : Int) = 0 by decide)⟩
 ·exact ⟨h1, fun h => absurd h (by assumption)⟩
def ae2 (R : List Int) (p : Int) (r : FR) : Prop := r.f = 0 → p < r.p ∧ r.p ≤ (R.length : Int)
theorem dp {R : List Int} {p f a : Int} (h : ¬ f = 0) : ae2 R p (bad f a) := fun h' => absurd h' h
theorem dj {R : List Int} {p : Int} {c : Prop} [Decidable c] {a b : FR} (h1 : c → ae2 R p a) (h2 : ¬ c → ae2 R p b) : ae2 R p (if c then a else b) := by
 by_cases h : c
 ·rw [if_pos h]; exact h1 h
 ·rw [if_neg h]; exact h2 h
theorem a1j {R G s : List Int} {p a e : Int} {h : List Int} (h1 : p < e) (h2 : e ≤ (R.length : Int)) : ae2 R p (ai7 G s a e h) := by
 unfold ai7
 split
 ·exact fun _ => ⟨h1, h2⟩
 ·rename_i h3; exact dp h3
theorem a1l {R G : List Int} {c : CN} {p q e : Int} (h1 : p < e) (h2 : e ≤ (R.length : Int)) : ae2 R p (asv c q e G) := by
 unfold asv
 split
 ·exact fun _ => ⟨h1, h2⟩
 ·rename_i h3; exact dp h3
theorem bka {R G : List Int} {c : AR} {p q e n : Int} (h1 : p < e) (h2 : e ≤ (R.length : Int)) : ae2 R p (avr c q e n G) := by
 unfold avr
 split
 ·exact fun _ => ⟨h1, h2⟩
 ·rename_i h3; exact dp h3
theorem bnq {R : List Int} {r : FR} {p p' q : Int} (hp : p ≤ p') (h : ae2 R p' r) : ae2 R p (we r q) := by
 unfold we
 split
 ·rename_i h3; have := h h3; exact a1l (by omega) this.2
 ·exact fun h' => by have := h h'; omega
theorem yt {R : List Int} {r : FR} {p p' : Int} (hp : p ≤ p') (h : ae2 R p' r) : ae2 R p r := fun h' => by have := h h'; omega
theorem dx {R : List Int} (hR : gn R) : ∀ (n : Nat),
  (∀ p o h G, (2 * ((R.length : Int) - p).toNat + 1 ≤ n) → p ≤ (R.length : Int) → ae2 R p (al R p o h G)) ∧
  (∀ p o a c k m h G, (2 * ((R.length : Int) - p).toNat + 2 ≤ n) → p ≤ (R.length : Int) → ae2 R p (iu R p o a c k m h G)) ∧
  (∀ p o a c h G, (2 * ((R.length : Int) - p).toNat + 2 ≤ n) → p ≤ (R.length : Int) → ae2 R p (qd R p o a c h G))
 | 0 => ⟨fun _ _ _ _ h => by omega, fun _ _ _ _ _ _ _ _ h => by omega, fun _ _ _ _ _ _ h => by omega⟩
 | n + 1 => by
   obtain ⟨i1, i2, i3⟩ := dx hR n
   refine ⟨fun p o h G hn hp => ?_, fun p o a c k m h G hn hp => ?_, fun p o a c h G hn hp => ?_⟩
   ·have hg := fq R p 0
    have hl := gm R _ p 0 (zY _) hp
    rw [ap]
    refine dj (fun hq => ?_) (fun _ => dp (by decide))
    have hat := ad0 R _ p 0 (zY _) hq
    have hc : chA R (af R p 0) = R.getD (af R p 0).toNat 0 := by rw [bp, if_pos hq]
    have at1 : ∀ x : Int, 0 ≤ x → chA R (af R p 0 + 1) = x → af R p 0 + 1 < (R.length : Int) := by
     intro x hx h9
     rw [bp] at h9
     by_cases h8 : af R p 0 + 1 < (R.length : Int)
     ·exact h8
     ·rw [if_neg h8] at h9; omega
    rw [hc]
    generalize af R p 0 = q at *
    have hpre : ∀ m : Int, (m = 1 ∨ m = 2) → q + m ≤ (R.length : Int) → ae2 R p (if 200 ≤ o then bad 12 q else we (al R (q + m) (o + 1) h G) q) := fun m hm hl2 =>
     dj (fun _ => dp (by decide)) (fun _ => bnq (by omega) (i1 (q + m) _ _ _ (by omega) hl2))
    refine dj (fun n1 => ?_) (fun n1 => ?_)
    ·exact dj (fun _ => dp (by decide)) (fun _ => yt (by omega) (i2 (q + 1) _ _ _ _ _ _ _ (by omega) (by omega)))
    refine dj (fun n2 => ?_) (fun n2 => ?_)
    ·exact dj (fun _ => dp (by decide)) (fun _ => yt (by omega) (i3 (q + 1) _ _ _ _ _ (by omega) (by omega)))
    refine dj (fun n3 => dp (by decide)) (fun n3 => ?_)
    refine dj (fun n4 => ?_) (fun n4 => ?_)
    ·unfold a2r
     obtain ⟨_, hb⟩ := ach hR _ (q + 1) [] (zY _) (by omega)
     refine dj (fun h1 => ?_) (fun h1 => dp h1)
     have := hb h1
     exact dj (fun _ _ => ⟨by dsimp only; omega, by dsimp only; omega⟩) (fun h2 => dp h2)
    refine dj (fun n5 => ?_) (fun n5 => ?_)
    ·unfold a4c
     obtain ⟨_, hb⟩ := azc hR q hq
     refine dj (fun h1 => ?_) (fun h1 => dp h1)
     have := hb h1
     exact fun _ => ⟨by dsimp only; omega, by dsimp only; omega⟩
    refine dj (fun n6 => hpre 1 (.inl rfl) (by omega)) (fun n6 => ?_)
    refine dj (fun n7 => ?_) (fun n7 => ?_)
    ·exact dj (fun h9 => hpre 2 (.inr rfl) (by have := at1 64 (by omega) h9; omega)) (fun _ => hpre 1 (.inl rfl) (by omega))
    refine dj (fun n8 => ?_) (fun n8 => ?_)
    ·refine dj (fun h9 => hpre 2 (.inr rfl) (by have := at1 39 (by omega) h9; omega)) (fun _ => ?_)
     exact dj (fun h9 => a1j (by omega) (by have := at1 35 (by omega) h9.1; omega)) (fun _ => dp (by decide))
    ·have hd : ¬ v6 (R.getD q.toNat 0) = 1 := by rw [jg, if_neg (by omega)]; decide
     unfold alj
     refine dj (fun hf => ?_) (fun _ => dp (by decide))
     have h1 := bzr R q hq hd hf
     have h2 := (akn R _ q [] 0 (zY _) (by omega)).2 hf
     refine dj (fun _ => dp (by decide)) (fun _ => ?_)
     refine dj (fun _ _ => ⟨by dsimp only; omega, h2.2.1⟩) (fun _ => ?_)
     refine dj (fun _ => dp (by decide)) (fun _ => ?_)
     refine dj (fun _ => dp (by decide)) (fun _ => ?_)
     exact a1j (by omega) h2.2.1
   ·have hg := fq R p 0
    have hl := gm R _ p 0 (zY _) hp
    rw [ce]
    generalize af R p 0 = s at *
    split
    ·rename_i hs
     split
     ·exact a1l (by omega) (by omega)
     ·split
      ·split
       ·rename_i hf
        have h1 := i1 (s + 1) o h G (by omega) (by omega) hf
        have h3 := fq R (al R (s + 1) o h G).p 0
        have h4 := gm R _ (al R (s + 1) o h G).p 0 (zY _) h1.2
        split
        ·split
         ·exact yt (by omega) (i2 _ _ _ _ _ _ _ _ (by omega) (by omega))
         ·exact dp (by decide)
        ·exact dp (by decide)
       ·rename_i hf
        exact fun h' => absurd h' hf
      ·split
       ·rename_i hf
        have h1 := i1 s o h G (by omega) (by omega) hf
        split
        ·exact yt (by omega) (i2 _ _ _ _ _ _ _ _ (by omega) (by omega))
        ·exact dp (by decide)
       ·rename_i hf
        exact fun h' => absurd h' hf
    ·exact dp (by decide)
   ·have hg := fq R p 0
    have hl := gm R _ p 0 (zY _) hp
    rw [ga]
    generalize af R p 0 = s at *
    split
    ·rename_i hs
     split
     ·exact bka (by omega) (by omega)
     ·split
      ·rename_i hf
       have h1 := i1 s o h G (by omega) (by omega) hf
       split
       ·exact yt (by omega) (i3 _ _ _ _ _ _ (by omega) (by omega))
       ·exact dp (by decide)
      ·rename_i hf
       exact fun h' => absurd h' hf
    ·exact dp (by decide)
theorem bym (R : List Int) : ∀ (n : Nat) (p o a c : Int) (h G : List Int), ((R.length : Int) - p).toNat ≤ n → (qd R p o a c h G).f = 0 → (qd R p o a c h G).k = 4
 | 0, p, o, a, c, h, G, hn, hf => by
   have hg := fq R p 0
   rw [ga, if_neg (by omega)] at hf
   exact absurd hf (show ¬ (5 : Int) = 0 by decide)
 | n + 1, p, o, a, c, h, G, hn, hf => by
   have hg := fq R p 0
   rw [ga] at hf ⊢
   generalize af R p 0 = s at *
   by_cases h1 : s < (R.length : Int)
   ·rw [if_pos h1] at hf ⊢
    by_cases h2 : chA R s = 93
    ·rw [if_pos h2] at hf ⊢
     unfold avr at hf ⊢
     by_cases h3 : (afg h c).f = 0
     ·rw [if_pos h3]
     ·rw [if_neg h3] at hf; exact absurd hf h3
    ·rw [if_neg h2] at hf ⊢
     by_cases h3 : (al R s o h G).f = 0
     ·rw [if_pos h3] at hf ⊢
      by_cases h4 : s < (al R s o h G).p
      ·rw [if_pos h4] at hf ⊢
       exact bym R n _ _ _ _ _ _ (by omega) hf
      ·rw [if_neg h4] at hf; exact absurd hf (show ¬ (5 : Int) = 0 by decide)
     ·rw [if_neg h3] at hf; exact absurd hf h3
   ·rw [if_neg h1] at hf; exact absurd hf (show ¬ (5 : Int) = 0 by decide)
section
variable {σ : Nat → List Int}
theorem cax (a o b c : SE) (h g : GE) : (SE.app 70 (.g (.s 0) (.i a (.i o (.i b (.i c (.g h (.g g .nil)))))))).eval σ = 0 → (qd (σ 0) (a.eval σ) (o.eval σ) (b.eval σ) (c.eval σ) (h.eval σ) (g.eval σ)).k = 4 := fun hf => bym _ _ _ _ _ _ _ _ (zY _) hf
theorem ca4 (a : SE) : a.eval σ < (SE.len (.s 0)).eval σ → (SE.app 108 (.g (.s 0) (.i a .nil))).eval σ = 0 → (SE.app 44 (.g (.s 0) (.i a a6b))).eval σ = 0 → a.eval σ < (SE.app 45 (.g (.s 0) (.i a a6b))).eval σ ∧ 1 ≤ (SE.len (.app 44 (.g (.s 0) (.i a a6b)))).eval σ := by
 intro h1 h2 h3
 have h1' : a.eval σ < ((σ 0).length : Int) := h1
 have h2' : yl (σ 0) (a.eval σ) = 0 := h2
 rw [ay, if_pos h1'] at h2'
 have h4 : ¬ v6 ((σ 0).getD (a.eval σ).toNat 0) = 1 := by omega
 exact bzr _ _ h1' h4 h3
theorem f47 (g : GE) : (SE.app 47 (.g g .nil)).eval σ = 0 ∨ (SE.app 47 (.g g .nil)).eval σ = 1 ∨ (SE.app 47 (.g g .nil)).eval σ = 2 := b2u _
theorem cbv (hR : gn (σ 0)) (a : SE) : a.eval σ < (SE.len (.s 0)).eval σ → ((SE.app 102 (.g (.s 0) (.i a .nil))).eval σ = 0 ∨ (SE.app 102 (.g (.s 0) (.i a .nil))).eval σ = 5) ∧ ((SE.app 102 (.g (.s 0) (.i a .nil))).eval σ = 0 → a.eval σ < (SE.app 105 (.g (.s 0) (.i a .nil))).eval σ ∧ (SE.app 105 (.g (.s 0) (.i a .nil))).eval σ ≤ (SE.len (.s 0)).eval σ) := fun h => azc hR _ h
theorem f60 (hR : gn (σ 0)) (a o : SE) (h g : GE) : a.eval σ ≤ (SE.len (.s 0)).eval σ → (SE.app 60 (.g (.s 0) (.i a (.i o (.g h (.g g .nil)))))).eval σ = 0 → a.eval σ < (SE.app 64 (.g (.s 0) (.i a (.i o (.g h (.g g .nil)))))).eval σ ∧ (SE.app 64 (.g (.s 0) (.i a (.i o (.g h (.g g .nil)))))).eval σ ≤ (SE.len (.s 0)).eval σ := fun hp => (dx hR _).1 _ _ _ _ (zY _) hp
theorem f65 (hR : gn (σ 0)) (a o b c k n : SE) (h g : GE) : a.eval σ ≤ (SE.len (.s 0)).eval σ → (SE.app 65 (.g (.s 0) (.i a (.i o (.i b (.i c (.i k (.i n (.g h (.g g .nil)))))))))).eval σ = 0 → a.eval σ < (SE.app 69 (.g (.s 0) (.i a (.i o (.i b (.i c (.i k (.i n (.g h (.g g .nil)))))))))).eval σ ∧ (SE.app 69 (.g (.s 0) (.i a (.i o (.i b (.i c (.i k (.i n (.g h (.g g .nil)))))))))).eval σ ≤ (SE.len (.s 0)).eval σ := fun hp => (dx hR _).2.1 _ _ _ _ _ _ _ _ (zY _) hp
theorem f70 (hR : gn (σ 0)) (a o b c : SE) (h g : GE) : a.eval σ ≤ (SE.len (.s 0)).eval σ → (SE.app 70 (.g (.s 0) (.i a (.i o (.i b (.i c (.g h (.g g .nil)))))))).eval σ = 0 → a.eval σ < (SE.app 73 (.g (.s 0) (.i a (.i o (.i b (.i c (.g h (.g g .nil)))))))).eval σ ∧ (SE.app 73 (.g (.s 0) (.i a (.i o (.i b (.i c (.g h (.g g .nil)))))))).eval σ ≤ (SE.len (.s 0)).eval σ := fun hp => (dx hR _).2.2 _ _ _ _ _ _ (zY _) hp
end
end Go.Ev
