import Derived.Test.YtkfdioikigponaaGreatDoorRaX
import Derived.Test.YtkfdioikigponaaGreatDoorEvGh
set_option maxRecDepth 100000
set_option linter.all false
namespace Go.Ev
/- Plain facts: the characters of a string are a row of characters; forms keep names; all forms one by one; the law's relations. -/
theorem af6 : ∀ (f : Nat) (s : List Int) (p : Nat), p ≤ s.length → (nv f s p).length ≤ s.length - p ∧ ∀ x ∈ nv f s p, 0 ≤ x ∧ x < 1114112
 | 0, s, p, _ => ⟨Nat.zero_le _, fun x h => by cases h⟩
 | f + 1, s, p, hp => by
   unfold nv
   split
   ·rename_i h
    have hb := re s p h
    have hb' : 1 ≤ (Utf8.decode (aap s) p).2 ∧ p + (Utf8.decode (aap s) p).2 ≤ s.length ∧ (Utf8.decode (aap s) p).1 ≤ 1114111 := hb
    obtain ⟨i1, i2⟩ := af6 f s (p + (Utf8.decode (aap s) p).2) hb'.2.1
    refine ⟨by simp only [List.length_cons]; omega, fun x hx => ?_⟩
    rcases List.mem_cons.1 hx with rfl | hx
    ·omega
    ·exact i2 x hx
   ·exact ⟨Nat.zero_le _, fun x h => by cases h⟩
theorem bv (s : List Int) : (ah s 0).length ≤ s.length := by have := (af6 s.length s 0 (Nat.zero_le _)).1; exact this
theorem ady {s : List Int} (h : s.length ≤ 4000) : gd (ah s 0) := ⟨Nat.le_trans (bv s) h, (af6 s.length s 0 (Nat.zero_le _)).2⟩
theorem a7k {s : List Int} (h : 0 < s.length) : 0 < (ah s 0).length := by rw [abw h]; exact Nat.succ_pos _
/-- a form keeps what interning keeps -/
def yb (P : List Int → Prop) (r : FR) : Prop := r.f = 0 → P r.G
section
variable {P : List Int → Prop}
theorem db {f a : Int} (h : ¬ f = 0) : yb P (bad f a) := fun h' => absurd h' h
theorem c8 {c : Prop} [Decidable c] {a b : FR} (h1 : c → yb P a) (h2 : ¬ c → yb P b) : yb P (if c then a else b) := by
 by_cases h : c
 ·rw [if_pos h]; exact h1 h
 ·rw [if_neg h]; exact h2 h
theorem ato (hP : ∀ G s, P G → (du G s).f = 0 → P (du G s).G) {G s : List Int} {a e : Int} {h : List Int} (hG : P G) : yb P (akm G s a e h) := by
 unfold akm
 split
 ·rename_i h1; exact fun _ => hP G s hG h1
 ·rename_i h3; exact db h3
theorem aun {G : List Int} {c : CN} {q e : Int} (hG : P G) : yb P (alk c q e G) := by
 unfold alk
 split
 ·exact fun _ => hG
 ·rename_i h3; exact db h3
theorem bga {G : List Int} {c : AR} {q e n : Int} (hG : P G) : yb P (ase c q e n G) := by
 unfold ase
 split
 ·exact fun _ => hG
 ·rename_i h3; exact db h3
theorem bhf {r : FR} {q : Int} (h : yb P r) : yb P (zw r q) := by
 unfold zw
 split
 ·rename_i h3; exact aun (h h3)
 ·rename_i h3; exact fun h' => absurd h' h3
theorem aq5 (hP : ∀ G s, P G → (du G s).f = 0 → P (du G s).G) {R : List Int} (hR : gd R) : ∀ (n : Nat),
  (∀ p o h G, (2 * ((R.length : Int) - p).toNat + 1 ≤ n) → p ≤ (R.length : Int) → P G → yb P (al R p o h G)) ∧
  (∀ p o a c k m h G, (2 * ((R.length : Int) - p).toNat + 2 ≤ n) → p ≤ (R.length : Int) → P G → yb P (lg R p o a c k m h G)) ∧
  (∀ p o a c h G, (2 * ((R.length : Int) - p).toNat + 2 ≤ n) → p ≤ (R.length : Int) → P G → yb P (ud R p o a c h G))
 | 0 => ⟨fun _ _ _ _ h => by omega, fun _ _ _ _ _ _ _ _ h => by omega, fun _ _ _ _ _ _ h => by omega⟩
 | n + 1 => by
   obtain ⟨i1, i2, i3⟩ := aq5 hP hR n
   refine ⟨fun p o h G hn hp hG => ?_, fun p o a c k m h G hn hp hG => ?_, fun p o a c h G hn hp hG => ?_⟩
   ·have hg := d8 R p 0
    have hl := dm R _ p 0 (Nat.le_refl _) hp
    rw [av]
    refine c8 (fun hq => ?_) (fun _ => db (by decide))
    have at1 : ∀ x : Int, 0 ≤ x → chA R (ae R p 0 + 1) = x → ae R p 0 + 1 < (R.length : Int) := by
     intro x hx h9
     rw [br] at h9
     by_cases h8 : ae R p 0 + 1 < (R.length : Int)
     ·exact h8
     ·rw [if_neg h8] at h9; omega
    generalize ae R p 0 = q at *
    have hpre : ∀ m : Int, (m = 1 ∨ m = 2) → q + m ≤ (R.length : Int) → yb P (if 200 ≤ o then bad 12 q else zw (al R (q + m) (o + 1) h G) q) := fun m hm hl2 =>
     c8 (fun _ => db (by decide)) (fun _ => bhf (i1 (q + m) _ _ _ (by omega) hl2 hG))
    refine c8 (fun n1 => ?_) (fun n1 => ?_)
    ·exact c8 (fun _ => db (by decide)) (fun _ => i2 (q + 1) _ _ _ _ _ _ _ (by omega) (by omega) hG)
    refine c8 (fun n2 => ?_) (fun n2 => ?_)
    ·exact c8 (fun _ => db (by decide)) (fun _ => i3 (q + 1) _ _ _ _ _ (by omega) (by omega) hG)
    refine c8 (fun n3 => db (by decide)) (fun n3 => ?_)
    refine c8 (fun n4 => ?_) (fun n4 => ?_)
    ·unfold a7w
     refine c8 (fun h1 => ?_) (fun h1 => db h1)
     exact c8 (fun _ _ => hG) (fun h2 => db h2)
    refine c8 (fun n5 => ?_) (fun n5 => ?_)
    ·unfold a6o
     exact c8 (fun h1 _ => hG) (fun h1 => db h1)
    refine c8 (fun n6 => hpre 1 (.inl rfl) (by omega)) (fun n6 => ?_)
    refine c8 (fun n7 => ?_) (fun n7 => ?_)
    ·exact c8 (fun h9 => hpre 2 (.inr rfl) (by have := at1 64 (by omega) h9; omega)) (fun _ => hpre 1 (.inl rfl) (by omega))
    refine c8 (fun n8 => ?_) (fun n8 => ?_)
    ·refine c8 (fun h9 => hpre 2 (.inr rfl) (by have := at1 39 (by omega) h9; omega)) (fun _ => ?_)
     exact c8 (fun h9 => ato hP hG) (fun _ => db (by decide))
    ·unfold ave
     refine c8 (fun hf => ?_) (fun _ => db (by decide))
     refine c8 (fun _ => db (by decide)) (fun _ => ?_)
     refine c8 (fun _ _ => hG) (fun _ => ?_)
     refine c8 (fun _ => db (by decide)) (fun _ => ?_)
     refine c8 (fun _ => db (by decide)) (fun _ => ?_)
     exact ato hP hG
   ·have hg := d8 R p 0
    have hl := dm R _ p 0 (Nat.le_refl _) hp
    rw [c7]
    generalize ae R p 0 = s at *
    split
    ·rename_i hs
     split
     ·exact aun hG
     ·split
      ·split
       ·rename_i hf
        have h1 := (fp hR _).1 (s + 1) o h G (Nat.le_refl _) (by omega) hf
        have h3 := d8 R (al R (s + 1) o h G).p 0
        have h4 := dm R _ (al R (s + 1) o h G).p 0 (Nat.le_refl _) h1.2
        split
        ·split
         ·exact i2 _ _ _ _ _ _ _ _ (by omega) (by omega) (i1 (s + 1) o h G (by omega) (by omega) hG hf)
         ·exact db (by decide)
        ·exact db (by decide)
       ·rename_i hf
        exact fun h' => absurd h' hf
      ·split
       ·rename_i hf
        have h1 := (fp hR _).1 s o h G (Nat.le_refl _) (by omega) hf
        split
        ·exact i2 _ _ _ _ _ _ _ _ (by omega) (by omega) (i1 s o h G (by omega) (by omega) hG hf)
        ·exact db (by decide)
       ·rename_i hf
        exact fun h' => absurd h' hf
    ·exact db (by decide)
   ·have hg := d8 R p 0
    have hl := dm R _ p 0 (Nat.le_refl _) hp
    rw [jn]
    generalize ae R p 0 = s at *
    split
    ·rename_i hs
     split
     ·exact bga hG
     ·split
      ·rename_i hf
       have h1 := (fp hR _).1 s o h G (Nat.le_refl _) (by omega) hf
       split
       ·exact i3 _ _ _ _ _ _ (by omega) (by omega) (i1 s o h G (by omega) (by omega) hG hf)
       ·exact db (by decide)
      ·rename_i hf
       exact fun h' => absurd h' hf
    ·exact db (by decide)
end
/-- no form ends with the fault of an end -/
def y2 (r : FR) : Prop := ¬ r.f = 13
theorem fy {f a : Int} (h : ¬ f = 13) : y2 (bad f a) := h
theorem ez {c : Prop} [Decidable c] {a b : FR} (h1 : c → y2 a) (h2 : ¬ c → y2 b) : y2 (if c then a else b) := by
 by_cases h : c
 ·rw [if_pos h]; exact h1 h
 ·rw [if_neg h]; exact h2 h
theorem be0 {G s : List Int} {a e : Int} {h : List Int} : y2 (akm G s a e h) := by
 unfold akm
 have := auh G s
 split
 ·exact show ¬ (0 : Int) = 13 by decide
 ·exact fy (by omega)
theorem bd4 {G : List Int} {i : Nat} {h : List Int} {k n q e : Int} : y2 (alk (aks i h k n) q e G) := by
 unfold alk
 have := axn i h k n
 split
 ·exact show ¬ (0 : Int) = 13 by decide
 ·exact fy (by omega)
theorem brb {G h : List Int} {c q e n : Int} : y2 (ase (af1 h c) q e n G) := by
 unfold ase
 have := bpf h c
 split
 ·exact show ¬ (0 : Int) = 13 by decide
 ·exact fy (by omega)
theorem bpz {r : FR} {q : Int} (h : y2 r) : y2 (zw r q) := by
 unfold zw
 split
 ·exact bd4
 ·exact h
theorem a8k {R : List Int} (hR : gd R) : ∀ (n : Nat),
  (∀ p o h G, (2 * ((R.length : Int) - p).toNat + 1 ≤ n) → p ≤ (R.length : Int) → y2 (al R p o h G)) ∧
  (∀ p o a c k m h G, (2 * ((R.length : Int) - p).toNat + 2 ≤ n) → p ≤ (R.length : Int) → y2 (lg R p o a c k m h G)) ∧
  (∀ p o a c h G, (2 * ((R.length : Int) - p).toNat + 2 ≤ n) → p ≤ (R.length : Int) → y2 (ud R p o a c h G))
 | 0 => ⟨fun _ _ _ _ h => by omega, fun _ _ _ _ _ _ _ _ h => by omega, fun _ _ _ _ _ _ h => by omega⟩
 | n + 1 => by
   obtain ⟨i1, i2, i3⟩ := a8k hR n
   refine ⟨fun p o h G hn hp => ?_, fun p o a c k m h G hn hp => ?_, fun p o a c h G hn hp => ?_⟩
   ·have hg := d8 R p 0
    have hl := dm R _ p 0 (Nat.le_refl _) hp
    rw [av]
    refine ez (fun hq => ?_) (fun _ => fy (by decide))
    have at1 : ∀ x : Int, 0 ≤ x → chA R (ae R p 0 + 1) = x → ae R p 0 + 1 < (R.length : Int) := by
     intro x hx h9
     rw [br] at h9
     by_cases h8 : ae R p 0 + 1 < (R.length : Int)
     ·exact h8
     ·rw [if_neg h8] at h9; omega
    generalize ae R p 0 = q at *
    have hpre : ∀ m : Int, (m = 1 ∨ m = 2) → q + m ≤ (R.length : Int) → y2 (if 200 ≤ o then bad 12 q else zw (al R (q + m) (o + 1) h G) q) := fun m hm hl2 =>
     ez (fun _ => fy (by decide)) (fun _ => bpz (i1 (q + m) _ _ _ (by omega) hl2))
    refine ez (fun n1 => ?_) (fun n1 => ?_)
    ·exact ez (fun _ => fy (by decide)) (fun _ => i2 (q + 1) _ _ _ _ _ _ _ (by omega) (by omega))
    refine ez (fun n2 => ?_) (fun n2 => ?_)
    ·exact ez (fun _ => fy (by decide)) (fun _ => i3 (q + 1) _ _ _ _ _ (by omega) (by omega))
    refine ez (fun n3 => fy (by decide)) (fun n3 => ?_)
    refine ez (fun n4 => ?_) (fun n4 => ?_)
    ·unfold a7w
     obtain ⟨ht, _⟩ := aj7 hR _ (q + 1) [] (Nat.le_refl _) (by omega)
     refine ez (fun h1 => ?_) (fun h1 => fy (by omega))
     have := a99 h (te R (q + 1) []).b
     exact ez (fun _ => show ¬ (0 : Int) = 13 by decide) (fun h2 => fy (by omega))
    refine ez (fun n5 => ?_) (fun n5 => ?_)
    ·unfold a6o
     obtain ⟨hc, _⟩ := awj hR q hq
     exact ez (fun h1 => show ¬ (0 : Int) = 13 by decide) (fun h1 => fy (by omega))
    refine ez (fun n6 => hpre 1 (.inl rfl) (by omega)) (fun n6 => ?_)
    refine ez (fun n7 => ?_) (fun n7 => ?_)
    ·exact ez (fun h9 => hpre 2 (.inr rfl) (by have := at1 64 (by omega) h9; omega)) (fun _ => hpre 1 (.inl rfl) (by omega))
    refine ez (fun n8 => ?_) (fun n8 => ?_)
    ·refine ez (fun h9 => hpre 2 (.inr rfl) (by have := at1 39 (by omega) h9; omega)) (fun _ => ?_)
     exact ez (fun h9 => be0) (fun _ => fy (by decide))
    ·unfold ave
     refine ez (fun hf => ?_) (fun _ => fy (by decide))
     refine ez (fun _ => fy (by decide)) (fun _ => ?_)
     refine ez (fun _ => show ¬ (0 : Int) = 13 by decide) (fun _ => ?_)
     refine ez (fun _ => fy (by decide)) (fun _ => ?_)
     refine ez (fun _ => fy (by decide)) (fun _ => ?_)
     exact be0
   ·have hg := d8 R p 0
    have hl := dm R _ p 0 (Nat.le_refl _) hp
    rw [c7]
    generalize ae R p 0 = s at *
    split
    ·rename_i hs
     split
     ·exact bd4
     ·split
      ·split
       ·rename_i hf
        have h1 := (fp hR _).1 (s + 1) o h G (Nat.le_refl _) (by omega) hf
        have h3 := d8 R (al R (s + 1) o h G).p 0
        have h4 := dm R _ (al R (s + 1) o h G).p 0 (Nat.le_refl _) h1.2
        split
        ·split
         ·exact i2 _ _ _ _ _ _ _ _ (by omega) (by omega)
         ·exact fy (by decide)
        ·exact fy (by decide)
       ·exact i1 (s + 1) o h G (by omega) (by omega)
      ·split
       ·rename_i hf
        have h1 := (fp hR _).1 s o h G (Nat.le_refl _) (by omega) hf
        split
        ·exact i2 _ _ _ _ _ _ _ _ (by omega) (by omega)
        ·exact fy (by decide)
       ·exact i1 s o h G (by omega) (by omega)
    ·exact fy (by decide)
   ·have hg := d8 R p 0
    have hl := dm R _ p 0 (Nat.le_refl _) hp
    rw [jn]
    generalize ae R p 0 = s at *
    split
    ·rename_i hs
     split
     ·exact brb
     ·split
      ·rename_i hf
       have h1 := (fp hR _).1 s o h G (Nat.le_refl _) (by omega) hf
       split
       ·exact i3 _ _ _ _ _ _ (by omega) (by omega)
       ·exact fy (by decide)
      ·exact i1 s o h G (by omega) (by omega)
    ·exact fy (by decide)
theorem a6r (G s : List Int) (h : 0 < qc G) (h0 : (du G s).f = 0) : 0 < qc (du G s).G := by
 rw [pd] at h0 ⊢
 split at h0
 ·exact absurd h0 (show ¬ (5 : Int) = 0 by decide)
 ·rename_i n1; rw [if_neg n1]
  split at h0
  ·exact absurd h0 (show ¬ (4 : Int) = 0 by decide)
  ·rename_i n2; rw [if_neg n2]
   split at h0
   ·rename_i n3; rw [if_pos n3]; exact h
   ·rename_i n3; rw [if_neg n3]
    split at h0
    ·rename_i n4; rw [if_pos n4]
     show 0 < qc (qc G :: (s.length : Int) :: (s ++ G))
     rw [azc]; omega
    ·exact absurd h0 (show ¬ (7 : Int) = 0 by decide)
theorem a3j {R : List Int} (hR : gd R) {p o : Int} {h G : List Int} (hp : p ≤ (R.length : Int)) (hG : 0 < qc G) (hf : (al R p o h G).f = 0) : 0 < qc (al R p o h G).G :=
 (aq5 (P := fun G => 0 < qc G) a6r hR _).1 p o h G (Nat.le_refl _) hp hG hf
/- all forms -/
theorem uw {R : List Int} {p : Int} {l h G : List Int} (hp : ¬ p < (R.length : Int)) : fj R p l h G = ⟨0, 0, l, h, G⟩ := by rw [qh, if_neg hp]
theorem aec {R : List Int} {p : Int} {l h G : List Int} (hp : p < (R.length : Int)) (hf : ¬ (al R p 0 h G).f = 0) : fj R p l h G = ⟨(al R p 0 h G).f, (al R p 0 h G).a, [], [], []⟩ := by
 rw [qh, if_pos hp, if_neg hf]
theorem yv {R : List Int} (hR : gd R) {p : Int} {l h G : List Int} (hp : p < (R.length : Int)) (hf : (al R p 0 h G).f = 0) :
  fj R p l h G = fj R (ae R (al R p 0 h G).p 0) (l ++ [(al R p 0 h G).k, (al R p 0 h G).n]) (al R p 0 h G).h (al R p 0 h G).G := by
 have h1 := (fp hR _).1 p 0 h G (Nat.le_refl _) (by omega) hf
 have h3 := d8 R (al R p 0 h G).p 0
 rw [qh, if_pos hp, if_pos hf, if_pos (by omega)]
/-- the words before do not matter; how many words come -/
theorem au6 {R : List Int} (hR : gd R) : ∀ (n : Nat) (p : Int) (l h G : List Int), ((R.length : Int) - p).toNat ≤ n → p ≤ (R.length : Int) →
  (fj R p l h G).f = (fj R p [] h G).f ∧ (fj R p l h G).a = (fj R p [] h G).a ∧ (fj R p l h G).h = (fj R p [] h G).h ∧ (fj R p l h G).G = (fj R p [] h G).G ∧
  ((fj R p [] h G).f = 0 → (fj R p l h G).l = l ++ (fj R p [] h G).l) ∧ (∃ m : Nat, (fj R p [] h G).l.length = 2 * m ∧ (m : Int) ≤ (R.length : Int) - p)
 | 0, p, l, h, G, hn, hp => by
   rw [uw (by omega), uw (by omega)]
   exact ⟨rfl, rfl, rfl, rfl, fun _ => by simp, 0, rfl, by omega⟩
 | n + 1, p, l, h, G, hn, hp => by
   by_cases hq : p < (R.length : Int)
   ·by_cases hf : (al R p 0 h G).f = 0
    ·have h1 := (fp hR _).1 p 0 h G (Nat.le_refl _) (by omega) hf
     have h3 := d8 R (al R p 0 h G).p 0
     have h4 := dm R _ (al R p 0 h G).p 0 (Nat.le_refl _) h1.2
     rw [yv hR hq hf, yv hR hq hf]
     obtain ⟨a1, a2, a3, a4, a5, a6⟩ := au6 hR n (ae R (al R p 0 h G).p 0) (l ++ [(al R p 0 h G).k, (al R p 0 h G).n]) (al R p 0 h G).h (al R p 0 h G).G (by omega) h4
     obtain ⟨b1, b2, b3, b4, b5, b6⟩ := au6 hR n (ae R (al R p 0 h G).p 0) ([] ++ [(al R p 0 h G).k, (al R p 0 h G).n]) (al R p 0 h G).h (al R p 0 h G).G (by omega) h4
     refine ⟨a1.trans b1.symm, a2.trans b2.symm, a3.trans b3.symm, a4.trans b4.symm, fun h0 => ?_, ?_⟩
     ·rw [b1] at h0
      rw [a5 h0, b5 h0]; simp
     ·by_cases h0 : (fj R (ae R (al R p 0 h G).p 0) [] (al R p 0 h G).h (al R p 0 h G).G).f = 0
      ·obtain ⟨m, e1, e2⟩ := b6
       refine ⟨m + 1, ?_, by omega⟩
       rw [b5 h0]
       simp only [List.nil_append, List.length_append, List.length_cons, List.length_nil]
       omega
      ·have : ∀ (k : Nat) (p : Int) (l h G : List Int), ((R.length : Int) - p).toNat ≤ k → p ≤ (R.length : Int) → ¬ (fj R p l h G).f = 0 → (fj R p l h G).l = [] := by
        intro k
        induction k with
        | zero => intro p l h G hk hp hf; rw [uw (by omega)] at hf; exact absurd rfl hf
        | succ k ih =>
          intro p l h G hk hp hf
          by_cases hq : p < (R.length : Int)
          ·by_cases hf2 : (al R p 0 h G).f = 0
           ·rw [yv hR hq hf2] at hf ⊢
            have h1 := (fp hR _).1 p 0 h G (Nat.le_refl _) (by omega) hf2
            have h3 := d8 R (al R p 0 h G).p 0
            exact ih _ _ _ _ (by omega) (dm R _ (al R p 0 h G).p 0 (Nat.le_refl _) h1.2) hf
           ·rw [aec hq hf2]
          ·rw [uw hq] at hf; exact absurd rfl hf
       refine ⟨0, ?_, by omega⟩
       rw [this _ _ _ _ _ (Nat.le_refl _) h4 (by rw [b1]; exact h0)]
       rfl
    ·rw [aec hq hf, aec hq hf]
     exact ⟨rfl, rfl, rfl, rfl, fun h0 => absurd h0 hf, 0, rfl, by omega⟩
   ·rw [uw hq, uw hq]
    exact ⟨rfl, rfl, rfl, rfl, fun _ => by simp, 0, rfl, by omega⟩
/- the law's loop -/
open Classical in
noncomputable def bis (s : List Int) (p i : Int) (L : List Int) (n : Int) (h1 G1 h G : List Int) : Int := if a4p s p i L n h1 G1 h G then 1 else 0
open Classical in
noncomputable def bhs (s : List Int) (p i f a : Int) (h G : List Int) : Int := if bhe s p i f a h G then 1 else 0
theorem rdaN_iff {s : List Int} {p i : Int} {L : List Int} {n : Int} {h1 G1 h G : List Int} : bis s p i L n h1 G1 h G = 1 ↔ a4p s p i L n h1 G1 h G := bj8
theorem rdbN_iff {s : List Int} {p i f a : Int} {h G : List Int} : bhs s p i f a h G = 1 ↔ bhe s p i f a h G := bj8
theorem biw {s : List Int} {p i : Int} {L : List Int} {n : Int} {h1 G1 h G : List Int} (H : a4p s p i L n h1 G1 h G) (hG : 0 < qc G) (hs : ae (ah s 0) p 0 < ((ah s 0).length : Int)) :
  (al (ah s 0) (ae (ah s 0) p 0) 0 h G).f = 0 ∧ i < n ∧ L.getD (2 * i).toNat 0 = (al (ah s 0) (ae (ah s 0) p 0) 0 h G).k ∧ L.getD (2 * i + 1).toNat 0 = (al (ah s 0) (ae (ah s 0) p 0) 0 h G).n ∧
  p < (al (ah s 0) (ae (ah s 0) p 0) 0 h G).p ∧ (al (ah s 0) (ae (ah s 0) p 0) 0 h G).p ≤ ((ah s 0).length : Int) ∧
  bis s (al (ah s 0) (ae (ah s 0) p 0) 0 h G).p (i + 1) L n h1 G1 (al (ah s 0) (ae (ah s 0) p 0) 0 h G).h (al (ah s 0) (ae (ah s 0) p 0) 0 h G).G = 1 ∧
  0 < qc (al (ah s 0) (ae (ah s 0) p 0) 0 h G).G := by
 obtain ⟨q1, q2, q3, q4, q5, q6, q7, q8, q9, q10, q11, q12, q13, q14, q15⟩ := H
 have hR := ady (s := s) (by omega)
 have hf : (al (ah s 0) (ae (ah s 0) p 0) 0 h G).f = 0 := by
  by_cases hf : (al (ah s 0) (ae (ah s 0) p 0) 0 h G).f = 0
  ·exact hf
  ·rw [aec hs hf] at q12; exact absurd q12 hf
 have e1 := (fp hR _).1 (ae (ah s 0) p 0) 0 h G (Nat.le_refl _) (by omega) hf
 have e2 := d8 (ah s 0) p 0
 have e3 := dm (ah s 0) _ (al (ah s 0) (ae (ah s 0) p 0) 0 h G).p 0 (Nat.le_refl _) e1.2
 have e4 := a3j hR (by omega) hG hf
 rw [yv hR hs hf] at q12 q13 q14 q15
 obtain ⟨a1, a2, a3, a4, a5, m, a6, a7⟩ := au6 hR _ _ ([] ++ [(al (ah s 0) (ae (ah s 0) p 0) 0 h G).k, (al (ah s 0) (ae (ah s 0) p 0) 0 h G).n]) (al (ah s 0) (ae (ah s 0) p 0) 0 h G).h (al (ah s 0) (ae (ah s 0) p 0) 0 h G).G (Nat.le_refl _) e3
 rw [a1] at q12
 rw [a5 q12] at q13
 rw [a3] at q14
 rw [a4] at q15
 generalize al (ah s 0) (ae (ah s 0) p 0) 0 h G = r at *
 have hl : L.drop (2 * i).toNat = r.k :: r.n :: (fj (ah s 0) (ae (ah s 0) r.p 0) [] r.h r.G).l := by rw [← q13]; rfl
 have hlen : L.length = (2 * i).toNat + (2 + 2 * m) := by
  have := congrArg List.length hl
  simp only [List.length_drop, List.length_cons, a6] at this
  omega
 have g0 : L.getD (2 * i).toNat 0 = r.k := by
  have : (L.drop (2 * i).toNat).getD 0 0 = r.k := by rw [hl]; rfl
  rw [List.getD_eq_getElem?_getD, List.getElem?_drop] at this
  rw [List.getD_eq_getElem?_getD]; exact this
 have g1 : L.getD (2 * i + 1).toNat 0 = r.n := by
  have : (L.drop (2 * i).toNat).getD 1 0 = r.n := by rw [hl]; rfl
  rw [List.getD_eq_getElem?_getD, List.getElem?_drop] at this
  rw [List.getD_eq_getElem?_getD, show (2 * i + 1).toNat = (2 * i).toNat + 1 by omega]; exact this
 refine ⟨hf, by omega, g0, g1, by omega, e1.2, rdaN_iff.2 ⟨q1, q2, q3, by omega, e1.2, by omega, by omega, q8, by omega, q10, q11, q12, ?_, q14, q15⟩, e4⟩
 rw [show (2 * (i + 1)).toNat = (2 * i).toNat + 2 by omega, ← List.drop_drop, hl]; rfl
theorem bpo {s : List Int} {p i : Int} {L : List Int} {n : Int} {h1 G1 h G : List Int} (H : a4p s p i L n h1 G1 h G) (hs : ((ah s 0).length : Int) ≤ ae (ah s 0) p 0) : i = n ∧ h1 = h ∧ G1 = G := by
 obtain ⟨q1, q2, q3, q4, q5, q6, q7, q8, q9, q10, q11, q12, q13, q14, q15⟩ := H
 rw [uw (by omega)] at q13 q14 q15
 have : L.drop (2 * i).toNat = [] := q13.symm
 have := congrArg List.length this
 simp only [List.length_drop, List.length_nil] at this
 exact ⟨by omega, q14.symm, q15.symm⟩
theorem bje {s : List Int} {h G : List Int} (h1 : s.length ≤ 1500) (h2 : 1 ≤ s.length) (h3 : jh s = 1) (hs : ae (ah s 0) 0 0 < ((ah s 0).length : Int)) (hf : (fj (ah s 0) (ae (ah s 0) 0 0) [] h G).f = 0) :
  bis s 0 0 (fj (ah s 0) (ae (ah s 0) 0 0) [] h G).l (((fj (ah s 0) (ae (ah s 0) 0 0) [] h G).l.length : Int) / 2) (fj (ah s 0) (ae (ah s 0) 0 0) [] h G).h (fj (ah s 0) (ae (ah s 0) 0 0) [] h G).G h G = 1 := by
 have hR := ady (s := s) (by omega)
 have hl := bv s
 have hg := d8 (ah s 0) 0 0
 have hff : (al (ah s 0) (ae (ah s 0) 0 0) 0 h G).f = 0 := by
  by_cases hf2 : (al (ah s 0) (ae (ah s 0) 0 0) 0 h G).f = 0
  ·exact hf2
  ·rw [aec hs hf2] at hf; exact absurd hf hf2
 obtain ⟨_, _, _, _, _, m, e1, e2⟩ := au6 hR _ _ [] h G (Nat.le_refl _) (Int.le_of_lt hs)
 have hm : 1 ≤ m := by
  rw [yv hR hs hff] at e1 hf
  have q1 := (fp hR _).1 (ae (ah s 0) 0 0) 0 h G (Nat.le_refl _) (by omega) hff
  have e3 := dm (ah s 0) _ (al (ah s 0) (ae (ah s 0) 0 0) 0 h G).p 0 (Nat.le_refl _) q1.2
  obtain ⟨a1, _, _, _, a5, _⟩ := au6 hR _ _ ([] ++ [(al (ah s 0) (ae (ah s 0) 0 0) 0 h G).k, (al (ah s 0) (ae (ah s 0) 0 0) 0 h G).n]) (al (ah s 0) (ae (ah s 0) 0 0) 0 h G).h (al (ah s 0) (ae (ah s 0) 0 0) 0 h G).G (Nat.le_refl _) e3
  rw [a1] at hf
  rw [a5 hf] at e1
  simp only [List.nil_append, List.length_append, List.length_cons, List.length_nil] at e1
  omega
 refine rdaN_iff.2 ⟨h1, h2, h3, by omega, by omega, by omega, by omega, ?_, ?_, ?_, ?_, hf, rfl, rfl, rfl⟩ <;> omega
theorem bjr {s : List Int} {p i f a : Int} {h G : List Int} (H : bhe s p i f a h G) (hG : 0 < qc G) : ae (ah s 0) p 0 < ((ah s 0).length : Int) ∧
  ((al (ah s 0) (ae (ah s 0) p 0) 0 h G).f = 0 → p < (al (ah s 0) (ae (ah s 0) p 0) 0 h G).p ∧ (al (ah s 0) (ae (ah s 0) p 0) 0 h G).p ≤ ((ah s 0).length : Int) ∧
    bhs s (al (ah s 0) (ae (ah s 0) p 0) 0 h G).p (i + 1) f a (al (ah s 0) (ae (ah s 0) p 0) 0 h G).h (al (ah s 0) (ae (ah s 0) p 0) 0 h G).G = 1 ∧
    0 < qc (al (ah s 0) (ae (ah s 0) p 0) 0 h G).G) ∧
  (¬ (al (ah s 0) (ae (ah s 0) p 0) 0 h G).f = 0 → (al (ah s 0) (ae (ah s 0) p 0) 0 h G).f = f ∧ (al (ah s 0) (ae (ah s 0) p 0) 0 h G).a = a) ∧ ¬ (al (ah s 0) (ae (ah s 0) p 0) 0 h G).f = 13 := by
 obtain ⟨q1, q2, q3, q4, q5, q6, q7, q8, q9, q10⟩ := H
 have hR := ady (s := s) (by omega)
 have hs : ae (ah s 0) p 0 < ((ah s 0).length : Int) := by
  by_cases hs : ae (ah s 0) p 0 < ((ah s 0).length : Int)
  ·exact hs
  ·rw [uw hs] at q8; exact absurd q8.symm q10
 refine ⟨hs, fun hf => ?_, fun hf => ?_, (a8k hR _).1 _ _ _ _ (Nat.le_refl _) (by omega)⟩
 ·have e1 := (fp hR _).1 (ae (ah s 0) p 0) 0 h G (Nat.le_refl _) (by omega) hf
  have e2 := d8 (ah s 0) p 0
  have e3 := dm (ah s 0) _ (al (ah s 0) (ae (ah s 0) p 0) 0 h G).p 0 (Nat.le_refl _) e1.2
  have e4 := a3j hR (by omega) hG hf
  rw [yv hR hs hf] at q8 q9
  obtain ⟨a1, a2, _⟩ := au6 hR _ _ ([] ++ [(al (ah s 0) (ae (ah s 0) p 0) 0 h G).k, (al (ah s 0) (ae (ah s 0) p 0) 0 h G).n]) (al (ah s 0) (ae (ah s 0) p 0) 0 h G).h (al (ah s 0) (ae (ah s 0) p 0) 0 h G).G (Nat.le_refl _) e3
  exact ⟨by omega, e1.2, rdbN_iff.2 ⟨q1, q2, q3, by omega, e1.2, by omega, by omega, by rw [← a1]; exact q8, by rw [← a2]; exact q9, q10⟩, e4⟩
 ·rw [aec hs hf] at q8 q9; exact ⟨q8, q9⟩
theorem blv {s : List Int} {h G : List Int} (h1 : s.length ≤ 1500) (h2 : 1 ≤ s.length) (h3 : jh s = 1) (hf : ¬ (fj (ah s 0) (ae (ah s 0) 0 0) [] h G).f = 0) :
  bhs s 0 0 (fj (ah s 0) (ae (ah s 0) 0 0) [] h G).f (fj (ah s 0) (ae (ah s 0) 0 0) [] h G).a h G = 1 :=
 rdbN_iff.2 ⟨h1, h2, h3, by omega, by omega, by omega, by omega, rfl, rfl, hf⟩
theorem bke {s : List Int} {p i f a : Int} {h G : List Int} (h0 : f = 0 ∨ ¬ jh s = 1) : ¬ bhs s p i f a h G = 1 := by
 intro h
 obtain ⟨q1, q2, q3, q4, q5, q6, q7, q8, q9, q10⟩ := rdbN_iff.1 h
 rcases h0 with h0 | h0
 ·exact q10 h0
 ·exact h0 q3
/-- what the further expressions come to -/
theorem evx : (∀ (σ : Nat → List Int) (R l h G : GE) (p : SE), (SE.app 110 (.g R (.i p (.g l (.g h (.g G .nil)))))).eval σ = ((fj (R.eval σ) (p.eval σ) (l.eval σ) (h.eval σ) (G.eval σ)).l.length : Int) / 2) ∧
  (∀ (σ : Nat → List Int) (s L h1 G1 h G : GE) (p i n : SE), (SE.app 111 (.g s (.i p (.i i (.g L (.i n (.g h1 (.g G1 (.g h (.g G .nil)))))))))).eval σ = bis (s.eval σ) (p.eval σ) (i.eval σ) (L.eval σ) (n.eval σ) (h1.eval σ) (G1.eval σ) (h.eval σ) (G.eval σ)) ∧
  (∀ (σ : Nat → List Int) (s h G : GE) (p i f a : SE), (SE.app 112 (.g s (.i p (.i i (.i f (.i a (.g h (.g G .nil)))))))).eval σ = bhs (s.eval σ) (p.eval σ) (i.eval σ) (f.eval σ) (a.eval σ) (h.eval σ) (G.eval σ)) ∧
  (∀ (σ : Nat → List Int) (k : IntKind) (a b : SE), (SE.bin 5 k a b).eval σ = a.eval σ % b.eval σ) ∧
  (∀ (σ : Nat → List Int), (GE.app 109 .nil).eval σ = g0L) ∧ (Int.toNat 0 = 0) ∧ (∀ (σ : Nat → List Int) (s : GE), (SE.app 113 (.g s .nil)).eval σ = ptN (s.eval σ)) ∧ (∀ (σ : Nat → List Int) (s : GE), (SE.app 114 (.g s .nil)).eval σ = ptC (s.eval σ)) ∧
  (∀ (σ : Nat → List Int) (l : GE) (i n : SE), (GE.app 110 (.g l (.i i (.i n .nil)))).eval σ = b7c (l.eval σ) (i.eval σ) (n.eval σ)) :=
 ⟨fun _ _ _ _ _ _ => rfl, fun _ _ _ _ _ _ _ _ _ _ => rfl, fun _ _ _ _ _ _ _ _ => rfl, fun _ _ _ _ => rfl, fun _ => rfl, rfl, fun _ _ => rfl, fun _ _ => rfl, fun _ _ _ _ => rfl⟩
theorem b00 : qc g0L = 62 := by decide +kernel
end Go.Ev
set_option maxRecDepth 100000
set_option linter.all false
namespace Go.Ev
abbrev af3 : SE := .rd (.s 5) (.c 0)
abbrev akg : SE := .bin 6 .i64 (.c 1) (.bin 5 .i64 (.bin 6 .i64 af3 (.c (-1))) (.c 65536))
abbrev apa : SE := .rd (.s 5) (.c 1)
abbrev bik : List SA := [.mk false (.app 56 (.g (.s 5) .nil)) (.c 1) true, .mk false apa (.c 0) true]
abbrev bn1 : List SA := [.mk false (.app 56 (.g (.s 5) .nil)) (.c 1) true]
abbrev bj3 : List SA := [.mk true (.c 3900) (.len (.s 3)) false, .mk true (.c 0) (.app 53 (.g (.s 4) .nil)) true]
abbrev acn : SE := .app 50 (.g (.s 3) .nil)
abbrev awx : List SA := [.mk false acn (.c 1) false]
abbrev bh3 : List SA := [.mk false acn (.c 1) true, .mk true (.len (.s 3)) (.c 1) true]
abbrev bcd : List SA := [.mk false acn (.c 1) true, .mk true (.len (.s 3)) (.c 1) false]
abbrev ans : AL := .i (.c 0) .nil
abbrev adk : GE := .app 6 (.g (.s 3) ans)
abbrev uh : SE := .len adk
abbrev a9c : List SA := [.mk true (.v 1) (.c 0) false, .mk true uh (.v 1) false]
abbrev w6 : SE := .app 43 (.g adk (.i (.v 1) ans))
abbrev bb3 : List SA := [.mk false acn (.c 1) true, .mk true w6 uh false]
abbrev aag : AL := .g adk (.i w6 (.i (.c 0) (.g (.s 5) (.g (.s 4) .nil))))
abbrev amt : SE := .app 60 aag
abbrev ba2 : List SA := [.mk false acn (.c 1) true, .mk true w6 uh true, .mk false amt (.c 0) true]
abbrev bbf : List SA := [.mk false acn (.c 1) true, .mk true w6 uh true, .mk false amt (.c 0) false]
abbrev bc9 : AL := .g adk .nil
noncomputable section
def b3x : List AV := [.ptr (K.of 256) 0]
def b32 : List HO := [hpO 256 (.s 5) .nilSlice]
def b7i : List HO := [hpO 256 (.s 5) .nilSlice]
def b5h : TR := .ret (.sym .i64 akg [])
def b57 : List AV := [.ptr (K.of 256) 0]
def b8m : List HO := (hpS 256 257 (.s 5))
def b4i : List HO := hpS 256 257 (.s 5)
def b5i : TR := .ret (.sym .i64 akg [])
def b52 : List AV := [.ptr (K.of 256) 0]
def b7l : List HO := [hpG 256 (.s 5)]
def b82 : List HO := [hpG 256 (.s 5)]
def b6l : TR := .ret (.sym .i64 akg [])
def b4f : TM := .mk 48 b52 257 b7l ([] ++ []) none b6l 258 b82
def b5n : List AV := [.ptr (K.of 256) 0]
def b6q : List HO := [hpO 256 (.s 5) .nilSlice]
def b5e : List HO := [hpO 256 (.s 5) .nilSlice]
def b5z : TR := .ret (.sym .i64 apa [])
def b59 : List AV := [.ptr (K.of 256) 0]
def b7n : List HO := (hpS 256 257 (.s 5))
def b8s : List HO := hpS 256 257 (.s 5)
def b6a : TR := .ret (.sym .i64 apa [])
def b41 : List AV := [.ptr (K.of 256) 0]
def b86 : List HO := [hpG 256 (.s 5)]
def b5w : List HO := [hpG 256 (.s 5)]
def b4u : TR := .ret (.sym .i64 apa [])
def bz5 : TM := .mk 15 b41 257 b86 ([] ++ []) none b4u 258 b5w
def rdX (k h t r : Nat) (R : GE) (p o : SE) : HO := .mk k (.cells 65 false 0 0 [.ptr (K.of h) 0, .ptr (K.of t) 0, .gv (.sl (K.of r) 1 (.len R) []), .sym .i64 p [], .sym .i64 o []])
def rwX (r : Nat) (R : GE) : HO := .mk r (.gob (.gh 3 [.i64] (.len R) R))
def hgO (g : GE) (kj : Nat) (m : GE) : List HO := [hpG 256 g] ++ ae0 257 kj 259 m
def rdN (k h t : Nat) : HO := .mk k (.cells 65 false 0 0 [.ptr (K.of h) 0, .ptr (K.of t) 0, .nilSlice, .int .i64 0, .int .i64 0])
def A39 : List SA := bj3
def bfy : List AV := [.ptr (K.of 256) 0, .ptr (K.of 257) 0, .gv (.str (.s 3) [])]
def bhw : List HO := hgO (.s 5) 258 (.s 4)
def bxl : List HO := hgO (.s 5) 258 (.s 4)
def bu3 : TR := .ret (.tuple [.nilPtr, .int .i64 5])
def bkr : TM := .mk 32 bfy 260 bhw (A39 ++ awx) none bu3 262 bxl
def bvb : List HO := (hgO (.s 5) 258 (.s 4) ++ [rdN 260 256 257])
def bvx : TR := .ret (.tuple [.ptr (K.of 260) 0, .int .i64 0])
def bk2 : TM := .mk 32 bfy 260 bhw (A39 ++ bh3) none bvx 262 bvb
def bxx : List HO := (hgO (.s 5) 258 (.s 4) ++ [rdX 260 256 257 261 deA (.c 0) (.c 0), rwX 261 deA])
def bvu : TR := .ret (.tuple [.ptr (K.of 260) 0, .int .i64 0])
def bmc : TM := .mk 32 bfy 260 bhw (A39 ++ bcd) none bvu 262 bxx
def bhj : List SA := A39 ++ a9c
def a2j : List AV := [.ptr (K.of 256) 0, .ptr (K.of 257) 0, .gv (.str (.s 3) []), .sym .i64 (.v 1) []]
def a1g : List HO := hgO (.s 5) 258 (.s 4)
def bva : List HO := hgO (.s 5) 258 (.s 4)
def bt9 : TR := .ret (.tuple [.agg [.int .i64 0, .int .i64 0], .int .i64 0, .agg [.int .i64 5, .int .i64 0]])
def bja : TM := .mk 12 a2j 260 a1g (bhj ++ awx) none bt9 264 bva
def bzj : List HO := hgO (.s 5) 258 (.s 4)
def bt5 : TR := .ret (.tuple [.agg [.int .i64 0, .int .i64 0], .int .i64 0, .agg [.int .i64 13, .sym .i64 uh []]])
def bk1 : TM := .mk 12 a2j 260 a1g (bhj ++ bb3) none bt5 264 bzj
def bxh : List HO := hgO (.app 60 aag) 260 (.app 61 aag)
def bxc : TR := .ret (.tuple [.agg [.sym .i64 (.app 62 aag) [], .sym .i64 (.app 63 aag) []], .sym .i64 (.app 64 aag) [], .agg [.int .i64 0, .int .i64 0]])
def biq : TM := .mk 12 a2j 260 a1g (bhj ++ ba2) none bxc 264 bxh
def byi : List HO := []
def bwn : TR := .ret (.tuple [.agg [.int .i64 0, .int .i64 0], .int .i64 0, .agg [.sym .i64 amt [], .sym .i64 (.app 61 aag) []]])
def boi : TM := .mk 12 a2j 260 a1g (bhj ++ bbf) none bwn 264 byi
end
section
variable {σ : Nat → List Int}
theorem a8c (h : SAll σ A39) : ((σ 3).length : Int) ≤ 3900 ∧ 0 < qc (σ 4) := by
 have h : SAll σ bj3 := h
 simp only [sall_cons, sT, sF, evs] at h
 exact ⟨h.1, h.2.1⟩
theorem bsq (h : SAll σ bhj) : (((σ 3).length : Int) ≤ 3900 ∧ 0 < qc (σ 4)) ∧ 0 ≤ (σ 1).headD 0 ∧ (σ 1).headD 0 ≤ ((ah (σ 3) 0).length : Int) := by
 have h1 : SAll σ (A39 ++ a9c) := h
 have h2 := (aj h1).2
 simp only [sall_cons, sF, evs, evx] at h2
 exact ⟨a8c (aj h1).1, h2.1, h2.2.1⟩
theorem b7p (h : ((σ 3).length : Int) ≤ 3900) : (SE.app 42 bc9).eval σ = 1 := of_decide_eq_true (s42.2 (ady (s := σ 3) (by omega)))
theorem fSK (g : GE) (a : SE) : a.eval σ ≤ (SE.app 43 (.g g (.i a ans))).eval σ ∧ (a.eval σ ≤ (SE.len g).eval σ → (SE.app 43 (.g g (.i a ans))).eval σ ≤ (SE.len g).eval σ) :=
 ⟨d8 _ _ _, fun h => dm _ _ _ _ (Nat.le_refl _) h⟩
end
def b85 [Gv] : Prop := (SAll Gv.σ [] → bh 48 b3x 257 b32 b5h 258 b7i)
theorem bz0 [Gv] (hI : SAll Gv.σ bik) : b85 := by
 obtain ⟨g0, g1, g2, g3, g4, g5, hI2⟩ := abl hI
 try simp only [sall_cons, sT, sF, sE, sN, evs, wr] at hI2
 have hI := brt hI (.c 0) af3
 have u := g0
 exact zm [] (.i af3 akg .nil) af ak hI b0s
def b4j [Gv] : Prop := (SAll Gv.σ [] → bh 48 b57 258 b8m b5i 258 b4i)
theorem b2f [Gv] (hI : SAll Gv.σ bn1) : b4j := by
 obtain ⟨g0, g1, g2, g3, g4, g5, hI2⟩ := abl hI
 try simp only [sall_cons, sT, sF, sE, sN, evs, wr] at hI2
 have hI := brt hI (.c 0) af3
 have u := g0
 exact zm [] (.i af3 akg .nil) af ak hI b0s
def cbj [Gv] : Prop := (SAll Gv.σ [] → bh 48 b52 257 b7l b6l 258 b82)
theorem b8n [Gv] (hI : SAll Gv.σ []) : cbj := by
 have hB : xz 257 [] := by
  intro n o h
  simp at h
 intro hC
 refine si (kd := 1) (g := .s 5) (g' := .s 5) (Lr := []) (loN := v8 (.s 5) .nilSlice) (loS := xw (.s 5)) (loB := xv) (loN' := v8 (.s 5) .nilSlice) (loS' := xw (.s 5)) (loB' := xv) (by omega) (by omega) (by omega) hB rfl rfl rfl rfl rfl (d6 (.s 5)) (d6 (.s 5)) ?_ ?_
 ·rintro ⟨hr, hm⟩
  exact ⟨_, 257, by omega, .inl ⟨⟨hr, hm⟩, rfl⟩, bz0 (sc (s56.2 hr) (sc (bE _ _ hm) SAll.nil)) hC⟩
 ·intro hr
  exact ⟨_, 257, by omega, .inr ⟨hr, rfl⟩, b2f (sc (s56.2 hr) SAll.nil) hC⟩
theorem b2b [Gv] : ap b4f := fun σ _ hA _ => (@b8n ⟨σ⟩  (aj hA).1) (aj hA).2
def b50 [Gv] : Prop := (SAll Gv.σ [] → bh 15 b5n 257 b6q b5z 258 b5e)
theorem b29 [Gv] (hI : SAll Gv.σ bik) : b50 := by
 obtain ⟨g0, g1, g2, g3, g4, g5, hI2⟩ := abl hI
 try simp only [sall_cons, sT, sF, sE, sN, evs, wr] at hI2
 have hI := brt hI (.c 0) af3
 have u := g0
 exact zm [] (.i (.c 0) apa .nil) af ak hI b0s
def b4z [Gv] : Prop := (SAll Gv.σ [] → bh 15 b59 258 b7n b6a 258 b8s)
theorem b0o [Gv] (hI : SAll Gv.σ bn1) : b4z := by
 obtain ⟨g0, g1, g2, g3, g4, g5, hI2⟩ := abl hI
 try simp only [sall_cons, sT, sF, sE, sN, evs, wr] at hI2
 have hI := brt hI (.c 0) af3
 have u := g0
 exact zm0 [] af ak hI
def b9a [Gv] : Prop := (SAll Gv.σ [] → bh 15 b41 257 b86 b4u 258 b5w)
theorem b53 [Gv] (hI : SAll Gv.σ []) : b9a := by
 have hB : xz 257 [] := by
  intro n o h
  simp at h
 intro hC
 refine si (kd := 1) (g := .s 5) (g' := .s 5) (Lr := []) (loN := v8 (.s 5) .nilSlice) (loS := xw (.s 5)) (loB := xv) (loN' := v8 (.s 5) .nilSlice) (loS' := xw (.s 5)) (loB' := xv) (by omega) (by omega) (by omega) hB rfl rfl rfl rfl rfl (d6 (.s 5)) (d6 (.s 5)) ?_ ?_
 ·rintro ⟨hr, hm⟩
  exact ⟨_, 257, by omega, .inl ⟨⟨hr, hm⟩, rfl⟩, b29 (sc (s56.2 hr) (sc (bE _ _ hm) SAll.nil)) hC⟩
 ·intro hr
  exact ⟨_, 257, by omega, .inr ⟨hr, rfl⟩, b0o (sc (s56.2 hr) SAll.nil) hC⟩
theorem bnd [Gv] : ap bz5 := fun σ _ hA _ => (@b53 ⟨σ⟩  (aj hA).1) (aj hA).2
theorem b3s [Gv] : ∀ t ∈ [b4f, bxg, bv3, bv9], ap t := by
 intro t ht
 simp only [List.mem_cons, List.not_mem_nil, or_false] at ht
 rcases ht with rfl | rfl | rfl | rfl
 ·exact b2b
 ·exact brq
 ·exact bqo
 ·exact bpk
def cbl [Gv] : Prop := (SAll Gv.σ awx → bh 32 bfy 260 bhw bu3 262 bxl) ∧ (SAll Gv.σ bh3 → bh 32 bfy 260 bhw bvx 262 bvb) ∧ (SAll Gv.σ bcd → bh 32 bfy 260 bhw bvu 262 bxx)
theorem bi3 [Gv] (hI : SAll Gv.σ A39) : cbl := by
 obtain ⟨hL, hc⟩ := a8c hI
 have hI := bg0 hI akg (.c 0)
 have t1 := xx (f53 (σ := Gv.σ) (.s 4))
 have hI := bg0 hI (.app 53 (.g (.s 4) .nil)) (.c 0)
 rcases ay3 hI acn (.c 1) with ⟨hI, k3⟩ | ⟨hI, k3⟩
 ·rcases a75 hI (.len (.s 3)) (.c 1) with ⟨hI, k4⟩ | ⟨hI, k4⟩
  ·have u := bv (Gv.σ 3)
   exact ⟨ml,
    zm0 [(262, 260)] (zh hI b3s) ak hI,
    ml⟩
  ·have u := bv (Gv.σ 3)
   exact ⟨ml,
    ml,
    zm0 [(261, 261), (262, 260)] (zh hI b3s) ak hI⟩
 ·have u := bv (Gv.σ 3)
  exact ⟨zm0 [] (zh hI b3s) ak hI,
   ml,
   ml⟩
theorem ba1 [Gv] : ap bkr := fun σ _ hA _ => (@bi3 ⟨σ⟩  (aj hA).1).1 (aj hA).2
theorem ba0 [Gv] : ap bk2 := fun σ _ hA _ => (@bi3 ⟨σ⟩  (aj hA).1).2.1 (aj hA).2
theorem bba [Gv] : ap bmc := fun σ _ hA _ => (@bi3 ⟨σ⟩  (aj hA).1).2.2 (aj hA).2
theorem bn7 [Gv] : ∀ t ∈ [bkr, bk2, bmc, acp, bjs, bl5], ap t := by
 intro t ht
 simp only [List.mem_cons, List.not_mem_nil, or_false] at ht
 rcases ht with rfl | rfl | rfl | rfl | rfl | rfl
 ·exact ba1
 ·exact ba0
 ·exact bba
 ·exact apl
 ·exact bel
 ·exact bct
def ca9 [Gv] : Prop := (SAll Gv.σ awx → bh 12 a2j 260 a1g bt9 264 bva) ∧ (SAll Gv.σ bb3 → bh 12 a2j 260 a1g bt5 264 bzj) ∧ (SAll Gv.σ ba2 → bh 12 a2j 260 a1g bxc 264 bxh) ∧ (SAll Gv.σ bbf → bh 12 a2j 260 a1g bwn 264 byi)
theorem a8o [Gv] (hI : SAll Gv.σ bhj) : ca9 := by
 obtain ⟨⟨hL, hc⟩, hp0, hpl⟩ := bsq hI
 have hdl := bv (Gv.σ 3)
 rcases ay3 hI acn (.c 1) with ⟨hI, k1⟩ | ⟨hI, k1⟩
 ·rcases a75 hI (.len (.s 3)) (.c 1) with ⟨hI, k2⟩ | ⟨hI, k2⟩
  ·have hI := abq hI (.c 0) (.v 1)
   have hI := ac0 hI (.v 1) (.c 0)
   have t1 := xx (fSK (σ := Gv.σ) adk (.v 1))
   have u := bv (Gv.σ 3)
   exact ⟨ml,
    zm [] (.i (.c 0) uh .nil) (zh hI bn7) ak hI b7r,
    ml,
    ml⟩
  ·have t2 := xx (b7p (σ := Gv.σ) (by omega))
   have hI := ac0 hI (.app 42 bc9) (.c 1)
   have t3 := xx (fSK (σ := Gv.σ) adk (.v 1))
   rcases ay3 hI w6 uh with ⟨hI, k4⟩ | ⟨hI, k4⟩
   ·have u := bv (Gv.σ 3)
    exact ⟨ml,
     zm [] (.i w6 uh .nil) (zh hI bn7) ak hI b7r,
     ml,
     ml⟩
   ·have hI := abq hI w6 (.c 0)
    have hI := abq hI uh w6
    rcases ay3 hI amt (.c 0) with ⟨hI, k7⟩ | ⟨hI, k7⟩
    ·have u := bv (Gv.σ 3)
     exact ⟨ml,
      ml,
      zm0 [(265, 260)] (zh hI bn7) ak hI,
      ml⟩
    ·have u := bv (Gv.σ 3)
     exact ⟨ml,
      ml,
      ml,
      zm0 [] (zh hI bn7) ak hI⟩
 ·have u := bv (Gv.σ 3)
  exact ⟨zm0 [] (zh hI bn7) ak hI,
   ml,
   ml,
   ml⟩
theorem bdz [Gv] : ap bja := fun σ _ hA _ => (@a8o ⟨σ⟩  (aj hA).1).1 (aj hA).2
theorem bbp [Gv] : ap bk1 := fun σ _ hA _ => (@a8o ⟨σ⟩  (aj hA).1).2.1 (aj hA).2
theorem ba9 [Gv] : ap biq := fun σ _ hA _ => (@a8o ⟨σ⟩  (aj hA).1).2.2.1 (aj hA).2
theorem bbz [Gv] : ap boi := fun σ _ hA _ => (@a8o ⟨σ⟩  (aj hA).1).2.2.2 (aj hA).2
end Go.Ev
