import Derived.Test.YtocilenpboklbaaGreatDoorSxN
set_option maxRecDepth 100000
set_option linter.all false
namespace Go.Ev
theorem bcm {X : List Int} (h : ∀ x ∈ X, isD x) (hn : X ≠ []) : gy X = X ∧ gy (45 :: X) = X := by
 cases X with
 | nil => exact absurd rfl hn
 | cons x X =>
   have hx := h x (List.mem_cons_self ..)
   unfold isD at hx
   have e : gy (x :: X) = x :: X := by
    unfold gy
    rw [List.dropWhile_cons, if_neg (by simp; omega)]
   refine ⟨e, ?_⟩
   have : gy (45 :: x :: X) = gy (x :: X) := by
    unfold gy
    rw [List.dropWhile_cons, if_pos (by simp)]
   rw [this, e]
structure DigQ (n : Int) : Prop where
 l : 1 ≤ ((ej n).length : Int) ∧ ((ej n).length : Int) ≤ 21
 v : bj (ej n) = 1
 d : ak (ej n) 0 = ej n
 c1 : ¬ sj ((ej n).getD 0 0) = 1
 c2 : ¬ (ej n).getD 0 0 = 63
 c3 : ¬ (ej n).getD 0 0 = 35
 sk : al (ej n) 0 0 = 0
 tk : kk (ej n) 0 [] 0 = ⟨0, ((ej n).length : Int), ej n, 0⟩
 k : ¬ qw (ej n) = 0
 kin : -2305843009213693952 ≤ n → n ≤ 2305843009213693951 → qw (ej n) = 1 ∧ auo (ej n) = n
 kou : qw (ej n) = 1 → -2305843009213693952 ≤ n ∧ n ≤ 2305843009213693951
theorem az5 : ∀ (X A : List Int) (sum most : Int), (∀ x ∈ X, isD x) → ¬ (lf (A ++ X) (A.length : Int) sum most 0).k = 1
 | [], A, sum, most, h => by
   rw [lf, dif_neg (by rw [List.append_nil]; omega)]
   show ¬ (if (0 : Int) = 1 then (1 : Int) else 2) = 1
   decide
 | x :: X, A, sum, most, h => by
   have hx := h x (List.mem_cons_self ..)
   have hX := fun y hy => h y (zA _ hy)
   unfold isD at hx
   obtain ⟨d1, d2⟩ := ano A (x := x) (by omega) (ao1 hX)
   have i := fun s m => az5 X (A ++ [x]) s m hX
   have el : (((A ++ [x]).length : Nat) : Int) = (A.length : Int) + 1 := by rw [zP]; rfl
   simp only [el, List.append_assoc, List.singleton_append] at i
   rw [lf, dif_pos (by rw [zP, zO]; omega), d1, d2, if_neg (by omega), dif_pos (by omega)]
   split
   ·exact i _ _
   ·exact i _ _
theorem aun {most : Int} : ∀ (X A : List Int) (sum : Int), (∀ x ∈ X, isD x) → 0 ≤ sum → sum ≤ most → most < vD X sum → vD X sum ≤ 9223372036854775808 → ¬ (lf (A ++ X) (A.length : Int) sum most 1).k = 1
 | [], A, sum, h, h0, h1, h2, h3 => by
   have h2 : most < sum := h2
   omega
 | x :: X, A, sum, h, h0, h1, h2, h3 => by
   have hx := h x (List.mem_cons_self ..)
   have hX := fun y hy => h y (zA _ hy)
   unfold isD at hx
   obtain ⟨d1, d2⟩ := ano A (x := x) (by omega) (ao1 hX)
   have h2 : most < vD X (sum * 10 + (x - 48)) := h2
   have h3 : vD X (sum * 10 + (x - 48)) ≤ 9223372036854775808 := h3
   have hg := bct X (sum * 10 + (x - 48)) hX (by omega)
   have el : (((A ++ [x]).length : Nat) : Int) = (A.length : Int) + 1 := by rw [zP]; rfl
   have em : (sum * 10 % 18446744073709551616 + (x - 48)) % 18446744073709551616 = sum * 10 + (x - 48) := by omega
   rw [lf, dif_pos (by rw [zP, zO]; omega), d1, d2, if_neg (by omega), dif_pos (by omega), em]
   split
   ·have i := az5 X (A ++ [x]) most most hX
    rw [el, List.append_assoc] at i; exact i
   ·have i := aun X (A ++ [x]) (sum * 10 + (x - 48)) hX (by omega) (by omega) h2 h3
    rw [el, List.append_assoc] at i; exact i
theorem a85 {D : List Int} (h : ∀ x ∈ D, isD x ∨ x = 45) (hn : D ≠ []) : ¬ sj (D.getD 0 0) = 1 ∧ ¬ D.getD 0 0 = 63 ∧ ¬ D.getD 0 0 = 35 ∧ al D 0 0 = 0 := by
 cases D with
 | nil => exact absurd rfl hn
 | cons x X =>
   have hx := h x (List.mem_cons_self ..)
   unfold isD at hx
   have hb : ¬ ald x = 1 := by
    unfold ald
    split
    ·omega
    ·decide
   have hd : ¬ sj x = 1 := by
    unfold sj
    rw [if_neg]
    ·decide
    ·rintro (h | h | h | h | h | h | h | h | h | h)
     all_goals first | omega | exact hb h
   have g : (x :: X).getD (0 : Int).toNat 0 = x := rfl
   refine ⟨hd, by show ¬ x = 63; omega, by show ¬ x = 35; omega, ?_⟩
   rw [al, dif_pos (by rw [zO]; omega), if_neg (by decide), g, if_neg (by omega), if_neg hb]
theorem be7 {n : Int} (h0 : -9223372036854775808 ≤ n) (h1 : n ≤ 9223372036854775807) : DigQ n := by
 have n0 : ay [] := fun x hx => (zH hx).elim
 have hl := bsg (σ := fun _ => [n]) (.v 1)
 have hl : 1 ≤ ((ej n).length : Int) ∧ ((ej n).length : Int) ≤ 21 := hl
 have hne : ej n ≠ [] := by intro e; rw [e] at hl; simp at hl
 have hall : ∀ x ∈ ej n, isD x ∨ x = 45 := by
  intro x hx
  unfold ej at hx
  split at hx
  ·rcases List.mem_cons.1 hx with rfl | hx
   ·exact .inr rfl
   ·exact .inl (wk 20 (-n) (by omega) x hx)
  ·exact .inl (wk 20 n (by omega) x hx)
 have hasc : Asc (ej n) := fun x hx => by have := hall x hx; unfold isD at this; omega
 obtain ⟨a0, a1, a2⟩ := aa2 (ej n) hasc n0
 rw [List.append_nil] at a0 a1 a2
 have z : ak [] 0 = [] := rfl
 rw [z, List.append_nil] at a1
 obtain ⟨c1, c2, c3, c4⟩ := a85 hall hne
 have tk := am5 (ej n) [] [] 0 hall
 have tk : kk (ej n) 0 [] 0 = ⟨0, 0 + ((ej n).length : Int), ej n, 0⟩ := tk
 rw [Int.zero_add] at tk
 have num : ∃ X : List Int, (∀ x ∈ X, isD x) ∧ X ≠ [] ∧ ((0 ≤ n ∧ ej n = X ∧ vD X 0 = n) ∨ (n < 0 ∧ ej n = 45 :: X ∧ vD X 0 = -n)) := by
  by_cases hn : n < 0
  ·refine ⟨s9 20 (-n), wk 20 (-n) (by omega), ?_, .inr ⟨hn, by unfold ej; rw [if_pos hn], ?_⟩⟩
   ·intro e; have h2 : 1 ≤ ((s9 20 (-n)).length : Int) := aii 19 (-n); rw [e] at h2; simp at h2
   ·have := aij 19 n.natAbs (by omega)
    rw [show ((n.natAbs : Nat) : Int) = -n by omega] at this; exact this
  ·refine ⟨s9 20 n, wk 20 n (by omega), ?_, .inl ⟨by omega, by unfold ej; rw [if_neg hn], ?_⟩⟩
   ·intro e; have h2 : 1 ≤ ((s9 20 n).length : Int) := aii 19 n; rw [e] at h2; simp at h2
   ·have := aij 19 n.toNat (by omega)
    rw [show ((n.toNat : Nat) : Int) = n by omega] at this; exact this
 obtain ⟨X, hX, hXn, hcase⟩ := num
 obtain ⟨t1, t2⟩ := bcm hX hXn
 have hnum : ajm (ej n) = lf X 0 0 (if zc (ej n) = 1 then 2305843009213693952 else 2305843009213693951) 1 ∧ ((0 ≤ n ∧ zc (ej n) = 0) ∨ (n < 0 ∧ zc (ej n) = 1)) := by
  rcases hcase with ⟨hn, hD, _⟩ | ⟨hn, hD, _⟩
  ·refine ⟨?_, .inl ⟨hn, ?_⟩⟩
   ·unfold ajm
    rw [hD, t1, if_neg]
    rintro (h | h)
    ·exact hXn h
    ·omega
   ·rw [hD]
    cases X with
    | nil => exact absurd rfl hXn
    | cons x X =>
      have hx := hX x (List.mem_cons_self ..)
      unfold isD at hx
      unfold zc
      rw [if_neg (by show ¬ x = 45; omega)]
  ·refine ⟨?_, .inr ⟨hn, by rw [hD]; rfl⟩⟩
   unfold ajm
   rw [hD, t2, if_neg]
   rintro (h | h)
   ·exact hXn h
   ·rw [zO] at h; omega
 obtain ⟨hr, hs⟩ := hnum
 refine ⟨hl, a2 rfl, a1, c1, c2, c3, c4, tk, ?_, fun g0 g1 => ?_, fun hk => ?_⟩
 ·unfold qw
  rw [hr]
  exact aum X [] 0 _ 1 hX
 ·have hv : vD X 0 ≤ (if zc (ej n) = 1 then 2305843009213693952 else 2305843009213693951) := by
   rcases hcase with ⟨hn, _, hv⟩ | ⟨hn, _, hv⟩ <;> rcases hs with ⟨_, hs⟩ | ⟨_, hs⟩
   ·rw [hs, if_neg (by decide)]; omega
   ·omega
   ·omega
   ·rw [hs, if_pos rfl]; omega
  have key := az6 (most := if zc (ej n) = 1 then 2305843009213693952 else 2305843009213693951) (by split <;> decide) X [] 0 hX (Int.le_refl 0) hv
  have key : lf X 0 0 (if zc (ej n) = 1 then 2305843009213693952 else 2305843009213693951) 1 = ⟨1, vD X 0⟩ := key
  unfold qw auo
  rw [hr, key]
  refine ⟨rfl, ?_⟩
  rcases hcase with ⟨hn, _, hv⟩ | ⟨hn, _, hv⟩ <;> rcases hs with ⟨_, hs⟩ | ⟨_, hs⟩
  ·rw [hs, if_neg (by decide)]; exact hv
  ·omega
  ·omega
  ·rw [hs, if_pos rfl]; show -(vD X 0) = n; omega
 ·by_cases hv : vD X 0 ≤ (if zc (ej n) = 1 then 2305843009213693952 else 2305843009213693951)
  ·rcases hcase with ⟨hn, _, hv'⟩ | ⟨hn, _, hv'⟩ <;> rcases hs with ⟨_, hs⟩ | ⟨_, hs⟩ <;> split at hv <;> omega
  ·have z := aun (most := if zc (ej n) = 1 then 2305843009213693952 else 2305843009213693951) X [] 0 hX (Int.le_refl 0) (by split <;> decide) (by omega) (by rcases hcase with ⟨hn, _, hv'⟩ | ⟨hn, _, hv'⟩ <;> omega)
   unfold qw at hk
   rw [hr] at hk
   exact absurd hk z
end Go.Ev
