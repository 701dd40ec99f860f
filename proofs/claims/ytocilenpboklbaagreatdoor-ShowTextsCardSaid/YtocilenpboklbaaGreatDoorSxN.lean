import Derived.Test.YtocilenpboklbaaGreatDoorSxQ
set_option maxRecDepth 100000
set_option linter.all false
namespace Go.Ev
def isD (x : Int) : Prop := 48 ≤ x ∧ x ≤ 57
theorem wk : ∀ (f : Nat) (n : Int), 0 ≤ n → ∀ x ∈ s9 f n, isD x
 | 0, n, h, x, hx => (zH hx).elim
 | f + 1, n, h, x, hx => by
   unfold s9 at hx
   split at hx
   ·rw [List.mem_singleton.1 hx]; unfold isD; omega
   ·rcases List.mem_append.1 hx with hx | hx
    ·exact wk f (n / 10) (by omega) x hx
    ·rw [List.mem_singleton.1 hx]; unfold isD; omega
def vD (X : List Int) (a : Int) : Int := X.foldl (fun a x => a * 10 + (x - 48)) a
theorem aij : ∀ (f : Nat) (n : Nat), n < 10 ^ (f + 1) → vD (s9 (f + 1) (n : Int)) 0 = (n : Int)
 | f, n, h => by
   unfold s9
   by_cases hn : (n : Int) < 10
   ·rw [if_pos hn]
    show (0 : Int) * 10 + (48 + (n : Int) - 48) = n
    omega
   ·cases f with
    | zero => exact absurd h (by omega)
    | succ f =>
      have h : n < 10 ^ (f + 1) * 10 := h
      have i := aij f (n / 10) (by omega)
      rw [if_neg hn, show (n : Int) / 10 = ((n / 10 : Nat) : Int) by omega]
      unfold vD at *
      rw [List.foldl_append, i]
      show ((n / 10 : Nat) : Int) * 10 + (48 + (n : Int) % 10 - 48) = n
      omega
theorem bct : ∀ (X : List Int) (a : Int), (∀ x ∈ X, isD x) → 0 ≤ a → a ≤ vD X a
 | [], a, _, _ => Int.le_refl _
 | x :: X, a, h, h0 => by
   have hx := h x (List.mem_cons_self ..)
   unfold isD at hx
   have i := bct X (a * 10 + (x - 48)) (fun y hy => h y (zA _ hy)) (by omega)
   show a ≤ vD X (a * 10 + (x - 48))
   omega
theorem azk {x : Int} (h : x ≤ 127) : c9 x = [x] := by unfold c9; rw [if_neg (by omega)]
theorem ano (A : List Int) {x : Int} (h : 0 ≤ x ∧ x < 128) {X : List Int} (hX : ay X) : drJ (A ++ x :: X) (A.length : Int) = x ∧ dwJ (A ++ x :: X) (A.length : Int) = 1 := by
 have d := as8 (A ++ x :: X) A.length 0 (Int.le_refl 0)
 rw [Int.add_zero, List.drop_left] at d
 have e := azf (c := x) ⟨h.1, by omega, by omega⟩ hX
 rw [azk (by omega)] at e
 rw [d.1, d.2, a5p, a5q]
 have e : Lib.decodeL (u8L (x :: X)) = (x.toNat, 1) := e
 rw [e]
 exact ⟨by show ((x.toNat : Nat) : Int) = x; omega, rfl⟩
theorem ao1 {X : List Int} (h : ∀ x ∈ X, isD x) : ay X := fun x hx => by have := h x hx; unfold isD at this; omega
theorem az6 {most : Int} (hm : most ≤ 2305843009213693952) : ∀ (X A : List Int) (sum : Int), (∀ x ∈ X, isD x) → 0 ≤ sum → vD X sum ≤ most → lf (A ++ X) (A.length : Int) sum most 1 = ⟨1, vD X sum⟩
 | [], A, sum, h, h0, h1 => by
   rw [lf, dif_neg (by rw [List.append_nil]; omega)]; rfl
 | x :: X, A, sum, h, h0, h1 => by
   have hx := h x (List.mem_cons_self ..)
   have hX := fun y hy => h y (zA _ hy)
   unfold isD at hx
   obtain ⟨d1, d2⟩ := ano A (x := x) (by omega) (ao1 hX)
   have h1 : vD X (sum * 10 + (x - 48)) ≤ most := h1
   have hg := bct X (sum * 10 + (x - 48)) hX (by omega)
   have i := az6 hm X (A ++ [x]) (sum * 10 + (x - 48)) hX (by omega) h1
   have el : (((A ++ [x]).length : Nat) : Int) = (A.length : Int) + 1 := by rw [zP]; rfl
   rw [el, List.append_assoc] at i
   have i : lf (A ++ x :: X) ((A.length : Int) + 1) (sum * 10 + (x - 48)) most 1 = ⟨1, vD X (sum * 10 + (x - 48))⟩ := i
   have em : (sum * 10 % 18446744073709551616 + (x - 48)) % 18446744073709551616 = sum * 10 + (x - 48) := by omega
   rw [lf, dif_pos (by rw [zP, zO]; omega), d1, d2, if_neg (by omega), dif_pos (by omega), em, if_neg (by omega), i]
   rfl
theorem aum : ∀ (X A : List Int) (sum most fits : Int), (∀ x ∈ X, isD x) → ¬ (lf (A ++ X) (A.length : Int) sum most fits).k = 0
 | [], A, sum, most, fits, h => by
   rw [lf, dif_neg (by rw [List.append_nil]; omega)]
   show ¬ (if fits = 1 then (1 : Int) else 2) = 0
   split <;> decide
 | x :: X, A, sum, most, fits, h => by
   have hx := h x (List.mem_cons_self ..)
   have hX := fun y hy => h y (zA _ hy)
   unfold isD at hx
   obtain ⟨d1, d2⟩ := ano A (x := x) (by omega) (ao1 hX)
   have i := fun s m f => aum X (A ++ [x]) s m f hX
   have el : (((A ++ [x]).length : Nat) : Int) = (A.length : Int) + 1 := by rw [zP]; rfl
   simp only [el, List.append_assoc, List.singleton_append] at i
   rw [lf, dif_pos (by rw [zP, zO]; omega), d1, d2, if_neg (by omega), dif_pos (by omega)]
   split
   ·exact i _ _ _
   ·exact i _ _ _
theorem am5 : ∀ (X A b : List Int) (q : Int), (∀ x ∈ X, isD x ∨ x = 45) → kk (A ++ X) (A.length : Int) b q = ⟨0, (A.length : Int) + (X.length : Int), b ++ X, q⟩
 | [], A, b, q, h => by
   rw [da, if_neg (by rw [List.append_nil]; omega), List.append_nil]
   show (⟨0, (A.length : Int), b, q⟩ : TK) = ⟨0, (A.length : Int) + 0, b, q⟩
   rw [Int.add_zero]
 | x :: X, A, b, q, h => by
   have hx := h x (List.mem_cons_self ..)
   unfold isD at hx
   have i := am5 X (A ++ [x]) (b ++ [x]) q (fun y hy => h y (zA _ hy))
   have el : (((A ++ [x]).length : Nat) : Int) = (A.length : Int) + 1 := by rw [zP]; rfl
   rw [el, List.append_assoc, List.append_assoc] at i
   have i : kk (A ++ x :: X) ((A.length : Int) + 1) (b ++ [x]) q = ⟨0, (A.length : Int) + 1 + (X.length : Int), b ++ x :: X, q⟩ := i
   have g := abv A X x
   have hd : ¬ sj x = 1 := by
    unfold sj
    rw [if_neg]
    ·decide
    ·unfold ald
     rintro (h | h | h | h | h | h | h | h | h | h)
     all_goals first | omega | (split at h <;> omega)
   rw [da, if_pos (by rw [zP, zO]; omega), g, if_neg hd, if_neg (by omega), azk (by omega), i, zO]
   congr 1; omega
end Go.Ev
