import Derived.Test.YtocilenpboklbaaGreatDoorSyA
import Derived.Test.YtocilenpboklbaaGreatDoorRcP
set_option maxRecDepth 100000
set_option linter.all false
namespace Go.Ev
def jt (R : List Int) : List Int := R.flatMap fun c => if ul 1 c = 1 then [92, c] else [c]
theorem yb (c : Int) (C : List Int) : jt (c :: C) = (if ul 1 c = 1 then [92, c] else [c]) ++ jt C := rfl
theorem a4a {c : Int} (h : ac1 c = 1) : c = 9 ∨ c = 10 ∨ c = 12 ∨ c = 13 ∨ c = 32 := by
 unfold ac1 at h
 by_cases hc : c = 9 ∨ c = 10 ∨ c = 12 ∨ c = 13 ∨ c = 32
 ·exact hc
 ·rw [if_neg hc] at h; exact absurd h (by decide)
theorem a4f {c : Int} (h : jo c = 1) : c = 40 ∨ c = 41 ∨ c = 91 ∨ c = 93 ∨ c = 34 ∨ c = 39 ∨ c = 96 ∨ c = 44 ∨ c = 59 ∨ ac1 c = 1 := by
 unfold jo at h
 by_cases hc : c = 40 ∨ c = 41 ∨ c = 91 ∨ c = 93 ∨ c = 34 ∨ c = 39 ∨ c = 96 ∨ c = 44 ∨ c = 59 ∨ ac1 c = 1
 ·exact hc
 ·rw [if_neg hc] at h; exact absurd h (by decide)
theorem ay3 {c : Int} (h : jo c = 1) : c ≤ 96 ∧ ¬ (48 ≤ c ∧ c ≤ 57) := by
 rcases a4f h with h | h | h | h | h | h | h | h | h | h
 ·omega
 ·omega
 ·omega
 ·omega
 ·omega
 ·omega
 ·omega
 ·omega
 ·omega
 ·have := a4a h; omega
theorem awk (c : Int) : ul 1 c = 1 ↔ c = 92 ∨ jo c = 1 := by
 unfold ul
 by_cases h1 : c = 92
 ·simp [h1]
 ·simp [h1]
theorem asd (s : List Int) (p : Nat) (q : Int) (h : 0 ≤ q) : drJ s ((p : Int) + q) = drJ (s.drop p) q ∧ dwJ s ((p : Int) + q) = dwJ (s.drop p) q := by
 have e : ((p : Int) + q).toNat = p + q.toNat := by omega
 have d := asb s p q.toNat
 unfold drJ dwJ
 rw [e]
 exact ⟨congrArg (fun x => ((x.1 : Nat) : Int)) d, congrArg (fun x => ((x.2 : Nat) : Int)) d⟩
theorem amb (k : Int) (s : List Int) (p : Nat) : ∀ (n : Nat) (q : Int), ((s.length : Int) - p - q).toNat ≤ n → 0 ≤ q → kk k s ((p : Int) + q) = kk k (s.drop p) q
 | 0, q, h, h0 => by rw [px, px k (s.drop p), if_neg (by omega), if_neg (by rw [List.length_drop]; omega)]
 | n + 1, q, h, h0 => by
   obtain ⟨e1, e2⟩ := asd s p q h0
   rw [px, px k (s.drop p), e1, e2]
   have c2 : q < ((s.drop p).length : Int) ↔ (p : Int) + q < (s.length : Int) := by rw [List.length_drop]; omega
   by_cases hl : (p : Int) + q < (s.length : Int)
   ·by_cases hw : 0 < dwJ (s.drop p) q
    ·have i := amb k s p n (q + dwJ (s.drop p) q) (by omega) (by omega)
     rw [if_pos hl, if_pos hw, if_pos (c2.2 hl), if_pos hw, Int.add_assoc, i]
    ·rw [if_pos hl, if_neg hw, if_pos (c2.2 hl), if_neg hw]
   ·rw [if_neg hl, if_neg (fun h => hl (c2.1 h))]
theorem at0 {s : List Int} (hs : s ≠ []) (k : Int) : kk k s 0 = if ul k (drJ s 0) = 1 then 92 :: (dh (drJ s 0) ++ kk k (s.drop (Lib.decodeL (u8L s)).2) 0) else dh (drJ s 0) ++ kk k (s.drop (Lib.decodeL (u8L s)).2) 0 := by
 have hl : 0 < (s.length : Int) := by
  have := List.length_pos_iff.2 hs
  omega
 have hb := aie (σ := fun i => if i = 0 then s else [0]) (.s 0) (.v 1) (Int.le_refl 0) hl
 have hw : 1 ≤ dwJ s 0 := hb.1
 have e := amb k s (Lib.decodeL (u8L s)).2 _ 0 (zY _) (Int.le_refl 0)
 rw [← avf s] at e
 rw [px, if_pos hl, if_pos (by omega), Int.zero_add]
 rw [Int.add_zero] at e
 rw [e]
structure Step (s : List Int) : Prop where
 v2 : ar (s.drop (Lib.decodeL (u8L s)).2) = 1
 b2 : ax (s.drop (Lib.decodeL (u8L s)).2)
 hc : isC (drJ s 0)
 w1 : 1 ≤ (Lib.decodeL (u8L s)).2
 le : (Lib.decodeL (u8L s)).2 ≤ s.length
 et : dh (drJ s 0) = s.take (Lib.decodeL (u8L s)).2
 el : (dh (drJ s 0)).length = (Lib.decodeL (u8L s)).2
theorem af3 {s : List Int} (hb : ax s) (hv : ar s = 1) (hs : s ≠ []) : Step s := by
 have hl : 0 < s.length := List.length_pos_iff.2 hs
 obtain ⟨v1, v2⟩ := (ut hs).1 hv
 have hle := Lib.decodeL_le (u8L s) (by simpa [u8L] using hs)
 rw [ajz] at hle
 have hw1 : 1 ≤ (Lib.decodeL (u8L s)).2 := by
  have hb2 := aie (σ := fun i => if i = 0 then s else [0]) (.s 0) (.v 1) (Int.le_refl 0) (show (0 : Int) < (s.length : Int) by omega)
  have : 1 ≤ dwJ s 0 := hb2.1
  rw [avf] at this; omega
 have hc : isC (drJ s 0) := by
  have := aag _ s (zY _) hv (drJ s 0) (by rw [ir hs]; exact List.mem_cons_self ..)
  exact ⟨this.1, by omega, this.2.2⟩
 have et := a7h hb hs v1
 exact ⟨v2, bfb hb _, hc, hw1, hle, et, by rw [et, List.length_take]; omega⟩
theorem ajd : ∀ (n : Nat) (s : List Int), s.length ≤ n → ax s → ar s = 1 → ((ae s 0).flatMap dh = s ∧ ∀ c ∈ ae s 0, isC c) ∧
  (∀ t : List Int, ax t → ax (kk 1 s 0 ++ t) ∧ ae (kk 1 s 0 ++ t) 0 = jt (ae s 0) ++ ae t 0 ∧ (ar t = 1 → ar (kk 1 s 0 ++ t) = 1)) ∧ (kk 1 s 0).length ≤ 2 * s.length
 | 0, s, h, hb, hv => by
   obtain rfl : s = [] := List.length_eq_zero_iff.1 (by omega)
   have e : kk 1 [] 0 = [] := by rw [px, if_neg (by decide)]
   rw [e]
   exact ⟨⟨rfl, fun c h => (zH h).elim⟩, fun t ht => ⟨ht, rfl, id⟩, zY _⟩
 | n + 1, s, h, hb, hv => by
   by_cases hs : s = []
   ·exact ajd n s (by rw [hs]; exact Nat.zero_le _) hb hv
   have S := af3 hb hv hs
   have := S.w1; have := S.le; have hel := S.el
   obtain ⟨⟨i1, i2⟩, i3, i4⟩ := ajd n (s.drop (Lib.decodeL (u8L s)).2) (by rw [List.length_drop]; omega) S.b2 S.v2
   rw [List.length_drop] at i4
   refine ⟨⟨?_, ?_⟩, fun t ht => ?_, ?_⟩
   ·rw [ir hs, List.flatMap_cons, i1, S.et, List.take_append_drop]
   ·rw [ir hs]
    intro c h
    rcases List.mem_cons.1 h with rfl | h
    ·exact S.hc
    ·exact i2 c h
   ·obtain ⟨j0, j1, j2⟩ := i3 t ht
    obtain ⟨a1, a2⟩ := ay9 S.hc j0
    have b0 := av3 (ay8 _ S.hc) j0
    have er : jt (ae s 0) = (if ul 1 (drJ s 0) = 1 then [92, drJ s 0] else [drJ s 0]) ++ jt (ae (s.drop (Lib.decodeL (u8L s)).2) 0) := by
     rw [ir hs]; rfl
    rw [at0 hs, er]
    by_cases hk : ul 1 (drJ s 0) = 1
    ·rw [if_pos hk, if_pos hk]
     obtain ⟨c0, c1, c2⟩ := aat [92] (fun x hx => by rw [List.mem_singleton.1 hx]; omega) b0
     have e : 92 :: (dh (drJ s 0) ++ kk 1 (s.drop (Lib.decodeL (u8L s)).2) 0) ++ t = [92] ++ (dh (drJ s 0) ++ (kk 1 (s.drop (Lib.decodeL (u8L s)).2) 0 ++ t)) := by simp
     rw [e]
     refine ⟨c0, ?_, fun h => c2 (a2 (j2 h))⟩
     rw [c1, a1, j1]; simp
    ·rw [if_neg hk, if_neg hk, List.append_assoc]
     refine ⟨b0, ?_, fun h => a2 (j2 h)⟩
     rw [a1, j1]; simp
   ·rw [at0 hs]
    split
    ·rename_i hk
     rw [zO, zP]
     have h1 : (dh (drJ s 0)).length = 1 := by
      rw [vu]
      ·rfl
      ·rcases (awk _).1 hk with h | h
       ·omega
       ·have := (ay3 h).1; omega
     omega
    ·rw [zP]; omega
theorem bhz : jo 92 = 0 := by decide
theorem af5 (Q : List Int) (hQ : Q = [] ∨ ∃ d Q', Q = d :: Q' ∧ jo d = 1) : ∀ (C A b : List Int) (q : Int),
  cu (A ++ (jt C ++ Q)) (A.length : Int) b q = ⟨0, (A.length : Int) + ((jt C).length : Int), b ++ C.flatMap dh, if (C.any fun c => decide (ul 1 c = 1)) = true then 1 else q⟩
 | [], A, b, q => by
   show cu (A ++ Q) (A.length : Int) b q = ⟨0, (A.length : Int) + 0, b ++ [], q⟩
   rw [List.append_nil, Int.add_zero]
   rcases hQ with rfl | ⟨d, Q', rfl, hd⟩
   ·rw [cu, dif_neg (by rw [List.append_nil]; omega)]
   ·rw [cu, dif_pos (by rw [zP, zO]; omega), ue, if_pos hd]
 | c :: C, A, b, q => by
   by_cases hk : ul 1 c = 1
   ·have e1 : jt (c :: C) = [92, c] ++ jt C := by rw [yb, if_pos hk]
    have i := af5 Q hQ C (A ++ [92, c]) (b ++ dh c) 1
    have eb : (A ++ [92, c]) ++ (jt C ++ Q) = A ++ (jt (c :: C) ++ Q) := by rw [e1]; simp
    have el : (((A ++ [92, c]).length : Nat) : Int) = (A.length : Int) + 2 := by rw [zP]; rfl
    rw [eb, el] at i
    have g : (A ++ (jt (c :: C) ++ Q)).getD (A.length : Int).toNat 0 = 92 := by rw [e1]; exact ue A (c :: (jt C ++ Q)) 92
    have g2 : (A ++ (jt (c :: C) ++ Q)).getD ((A.length : Int) + 1).toNat 0 = c := by
     have := ue (A ++ [92]) (jt C ++ Q) c
     have el1 : (((A ++ [92]).length : Nat) : Int) = (A.length : Int) + 1 := by rw [zP]; rfl
     rw [el1] at this
     rw [e1]
     simpa using this
    have hlen : (A.length : Int) + 1 < (((A ++ (jt (c :: C) ++ Q)).length : Nat) : Int) := by rw [e1]; simp only [zP, zO, zS]; omega
    have ha : ((c :: C).any fun c => decide (ul 1 c = 1)) = true := by simp [hk]
    rw [cu, dif_pos (by omega), g, bhz, if_neg (by decide), if_pos rfl, if_pos hlen, g2, i, if_pos ha, ite_self, e1, zP, List.flatMap_cons, List.append_assoc b]
    congr 1
    show _ = (A.length : Int) + ((2 + (jt C).length : Nat) : Int)
    omega
   ·have e1 : jt (c :: C) = [c] ++ jt C := by rw [yb, if_neg hk]
    have i := af5 Q hQ C (A ++ [c]) (b ++ dh c) q
    have eb : (A ++ [c]) ++ (jt C ++ Q) = A ++ (jt (c :: C) ++ Q) := by rw [e1]; simp
    have el : (((A ++ [c]).length : Nat) : Int) = (A.length : Int) + 1 := by rw [zP]; rfl
    rw [eb, el] at i
    have g : (A ++ (jt (c :: C) ++ Q)).getD (A.length : Int).toNat 0 = c := by rw [e1]; exact ue A (jt C ++ Q) c
    have hlen : (A.length : Int) < (((A ++ (jt (c :: C) ++ Q)).length : Nat) : Int) := by rw [e1]; simp only [zP, zO, zS]; omega
    have ha : ((c :: C).any fun c => decide (ul 1 c = 1)) = (C.any fun c => decide (ul 1 c = 1)) := by simp [hk]
    have h0 : ¬ jo c = 1 := fun h => hk ((awk c).2 (.inr h))
    have h1 : ¬ c = 92 := fun h => hk ((awk c).2 (.inl h))
    rw [cu, dif_pos hlen, g, if_neg h0, if_neg h1, i, ha, e1, zP, List.flatMap_cons, List.append_assoc b]
    congr 1
    show _ = (A.length : Int) + ((1 + (jt C).length : Nat) : Int)
    omega
theorem ay5 {x : Int} (h : 0 ≤ x ∧ x < 128) {X : List Int} (hX : ax X) : drJ (x :: X) 0 = x ∧ dwJ (x :: X) 0 = 1 := by
 have d := ay2 (c := x) ⟨h.1, by omega, by omega⟩ hX
 rw [vu (by omega)] at d
 have e1 := a4g (x :: X)
 have e2 := avf (x :: X)
 have d : Lib.decodeL (u8L (x :: X)) = (x.toNat, 1) := d
 rw [d] at e1 e2
 rw [e1, e2]
 exact ⟨by show ((x.toNat : Nat) : Int) = x; omega, rfl⟩
theorem bbl {p : Int → Bool} : ∀ (l : List Int), ∀ x ∈ l.takeWhile p, p x = true
 | [], x, hx => (zH hx).elim
 | y :: l, x, hx => by
   rw [List.takeWhile_cons] at hx
   split at hx
   ·rename_i hy
    rcases List.mem_cons.1 hx with rfl | hx
    ·exact hy
    ·exact bbl l x hx
   ·exact (zH hx).elim
theorem a7f {p : Int → Bool} : ∀ (l : List Int), l.dropWhile p = [] → ∀ x ∈ l, p x = true
 | [], _, x, hx => (zH hx).elim
 | y :: l, h, x, hx => by
   rw [List.dropWhile_cons] at h
   split at h
   ·rename_i hy
    rcases List.mem_cons.1 hx with rfl | hx
    ·exact hy
    ·exact a7f l h x hx
   ·exact absurd h (List.cons_ne_nil _ _)
theorem a9p {c : Int} {l : List Int} (h : jl (ez (c :: l)) = []) : vd c = true := by
 have h1 := a7f _ h
 have e : c :: l = ez (c :: l) ++ ((c :: l).reverse.takeWhile vd).reverse := by
  unfold ez
  rw [← List.reverse_append, List.takeWhile_append_dropWhile, List.reverse_reverse]
 have hm : c ∈ ez (c :: l) ++ ((c :: l).reverse.takeWhile vd).reverse := by rw [← e]; exact List.mem_cons_self ..
 rcases List.mem_append.1 hm with hm | hm
 ·exact h1 c hm
 ·exact bbl _ c (List.mem_reverse.1 hm)
theorem ai0 : ∀ (n : Nat) (X A : List Int) (sum most fits : Int), X.length ≤ n → ax X → ar X = 1 → ¬ (uk (A ++ X) (A.length : Int) sum most fits).k = 0 → ∀ x ∈ X, 48 ≤ x ∧ x ≤ 57
 | 0, X, A, sum, most, fits, h, hb, hv, hk => by
   obtain rfl : X = [] := List.length_eq_zero_iff.1 (by omega)
   exact fun x hx => (zH hx).elim
 | n + 1, X, A, sum, most, fits, h, hb, hv, hk => by
   by_cases hs : X = []
   ·subst hs; exact fun x hx => (zH hx).elim
   have S := af3 hb hv hs
   have hl : 0 < X.length := List.length_pos_iff.2 hs
   obtain ⟨e1, e2⟩ := asd (A ++ X) A.length 0 (Int.le_refl 0)
   rw [List.drop_left, Int.add_zero] at e1 e2
   rw [uk, dif_pos (by rw [zP]; omega), e1, e2] at hk
   by_cases hd : drJ X 0 < 48 ∨ 57 < drJ X 0
   ·rw [if_pos hd] at hk; exact absurd rfl hk
   ·rw [if_neg hd] at hk
    have ht := S.et
    have hel := S.el
    rw [vu (by omega)] at ht hel
    have hw : (Lib.decodeL (u8L X)).2 = 1 := hel.symm
    have b2 := S.b2
    have v2 := S.v2
    rw [hw] at ht b2 v2
    have hX : X = drJ X 0 :: X.drop 1 := by
     conv => lhs; rw [← List.take_append_drop 1 X, ← ht]
     rfl
    have hdw : dwJ X 0 = 1 := by rw [avf, hw]; rfl
    rw [hdw, dif_pos (by omega)] at hk
    have eb : A ++ X = (A ++ [drJ X 0]) ++ X.drop 1 := by
     conv => lhs; rw [hX]
     simp
    have el : (((A ++ [drJ X 0]).length : Nat) : Int) = (A.length : Int) + 1 := by rw [zP]; rfl
    rw [eb, ← el] at hk
    have hlen : (X.drop 1).length ≤ n := by rw [List.length_drop]; omega
    intro x hx
    rw [hX] at hx
    rcases List.mem_cons.1 hx with rfl | hx
    ·omega
    ·split at hk
     ·exact ai0 n _ _ _ _ _ hlen b2 v2 hk x hx
     ·exact ai0 n _ _ _ _ _ hlen b2 v2 hk x hx
theorem bak {c : Int} {l : List Int} (hc : c = 43 ∨ c = 45) (hb : ax (c :: l)) (hv : ar (c :: l) = 1) : ar l = 1 ∧ ax l := by
 have hs : c :: l ≠ [] := List.cons_ne_nil _ _
 have bl : ax l := fun x hx => hb x (zA _ hx)
 have S := af3 hb hv hs
 have d : drJ (c :: l) 0 = c ∧ dwJ (c :: l) 0 = 1 := ay5 (by omega) bl
 have hw : (Lib.decodeL (u8L (c :: l))).2 = 1 := by have := d.2; rw [avf] at this; omega
 have v2 := S.v2
 rw [hw] at v2
 exact ⟨v2, bl⟩
theorem ay6 : ∀ {d : List Int}, (∀ x ∈ d, 48 ≤ x ∧ x ≤ 57) → jl d = []
 | [], _ => rfl
 | x :: l, h => by
   have h1 := h x (List.mem_cons_self ..)
   unfold jl vd
   rw [List.dropWhile_cons, if_pos (decide_eq_true h1)]
   exact ay6 fun y hy => h y (zA _ hy)
theorem a9n {s : List Int} (hb : ax s) (hv : ar s = 1) (hn : ¬ abt s = 1) : abu s = 0 := by
 apply Classical.byContradiction
 intro hk
 apply hn
 unfold abu atq at hk
 by_cases hc : ew s = [] ∨ (s.length : Int) - ((ew s).length : Int) > 1
 ·rw [if_pos hc] at hk; exact absurd rfl hk
 rw [if_neg hc] at hk
 have key : aok s = ew s ∧ ar (ew s) = 1 ∧ ax (ew s) := by
  cases s with
  | nil => exact ⟨rfl, hv, hb⟩
  | cons c l =>
    by_cases h1 : c = 43 ∨ c = 45
    ·obtain ⟨v2, b2⟩ := bak h1 hb hv
     have e : ew (c :: l) = ew l := by rw [ng, if_pos h1]
     have es : aok (c :: l) = l := if_pos h1
     rw [e] at hc ⊢
     have hl : ew l = l := by
      cases l with
      | nil => rfl
      | cons c2 l2 =>
        rw [ng]
        split
        ·rename_i h2
         have := aou l2
         rw [ng, if_pos h2] at hc
         simp only [zO] at hc
         omega
        ·rfl
     rw [hl, es]
     exact ⟨rfl, v2, b2⟩
    ·have e : ew (c :: l) = c :: l := by rw [ng, if_neg h1]
     have es : aok (c :: l) = c :: l := if_neg h1
     rw [e, es]
     exact ⟨rfl, hv, hb⟩
 obtain ⟨k1, k2, k3⟩ := key
 have hd := ai0 _ (ew s) [] _ _ _ (zY _) k3 k2 hk
 have hne : ew s ≠ [] := fun h => hc (.inl h)
 unfold abt
 have r0 : ez (ew s) = [] := by
  unfold ez
  rw [show ((ew s).reverse.dropWhile vd) = [] from ay6 fun x hx => hd x (List.mem_reverse.1 hx)]
  rfl
 rw [k1, r0, if_pos ⟨hne, rfl⟩]
structure SymQ (s : List Int) : Prop where
 v : ar (bp s) = 1
 b : ((bp s).length : Int) ≤ 2 * (s.length : Int) + 1
 n : 1 ≤ ((ae (bp s) 0).length : Int)
 c1 : ¬ jo ((ae (bp s) 0).getD 0 0) = 1
 c2 : ¬ (ae (bp s) 0).getD 0 0 = 63
 c3 : ¬ (ae (bp s) 0).getD 0 0 = 35
 sk : ao (ae (bp s) 0) 0 0 = 0
 tk : ∃ q, cu (ae (bp s) 0) 0 [] 0 = ⟨0, ((ae (bp s) 0).length : Int), s, q⟩ ∧ aac s q = 1
 V : ar (40 :: (bp s ++ [41])) = 1
 D : ae (40 :: (bp s ++ [41])) 0 = 40 :: (ae (bp s) 0 ++ [41])
 TK : ∃ q, cu (40 :: (ae (bp s) 0 ++ [41])) 1 [] 0 = ⟨0, 1 + ((ae (bp s) 0).length : Int), s, q⟩ ∧ aac s q = 1
 e0 : (40 :: (ae (bp s) 0 ++ [41])).getD 1 0 = (ae (bp s) 0).getD 0 0
 e1 : (40 :: (ae (bp s) 0 ++ [41])).getD (1 + ((ae (bp s) 0).length : Int)).toNat 0 = 41
 s1 : ao (40 :: (ae (bp s) 0 ++ [41])) 1 0 = 1
 s2 : ao (40 :: (ae (bp s) 0 ++ [41])) (1 + ((ae (bp s) 0).length : Int)) 0 = 1 + ((ae (bp s) 0).length : Int)
theorem bdv {c : Int} (h : ¬ jo c = 1) : ¬ c = 59 ∧ ¬ ac1 c = 1 := by
 unfold jo at h
 split at h
 ·exact absurd rfl h
 ·rename_i hc
  exact ⟨fun e => hc (by simp [e]), fun e => hc (by simp [e])⟩
theorem aol {R : List Int} {p : Nat} (hp : p < R.length) (h : ¬ R.getD p 0 = 59 ∧ ¬ ac1 (R.getD p 0) = 1) : ao R (p : Int) 0 = (p : Int) := by
 have e : R.getD ((p : Int)).toNat 0 = R.getD p 0 := by rw [show ((p : Int)).toNat = p by omega]
 rw [ao, dif_pos (by omega), if_neg (by decide), e, if_neg h.1, if_neg h.2]
theorem du {s : List Int} (hb : ax s) (hv : ar s = 1) (hs : s ≠ []) : SymQ s := by
 obtain ⟨⟨a1, a2⟩, a3, a4⟩ := ajd _ s (zY _) hb hv
 have S := af3 hb hv hs
 have n0 : ax [] := fun x hx => (zH hx).elim
 have q41 : Asc [41] := fun x hx => by rw [List.mem_singleton.1 hx]; omega
 have q40 : Asc [40] := fun x hx => by rw [List.mem_singleton.1 hx]; omega
 have q92 : Asc [92] := fun x hx => by rw [List.mem_singleton.1 hx]; omega
 obtain ⟨c0, c1, c2⟩ := aat [41] q41 n0
 have z : ae [] 0 = [] := rfl
 rw [List.append_nil] at c0 c1 c2
 rw [z, List.append_nil] at c1
 have C0 : ae s 0 = drJ s 0 :: ae (s.drop (Lib.decodeL (u8L s)).2) 0 := ir hs
 have main : ∃ F : List Int, (F = [] ∨ F = [92]) ∧ bp s = F ++ kk 1 s 0 ∧ (∀ t, ax t → ax (bp s ++ t) ∧ ae (bp s ++ t) 0 = F ++ (jt (ae s 0) ++ ae t 0) ∧ (ar t = 1 → ar (bp s ++ t) = 1)) ∧
   (F = [] → s ≠ [46] ∧ ¬ abt s = 1 ∧ s.headD 0 ≠ 63 ∧ s.headD 0 ≠ 35) ∧ (F = [92] → ul 1 (drJ s 0) ≠ 1) := by
  by_cases hf : s = [46] ∨ abt s = 1 ∨ s.headD 0 = 63 ∨ s.headD 0 = 35 ∨ s.headD 0 = 64
  ·have e : bp s = [92] ++ kk 1 s 0 := if_pos hf
   refine ⟨[92], .inr rfl, e, fun t ht => ?_, fun h => absurd h (by simp), fun _ => ?_⟩
   ·obtain ⟨j0, j1, j2⟩ := a3 t ht
    obtain ⟨d0, d1, d2⟩ := aat [92] q92 j0
    rw [e, List.append_assoc]
    exact ⟨d0, by rw [d1, j1], fun h => d2 (j2 h)⟩
   ·
    have hd : 33 ≤ s.headD 0 ∧ s.headD 0 < 128 ∧ ¬ jo (s.headD 0) = 1 ∧ s.headD 0 ≠ 92 := by
     rcases hf with h | h | h | h | h
     ·subst h; decide
     ·cases s with
      | nil => exact absurd rfl hs
      | cons c l =>
        show 33 ≤ c ∧ c < 128 ∧ ¬ jo c = 1 ∧ c ≠ 92
        by_cases h1 : c = 43 ∨ c = 45
        ·rcases h1 with rfl | rfl <;> decide
        ·have es : aok (c :: l) = c :: l := if_neg h1
         unfold abt at h
         rw [es] at h
         have h2 : jl (ez (c :: l)) = [] := by
          apply Classical.byContradiction
          intro hne
          rw [if_neg (fun q => hne q.2)] at h
          exact absurd h (by decide)
         have hcd : vd c = true := a9p h2
         have hcd : 48 ≤ c ∧ c ≤ 57 := of_decide_eq_true hcd
         exact ⟨by omega, by omega, fun h => (ay3 h).2 hcd, by omega⟩
     ·rw [h]; decide
     ·rw [h]; decide
     ·rw [h]; decide
    have hdr : drJ s 0 = s.headD 0 := by
     cases s with
     | nil => exact absurd rfl hs
     | cons c l => exact (ay5 (show 0 ≤ c ∧ c < 128 from ⟨by have := hd.1; show 0 ≤ c; simp only [List.headD_cons] at this; omega, hd.2.1⟩) (fun x hx => hb x (zA _ hx))).1
    rw [hdr]
    intro h
    rcases (awk _).1 h with h | h
    ·exact hd.2.2.2 h
    ·exact hd.2.2.1 h
  ·have e : bp s = [] ++ kk 1 s 0 := if_neg hf
   refine ⟨[], .inl rfl, e, fun t ht => ?_, fun _ => ⟨fun h => hf (.inl h), fun h => hf (.inr (.inl h)), fun h => hf (.inr (.inr (.inl h))), fun h => hf (.inr (.inr (.inr (.inl h))))⟩, fun h => absurd h (by simp)⟩
   rw [e]
   exact a3 t ht
 obtain ⟨F, hF, eF, m3, m4, m5⟩ := main
 obtain ⟨x0, x1, x2⟩ := m3 [] n0
 rw [List.append_nil] at x0 x1 x2
 rw [z, List.append_nil] at x1
 obtain ⟨y0, y1, y2⟩ := m3 [41] c0
 rw [c1] at y1
 obtain ⟨w0, w1, w2⟩ := aat [40] q40 y0
 have hfirst : ∃ c R, ae (bp s) 0 = c :: R ∧ ¬ jo c = 1 ∧ c ≠ 63 ∧ c ≠ 35 := by
  rcases hF with rfl | rfl
  ·obtain ⟨m6, m7, m8, m9⟩ := m4 rfl
   rw [x1, C0, yb, zD]
   by_cases hk : ul 1 (drJ s 0) = 1
   ·rw [if_pos hk]
    exact ⟨92, _, rfl, by decide, by decide, by decide⟩
   ·rw [if_neg hk]
    have g : ∀ k : Int, 0 ≤ k → k < 128 → s.headD 0 ≠ k → drJ s 0 ≠ k := by
     intro k k0 k1 hne e
     have et := S.et
     rw [e, vu (by omega)] at et
     apply hne
     cases s with
     | nil => exact absurd rfl hs
     | cons c l =>
       have hw := S.w1
       obtain ⟨w, hw⟩ : ∃ w, (Lib.decodeL (u8L (c :: l))).2 = w + 1 := ⟨(Lib.decodeL (u8L (c :: l))).2 - 1, by omega⟩
       rw [hw, List.take_succ_cons] at et
       injection et with e1 _
       exact e1.symm
    exact ⟨drJ s 0, _, rfl, fun h => hk ((awk _).2 (.inr h)), g 63 (by decide) (by decide) m8, g 35 (by decide) (by decide) m9⟩
  ·rw [x1]
   exact ⟨92, _, rfl, by decide, by decide, by decide⟩
 have htok : ∀ (A Q : List Int), (Q = [] ∨ ∃ d Q', Q = d :: Q' ∧ jo d = 1) → ∃ q, cu (A ++ (ae (bp s) 0 ++ Q)) (A.length : Int) [] 0 = ⟨0, (A.length : Int) + ((ae (bp s) 0).length : Int), s, q⟩ ∧ aac s q = 1 := by
  intro A Q hQ
  rw [x1]
  rcases hF with rfl | rfl
  ·have t := af5 Q hQ (ae s 0) A [] 0
   rw [zD, a1] at t
   rw [zD]
   refine ⟨_, t, ?_⟩
   obtain ⟨m6, m7, _, _⟩ := m4 rfl
   unfold aac
   exact if_pos (.inr ⟨a9n hb hv m7, m6⟩)
  ·have hk := m5 rfl
   have h0 : ¬ jo (drJ s 0) = 1 := fun h => hk ((awk _).2 (.inr h))
   have h1 : ¬ drJ s 0 = 92 := fun h => hk ((awk _).2 (.inl h))
   have e1 : jt (ae s 0) = drJ s 0 :: jt (ae (s.drop (Lib.decodeL (u8L s)).2) 0) := by rw [C0, yb, if_neg hk]; rfl
   have t := af5 Q hQ (ae (s.drop (Lib.decodeL (u8L s)).2) 0) (A ++ [92, drJ s 0]) (dh (drJ s 0)) 1
   rw [ite_self] at t
   have eb : (A ++ [92, drJ s 0]) ++ (jt (ae (s.drop (Lib.decodeL (u8L s)).2) 0) ++ Q) = A ++ (([92] ++ jt (ae s 0)) ++ Q) := by rw [e1]; simp
   have el : (((A ++ [92, drJ s 0]).length : Nat) : Int) = (A.length : Int) + 2 := by rw [zP]; rfl
   have ec : dh (drJ s 0) ++ (ae (s.drop (Lib.decodeL (u8L s)).2) 0).flatMap dh = s := by
    have := a1
    rw [C0, List.flatMap_cons] at this
    exact this
   rw [eb, el, ec] at t
   have g : (A ++ (([92] ++ jt (ae s 0)) ++ Q)).getD (A.length : Int).toNat 0 = 92 := ue A (jt (ae s 0) ++ Q) 92
   have g2 : (A ++ (([92] ++ jt (ae s 0)) ++ Q)).getD ((A.length : Int) + 1).toNat 0 = drJ s 0 := by
    have := ue (A ++ [92]) (jt (ae (s.drop (Lib.decodeL (u8L s)).2) 0) ++ Q) (drJ s 0)
    have el1 : (((A ++ [92]).length : Nat) : Int) = (A.length : Int) + 1 := by rw [zP]; rfl
    rw [el1] at this
    rw [e1]
    simpa using this
   have hlen : (A.length : Int) + 1 < (((A ++ (([92] ++ jt (ae s 0)) ++ Q)).length : Nat) : Int) := by rw [e1]; simp only [zP, zO, zS]; omega
   refine ⟨1, ?_, by unfold aac; exact if_pos (.inl rfl)⟩
   rw [cu, dif_pos (by omega), g, bhz, if_neg (by decide), if_pos rfl, if_pos hlen, g2, zD, t, e1]
   congr 1
   simp only [zP, zO, zS]
   omega
 obtain ⟨c, R, hR, r1, r2, r3⟩ := hfirst
 have g0 : (ae (bp s) 0).getD 0 0 = c := by rw [hR]; rfl
 have hn := bdv r1
 have y1' : ae (bp s ++ [41]) 0 = ae (bp s) 0 ++ [41] := by rw [y1, x1, List.append_assoc]
 have g1 : (40 :: (ae (bp s) 0 ++ [41])).getD 1 0 = (ae (bp s) 0).getD 0 0 := by rw [hR]; rfl
 have ge : (40 :: (ae (bp s) 0 ++ [41])).getD (1 + (ae (bp s) 0).length) 0 = 41 := by
  have := ue (40 :: ae (bp s) 0) [] 41
  rw [show (((40 :: ae (bp s) 0).length : Nat) : Int).toNat = 1 + (ae (bp s) 0).length by simp only [zO]; omega] at this
  exact this
 have et : (1 + ((ae (bp s) 0).length : Int)).toNat = 1 + (ae (bp s) 0).length := by omega
 refine ⟨x2 rfl, ?_, ?_, ?_, ?_, ?_, ?_, ?_, w2 (y2 (c2 rfl)), ?_, ?_, g1, ?_, ?_, ?_⟩
 ·rw [eF]
  rcases hF with rfl | rfl
  ·rw [zD]; omega
  ·rw [zP, List.length_singleton]; omega
 ·rw [hR, zO]; omega
 ·rw [g0]; exact r1
 ·rw [g0]; exact r2
 ·rw [g0]; exact r3
 ·exact aol (p := 0) (by rw [hR, zO]; omega) (by rw [g0]; exact hn)
 ·have t := htok [] [] (.inl rfl)
  rw [List.append_nil, zD] at t
  have e : (([] : List Int).length : Int) = 0 := rfl
  rw [e, Int.zero_add] at t
  exact t
 ·show ae ([40] ++ (bp s ++ [41])) 0 = _
  rw [w1, y1']; rfl
 ·have t := htok [40] [41] (.inr ⟨41, [], rfl, by decide⟩)
  exact t
 ·rw [et]; exact ge
 ·exact aol (p := 1) (by simp only [zO, zP, zS]; omega) (by rw [g1, g0]; exact hn)
 ·have := aol (R := 40 :: (ae (bp s) 0 ++ [41])) (p := 1 + (ae (bp s) 0).length) (by simp only [zO, zP, zS]; omega) (by rw [ge]; decide)
  rw [show ((1 + (ae (bp s) 0).length : Nat) : Int) = 1 + ((ae (bp s) 0).length : Int) by omega] at this
  exact this
theorem SymQ.t1 {s : List Int} (Q : SymQ s) : (cu (ae (bp s) 0) 0 [] 0).f = 0 ∧ (cu (ae (bp s) 0) 0 [] 0).p = ((ae (bp s) 0).length : Int) ∧ (cu (ae (bp s) 0) 0 [] 0).b = s ∧ aac s (cu (ae (bp s) 0) 0 [] 0).q = 1 := by
 obtain ⟨q, e, h⟩ := Q.tk; rw [e]; exact ⟨rfl, rfl, rfl, h⟩
theorem SymQ.T1 {s : List Int} (Q : SymQ s) : (cu (40 :: (ae (bp s) 0 ++ [41])) 1 [] 0).f = 0 ∧ (cu (40 :: (ae (bp s) 0 ++ [41])) 1 [] 0).p = 1 + ((ae (bp s) 0).length : Int) ∧ (cu (40 :: (ae (bp s) 0 ++ [41])) 1 [] 0).b = s ∧ aac s (cu (40 :: (ae (bp s) 0 ++ [41])) 1 [] 0).q = 1 := by
 obtain ⟨q, e, h⟩ := Q.TK; rw [e]; exact ⟨rfl, rfl, rfl, h⟩
theorem als (G s : List Int) (n : Int) : tg (n :: (s.length : Int) :: (s ++ G)) = tg G ++ [(s, n)] := by
 unfold tg
 have e : wj (n :: (s.length : Int) :: (s ++ G)).length (n :: (s.length : Int) :: (s ++ G)) = ((s ++ G).take (s.length : Int).toNat, n) :: wj ((s ++ G).length + 1) ((s ++ G).drop (s.length : Int).toNat) := rfl
 rw [e, Int.toNat_natCast, List.drop_left, List.take_left, List.reverse_cons, zv ((s ++ G).length + 1) G.length G (by simp; omega) (zY _)]
theorem ais {s : List Int} {n : Int} : ∀ {l : List (List Int × Int)}, l.lookup s = none → (l ++ [(s, n)]).lookup s = some n
 | [], _ => by simp [List.lookup]
 | (a, b) :: l, h => by
   rw [List.lookup_cons] at h
   rw [zJ, List.lookup_cons]
   split at h
   ·cases h
   ·exact ais h
theorem bec {G s : List Int} (hv : ar s = 1) (hl : (s.length : Int) ≤ 1000) (hn : ¬ yu G s = 1) : fe (62 :: (s.length : Int) :: (s ++ G)) s = ⟨0, 62, 62 :: (s.length : Int) :: (s ++ G)⟩ := by
 have hu := au9 s _ 0 (zY _) (Int.le_refl _)
 have h0 : (tg G).lookup s = none := by
  unfold yu at hn
  cases h : (tg G).lookup s with
  | none => rfl
  | some x => rw [h] at hn; exact absurd rfl hn
 have h1 : yu (62 :: (s.length : Int) :: (s ++ G)) s = 1 := by unfold yu; rw [als, ais h0]; rfl
 have h2 : a4n (62 :: (s.length : Int) :: (s ++ G)) s = 62 := by unfold a4n; rw [als, ais h0]; rfl
 rw [lj, hv, if_neg (by decide), if_neg (by omega), if_pos h1, h2]
end Go.Ev
