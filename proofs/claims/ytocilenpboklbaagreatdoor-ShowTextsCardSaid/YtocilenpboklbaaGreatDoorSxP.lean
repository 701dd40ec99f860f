import Derived.Test.YtocilenpboklbaaGreatDoorSxD
import Derived.Test.YtocilenpboklbaaGreatDoorRcP
set_option maxRecDepth 100000
set_option linter.all false
namespace Go.Ev
def jh (R : List Int) : List Int := R.flatMap fun c => if acf 0 c = 1 then [92, c] else [c]
theorem as8 (s : List Int) (p : Nat) (q : Int) (h : 0 ≤ q) : drJ s ((p : Int) + q) = drJ (s.drop p) q ∧ dwJ s ((p : Int) + q) = dwJ (s.drop p) q := by
 have e : ((p : Int) + q).toNat = p + q.toNat := by omega
 have d := as6 s p q.toNat
 unfold drJ dwJ
 rw [e]
 exact ⟨congrArg (fun x => ((x.1 : Nat) : Int)) d, congrArg (fun x => ((x.2 : Nat) : Int)) d⟩
theorem amz (k : Int) (s : List Int) (p : Nat) : ∀ (n : Nat) (q : Int), ((s.length : Int) - p - q).toNat ≤ n → 0 ≤ q → l9 k s ((p : Int) + q) = l9 k (s.drop p) q
 | 0, q, h, h0 => by rw [oa, oa k (s.drop p), if_neg (by omega), if_neg (by rw [List.length_drop]; omega)]
 | n + 1, q, h, h0 => by
   obtain ⟨e1, e2⟩ := as8 s p q h0
   rw [oa, oa k (s.drop p), e1, e2]
   have c2 : q < ((s.drop p).length : Int) ↔ (p : Int) + q < (s.length : Int) := by rw [List.length_drop]; omega
   by_cases hl : (p : Int) + q < (s.length : Int)
   ·by_cases hw : 0 < dwJ (s.drop p) q
    ·have i := amz k s p n (q + dwJ (s.drop p) q) (by omega) (by omega)
     rw [if_pos hl, if_pos hw, if_pos (c2.2 hl), if_pos hw, Int.add_assoc, i]
    ·rw [if_pos hl, if_neg hw, if_pos (c2.2 hl), if_neg hw]
   ·rw [if_neg hl, if_neg (fun h => hl (c2.1 h))]
theorem auz {s : List Int} (hs : s ≠ []) (k : Int) : l9 k s 0 = if acf k (drJ s 0) = 1 then 92 :: (c9 (drJ s 0) ++ l9 k (s.drop (Lib.decodeL (u8L s)).2) 0) else c9 (drJ s 0) ++ l9 k (s.drop (Lib.decodeL (u8L s)).2) 0 := by
 have hl : 0 < (s.length : Int) := by
  have := List.length_pos_iff.2 hs
  omega
 have hb := afn (σ := fun i => if i = 0 then s else [0]) (.s 0) (.v 1) (Int.le_refl 0) hl
 have hw : 1 ≤ dwJ s 0 := hb.1
 have e := amz k s (Lib.decodeL (u8L s)).2 _ 0 (zY _) (Int.le_refl 0)
 rw [← a5q s] at e
 rw [oa, if_pos hl, if_pos (by omega), Int.zero_add]
 rw [Int.add_zero] at e
 rw [e]
theorem bbr : ∀ c : Int, acf 0 c = 1 ↔ c = 92 ∨ c = 34 := fun c => by
 unfold acf
 by_cases h1 : c = 92
 ·simp [h1]
 ·by_cases h2 : c = 34
  ·simp [h2]
  ·simp [h1, h2]
theorem ao4 : ∀ (n : Nat) (s : List Int), s.length ≤ n → ay s → bj s = 1 → ((ak s 0).flatMap c9 = s ∧ ∀ c ∈ ak s 0, isC c) ∧
  ∀ t : List Int, ay t → ay (l9 0 s 0 ++ t) ∧ ak (l9 0 s 0 ++ t) 0 = jh (ak s 0) ++ ak t 0 ∧ (bj t = 1 → bj (l9 0 s 0 ++ t) = 1)
 | 0, s, h, hb, hv => by
   obtain rfl : s = [] := List.length_eq_zero_iff.1 (by omega)
   have e : l9 0 [] 0 = [] := by rw [oa, if_neg (by decide)]
   rw [e]
   exact ⟨⟨rfl, fun c h => (zH h).elim⟩, fun t ht => ⟨ht, rfl, id⟩⟩
 | n + 1, s, h, hb, hv => by
   by_cases hs : s = []
   ·exact ao4 n s (by rw [hs]; exact Nat.zero_le _) hb hv
   have hl : 0 < s.length := List.length_pos_iff.2 hs
   obtain ⟨v1, v2⟩ := (qq hs).1 hv
   have hw := Lib.decodeL_width (u8L s)
   have hle := Lib.decodeL_le (u8L s) (by simpa [u8L] using hs)
   rw [aeq] at hle
   have hc : isC (drJ s 0) := by
    have := aap _ s (zY _) hv (drJ s 0) (by rw [jt hs]; exact List.mem_cons_self ..)
    exact ⟨this.1, by omega, this.2.2⟩
   have hw1 : 1 ≤ (Lib.decodeL (u8L s)).2 := by
    have hb2 := afn (σ := fun i => if i = 0 then s else [0]) (.s 0) (.v 1) (Int.le_refl 0) (show (0 : Int) < (s.length : Int) by omega)
    have : 1 ≤ dwJ s 0 := hb2.1
    rw [a5q] at this; omega
   obtain ⟨⟨i1, i2⟩, i3⟩ := ao4 n (s.drop (Lib.decodeL (u8L s)).2) (by rw [List.length_drop]; omega) (az9 hb _) v2
   have et := ata hb hs v1
   refine ⟨⟨?_, ?_⟩, fun t ht => ?_⟩
   ·rw [jt hs, List.flatMap_cons, i1, et, List.take_append_drop]
   ·rw [jt hs]
    intro c h
    rcases List.mem_cons.1 h with rfl | h
    ·exact hc
    ·exact i2 c h
   ·obtain ⟨j0, j1, j2⟩ := i3 t ht
    obtain ⟨a1, a2⟩ := azj hc j0
    have b0 := aw6 (azi _ hc) j0
    have er : jh (ak s 0) = (if acf 0 (drJ s 0) = 1 then [92, drJ s 0] else [drJ s 0]) ++ jh (ak (s.drop (Lib.decodeL (u8L s)).2) 0) := by
     rw [jt hs]; rfl
    rw [auz hs, er]
    by_cases hk : acf 0 (drJ s 0) = 1
    ·rw [if_pos hk, if_pos hk]
     obtain ⟨c0, c1, c2⟩ := aa2 [92] (fun x hx => by rw [List.mem_singleton.1 hx]; omega) b0
     have e : 92 :: (c9 (drJ s 0) ++ l9 0 (s.drop (Lib.decodeL (u8L s)).2) 0) ++ t = [92] ++ (c9 (drJ s 0) ++ (l9 0 (s.drop (Lib.decodeL (u8L s)).2) 0 ++ t)) := by simp
     rw [e]
     refine ⟨c0, ?_, fun h => c2 (a2 (j2 h))⟩
     rw [c1, a1, j1]; simp
    ·rw [if_neg hk, if_neg hk, List.append_assoc]
     refine ⟨b0, ?_, fun h => a2 (j2 h)⟩
     rw [a1, j1]; simp
theorem apj (X : List Int) : ∀ (R A b : List Int),
  jp (A ++ (jh R ++ X)) (A.length : Int) b = jp (A ++ (jh R ++ X)) ((A.length : Int) + ((jh R).length : Int)) (b ++ R.flatMap c9) ∨ ∃ c ∈ R, ¬ isC c
 | [], A, b => by left; show _ = jp _ ((A.length : Int) + 0) (b ++ []); rw [Int.add_zero, List.append_nil]
 | c :: R, A, b => by
   by_cases hc : isC c
   rotate_left
   ·exact .inr ⟨c, List.mem_cons_self .., hc⟩
   by_cases hk : acf 0 c = 1
   ·have e1 : jh (c :: R) = [92, c] ++ jh R := by show (if acf 0 c = 1 then [92, c] else [c]) ++ jh R = _; rw [if_pos hk]
    rcases apj X R (A ++ [92, c]) (b ++ c9 c) with i | ⟨d, hd, h⟩
    rotate_left
    ·exact .inr ⟨d, zA _ hd, h⟩
    left
    have eb : (A ++ [92, c]) ++ (jh R ++ X) = A ++ (jh (c :: R) ++ X) := by rw [e1]; simp
    have el : (((A ++ [92, c]).length : Nat) : Int) = (A.length : Int) + 2 := by rw [zP]; rfl
    rw [eb, el] at i
    have g : (A ++ (jh (c :: R) ++ X)).getD (A.length : Int).toNat 0 = 92 := by rw [e1]; exact abv A (c :: (jh R ++ X)) 92
    have g2 : (A ++ (jh (c :: R) ++ X)).getD ((A.length : Int) + 1).toNat 0 = c := by
     have := abv (A ++ [92]) (jh R ++ X) c
     have el1 : (((A ++ [92]).length : Nat) : Int) = (A.length : Int) + 1 := by rw [zP]; rfl
     rw [el1] at this
     rw [e1]
     simpa using this
    have hlen : (A.length : Int) + 1 < (((A ++ (jh (c :: R) ++ X)).length : Nat) : Int) := by rw [e1]; simp only [zP, zO, zS]; omega
    have he : jc (A ++ (jh (c :: R) ++ X)) ((A.length : Int) + 1) = ⟨0, 0, c, (A.length : Int) + 1 + 1⟩ := by
     unfold jc
     rw [if_pos hlen, g2]
     rcases (bbr c).1 hk with h | h
     ·rw [if_neg (by omega), if_pos (by omega)]
     ·rw [if_neg (by omega), if_pos (by omega)]
    conv => lhs; rw [jp]
    rw [dif_pos (by omega), g, if_neg (by omega), if_pos rfl, he]
    dsimp only
    rw [if_pos rfl, dif_pos (by omega), if_neg (by have := hc.1; omega), show (A.length : Int) + 1 + 1 = (A.length : Int) + 2 by omega, i, e1, zP, List.flatMap_cons, List.append_assoc b]
    congr 1
    show _ = (A.length : Int) + ((2 + (jh R).length : Nat) : Int)
    omega
   ·have e1 : jh (c :: R) = [c] ++ jh R := by show (if acf 0 c = 1 then [92, c] else [c]) ++ jh R = _; rw [if_neg hk]
    rcases apj X R (A ++ [c]) (b ++ c9 c) with i | ⟨d, hd, h⟩
    rotate_left
    ·exact .inr ⟨d, zA _ hd, h⟩
    left
    have s := bcp A (jh R ++ X) b c (fun h => hk ((bbr c).2 h.symm))
    have eb : (A ++ [c]) ++ (jh R ++ X) = A ++ (jh (c :: R) ++ X) := by rw [e1]; simp
    have ea : A ++ ([c] ++ (jh R ++ X)) = A ++ (jh (c :: R) ++ X) := by rw [e1]; simp
    have el : (((A ++ [c]).length : Nat) : Int) = (A.length : Int) + 1 := by rw [zP]; rfl
    rw [eb, el] at i
    rw [ea] at s
    rw [s]
    show jp _ ((A.length : Int) + 1) _ = _
    rw [i, e1, zP, List.flatMap_cons, List.append_assoc b]
    congr 1
    show _ = (A.length : Int) + ((1 + (jh R).length : Nat) : Int)
    omega
end Go.Ev
