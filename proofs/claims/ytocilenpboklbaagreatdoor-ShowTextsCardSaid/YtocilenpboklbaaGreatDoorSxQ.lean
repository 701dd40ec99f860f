import Derived.Test.YtocilenpboklbaaGreatDoorSxP
set_option maxRecDepth 100000
set_option linter.all false
namespace Go.Ev
theorem ajz : ∀ (n : Nat) (s : List Int), s.length ≤ n → ay s → bj s = 1 → (l9 0 s 0).length ≤ 2 * s.length
 | 0, s, h, hb, hv => by
   obtain rfl : s = [] := List.length_eq_zero_iff.1 (by omega)
   have e : l9 0 [] 0 = [] := by rw [oa, if_neg (by decide)]
   rw [e]; exact zY _
 | n + 1, s, h, hb, hv => by
   by_cases hs : s = []
   ·exact ajz n s (by rw [hs]; exact Nat.zero_le _) hb hv
   have hl : 0 < s.length := List.length_pos_iff.2 hs
   obtain ⟨v1, v2⟩ := (qq hs).1 hv
   have hle := Lib.decodeL_le (u8L s) (by simpa [u8L] using hs)
   rw [aeq] at hle
   have hw1 : 1 ≤ (Lib.decodeL (u8L s)).2 := by
    have hb2 := afn (σ := fun i => if i = 0 then s else [0]) (.s 0) (.v 1) (Int.le_refl 0) (show (0 : Int) < (s.length : Int) by omega)
    have : 1 ≤ dwJ s 0 := hb2.1
    rw [a5q] at this; omega
   have i := ajz n (s.drop (Lib.decodeL (u8L s)).2) (by rw [List.length_drop]; omega) (az9 hb _) v2
   have et : (c9 (drJ s 0)).length = (Lib.decodeL (u8L s)).2 := by rw [ata hb hs v1, List.length_take]; omega
   rw [List.length_drop] at i
   rw [auz hs]
   split
   ·rw [zO, zP, et]; omega
   ·rw [zP, et]; omega
structure LitQ (s : List Int) : Prop where
 v : bj (34 :: (l9 0 s 0 ++ [34])) = 1
 d : ak (34 :: (l9 0 s 0 ++ [34])) 0 = 34 :: (jh (ak s 0) ++ [34])
 t : jp (34 :: (jh (ak s 0) ++ [34])) 1 [] = ⟨0, 0, s, 2 + ((jh (ak s 0)).length : Int)⟩
 b : ((l9 0 s 0).length : Int) ≤ 2 * (s.length : Int)
 x0 : (n8 [3, 0, 0] s).f = 0
 x1 : (n8 [3, 1, vt s 0] s).f = 0
theorem rn {s : List Int} (hb : ay s) (hv : bj s = 1) (hl : (s.length : Int) ≤ 1000) : LitQ s := by
 obtain ⟨⟨a1, a2⟩, a3⟩ := ao4 _ s (zY _) hb hv
 have q : Asc [34] := fun x hx => by rw [List.mem_singleton.1 hx]; omega
 have n0 : ay [] := fun x hx => (zH hx).elim
 obtain ⟨c0, c1, c2⟩ := aa2 [34] q n0
 have z : ak [] 0 = [] := rfl
 rw [List.append_nil] at c0 c1 c2
 rw [z] at c1
 obtain ⟨d0, d1, d2⟩ := a3 [34] c0
 obtain ⟨e0, e1, e2⟩ := aa2 [34] q d0
 rw [c1, List.append_nil] at d1
 rw [d1] at e1
 have hu := av9 s _ 0 (zY _) (Int.le_refl _)
 have h2 := ajz _ s (zY _) hb hv
 refine ⟨e2 (d2 (c2 rfl)), e1, ?_, by omega, ?_, ?_⟩
 ·rcases apj [34] (ak s 0) [34] [] with t | ⟨c, hc, hn⟩
  ·rw [zD, a1] at t
   have t : jp (34 :: (jh (ak s 0) ++ [34])) 1 [] = jp (34 :: (jh (ak s 0) ++ [34])) (1 + ((jh (ak s 0)).length : Int)) s := t
   have g := abv (34 :: jh (ak s 0)) [] 34
   have el : (((34 :: jh (ak s 0)).length : Nat) : Int) = 1 + ((jh (ak s 0)).length : Int) := by rw [zO]; omega
   rw [el] at g
   have g : (34 :: (jh (ak s 0) ++ [34])).getD (1 + ((jh (ak s 0)).length : Int)).toNat 0 = 34 := g
   rw [t, jp, dif_pos (by rw [zO, zP, List.length_singleton]; omega), g, if_pos rfl]
   congr 1; omega
  ·exact absurd (a2 c hc) hn
 ·rw [td, hv, if_neg (by decide), if_neg (by omega), evH.1, if_neg (by omega)]
 ·rw [td, hv, if_neg (by decide), if_neg (by omega), evH.2, if_neg (by omega)]
end Go.Ev
