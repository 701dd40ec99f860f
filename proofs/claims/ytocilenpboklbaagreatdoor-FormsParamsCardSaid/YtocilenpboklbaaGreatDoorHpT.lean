import Derived.Test.YtocilenpboklbaaGreatDoorHpR
set_option maxRecDepth 100000
set_option linter.all false
namespace Go.Ev
theorem bea {l r : List Int} (h : od l) {n : Int} (hn : n < co l) : obL (ua l r) n = obL l n := by
 unfold obL
 rw [uz h]
 split
 ·rename_i h0
  have : n.toNat < (recs l.tail).length := by
   have : n < ((recs l.tail).length : Int) := hn
   omega
  rw [List.getD_eq_getElem?_getD, List.getD_eq_getElem?_getD, List.getElem?_append_left this]
 ·rfl
theorem a1w {l r : List Int} (h : od l) : obL (ua l r) (co l) = r := by
 unfold obL co
 rw [if_pos (Int.natCast_nonneg _), uz h, Int.toNat_natCast, List.getD_eq_getElem?_getD, List.getElem?_append_right (zY _), Nat.sub_self]; rfl
theorem bdg {l r : List Int} (h : od l) {k n : Int} (hl : pf l k n = 1) : pf (ua l r) k n = 1 ∧ n < co l ∧ 0 ≤ n := by
 unfold pf at hl
 split at hl
 ·rename_i hc
  have hn : n < co l := hc.2.1
  refine ⟨?_, hn, hc.1⟩
  unfold pf
  rw [if_pos]
  refine ⟨hc.1, ?_, ?_⟩
  ·rw [uz h, zP]
   have := hc.2.1
   show n < (((recs l.tail).length + 1 : Nat) : Int); omega
  ·rw [bea h hn]; exact hc.2.2
 ·cases hl
theorem a1o {l r : List Int} (h : od l) : ∀ (f : Nat) (k n : Int) (w : List Int), mr f l k n = some w → mr f (ua l r) k n = some w
 | 0, _, _, _, e => by simp [mr] at e
 | f + 1, k, n, w, e => by
   unfold mr at e ⊢
   split at e
   ·rename_i hc
    obtain ⟨a, b, c⟩ := bdg (r := r) h hc.2
    rw [if_pos ⟨hc.1, a⟩, bea h b]
    cases hq : mr f l ((obL l n).getD 3 0) ((obL l n).getD 4 0) with
    | none => rw [hq] at e; cases e
    | some w' => rw [hq] at e; rw [a1o h f _ _ w' hq]; exact e
   ·rename_i hc
    split at e
    ·rename_i hd
     rw [if_neg (by rintro ⟨z, _⟩; omega), if_pos hd]; exact e
    ·cases e
theorem bdw (l : List Int) : co l = ((recs l.tail).length : Int) := rfl
theorem a0d (ws : List Int) : ∀ (i : Nat) (l : List Int) (k n : Int) (t : List Int), od l → co l + i ≤ l.getD (0 : Int).toNat 0 → 2 * i ≤ ws.length → mr ((recs l.tail).length + 1) l k n = some t →
  od (aba i l ws k n).l ∧ co (aba i l ws k n).l = co l + i ∧ (aba i l ws k n).l.getD (0 : Int).toNat 0 = l.getD (0 : Int).toNat 0 ∧ mr ((recs (aba i l ws k n).l.tail).length + 1) (aba i l ws k n).l (aba i l ws k n).k (aba i l ws k n).n = some (ws.take (2 * i) ++ t)
 | 0, l, k, n, t, h, hm, hw, e => ⟨h, by show co l = co l + ((0 : Nat) : Int); omega, rfl, by show mr _ l k n = _; rw [Nat.mul_zero, List.take_zero, zF]; exact e⟩
 | i + 1, l, k, n, t, h, hm, hw, e => by
   have hr : aa7 [2, ws.getD (2 * i) 0, ws.getD (2 * i + 1) 0, k, n] = 0 := rfl
   have h1 := ba8 h hr (by omega)
   have m1 := aui (r := [2, ws.getD (2 * i) 0, ws.getD (2 * i + 1) 0, k, n]) h
   have d1 := a22 (r := [2, ws.getD (2 * i) 0, ws.getD (2 * i + 1) 0, k, n]) h
   have e1 : mr ((recs (ua l [2, ws.getD (2 * i) 0, ws.getD (2 * i + 1) 0, k, n]).tail).length + 1) (ua l [2, ws.getD (2 * i) 0, ws.getD (2 * i + 1) 0, k, n]) 2 (co l) = some (ws.getD (2 * i) 0 :: ws.getD (2 * i + 1) 0 :: t) := by
    rw [uz h, zP]
    unfold mr
    rw [if_pos]
    ·rw [a1w h]
     have := a1o (r := [2, ws.getD (2 * i) 0, ws.getD (2 * i + 1) 0, k, n]) h _ _ _ _ e
     show Option.map _ (mr ((recs l.tail).length + 1) _ k n) = _
     rw [this]; rfl
    ·refine ⟨rfl, ?_⟩
     unfold pf
     rw [if_pos]
     refine ⟨Int.natCast_nonneg _, ?_, ?_⟩
     ·rw [uz h, zP, bdw]; show ((recs l.tail).length : Int) < (((recs l.tail).length + 1 : Nat) : Int); omega
     ·rw [a1w h]; rfl
   obtain ⟨a, b, c, d⟩ := a0d ws i _ 2 (co l) _ h1 (by rw [m1, d1]; omega) (by omega) e1
   refine ⟨a, by show co (aba i _ ws 2 (co l)).l = _; rw [b, m1]; omega, by show (aba i _ ws 2 (co l)).l.getD _ _ = _; rw [c, d1], ?_⟩
   show mr ((recs (aba i _ ws 2 (co l)).l.tail).length + 1) (aba i _ ws 2 (co l)).l (aba i _ ws 2 (co l)).k (aba i _ ws 2 (co l)).n = _
   rw [d]
   have g1 : ws.getD (2 * i) 0 = ws[2 * i]'(by omega) := by rw [List.getD_eq_getElem?_getD, zL (by omega)]; rfl
   have g2 : ws.getD (2 * i + 1) 0 = ws[2 * i + 1]'(by omega) := by rw [List.getD_eq_getElem?_getD, zL (by omega)]; rfl
   rw [show 2 * (i + 1) = 2 * i + 1 + 1 by omega, List.take_succ_eq_append_getElem (by omega), List.take_succ_eq_append_getElem (by omega), g1, g2, List.append_assoc, List.append_assoc]; rfl
theorem a1u {l ws : List Int} {i : Int} (h : od l) (h0 : 0 ≤ i) (hm : co l + i ≤ l.getD (0 : Int).toNat 0) (hw : (ws.length : Int) = 2 * i) :
  od (pq i l ws 1 0).l ∧ co (pq i l ws 1 0).l = co l + i ∧ (pq i l ws 1 0).l.getD (0 : Int).toNat 0 = l.getD (0 : Int).toNat 0 ∧ j7 (pq i l ws 1 0).l (pq i l ws 1 0).k (pq i l ws 1 0).n = i ∧ w8 (pq i l ws 1 0).l (pq i l ws 1 0).k (pq i l ws 1 0).n = ws := by
 obtain ⟨j, rfl⟩ : ∃ j : Nat, i = (j : Int) := ⟨i.toNat, by omega⟩
 have e : mr ((recs l.tail).length + 1) l 1 0 = some [] := by
  unfold mr
  rw [if_neg (by rintro ⟨z, _⟩; omega), if_pos ⟨rfl, rfl⟩]
 obtain ⟨a, b, c, d⟩ := a0d ws j l 1 0 [] h hm (by omega) e
 rw [List.append_nil, List.take_of_length_le (by omega)] at d
 unfold pq
 rw [Int.toNat_natCast]
 refine ⟨a, b, c, ?_, ?_⟩
 ·unfold j7; rw [d]; show (ws.length : Int) / 2 = _; omega
 ·unfold w8; rw [d]; rfl
theorem ak9 (b : Int) : ∀ i, (aga b i).length = 2 * i
 | 0 => rfl
 | i + 1 => by unfold aga; rw [zP, ak9 b i]; rfl
theorem pj {b i : Int} (h : 0 ≤ i) : ((fj b i).length : Int) = 2 * i := by unfold fj; rw [ak9]; omega
theorem atf {l t : List Int} {i m : Nat} (hl : l.length = m) (h : m ≤ i) : (l ++ t).getD i 0 = t.getD (i - m) 0 := by
 rw [List.getD_eq_getElem?_getD, List.getD_eq_getElem?_getD, List.getElem?_append_right (by omega), hl]
theorem avq (b : Int) : ∀ (i j : Nat) (t : List Int), j < i → (aga b i ++ t).getD (2 * j) 0 = 1 ∧ (aga b i ++ t).getD (2 * j + 1) 0 = b + j
 | 0, j, t, h => by omega
 | i + 1, j, t, h => by
   unfold aga
   rw [List.append_assoc]
   by_cases hj : j < i
   ·exact avq b i j _ hj
   ·obtain rfl : j = i := by omega
    have hl := ak9 b j
    rw [atf hl (zY _), atf hl (by omega), Nat.sub_self, show 2 * j + 1 - 2 * j = 1 by omega]
    exact ⟨rfl, rfl⟩
theorem avs {b i j : Int} (t : List Int) (h0 : 0 ≤ j) (h : j < i) : (fj b i ++ t).getD (2 * j).toNat 0 = 1 ∧ (fj b i ++ t).getD (2 * j + 1).toNat 0 = b + j := by
 obtain ⟨j', rfl⟩ : ∃ j' : Nat, j = (j' : Int) := ⟨j.toNat, by omega⟩
 have := avq b i.toNat j' t (by omega)
 rw [show (2 * (j' : Int)).toNat = 2 * j' by omega, show (2 * (j' : Int) + 1).toNat = 2 * j' + 1 by omega]
 exact this
theorem ya {b i : Int} (h : 0 ≤ i) : ((seqR b i).length : Int) = i := by unfold seqR; rw [List.length_map, List.length_range]; omega
theorem avm {b i : Int} (h : 0 ≤ i) : seqR b (i + 1) = seqR b i ++ [b + i] := by
 obtain ⟨j, rfl⟩ : ∃ j : Nat, i = (j : Int) := ⟨i.toNat, by omega⟩
 unfold seqR
 rw [show ((j : Int) + 1).toNat = j + 1 by omega, Int.toNat_natCast, List.range_succ, List.map_append]; rfl
theorem lx {b i j : Int} (h0 : 0 ≤ j) (h : j < i) : (seqR b i).getD j.toNat 0 = b + j := by
 unfold seqR
 rw [List.getD_eq_getElem?_getD, List.getElem?_map, List.getElem?_range (by omega)]
 show b + ((j.toNat : Nat) : Int) = _; omega
theorem zj {l t : List Int} {i : Int} {m : Nat} (hl : l.length = m) (h : (m : Int) ≤ i) : (l ++ t).getD i.toNat 0 = t.getD (i - m).toNat 0 := by
 rw [List.getD_eq_getElem?_getD, List.getD_eq_getElem?_getD, List.getElem?_append_right (by omega), hl, show i.toNat - m = (i - (m : Int)).toNat by omega]
theorem ba9 (r : List Int) (v : Int) : ∀ (m : Nat) (i : Int), ((r.length : Int) - i).toNat ≤ m → 0 ≤ i → (∀ j : Int, i ≤ j → j < (r.length : Int) → r.getD j.toNat 0 ≠ v) → nj r v i = -1
 | m, i, h, h0, hn => by
   rw [vl]
   split
   ·rename_i hl
    cases m with
    | zero => omega
    | succ m =>
      rw [if_neg (fun e => hn i (by omega) hl e.symm)]
      exact ba9 r v m (i + 1) (by omega) (by omega) fun j h1 h2 => hn j (by omega) h2
   ·rfl
theorem a00 (r : List Int) (v : Int) : ∀ (m : Nat) (i j : Int), (j - i).toNat ≤ m → 0 ≤ i → i ≤ j → j < (r.length : Int) → r.getD j.toNat 0 = v → 0 ≤ nj r v i
 | m, i, j, h, h0, h1, h2, e => by
   rw [vl, if_pos (by omega)]
   split
   ·exact h0
   ·rename_i hne
    by_cases hij : i = j
    ·subst hij; exact absurd e.symm hne
    ·cases m with
     | zero => omega
     | succ m => exact a00 r v m (i + 1) j (by omega) (by omega) (by omega) h2 e
theorem a0z (v i : Int) (h : 0 ≤ i) : nj [] v i = -1 := by rw [vl, if_neg (by simp; omega)]
theorem abw {b i v : Int} (h : 0 ≤ i) (hv : v < b ∨ b + i ≤ v) : nj (seqR b i) v 0 = -1 := by
 refine ba9 _ _ _ 0 (zY _) (Int.le_refl _) fun j h1 h2 => ?_
 rw [ya h] at h2
 rw [lx h1 h2]; omega
theorem biv {b i v : Int} (h : 0 ≤ i) (hv : b ≤ v ∧ v < b + i) : 0 ≤ nj (seqR b i) v 0 := by
 refine a00 _ _ _ 0 (v - b) (zY _) (Int.le_refl _) (by omega) (by rw [ya h]; omega) ?_
 rw [lx (by omega) (by omega)]; omega
theorem auz {ws : List Int} {i n : Int} {need may : List Int} {r p : Int} (hl : 2 * i + 1 < (ws.length : Int)) (h1 : ws.getD (2 * i).toNat 0 = 1) (h2 : ws.getD (2 * i + 1).toNat 0 = n) (hn : n ≠ 0 ∧ n ≠ 1 ∧ n ≠ 10 ∧ n ≠ 11) (hp : p = 0) (hd : nj need n 0 < 0) (hm : nj may n 0 < 0) : cq ws i need may r p = cq ws (i + 1) (need ++ [n]) may r p := by
 rw [ao, if_pos hl, if_pos h1, h2, if_neg (by omega), if_neg (by omega), if_neg (by omega), if_neg (by omega), if_neg (by omega), if_pos hp]
theorem a16 {ws : List Int} {i n : Int} {need may : List Int} {r p : Int} (hl : 2 * i + 1 < (ws.length : Int)) (h1 : ws.getD (2 * i).toNat 0 = 1) (h2 : ws.getD (2 * i + 1).toNat 0 = n) (hn : n ≠ 0 ∧ n ≠ 1 ∧ n ≠ 10 ∧ n ≠ 11) (hp : p = 1) (hd : nj need n 0 < 0) (hm : nj may n 0 < 0) : cq ws i need may r p = cq ws (i + 1) need (may ++ [n]) r p := by
 rw [ao, if_pos hl, if_pos h1, h2, if_neg (by omega), if_neg (by omega), if_neg (by omega), if_neg (by omega), if_neg (by omega), if_neg (by omega), if_pos hp]
theorem bei {ws : List Int} {i n : Int} {need may : List Int} {r p : Int} (hl : 2 * i + 1 < (ws.length : Int)) (h1 : ws.getD (2 * i).toNat 0 = 1) (h2 : ws.getD (2 * i + 1).toNat 0 = n) (hn : n ≠ 0 ∧ n ≠ 1 ∧ n ≠ 10 ∧ n ≠ 11) (hp : p = 2) (hd : nj need n 0 < 0) (hm : nj may n 0 < 0) : cq ws i need may r p = cq ws (i + 1) need may n 3 := by
 rw [ao, if_pos hl, if_pos h1, h2, if_neg (by omega), if_neg (by omega), if_neg (by omega), if_neg (by omega), if_neg (by omega), if_neg (by omega), if_neg (by omega)]
theorem bih {ws : List Int} {i n : Int} {need may : List Int} {r p : Int} (hl : 2 * i + 1 < (ws.length : Int)) (h1 : ws.getD (2 * i).toNat 0 = 1) (h2 : ws.getD (2 * i + 1).toNat 0 = n) (hn : n = 11) (hp : p = 0) : cq ws i need may r p = cq ws (i + 1) need may r 1 := by
 rw [ao, if_pos hl, if_pos h1, h2, if_neg (by omega), if_pos ⟨hn, hp⟩]
theorem bii {ws : List Int} {i n : Int} {need may : List Int} {r p : Int} (hl : 2 * i + 1 < (ws.length : Int)) (h1 : ws.getD (2 * i).toNat 0 = 1) (h2 : ws.getD (2 * i + 1).toNat 0 = n) (hn : n = 10) (hp : p < 2) : cq ws i need may r p = cq ws (i + 1) need may r 2 := by
 rw [ao, if_pos hl, if_pos h1, h2, if_neg (by omega), if_neg (by omega), if_pos ⟨hn, hp⟩]
theorem bie {ws : List Int} {i n : Int} {need may : List Int} {r p : Int} (hl : 2 * i + 1 < (ws.length : Int)) (h1 : ws.getD (2 * i).toNat 0 = 1) (h2 : ws.getD (2 * i + 1).toNat 0 = n) (hn : n ≠ 0 ∧ n ≠ 1 ∧ n ≠ 10 ∧ n ≠ 11) (hp : p = 3) : (cq ws i need may r p).e = 5 := by
 rw [ao, if_pos hl, if_pos h1, h2, if_neg (by omega), if_neg (by omega), if_neg (by omega), if_pos (by omega)]
theorem bij {ws : List Int} {i n : Int} {need may : List Int} {r p : Int} (hl : 2 * i + 1 < (ws.length : Int)) (h1 : ws.getD (2 * i).toNat 0 = 1) (h2 : ws.getD (2 * i + 1).toNat 0 = n) (hn : n ≠ 0 ∧ n ≠ 1 ∧ n ≠ 10 ∧ n ≠ 11) (hp : p ≠ 3) (hd : 0 ≤ nj need n 0) : (cq ws i need may r p).e = 18 := by
 rw [ao, if_pos hl, if_pos h1, h2, if_neg (by omega), if_neg (by omega), if_neg (by omega), if_neg (by omega), if_pos (by omega)]
theorem adc {ws : List Int} {i : Int} (hl : (ws.length : Int) ≤ 2 * i + 1) (need may : List Int) (r p : Int) : cq ws i need may r p = ⟨0, need, may, r, p⟩ := by
 rw [ao, if_neg (by omega)]
theorem anc {a : Int} (t : List Int) (ha : a ≤ 60) : ∀ (m : Nat) (j : Int), (a - j).toNat ≤ m → 0 ≤ j → j ≤ a → cq (fj 100 a ++ t) j (seqR 100 j) [] (-1) 0 = cq (fj 100 a ++ t) a (seqR 100 a) [] (-1) 0
 | m, j, h, h0, h1 => by
   by_cases hj : j = a
   ·rw [hj]
   ·cases m with
    | zero => omega
    | succ m =>
      obtain ⟨g1, g2⟩ := avs (b := 100) (i := a) t h0 (by omega)
      have hl : 2 * j + 1 < ((fj 100 a ++ t).length : Int) := by
       have := pj (b := 100) (i := a) (by omega)
       rw [zP]; omega
      rw [auz hl g1 g2 (by omega) rfl (by rw [abw h0 (by omega)]; omega) (by rw [a0z _ _ (Int.le_refl _)]; omega), ← avm h0]
      exact anc t ha m (j + 1) (by omega) (by omega) (by omega)
theorem auy {a b : Int} {u : List Int} (t : List Int) (hu : (u.length : Int) = 2 * (a + 1)) (ha : 0 ≤ a ∧ a ≤ 60) (hb : b ≤ 60) : ∀ (m : Nat) (j : Int), (b - j).toNat ≤ m → 0 ≤ j → j ≤ b → cq (u ++ (fj 200 b ++ t)) (a + 1 + j) (seqR 100 a) (seqR 200 j) (-1) 1 = cq (u ++ (fj 200 b ++ t)) (a + 1 + b) (seqR 100 a) (seqR 200 b) (-1) 1
 | m, j, h, h0, h1 => by
   by_cases hj : j = b
   ·rw [hj]
   ·cases m with
    | zero => omega
    | succ m =>
      obtain ⟨g1, g2⟩ := avs (b := 200) (i := b) t h0 (by omega)
      have hl : 2 * (a + 1 + j) + 1 < ((u ++ (fj 200 b ++ t)).length : Int) := by
       have := pj (b := 200) (i := b) (by omega)
       rw [zP, zP]; omega
      have e1 : (u ++ (fj 200 b ++ t)).getD (2 * (a + 1 + j)).toNat 0 = 1 := by
       rw [zj rfl (by omega), show 2 * (a + 1 + j) - (u.length : Int) = 2 * j by omega]; exact g1
      have e2 : (u ++ (fj 200 b ++ t)).getD (2 * (a + 1 + j) + 1).toNat 0 = 200 + j := by
       rw [zj rfl (by omega), show 2 * (a + 1 + j) + 1 - (u.length : Int) = 2 * j + 1 by omega]; exact g2
      rw [a16 hl e1 e2 (by omega) rfl (by rw [abw ha.1 (by omega)]; omega) (by rw [abw h0 (by omega)]; omega), ← avm h0, show a + 1 + j + 1 = a + 1 + (j + 1) by omega]
      exact auy t hu ha hb m (j + 1) (by omega) (by omega) (by omega)
theorem ane {v : List Int} {i : Int} (t : List Int) (hv : (v.length : Int) = 2 * i) (h0 : 0 ≤ i) {need may : List Int} {r p : Int} (hp : p < 2) (hd : nj need 300 0 < 0) (hm : nj may 300 0 < 0) :
  cq (v ++ (1 :: 10 :: 1 :: 300 :: t)) i need may r p = cq (v ++ (1 :: 10 :: 1 :: 300 :: t)) (i + 2) need may 300 3 := by
 have hl : ((v ++ (1 :: 10 :: 1 :: 300 :: t)).length : Int) = 2 * i + 4 + t.length := by rw [zP]; simp only [zO]; omega
 have g : ∀ j : Int, 0 ≤ j → (v ++ (1 :: 10 :: 1 :: 300 :: t)).getD (2 * i + j).toNat 0 = (1 :: 10 :: 1 :: 300 :: t).getD j.toNat 0 := by
  intro j hj
  rw [zj rfl (by omega), show 2 * i + j - (v.length : Int) = j by omega]
 have g0 := g 0 (by omega)
 rw [Int.add_zero] at g0
 have g2 : (v ++ (1 :: 10 :: 1 :: 300 :: t)).getD (2 * (i + 1)).toNat 0 = 1 := by rw [show 2 * (i + 1) = 2 * i + 2 by omega]; exact g 2 (by omega)
 have g3 : (v ++ (1 :: 10 :: 1 :: 300 :: t)).getD (2 * (i + 1) + 1).toNat 0 = 300 := by rw [show 2 * (i + 1) + 1 = 2 * i + 3 by omega]; exact g 3 (by omega)
 rw [bii (by omega) g0 (g 1 (by omega)) rfl hp, bei (by omega) g2 g3 (by omega) rfl hd hm, show i + 1 + 1 = i + 2 by omega]
def ea (a b c : Int) : Int := a + (if 0 < b then 1 + b else 0) + (if c = 1 then 2 else 0)
def aaw (c : Int) : Int := if c = 1 then 300 else -1
def qk (b c : Int) : Int := if c = 1 then 3 else if 0 < b then 1 else 0
theorem ac5 {a b c : Int} (ha : 0 ≤ a) (hb : 0 ≤ b) : ((du a b c).length : Int) = 2 * ea a b c := by
 have h1 := pj (b := 100) ha
 have h2 := pj (b := 200) hb
 unfold du ea
 rw [zP, zP]
 split <;> split <;> simp only [zO, zD] <;> omega
theorem ayk {a b c : Int} (t : List Int) (ha : 0 ≤ a ∧ a ≤ 60) (hb : 0 ≤ b ∧ b ≤ 60) : cq (du a b c ++ t) 0 [] [] (-1) 0 = cq (du a b c ++ t) (ea a b c) (seqR 100 a) (seqR 200 b) (aaw c) (qk b c) := by
 have h1 := pj (b := 100) ha.1
 have h2 := pj (b := 200) hb.1
 have n1 : nj (seqR 100 a) 300 0 < 0 := by rw [abw ha.1 (by omega)]; omega
 have n2 : nj (seqR 200 b) 300 0 < 0 := by rw [abw hb.1 (by omega)]; omega
 have s1 : ∀ u, cq (fj 100 a ++ u) 0 [] [] (-1) 0 = cq (fj 100 a ++ u) a (seqR 100 a) [] (-1) 0 := fun u => anc u ha.2 _ 0 (zY _) (Int.le_refl _) ha.1
 unfold du
 rw [List.append_assoc, s1]
 by_cases q : 0 < b
 ·have s2 : ∀ u, cq (fj 100 a ++ (1 :: 11 :: (fj 200 b ++ u))) a (seqR 100 a) [] (-1) 0 = cq (fj 100 a ++ (1 :: 11 :: (fj 200 b ++ u))) (a + 1 + b) (seqR 100 a) (seqR 200 b) (-1) 1 := by
   intro u
   have hl : 2 * a + 1 < ((fj 100 a ++ (1 :: 11 :: (fj 200 b ++ u))).length : Int) := by rw [zP]; simp only [zO]; omega
   have g : ∀ j : Int, 0 ≤ j → (fj 100 a ++ (1 :: 11 :: (fj 200 b ++ u))).getD (2 * a + j).toNat 0 = (1 :: 11 :: (fj 200 b ++ u)).getD j.toNat 0 := by
    intro j hj
    rw [zj rfl (by omega), show 2 * a + j - ((fj 100 a).length : Int) = j by omega]
   have g0 := g 0 (by omega)
   rw [Int.add_zero] at g0
   rw [bih hl g0 (g 1 (by omega)) rfl rfl]
   have := auy (a := a) (b := b) (u := fj 100 a ++ [1, 11]) u (by rw [zP]; simp only [zO, zD]; omega) ha hb.2 _ 0 (zY _) (Int.le_refl _) hb.1
   rw [Int.add_zero, List.append_assoc] at this
   exact this
  rw [if_pos q]
  by_cases z : c = 1
  ·rw [if_pos z]
   show cq (fj 100 a ++ (1 :: 11 :: (fj 200 b ++ [1, 10, 1, 300] ++ t))) _ _ _ _ _ = cq (fj 100 a ++ (1 :: 11 :: (fj 200 b ++ [1, 10, 1, 300] ++ t))) _ _ _ _ _
   rw [List.append_assoc, s2]
   have := ane (v := fj 100 a ++ (1 :: 11 :: fj 200 b)) (i := a + 1 + b) t (by rw [zP]; simp only [zO]; omega) (by omega) (need := seqR 100 a) (may := seqR 200 b) (r := -1) (p := 1) (by omega) n1 n2
   rw [List.append_assoc] at this
   have this : cq (fj 100 a ++ (1 :: 11 :: (fj 200 b ++ ([1, 10, 1, 300] ++ t)))) (a + 1 + b) (seqR 100 a) (seqR 200 b) (-1) 1 = _ := this
   rw [this]
   unfold ea aaw qk
   rw [if_pos q, if_pos z, if_pos z, if_pos z, show a + 1 + b + 2 = a + (1 + b) + 2 by omega]; rfl
  ·rw [if_neg z]
   show cq (fj 100 a ++ (1 :: 11 :: (fj 200 b ++ [] ++ t))) _ _ _ _ _ = cq (fj 100 a ++ (1 :: 11 :: (fj 200 b ++ [] ++ t))) _ _ _ _ _
   rw [List.append_assoc, s2]
   unfold ea aaw qk
   rw [if_pos q, if_neg z, if_neg z, if_neg z, if_pos q, show a + 1 + b = a + (1 + b) + 0 by omega]
 ·have b0 : b = 0 := by omega
  subst b0
  rw [if_neg q]
  by_cases z : c = 1
  ·rw [if_pos z]
   have := ane (v := fj 100 a) (i := a) t h1 ha.1 (need := seqR 100 a) (may := []) (r := -1) (p := 0) (by omega) n1 (by rw [a0z _ _ (Int.le_refl _)]; omega)
   show cq (fj 100 a ++ (1 :: 10 :: 1 :: 300 :: t)) _ _ _ _ _ = cq (fj 100 a ++ (1 :: 10 :: 1 :: 300 :: t)) _ _ _ _ _
   rw [this]
   unfold ea aaw qk
   rw [if_neg q, if_pos z, if_pos z, if_pos z, Int.add_zero]; rfl
  ·rw [if_neg z]
   unfold ea aaw qk
   rw [if_neg q, if_neg z, if_neg z, if_neg z, if_neg q, Int.add_zero, Int.add_zero]; rfl
theorem bh2 {a b c : Int} (ha : 0 ≤ a ∧ a ≤ 60) (hb : 0 ≤ b ∧ b ≤ 60) : cq (du a b c) 0 [] [] (-1) 0 = ⟨0, seqR 100 a, seqR 200 b, aaw c, qk b c⟩ := by
 have := ayk (a := a) (b := b) (c := c) [] ha hb
 rw [List.append_nil] at this
 rw [this, adc (by rw [ac5 ha.1 hb.1]; omega)]
theorem bcf {a b c : Int} (ha : 0 ≤ a ∧ a ≤ 60) (hb : 0 ≤ b ∧ b ≤ 60) (h : 0 < a ∨ c = 1) : (cq (du a b c ++ [1, 100]) 0 [] [] (-1) 0).e ≠ 0 := by
 rw [ayk [1, 100] ha hb]
 have hl := ac5 (c := c) ha.1 hb.1
 have hn : 0 ≤ ea a b c := by unfold ea; split <;> split <;> omega
 have g : ∀ j : Int, 0 ≤ j → (du a b c ++ [1, 100]).getD (2 * ea a b c + j).toNat 0 = [1, 100].getD j.toNat 0 := by
  intro j hj
  rw [zj rfl (by omega), show 2 * ea a b c + j - ((du a b c).length : Int) = j by omega]
 have g0 := g 0 (by omega)
 rw [Int.add_zero] at g0
 have hq : 2 * ea a b c + 1 < ((du a b c ++ [1, 100]).length : Int) := by rw [zP]; simp only [zO, zD]; omega
 by_cases z : c = 1
 ·rw [bie (n := 100) hq g0 (g 1 (by omega)) (by omega) (by unfold qk; rw [if_pos z])]; omega
 ·rw [bij (n := 100) hq g0 (g 1 (by omega)) (by omega) (by unfold qk; rw [if_neg z]; split <;> omega) (biv ha.1 (by omega))]; omega
end Go.Ev
