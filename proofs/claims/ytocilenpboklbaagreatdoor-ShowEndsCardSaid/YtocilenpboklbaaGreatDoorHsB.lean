import Derived.Test.YtocilenpboklbaaGreatDoorHpP
import Derived.Test.YtocilenpboklbaaGreatDoorHsC
import Derived.Test.YtocilenpboklbaaGreatDoorHrF
set_option maxRecDepth 100000
set_option linter.all false
namespace Go.Ev
theorem gm (k : Nat) : (pe k).length = k := by simp [pe]
theorem a0g {k j : Nat} (h : j < k) : (pe k)[j]? = some [2, 0, 1, 2, (j : Int) + 1] := by
 unfold pe
 rw [List.getElem?_map, List.getElem?_range h]; rfl
theorem ail (k : Nat) : pe (k + 1) = pe k ++ [[2, 0, 1, 2, (k : Int) + 1]] := by
 unfold pe
 rw [List.range_succ, List.map_append]; rfl
theorem amd (k : Int) (i : Nat) : zv k (i + 1) = zv k i ++ [if i = 0 then [4, 0, 7] else [4, 4, k + (i : Int) - 1]] := by
 unfold zv
 rw [List.range_succ, List.map_append]; rfl
theorem as1 (k : Int) (i : Nat) : (zv k i).length = i := by simp [zv]
theorem a5s {k : Int} {i j : Nat} (h : j < i) : (zv k i)[j]? = some (if j = 0 then [4, 0, 7] else [4, 4, k + (j : Int) - 1]) := by
 unfold zv
 rw [List.getElem?_map, List.getElem?_range h]; rfl
theorem ou : ∀ A B : List (List Int), du (A ++ B) = du A + du B
 | [], B => by simp [du]
 | x :: A, B => by
   have := ou A B
   simp only [du, zJ, List.map_cons, List.foldr_cons] at this ⊢
   omega
theorem u7 : ∀ k, du (pe k) = 0
 | 0 => rfl
 | k + 1 => by rw [ail, ou, u7 k]; rfl
theorem bf9 (a b : Int) : tc [4, a, b] = 1 := by simp [tc]
theorem aj0 (k : Int) : ∀ i, du (zv k i) = (i : Int)
 | 0 => rfl
 | i + 1 => by
   rw [amd, ou, aj0 k i]
   have : ∀ r : List Int, du [r] = tc r + 0 := fun r => rfl
   rw [this]
   split <;> rw [bf9] <;> omega
section
variable {a b c d k n i : Int}
theorem zj : recs (fq a b c d k).tail = pe (k.toNat - 1) ++ [[2, a, b, c, d]] := gf _
theorem acl : recs (rv k i).tail = pe (k.toNat - 1) ++ [2, 2, 0, 1, 0] :: zv k i.toNat := gf _
theorem ak (h : 1 ≤ k) : ea (fq a b c d k) = k := by
 unfold ea
 rw [zj, zP, gm]; show ((k.toNat - 1 + 1 : Nat) : Int) = k; omega
theorem ap (h : 1 ≤ k) (h' : 0 ≤ i) : ea (rv k i) = k + i := by
 unfold ea
 rw [acl, zP, zO, gm, as1]; omega
theorem afu (h0 : 0 ≤ n) (hn : n < k) : obL (fq a b c d k) n = if n < k - 1 then [2, 0, 1, 2, n + 1] else [2, a, b, c, d] := by
 unfold obL
 rw [if_pos h0, zj, List.getD_eq_getElem?_getD]
 split
 ·rw [List.getElem?_append_left (by rw [gm]; omega), a0g (by omega), Int.toNat_of_nonneg h0]; rfl
 ·rw [List.getElem?_append_right (by rw [gm]; omega), gm, show n.toNat - (k.toNat - 1) = 0 by omega]; rfl
theorem a4q (h0 : 1 ≤ k) (h1 : k ≤ n) (hn : n < k + i) : obL (rv k i) n = if n = k then [4, 0, 7] else [4, 4, n - 1] := by
 unfold obL
 rw [if_pos (by omega), acl, List.getD_eq_getElem?_getD, List.getElem?_append_right (by rw [gm]; omega), gm]
 obtain ⟨j, hj⟩ : ∃ j : Nat, n = k + (j : Int) := ⟨(n - k).toNat, by omega⟩
 rw [show n.toNat - (k.toNat - 1) = j + 1 by omega, List.getElem?_cons_succ, a5s (by omega)]
 by_cases h : j = 0
 ·rw [if_pos h, if_pos (by omega)]; rfl
 ·rw [if_neg h, if_neg (by omega), show k + (j : Int) - 1 = n - 1 by omega]; rfl
theorem al (h0 : 0 ≤ n) (hn : n < k) : iq (fq a b c d k) 2 n = 1 := by
 unfold iq
 rw [if_pos]
 refine ⟨h0, ?_, ?_⟩
 ·have := ak (a := a) (b := b) (c := c) (d := d) (k := k) (by omega)
  unfold ea at this; omega
 ·rw [afu h0 hn]; split <;> rfl
theorem a33 (h0 : 1 ≤ k) (h1 : k ≤ n) (hn : n < k + i) : iq (rv k i) 4 n = 1 := by
 unfold iq
 rw [if_pos]
 refine ⟨by omega, ?_, ?_⟩
 ·have := ap (k := k) (i := i) h0 (by omega)
  unfold ea at this; omega
 ·rw [a4q h0 h1 hn]; split <;> rfl
theorem awq (h : 1 ≤ k) (h' : k ≤ 50) : ab8 (fq a b c d k) := by
 refine ⟨600, _, rfl, by omega, by omega, ?_, ?_⟩
 ·rw [zP, gm]; show ((k.toNat - 1 + 1 : Nat) : Int) ≤ _; omega
 ·rw [ou, u7]; show (0 : Int) + 0 ≤ _; omega
theorem bbb (h : 1 ≤ k) (h' : k ≤ 50) (h1 : 0 ≤ i) (h2 : i ≤ 299) : ab8 (rv k i) := by
 refine ⟨600, _, rfl, by omega, by omega, ?_, ?_⟩
 ·rw [zP, gm, zO, as1]; omega
 ·have e : du ([2, 2, 0, 1, 0] :: zv k i.toNat) = 0 + du (zv k i.toNat) := rfl
  rw [ou, u7, e, aj0]; omega
theorem baf : rv k 0 = fq 2 0 1 0 k := rfl
theorem au (h : 1 ≤ k) : sb (rv k i) = k := by
 have f1 : ∀ m : Nat, (pe m).filter (fun r => r.getD 0 0 == 2) = pe m := by
  intro m
  rw [List.filter_eq_self]
  intro r hr
  unfold pe at hr
  obtain ⟨j, _, rfl⟩ := List.mem_map.1 hr
  rfl
 have f2 : ∀ m : Nat, (zv k m).filter (fun r => r.getD 0 0 == 2) = [] := by
  intro m
  rw [List.filter_eq_nil_iff]
  intro r hr
  unfold zv at hr
  obtain ⟨j, _, rfl⟩ := List.mem_map.1 hr
  split
  ·exact Bool.false_ne_true
  ·show ¬ ((4 : Int) == 2) = true; decide
 unfold sb
 rw [acl, List.filter_append, f1, List.filter_cons, if_pos (show ([2, 2, 0, 1, 0].getD 0 0 == (2 : Int)) = true from rfl), f2, zP, gm]
 show ((k.toNat - 1 + 1 : Nat) : Int) = k; omega
theorem av5 (h : 1 ≤ k) (h' : 0 ≤ i) : n7 (rv k i) (if i = 0 then [4, 0, 7] else [4, 4, k + i - 1]) = rv k (i + 1) := by
 unfold rv n7
 rw [show (i + 1).toNat = i.toNat + 1 by omega, amd]
 have e : (if i.toNat = 0 then [4, 0, 7] else [4, 4, k + (i.toNat : Int) - 1]) = if i = 0 then [4, 0, 7] else [4, 4, k + i - 1] := by
  by_cases z : i = 0
  ·rw [if_pos z, if_pos (by omega)]
  ·rw [if_neg z, if_neg (by omega), Int.toNat_of_nonneg h']
 rw [e, ← zJ, ← List.append_assoc, kc]; rfl
theorem aj : du (recs (fq a b c d k).tail) = 0 := by
 rw [zj, ou, u7]; rfl
theorem ao (h : 0 ≤ i) : du (recs (rv k i).tail) = i := by
 have e : du ([2, 2, 0, 1, 0] :: zv k i.toNat) = 0 + du (zv k i.toNat) := rfl
 rw [acl, ou, u7, e, aj0]; omega
theorem ar {a' b' c' d' : Int} (h : 1 ≤ k) : aks (fq a b c d k) (k - 1) [2, a', b', c', d'] = fq a' b' c' d' k := by
 unfold aks
 rw [zj, List.set_append_right _ _ (by rw [gm]; omega), gm, show (k - 1).toNat - (k.toNat - 1) = 0 by omega]; rfl
theorem a0h (h : 1 ≤ k) : aks (n7 (fq 0 1 1 0 k) [2, 0, 1, 1, 0]) (k - 1) [2, 0, 1, 2, k] = fq 0 1 1 0 (k + 1) := by
 have e : recs (n7 (fq 0 1 1 0 k) [2, 0, 1, 1, 0]).tail = (pe (k.toNat - 1) ++ [[2, 0, 1, 1, 0]]) ++ [[2, 0, 1, 1, 0]] := by
  have : n7 (fq 0 1 1 0 k) [2, 0, 1, 1, 0] = 600 :: d6 ((pe (k.toNat - 1) ++ [[2, 0, 1, 1, 0]]) ++ [[2, 0, 1, 1, 0]]) := by
   rw [kc]; rfl
  rw [this]; exact gf _
 unfold aks
 rw [e, List.set_append_left _ _ (by rw [zP, gm]; show _ < _ + 1; omega), List.set_append_right _ _ (by rw [gm]; omega), gm, show (k - 1).toNat - (k.toNat - 1) = 0 by omega]
 unfold fq
 rw [show (k + 1).toNat - 1 = (k.toNat - 1) + 1 by omega, ail, show ((k.toNat - 1 : Nat) : Int) + 1 = k by omega]; rfl
end
end Go.Ev
set_option maxRecDepth 100000
set_option linter.all false
namespace Go.Ev
noncomputable def rgN (l : List Int) : Int := aay 233 [l]
noncomputable def nsN (l : List Int) : Int := aay 234 [l]
noncomputable def chN (l : List Int) : Int := aay 237 [l]
noncomputable def a8u (l : List Int) : Int := aay 239 [l]
theorem evE : (∀ (σ : Nat → List Int) (g : GE), (SE.app 233 (.g g .nil)).eval σ = rgN (g.eval σ)) ∧
  (∀ (σ : Nat → List Int) (g : GE), (SE.app 234 (.g g .nil)).eval σ = nsN (g.eval σ)) ∧
  (∀ (σ : Nat → List Int) (g : GE), (SE.app 237 (.g g .nil)).eval σ = chN (g.eval σ)) ∧
  (∀ (σ : Nat → List Int) (g : GE), (SE.app 239 (.g g .nil)).eval σ = a8u (g.eval σ)) ∧
  (∀ (σ : Nat → List Int) (g : GE), (SE.app 238 (.g g .nil)).eval σ = sb (g.eval σ)) ∧
  (∀ (σ : Nat → List Int) (g : GE) (k n : SE), (SE.app 235 (.g g (.i k (.i n .nil)))).eval σ = n8 (g.eval σ) (k.eval σ) (n.eval σ)) ∧
  (∀ (σ : Nat → List Int) (g : GE) (n : SE), (SE.app 236 (.g g (.i n .nil))).eval σ = (((obL (g.eval σ) (n.eval σ)).length : Int) - 1) / 2) ∧
  (∀ (σ : Nat → List Int) (g r : GE) (n : SE), (GE.app 207 (.g g (.i n (.g r .nil)))).eval σ = aks (g.eval σ) (n.eval σ) (r.eval σ)) ∧
  (∀ (σ : Nat → List Int) (g : GE) (n : SE), (GE.app 208 (.g g (.i n .nil))).eval σ = (obL (g.eval σ) (n.eval σ)).tail) ∧
  (∀ (σ : Nat → List Int) (a b c d k : SE), (GE.app 240 (.i a (.i b (.i c (.i d (.i k .nil)))))).eval σ = fq (a.eval σ) (b.eval σ) (c.eval σ) (d.eval σ) (k.eval σ)) ∧
  (∀ (σ : Nat → List Int) (k i : SE), (GE.app 241 (.i k (.i i .nil))).eval σ = rv (k.eval σ) (i.eval σ)) ∧
  (∀ (σ : Nat → List Int) (g : GE) (n : SE), (GE.app 245 (.g g (.i n .nil))).eval σ = x8 (g.eval σ) (n.eval σ)) :=
 ⟨by intros; rfl, by intros; rfl, by intros; rfl, by intros; rfl, by intros; rfl, by intros; rfl, by intros; rfl, by intros; rfl, by intros; rfl, by intros; rfl, by intros; rfl, by intros; rfl⟩
theorem evL : (∀ σ : Nat → List Int, (GE.lit 0 0).eval σ = []) ∧ (∀ σ : Nat → List Int, (GE.lit 1 32).eval σ = [32]) ∧ (∀ σ : Nat → List Int, (GE.lit 1 40).eval σ = [40]) ∧ (∀ σ : Nat → List Int, (GE.lit 1 91).eval σ = [91]) ∧ (∀ σ : Nat → List Int, (GE.lit 1 93).eval σ = [93]) ∧ (∀ σ : Nat → List Int, (GE.lit 1 55).eval σ = [55]) := ⟨by intros; rfl, by intros; rfl, by intros; rfl, by intros; rfl, by intros; rfl, by intros; rfl⟩
theorem rgN1 {l : List Int} : rgN l = 1 ↔ zz 0 1 2 0 l := by show aay 233 [l] = 1 ↔ _; exact at8
theorem nsN1 {l : List Int} : nsN l = 1 ↔ zz 2 0 1 0 l := by show aay 234 [l] = 1 ↔ _; exact at8
theorem chN1 {l : List Int} : chN l = 1 ↔ zz 0 1 1 0 l := by show aay 237 [l] = 1 ↔ _; exact at8
theorem vcsN1 {l : List Int} : a8u l = 1 ↔ a1a l := by show aay 239 [l] = 1 ↔ _; exact at8
theorem aeq {l : List Int} : hpN l = 1 ↔ ab8 l := by show aay 221 [l] = 1 ↔ _; exact at8
theorem ca {x : Int} (h : x = 1) : ae5 x = [49] := by subst h; rfl
theorem cb {x : Int} (h : x = 7) : ae5 x = [55] := by subst h; rfl
theorem b9 {c : Int} (h : 0 ≤ c ∧ c < 128) : a6n [c] = 1 := ascN1.2 fun x hx => by rw [List.mem_singleton] at hx; subst hx; exact h
theorem ah (n : Int) : a6n (ae5 n) = 1 := ascN1.2 (a2u n)
theorem tv {n : Int} (h : 0 ≤ n) : x8 [91] (n + 1) = 91 :: x8 [91] n := by
 unfold x8
 rw [show (n + 1).toNat = n.toNat + 1 by omega, List.replicate_succ]; rfl
theorem tw {n : Int} (h : 0 ≤ n) : x8 [93] (n + 1) = x8 [93] n ++ [93] := by
 unfold x8
 rw [show (n + 1).toNat = n.toNat + 1 by omega, List.replicate_succ', List.flatten_append]; rfl
theorem dj (s : List Int) : x8 s 0 = [] := rfl
theorem bq {c n : Int} (h : 0 ≤ n) : ((x8 [c] n).length : Int) = n := by
 unfold x8
 rw [List.length_flatten, List.map_replicate, List.sum_replicate_nat]; simp; omega
theorem bbm {l : List Int} {k n : Int} (h : iq l k n = 1) : 0 ≤ n ∧ n < ea l := by
 unfold iq at h
 split at h
 ·rename_i q; exact ⟨q.1, q.2.1⟩
 ·cases h
section
variable {σ : Nat → List Int}
def wN (n : SE) (j : Int) : SE := .app 204 (.g (.s 5) (.i n (.i (.c j) .nil)))
theorem axw (n : SE) (j : Int) : (wN n j).eval σ = (obL (σ 5) (n.eval σ)).getD j.toNat 0 := rfl
theorem frg (h : zz 0 1 2 0 (σ 5)) (n : SE) : (0 ≤ n.eval σ ∧ n.eval σ < ea (σ 5) → (SE.app 204 (.g (.s 5) (.i n (.i (.c 1) .nil)))).eval σ = 0 ∧ (SE.app 204 (.g (.s 5) (.i n (.i (.c 2) .nil)))).eval σ = 1 ∧ (SE.app 204 (.g (.s 5) (.i n (.i (.c 3) .nil)))).eval σ = 2 ∧
  0 ≤ (SE.app 204 (.g (.s 5) (.i n (.i (.c 4) .nil)))).eval σ ∧ (SE.app 204 (.g (.s 5) (.i n (.i (.c 4) .nil)))).eval σ < ea (σ 5) ∧ (SE.app 203 (.g (.s 5) (.i (.c 2) (.i n .nil)))).eval σ = 1 ∧
  (SE.app 203 (.g (.s 5) (.i (.app 204 (.g (.s 5) (.i n (.i (.c 3) .nil)))) (.i (.app 204 (.g (.s 5) (.i n (.i (.c 4) .nil)))) .nil)))).eval σ = 1) := by
 rintro ⟨h0, h1⟩
 obtain ⟨m1, m2, e⟩ := h
 have ob := afu (a := 0) (b := 1) (c := 2) (d := 0) h0 h1
 rw [← e] at ob
 have w : ∀ j : Int, (wN n j).eval σ = _ := fun j => axw (σ := σ) n j
 have l : ∀ m, 0 ≤ m → m < ea (σ 5) → iq (σ 5) 2 m = 1 := fun m a b => by rw [e]; exact al a b
 show (wN n 1).eval σ = 0 ∧ (wN n 2).eval σ = 1 ∧ (wN n 3).eval σ = 2 ∧ 0 ≤ (wN n 4).eval σ ∧ (wN n 4).eval σ < _ ∧ iq (σ 5) 2 (n.eval σ) = 1 ∧ iq (σ 5) ((wN n 3).eval σ) ((wN n 4).eval σ) = 1
 rw [w 1, w 2, w 3, w 4, ob]
 by_cases z : n.eval σ < ea (σ 5) - 1
 ·rw [if_pos z]
  refine ⟨rfl, rfl, rfl, ?_, ?_, l _ h0 h1, l _ ?_ ?_⟩ <;> show _ <;> (try show (0 : Int) ≤ n.eval σ + 1) <;> (try show n.eval σ + 1 < _) <;> omega
 ·rw [if_neg z]
  refine ⟨rfl, rfl, rfl, ?_, ?_, l _ h0 h1, l _ ?_ ?_⟩ <;> (try show (0 : Int) ≤ 0) <;> (try show (0 : Int) < _) <;> omega
theorem fns (h : zz 2 0 1 0 (σ 5)) (n : SE) : (0 ≤ n.eval σ ∧ n.eval σ < ea (σ 5) → (SE.app 203 (.g (.s 5) (.i (.c 2) (.i n .nil)))).eval σ = 1 ∧
  (n.eval σ < ea (σ 5) - 1 ∧ (SE.app 204 (.g (.s 5) (.i n (.i (.c 1) .nil)))).eval σ = 0 ∧ (SE.app 204 (.g (.s 5) (.i n (.i (.c 2) .nil)))).eval σ = 1 ∧ (SE.app 204 (.g (.s 5) (.i n (.i (.c 3) .nil)))).eval σ = 2 ∧ (SE.app 204 (.g (.s 5) (.i n (.i (.c 4) .nil)))).eval σ = n.eval σ + 1 ∧
    (SE.app 203 (.g (.s 5) (.i (.app 204 (.g (.s 5) (.i n (.i (.c 3) .nil)))) (.i (.app 204 (.g (.s 5) (.i n (.i (.c 4) .nil)))) .nil)))).eval σ = 1 ∨
   n.eval σ = ea (σ 5) - 1 ∧ (SE.app 204 (.g (.s 5) (.i n (.i (.c 1) .nil)))).eval σ = 2 ∧ (SE.app 204 (.g (.s 5) (.i n (.i (.c 2) .nil)))).eval σ = 0 ∧ (SE.app 204 (.g (.s 5) (.i n (.i (.c 3) .nil)))).eval σ = 1 ∧ (SE.app 204 (.g (.s 5) (.i n (.i (.c 4) .nil)))).eval σ = 0)) := by
 rintro ⟨h0, h1⟩
 obtain ⟨m1, m2, e⟩ := h
 have ob := afu (a := 2) (b := 0) (c := 1) (d := 0) h0 h1
 rw [← e] at ob
 have w : ∀ j : Int, (wN n j).eval σ = _ := fun j => axw (σ := σ) n j
 have l : ∀ m, 0 ≤ m → m < ea (σ 5) → iq (σ 5) 2 m = 1 := fun m a b => by rw [e]; exact al a b
 show iq (σ 5) 2 (n.eval σ) = 1 ∧ (n.eval σ < _ ∧ (wN n 1).eval σ = 0 ∧ (wN n 2).eval σ = 1 ∧ (wN n 3).eval σ = 2 ∧ (wN n 4).eval σ = _ ∧ iq (σ 5) ((wN n 3).eval σ) ((wN n 4).eval σ) = 1 ∨ n.eval σ = _ ∧ (wN n 1).eval σ = 2 ∧ (wN n 2).eval σ = 0 ∧ (wN n 3).eval σ = 1 ∧ (wN n 4).eval σ = 0)
 rw [w 1, w 2, w 3, w 4, ob]
 refine ⟨l _ h0 h1, ?_⟩
 by_cases z : n.eval σ < ea (σ 5) - 1
 ·rw [if_pos z]
  exact .inl ⟨z, rfl, rfl, rfl, rfl, l (n.eval σ + 1) (by omega) (by omega)⟩
 ·rw [if_neg z]
  exact .inr ⟨by omega, rfl, rfl, rfl, rfl⟩
theorem fvd {l : List Int} {k n : Int} (h : 0 ≤ n8 l k n) (hv : a1a l) : (k = 0 ∧ n = 7 ∧ n8 l k n = 0) ∨
  (k = 4 ∧ n8 l k n = n - sb l + 1 ∧ 1 ≤ n8 l k n ∧ n8 l k n ≤ 349 ∧ iq l k n = 1 ∧ (((obL l n).length : Int) - 1) / 2 = 1 ∧ n8 l ((obL l n).tail.getD 0 0) ((obL l n).tail.getD 1 0) = n8 l k n - 1) := by
 by_cases h0 : k = 0 ∧ n = 7
 ·refine .inl ⟨h0.1, h0.2, ?_⟩
  unfold n8; rw [if_pos h0]
 ·by_cases h1 : k = 4 ∧ a1a l ∧ sb l ≤ n ∧ n < ea l
  ·have e : n8 l k n = n - sb l + 1 := by unfold n8; rw [if_neg h0, if_pos h1]
   obtain ⟨k4, ⟨c1, c2, c3, c4, c5⟩, n1, n2⟩ := h1
   have ob := a4q (k := sb l) (n := n) (i := ea l - sb l) c1 n1 (by omega)
   have lv := a33 (k := sb l) (n := n) (i := ea l - sb l) c1 n1 (by omega)
   rw [← c5] at ob lv
   refine .inr ⟨k4, e, by omega, by omega, by rw [k4]; exact lv, ?_, ?_⟩
   ·rw [ob]; split <;> (show (((3 : Nat) : Int) - 1) / 2 = 1; rfl)
   ·rw [ob, e]
    by_cases z : n = sb l
    ·rw [if_pos z]
     show n8 l 0 7 = _
     unfold n8
     rw [if_pos ⟨rfl, rfl⟩]; omega
    ·rw [if_neg z]
     show n8 l 4 (n - 1) = _
     unfold n8
     rw [if_neg (by rintro ⟨q, _⟩; omega), if_pos ⟨rfl, hv, by omega, by omega⟩]; omega
  ·have : n8 l k n = -1 := by unfold n8; rw [if_neg h0, if_neg h1]
   omega
theorem bjh {L n : Int} (hL : 0 ≤ L) (h : 0 ≤ n) : 0 ≤ n.tdiv 2 ∧ 0 ≤ (L + L) * n.tdiv 2 ∧ (L + L) * n.tdiv 2 ≤ L * n ∧ (1 ≤ n → L ≤ L * n ∧ n.tdiv 2 < n) ∧ 0 ≤ n.tmod 2 ∧ n.tmod 2 ≤ 1 ∧ (n.tmod 2 = 1 → L * n = (L + L) * n.tdiv 2 + L) ∧ n = 2 * n.tdiv 2 + n.tmod 2 := by
 rw [Int.tdiv_eq_ediv_of_nonneg h, Int.tmod_eq_emod_of_nonneg h]
 have e : n = 2 * (n / 2) + n % 2 := by omega
 have q0 : 0 ≤ n / 2 := by omega
 have p : 0 ≤ (L + L) * (n / 2) := Int.mul_nonneg (by omega) q0
 have r0 : 0 ≤ L * (n % 2) := Int.mul_nonneg hL (by omega)
 have m : L * n = (L + L) * (n / 2) + L * (n % 2) := by
  have : L * n = L * (2 * (n / 2) + n % 2) := by rw [← e]
  rw [this, Int.mul_add, ← Int.mul_assoc, show L * 2 = L + L by omega]
 refine ⟨q0, p, by omega, fun h1 => ⟨?_, by omega⟩, by omega, by omega, fun h1 => by rw [m, h1, Int.mul_one], e⟩
 have := Int.mul_le_mul_of_nonneg_left h1 hL
 rw [Int.mul_one] at this; exact this
theorem ajj {s : List Int} {n : Int} (h : 1 ≤ n) : x8 s n = (if n.tmod 2 = 1 then s else []) ++ x8 (s ++ s) (n.tdiv 2) := by
 rw [Int.tdiv_eq_ediv_of_nonneg (by omega), Int.tmod_eq_emod_of_nonneg (by omega)]
 have two : ∀ m : Nat, (List.replicate (2 * m) s).flatten = (List.replicate m (s ++ s)).flatten := by
  intro m
  induction m with
  | zero => rfl
  | succ m ih => rw [show 2 * (m + 1) = 2 * m + 1 + 1 by omega, List.replicate_succ, List.replicate_succ, List.replicate_succ, List.flatten_cons, List.flatten_cons, List.flatten_cons, ih, List.append_assoc]
 unfold x8
 by_cases z : n % 2 = 1
 ·rw [if_pos z, show n.toNat = 2 * (n / 2).toNat + 1 by omega, List.replicate_succ, List.flatten_cons, two]
 ·rw [if_neg z, show n.toNat = 2 * (n / 2).toNat by omega, two]; rfl
end
end Go.Ev
