import Derived.Test.YtkfdioikigponaaGreatDoorRiP
set_option linter.all false
namespace Go.Ev
/- Nested brackets and prefixes: plain facts. -/
theorem kzF_fuel : ∀ (f g : Nat) (l : List Int), l.length ≤ f → l.length ≤ g → kzF f l = kzF g l
  | 0, 0, _, _, _ => rfl
  | 0, g + 1, [], _, _ => rfl
  | 0, _ + 1, _ :: _, h, _ => by simp at h
  | f + 1, 0, [], _, _ => rfl
  | _ + 1, 0, _ :: _, _, h => by simp at h
  | f + 1, g + 1, l, h1, h2 => by
    have t1 : l.tail.length ≤ f := by rw [List.length_tail]; omega
    have t2 : l.tail.length ≤ g := by rw [List.length_tail]; omega
    have d1 : (l.drop 2).length ≤ f := by rw [List.length_drop]; omega
    have d2 : (l.drop 2).length ≤ g := by rw [List.length_drop]; omega
    unfold kzF
    rw [kzF_fuel f g l.tail t1 t2, kzF_fuel f g (l.drop 2) d1 d2]
theorem kz_opn {k : Nat} (hk : k < 5) (l : List Int) : kz (opn k ++ l) = k :: kz l := by
  have h1 : ∀ x : Int, kzF (x :: l).length (x :: l) = if x = 40 then 0 :: kzF l.length l else if x = 91 then 1 :: kzF l.length l else if x = 39 then 2 :: kzF l.length l else if x = 44 then 3 :: kzF l.length (l.drop 1) else if x = 35 then 4 :: kzF l.length (l.drop 1) else [] := fun x => rfl
  have h2 : ∀ x y : Int, kzF (x :: y :: l).length (x :: y :: l) = if x = 40 then 0 :: kzF (l.length + 1) (y :: l) else if x = 91 then 1 :: kzF (l.length + 1) (y :: l) else if x = 39 then 2 :: kzF (l.length + 1) (y :: l) else if x = 44 then 3 :: kzF (l.length + 1) l else if x = 35 then 4 :: kzF (l.length + 1) l else [] := fun x y => rfl
  have hf : kzF (l.length + 1) l = kz l := kzF_fuel _ _ _ (by omega) (Nat.le_refl _)
  match k, hk with
  | 0, _ => show kzF (40 :: l).length (40 :: l) = _; rw [h1]; rfl
  | 1, _ => show kzF (91 :: l).length (91 :: l) = _; rw [h1]; rfl
  | 2, _ => show kzF (39 :: l).length (39 :: l) = _; rw [h1]; rfl
  | 3, _ => show kzF (44 :: 64 :: l).length (44 :: 64 :: l) = _; rw [h2, hf]; rfl
  | 4, _ => show kzF (35 :: 39 :: l).length (35 :: 39 :: l) = _; rw [h2, hf]; rfl
theorem kz_one (l : List Int) : kz (49 :: l) = [] := rfl
theorem kz_opnS : ∀ {K : List Nat} (_ : ∀ k ∈ K, k < 5) (l : List Int), kz (opnS K ++ l) = K ++ kz l
  | [], _, _ => rfl
  | k :: K, h, l => by
    show kz ((opn k ++ opnS K) ++ l) = _
    rw [List.append_assoc, kz_opn (h k (by simp)), kz_opnS (fun x hx => h x (by simp [hx])) l]; rfl
theorem txt_eq : ∀ K, txt K = opnS K ++ (49 :: cloS K)
  | [] => rfl
  | k :: K => by
    show opn k ++ (txt K ++ clo k) = (opn k ++ opnS K) ++ (49 :: (cloS K ++ clo k))
    rw [txt_eq K]; simp [List.append_assoc]
theorem kz_txt {K : List Nat} (h : ∀ k ∈ K, k < 5) (r : List Int) : kz (txt K ++ r) = K := by
  rw [txt_eq, List.append_assoc, kz_opnS h]
  show K ++ kz (49 :: _) = K
  rw [kz_one, List.append_nil]
theorem getE_of_drop {R l m : List Int} {p : Nat} (h : R.drop p = l ++ m) {i : Nat} (hi : i < l.length) : R[p + i]? = some l[i] := by
  rw [← List.getElem?_drop, h, List.getElem?_append_left hi, List.getElem?_eq_getElem hi]
theorem drop_of_drop {R l m : List Int} {p : Nat} (h : R.drop p = l ++ m) : R.drop (p + l.length) = m := by
  rw [← List.drop_drop, h, List.drop_left]
theorem len_of_drop {R l : List Int} {p : Nat} (h : R.drop p = l) (hl : l ≠ []) : R.length = p + l.length := by
  have := congrArg List.length h
  rw [List.length_drop] at this
  have : 0 < l.length := List.length_pos_iff.2 hl
  omega
theorem opn_pos (k : Nat) : 1 ≤ (opn k).length ∧ (opn k).length ≤ 2 := by unfold opn; split <;> simp
theorem txt_pos (K : List Nat) : 1 ≤ (txt K).length := by rw [txt_eq]; simp; omega
theorem many_le : ∀ K : List Nat, manyK K ≤ 2 * K.length ∧ usedK K ≤ K.length ∧ K.length ≤ manyK K
  | [] => by simp [manyK, usedK]
  | k :: K => by
    have := many_le K
    simp only [manyK, usedK, List.length_cons]
    split <;> split <;> omega
/-- a nested text: what it begins with -/
inductive Deep (R : List Int) (p : Nat) (o : Int) : Prop where
  | base (K0 : kz (R.drop p) = []) (h0 : R[p]? = some 49) (h1 : R.length = p + 1 ∨ R[p + 1]? = some 41 ∨ R[p + 1]? = some 93)
  | more (k : Nat) (K : List Nat) (hk : k < 5) (e : kz (R.drop p) = k :: K) (e' : kz (R.drop (p + (opn k).length)) = K)
    (next : deepR R ((p : Int) + ((opn k).length : Int)) (o + 1)) (hd : o + 1 + (K.length : Int) ≤ 200)
    (ho : ∀ i (h : i < (opn k).length), R[p + i]? = some (opn k)[i]) (hc : ∀ i (h : i < (clo k).length), R[p + (opn k).length + (txt K).length + i]? = some (clo k)[i])
    (hn : ∃ x, R[p + (opn k).length]? = some x ∧ (x = 49 ∨ x = 40 ∨ x = 91 ∨ x = 39 ∨ x = 44 ∨ x = 35))
    (hl : p + (opn k).length + (txt K).length + (clo k).length ≤ R.length)
theorem txt_head (K : List Nat) : ∃ x l, txt K = x :: l ∧ (x = 49 ∨ x = 40 ∨ x = 91 ∨ x = 39 ∨ x = 44 ∨ x = 35) := by
  cases K with
  | nil => exact ⟨49, [], rfl, .inl rfl⟩
  | cons k K =>
    show ∃ x l, opn k ++ (txt K ++ clo k) = x :: l ∧ _
    unfold opn
    split
    · exact ⟨_, _, rfl, by omega⟩
    · exact ⟨_, _, rfl, by omega⟩
    · exact ⟨_, _, rfl, by omega⟩
    · exact ⟨_, _, rfl, by omega⟩
    · exact ⟨_, _, rfl, by omega⟩
theorem deep_cases {R : List Int} {p o : Int} (h : deepR R p o) : Deep R p.toNat o ∧ 0 ≤ p ∧ 0 ≤ o ∧ R.length ≤ 2000 ∧ o + ((kz (R.drop p.toNat)).length : Int) ≤ 200 ∧ p.toNat + (txt (kz (R.drop p.toNat))).length ≤ R.length := by
  obtain ⟨K, rest, h1, h2, h3, h4, h5, h6, h7⟩ := h
  have hkz : kz (R.drop p.toNat) = K := by rw [h2]; exact kz_txt h1 rest
  have hne : txt K ++ rest ≠ [] := by
    obtain ⟨x, l, e, _⟩ := txt_head K
    rw [e]; simp
  have hlen := len_of_drop h2 hne
  rw [List.length_append] at hlen
  refine ⟨?_, h4, h5, h7, by rw [hkz]; exact h6, by rw [hkz]; omega⟩
  cases K with
  | nil =>
    have h2' : R.drop p.toNat = [49] ++ rest := h2
    have hlen : R.length = p.toNat + (1 + rest.length) := hlen
    refine .base hkz (getE_of_drop h2' (i := 0) (by simp)) ?_
    have hd := drop_of_drop h2'
    rcases h3 with h3 | h3
    · left; rw [h3] at hlen; simpa using hlen
    · right
      cases rest with
      | nil => rcases h3 with h3 | h3 <;> simp at h3
      | cons y r =>
        have : R[p.toNat + 1 + 0]? = some y := getE_of_drop (l := [y]) (m := r) hd (i := 0) (by simp)
        rcases h3 with h3 | h3
        · left; have : y = 41 := by simpa using h3
          subst this; assumption
        · right; have : y = 93 := by simpa using h3
          subst this; assumption
  | cons k K =>
    have hk := h1 k (by simp)
    have hK : ∀ x ∈ K, x < 5 := fun x hx => h1 x (by simp [hx])
    have h2' : R.drop p.toNat = opn k ++ (txt K ++ (clo k ++ rest)) := by
      rw [h2]; show (opn k ++ (txt K ++ clo k)) ++ rest = _; simp [List.append_assoc]
    have hd := drop_of_drop h2'
    have hd2 := drop_of_drop hd
    have hl : R.length = p.toNat + ((opn k).length + ((txt K).length + ((clo k).length + rest.length))) := by
      rw [len_of_drop h2' (by rw [← h2', h2]; exact hne)]; simp only [List.length_append]
    have hl6 : o + ((K.length + 1 : Nat) : Int) ≤ 200 := h6
    refine .more k K hk hkz (by rw [hd]; exact kz_txt hK _) ?_ (by omega) (fun i hi => getE_of_drop h2' hi) (fun i hi => getE_of_drop hd2 hi) ?_ (by omega)
    · refine ⟨K, clo k ++ rest, hK, ?_, ?_, by omega, by omega, by omega, h7⟩
      · rw [← hd]; congr 1
      · have : k = 0 ∨ k = 1 ∨ (clo k = []) := by
          match k, hk with
          | 0, _ => exact .inl rfl
          | 1, _ => exact .inr (.inl rfl)
          | 2, _ => exact .inr (.inr rfl)
          | 3, _ => exact .inr (.inr rfl)
          | 4, _ => exact .inr (.inr rfl)
        rcases this with rfl | rfl | e
        · right; left; rfl
        · right; right; rfl
        · rw [e]; exact h3
    · obtain ⟨x, l, e, hx⟩ := txt_head K
      refine ⟨x, ?_, hx⟩
      have := getE_of_drop hd (i := 0) (by rw [e]; simp)
      rw [Nat.add_zero] at this
      rw [this]; congr 1; simp only [e]; rfl
end Go.Ev
