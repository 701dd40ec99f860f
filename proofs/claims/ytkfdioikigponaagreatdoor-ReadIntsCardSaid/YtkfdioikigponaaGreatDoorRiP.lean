import Derived.Test.YtkfdioikigponaaGreatDoorEvO
set_option linter.all false
namespace Go.Ev
/- Integers as they are written: plain facts. -/
theorem decV_append : ∀ (l m : List Int) (a : Int), decV (l ++ m) a = decV m (decV l a)
  | [], _, _ => rfl
  | x :: l, m, a => by show decV (l ++ m) _ = decV m (decV l _); exact decV_append l m _
theorem decV_zeros : ∀ (k : Nat) (l : List Int), decV (List.replicate k 48 ++ l) 0 = decV l 0
  | 0, _ => rfl
  | k + 1, l => by rw [List.replicate_succ]; show decV (List.replicate k 48 ++ l) (0 * 10 + (48 - 48)) = _; exact decV_zeros k l
theorem decF_val : ∀ (f n : Nat), n < f → decV (decF f n) 0 = (n : Int)
  | 0, n, h => by omega
  | f + 1, n, h => by
    unfold decF
    split
    · show (0 * 10 + (48 + (n : Int) - 48) : Int) = n; omega
    · rw [decV_append, decF_val f (n / 10) (by omega)]
      show ((((n / 10 : Nat) : Int) * 10 + (48 + ((n % 10 : Nat) : Int) - 48)) : Int) = n
      omega
theorem decD_val (n : Nat) : decV (decD n) 0 = (n : Int) := decF_val _ _ (by omega)
theorem decF_dig : ∀ (f n : Nat), ∀ x ∈ decF f n, isDigB x = true
  | 0, _, x, h => by cases h
  | f + 1, n, x, h => by
    unfold decF at h
    split at h
    · simp only [List.mem_singleton] at h; subst h; simp only [isDigB, decide_eq_true_eq]; omega
    · rcases List.mem_append.1 h with h | h
      · exact decF_dig f _ x h
      · simp only [List.mem_singleton] at h; subst h; simp only [isDigB, decide_eq_true_eq]; omega
theorem decF_len : ∀ (k f n : Nat), n < 10 ^ (k + 1) → (decF f n).length ≤ k + 1
  | _, 0, _, _ => by simp [decF]
  | 0, f + 1, n, h => by unfold decF; rw [if_pos (by omega)]; simp
  | k + 1, f + 1, n, h => by
    unfold decF
    split
    · simp
    · have := decF_len k f (n / 10) (by rw [Nat.pow_succ] at h; omega)
      rw [List.length_append, List.length_singleton]; omega
theorem decF_pos : ∀ (f n : Nat), n < f → 1 ≤ (decF f n).length
  | 0, n, h => by omega
  | f + 1, n, h => by unfold decF; split <;> simp
theorem decF_fuel : ∀ (f g n : Nat), n < f → n < g → decF f n = decF g n
  | 0, _, n, h, _ => by omega
  | _, 0, n, _, h => by omega
  | f + 1, g + 1, n, h1, h2 => by
    unfold decF
    split
    · rfl
    · rw [decF_fuel f g (n / 10) (by omega) (by omega)]
/-- one step of the digits -/
theorem decD_small {n : Nat} (h : n < 10) : decD n = [48 + (n : Int)] := by unfold decD decF; rw [if_pos h]
theorem decD_step {n : Nat} (h : ¬ n < 10) : decD n = decD (n / 10) ++ [48 + ((n % 10 : Nat) : Int)] := by
  show decF (n + 1) n = _
  unfold decF
  rw [if_neg h]
  congr 1
  exact decF_fuel _ _ _ (by omega) (by omega)
theorem take_dig : ∀ (d t : List Int), (∀ x ∈ d, isDigB x = true) → (t = [] ∨ t = [41]) → (d ++ t).takeWhile isDigB = d
  | [], t, _, h => by rcases h with rfl | rfl <;> rfl
  | x :: d, t, h, ht => by
    rw [List.cons_append, List.takeWhile_cons, if_pos (h x (by simp)), take_dig d t (fun y hy => h y (by simp [hy])) ht]
/-- an integer as it is written: what its parts are -/
theorem parts_plain {d t : List Int} (h : ∀ x ∈ d, isDigB x = true) (h1 : 1 ≤ d.length) (ht : t = [] ∨ t = [41]) : sgN (d ++ t) = 0 ∧ digS (d ++ t) = d ∧ neg (d ++ t) = false := by
  obtain ⟨x, d', rfl⟩ : ∃ x d', d = x :: d' := by cases d with | nil => simp at h1 | cons x d' => exact ⟨x, d', rfl⟩
  have hx := h x (by simp)
  simp only [isDigB, decide_eq_true_eq] at hx
  have h0 : sgN (x :: d' ++ t) = 0 := if_neg (show ¬ (x = 43 ∨ x = 45) by omega)
  refine ⟨h0, ?_, ?_⟩
  · unfold digS; rw [h0, List.drop_zero]; exact take_dig _ _ h ht
  · exact decide_eq_false (show ¬ x = 45 by omega)
theorem parts_sign {c : Int} {d t : List Int} (hc : c = 43 ∨ c = 45) (h : ∀ x ∈ d, isDigB x = true) (ht : t = [] ∨ t = [41]) : sgN (c :: (d ++ t)) = 1 ∧ digS (c :: (d ++ t)) = d ∧ neg (c :: (d ++ t)) = decide (c = 45) := by
  have h0 : sgN (c :: (d ++ t)) = 1 := if_pos hc
  refine ⟨h0, ?_, rfl⟩
  unfold digS; rw [h0]; exact take_dig _ _ h ht
end Go.Ev
