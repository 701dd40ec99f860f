import Derived.Test.YtldcnedpfagliaaGreatDoorEvR
set_option linter.all false
namespace Go.Ev
/- Packed strings. -/
def bytesOf (len n : Nat) : List UInt8 := (List.range len).map fun i => UInt8.ofNat (n / 256 ^ (len - 1 - i))
def unpack (len n : Nat) : ByteArray := ⟨(bytesOf len n).toArray⟩
theorem bytesOf_length (len n : Nat) : (bytesOf len n).length = len := by simp [bytesOf]
theorem unpack_size (len n : Nat) : (unpack len n).size = len := by simp [unpack, ByteArray.size, bytesOf]
theorem bytesOf_get (len n i : Nat) (h : i < (bytesOf len n).length) : (bytesOf len n)[i] = UInt8.ofNat (n / 256 ^ (len - 1 - i)) := by simp [bytesOf]
theorem shiftRight_eq (n k : Nat) : Nat.shiftRight n (8 * k) = n / 256 ^ k := by
  show n >>> (8 * k) = _
  rw [Nat.shiftRight_eq_div_pow, Nat.pow_mul]
theorem sAt_eq (len n i : Nat) : sAt len n i = n / 256 ^ (len - 1 - i) % 256 := by
  unfold sAt; rw [shiftRight_eq]
theorem sAt_lt (len n i : Nat) : sAt len n i < 256 := by rw [sAt_eq]; exact Nat.mod_lt _ (by decide)
theorem u8_mod (n : Nat) : UInt8.ofNat (n % 256) = UInt8.ofNat n := by
  apply UInt8.toNat_inj.1; simp
theorem bytesOf_get' (len n i : Nat) (h : i < (bytesOf len n).length) : (bytesOf len n)[i] = UInt8.ofNat (sAt len n i) := by
  rw [bytesOf_get, sAt_eq, u8_mod]
theorem u8_toNat_sAt (len n i : Nat) : (UInt8.ofNat (sAt len n i)).toNat = sAt len n i := by
  have := sAt_lt len n i
  simp; omega
theorem bytesOf_cat (l1 n1 l2 n2 : Nat) (h : n2 < 256 ^ l2) : bytesOf (l1 + l2) (n1 * 256 ^ l2 + n2) = bytesOf l1 n1 ++ bytesOf l2 n2 := by
  apply List.ext_getElem
  · simp [bytesOf_length]
  · intro i h1 h2
    rw [bytesOf_get]
    rw [bytesOf_length] at h1
    rw [List.getElem_append]
    split
    · rename_i h3
      rw [bytesOf_length] at h3
      rw [bytesOf_get]
      have e : l1 + l2 - 1 - i = l2 + (l1 - 1 - i) := by omega
      rw [e, Nat.pow_add, ← Nat.div_div_eq_div_mul, Nat.mul_comm n1, Nat.mul_add_div (Nat.pow_pos (by decide)), Nat.div_eq_of_lt h, Nat.add_zero]
    · rename_i h3
      rw [bytesOf_length] at h3
      rw [bytesOf_get, bytesOf_length]
      have e : l1 + l2 - 1 - i = l2 - 1 - (i - l1) := by omega
      rw [e]
      have e2 : 256 ^ l2 = 256 ^ (l2 - 1 - (i - l1)) * 256 ^ (i - l1 + 1) := by rw [← Nat.pow_add]; congr 1; omega
      rw [e2, Nat.mul_left_comm, Nat.mul_add_div (Nat.pow_pos (by decide)), ← u8_mod, Nat.pow_succ, ← Nat.mul_assoc, Nat.mul_comm _ 256, Nat.mul_add_mod, u8_mod]
theorem cat_lt (l1 n1 l2 n2 : Nat) (h1 : n1 < 256 ^ l1) (h : n2 < 256 ^ l2) : n1 * 256 ^ l2 + n2 < 256 ^ (l1 + l2) := by
  rw [Nat.pow_add]
  have q1 : (n1 + 1) * 256 ^ l2 ≤ 256 ^ l1 * 256 ^ l2 := Nat.mul_le_mul_right _ h1
  rw [Nat.succ_mul] at q1
  omega
theorem bytesOf_cut (len n lo hi : Nat) (h1 : lo ≤ hi) (h2 : hi ≤ len) :
    bytesOf (hi - lo) (Nat.shiftRight n (8 * (len - hi)) % 256 ^ (hi - lo)) = (bytesOf len n).extract lo hi := by
  apply List.ext_getElem
  · simp [bytesOf_length]; omega
  · intro i h3 h4
    rw [bytesOf_length] at h3
    rw [bytesOf_get]
    simp only [List.extract_eq_take_drop, List.getElem_take, List.getElem_drop]
    rw [bytesOf_get, shiftRight_eq]
    have e2 : 256 ^ (hi - lo) = 256 ^ (hi - lo - 1 - i) * 256 ^ (i + 1) := by rw [← Nat.pow_add]; congr 1; omega
    rw [e2, Nat.mod_mul_right_div_self, ← u8_mod, Nat.pow_succ, Nat.mul_comm (256 ^ i) 256, Nat.mod_mul_right_mod, u8_mod, Nat.div_div_eq_div_mul, ← Nat.pow_add]
    congr 2
    congr 1
    omega
theorem bytesOf_snoc (len n : Nat) : bytesOf (len + 1) n = bytesOf len (n / 256) ++ [UInt8.ofNat n] := by
  have h := bytesOf_cat len (n / 256) 1 (n % 256) (by simpa using Nat.mod_lt _ (by decide))
  rw [Nat.pow_one, Nat.div_add_mod' n 256] at h
  rw [h]
  simp [bytesOf, u8_mod]
theorem bytesOf_inj : ∀ (l n n' : Nat), n < 256 ^ l → n' < 256 ^ l → bytesOf l n = bytesOf l n' → n = n' := by
  intro l
  induction l with
  | zero => intro n n' h h' _; simp at h h'; omega
  | succ l ih =>
    intro n n' h h' e
    rw [bytesOf_snoc, bytesOf_snoc] at e
    have ⟨e1, e2⟩ := List.append_inj' e rfl
    have h3 := ih (n / 256) (n' / 256) (by rw [Nat.pow_succ] at h; exact Nat.div_lt_of_lt_mul (by omega)) (by rw [Nat.pow_succ] at h'; exact Nat.div_lt_of_lt_mul (by omega)) e1
    simp only [List.cons.injEq, and_true] at e2
    have h4 := congrArg UInt8.toNat e2
    simp at h4
    omega
theorem packL_snoc (l : List UInt8) : ∀ (b : UInt8) (a : Nat), packL (l ++ [b]) a = packL l a * 256 + b.toNat := by
  induction l with
  | nil => intro b a; rfl
  | cons x l ih => intro b a; show packL (l ++ [b]) (a * 256 + x.toNat) = packL l (a * 256 + x.toNat) * 256 + b.toNat; exact ih b _
theorem pack_bytes : ∀ (n : Nat) (l : List UInt8), l.length = n → packL l 0 < 256 ^ n ∧ bytesOf n (packL l 0) = l := by
  intro n
  induction n with
  | zero => intro l h; obtain rfl := List.length_eq_zero_iff.1 h; exact ⟨by decide, rfl⟩
  | succ n ih =>
    intro l h
    obtain ⟨l', b, rfl⟩ : ∃ l' b, l = l' ++ [b] := ⟨l.dropLast, l.getLast (by intro e; simp [e] at h), (List.dropLast_concat_getLast _).symm⟩
    have ⟨h1, h2⟩ := ih l' (by simpa using h)
    rw [packL_snoc]
    have hb := UInt8.toNat_lt b
    constructor
    · rw [Nat.pow_succ]; omega
    · rw [bytesOf_snoc]
      have e : (packL l' 0 * 256 + b.toNat) / 256 = packL l' 0 := by omega
      rw [e, h2]
      congr 2
      rw [← u8_mod, show (packL l' 0 * 256 + b.toNat) % 256 = b.toNat by omega]
      simp
theorem unpack_pack (s : ByteArray) : unpack s.data.toList.length (packL s.data.toList 0) = s := by
  unfold unpack
  rw [(pack_bytes _ _ rfl).2]
theorem pack_lt (l : List UInt8) : packL l 0 < 256 ^ l.length := (pack_bytes _ l rfl).1
theorem sEq_iff (l n l' n' : Nat) (h : n < 256 ^ l) (h' : n' < 256 ^ l') : sEq l n l' n' = decide (unpack l n = unpack l' n') := by
  unfold sEq
  rw [bc_eq]
  by_cases e : l = l'
  · subst e
    rw [if_pos (Nat.beq_refl _)]
    by_cases e2 : n = n'
    · subst e2; simp
    · rw [show Nat.beq n n' = false from Bool.eq_false_iff.2 fun h => e2 (Nat.eq_of_beq_eq_true h)]
      symm
      rw [decide_eq_false_iff_not]
      intro e3
      unfold unpack at e3
      have e4 : bytesOf l n = bytesOf l n' := by simpa using e3
      exact e2 (bytesOf_inj l n n' h h' e4)
  · rw [if_neg (fun h => e (Nat.eq_of_beq_eq_true h))]
    symm
    rw [decide_eq_false_iff_not]
    intro e3
    have := congrArg ByteArray.size e3
    rw [unpack_size, unpack_size] at this
    exact e this
end Go.Ev
