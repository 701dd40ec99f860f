import Derived.Test.YtgoaahdiilnfmaaGreatDoorEvO
import Derived.Laws.Strings
import Derived.Laws.StructEq
set_option linter.all false
namespace Go.Ev
/- Sums, comparisons, bits, strings, equality. -/
theorem wrapF_eq (k : IntKind) (n : Int) : wrapF k n = k.wrap n := by
  cases n with
  | ofNat m =>
    simp only [wrapF, bc_eq]
    split
    · rename_i h
      have h := Nat.le_of_ble_eq_true h
      cases k <;> simp only [topK] at h <;> simp only [IntKind.wrap, IntKind.bits, IntKind.signed] <;> simp <;> omega
    · rfl
  | negSucc m =>
    simp only [wrapF, bc_eq]
    split
    · rename_i hs
      split
      · rename_i h
        have h := Nat.le_of_ble_eq_true h
        cases k <;> simp only [sgnK] at hs <;> first
          | (cases hs; done)
          | (simp only [topK] at h; simp only [IntKind.wrap, IntKind.bits, IntKind.signed]; simp; omega)
      · rfl
    · rfl
theorem ileb_eq (a b : Int) : ileb a b = decide (a ≤ b) := by
  cases a <;> cases b <;> simp only [ileb] <;> rename_i m n
  · rw [Bool.eq_iff_iff]; simp [Nat.ble_eq]
  · simp; omega
  · simp; omega
  · rw [Bool.eq_iff_iff]; simp [Nat.ble_eq]; omega
theorem ieqb_eq (a b : Int) : ieqb a b = (a == b) := by
  cases a <;> cases b <;> simp only [ieqb] <;> rename_i m n
  · rw [Bool.eq_iff_iff]; simp; omega
  · symm; rw [beq_eq_false_iff_ne]; simp
  · symm; rw [beq_eq_false_iff_ne]; simp
  · rw [Bool.eq_iff_iff]; simp
theorem kbeq_iff (k l : IntKind) : kbeq k l = true ↔ k = l := by cases k <;> cases l <;> simp [kbeq]
theorem top_lt (k : IntKind) : topK k < 2 ^ k.bits := by cases k <;> decide
theorem topK_pow (k : IntKind) : ∃ m, topK k = 2 ^ m - 1 ∧ m ≤ k.bits := by
  cases k
  · exact ⟨7, by decide, by decide⟩
  · exact ⟨15, by decide, by decide⟩
  · exact ⟨31, by decide, by decide⟩
  · exact ⟨63, by decide, by decide⟩
  · exact ⟨8, by decide, by decide⟩
  · exact ⟨16, by decide, by decide⟩
  · exact ⟨32, by decide, by decide⟩
  · exact ⟨64, by decide, by decide⟩
theorem ofInt_nat (n m : Nat) (h : m < 2 ^ n) : (BitVec.ofInt n (Int.ofNat m)).toNat = m := by
  simp [BitVec.ofInt]
  exact Nat.mod_eq_of_lt h
theorem wrap_small (k : IntKind) (m : Nat) (h : m ≤ topK k) : k.wrap (Int.ofNat m) = Int.ofNat m := by
  rw [← wrapF_eq]; simp only [wrapF, bc_eq, Nat.ble_eq_true_of_le h, if_true]
theorem bitsF_eq (op : BinOp) (k : IntKind) (x y : Int) : bitsF op k x y = bitsSlow op k x y := by
  unfold bitsF
  split
  · rename_i a b
    simp only [bc_eq]
    split
    · rename_i h1
      split
      · rename_i h2
        have h1 := Nat.le_of_ble_eq_true h1
        have h2 := Nat.le_of_ble_eq_true h2
        have := top_lt k
        simp only [bitsSlow, BitVec.toNat_and, ofInt_nat k.bits a (by omega), ofInt_nat k.bits b (by omega)]
        congr 1
        symm
        exact wrap_small k _ (Nat.le_trans Nat.and_le_left h1)
      · rfl
    · rfl
  · rename_i a b
    simp only [bc_eq]
    split
    · rename_i h1
      split
      · rename_i h2
        have h1 := Nat.le_of_ble_eq_true h1
        have h2 := Nat.le_of_ble_eq_true h2
        have := top_lt k
        simp only [bitsSlow, BitVec.toNat_or, ofInt_nat k.bits a (by omega), ofInt_nat k.bits b (by omega)]
        congr 1
        symm
        refine wrap_small k _ ?_
        obtain ⟨m, hm, _⟩ := topK_pow k
        have hp : 0 < 2 ^ m := Nat.pow_pos (by decide)
        have := Nat.or_lt_two_pow (x := a) (y := b) (n := m) (by omega) (by omega)
        omega
      · rfl
    · rfl
  · rename_i a b
    simp only [bc_eq]
    split
    · rename_i h1
      split
      · rename_i h2
        have h1 := Nat.le_of_ble_eq_true h1
        have h2 := Nat.le_of_ble_eq_true h2
        have := top_lt k
        simp only [bitsSlow, BitVec.toNat_xor, ofInt_nat k.bits a (by omega), ofInt_nat k.bits b (by omega)]
        congr 1
        symm
        refine wrap_small k _ ?_
        obtain ⟨m, hm, _⟩ := topK_pow k
        have hp : 0 < 2 ^ m := Nat.pow_pos (by decide)
        have := Nat.xor_lt_two_pow (x := a) (y := b) (n := m) (by omega) (by omega)
        omega
      · rfl
    · rfl
  · rfl
section
variable {ρ : Env} {a : W} {w : World}
theorem rel_int {k : IntKind} {x y : Int} (h : x = y) : VRel ρ (.int k x) (.int k y) := by simp only [VRel, h]
theorem rel_bool {x y : Bool} (h : x = y) : VRel ρ (.bool x) (.bool y) := by simp only [VRel, h]
theorem bitsSlow_run {op : BinOp} {k : IntKind} {m n r : Int} (h : bitsSlow op k m n = some r) : (Op.intBits op k m n).run PP w = .ok (.int k r) w := by
  cases op <;> simp only [bitsSlow] at h <;> first | (cases h; done) | (cases h; rfl)
/-- two integers -/
theorem intBin_run {op : BinOp} {k k' : IntKind} {m n : Int} {v : AV} (t : TypeId) (h : intBin op k m n = some v) (hk : k = k' ∨ op = .shl ∨ op = .shr) :
    ∃ v', (binOp op t (.int k m) (.int k' n)).run PP w = .ok v' w ∧ VRel ρ v v' := by
  have pos : ∀ n : Int, ileb 0 n = true → ¬ n < 0 := by intro n h; rw [ileb_eq] at h; simp at h; omega
  have ne : ∀ n : Int, ieqb n 0 = false → n ≠ 0 := by intro n h; rw [ieqb_eq] at h; simpa using h
  cases op with
  | shl =>
    simp only [intBin, bc_eq] at h
    split at h
    · rename_i hb
      cases h
      refine ⟨_, ?_, rel_int (wrapF_eq _ _)⟩
      simp [binOp, Op.shift, pos n hb]
    · cases h
  | shr =>
    simp only [intBin, bc_eq] at h
    split at h
    · rename_i hb
      cases h
      refine ⟨_, ?_, rel_int rfl⟩
      simp [binOp, Op.shift, pos n hb]
    · cases h
  | add => obtain rfl := hk.resolve_right (by simp); cases h; exact ⟨_, by simp only [binOp, Op.intArith, ne_eq, not_true_eq_false, if_false]; rfl, rel_int (wrapF_eq _ _)⟩
  | sub => obtain rfl := hk.resolve_right (by simp); cases h; exact ⟨_, by simp only [binOp, Op.intArith, ne_eq, not_true_eq_false, if_false]; rfl, rel_int (wrapF_eq _ _)⟩
  | mul => obtain rfl := hk.resolve_right (by simp); cases h; exact ⟨_, by simp only [binOp, Op.intArith, ne_eq, not_true_eq_false, if_false]; rfl, rel_int (wrapF_eq _ _)⟩
  | eql => obtain rfl := hk.resolve_right (by simp); cases h; exact ⟨_, by simp only [binOp, Op.intCmp, ne_eq, not_true_eq_false, if_false]; rfl, rel_bool (ieqb_eq _ _)⟩
  | neq => obtain rfl := hk.resolve_right (by simp); cases h; exact ⟨_, by simp only [binOp, Op.intCmp, ne_eq, not_true_eq_false, if_false]; rfl, rel_bool (by rw [ieqb_eq]; rfl)⟩
  | lss => obtain rfl := hk.resolve_right (by simp); cases h; exact ⟨_, by simp only [binOp, Op.intCmp, ne_eq, not_true_eq_false, if_false]; rfl, rel_bool (by rw [ileb_eq, ← decide_not]; congr 1; simp)⟩
  | leq => obtain rfl := hk.resolve_right (by simp); cases h; exact ⟨_, by simp only [binOp, Op.intCmp, ne_eq, not_true_eq_false, if_false]; rfl, rel_bool (ileb_eq _ _)⟩
  | gtr => obtain rfl := hk.resolve_right (by simp); cases h; exact ⟨_, by simp only [binOp, Op.intCmp, ne_eq, not_true_eq_false, if_false]; rfl, rel_bool (by rw [ileb_eq, ← decide_not]; congr 1; simp)⟩
  | geq => obtain rfl := hk.resolve_right (by simp); cases h; exact ⟨_, by simp only [binOp, Op.intCmp, ne_eq, not_true_eq_false, if_false]; rfl, rel_bool (ileb_eq _ _)⟩
  | quo =>
    obtain rfl := hk.resolve_right (by simp)
    simp only [intBin, bc_eq] at h
    split at h
    · cases h
    · rename_i hb
      cases h
      exact ⟨_, by simp only [binOp, Op.intDiv, ne_eq, not_true_eq_false, if_false, ne n (by simpa using hb)]; rfl, rel_int (wrapF_eq _ _)⟩
  | rem =>
    obtain rfl := hk.resolve_right (by simp)
    simp only [intBin, bc_eq] at h
    split at h
    · cases h
    · rename_i hb
      cases h
      exact ⟨_, by simp only [binOp, Op.intDiv, ne_eq, not_true_eq_false, if_false, ne n (by simpa using hb)]; rfl, rel_int rfl⟩
  | and =>
    obtain rfl := hk.resolve_right (by simp)
    simp only [intBin, bitsF_eq, Option.map_eq_some_iff] at h
    obtain ⟨r, hr, rfl⟩ := h
    exact ⟨_, by simp only [binOp, ne_eq, not_true_eq_false, if_false]; exact bitsSlow_run hr, rel_int rfl⟩
  | or =>
    obtain rfl := hk.resolve_right (by simp)
    simp only [intBin, bitsF_eq, Option.map_eq_some_iff] at h
    obtain ⟨r, hr, rfl⟩ := h
    exact ⟨_, by simp only [binOp, ne_eq, not_true_eq_false, if_false]; exact bitsSlow_run hr, rel_int rfl⟩
  | xor =>
    obtain rfl := hk.resolve_right (by simp)
    simp only [intBin, bitsF_eq, Option.map_eq_some_iff] at h
    obtain ⟨r, hr, rfl⟩ := h
    exact ⟨_, by simp only [binOp, ne_eq, not_true_eq_false, if_false]; exact bitsSlow_run hr, rel_int rfl⟩
  | andNot =>
    obtain rfl := hk.resolve_right (by simp)
    simp only [intBin, bitsF_eq, Option.map_eq_some_iff] at h
    obtain ⟨r, hr, rfl⟩ := h
    exact ⟨_, by simp only [binOp, ne_eq, not_true_eq_false, if_false]; exact bitsSlow_run hr, rel_int rfl⟩
theorem unpack_toList (l n : Nat) : (unpack l n).toList = bytesOf l n := by unfold unpack; rw [ByteArray.toList_mk]
theorem beq_unpack (l n l' n' : Nat) (h : n < 256 ^ l) (h' : n' < 256 ^ l') : ((unpack l n).toList == (unpack l' n').toList) = sEq l n l' n' := by
  rw [sEq_iff l n l' n' h h', Bool.eq_iff_iff, beq_iff_eq, decide_eq_true_eq]
  constructor
  · intro e; rw [unpack_toList, unpack_toList] at e; unfold unpack; rw [e]
  · intro e; rw [e]
theorem strBin_run {op : BinOp} {l n l' n' : Nat} {v : AV} (t : TypeId) (h : strBin op l n l' n' = some v) (h1 : n < 256 ^ l) (h2 : n' < 256 ^ l') :
    ∃ v', (binOp op t (.string (unpack l n)) (.string (unpack l' n'))).run PP w = .ok v' w ∧ VRel ρ v v' := by
  cases op <;> simp only [strBin] at h <;> try (cases h; done)
  · rw [bc_eq] at h
    split at h
    · rename_i hb
      have hb := Nat.le_of_ble_eq_true hb
      cases h
      refine ⟨.string (unpack l n ++ unpack l' n'), ?_, ?_⟩
      · have : ¬ (((unpack l n).size + (unpack l' n').size : Nat) : Int) > IntKind.i64.max := by
          rw [unpack_size, unpack_size]
          simp [IntKind.max, IntKind.bits, IntKind.signed]; omega
        simp only [binOp, Op.stringOp, this, if_false]
        rfl
      · unfold sCat
        simp only [VRel]
        refine ⟨cat_lt _ _ _ _ h1 h2, ?_⟩
        congr 1
        have e : ∀ x y : List UInt8, (⟨x.toArray⟩ : ByteArray) ++ ⟨y.toArray⟩ = ⟨(x ++ y).toArray⟩ := by
          intro x y
          apply ByteArray.ext
          simp
        unfold unpack
        rw [e, show Nat.pow 256 l' = 256 ^ l' from rfl, bytesOf_cat _ _ _ _ h2]
    · cases h
  · cases h
    exact ⟨_, by rw [binOp_string_eql]; rfl, rel_bool (beq_unpack _ _ _ _ h1 h2).symm⟩
  · cases h
    exact ⟨_, by rw [binOp_string_neq]; rfl, rel_bool (by rw [beq_unpack _ _ _ _ h1 h2])⟩
end
end Go.Ev
