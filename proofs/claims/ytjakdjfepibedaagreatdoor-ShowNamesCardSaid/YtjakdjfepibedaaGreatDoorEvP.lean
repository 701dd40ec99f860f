import Derived.Test.YtjakdjfepibedaaGreatDoorEvO
import Derived.Laws.Strings
import Derived.Laws.StructEq
set_option linter.all false
namespace Go.Ev
/- Sums, comparisons, bits, strings, equality. -/
theorem wrapF_eq (k : IntKind) (n : Int) : wrapF k n = k.wrap n := by
  cases n with
  | ofNat m =>
    simp only [wrapF, bc_eq]
    split
    · rename_i h
      have h := Nat.le_of_ble_eq_true h
      cases k <;> simp only [topK] at h <;> simp only [IntKind.wrap, IntKind.bits, IntKind.signed] <;> simp <;> omega
    · rfl
  | negSucc m =>
    simp only [wrapF, bc_eq]
    split
    · rename_i hs
      split
      · rename_i h
        have h := Nat.le_of_ble_eq_true h
        cases k <;> simp only [sgnK] at hs <;> first
          | (cases hs; done)
          | (simp only [topK] at h; simp only [IntKind.wrap, IntKind.bits, IntKind.signed]; simp; omega)
      · rfl
    · rfl
theorem ileb_eq (a b : Int) : ileb a b = decide (a ≤ b) := by
  cases a <;> cases b <;> simp only [ileb] <;> rename_i m n
  · rw [Bool.eq_iff_iff]; simp [Nat.ble_eq]
  · simp; omega
  · simp; omega
  · rw [Bool.eq_iff_iff]; simp [Nat.ble_eq]; omega
theorem ieqb_eq (a b : Int) : ieqb a b = (a == b) := by
  cases a <;> cases b <;> simp only [ieqb] <;> rename_i m n
  · rw [Bool.eq_iff_iff]; simp; omega
  · symm; rw [beq_eq_false_iff_ne]; simp
  · symm; rw [beq_eq_false_iff_ne]; simp
  · rw [Bool.eq_iff_iff]; simp
theorem kbeq_iff (k l : IntKind) : kbeq k l = true ↔ k = l := by cases k <;> cases l <;> simp [kbeq]
theorem top_lt (k : IntKind) : topK k < 2 ^ k.bits := by cases k <;> decide
theorem topK_pow (k : IntKind) : ∃ m, topK k = 2 ^ m - 1 ∧ m ≤ k.bits := by
  cases k
  · exact ⟨7, by decide, by decide⟩
  · exact ⟨15, by decide, by decide⟩
  · exact ⟨31, by decide, by decide⟩
  · exact ⟨63, by decide, by decide⟩
  · exact ⟨8, by decide, by decide⟩
  · exact ⟨16, by decide, by decide⟩
  · exact ⟨32, by decide, by decide⟩
  · exact ⟨64, by decide, by decide⟩
theorem ofInt_nat (n m : Nat) (h : m < 2 ^ n) : (BitVec.ofInt n (Int.ofNat m)).toNat = m := by
  simp [BitVec.ofInt]
  exact Nat.mod_eq_of_lt h
theorem wrap_small (k : IntKind) (m : Nat) (h : m ≤ topK k) : k.wrap (Int.ofNat m) = Int.ofNat m := by
  rw [← wrapF_eq]; simp only [wrapF, bc_eq, Nat.ble_eq_true_of_le h, if_true]
theorem bitsF_eq (op : BinOp) (k : IntKind) (x y : Int) : bitsF op k x y = bitsSlow op k x y := by
  unfold bitsF
  split
  · rename_i a b
    simp only [bc_eq]
    split
    · rename_i h1
      split
      · rename_i h2
        have h1 := Nat.le_of_ble_eq_true h1
        have h2 := Nat.le_of_ble_eq_true h2
        have := top_lt k
        simp only [bitsSlow, BitVec.toNat_and, ofInt_nat k.bits a (by omega), ofInt_nat k.bits b (by omega)]
        congr 1
        symm
        exact wrap_small k _ (Nat.le_trans Nat.and_le_left h1)
      · rfl
    · rfl
  · rename_i a b
    simp only [bc_eq]
    split
    · rename_i h1
      split
      · rename_i h2
        have h1 := Nat.le_of_ble_eq_true h1
        have h2 := Nat.le_of_ble_eq_true h2
        have := top_lt k
        simp only [bitsSlow, BitVec.toNat_or, ofInt_nat k.bits a (by omega), ofInt_nat k.bits b (by omega)]
        congr 1
        symm
        refine wrap_small k _ ?_
        obtain ⟨m, hm, _⟩ := topK_pow k
        have hp : 0 < 2 ^ m := Nat.pow_pos (by decide)
        have := Nat.or_lt_two_pow (x := a) (y := b) (n := m) (by omega) (by omega)
        omega
      · rfl
    · rfl
  · rename_i a b
    simp only [bc_eq]
    split
    · rename_i h1
      split
      · rename_i h2
        have h1 := Nat.le_of_ble_eq_true h1
        have h2 := Nat.le_of_ble_eq_true h2
        have := top_lt k
        simp only [bitsSlow, BitVec.toNat_xor, ofInt_nat k.bits a (by omega), ofInt_nat k.bits b (by omega)]
        congr 1
        symm
        refine wrap_small k _ ?_
        obtain ⟨m, hm, _⟩ := topK_pow k
        have hp : 0 < 2 ^ m := Nat.pow_pos (by decide)
        have := Nat.xor_lt_two_pow (x := a) (y := b) (n := m) (by omega) (by omega)
        omega
      · rfl
    · rfl
  · rfl
section
variable {ρ : Env} {a : W} {w : World}
theorem rel_int {k : IntKind} {x y : Int} (h : x = y) : VRel ρ (.int k x) (.int k y) := by simp only [VRel, h]
theorem rel_bool {x y : Bool} (h : x = y) : VRel ρ (.bool x) (.bool y) := by simp only [VRel, h]
theorem bitsSlow_run {op : BinOp} {k : IntKind} {m n r : Int} (h : bitsSlow op k m n = some r) : (Op.intBits op k m n).run PP w = .ok (.int k r) w := by
  cases op <;> simp only [bitsSlow] at h <;> first | (cases h; done) | (cases h; rfl)
/-- two integers -/
theorem intBin_run {op : BinOp} {k k' : IntKind} {m n : Int} {v : AV} (t : TypeId) (h : intBin op k m n = some v) (hk : k = k' ∨ op = .shl ∨ op = .shr) :
    ∃ v', (binOp op t (.int k m) (.int k' n)).run PP w = .ok v' w ∧ VRel ρ v v' := by
  have pos : ∀ n : Int, ileb 0 n = true → ¬ n < 0 := by intro n h; rw [ileb_eq] at h; simp at h; omega
  have ne : ∀ n : Int, ieqb n 0 = false → n ≠ 0 := by intro n h; rw [ieqb_eq] at h; simpa using h
  cases op with
  | shl =>
    simp only [intBin, bc_eq] at h
    split at h
    · rename_i hb
      cases h
      refine ⟨_, ?_, rel_int (wrapF_eq _ _)⟩
      simp [binOp, Op.shift, pos n hb]
    · cases h
  | shr =>
    simp only [intBin, bc_eq] at h
    split at h
    · rename_i hb
      cases h
      refine ⟨_, ?_, rel_int rfl⟩
      simp [binOp, Op.shift, pos n hb]
    · cases h
  | add => obtain rfl := hk.resolve_right (by simp); cases h; exact ⟨_, by simp only [binOp, Op.intArith, ne_eq, not_true_eq_false, if_false]; rfl, rel_int (wrapF_eq _ _)⟩
  | sub => obtain rfl := hk.resolve_right (by simp); cases h; exact ⟨_, by simp only [binOp, Op.intArith, ne_eq, not_true_eq_false, if_false]; rfl, rel_int (wrapF_eq _ _)⟩
  | mul => obtain rfl := hk.resolve_right (by simp); cases h; exact ⟨_, by simp only [binOp, Op.intArith, ne_eq, not_true_eq_false, if_false]; rfl, rel_int (wrapF_eq _ _)⟩
  | eql => obtain rfl := hk.resolve_right (by simp); cases h; exact ⟨_, by simp only [binOp, Op.intCmp, ne_eq, not_true_eq_false, if_false]; rfl, rel_bool (ieqb_eq _ _)⟩
  | neq => obtain rfl := hk.resolve_right (by simp); cases h; exact ⟨_, by simp only [binOp, Op.intCmp, ne_eq, not_true_eq_false, if_false]; rfl, rel_bool (by rw [ieqb_eq]; rfl)⟩
  | lss => obtain rfl := hk.resolve_right (by simp); cases h; exact ⟨_, by simp only [binOp, Op.intCmp, ne_eq, not_true_eq_false, if_false]; rfl, rel_bool (by rw [ileb_eq, ← decide_not]; congr 1; simp)⟩
  | leq => obtain rfl := hk.resolve_right (by simp); cases h; exact ⟨_, by simp only [binOp, Op.intCmp, ne_eq, not_true_eq_false, if_false]; rfl, rel_bool (ileb_eq _ _)⟩
  | gtr => obtain rfl := hk.resolve_right (by simp); cases h; exact ⟨_, by simp only [binOp, Op.intCmp, ne_eq, not_true_eq_false, if_false]; rfl, rel_bool (by rw [ileb_eq, ← decide_not]; congr 1; simp)⟩
  | geq => obtain rfl := hk.resolve_right (by simp); cases h; exact ⟨_, by simp only [binOp, Op.intCmp, ne_eq, not_true_eq_false, if_false]; rfl, rel_bool (ileb_eq _ _)⟩
  | quo =>
    obtain rfl := hk.resolve_right (by simp)
    simp only [intBin, bc_eq] at h
    split at h
    · cases h
    · rename_i hb
      cases h
      exact ⟨_, by simp only [binOp, Op.intDiv, ne_eq, not_true_eq_false, if_false, ne n (by simpa using hb)]; rfl, rel_int (wrapF_eq _ _)⟩
  | rem =>
    obtain rfl := hk.resolve_right (by simp)
    simp only [intBin, bc_eq] at h
    split at h
    · cases h
    · rename_i hb
      cases h
      exact ⟨_, by simp only [binOp, Op.intDiv, ne_eq, not_true_eq_false, if_false, ne n (by simpa using hb)]; rfl, rel_int rfl⟩
  | and =>
    obtain rfl := hk.resolve_right (by simp)
    simp only [intBin, bitsF_eq, Option.map_eq_some_iff] at h
    obtain ⟨r, hr, rfl⟩ := h
    exact ⟨_, by simp only [binOp, ne_eq, not_true_eq_false, if_false]; exact bitsSlow_run hr, rel_int rfl⟩
  | or =>
    obtain rfl := hk.resolve_right (by simp)
    simp only [intBin, bitsF_eq, Option.map_eq_some_iff] at h
    obtain ⟨r, hr, rfl⟩ := h
    exact ⟨_, by simp only [binOp, ne_eq, not_true_eq_false, if_false]; exact bitsSlow_run hr, rel_int rfl⟩
  | xor =>
    obtain rfl := hk.resolve_right (by simp)
    simp only [intBin, bitsF_eq, Option.map_eq_some_iff] at h
    obtain ⟨r, hr, rfl⟩ := h
    exact ⟨_, by simp only [binOp, ne_eq, not_true_eq_false, if_false]; exact bitsSlow_run hr, rel_int rfl⟩
  | andNot =>
    obtain rfl := hk.resolve_right (by simp)
    simp only [intBin, bitsF_eq, Option.map_eq_some_iff] at h
    obtain ⟨r, hr, rfl⟩ := h
    exact ⟨_, by simp only [binOp, ne_eq, not_true_eq_false, if_false]; exact bitsSlow_run hr, rel_int rfl⟩
theorem unpack_toList (l n : Nat) : (unpack l n).toList = bytesOf l n := by unfold unpack; rw [ByteArray.toList_mk]
theorem beq_unpack (l n l' n' : Nat) (h : n < 256 ^ l) (h' : n' < 256 ^ l') : ((unpack l n).toList == (unpack l' n').toList) = sEq l n l' n' := by
  rw [sEq_iff l n l' n' h h', Bool.eq_iff_iff, beq_iff_eq, decide_eq_true_eq]
  constructor
  · intro e; rw [unpack_toList, unpack_toList] at e; unfold unpack; rw [e]
  · intro e; rw [e]
theorem strBin_run {op : BinOp} {l n l' n' : Nat} {v : AV} (t : TypeId) (h : strBin op l n l' n' = some v) (h1 : n < 256 ^ l) (h2 : n' < 256 ^ l') :
    ∃ v', (binOp op t (.string (unpack l n)) (.string (unpack l' n'))).run PP w = .ok v' w ∧ VRel ρ v v' := by
  cases op <;> simp only [strBin] at h <;> try (cases h; done)
  · rw [bc_eq] at h
    split at h
    · rename_i hb
      have hb := Nat.le_of_ble_eq_true hb
      cases h
      refine ⟨.string (unpack l n ++ unpack l' n'), ?_, ?_⟩
      · have : ¬ (((unpack l n).size + (unpack l' n').size : Nat) : Int) > IntKind.i64.max := by
          rw [unpack_size, unpack_size]
          simp [IntKind.max, IntKind.bits, IntKind.signed]; omega
        simp only [binOp, Op.stringOp, this, if_false]
        rfl
      · unfold sCat
        simp only [VRel]
        refine ⟨cat_lt _ _ _ _ h1 h2, ?_⟩
        congr 1
        have e : ∀ x y : List UInt8, (⟨x.toArray⟩ : ByteArray) ++ ⟨y.toArray⟩ = ⟨(x ++ y).toArray⟩ := by
          intro x y
          apply ByteArray.ext
          simp
        unfold unpack
        rw [e, show Nat.pow 256 l' = 256 ^ l' from rfl, bytesOf_cat _ _ _ _ h2]
    · cases h
  · cases h
    exact ⟨_, by rw [binOp_string_eql]; rfl, rel_bool (beq_unpack _ _ _ _ h1 h2).symm⟩
  · cases h
    exact ⟨_, by rw [binOp_string_neq]; rfl, rel_bool (by rw [beq_unpack _ _ _ _ h1 h2])⟩
theorem bc_and {x y : Bool} : bc x y false = true ↔ x = true ∧ y = true := by cases x <;> cases y <;> simp [bc_eq]
theorem int_beq (m n : Int) : (m == n) = decide (m = n) := by rw [Bool.eq_iff_iff]; simp
theorem seEq_eq : ∀ (a b : SE), seEq a b = true → a = b
  | .v i, .v j, h => by rw [Nat.eq_of_beq_eq_true h]
  | .c m, .c n, h => by have h : ieqb m n = true := h; rw [ieqb_eq] at h; simp at h; rw [h]
  | .bin o k a b, .bin o' k' a' b', h => by
    simp only [seEq] at h
    obtain ⟨h1, h⟩ := bc_and.1 h
    obtain ⟨h2, h⟩ := bc_and.1 h
    obtain ⟨h3, h4⟩ := bc_and.1 h
    rw [Nat.eq_of_beq_eq_true h1, (kbeq_iff _ _).1 h2, seEq_eq a a' h3, seEq_eq b b' h4]
  | .v _, .c _, h | .v _, .bin .., h | .c _, .v _, h | .c _, .bin .., h | .bin .., .v _, h | .bin .., .c _, h => by cases h
theorem saFind_ok {σ : Nat → Int} {lt : Bool} {a b : SE} {r : Bool} : ∀ {A : List SA}, SAll σ A → saFind lt a b A = some r → (SA.mk lt a b r).holds σ
  | [], _, h => by cases h
  | .mk lt' a' b' r' :: A, hA, h => by
    have ih := fun h => saFind_ok (A := A) (σ := σ) (lt := lt) (a := a) (b := b) (r := r) (fun x hx => hA x (List.mem_cons_of_mem _ hx)) h
    simp only [saFind, bc_eq] at h
    split at h
    · rename_i h1
      split at h
      · rename_i h2
        split at h
        · rename_i h3
          injection h with h
          subst h
          have h1 : lt = lt' := by cases lt <;> cases lt' <;> first | rfl | cases h1
          subst h1
          rw [seEq_eq _ _ h2, seEq_eq _ _ h3]
          exact hA _ (by simp)
        · exact ih h
      · exact ih h
    · exact ih h
theorem seCmp_ok {σ : Nat → Int} {lt : Bool} {a b : SE} {A : List SA} {r : Bool} (hA : SAll σ A) (h : seCmp lt a b A = some r) : (SA.mk lt a b r).holds σ := by
  unfold seCmp at h
  split at h
  · rename_i m n
    injection h with h
    subst h
    cases lt
    · show decide (m = n) = _; rw [bc_eq]; simp only [Bool.false_eq_true, if_false]; rw [ieqb_eq, int_beq]
    · show decide (m < n) = _; rw [bc_eq]; simp only [if_true]; rw [ileb_eq]; by_cases e : n ≤ m <;> simp [e] <;> omega
  · rw [bc_eq] at h
    split at h
    · rename_i he
      injection h with h
      subst h
      rw [seEq_eq _ _ he]
      cases lt
      · show decide (_ = _) = _; simp
      · show decide (_ < _) = _; simp
    · exact saFind_ok hA h
theorem symOp_ok {op : BinOp} {k : IntKind} {a b : SE} {A : List SA} {v : AV} (hV : VarsIn ρ) (hA : SAll ρ.val A) (h : symOp op k a b A = some v) :
    ∃ v0, intBin op k (a.eval ρ.val) (b.eval ρ.val) = some v0 ∧ ∀ x, VRel ρ v0 x → VRel ρ v x := by
  have nz : ∀ r, seCmp false b (.c 0) A = some r → ieqb (b.eval ρ.val) 0 = r := by
    intro r hr
    have := seCmp_ok hA hr
    have this : decide (b.eval ρ.val = 0) = r := this
    rw [ieqb_eq, int_beq]; exact this
  unfold symOp at h
  split at h
  · injection h with h; subst h
    exact ⟨_, rfl, fun x hx => by simp only [VRel] at hx ⊢; rw [wrapF_eq] at hx; exact ⟨hV, hA, hx⟩⟩
  · injection h with h; subst h
    exact ⟨_, rfl, fun x hx => by simp only [VRel] at hx ⊢; rw [wrapF_eq] at hx; exact ⟨hV, hA, hx⟩⟩
  · injection h with h; subst h
    exact ⟨_, rfl, fun x hx => by simp only [VRel] at hx ⊢; rw [wrapF_eq] at hx; exact ⟨hV, hA, hx⟩⟩
  · split at h <;> try (cases h; done)
    rename_i he
    injection h with h; subst h
    exact ⟨.int k (wrapF k ((a.eval ρ.val).tdiv (b.eval ρ.val))), by simp only [intBin, nz _ he, bc_eq, Bool.false_eq_true, if_false], fun x hx => by simp only [VRel] at hx ⊢; rw [wrapF_eq] at hx; exact ⟨hV, hA, hx⟩⟩
  · split at h <;> try (cases h; done)
    rename_i he
    injection h with h; subst h
    exact ⟨.int k ((a.eval ρ.val).tmod (b.eval ρ.val)), by simp only [intBin, nz _ he, bc_eq, Bool.false_eq_true, if_false], fun x hx => by simp only [VRel] at hx ⊢; exact ⟨hV, hA, hx⟩⟩
  · simp only [Option.map_eq_some_iff] at h
    obtain ⟨r, hr, rfl⟩ := h
    have := seCmp_ok hA hr
    have this : decide (a.eval ρ.val = b.eval ρ.val) = r := this
    exact ⟨_, rfl, fun x hx => by simp only [VRel] at hx ⊢; rw [ieqb_eq, int_beq, this] at hx; exact hx⟩
  · simp only [Option.map_eq_some_iff] at h
    obtain ⟨r, hr, rfl⟩ := h
    have := seCmp_ok hA hr
    have this : decide (a.eval ρ.val = b.eval ρ.val) = r := this
    exact ⟨_, rfl, fun x hx => by simp only [VRel] at hx ⊢; rw [ieqb_eq, int_beq, this] at hx; exact hx⟩
  · simp only [Option.map_eq_some_iff] at h
    obtain ⟨r, hr, rfl⟩ := h
    have := seCmp_ok hA hr
    have this : decide (a.eval ρ.val < b.eval ρ.val) = r := this
    refine ⟨_, rfl, fun x hx => ?_⟩
    simp only [VRel] at hx ⊢
    rw [hx, ileb_eq, ← this]
    by_cases e : b.eval ρ.val ≤ a.eval ρ.val <;> simp [e] <;> omega
  · simp only [Option.map_eq_some_iff] at h
    obtain ⟨r, hr, rfl⟩ := h
    have := seCmp_ok hA hr
    have this : decide (b.eval ρ.val < a.eval ρ.val) = r := this
    refine ⟨_, rfl, fun x hx => ?_⟩
    simp only [VRel] at hx ⊢
    rw [hx, ileb_eq, ← this]
    by_cases e : a.eval ρ.val ≤ b.eval ρ.val <;> simp [e] <;> omega
  · simp only [Option.map_eq_some_iff] at h
    obtain ⟨r, hr, rfl⟩ := h
    have := seCmp_ok hA hr
    have this : decide (b.eval ρ.val < a.eval ρ.val) = r := this
    refine ⟨_, rfl, fun x hx => ?_⟩
    simp only [VRel] at hx ⊢
    rw [hx, ileb_eq, ← this]
    by_cases e : a.eval ρ.val ≤ b.eval ρ.val <;> simp [e] <;> omega
  · simp only [Option.map_eq_some_iff] at h
    obtain ⟨r, hr, rfl⟩ := h
    have := seCmp_ok hA hr
    have this : decide (a.eval ρ.val < b.eval ρ.val) = r := this
    refine ⟨_, rfl, fun x hx => ?_⟩
    simp only [VRel] at hx ⊢
    rw [hx, ileb_eq, ← this]
    by_cases e : b.eval ρ.val ≤ a.eval ρ.val <;> simp [e] <;> omega
  · cases h
theorem symMax_ok {mx : Bool} {k : IntKind} {a b : SE} {A : List SA} {v : AV} (hV : VarsIn ρ) (hA : SAll ρ.val A) (h : symMax mx k a b A = some v) :
    ∀ x, VRel ρ (.int k (bc (ileb (a.eval ρ.val) (b.eval ρ.val)) (bc mx (b.eval ρ.val) (a.eval ρ.val)) (bc mx (a.eval ρ.val) (b.eval ρ.val)))) x → VRel ρ v x := by
  intro x hx
  unfold symMax at h
  split at h <;> try (cases h; done)
  · rename_i hr
    have := seCmp_ok hA hr
    have this : decide (b.eval ρ.val < a.eval ρ.val) = true := this
    simp at this
    injection h with h; subst h
    simp only [VRel, ileb_eq] at hx ⊢
    rw [show decide (a.eval ρ.val ≤ b.eval ρ.val) = false by simp; omega] at hx
    refine ⟨hV, hA, ?_⟩
    cases mx <;> exact hx
  · rename_i hr
    have := seCmp_ok hA hr
    have this : decide (b.eval ρ.val < a.eval ρ.val) = false := this
    simp at this
    injection h with h; subst h
    simp only [VRel, ileb_eq] at hx ⊢
    rw [show decide (a.eval ρ.val ≤ b.eval ρ.val) = true by simp; omega] at hx
    refine ⟨hV, hA, ?_⟩
    cases mx <;> exact hx
end
end Go.Ev
