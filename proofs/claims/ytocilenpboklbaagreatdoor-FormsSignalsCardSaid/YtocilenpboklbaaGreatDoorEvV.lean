import Derived.Test.YtocilenpboklbaaGreatDoorEvO
import Derived.Laws.Strings
import Derived.Laws.StructEq
import Derived.Laws.Cover3
import Derived.WalkSpells
set_option linter.all false
namespace Go.Ev
variable [Gv]
theorem ia (k : IntKind) (n : Int) : rf k n = k.wrap n := by
 cases n with
 | ofNat m =>
   simp only [rf, ae]
   split
   ·rename_i h
    have h := zE h
    cases k <;> simp only [ab2] at h <;> simp only [IntKind.wrap, IntKind.bits, IntKind.signed] <;> simp <;> omega
   ·rfl
 | negSucc m =>
   simp only [rf, ae]
   split
   ·rename_i hs
    split
    ·rename_i h
     have h := zE h
     cases k <;> simp only [bnl] at hs <;> first
      | (cases hs; done)
      | (simp only [ab2] at h; simp only [IntKind.wrap, IntKind.bits, IntKind.signed]; simp; omega)
    ·rfl
   ·rfl
theorem kk (a b : Int) : ac5 a b = decide (a ≤ b) := by
 cases a <;> cases b <;> simp only [ac5] <;> rename_i m n
 ·rw [Bool.eq_iff_iff]; simp [Nat.ble_eq]
 ·simp; omega
 ·simp; omega
 ·rw [Bool.eq_iff_iff]; simp [Nat.ble_eq]; omega
theorem n7 (a b : Int) : ac4 a b = (a == b) := by
 cases a <;> cases b <;> simp only [ac4] <;> rename_i m n
 ·rw [Bool.eq_iff_iff]; simp; omega
 ·symm; rw [beq_eq_false_iff_ne]; simp
 ·symm; rw [beq_eq_false_iff_ne]; simp
 ·rw [Bool.eq_iff_iff]; simp
theorem ec (k l : IntKind) : qs k l = true ↔ k = l := by cases k <;> cases l <;> simp [qs]
theorem auk (k : IntKind) : ab2 k < 2 ^ k.bits := by cases k <;> decide
theorem ar5 (k : IntKind) : ∃ m, ab2 k = 2 ^ m - 1 ∧ m ≤ k.bits := by
 cases k
 ·exact ⟨7, by decide, by decide⟩
 ·exact ⟨15, by decide, by decide⟩
 ·exact ⟨31, by decide, by decide⟩
 ·exact ⟨63, by decide, by decide⟩
 ·exact ⟨8, by decide, by decide⟩
 ·exact ⟨16, by decide, by decide⟩
 ·exact ⟨32, by decide, by decide⟩
 ·exact ⟨64, by decide, by decide⟩
theorem qg (n m : Nat) (h : m < 2 ^ n) : (BitVec.ofInt n (Int.ofNat m)).toNat = m := by
 simp [BitVec.ofInt]
 exact Nat.mod_eq_of_lt h
theorem vj (k : IntKind) (m : Nat) (h : m ≤ ab2 k) : k.wrap (Int.ofNat m) = Int.ofNat m := by
 rw [← ia]; simp only [rf, ae, Nat.ble_eq_true_of_le h, if_true]
theorem aau (op : BinOp) (k : IntKind) (x y : Int) : a19 op k x y = dj op k x y := by
 unfold a19
 split
 ·rename_i a b
  simp only [ae]
  split
  ·rename_i h1
   split
   ·rename_i h2
    have h1 := zE h1
    have h2 := zE h2
    have := auk k
    simp only [dj, BitVec.toNat_and, qg k.bits a (by omega), qg k.bits b (by omega)]
    congr 1
    symm
    exact vj k _ (Nat.le_trans Nat.and_le_left h1)
   ·rfl
  ·rfl
 ·rename_i a b
  simp only [ae]
  split
  ·rename_i h1
   split
   ·rename_i h2
    have h1 := zE h1
    have h2 := zE h2
    have := auk k
    simp only [dj, BitVec.toNat_or, qg k.bits a (by omega), qg k.bits b (by omega)]
    congr 1
    symm
    refine vj k _ ?_
    obtain ⟨m, hm, _⟩ := ar5 k
    have hp : 0 < 2 ^ m := Nat.pow_pos (by decide)
    have := Nat.or_lt_two_pow (x := a) (y := b) (n := m) (by omega) (by omega)
    omega
   ·rfl
  ·rfl
 ·rename_i a b
  simp only [ae]
  split
  ·rename_i h1
   split
   ·rename_i h2
    have h1 := zE h1
    have h2 := zE h2
    have := auk k
    simp only [dj, BitVec.toNat_xor, qg k.bits a (by omega), qg k.bits b (by omega)]
    congr 1
    symm
    refine vj k _ ?_
    obtain ⟨m, hm, _⟩ := ar5 k
    have hp : 0 < 2 ^ m := Nat.pow_pos (by decide)
    have := Nat.xor_lt_two_pow (x := a) (y := b) (n := m) (by omega) (by omega)
    omega
   ·rfl
  ·rfl
 ·rfl
section
variable {ρ : Env} {a : W} {w : World}
theorem cg {k : IntKind} {x y : Int} (h : x = y) : VRel ρ (.int k x) (.int k y) := by simp only [VRel, h]
theorem gx {x y : Bool} (h : x = y) : VRel ρ (.bool x) (.bool y) := by simp only [VRel, h]
theorem kg {op : BinOp} {k : IntKind} {m n r : Int} (h : dj op k m n = some r) : (Op.intBits op k m n).run PP w = .ok (.int k r) w := by
 cases op <;> simp only [dj] at h <;> first | (cases h; done) | (cases h; rfl)
theorem nq {op : BinOp} {k k' : IntKind} {m n : Int} {v : AV} (t : TypeId) (h : m0 op k m n = some v) (hk : k = k' ∨ op = .shl ∨ op = .shr) :
  ∃ v', (binOp op t (.int k m) (.int k' n)).run PP w = .ok v' w ∧ VRel ρ v v' := by
 have pos : ∀ n : Int, ac5 0 n = true → ¬ n < 0 := by intro n h; rw [kk] at h; simp at h; omega
 have ne : ∀ n : Int, ac4 n 0 = false → n ≠ 0 := by intro n h; rw [n7] at h; simpa using h
 cases op with
 | shl =>
   simp only [m0, ae] at h
   split at h
   ·rename_i hb
    cases h
    refine ⟨_, ?_, cg (ia _ _)⟩
    simp [binOp, Op.shift, pos n hb]
   ·cases h
 | shr =>
   simp only [m0, ae] at h
   split at h
   ·rename_i hb
    cases h
    refine ⟨_, ?_, cg rfl⟩
    simp [binOp, Op.shift, pos n hb]
   ·cases h
 | add => obtain rfl := hk.resolve_right (by simp); cases h; exact ⟨_, by simp only [binOp, Op.intArith, ne_eq, not_true_eq_false, if_false]; rfl, cg (ia _ _)⟩
 | sub => obtain rfl := hk.resolve_right (by simp); cases h; exact ⟨_, by simp only [binOp, Op.intArith, ne_eq, not_true_eq_false, if_false]; rfl, cg (ia _ _)⟩
 | mul => obtain rfl := hk.resolve_right (by simp); cases h; exact ⟨_, by simp only [binOp, Op.intArith, ne_eq, not_true_eq_false, if_false]; rfl, cg (ia _ _)⟩
 | eql => obtain rfl := hk.resolve_right (by simp); cases h; exact ⟨_, by simp only [binOp, Op.intCmp, ne_eq, not_true_eq_false, if_false]; rfl, gx (n7 _ _)⟩
 | neq => obtain rfl := hk.resolve_right (by simp); cases h; exact ⟨_, by simp only [binOp, Op.intCmp, ne_eq, not_true_eq_false, if_false]; rfl, gx (by rw [n7]; rfl)⟩
 | lss => obtain rfl := hk.resolve_right (by simp); cases h; exact ⟨_, by simp only [binOp, Op.intCmp, ne_eq, not_true_eq_false, if_false]; rfl, gx (by rw [kk, ← decide_not]; congr 1; simp)⟩
 | leq => obtain rfl := hk.resolve_right (by simp); cases h; exact ⟨_, by simp only [binOp, Op.intCmp, ne_eq, not_true_eq_false, if_false]; rfl, gx (kk _ _)⟩
 | gtr => obtain rfl := hk.resolve_right (by simp); cases h; exact ⟨_, by simp only [binOp, Op.intCmp, ne_eq, not_true_eq_false, if_false]; rfl, gx (by rw [kk, ← decide_not]; congr 1; simp)⟩
 | geq => obtain rfl := hk.resolve_right (by simp); cases h; exact ⟨_, by simp only [binOp, Op.intCmp, ne_eq, not_true_eq_false, if_false]; rfl, gx (kk _ _)⟩
 | quo =>
   obtain rfl := hk.resolve_right (by simp)
   simp only [m0, ae] at h
   split at h
   ·cases h
   ·rename_i hb
    cases h
    exact ⟨_, by simp only [binOp, Op.intDiv, ne_eq, not_true_eq_false, if_false, ne n (by simpa using hb)]; rfl, cg (ia _ _)⟩
 | rem =>
   obtain rfl := hk.resolve_right (by simp)
   simp only [m0, ae] at h
   split at h
   ·cases h
   ·rename_i hb
    cases h
    exact ⟨_, by simp only [binOp, Op.intDiv, ne_eq, not_true_eq_false, if_false, ne n (by simpa using hb)]; rfl, cg rfl⟩
 | and =>
   obtain rfl := hk.resolve_right (by simp)
   simp only [m0, aau, zG] at h
   obtain ⟨r, hr, rfl⟩ := h
   exact ⟨_, by simp only [binOp, ne_eq, not_true_eq_false, if_false]; exact kg hr, cg rfl⟩
 | or =>
   obtain rfl := hk.resolve_right (by simp)
   simp only [m0, aau, zG] at h
   obtain ⟨r, hr, rfl⟩ := h
   exact ⟨_, by simp only [binOp, ne_eq, not_true_eq_false, if_false]; exact kg hr, cg rfl⟩
 | xor =>
   obtain rfl := hk.resolve_right (by simp)
   simp only [m0, aau, zG] at h
   obtain ⟨r, hr, rfl⟩ := h
   exact ⟨_, by simp only [binOp, ne_eq, not_true_eq_false, if_false]; exact kg hr, cg rfl⟩
 | andNot =>
   obtain rfl := hk.resolve_right (by simp)
   simp only [m0, aau, zG] at h
   obtain ⟨r, hr, rfl⟩ := h
   exact ⟨_, by simp only [binOp, ne_eq, not_true_eq_false, if_false]; exact kg hr, cg rfl⟩
theorem ze (l n : Nat) : (ax l n).toList = bj l n := by unfold ax; rw [ByteArray.toList_mk]
theorem uu (l n l' n' : Nat) (h : n < 256 ^ l) (h' : n' < 256 ^ l') : ((ax l n).toList == (ax l' n').toList) = sEq l n l' n' := by
 rw [a9z l n l' n' h h', Bool.eq_iff_iff, beq_iff_eq, decide_eq_true_eq]
 constructor
 ·intro e; rw [ze, ze] at e; unfold ax; rw [e]
 ·intro e; rw [e]
theorem aug {op : BinOp} {l n l' n' : Nat} {v : AV} (t : TypeId) (h : auf op l n l' n' = some v) (h1 : n < 256 ^ l) (h2 : n' < 256 ^ l') :
  ∃ v', (binOp op t (.string (ax l n)) (.string (ax l' n'))).run PP w = .ok v' w ∧ VRel ρ v v' := by
 cases op <;> simp only [auf] at h <;> try (cases h; done)
 ·rw [ae] at h
  split at h
  ·rename_i hb
   have hb := zE hb
   cases h
   refine ⟨.string (ax l n ++ ax l' n'), ?_, ?_⟩
   ·have : ¬ (((ax l n).size + (ax l' n').size : Nat) : Int) > IntKind.i64.max := by
     rw [dy, dy]
     simp [IntKind.max, IntKind.bits, IntKind.signed]; omega
    simp only [binOp, Op.stringOp, this, if_false]
    rfl
   ·unfold bnc
    simp only [VRel]
    refine ⟨a2c _ _ _ _ h1 h2, ?_⟩
    congr 1
    have e : ∀ x y : List UInt8, (⟨x.toArray⟩ : ByteArray) ++ ⟨y.toArray⟩ = ⟨(x ++ y).toArray⟩ := by
     intro x y
     apply ByteArray.ext
     simp
    unfold ax
    rw [e, show Nat.pow 256 l' = 256 ^ l' from rfl, ru _ _ _ _ h2]
  ·cases h
 ·cases h
  exact ⟨_, by rw [binOp_string_eql]; rfl, gx (uu _ _ _ _ h1 h2).symm⟩
 ·cases h
  exact ⟨_, by rw [binOp_string_neq]; rfl, gx (by rw [uu _ _ _ _ h1 h2])⟩
theorem bc_and {x y : Bool} : bc x y false = true ↔ x = true ∧ y = true := by cases x <;> cases y <;> simp [ae]
theorem ya (m n : Int) : (m == n) = decide (m = n) := by rw [Bool.eq_iff_iff]; simp
mutual
theorem bl : ∀ (a b : SE), fu a b = true → a = b := by
 intro a b h
 cases a <;> cases b <;> simp only [fu, zF] at h
 ·rw [zW h]
 ·rw [n7] at h; simp at h; rw [h]
 ·obtain ⟨h1, h⟩ := bc_and.1 h
  obtain ⟨h2, h⟩ := bc_and.1 h
  obtain ⟨h3, h4⟩ := bc_and.1 h
  rw [zW h1, (ec _ _).1 h2, bl _ _ h3, bl _ _ h4]
 ·rw [da _ _ h]
 ·obtain ⟨h1, h2⟩ := bc_and.1 h; rw [da _ _ h1, bl _ _ h2]
 ·obtain ⟨h1, h2⟩ := bc_and.1 h; rw [da _ _ h1, bl _ _ h2]
 ·obtain ⟨h1, h2⟩ := bc_and.1 h; rw [da _ _ h1, bl _ _ h2]
 ·obtain ⟨h1, h2⟩ := bc_and.1 h; rw [da _ _ h1, da _ _ h2]
 ·obtain ⟨h1, h2⟩ := bc_and.1 h; rw [da _ _ h1, da _ _ h2]
 ·obtain ⟨h1, h2⟩ := bc_and.1 h; rw [da _ _ h1, da _ _ h2]
 ·obtain ⟨h1, h2⟩ := bc_and.1 h; rw [zW h1, aen _ _ h2]
theorem da : ∀ (a b : GE), mz a b = true → a = b := by
 intro a b h
 cases a <;> cases b <;> simp only [mz, zF] at h
 ·rw [zW h]
 ·rfl
 ·rw [bl _ _ h]
 ·obtain ⟨h1, h2⟩ := bc_and.1 h; rw [da _ _ h1, da _ _ h2]
 ·obtain ⟨h1, h2⟩ := bc_and.1 h; rw [zW h1, zW h2]
 ·obtain ⟨h1, h⟩ := bc_and.1 h
  obtain ⟨h2, h3⟩ := bc_and.1 h
  rw [da _ _ h1, bl _ _ h2, bl _ _ h3]
 ·rw [bl _ _ h]
 ·obtain ⟨h1, h2⟩ := bc_and.1 h; rw [zW h1, aen _ _ h2]
theorem aen : ∀ (a b : AL), azm a b = true → a = b := by
 intro a b h
 cases a <;> cases b <;> simp only [azm, zF] at h
 ·rfl
 ·obtain ⟨h1, h2⟩ := bc_and.1 h; rw [bl _ _ h1, aen _ _ h2]
 ·obtain ⟨h1, h2⟩ := bc_and.1 h; rw [da _ _ h1, aen _ _ h2]
end
theorem ak5 {σ : Nat → List Int} {lt : Bool} {a b : SE} {r : Bool} : ∀ {A : List SA}, SAll σ A → adj lt a b A = some r → (SA.mk lt a b r).holds σ
 | [], _, h => by cases h
 | .mk lt' a' b' r' :: A, hA, h => by
   have ih := fun h => ak5 (A := A) (σ := σ) (lt := lt) (a := a) (b := b) (r := r) (fun x hx => hA x (zA _ hx)) h
   simp only [adj, ae] at h
   split at h
   ·rename_i h1
    split at h
    ·rename_i h2
     split at h
     ·rename_i h3
      injection h with h
      subst h
      have h1 : lt = lt' := by cases lt <;> cases lt' <;> first | rfl | cases h1
      subst h1
      rw [bl _ _ h2, bl _ _ h3]
      exact hA _ (by simp)
     ·exact ih h
    ·exact ih h
   ·exact ih h
theorem de {σ : Nat → List Int} {lt : Bool} {a b : SE} {A : List SA} {r : Bool} (hA : SAll σ A) (h : e9 lt a b A = some r) : (SA.mk lt a b r).holds σ := by
 unfold e9 at h
 split at h
 ·rename_i m n
  injection h with h
  subst h
  cases lt
  ·show decide (m = n) = _; rw [ae]; simp only [zF, if_false]; rw [n7, ya]
  ·show decide (m < n) = _; rw [ae]; simp only [if_true]; rw [kk]; by_cases e : n ≤ m <;> simp [e] <;> omega
 ·rw [ae] at h
  split at h
  ·rename_i he
   injection h with h
   subst h
   rw [bl _ _ he]
   cases lt
   ·show decide (_ = _) = _; simp
   ·show decide (_ < _) = _; simp
  ·exact ak5 hA h
theorem ais {op : BinOp} {k : IntKind} {a b : SE} {A : List SA} {v : AV} (hA : SAll Gv.σ A) (h : ar0 op k a b A = some v) :
  ∃ v0, m0 op k (a.eval Gv.σ) (b.eval Gv.σ) = some v0 ∧ ∀ x, VRel ρ v0 x → VRel ρ v x := by
 have nz : ∀ r, e9 false b (.c 0) A = some r → ac4 (b.eval Gv.σ) 0 = r := by
  intro r hr
  have := de hA hr
  have this : decide (b.eval Gv.σ = 0) = r := this
  rw [n7, ya]; exact this
 unfold ar0 at h
 split at h
 ·injection h with h; subst h
  exact ⟨_, rfl, fun x hx => by simp only [VRel] at hx ⊢; rw [ia] at hx; exact ⟨hA, hx⟩⟩
 ·injection h with h; subst h
  exact ⟨_, rfl, fun x hx => by simp only [VRel] at hx ⊢; rw [ia] at hx; exact ⟨hA, hx⟩⟩
 ·injection h with h; subst h
  exact ⟨_, rfl, fun x hx => by simp only [VRel] at hx ⊢; rw [ia] at hx; exact ⟨hA, hx⟩⟩
 ·split at h <;> try (cases h; done)
  rename_i he
  injection h with h; subst h
  exact ⟨.int k (rf k ((a.eval Gv.σ).tdiv (b.eval Gv.σ))), by simp only [m0, nz _ he, ae, zF, if_false], fun x hx => by simp only [VRel] at hx ⊢; rw [ia] at hx; exact ⟨hA, hx⟩⟩
 ·split at h <;> try (cases h; done)
  rename_i he
  injection h with h; subst h
  exact ⟨.int k ((a.eval Gv.σ).tmod (b.eval Gv.σ)), by simp only [m0, nz _ he, ae, zF, if_false], fun x hx => by simp only [VRel] at hx ⊢; exact ⟨hA, hx⟩⟩
 ·simp only [zG] at h
  obtain ⟨r, hr, rfl⟩ := h
  have := de hA hr
  have this : decide (a.eval Gv.σ = b.eval Gv.σ) = r := this
  exact ⟨_, rfl, fun x hx => by simp only [VRel] at hx ⊢; rw [n7, ya, this] at hx; exact hx⟩
 ·simp only [zG] at h
  obtain ⟨r, hr, rfl⟩ := h
  have := de hA hr
  have this : decide (a.eval Gv.σ = b.eval Gv.σ) = r := this
  exact ⟨_, rfl, fun x hx => by simp only [VRel] at hx ⊢; rw [n7, ya, this] at hx; exact hx⟩
 ·simp only [zG] at h
  obtain ⟨r, hr, rfl⟩ := h
  have := de hA hr
  have this : decide (a.eval Gv.σ < b.eval Gv.σ) = r := this
  refine ⟨_, rfl, fun x hx => ?_⟩
  simp only [VRel] at hx ⊢
  rw [hx, kk, ← this]
  by_cases e : b.eval Gv.σ ≤ a.eval Gv.σ <;> simp [e] <;> omega
 ·simp only [zG] at h
  obtain ⟨r, hr, rfl⟩ := h
  have := de hA hr
  have this : decide (b.eval Gv.σ < a.eval Gv.σ) = r := this
  refine ⟨_, rfl, fun x hx => ?_⟩
  simp only [VRel] at hx ⊢
  rw [hx, kk, ← this]
  by_cases e : a.eval Gv.σ ≤ b.eval Gv.σ <;> simp [e] <;> omega
 ·simp only [zG] at h
  obtain ⟨r, hr, rfl⟩ := h
  have := de hA hr
  have this : decide (b.eval Gv.σ < a.eval Gv.σ) = r := this
  refine ⟨_, rfl, fun x hx => ?_⟩
  simp only [VRel] at hx ⊢
  rw [hx, kk, ← this]
  by_cases e : a.eval Gv.σ ≤ b.eval Gv.σ <;> simp [e] <;> omega
 ·simp only [zG] at h
  obtain ⟨r, hr, rfl⟩ := h
  have := de hA hr
  have this : decide (a.eval Gv.σ < b.eval Gv.σ) = r := this
  refine ⟨_, rfl, fun x hx => ?_⟩
  simp only [VRel] at hx ⊢
  rw [hx, kk, ← this]
  by_cases e : b.eval Gv.σ ≤ a.eval Gv.σ <;> simp [e] <;> omega
 ·cases h
theorem adl {mx : Bool} {k : IntKind} {a b : SE} {A : List SA} {v : AV} (hA : SAll Gv.σ A) (h : air mx k a b A = some v) :
  ∀ x, VRel ρ (.int k (bc (ac5 (a.eval Gv.σ) (b.eval Gv.σ)) (bc mx (b.eval Gv.σ) (a.eval Gv.σ)) (bc mx (a.eval Gv.σ) (b.eval Gv.σ)))) x → VRel ρ v x := by
 intro x hx
 unfold air at h
 split at h <;> try (cases h; done)
 ·rename_i hr
  have := de hA hr
  have this : decide (b.eval Gv.σ < a.eval Gv.σ) = true := this
  simp at this
  injection h with h; subst h
  simp only [VRel, kk] at hx ⊢
  rw [show decide (a.eval Gv.σ ≤ b.eval Gv.σ) = false by simp; omega] at hx
  refine ⟨hA, ?_⟩
  cases mx <;> exact hx
 ·rename_i hr
  have := de hA hr
  have this : decide (b.eval Gv.σ < a.eval Gv.σ) = false := this
  simp at this
  injection h with h; subst h
  simp only [VRel, kk] at hx ⊢
  rw [show decide (a.eval Gv.σ ≤ b.eval Gv.σ) = true by simp; omega] at hx
  refine ⟨hA, ?_⟩
  cases mx <;> exact hx
end
end Go.Ev
set_option linter.all false
namespace Go.Ev
variable [Gv]
section
variable {ρ : Env} {a : W} {w : World}
theorem VRels.drop {ρ : Env} : ∀ (n : Nat) (l : List AV) (vs : List Value), VRels ρ l vs → VRels ρ (l.drop n) (vs.drop n)
 | 0, _, _, h => by simpa using h
 | n + 1, [], _, h => by simp only [VRels] at h; subst h; simp [VRels]
 | n + 1, a :: l, _, h => by simp only [VRels] at h; obtain ⟨v, vs, rfl, _, h3⟩ := h; simpa using VRels.drop n l vs h3
theorem VRels.take {ρ : Env} : ∀ (n : Nat) (l : List AV) (vs : List Value), VRels ρ l vs → VRels ρ (l.take n) (vs.take n)
 | 0, _, _, _ => by simp [VRels]
 | n + 1, [], _, h => by simp only [VRels] at h; subst h; simp [VRels]
 | n + 1, a :: l, _, h => by
   simp only [VRels] at h; obtain ⟨v, vs, rfl, h2, h3⟩ := h
   simp only [List.take_succ_cons, VRels]
   exact ⟨v, vs.take n, rfl, h2, VRels.take n l vs h3⟩
theorem xc {t : TypeId} {cs : List AV} {cs' : Array Value} {off : Nat} {v : AV} (h : ah1 t cs off = some v) (hc : VRels ρ cs cs'.toList) :
  ∃ v', (part t cs' off).run PP w = .ok v' w ∧ VRel ρ v v' := by
 unfold ah1 at h
 split at h
 ·rename_i h0
  obtain ⟨d, n, hd, hs, hr⟩ := jz h0
  have hagg : ie d = false := by cases e : ie d with | false => rfl | true => rw [e] at hr; simp at hr
  rw [tc] at h
  obtain ⟨hlt, he⟩ := List.getElem?_eq_some_iff.1 h
  obtain ⟨v', h1, h2⟩ := VRels.get cs _ hc off hlt
  rw [he] at h2
  refine ⟨v', ?_, h2⟩
  have h1' : cs'[off]? = some v' := by simpa using h1
  simp only [part, zR, ku hd, zQ, hagg, zF, if_false, h1']
  rfl
 ·rename_i n h0
  obtain ⟨d, m, hd, hs, hr⟩ := jz h0
  cases h
  by_cases hagg : ie d = true
  ·rw [if_pos hagg] at hr
   injection hr with hr
   injection hr with hr
   subst hr
   refine ⟨.agg (cs'.extract off (off + n)), ?_, ?_⟩
   ·simp only [part, zR, ku hd, zQ, hagg, if_true, bn hs, zT]
   ·simp only [VRel]
    refine ⟨_, rfl, ?_⟩
    have := VRels.take n _ _ (VRels.drop off _ _ hc)
    simpa [List.extract_eq_take_drop] using this
  ·rw [if_neg hagg] at hr
   split at hr <;> cases hr
 ·cases h
def asp (w : World) (d : Nat) (t : TypeId) (x y : Value) (r : Bool) : Prop := ∀ D, d ≤ D → (Op.equalIn D t x y).run PP w = .ok r w
theorem aqq (hw : WRel ρ a w) {b : K} {c : Nat} (h : live b a = true) (hc : ρ b = some c) (hn : ab b a.h ≠ .none) :
  ∃ arr t fz, w.heap[c]? = some (.cells arr t fz) ∧ arr.size ≠ 0 ∧ ∀ i, ¬ (fz.1 ≤ i ∧ i < fz.2) := by
 unfold live at h
 split at h
 ·rename_i t size ext fl fh cs hg
  rw [ae] at h
  split at h
  ·rename_i h1
   have h1 := zE h1
   obtain ⟨arr, fz, e1, e2, e3, e4, e5, e6⟩ := hw.block hg (by simp) hc
   refine ⟨arr, t, fz, e1, ?_, ?_⟩
   ·have : size ≠ 0 := by intro e; subst e; cases h
    omega
   ·intro i hi; have := e5.2 i hi.1 hi.2; omega
  ·cases h
 ·cases h
theorem aex {b : K} (h : live b a = true) : ab b a.h ≠ .none := by
 rw [← bg]; intro e; unfold live at h; rw [e] at h; cases h
theorem a9e {b : K} (h : live b a = true) : (ab b a.h).isRo = false := by
 rw [← bg]; unfold live at h
 split at h
 ·rename_i hg; rw [hg]; rfl
 ·cases h
theorem aih (hw : WRel ρ a w) {b b' : K} {c c' o o' : Nat} (h : live b a = true) (h' : live b' a = true) (hc : ρ b = some c) (hc' : ρ b' = some c') (hne : b ≠ b') :
  (sameAddr ⟨c, o, none⟩ ⟨c', o', none⟩).run PP w = .ok false w := by
 have hcc : c ≠ c' := fun e => hne (hw.inj1 (aex h) (aex h') (.inl (a9e h)) (by rw [hc, hc', e]))
 obtain ⟨arr, t, fz, e1, e2, e3⟩ := aqq hw h hc (aex h)
 obtain ⟨arr', t', fz', e1', e2', e3'⟩ := aqq hw h' hc' (aex h')
 have f : ∀ o, w.frozen? ⟨c, o, none⟩ = false := by
  intro o
  obtain ⟨f1, f2⟩ := fz
  have := e3 o
  simp only [World.frozen?, e1, Bool.and_eq_false_iff, decide_eq_false_iff_not]
  simp only at this; omega
 have f' : ∀ o, w.frozen? ⟨c', o, none⟩ = false := by
  intro o
  obtain ⟨f1, f2⟩ := fz'
  have := e3' o
  simp only [World.frozen?, e1', Bool.and_eq_false_iff, decide_eq_false_iff_not]
  simp only at this; omega
 have s : w.shape? c = some (t, arr.size) := by simp [World.shape?, e1]
 have s' : w.shape? c' = some (t', arr'.size) := by simp [World.shape?, e1']
 have hb : (c == c') = false := by simpa using hcc
 simp [sameAddr, hb, f, f', noView, viewAt, s, s', mayBeOne, stringish]
theorem aa4 {eq : TypeId → AV → AV → Option Bool} {d : Nat} (heq : ∀ t x y r x' y', eq t x y = some r → VRel ρ x x' → VRel ρ y y' → asp w d t x' y' r) {xs ys : List AV} {xs' ys' : Array Value}
  (hx : VRels ρ xs xs'.toList) (hy : VRels ρ ys ys'.toList) : ∀ (fs : List Field) (r : Bool), eqFields eq xs ys fs = some r → ∀ D, d ≤ D → (Op.eqFields D xs' ys' fs).run PP w = .ok r w := by
 intro fs
 induction fs with
 | nil => intro r h D _; simp only [eqFields] at h; cases h; rfl
 | cons f fs ih =>
   intro r h D hD
   simp only [eqFields, ae] at h
   split at h
   ·rename_i hn
    have hn : f.name = "_" := by simpa using hn
    simp only [Op.eqFields, hn, ne_eq, not_true_eq_false, if_false]
    exact ih r h D hD
   ·rename_i hn
    have hn : f.name ≠ "_" := by simpa using hn
    split at h
    ·rename_i x y ex ey
     obtain ⟨x', rx, vx⟩ := xc (w := w) ex hx
     obtain ⟨y', ry, vy⟩ := xc (w := w) ey hy
     split at h
     ·rename_i e
      have := heq _ _ _ _ _ _ e vx vy D hD
      simp only [Op.eqFields, ne_eq, hn, not_false_eq_true, if_true, zR, rx, ry, this, zQ, Bool.not_true, zF, if_false]
      exact ih r h D hD
     ·rename_i e
      have := heq _ _ _ _ _ _ e vx vy D hD
      cases h
      simp only [Op.eqFields, ne_eq, hn, not_false_eq_true, if_true, zR, rx, ry, this, zQ, Bool.not_false, zT]
     ·cases h
    ·cases h
theorem aa5 {t : TypeId} {fs : Array Field} {D : Nat} {xs ys : Array Value} {r : Bool} (hu : PP.underlying t = some (.struct fs)) (hst : PP.stoodInHeld t = false)
  (h : (Op.eqFields D xs ys fs.toList).run PP w = .ok r w) : (Op.equalIn (D + 1) t (.agg xs) (.agg ys)).run PP w = .ok r w := by
 have hf : PP.fieldsOf t = fs := by unfold Program.fieldsOf; rw [hu]
 rw [run_equalIn_struct w D t xs ys (by rw [hf]; exact hu) hst, hf]
 exact h
set_option maxHeartbeats 2000000 in
theorem tp (hw : WRel ρ a w) : ∀ (d : Nat) (t : TypeId) (x y : AV) (r : Bool) (x' y' : Value), agq a d t x y = some r → VRel ρ x x' → VRel ρ y y' → asp w d t x' y' r := by
 intro d
 induction d with
 | zero => intro t x y r x' y' h; cases h
 | succ d ih =>
   intro t x y r x' y' h hx hy D hD
   obtain ⟨D, rfl⟩ : ∃ E, D = E + 1 := ⟨D - 1, by omega⟩
   have hD : d ≤ D := by omega
   unfold agq at h
   split at h <;> (try (cases h; done)) <;> rename_i ht <;> simp only [VRel] at hx hy <;> have hu := cj ht
   ·subst hx; subst hy; cases h; simp only [Op.equalIn, zR, af ht, zQ]; rfl
   ·subst hx; subst hy
    rw [ae] at h
    split at h
    ·rename_i hk; obtain rfl := (ec _ _).1 hk; cases h; simp [Op.equalIn, af ht, n7]
    ·cases h
   ·obtain ⟨h1, rfl⟩ := hx; obtain ⟨h2, rfl⟩ := hy; cases h
    simp only [Op.equalIn, zR, af ht, zQ, beq_toListBytes, uu _ _ _ _ h1 h2, zT]
   ·subst hx; subst hy; cases h; simp only [Op.equalIn, zR, af ht, zQ]; rfl
   ·subst hx; obtain ⟨c, _, rfl⟩ := hy; cases h; simp only [Op.equalIn, zR, af ht, zQ]; rfl
   ·subst hy; obtain ⟨c, _, rfl⟩ := hx; cases h; simp only [Op.equalIn, zR, af ht, zQ]; rfl
   ·obtain ⟨c, hc, rfl⟩ := hx
    obtain ⟨c', hc', rfl⟩ := hy
    split at h
    ·rename_i m hs
     simp only [ae] at h
     split at h
     ·rename_i hk
      obtain rfl := (K.beq_iff _ _).1 hk
      rw [hc] at hc'; cases hc'
      cases h
      simp [Op.equalIn, af ht, bn hs, sameAddr]
      rw [Bool.eq_iff_iff]; simp
     ·rename_i hk
      split at h <;> try (cases h; done)
      rename_i hl
      split at h <;> try (cases h; done)
      rename_i hl'
      cases h
      have := fun o o' => aih (o := o) (o' := o') hw hl hl' hc hc' (fun e => hk ((K.beq_iff _ _).2 e))
      simp [Op.equalIn, af ht, bn hs, this]
    ·cases h
   ·subst hx; subst hy; cases h; simp only [Op.equalIn, zR, af ht, zQ]; rfl
   ·subst hx; obtain ⟨v', rfl, _⟩ := hy; cases h; simp only [Op.equalIn, zR, af ht, zQ]; rfl
   ·subst hy; obtain ⟨v', rfl, _⟩ := hx; cases h; simp only [Op.equalIn, zR, af ht, zQ]; rfl
   ·obtain ⟨v1, rfl, r1⟩ := hx
    obtain ⟨v2, rfl, r2⟩ := hy
    simp only [ae] at h
    split at h
    ·rename_i he
     have he := zW he
     subst he
     split at h
     ·rename_i hcmp
      rename_i t1 x1 t2 y1 ht2
      cases hi : gu t2 with
      | none => rw [hi] at hcmp; simp at hcmp
      | some i =>
        rw [hi] at hcmp
        have hcmp : i.comparable = true := by simpa using hcmp
        have := ih _ _ _ _ _ _ h r1 r2 D hD
        simp [Op.equalIn, af ht, je (fo hi), hcmp, this]
     ·cases h
    ·rename_i he
     cases h
     rw [Nat.beq_eq] at he
     simp [Op.equalIn, af ht, he]
   ·obtain ⟨xs', rfl, r1⟩ := hx
    obtain ⟨ys', rfl, r2⟩ := hy
    simp only [ae] at h
    split at h
    ·cases h
    ·rename_i hst
     have hst : PP.stoodInHeld t = false := by simpa using hst
     exact aa5 hu hst (aa4 (fun t x y r x' y' => ih t x y r x' y') r1 r2 _ _ h D hD)
   ·subst hx; subst hy; cases h; simp only [Op.equalIn, zR, af ht, zQ]; rfl
   ·subst hx; obtain ⟨_, _, _, _, _, rfl⟩ := hy; cases h; simp only [Op.equalIn, zR, af ht, zQ]; rfl
   ·subst hy; obtain ⟨_, _, _, _, _, rfl⟩ := hx; cases h; simp only [Op.equalIn, zR, af ht, zQ]; rfl
   ·subst hx; obtain ⟨_, _, rfl⟩ := hy; cases h; simp only [Op.equalIn, zR, af ht, zQ]; rfl
   ·subst hy; obtain ⟨_, _, rfl⟩ := hx; cases h; simp only [Op.equalIn, zR, af ht, zQ]; rfl
   ·subst hx; obtain ⟨_, _, _, _, _, _, _, rfl⟩ := hy; cases h; simp only [Op.equalIn, zR, af ht, zQ]; rfl
   ·subst hy; obtain ⟨_, _, _, _, _, _, _, rfl⟩ := hx; cases h; simp only [Op.equalIn, zR, af ht, zQ]; rfl
   ·subst hx; subst hy; cases h; simp only [Op.equalIn, zR, af ht, zQ]; rfl
   ·subst hx; obtain ⟨_, _, rfl⟩ := hy; cases h; simp only [Op.equalIn, zR, af ht, zQ]; rfl
   ·subst hy; obtain ⟨_, _, rfl⟩ := hx; cases h; simp only [Op.equalIn, zR, af ht, zQ]; rfl
   ·subst hx; subst hy; cases h; simp only [Op.equalIn, zR, af ht, zQ]; rfl
   ·subst hx; obtain ⟨_, _, _, rfl, _⟩ := hy; cases h; simp only [Op.equalIn, zR, af ht, zQ]; rfl
   ·subst hy; obtain ⟨_, _, _, rfl, _⟩ := hx; cases h; simp only [Op.equalIn, zR, af ht, zQ]; rfl
end
end Go.Ev
set_option linter.all false
namespace Go.Ev
variable [Gv]
section
variable {ρ : Env} {a : W} {w : World}
def bon (x y : Value) : Prop := ∀ t, binOp .eql t x y = (do pure (.bool (← Op.equal t x y))) ∧ binOp .neq t x y = (do pure (.bool (!(← Op.equal t x y))))
def ahf : AV → Bool | .int _ _ => true | _ => false
def zv : AV → Bool | .str _ _ => true | _ => false
theorem xu {d : Nat} {t : TypeId} {x y : AV} {r : Bool} {x' y' : Value} (h : agq a d t x y = some r) (hx : VRel ρ x x') (hy : VRel ρ y y')
  (hi : (ahf x && ahf y) = false) (hs : (zv x && zv y) = false) : bon x' y' := by
 cases d with
 | zero => cases h
 | succ d =>
   unfold agq at h
   split at h <;> (try (cases h; done)) <;> simp only [VRel] at hx hy <;> first
    | (simp [ahf] at hi; done)
    | (simp [zv] at hs; done)
    | (subst hx; subst hy; intro t; exact ⟨rfl, rfl⟩)
    | (subst hx; obtain ⟨_, _, rfl⟩ := hy; intro t; exact ⟨rfl, rfl⟩)
    | (subst hy; obtain ⟨_, _, rfl⟩ := hx; intro t; exact ⟨rfl, rfl⟩)
    | (obtain ⟨_, _, rfl⟩ := hx; obtain ⟨_, _, rfl⟩ := hy; intro t; exact ⟨rfl, rfl⟩)
    | (subst hx; obtain ⟨_, rfl, _⟩ := hy; intro t; exact ⟨rfl, rfl⟩)
    | (subst hy; obtain ⟨_, rfl, _⟩ := hx; intro t; exact ⟨rfl, rfl⟩)
    | (obtain ⟨_, rfl, _⟩ := hx; obtain ⟨_, rfl, _⟩ := hy; intro t; exact ⟨rfl, rfl⟩)
    | (subst hx; obtain ⟨_, _, _, _, _, rfl⟩ := hy; intro t; exact ⟨rfl, rfl⟩)
    | (subst hy; obtain ⟨_, _, _, _, _, rfl⟩ := hx; intro t; exact ⟨rfl, rfl⟩)
    | (subst hx; obtain ⟨_, _, rfl, _⟩ := hy; intro t; exact ⟨rfl, rfl⟩)
    | (subst hy; obtain ⟨_, _, rfl, _⟩ := hx; intro t; exact ⟨rfl, rfl⟩)
    | (subst hx; obtain ⟨_, _, _, rfl, _⟩ := hy; intro t; exact ⟨rfl, rfl⟩)
    | (subst hy; obtain ⟨_, _, _, rfl, _⟩ := hx; intro t; exact ⟨rfl, rfl⟩)
    | (subst hx; obtain ⟨_, _, _, _, _, _, _, rfl⟩ := hy; intro t; exact ⟨rfl, rfl⟩)
    | (subst hy; obtain ⟨_, _, _, _, _, _, _, rfl⟩ := hx; intro t; exact ⟨rfl, rfl⟩)
theorem aj9 {op : BinOp} {t : TypeId} {x y : Operand} {b' c' : Value} (h1 : b' = .nilIface → c' = .nilIface → (yb x || yb y) = true)
  (h2 : ∀ p q, b' = .agg p → c' = .agg q → PP.eqGuardType PP.depth t = false) : (eqGuard op t x y b' c').run PP w = .ok () w := by
 unfold eqGuard
 cases op <;> (try rfl) <;> cases b' <;> (try rfl) <;> cases c' <;> (try rfl)
 ·have := h1 rfl rfl
  cases x <;> cases y <;> first | rfl | (simp [yb] at this; done)
 ·simp [h2 _ _ rfl rfl]
 ·have := h1 rfl rfl
  cases x <;> cases y <;> first | rfl | (simp [yb] at this; done)
 ·simp [h2 _ _ rfl rfl]
theorem abj {b : AV} (h : VRel ρ b .nilIface) : b = .nilIface ∨ b = .top := by
 cases b <;> simp only [VRel] at h <;> first
  | (exact .inl rfl) | (exact .inr rfl)
  | (cases h; done)
  | (obtain ⟨_, h⟩ := h; cases h; done)
  | (obtain ⟨_, _, h⟩ := h; cases h; done)
  | (obtain ⟨_, _, _, _, _, h⟩ := h; cases h; done)
  | (obtain ⟨_, _, _, _, _, _, h⟩ := h; cases h; done)
  | (obtain ⟨_, _, _, _, h⟩ := h; cases h; done)
  | (obtain ⟨_, _, h, _⟩ := h; cases h; done)
  | (obtain ⟨_, h, _⟩ := h; cases h; done)
  | (obtain ⟨_, _, _, h, _⟩ := h; cases h; done)
  | (rcases SxRel.shape h with ⟨_, h⟩ | ⟨_, h⟩ <;> cases h; done)
  | (rcases GVRel.shape h with ⟨_, h⟩ | ⟨_, _, _, h⟩ | ⟨_, h⟩ <;> cases h; done)
theorem awb {b : AV} {p : Array Value} (h : VRel ρ b (.agg p)) : (∃ l, b = .agg l) ∨ b = .top := by
 cases b <;> simp only [VRel] at h <;> first
  | (exact .inl ⟨_, rfl⟩) | (exact .inr rfl)
  | (cases h; done)
  | (obtain ⟨_, h⟩ := h; cases h; done)
  | (obtain ⟨_, _, h⟩ := h; cases h; done)
  | (obtain ⟨_, _, _, _, _, h⟩ := h; cases h; done)
  | (obtain ⟨_, _, _, _, _, _, h⟩ := h; cases h; done)
  | (obtain ⟨_, _, _, _, h⟩ := h; cases h; done)
  | (obtain ⟨_, _, h, _⟩ := h; cases h; done)
  | (obtain ⟨_, h, _⟩ := h; cases h; done)
  | (obtain ⟨_, _, _, h, _⟩ := h; cases h; done)
  | (rcases SxRel.shape h with ⟨_, h⟩ | ⟨_, h⟩ <;> cases h; done)
  | (rcases GVRel.shape h with ⟨_, h⟩ | ⟨_, _, _, h⟩ | ⟨_, h⟩ <;> cases h; done)
theorem ac2 {op : BinOp} {t : TypeId} {x y : Operand} {b c : AV} {b' c' : Value} (h : va t x y b c = true) (hb : VRel ρ b b') (hc : VRel ρ c c') (hb0 : b ≠ .top) (hc0 : c ≠ .top) :
  (eqGuard op t x y b' c').run PP w = .ok () w := by
 apply aj9
 ·rintro rfl rfl
  obtain rfl := (abj hb).resolve_right hb0
  obtain rfl := (abj hc).resolve_right hc0
  exact h
 ·rintro p q rfl rfl
  obtain ⟨l, rfl⟩ := (awb hb).resolve_right hb0
  obtain ⟨m, rfl⟩ := (awb hc).resolve_right hc0
  simpa [va] using h
theorem js {op : BinOp} {t : TypeId} {x y : Operand} {b' c' : Value} (h1 : b' ≠ .nilIface) (h2 : ∀ p, b' ≠ .agg p) : (eqGuard op t x y b' c').run PP w = .ok () w :=
 aj9 (fun e => absurd e h1) (fun p _ e => absurd e (h2 p))
theorem agr {d : Nat} {t : TypeId} {x y : AV} {r : Bool} (h : agq a d t x y = some r) : x ≠ .top ∧ y ≠ .top := by
 cases d with
 | zero => cases h
 | succ d => unfold agq at h; split at h <;> first | (cases h; done) | (constructor <;> (intro e; cases e))
theorem im (hw : WRel ρ a w) {s : Sem Value} {o : Option AV} {c : Nat} (h : ∀ v, o = some v → ∃ v', s.run PP w = .ok v' w ∧ VRel ρ v v') : VOK ρ a w s (q9 o a c) := by
 unfold q9
 split
 ·obtain ⟨v', h1, h2⟩ := h _ rfl; exact VOK.here hw h1 h2
 ·trivial
theorem aav {a b : ByteArray} (h : a ≠ b) : (a.toList == b.toList) = false := by
 rw [beq_eq_false_iff_ne]
 intro e
 apply h
 rw [ByteArray.toList_eq, ByteArray.toList_eq] at e
 exact ByteArray.ext (Array.toList_inj.1 e)
theorem yk {l n : Nat} : ∀ {A : List (Nat × Nat)}, aq8 l n A = true → (l, n) ∈ A
 | p :: A, h => by
   simp only [aq8, ae] at h
   split at h
   ·rename_i h2
    split at h
    ·rename_i h1
     obtain ⟨x, y⟩ := p
     have e1 : x = l := zW h2
     have e2 : y = n := zW h1
     subst e1 e2; simp
    ·exact zA _ (yk h)
   ·exact zA _ (yk h)
theorem atd {t : TypeId} (h : ami t = true) : ba t = some .bool := by
 unfold ami at h
 split at h
 ·assumption
 ·cases h
theorem zq {op : BinOp} {r : Bool} {s s0 : Sem Value} (hw : WRel ρ a w) (h0 : s0.run PP w = s.run PP w) (h1 : op = .eql → s.run PP w = .ok (.bool r) w) (h2 : op = .neq → s.run PP w = .ok (.bool (!r)) w) : VOK ρ a w s0 (u5 op r a) := by
 unfold u5
 split <;> try trivial
 ·exact VOK.here hw (v' := .bool r) (h0.trans (h1 rfl)) (by simp only [VRel])
 ·exact VOK.here hw (v' := .bool (!r)) (h0.trans (h2 rfl)) (by simp only [VRel])
theorem bcz (hw : WRel ρ a w) {op : BinOp} {t : TypeId} {x y : Operand} {b c : AV} {b' c' : Value} (hb : VRel ρ b b') (hc : VRel ρ c c') :
  VOK ρ a w (do eqGuard op t x y b' c'; binOp op t b' c') (apk op t x y b c a) := by
 unfold apk
 split
 ·rename_i k m k' n
  simp only [VRel] at hb hc
  subst hb; subst hc
  have hg := js (w := w) (op := op) (t := t) (x := x) (y := y) (b' := .int k m) (c' := .int k' n) (by simp) (by simp)
  split
  ·refine im hw fun v hv => ?_
   obtain ⟨v', h1, h2⟩ := nq (ρ := ρ) (w := w) t hv (k' := k') (.inr (.inl rfl))
   exact ⟨v', by simp only [zR, hg, zQ, h1], h2⟩
  ·refine im hw fun v hv => ?_
   obtain ⟨v', h1, h2⟩ := nq (ρ := ρ) (w := w) t hv (k' := k') (.inr (.inr rfl))
   exact ⟨v', by simp only [zR, hg, zQ, h1], h2⟩
  ·rw [ae]
   split
   ·rename_i hk
    obtain rfl := (ec _ _).1 hk
    refine im hw fun v hv => ?_
    obtain ⟨v', h1, h2⟩ := nq (ρ := ρ) (w := w) t hv (k' := k) (.inl rfl)
    exact ⟨v', by simp only [zR, hg, zQ, h1], h2⟩
   ·trivial
 ·rename_i l n l' n'
  simp only [VRel] at hb hc
  obtain ⟨h1, rfl⟩ := hb
  obtain ⟨h2, rfl⟩ := hc
  have hg := js (w := w) (op := op) (t := t) (x := x) (y := y) (b' := .string (ax l n)) (c' := .string (ax l' n')) (by simp) (by simp)
  refine im hw fun v hv => ?_
  obtain ⟨v', h3, h4⟩ := aug (ρ := ρ) (w := w) t hv h1 h2
  exact ⟨v', by simp only [zR, hg, zQ, h3], h4⟩
 ·rename_i k e A k' n
  rw [ae]
  split <;> try trivial
  rename_i hk
  obtain rfl := (ec _ _).1 hk
  simp only [VRel] at hb hc
  obtain ⟨hA, rfl⟩ := hb
  subst hc
  have hg := js (w := w) (op := op) (t := t) (x := x) (y := y) (b' := .int k (e.eval Gv.σ)) (c' := .int k n) (by simp) (by simp)
  refine im hw fun v hv => ?_
  obtain ⟨v0, q1, q2⟩ := ais hA hv
  obtain ⟨v', h1, h2⟩ := nq (ρ := ρ) (w := w) t q1 (k' := k) (.inl rfl)
  exact ⟨v', by simp only [zR, hg, zQ]; exact h1, q2 _ h2⟩
 ·rename_i k' n k e A
  rw [ae]
  split <;> try trivial
  rename_i hk
  obtain rfl := (ec _ _).1 hk
  simp only [VRel] at hb hc
  obtain ⟨hA, rfl⟩ := hc
  subst hb
  have hg := js (w := w) (op := op) (t := t) (x := x) (y := y) (b' := .int k n) (c' := .int k (e.eval Gv.σ)) (by simp) (by simp)
  refine im hw fun v hv => ?_
  obtain ⟨v0, q1, q2⟩ := ais hA hv
  obtain ⟨v', h1, h2⟩ := nq (ρ := ρ) (w := w) t q1 (k' := k) (.inl rfl)
  exact ⟨v', by simp only [zR, hg, zQ]; exact h1, q2 _ h2⟩
 ·rename_i k e A k' e' A'
  rw [ae]
  split <;> try trivial
  rename_i hk
  obtain rfl := (ec _ _).1 hk
  simp only [VRel] at hb hc
  obtain ⟨hA, rfl⟩ := hb
  obtain ⟨_, rfl⟩ := hc
  have hg := js (w := w) (op := op) (t := t) (x := x) (y := y) (b' := .int k (e.eval Gv.σ)) (c' := .int k (e'.eval Gv.σ)) (by simp) (by simp)
  refine im hw fun v hv => ?_
  obtain ⟨v0, q1, q2⟩ := ais hA hv
  obtain ⟨v', h1, h2⟩ := nq (ρ := ρ) (w := w) t q1 (k' := k) (.inl rfl)
  exact ⟨v', by simp only [zR, hg, zQ]; exact h1, q2 _ h2⟩
 ·rename_i e A l n
  rw [ae]
  split <;> try trivial
  rename_i hm
  simp only [VRel] at hb hc
  obtain ⟨hn, rfl⟩ := hc
  obtain ⟨rfl, hA⟩ := (show _ ∧ _ from hb)
  have hne : ajo Gv.σ ≠ ax l n := hA _ (yk hm)
  have hg := js (w := w) (op := op) (t := t) (x := x) (y := y) (b' := .string (ajo Gv.σ)) (c' := .string (ax l n)) (by simp) (by simp)
  exact zq (s := binOp op t (.string (ajo Gv.σ)) (.string (ax l n))) hw (by simp only [zR, hg, zQ]) (fun e => by subst e; rw [binOp_string_eql, aav (hne)]; rfl) (fun e => by subst e; rw [binOp_string_neq, aav (hne)]; rfl)
 ·rename_i l n e A
  rw [ae]
  split <;> try trivial
  rename_i hm
  simp only [VRel] at hb hc
  obtain ⟨hn, rfl⟩ := hb
  obtain ⟨rfl, hA⟩ := (show _ ∧ _ from hc)
  have hne : ajo Gv.σ ≠ ax l n := hA _ (yk hm)
  have hg := js (w := w) (op := op) (t := t) (x := x) (y := y) (b' := .string (ax l n)) (c' := .string (ajo Gv.σ)) (by simp) (by simp)
  exact zq (s := binOp op t (.string (ax l n)) (.string (ajo Gv.σ))) hw (by simp only [zR, hg, zQ]) (fun e => by subst e; rw [binOp_string_eql, aav (Ne.symm hne)]; rfl) (fun e => by subst e; rw [binOp_string_neq, aav (Ne.symm hne)]; rfl)
 ·rename_i e A e' A'
  rw [ae]
  split <;> try trivial
  rename_i hm
  simp only [zU] at hm
  simp only [VRel] at hb hc
  have hb : b' = .bool (decide (e.eval Gv.σ ≠ 0)) := hb
  have hc : c' = .bool (decide (e'.eval Gv.σ ≠ 0)) := hc
  have he := bl _ _ hm.1
  subst he
  generalize hr0 : decide (e.eval Gv.σ ≠ 0) = r0 at hb hc
  subst hb; subst hc
  have hu := atd hm.2
  have hr : eqA t (.bool r0) (.bool r0) a = some true := by
   unfold eqA agq
   rw [hu]
   cases r0 <;> rfl
  have ⟨t1, t2⟩ := agr hr
  have hvb : VRel ρ (.bool r0) (.bool r0) := by simp only [VRel]
  have hi : (ahf (.bool r0) && ahf (.bool r0)) = false := rfl
  have hs : (zv (.bool r0) && zv (.bool r0)) = false := rfl
  have hgu : va t x y (.bool r0) (.bool r0) = true := rfl
  have hq := tp hw 8 t (.bool r0) (.bool r0) true (.bool r0) (.bool r0) hr hvb hvb 10000 (by omega)
  refine zq (s := binOp op t (.bool r0) (.bool r0)) hw ?_ ?_ ?_
  ·have hg := fun op => js (w := w) (op := op) (t := t) (x := x) (y := y) (b' := .bool r0) (c' := .bool r0) (by simp) (by simp)
   simp only [zR, hg, zQ]
  ·intro e; subst e
   simp only [(xu hr hvb hvb hi hs t).1, Op.equal, Op.maxDepth, zR, hq, zQ, zT]
  ·intro e; subst e
   simp only [(xu hr hvb hvb hi hs t).2, Op.equal, Op.maxDepth, zR, hq, zQ, zT]
 ·rename_i hni hns _ _ _ _ _ _
  have hi : (ahf b && ahf c) = false := by
   cases b <;> first | rfl | (cases c <;> first | rfl | (exact (hni _ _ _ _ rfl rfl).elim))
  have hs : (zv b && zv c) = false := by
   cases b <;> first | rfl | (cases c <;> first | rfl | (exact (hns _ _ _ _ rfl rfl).elim))
  split
  ·rw [ae]
   split
   ·rename_i hg
    refine im hw fun v hv => ?_
    simp only [zG] at hv
    obtain ⟨r, hr, rfl⟩ := hv
    have ⟨t1, t2⟩ := agr hr
    have hg := ac2 (w := w) (op := .eql) hg hb hc t1 t2
    have hq := tp hw 8 t b c r b' c' hr hb hc 10000 (by omega)
    refine ⟨.bool r, ?_, gx rfl⟩
    simp only [zR, hg, zQ, (xu hr hb hc hi hs t).1, Op.equal, Op.maxDepth, hq, zT]
   ·trivial
  ·rw [ae]
   split
   ·rename_i hg
    refine im hw fun v hv => ?_
    simp only [zG] at hv
    obtain ⟨r, hr, rfl⟩ := hv
    have ⟨t1, t2⟩ := agr hr
    have hg := ac2 (w := w) (op := .neq) hg hb hc t1 t2
    have hq := tp hw 8 t b c r b' c' hr hb hc 10000 (by omega)
    refine ⟨.bool (!r), ?_, gx rfl⟩
    simp only [zR, hg, zQ, (xu hr hb hc hi hs t).2, Op.equal, Op.maxDepth, hq, zT]
   ·trivial
  ·trivial
theorem bob (hw : WRel ρ a w) {op : UnOp} {b : AV} {b' : Value} (hb : VRel ρ b b') : VOK ρ a w (Op.unary op b') (a3h op b a) := by
 unfold a3h
 split
 ·simp only [VRel] at hb; subst hb
  exact VOK.here hw (by simp only [Op.unary, Op.intArith]; rfl) (cg (by rw [ia]; rfl))
 ·rename_i k e A
  simp only [VRel] at hb
  obtain ⟨hA, rfl⟩ := hb
  exact VOK.here hw (v' := .int k (k.wrap (0 - e.eval Gv.σ))) (by simp only [Op.unary, Op.intArith]; rfl) (by simp only [VRel]; exact ⟨hA, rfl⟩)
 ·rename_i k n
  simp only [VRel] at hb; subst hb
  refine im hw fun v hv => ?_
  simp only [zG] at hv
  obtain ⟨r, hr, rfl⟩ := hv
  exact ⟨_, by simp only [Op.unary]; exact kg hr, cg rfl⟩
 ·simp only [VRel] at hb; subst hb
  exact VOK.here hw (by simp only [Op.unary]; rfl) (gx rfl)
 ·trivial
end
end Go.Ev
set_option linter.all false
namespace Go.Ev
variable [Gv]
section
variable {ρ : Env} {a : W} {w : World}
theorem yo (hw : WRel ρ a w) {o : AObj} {obj : Obj} {f : K → AV} {f' : Nat → Value} {s : Sem Value} (ho : ORel ρ o (some obj)) (hf : ∀ ρ' k c, ρ' k = some c → VRel ρ' (f k) (f' c))
  (hs : s.run PP w = .ok (f' w.heap.size) (w.alloc obj)) (hlo : bi o = none := by rfl) : VOK ρ a w s (ng o f a) := by
 obtain ⟨h, nx⟩ := a
 show VOK ρ (.mk h nx) w s (bc nx.isMax (.no 1) (.val (f nx) (.mk (co nx o h) nx.succ)))
 rw [ae]
 split
 ·trivial
 ·rename_i hm
  have hm : nx.isMax = false := by simpa using hm
  intro fr
  have hfr : ρ nx = none := fr nx (zY _) (by simp only [W.nx_mk]; rw [K.succ_num hm]; omega)
  exact ⟨_, _, _, hs, hf _ _ _ (ct ρ nx _ _), xn hw hfr hm ho hlo⟩
theorem th {l : List AV} {l' : List Value} (h : VRels ρ l l') (hn : l.length ≤ 65536) : a1r ρ l.length (mo l 0 (jm l.length)) l'.toArray := by
 intro i hi
 have hc := ee l.length hn
 obtain ⟨v, h1, h2⟩ := VRels.get l l' h i hi
 refine ⟨v, by simpa using h1, ?_⟩
 rw [ev l 0 _ i (by omega) (by omega), dif_pos ⟨Nat.zero_le _, by simpa using hi⟩]
 simpa using h2
theorem sj {t : TypeId} {l : List AV} {l' tail : List Value} {ext : Bool} (h : VRels ρ l l') (hn : l.length ≤ 65536) (he : ext = false → tail = []) :
  ORel ρ (yi t l ext) (some (.cells (l' ++ tail).toArray t)) := by
 unfold yi
 rw [ar]
 have hl := VRels.length l l' h
 refine ⟨_, _, rfl, by simp; omega, fun e => by rw [he e]; simp [hl], by rw [d8]; exact ee _ hn, ⟨zY _, fun i h1 h2 => by simp at h1 h2⟩, ?_⟩
 intro i hi
 obtain ⟨v, h1, h2⟩ := th h hn i hi
 refine ⟨v, ?_, h2⟩
 have h1' : l'[i]? = some v := by simpa using h1
 have hlt := (List.getElem?_eq_some_iff.1 h1').1
 simp [List.getElem?_append_left hlt, h1']
theorem ako (hw : WRel ρ a w) {t : TypeId} {l : List AV} {arr : Array Value} (h : VRels ρ l arr.toList) : VOK ρ a w (do pure (.pointer (some (← Go.newRow t arr)))) (newRow t l a) := by
 unfold newRow
 rw [ae, ar]
 split
 ·rename_i hn
  have hn := zE hn
  refine yo hw (obj := .cells arr t) (f' := fun c => .pointer (some ⟨c, 0, none⟩)) ?_ ?_ ?_
  ·have := sj (t := t) (tail := []) (ext := false) h hn (fun _ => rfl)
   rw [List.append_nil, Array.toArray_toList] at this
   exact this
  ·intro ρ' k c hk; simp only [a0x, VRel]; exact ⟨c, hk, rfl⟩
  ·simp only [Go.newRow, zR, run_newObj, zQ, zT]; rfl
 ·trivial
theorem dq {v : AV} {v' : Value} (h : VRel ρ v v') (ht : v ≠ .top) : VRels ρ (cellsOf v) v'.cells.toList := by
 cases v <;> first
  | (exact absurd rfl ht)
  | (simp only [VRel] at h; obtain ⟨ys, rfl, h⟩ := h; exact h)
  | (have hc : v'.cells = #[v'] := by
      simp only [VRel] at h
      first
       | (subst h; rfl) | (obtain ⟨_, rfl⟩ := h; rfl) | (obtain ⟨_, _, rfl⟩ := h; rfl) | (obtain ⟨_, _, _, _, _, rfl⟩ := h; rfl) | (obtain ⟨_, _, _, _, _, _, rfl⟩ := h; rfl) | (obtain ⟨_, _, _, _, rfl⟩ := h; rfl) | (obtain ⟨_, _, rfl, _⟩ := h; rfl) | (obtain ⟨_, _, _, rfl, _⟩ := h; rfl) | (obtain ⟨_, rfl, _⟩ := h; rfl) | (rcases SxRel.shape h with ⟨_, rfl⟩ | ⟨_, rfl⟩ <;> rfl) | (rcases GVRel.shape h with ⟨_, rfl⟩ | ⟨_, _, _, rfl⟩ | ⟨_, rfl⟩ <;> rfl)
     rw [hc]; simp only [cellsOf, VRels]; exact ⟨v', [], rfl, h, rfl⟩)
theorem gm {v : AV} (h : lb v = true) : v ≠ .top := by rintro rfl; cases h
theorem bc3 (hw : WRel ρ a w) {t : TypeId} {v : AV} {v' : Value} (h : VRel ρ v v') (ht : v ≠ .top) : VOK ρ a w (Instr.box t v') (newRow t (cellsOf v) a) :=
 (ako hw (dq h ht)).of_run (by simp [Instr.box, newVar])
theorem fq : ∀ (cells : List AV) (off : Nat) (vs : List AV), off + vs.length ≤ cells.length → (j8 cells off vs).length = cells.length
 | cells, 0, vs, h => by simp only [j8, ar, zP, List.length_drop]; omega
 | [], off + 1, vs, h => by simp at h
 | c :: cells, off + 1, vs, h => by simp only [j8, zO]; rw [fq cells off vs (by simp at h; omega)]
theorem abu : ∀ (cells : List AV) (off : Nat) (vs : List AV), off + vs.length ≤ cells.length → ∀ i, (j8 cells off vs)[i]? = if off ≤ i ∧ i < off + vs.length then vs[i - off]? else cells[i]?
 | cells, 0, vs, h, i => by
   simp only [j8, ar, List.getElem?_append, List.getElem?_drop, Nat.zero_add, Nat.zero_le, true_and, Nat.sub_zero]
   split
   ·rfl
   ·rw [show vs.length + (i - vs.length) = i by omega]
 | [], off + 1, vs, h, i => by simp at h
 | c :: cells, off + 1, vs, h, i => by
   simp only [j8]
   cases i with
   | zero => rw [if_neg (by omega)]; rfl
   | succ i =>
     rw [List.getElem?_cons_succ, abu cells off vs (by simp at h; omega) i, List.getElem?_cons_succ]
     by_cases hx : off ≤ i ∧ i < off + vs.length
     ·rw [if_pos hx, if_pos (by omega), show i + 1 - (off + 1) = i - off by omega]
     ·rw [if_neg hx, if_neg (by omega)]
theorem a3n (off : Nat) (vs : List Value) : ∀ (k : Nat) (cs : Array Value), off + k + vs.length ≤ cs.size →
  ((vs.zipIdx k).foldl (fun (cs : Array Value) (p : Value × Nat) => cs.setIfInBounds (off + p.2) p.1) cs).size = cs.size ∧
  ∀ j, ((vs.zipIdx k).foldl (fun (cs : Array Value) (p : Value × Nat) => cs.setIfInBounds (off + p.2) p.1) cs)[j]? = if off + k ≤ j ∧ j < off + k + vs.length then vs[j - (off + k)]? else cs[j]? := by
 induction vs with
 | nil => intro k cs _; exact ⟨rfl, fun j => by rw [if_neg (by simp only [zS]; omega)]; rfl⟩
 | cons v vs ih =>
   intro k cs h
   simp only [zO] at h
   simp only [List.zipIdx_cons, List.foldl_cons]
   have ⟨i1, i2⟩ := ih (k + 1) (cs.setIfInBounds (off + k) v) (by simp; omega)
   refine ⟨by rw [i1]; simp, fun j => ?_⟩
   rw [i2 j]
   by_cases x : off + (k + 1) ≤ j ∧ j < off + (k + 1) + vs.length
   ·rw [if_pos x, if_pos ⟨by omega, by simp only [zO]; omega⟩]
    have e : j - (off + k) = (j - (off + (k + 1))) + 1 := by omega
    rw [e, List.getElem?_cons_succ]
   ·rw [if_neg x]
    by_cases b : j = off + k
    ·subst b
     rw [if_pos ⟨zY _, by simp only [zO]; omega⟩]
     simp only [Nat.sub_self, List.getElem?_cons_zero]
     rw [Array.getElem?_setIfInBounds_self_of_lt (by omega)]
    ·rw [if_neg (by simp only [zO]; omega)]
     rw [Array.getElem?_setIfInBounds_ne (by omega)]
theorem a9v {cells : List AV} {cs : Array Value} {off : Nat} {vs : List AV} {vs' : Array Value} (h : VRels ρ cells cs.toList) (hv : VRels ρ vs vs'.toList) (hb : off + vs.length ≤ cells.length) :
  VRels ρ (j8 cells off vs) (vs'.zipIdx.foldl (fun (cs : Array Value) (p : Value × Nat) => cs.setIfInBounds (off + p.2) p.1) cs).toList := by
 have hl := VRels.length _ _ h
 have hl' := VRels.length _ _ hv
 simp only [Array.length_toList] at hl hl'
 have e : (vs'.zipIdx.foldl (fun (cs : Array Value) (p : Value × Nat) => cs.setIfInBounds (off + p.2) p.1) cs) = ((vs'.toList.zipIdx 0).foldl (fun (cs : Array Value) (p : Value × Nat) => cs.setIfInBounds (off + p.2) p.1) cs) := by
  rw [← Array.foldl_toList, Array.toList_zipIdx]
 rw [e]
 have ⟨f1, f2⟩ := a3n off vs'.toList 0 cs (by simp; omega)
 apply VRels.of_get
 ·rw [fq _ _ _ hb, Array.length_toList, f1]; omega
 ·intro i hi
  rw [fq _ _ _ hb] at hi
  have hp := abu cells off vs hb i
  have hq := f2 i
  simp only [Array.length_toList, Nat.add_zero] at hq
  by_cases x : off ≤ i ∧ i < off + vs.length
  ·rw [if_pos x] at hp
   rw [if_pos (by omega)] at hq
   obtain ⟨v, h1, h2⟩ := VRels.get _ _ hv (i - off) (by omega)
   refine ⟨v, by rw [Array.getElem?_toList, hq, h1], ?_⟩
   have : (j8 cells off vs)[i]'(by rw [fq _ _ _ hb]; exact hi) = vs[i - off]'(by omega) := by
    rw [zK (by rw [fq _ _ _ hb]; exact hi), zK (by omega)] at hp
    injection hp
   rw [this]; exact h2
  ·rw [if_neg x] at hp
   rw [if_neg (by omega)] at hq
   obtain ⟨v, h1, h2⟩ := VRels.get _ _ h i hi
   refine ⟨v, by rw [Array.getElem?_toList, hq, ← Array.getElem?_toList, h1], ?_⟩
   have : (j8 cells off vs)[i]'(by rw [fq _ _ _ hb]; exact hi) = cells[i] := by
    rw [zK (by rw [fq _ _ _ hb]; exact hi), zK hi] at hp
    injection hp
   rw [this]; exact h2
def ajb (ρ : Env) : List (Nat × AV) → List (Nat × Value) → Prop
 | [], l => l = []
 | p :: ps, l => ∃ v ls, l = (p.1, v) :: ls ∧ VRel ρ p.2 v ∧ ajb ρ ps ls
theorem abd {place : Nat → Option (Nat × Nat)} : ∀ (ps : List (Nat × AV)) (ps' : List (Nat × Value)) (cells r : List AV) (cs : Array Value), ajb ρ ps ps' → VRels ρ cells cs.toList →
  agz place cells ps = some r → ∃ r', Instr.fill place cs ps' = some r' ∧ VRels ρ r r'.toList
 | [], _, cells, r, cs, hp, hc, h => by
   simp only [ajb] at hp; subst hp
   simp only [agz] at h; cases h
   exact ⟨cs, rfl, hc⟩
 | (i, v) :: ps, _, cells, r, cs, hp, hc, h => by
   simp only [ajb] at hp
   obtain ⟨v', ls, rfl, hv, hps⟩ := hp
   simp only [agz] at h
   cases hpl : place i with
   | none => rw [hpl] at h; cases h
   | some q =>
     obtain ⟨off, size⟩ := q
     rw [hpl] at h
     simp only [ae, ar] at h
     split at h <;> try (cases h; done)
     rename_i h0
     split at h <;> try (cases h; done)
     rename_i h1
     split at h <;> try (cases h; done)
     rename_i h2
     have h1 := zW h1
     have h2 := zE h2
     have hcv := dq hv (gm h0)
     have hl := VRels.length _ _ hcv
     have hl2 := VRels.length _ _ hc
     simp only [Array.length_toList] at hl hl2
     obtain ⟨r', e1, e2⟩ := abd ps ls _ r _ hps (a9v hc hcv (by omega)) h
     refine ⟨r', ?_, e2⟩
     simp only [Instr.fill, hpl]
     rw [if_neg (by simp; omega)]
     exact e1
end
end Go.Ev
set_option linter.all false
namespace Go.Ev
variable [Gv]
section
variable {ρ : Env} {a : W} {w : World}
theorem ad4 {t : TypeId} {fs : List Field} (h : fieldsOf t = some fs) : ∃ fa : Array Field, ba t = some (.struct fa) ∧ fa.toList = fs := by
 unfold fieldsOf at h
 split at h
 ·rename_i fa hu; cases h; exact ⟨fa, hu, rfl⟩
 ·cases h
theorem aio {t : TypeId} {i off size : Nat} (h : ke t i = some (off, size)) :
  ∃ (fa : Array Field) (f : Field), ba t = some (.struct fa) ∧ fa[i]? = some f ∧ f.offset = off ∧ sizeOf f.type = some size := by
 unfold ke at h
 cases hf : fieldsOf t with
 | none => rw [hf] at h; cases h
 | some fs =>
   obtain ⟨fa, hu, rfl⟩ := ad4 hf
   rw [hf] at h
   simp only [Option.bind_some] at h
   cases hi : fa.toList[i]? with
   | none => rw [hi] at h; cases h
   | some f =>
     rw [hi] at h
     simp only [Option.bind_some, zG] at h
     obtain ⟨s, hs, e⟩ := h
     injection e with e1 e2
     subst e1; subst e2
     exact ⟨fa, f, hu, by simpa using hi, rfl, hs⟩
theorem ah4 : ∀ (l : List Field) (g : Field → Nat × Nat), (∀ f ∈ l, sizeOf f.type = some (g f).2 ∧ (g f).1 = f.offset) →
  (l.mapM (m := Sem) fun f => do pure (f.offset, ← Go.sizeOf f.type)).run PP w = .ok (l.map g) w
 | [], _, _ => rfl
 | f :: l, g, h => by
   have ⟨h1, h2⟩ := h f (by simp)
   rw [List.mapM_cons]
   simp only [zR, bn h1, zQ, zT, ah4 l g (fun x hx => h x (by simp [hx])), List.map_cons]
   rw [← h2]
theorem acl {t : TypeId} {fa : Array Field} {i : TypeInfo} {z : Value} {ps : Array (Nat × Value)} {r : Array Value} (hu : ba t = some (.struct fa)) (hsz : xh t = true)
  (hi : PP.info? t = some i) (hz : i.zero = some z) (hf : Instr.fill (ke t) z.cells ps.toList = some r) : (Instr.build t ps).run PP w = .ok (.agg r) w := by
 have hfo : fieldsOf t = some fa.toList := by unfold fieldsOf; rw [hu]
 have hs : ∀ f ∈ fa.toList, ∃ n, sizeOf f.type = some n := by
  unfold xh at hsz
  rw [hfo] at hsz
  intro f hm
  exact Option.isSome_iff_exists.1 (List.all_eq_true.1 hsz f hm)
 let g : Field → Nat × Nat := fun f => (f.offset, (sizeOf f.type).getD 0)
 have hg : ∀ f ∈ fa.toList, sizeOf f.type = some (g f).2 ∧ (g f).1 = f.offset := by
  intro f hm
  obtain ⟨n, hn⟩ := hs f hm
  exact ⟨by simp [g, hn], rfl⟩
 have hm := ah4 (w := w) fa.toList g hg
 have hplace : (fun x => (fa.map g)[x]?) = ke t := by
  funext k
  unfold ke
  rw [hfo]
  simp only [Option.bind_some, Array.getElem?_map, Array.getElem?_toList]
  cases hk : fa[k]? with
  | none => rfl
  | some f =>
    obtain ⟨n, hn⟩ := hs f (by simpa using Array.mem_of_getElem? hk)
    simp [g, hn]
 have hma : (fa.mapM (m := Sem) fun f => do pure (f.offset, ← Go.sizeOf f.type)).run PP w = .ok (fa.map g) w := by
  rw [Array.mapM_eq_mapM_toList, Sem.run_map, hm]
  show Result.ok (fa.toList.map g).toArray w = _
  rw [← Array.toList_map, Array.toArray_toList]
 simp only [Instr.build, zR, fi hi hz, zQ, af hu, hma]
 rw [hplace, hf]
 rfl
theorem a2b (hw : WRel ρ a w) {t : TypeId} {ps : List (Nat × AV)} {ps' : Array (Nat × Value)} (hp : ajb ρ ps ps'.toList) : VOK ρ a w (Instr.build t ps') (aa6 t ps a) := by
 unfold aa6
 split
 ·rename_i fa z hu hz
  obtain ⟨i, z', hi, hz', rfl⟩ := di hz
  simp only [ae]
  split <;> try trivial
  rename_i hsz
  split <;> try trivial
  rename_i hnt
  refine im hw fun v hv => ?_
  simp only [zG] at hv
  obtain ⟨r, hr, rfl⟩ := hv
  obtain ⟨r', e1, e2⟩ := abd ps ps'.toList _ r _ hp (dq (fp ρ z') (gm hnt)) hr
  exact ⟨.agg r', acl hu hsz hi hz' e1, by simp only [VRel]; exact ⟨r', rfl, e2⟩⟩
 ·rename_i n e z hu hz
  obtain ⟨i, z', hi, hz', rfl⟩ := di hz
  split <;> try trivial
  rename_i s hs
  rw [ae]
  split <;> try trivial
  rename_i hnt
  refine im hw fun v hv => ?_
  simp only [zG] at hv
  obtain ⟨r, hr, rfl⟩ := hv
  obtain ⟨r', e1, e2⟩ := abd ps ps'.toList _ r _ hp (dq (fp ρ z') (gm hnt)) hr
  refine ⟨.agg r', ?_, by simp only [VRel]; exact ⟨r', rfl, e2⟩⟩
  simp only [Instr.build, zR, fi hi hz', zQ, af hu, bn hs]
  rw [e1]
  rfl
 ·trivial
theorem j9 (z : List AV) : ∀ n, (lq z n).length = n * z.length
 | 0 => by simp [lq]
 | n + 1 => by simp only [lq, zP, j9 z n, Nat.succ_mul]; omega
theorem aeg (z : List AV) : ∀ (n i : Nat), i < n * z.length → (lq z n)[i]? = z[i % z.length]?
 | 0, i, h => by simp at h
 | n + 1, i, h => by
   simp only [lq, List.getElem?_append]
   split
   ·rename_i h1; rw [Nat.mod_eq_of_lt h1]
   ·rename_i h1
    rw [Nat.succ_mul] at h
    rw [aeg z n (i - z.length) (by omega), ← Nat.mod_eq_sub_mod (by omega)]
theorem yx {z : List AV} {z' : Array Value} (h : VRels ρ z z'.toList) (n m : Nat) (hm : m = n * z.length) : VRels ρ (lq z n) ((Array.range m).map (z'[· % z'.size]!)).toList := by
 have hl := VRels.length _ _ h
 simp only [Array.length_toList] at hl
 subst hm
 apply VRels.of_get
 ·rw [j9]; simp
 ·intro i hi
  rw [j9] at hi
  have hz : 0 < z.length := by
   rcases Nat.eq_zero_or_pos z.length with e | e
   ·rw [e] at hi; simp at hi
   ·exact e
  have hlt : i % z.length < z.length := Nat.mod_lt _ hz
  obtain ⟨v, h1, h2⟩ := VRels.get _ _ h (i % z.length) hlt
  have hg := aeg z n i hi
  rw [zK (by rw [j9]; exact hi), zK hlt] at hg
  injection hg with hg
  refine ⟨v, ?_, by rw [hg]; exact h2⟩
  have h1' : z'[i % z.length]? = some v := by simpa using h1
  simp only [Array.toList_map, Array.toList_range, List.getElem?_map]
  rw [List.getElem?_range hi]
  simp only [Option.map_some, hl]
  rw [getElem!_def, h1']
theorem aq4 (hw : WRel ρ a w) {e : TypeId} {l : List AV} {arr : Array Value} {len : Nat} (h : VRels ρ l arr.toList) :
  VOK ρ a w (do pure (.slice (some (← Go.newRow e arr)) len len)) (ahs e l len a) := by
 unfold ahs
 rw [ae, ar]
 split
 ·rename_i hn
  have hn := zE hn
  refine yo hw (obj := .cells arr e) (f' := fun c => .slice (some ⟨c, 0, none⟩) len len) ?_ ?_ ?_
  ·have := sj (t := e) (tail := []) (ext := false) h hn (fun _ => rfl)
   rw [List.append_nil, Array.toArray_toList] at this
   exact this
  ·intro ρ' k c hk; simp only [VRel]; exact ⟨c, len, hk, ⟨zY _, zY _⟩, rfl, rfl⟩
  ·simp only [Go.newRow, zR, run_newObj, zQ, zT]; rfl
 ·trivial
theorem ajd (hw : WRel ρ a w) {t : TypeId} {len : Nat} {ps : List (Nat × AV)} {ps' : Array (Nat × Value)} (hp : ajb ρ ps ps'.toList) :
  VOK ρ a w (Instr.buildSlice t len ps') (mr t len ps a) := by
 unfold mr
 split <;> try trivial
 rename_i e hu
 split <;> try trivial
 rename_i s z hs hz
 obtain ⟨i, z', hi, hz', rfl⟩ := di hz
 rw [ae]
 split <;> try trivial
 rename_i hc
 simp only [zU, ar] at hc
 obtain ⟨⟨h1, h2⟩, h3⟩ := hc
 have h2 := zW h2
 have h3 := zE h3
 split <;> try trivial
 rename_i l hl
 have hcz := dq (fp ρ z') (gm h1)
 have hlen := VRels.length _ _ hcz
 obtain ⟨r', e1, e2⟩ := abd ps ps'.toList _ l _ hp (yx hcz len (len * s) (by rw [h2])) hl
 refine (aq4 hw e2).of_run ?_
 have hbig : ¬ len * s > 2 ^ 24 := by omega
 simp only [Instr.buildSlice, zR, af hu, zQ, bn hs, hbig, if_false]
 by_cases h0 : len * s = 0
 ·have hr : ∀ z : Array Value, ((Array.range (len * s)).map (z[· % z.size]!)) = #[] := by intro z; rw [h0]; simp
  rw [hr] at e1
  rw [if_pos h0]
  simp only [zR, zT, zQ]
  rw [hr, e1]
  simp only [zR, zT]
 ·rw [if_neg h0]
  simp only [zR, fi hi hz', zQ, zT, e1]
end
end Go.Ev
