import Derived.Test.YtocilenpboklbaaGreatDoorEvO
import Derived.Laws.Strings
import Derived.Laws.StructEq
import Derived.Laws.Cover3
import Derived.WalkSpells
set_option linter.all false
namespace Go.Ev
variable [Gv]
theorem fy (k : IntKind) (n : Int) : qo k n = k.wrap n := by
 cases n with
 | ofNat m =>
   simp only [qo, aa]
   split
   ·rename_i h
    have h := zE h
    cases k <;> simp only [ab2] at h <;> simp only [IntKind.wrap, IntKind.bits, IntKind.signed] <;> simp <;> omega
   ·rfl
 | negSucc m =>
   simp only [qo, aa]
   split
   ·rename_i hs
    split
    ·rename_i h
     have h := zE h
     cases k <;> simp only [br8] at hs <;> first
      | (cases hs; done)
      | (simp only [ab2] at h; simp only [IntKind.wrap, IntKind.bits, IntKind.signed]; simp; omega)
    ·rfl
   ·rfl
theorem j7 (a b : Int) : adn a b = decide (a ≤ b) := by
 cases a <;> cases b <;> simp only [adn] <;> rename_i m n
 ·rw [Bool.eq_iff_iff]; simp [Nat.ble_eq]
 ·simp; omega
 ·simp; omega
 ·rw [Bool.eq_iff_iff]; simp [Nat.ble_eq]; omega
theorem nl (a b : Int) : adm a b = (a == b) := by
 cases a <;> cases b <;> simp only [adm] <;> rename_i m n
 ·rw [Bool.eq_iff_iff]; simp; omega
 ·symm; rw [beq_eq_false_iff_ne]; simp
 ·symm; rw [beq_eq_false_iff_ne]; simp
 ·rw [Bool.eq_iff_iff]; simp
theorem dq (k l : IntKind) : qe k l = true ↔ k = l := by cases k <;> cases l <;> simp [qe]
theorem awx (k : IntKind) : ab2 k < 2 ^ k.bits := by cases k <;> decide
theorem auh (k : IntKind) : ∃ m, ab2 k = 2 ^ m - 1 ∧ m ≤ k.bits := by
 cases k
 ·exact ⟨7, by decide, by decide⟩
 ·exact ⟨15, by decide, by decide⟩
 ·exact ⟨31, by decide, by decide⟩
 ·exact ⟨63, by decide, by decide⟩
 ·exact ⟨8, by decide, by decide⟩
 ·exact ⟨16, by decide, by decide⟩
 ·exact ⟨32, by decide, by decide⟩
 ·exact ⟨64, by decide, by decide⟩
theorem pg (n m : Nat) (h : m < 2 ^ n) : (BitVec.ofInt n (Int.ofNat m)).toNat = m := by
 simp [BitVec.ofInt]
 exact Nat.mod_eq_of_lt h
theorem uu (k : IntKind) (m : Nat) (h : m ≤ ab2 k) : k.wrap (Int.ofNat m) = Int.ofNat m := by
 rw [← fy]; simp only [qo, aa, Nat.ble_eq_true_of_le h, if_true]
theorem aaw (op : BinOp) (k : IntKind) (x y : Int) : a6s op k x y = c9 op k x y := by
 unfold a6s
 split
 ·rename_i a b
  simp only [aa]
  split
  ·rename_i h1
   split
   ·rename_i h2
    have h1 := zE h1
    have h2 := zE h2
    have := awx k
    simp only [c9, BitVec.toNat_and, pg k.bits a (by omega), pg k.bits b (by omega)]
    congr 1
    symm
    exact uu k _ (Nat.le_trans Nat.and_le_left h1)
   ·rfl
  ·rfl
 ·rename_i a b
  simp only [aa]
  split
  ·rename_i h1
   split
   ·rename_i h2
    have h1 := zE h1
    have h2 := zE h2
    have := awx k
    simp only [c9, BitVec.toNat_or, pg k.bits a (by omega), pg k.bits b (by omega)]
    congr 1
    symm
    refine uu k _ ?_
    obtain ⟨m, hm, _⟩ := auh k
    have hp : 0 < 2 ^ m := Nat.pow_pos (by decide)
    have := Nat.or_lt_two_pow (x := a) (y := b) (n := m) (by omega) (by omega)
    omega
   ·rfl
  ·rfl
 ·rename_i a b
  simp only [aa]
  split
  ·rename_i h1
   split
   ·rename_i h2
    have h1 := zE h1
    have h2 := zE h2
    have := awx k
    simp only [c9, BitVec.toNat_xor, pg k.bits a (by omega), pg k.bits b (by omega)]
    congr 1
    symm
    refine uu k _ ?_
    obtain ⟨m, hm, _⟩ := auh k
    have hp : 0 < 2 ^ m := Nat.pow_pos (by decide)
    have := Nat.xor_lt_two_pow (x := a) (y := b) (n := m) (by omega) (by omega)
    omega
   ·rfl
  ·rfl
 ·rfl
section
variable {ρ : Env} {a : W} {w : World}
theorem bw {k : IntKind} {x y : Int} (h : x = y) : VRel ρ (.int k x) (.int k y) := by simp only [VRel, h]
theorem fq {x y : Bool} (h : x = y) : VRel ρ (.bool x) (.bool y) := by simp only [VRel, h]
theorem jz {op : BinOp} {k : IntKind} {m n r : Int} (h : c9 op k m n = some r) : (Op.intBits op k m n).run PP w = .ok (.int k r) w := by
 cases op <;> simp only [c9] at h <;> first | (cases h; done) | (cases h; rfl)
theorem nb {op : BinOp} {k k' : IntKind} {m n : Int} {v : AV} (t : TypeId) (h : mj op k m n = some v) (hk : k = k' ∨ op = .shl ∨ op = .shr) :
  ∃ v', (binOp op t (.int k m) (.int k' n)).run PP w = .ok v' w ∧ VRel ρ v v' := by
 have pos : ∀ n : Int, adn 0 n = true → ¬ n < 0 := by intro n h; rw [j7] at h; simp at h; omega
 have ne : ∀ n : Int, adm n 0 = false → n ≠ 0 := by intro n h; rw [nl] at h; simpa using h
 cases op with
 | shl =>
   simp only [mj, aa] at h
   split at h
   ·rename_i hb
    cases h
    refine ⟨_, ?_, bw (fy _ _)⟩
    simp [binOp, Op.shift, pos n hb]
   ·cases h
 | shr =>
   simp only [mj, aa] at h
   split at h
   ·rename_i hb
    cases h
    refine ⟨_, ?_, bw rfl⟩
    simp [binOp, Op.shift, pos n hb]
   ·cases h
 | add => obtain rfl := hk.resolve_right (by simp); cases h; exact ⟨_, by simp only [binOp, Op.intArith, ne_eq, not_true_eq_false, if_false]; rfl, bw (fy _ _)⟩
 | sub => obtain rfl := hk.resolve_right (by simp); cases h; exact ⟨_, by simp only [binOp, Op.intArith, ne_eq, not_true_eq_false, if_false]; rfl, bw (fy _ _)⟩
 | mul => obtain rfl := hk.resolve_right (by simp); cases h; exact ⟨_, by simp only [binOp, Op.intArith, ne_eq, not_true_eq_false, if_false]; rfl, bw (fy _ _)⟩
 | eql => obtain rfl := hk.resolve_right (by simp); cases h; exact ⟨_, by simp only [binOp, Op.intCmp, ne_eq, not_true_eq_false, if_false]; rfl, fq (nl _ _)⟩
 | neq => obtain rfl := hk.resolve_right (by simp); cases h; exact ⟨_, by simp only [binOp, Op.intCmp, ne_eq, not_true_eq_false, if_false]; rfl, fq (by rw [nl]; rfl)⟩
 | lss => obtain rfl := hk.resolve_right (by simp); cases h; exact ⟨_, by simp only [binOp, Op.intCmp, ne_eq, not_true_eq_false, if_false]; rfl, fq (by rw [j7, ← decide_not]; congr 1; simp)⟩
 | leq => obtain rfl := hk.resolve_right (by simp); cases h; exact ⟨_, by simp only [binOp, Op.intCmp, ne_eq, not_true_eq_false, if_false]; rfl, fq (j7 _ _)⟩
 | gtr => obtain rfl := hk.resolve_right (by simp); cases h; exact ⟨_, by simp only [binOp, Op.intCmp, ne_eq, not_true_eq_false, if_false]; rfl, fq (by rw [j7, ← decide_not]; congr 1; simp)⟩
 | geq => obtain rfl := hk.resolve_right (by simp); cases h; exact ⟨_, by simp only [binOp, Op.intCmp, ne_eq, not_true_eq_false, if_false]; rfl, fq (j7 _ _)⟩
 | quo =>
   obtain rfl := hk.resolve_right (by simp)
   simp only [mj, aa] at h
   split at h
   ·cases h
   ·rename_i hb
    cases h
    exact ⟨_, by simp only [binOp, Op.intDiv, ne_eq, not_true_eq_false, if_false, ne n (by simpa using hb)]; rfl, bw (fy _ _)⟩
 | rem =>
   obtain rfl := hk.resolve_right (by simp)
   simp only [mj, aa] at h
   split at h
   ·cases h
   ·rename_i hb
    cases h
    exact ⟨_, by simp only [binOp, Op.intDiv, ne_eq, not_true_eq_false, if_false, ne n (by simpa using hb)]; rfl, bw rfl⟩
 | and =>
   obtain rfl := hk.resolve_right (by simp)
   simp only [mj, aaw, zG] at h
   obtain ⟨r, hr, rfl⟩ := h
   exact ⟨_, by simp only [binOp, ne_eq, not_true_eq_false, if_false]; exact jz hr, bw rfl⟩
 | or =>
   obtain rfl := hk.resolve_right (by simp)
   simp only [mj, aaw, zG] at h
   obtain ⟨r, hr, rfl⟩ := h
   exact ⟨_, by simp only [binOp, ne_eq, not_true_eq_false, if_false]; exact jz hr, bw rfl⟩
 | xor =>
   obtain rfl := hk.resolve_right (by simp)
   simp only [mj, aaw, zG] at h
   obtain ⟨r, hr, rfl⟩ := h
   exact ⟨_, by simp only [binOp, ne_eq, not_true_eq_false, if_false]; exact jz hr, bw rfl⟩
 | andNot =>
   obtain rfl := hk.resolve_right (by simp)
   simp only [mj, aaw, zG] at h
   obtain ⟨r, hr, rfl⟩ := h
   exact ⟨_, by simp only [binOp, ne_eq, not_true_eq_false, if_false]; exact jz hr, bw rfl⟩
theorem y8 (l n : Nat) : (ay l n).toList = bf l n := by unfold ay; rw [ByteArray.toList_mk]
theorem tq (l n l' n' : Nat) (h : n < 256 ^ l) (h' : n' < 256 ^ l') : ((ay l n).toList == (ay l' n').toList) = sEq l n l' n' := by
 rw [bfo l n l' n' h h', Bool.eq_iff_iff, beq_iff_eq, decide_eq_true_eq]
 constructor
 ·intro e; rw [y8, y8] at e; unfold ay; rw [e]
 ·intro e; rw [e]
theorem awn {op : BinOp} {l n l' n' : Nat} {v : AV} (t : TypeId) (h : awm op l n l' n' = some v) (h1 : n < 256 ^ l) (h2 : n' < 256 ^ l') :
  ∃ v', (binOp op t (.string (ay l n)) (.string (ay l' n'))).run PP w = .ok v' w ∧ VRel ρ v v' := by
 cases op <;> simp only [awm] at h <;> try (cases h; done)
 ·rw [aa] at h
  split at h
  ·rename_i hb
   have hb := zE hb
   cases h
   refine ⟨.string (ay l n ++ ay l' n'), ?_, ?_⟩
   ·have : ¬ (((ay l n).size + (ay l' n').size : Nat) : Int) > IntKind.i64.max := by
     rw [df, df]
     simp [IntKind.max, IntKind.bits, IntKind.signed]; omega
    simp only [binOp, Op.stringOp, this, if_false]
    rfl
   ·unfold br6
    simp only [VRel]
    refine ⟨a6u _ _ _ _ h1 h2, ?_⟩
    congr 1
    have e : ∀ x y : List UInt8, (⟨x.toArray⟩ : ByteArray) ++ ⟨y.toArray⟩ = ⟨(x ++ y).toArray⟩ := by
     intro x y
     apply ByteArray.ext
     simp
    unfold ay
    rw [e, show Nat.pow 256 l' = 256 ^ l' from rfl, qt _ _ _ _ h2]
  ·cases h
 ·cases h
  exact ⟨_, by rw [binOp_string_eql]; rfl, fq (tq _ _ _ _ h1 h2).symm⟩
 ·cases h
  exact ⟨_, by rw [binOp_string_neq]; rfl, fq (by rw [tq _ _ _ _ h1 h2])⟩
theorem bc_and {x y : Bool} : bc x y false = true ↔ x = true ∧ y = true := by cases x <;> cases y <;> simp [aa]
theorem xv (m n : Int) : (m == n) = decide (m = n) := by rw [Bool.eq_iff_iff]; simp
mutual
theorem bn : ∀ (a b : SE), fw a b = true → a = b := by
 intro a b h
 cases a <;> cases b <;> simp only [fw, zF] at h
 ·rw [zW h]
 ·rw [nl] at h; simp at h; rw [h]
 ·obtain ⟨h1, h⟩ := bc_and.1 h
  obtain ⟨h2, h⟩ := bc_and.1 h
  obtain ⟨h3, h4⟩ := bc_and.1 h
  rw [zW h1, (dq _ _).1 h2, bn _ _ h3, bn _ _ h4]
 ·rw [cz _ _ h]
 ·obtain ⟨h1, h2⟩ := bc_and.1 h; rw [cz _ _ h1, bn _ _ h2]
 ·obtain ⟨h1, h2⟩ := bc_and.1 h; rw [cz _ _ h1, bn _ _ h2]
 ·obtain ⟨h1, h2⟩ := bc_and.1 h; rw [cz _ _ h1, bn _ _ h2]
 ·obtain ⟨h1, h2⟩ := bc_and.1 h; rw [cz _ _ h1, cz _ _ h2]
 ·obtain ⟨h1, h2⟩ := bc_and.1 h; rw [cz _ _ h1, cz _ _ h2]
 ·obtain ⟨h1, h2⟩ := bc_and.1 h; rw [cz _ _ h1, cz _ _ h2]
 ·obtain ⟨h1, h2⟩ := bc_and.1 h; rw [zW h1, afn _ _ h2]
theorem cz : ∀ (a b : GE), mt a b = true → a = b := by
 intro a b h
 cases a <;> cases b <;> simp only [mt, zF] at h
 ·rw [zW h]
 ·rfl
 ·rw [bn _ _ h]
 ·obtain ⟨h1, h2⟩ := bc_and.1 h; rw [cz _ _ h1, cz _ _ h2]
 ·obtain ⟨h1, h2⟩ := bc_and.1 h; rw [zW h1, zW h2]
 ·obtain ⟨h1, h⟩ := bc_and.1 h
  obtain ⟨h2, h3⟩ := bc_and.1 h
  rw [cz _ _ h1, bn _ _ h2, bn _ _ h3]
 ·rw [bn _ _ h]
 ·obtain ⟨h1, h2⟩ := bc_and.1 h; rw [zW h1, afn _ _ h2]
theorem afn : ∀ (a b : AL), a36 a b = true → a = b := by
 intro a b h
 cases a <;> cases b <;> simp only [a36, zF] at h
 ·rfl
 ·obtain ⟨h1, h2⟩ := bc_and.1 h; rw [bn _ _ h1, afn _ _ h2]
 ·obtain ⟨h1, h2⟩ := bc_and.1 h; rw [cz _ _ h1, afn _ _ h2]
end
theorem amf {σ : Nat → List Int} {lt : Bool} {a b : SE} {r : Bool} : ∀ {A : List SA}, SAll σ A → ad5 lt a b A = some r → (SA.mk lt a b r).holds σ
 | [], _, h => by cases h
 | .mk lt' a' b' r' :: A, hA, h => by
   have ih := fun h => amf (A := A) (σ := σ) (lt := lt) (a := a) (b := b) (r := r) (fun x hx => hA x (zA _ hx)) h
   simp only [ad5, aa] at h
   split at h
   ·rename_i h1
    split at h
    ·rename_i h2
     split at h
     ·rename_i h3
      injection h with h
      subst h
      have h1 : lt = lt' := by cases lt <;> cases lt' <;> first | rfl | cases h1
      subst h1
      rw [bn _ _ h2, bn _ _ h3]
      exact hA _ (by simp)
     ·exact ih h
    ·exact ih h
   ·exact ih h
theorem ct {σ : Nat → List Int} {lt : Bool} {a b : SE} {A : List SA} {r : Bool} (hA : SAll σ A) (h : ea lt a b A = some r) : (SA.mk lt a b r).holds σ := by
 unfold ea at h
 split at h
 ·rename_i m n
  injection h with h
  subst h
  cases lt
  ·show decide (m = n) = _; rw [aa]; simp only [zF, if_false]; rw [nl, xv]
  ·show decide (m < n) = _; rw [aa]; simp only [if_true]; rw [j7]; by_cases e : n ≤ m <;> simp [e] <;> omega
 ·rw [aa] at h
  split at h
  ·rename_i he
   injection h with h
   subst h
   rw [bn _ _ he]
   cases lt
   ·show decide (_ = _) = _; simp
   ·show decide (_ < _) = _; simp
  ·exact amf hA h
theorem ajw {op : BinOp} {k : IntKind} {a b : SE} {A : List SA} {v : AV} (hA : SAll Gv.σ A) (h : aud op k a b A = some v) :
  ∃ v0, mj op k (a.eval Gv.σ) (b.eval Gv.σ) = some v0 ∧ ∀ x, VRel ρ v0 x → VRel ρ v x := by
 have nz : ∀ r, ea false b (.c 0) A = some r → adm (b.eval Gv.σ) 0 = r := by
  intro r hr
  have := ct hA hr
  have this : decide (b.eval Gv.σ = 0) = r := this
  rw [nl, xv]; exact this
 unfold aud at h
 split at h
 ·injection h with h; subst h
  exact ⟨_, rfl, fun x hx => by simp only [VRel] at hx ⊢; rw [fy] at hx; exact ⟨hA, hx⟩⟩
 ·injection h with h; subst h
  exact ⟨_, rfl, fun x hx => by simp only [VRel] at hx ⊢; rw [fy] at hx; exact ⟨hA, hx⟩⟩
 ·injection h with h; subst h
  exact ⟨_, rfl, fun x hx => by simp only [VRel] at hx ⊢; rw [fy] at hx; exact ⟨hA, hx⟩⟩
 ·split at h <;> try (cases h; done)
  rename_i he
  injection h with h; subst h
  exact ⟨.int k (qo k ((a.eval Gv.σ).tdiv (b.eval Gv.σ))), by simp only [mj, nz _ he, aa, zF, if_false], fun x hx => by simp only [VRel] at hx ⊢; rw [fy] at hx; exact ⟨hA, hx⟩⟩
 ·split at h <;> try (cases h; done)
  rename_i he
  injection h with h; subst h
  exact ⟨.int k ((a.eval Gv.σ).tmod (b.eval Gv.σ)), by simp only [mj, nz _ he, aa, zF, if_false], fun x hx => by simp only [VRel] at hx ⊢; exact ⟨hA, hx⟩⟩
 ·simp only [zG] at h
  obtain ⟨r, hr, rfl⟩ := h
  have := ct hA hr
  have this : decide (a.eval Gv.σ = b.eval Gv.σ) = r := this
  exact ⟨_, rfl, fun x hx => by simp only [VRel] at hx ⊢; rw [nl, xv, this] at hx; exact hx⟩
 ·simp only [zG] at h
  obtain ⟨r, hr, rfl⟩ := h
  have := ct hA hr
  have this : decide (a.eval Gv.σ = b.eval Gv.σ) = r := this
  exact ⟨_, rfl, fun x hx => by simp only [VRel] at hx ⊢; rw [nl, xv, this] at hx; exact hx⟩
 ·simp only [zG] at h
  obtain ⟨r, hr, rfl⟩ := h
  have := ct hA hr
  have this : decide (a.eval Gv.σ < b.eval Gv.σ) = r := this
  refine ⟨_, rfl, fun x hx => ?_⟩
  simp only [VRel] at hx ⊢
  rw [hx, j7, ← this]
  by_cases e : b.eval Gv.σ ≤ a.eval Gv.σ <;> simp [e] <;> omega
 ·simp only [zG] at h
  obtain ⟨r, hr, rfl⟩ := h
  have := ct hA hr
  have this : decide (b.eval Gv.σ < a.eval Gv.σ) = r := this
  refine ⟨_, rfl, fun x hx => ?_⟩
  simp only [VRel] at hx ⊢
  rw [hx, j7, ← this]
  by_cases e : a.eval Gv.σ ≤ b.eval Gv.σ <;> simp [e] <;> omega
 ·simp only [zG] at h
  obtain ⟨r, hr, rfl⟩ := h
  have := ct hA hr
  have this : decide (b.eval Gv.σ < a.eval Gv.σ) = r := this
  refine ⟨_, rfl, fun x hx => ?_⟩
  simp only [VRel] at hx ⊢
  rw [hx, j7, ← this]
  by_cases e : a.eval Gv.σ ≤ b.eval Gv.σ <;> simp [e] <;> omega
 ·simp only [zG] at h
  obtain ⟨r, hr, rfl⟩ := h
  have := ct hA hr
  have this : decide (a.eval Gv.σ < b.eval Gv.σ) = r := this
  refine ⟨_, rfl, fun x hx => ?_⟩
  simp only [VRel] at hx ⊢
  rw [hx, j7, ← this]
  by_cases e : b.eval Gv.σ ≤ a.eval Gv.σ <;> simp [e] <;> omega
 ·cases h
theorem ad7 {mx : Bool} {k : IntKind} {a b : SE} {A : List SA} {v : AV} (hA : SAll Gv.σ A) (h : ajv mx k a b A = some v) :
  ∀ x, VRel ρ (.int k (bc (adn (a.eval Gv.σ) (b.eval Gv.σ)) (bc mx (b.eval Gv.σ) (a.eval Gv.σ)) (bc mx (a.eval Gv.σ) (b.eval Gv.σ)))) x → VRel ρ v x := by
 intro x hx
 unfold ajv at h
 split at h <;> try (cases h; done)
 ·rename_i hr
  have := ct hA hr
  have this : decide (b.eval Gv.σ < a.eval Gv.σ) = true := this
  simp at this
  injection h with h; subst h
  simp only [VRel, j7] at hx ⊢
  rw [show decide (a.eval Gv.σ ≤ b.eval Gv.σ) = false by simp; omega] at hx
  refine ⟨hA, ?_⟩
  cases mx <;> exact hx
 ·rename_i hr
  have := ct hA hr
  have this : decide (b.eval Gv.σ < a.eval Gv.σ) = false := this
  simp at this
  injection h with h; subst h
  simp only [VRel, j7] at hx ⊢
  rw [show decide (a.eval Gv.σ ≤ b.eval Gv.σ) = true by simp; omega] at hx
  refine ⟨hA, ?_⟩
  cases mx <;> exact hx
end
end Go.Ev
set_option linter.all false
namespace Go.Ev
variable [Gv]
section
variable {ρ : Env} {a : W} {w : World}
theorem VRels.drop {ρ : Env} : ∀ (n : Nat) (l : List AV) (vs : List Value), VRels ρ l vs → VRels ρ (l.drop n) (vs.drop n)
 | 0, _, _, h => by simpa using h
 | n + 1, [], _, h => by simp only [VRels] at h; subst h; simp [VRels]
 | n + 1, a :: l, _, h => by simp only [VRels] at h; obtain ⟨v, vs, rfl, _, h3⟩ := h; simpa using VRels.drop n l vs h3
theorem VRels.take {ρ : Env} : ∀ (n : Nat) (l : List AV) (vs : List Value), VRels ρ l vs → VRels ρ (l.take n) (vs.take n)
 | 0, _, _, _ => by simp [VRels]
 | n + 1, [], _, h => by simp only [VRels] at h; subst h; simp [VRels]
 | n + 1, a :: l, _, h => by
   simp only [VRels] at h; obtain ⟨v, vs, rfl, h2, h3⟩ := h
   simp only [List.take_succ_cons, VRels]
   exact ⟨v, vs.take n, rfl, h2, VRels.take n l vs h3⟩
theorem wn {t : TypeId} {cs : List AV} {cs' : Array Value} {off : Nat} {v : AV} (h : ai7 t cs off = some v) (hc : VRels ρ cs cs'.toList) :
  ∃ v', (part t cs' off).run PP w = .ok v' w ∧ VRel ρ v v' := by
 unfold ai7 at h
 split at h
 ·rename_i h0
  obtain ⟨d, n, hd, hs, hr⟩ := ku h0
  have hagg : ix d = false := by cases e : ix d with | false => rfl | true => rw [e] at hr; simp at hr
  rw [sb] at h
  obtain ⟨hlt, he⟩ := List.getElem?_eq_some_iff.1 h
  obtain ⟨v', h1, h2⟩ := VRels.get cs _ hc off hlt
  rw [he] at h2
  refine ⟨v', ?_, h2⟩
  have h1' : cs'[off]? = some v' := by simpa using h1
  simp only [part, zR, l7 hd, zQ, hagg, zF, if_false, h1']
  rfl
 ·rename_i n h0
  obtain ⟨d, m, hd, hs, hr⟩ := ku h0
  cases h
  by_cases hagg : ix d = true
  ·rw [if_pos hagg] at hr
   injection hr with hr
   injection hr with hr
   subst hr
   refine ⟨.agg (cs'.extract off (off + n)), ?_, ?_⟩
   ·simp only [part, zR, l7 hd, zQ, hagg, if_true, bi hs, zT]
   ·simp only [VRel]
    refine ⟨_, rfl, ?_⟩
    have := VRels.take n _ _ (VRels.drop off _ _ hc)
    simpa [List.extract_eq_take_drop] using this
  ·rw [if_neg hagg] at hr
   split at hr <;> cases hr
 ·cases h
def au1 (w : World) (d : Nat) (t : TypeId) (x y : Value) (r : Bool) : Prop := ∀ D, d ≤ D → (Op.equalIn D t x y).run PP w = .ok r w
theorem as9 (hw : WRel ρ a w) {b : K} {c : Nat} (h : aku b a = true) (hc : ρ b = some c) (hn : ah b a.h ≠ .none) :
  ∃ arr t fz, w.heap[c]? = some (.cells arr t fz) ∧ arr.size ≠ 0 ∧ ∀ i, ¬ (fz.1 ≤ i ∧ i < fz.2) := by
 unfold aku at h
 split at h
 ·rename_i t size ext fl fh cs hg
  rw [aa] at h
  split at h
  ·rename_i h1
   have h1 := zE h1
   obtain ⟨arr, fz, e1, e2, e3, e4, e5, e6⟩ := hw.block hg (by simp) hc
   refine ⟨arr, t, fz, e1, ?_, ?_⟩
   ·have : size ≠ 0 := by intro e; subst e; cases h
    omega
   ·intro i hi; have := e5.2 i hi.1 hi.2; omega
  ·cases h
 ·cases h
theorem afv {b : K} (h : aku b a = true) : ah b a.h ≠ .none := by
 rw [← bg]; intro e; unfold aku at h; rw [e] at h; cases h
theorem beu {b : K} (h : aku b a = true) : (ah b a.h).isRo = false := by
 rw [← bg]; unfold aku at h
 split at h
 ·rename_i hg; rw [hg]; rfl
 ·cases h
theorem ajl (hw : WRel ρ a w) {b b' : K} {c c' o o' : Nat} (h : aku b a = true) (h' : aku b' a = true) (hc : ρ b = some c) (hc' : ρ b' = some c') (hne : b ≠ b') :
  (sameAddr ⟨c, o, none⟩ ⟨c', o', none⟩).run PP w = .ok false w := by
 have hcc : c ≠ c' := fun e => hne (hw.inj1 (afv h) (afv h') (.inl (beu h)) (by rw [hc, hc', e]))
 obtain ⟨arr, t, fz, e1, e2, e3⟩ := as9 hw h hc (afv h)
 obtain ⟨arr', t', fz', e1', e2', e3'⟩ := as9 hw h' hc' (afv h')
 have f : ∀ o, w.frozen? ⟨c, o, none⟩ = false := by
  intro o
  obtain ⟨f1, f2⟩ := fz
  have := e3 o
  simp only [World.frozen?, e1, Bool.and_eq_false_iff, decide_eq_false_iff_not]
  simp only at this; omega
 have f' : ∀ o, w.frozen? ⟨c', o, none⟩ = false := by
  intro o
  obtain ⟨f1, f2⟩ := fz'
  have := e3' o
  simp only [World.frozen?, e1', Bool.and_eq_false_iff, decide_eq_false_iff_not]
  simp only at this; omega
 have s : w.shape? c = some (t, arr.size) := by simp [World.shape?, e1]
 have s' : w.shape? c' = some (t', arr'.size) := by simp [World.shape?, e1']
 have hb : (c == c') = false := by simpa using hcc
 simp [sameAddr, hb, f, f', noView, viewAt, s, s', mayBeOne, stringish]
theorem aa8 {eq : TypeId → AV → AV → Option Bool} {d : Nat} (heq : ∀ t x y r x' y', eq t x y = some r → VRel ρ x x' → VRel ρ y y' → au1 w d t x' y' r) {xs ys : List AV} {xs' ys' : Array Value}
  (hx : VRels ρ xs xs'.toList) (hy : VRels ρ ys ys'.toList) : ∀ (fs : List Field) (r : Bool), eqFields eq xs ys fs = some r → ∀ D, d ≤ D → (Op.eqFields D xs' ys' fs).run PP w = .ok r w := by
 intro fs
 induction fs with
 | nil => intro r h D _; simp only [eqFields] at h; cases h; rfl
 | cons f fs ih =>
   intro r h D hD
   simp only [eqFields, aa] at h
   split at h
   ·rename_i hn
    have hn : f.name = "_" := by simpa using hn
    simp only [Op.eqFields, hn, ne_eq, not_true_eq_false, if_false]
    exact ih r h D hD
   ·rename_i hn
    have hn : f.name ≠ "_" := by simpa using hn
    split at h
    ·rename_i x y ex ey
     obtain ⟨x', rx, vx⟩ := wn (w := w) ex hx
     obtain ⟨y', ry, vy⟩ := wn (w := w) ey hy
     split at h
     ·rename_i e
      have := heq _ _ _ _ _ _ e vx vy D hD
      simp only [Op.eqFields, ne_eq, hn, not_false_eq_true, if_true, zR, rx, ry, this, zQ, Bool.not_true, zF, if_false]
      exact ih r h D hD
     ·rename_i e
      have := heq _ _ _ _ _ _ e vx vy D hD
      cases h
      simp only [Op.eqFields, ne_eq, hn, not_false_eq_true, if_true, zR, rx, ry, this, zQ, Bool.not_false, zT]
     ·cases h
    ·cases h
theorem aa9 {t : TypeId} {fs : Array Field} {D : Nat} {xs ys : Array Value} {r : Bool} (hu : PP.underlying t = some (.struct fs)) (hst : PP.stoodInHeld t = false)
  (h : (Op.eqFields D xs ys fs.toList).run PP w = .ok r w) : (Op.equalIn (D + 1) t (.agg xs) (.agg ys)).run PP w = .ok r w := by
 have hf : PP.fieldsOf t = fs := by unfold Program.fieldsOf; rw [hu]
 rw [run_equalIn_struct w D t xs ys (by rw [hf]; exact hu) hst, hf]
 exact h
set_option maxHeartbeats 2000000 in
theorem sv (hw : WRel ρ a w) : ∀ (d : Nat) (t : TypeId) (x y : AV) (r : Bool) (x' y' : Value), ah5 a d t x y = some r → VRel ρ x x' → VRel ρ y y' → au1 w d t x' y' r := by
 intro d
 induction d with
 | zero => intro t x y r x' y' h; cases h
 | succ d ih =>
   intro t x y r x' y' h hx hy D hD
   obtain ⟨D, rfl⟩ : ∃ E, D = E + 1 := ⟨D - 1, by omega⟩
   have hD : d ≤ D := by omega
   unfold ah5 at h
   split at h <;> (try (cases h; done)) <;> rename_i ht <;> simp only [VRel] at hx hy <;> have hu := bz ht
   ·subst hx; subst hy; cases h; simp only [Op.equalIn, zR, af ht, zQ]; rfl
   ·subst hx; subst hy
    rw [aa] at h
    split at h
    ·rename_i hk; obtain rfl := (dq _ _).1 hk; cases h; simp [Op.equalIn, af ht, nl]
    ·cases h
   ·obtain ⟨h1, rfl⟩ := hx; obtain ⟨h2, rfl⟩ := hy; cases h
    simp only [Op.equalIn, zR, af ht, zQ, beq_toListBytes, tq _ _ _ _ h1 h2, zT]
   ·subst hx; subst hy; cases h; simp only [Op.equalIn, zR, af ht, zQ]; rfl
   ·subst hx; obtain ⟨c, _, rfl⟩ := hy; cases h; simp only [Op.equalIn, zR, af ht, zQ]; rfl
   ·subst hy; obtain ⟨c, _, rfl⟩ := hx; cases h; simp only [Op.equalIn, zR, af ht, zQ]; rfl
   ·obtain ⟨c, hc, rfl⟩ := hx
    obtain ⟨c', hc', rfl⟩ := hy
    split at h
    ·rename_i m hs
     simp only [aa] at h
     split at h
     ·rename_i hk
      obtain rfl := (K.beq_iff _ _).1 hk
      rw [hc] at hc'; cases hc'
      cases h
      simp [Op.equalIn, af ht, bi hs, sameAddr]
      rw [Bool.eq_iff_iff]; simp
     ·rename_i hk
      split at h <;> try (cases h; done)
      rename_i hl
      split at h <;> try (cases h; done)
      rename_i hl'
      cases h
      have := fun o o' => ajl (o := o) (o' := o') hw hl hl' hc hc' (fun e => hk ((K.beq_iff _ _).2 e))
      simp [Op.equalIn, af ht, bi hs, this]
    ·cases h
   ·subst hx; subst hy; cases h; simp only [Op.equalIn, zR, af ht, zQ]; rfl
   ·subst hx; obtain ⟨v', rfl, _⟩ := hy; cases h; simp only [Op.equalIn, zR, af ht, zQ]; rfl
   ·subst hy; obtain ⟨v', rfl, _⟩ := hx; cases h; simp only [Op.equalIn, zR, af ht, zQ]; rfl
   ·obtain ⟨v1, rfl, r1⟩ := hx
    obtain ⟨v2, rfl, r2⟩ := hy
    simp only [aa] at h
    split at h
    ·rename_i he
     have he := zW he
     subst he
     split at h
     ·rename_i hcmp
      rename_i t1 x1 t2 y1 ht2
      cases hi : fo t2 with
      | none => rw [hi] at hcmp; simp at hcmp
      | some i =>
        rw [hi] at hcmp
        have hcmp : i.comparable = true := by simpa using hcmp
        have := ih _ _ _ _ _ _ h r1 r2 D hD
        simp [Op.equalIn, af ht, ie (eo hi), hcmp, this]
     ·cases h
    ·rename_i he
     cases h
     rw [Nat.beq_eq] at he
     simp [Op.equalIn, af ht, he]
   ·obtain ⟨xs', rfl, r1⟩ := hx
    obtain ⟨ys', rfl, r2⟩ := hy
    simp only [aa] at h
    split at h
    ·cases h
    ·rename_i hst
     have hst : PP.stoodInHeld t = false := by simpa using hst
     exact aa9 hu hst (aa8 (fun t x y r x' y' => ih t x y r x' y') r1 r2 _ _ h D hD)
   ·subst hx; subst hy; cases h; simp only [Op.equalIn, zR, af ht, zQ]; rfl
   ·subst hx; obtain ⟨_, _, _, _, _, rfl⟩ := hy; cases h; simp only [Op.equalIn, zR, af ht, zQ]; rfl
   ·subst hy; obtain ⟨_, _, _, _, _, rfl⟩ := hx; cases h; simp only [Op.equalIn, zR, af ht, zQ]; rfl
   ·subst hx; obtain ⟨_, _, rfl⟩ := hy; cases h; simp only [Op.equalIn, zR, af ht, zQ]; rfl
   ·subst hy; obtain ⟨_, _, rfl⟩ := hx; cases h; simp only [Op.equalIn, zR, af ht, zQ]; rfl
   ·subst hx; obtain ⟨_, _, _, _, _, _, _, rfl⟩ := hy; cases h; simp only [Op.equalIn, zR, af ht, zQ]; rfl
   ·subst hy; obtain ⟨_, _, _, _, _, _, _, rfl⟩ := hx; cases h; simp only [Op.equalIn, zR, af ht, zQ]; rfl
   ·subst hx; subst hy; cases h; simp only [Op.equalIn, zR, af ht, zQ]; rfl
   ·subst hx; obtain ⟨_, _, rfl⟩ := hy; cases h; simp only [Op.equalIn, zR, af ht, zQ]; rfl
   ·subst hy; obtain ⟨_, _, rfl⟩ := hx; cases h; simp only [Op.equalIn, zR, af ht, zQ]; rfl
   ·subst hx; subst hy; cases h; simp only [Op.equalIn, zR, af ht, zQ]; rfl
   ·subst hx; obtain ⟨_, _, _, rfl, _⟩ := hy; cases h; simp only [Op.equalIn, zR, af ht, zQ]; rfl
   ·subst hy; obtain ⟨_, _, _, rfl, _⟩ := hx; cases h; simp only [Op.equalIn, zR, af ht, zQ]; rfl
end
end Go.Ev
set_option linter.all false
namespace Go.Ev
variable [Gv]
section
variable {ρ : Env} {a : W} {w : World}
def bxb (x y : Value) : Prop := ∀ t, binOp .eql t x y = (do pure (.bool (← Op.equal t x y))) ∧ binOp .neq t x y = (do pure (.bool (!(← Op.equal t x y))))
def aip : AV → Bool | .int _ _ => true | _ => false
def zn : AV → Bool | .str _ _ => true | _ => false
theorem xj {d : Nat} {t : TypeId} {x y : AV} {r : Bool} {x' y' : Value} (h : ah5 a d t x y = some r) (hx : VRel ρ x x') (hy : VRel ρ y y')
  (hi : (aip x && aip y) = false) (hs : (zn x && zn y) = false) : bxb x' y' := by
 cases d with
 | zero => cases h
 | succ d =>
   unfold ah5 at h
   split at h <;> (try (cases h; done)) <;> simp only [VRel] at hx hy <;> first
    | (simp [aip] at hi; done)
    | (simp [zn] at hs; done)
    | (subst hx; subst hy; intro t; exact ⟨rfl, rfl⟩)
    | (subst hx; obtain ⟨_, _, rfl⟩ := hy; intro t; exact ⟨rfl, rfl⟩)
    | (subst hy; obtain ⟨_, _, rfl⟩ := hx; intro t; exact ⟨rfl, rfl⟩)
    | (obtain ⟨_, _, rfl⟩ := hx; obtain ⟨_, _, rfl⟩ := hy; intro t; exact ⟨rfl, rfl⟩)
    | (subst hx; obtain ⟨_, rfl, _⟩ := hy; intro t; exact ⟨rfl, rfl⟩)
    | (subst hy; obtain ⟨_, rfl, _⟩ := hx; intro t; exact ⟨rfl, rfl⟩)
    | (obtain ⟨_, rfl, _⟩ := hx; obtain ⟨_, rfl, _⟩ := hy; intro t; exact ⟨rfl, rfl⟩)
    | (subst hx; obtain ⟨_, _, _, _, _, rfl⟩ := hy; intro t; exact ⟨rfl, rfl⟩)
    | (subst hy; obtain ⟨_, _, _, _, _, rfl⟩ := hx; intro t; exact ⟨rfl, rfl⟩)
    | (subst hx; obtain ⟨_, _, rfl, _⟩ := hy; intro t; exact ⟨rfl, rfl⟩)
    | (subst hy; obtain ⟨_, _, rfl, _⟩ := hx; intro t; exact ⟨rfl, rfl⟩)
    | (subst hx; obtain ⟨_, _, _, rfl, _⟩ := hy; intro t; exact ⟨rfl, rfl⟩)
    | (subst hy; obtain ⟨_, _, _, rfl, _⟩ := hx; intro t; exact ⟨rfl, rfl⟩)
    | (subst hx; obtain ⟨_, _, _, _, _, _, _, rfl⟩ := hy; intro t; exact ⟨rfl, rfl⟩)
    | (subst hy; obtain ⟨_, _, _, _, _, _, _, rfl⟩ := hx; intro t; exact ⟨rfl, rfl⟩)
theorem aln {op : BinOp} {t : TypeId} {x y : Operand} {b' c' : Value} (h1 : b' = .nilIface → c' = .nilIface → (xw x || xw y) = true)
  (h2 : ∀ p q, b' = .agg p → c' = .agg q → PP.eqGuardType PP.depth t = false) : (eqGuard op t x y b' c').run PP w = .ok () w := by
 unfold eqGuard
 cases op <;> (try rfl) <;> cases b' <;> (try rfl) <;> cases c' <;> (try rfl)
 ·have := h1 rfl rfl
  cases x <;> cases y <;> first | rfl | (simp [xw] at this; done)
 ·simp [h2 _ _ rfl rfl]
 ·have := h1 rfl rfl
  cases x <;> cases y <;> first | rfl | (simp [xw] at this; done)
 ·simp [h2 _ _ rfl rfl]
theorem abm {b : AV} (h : VRel ρ b .nilIface) : b = .nilIface ∨ b = .top := by
 cases b <;> simp only [VRel] at h <;> first
  | (exact .inl rfl) | (exact .inr rfl)
  | (cases h; done)
  | (obtain ⟨_, h⟩ := h; cases h; done)
  | (obtain ⟨_, _, h⟩ := h; cases h; done)
  | (obtain ⟨_, _, _, _, _, h⟩ := h; cases h; done)
  | (obtain ⟨_, _, _, _, _, _, h⟩ := h; cases h; done)
  | (obtain ⟨_, _, _, _, h⟩ := h; cases h; done)
  | (obtain ⟨_, _, h, _⟩ := h; cases h; done)
  | (obtain ⟨_, h, _⟩ := h; cases h; done)
  | (obtain ⟨_, _, _, h, _⟩ := h; cases h; done)
  | (rcases SxRel.shape h with ⟨_, h⟩ | ⟨_, h⟩ <;> cases h; done)
  | (rcases GVRel.shape h with ⟨_, h⟩ | ⟨_, _, _, h⟩ | ⟨_, h⟩ <;> cases h; done)
theorem azg {b : AV} {p : Array Value} (h : VRel ρ b (.agg p)) : (∃ l, b = .agg l) ∨ b = .top := by
 cases b <;> simp only [VRel] at h <;> first
  | (exact .inl ⟨_, rfl⟩) | (exact .inr rfl)
  | (cases h; done)
  | (obtain ⟨_, h⟩ := h; cases h; done)
  | (obtain ⟨_, _, h⟩ := h; cases h; done)
  | (obtain ⟨_, _, _, _, _, h⟩ := h; cases h; done)
  | (obtain ⟨_, _, _, _, _, _, h⟩ := h; cases h; done)
  | (obtain ⟨_, _, _, _, h⟩ := h; cases h; done)
  | (obtain ⟨_, _, h, _⟩ := h; cases h; done)
  | (obtain ⟨_, h, _⟩ := h; cases h; done)
  | (obtain ⟨_, _, _, h, _⟩ := h; cases h; done)
  | (rcases SxRel.shape h with ⟨_, h⟩ | ⟨_, h⟩ <;> cases h; done)
  | (rcases GVRel.shape h with ⟨_, h⟩ | ⟨_, _, _, h⟩ | ⟨_, h⟩ <;> cases h; done)
theorem adj {op : BinOp} {t : TypeId} {x y : Operand} {b c : AV} {b' c' : Value} (h : uf t x y b c = true) (hb : VRel ρ b b') (hc : VRel ρ c c') (hb0 : b ≠ .top) (hc0 : c ≠ .top) :
  (eqGuard op t x y b' c').run PP w = .ok () w := by
 apply aln
 ·rintro rfl rfl
  obtain rfl := (abm hb).resolve_right hb0
  obtain rfl := (abm hc).resolve_right hc0
  exact h
 ·rintro p q rfl rfl
  obtain ⟨l, rfl⟩ := (azg hb).resolve_right hb0
  obtain ⟨m, rfl⟩ := (azg hc).resolve_right hc0
  simpa [uf] using h
theorem jh {op : BinOp} {t : TypeId} {x y : Operand} {b' c' : Value} (h1 : b' ≠ .nilIface) (h2 : ∀ p, b' ≠ .agg p) : (eqGuard op t x y b' c').run PP w = .ok () w :=
 aln (fun e => absurd e h1) (fun p _ e => absurd e (h2 p))
theorem ah6 {d : Nat} {t : TypeId} {x y : AV} {r : Bool} (h : ah5 a d t x y = some r) : x ≠ .top ∧ y ≠ .top := by
 cases d with
 | zero => cases h
 | succ d => unfold ah5 at h; split at h <;> first | (cases h; done) | (constructor <;> (intro e; cases e))
theorem gi (hw : WRel ρ a w) {s : Sem Value} {o : Option AV} {c : Nat} (h : ∀ v, o = some v → ∃ v', s.run PP w = .ok v' w ∧ VRel ρ v v') : VOK ρ a w s (qj o a c) := by
 unfold qj
 split
 ·obtain ⟨v', h1, h2⟩ := h _ rfl; exact VOK.here hw h1 h2
 ·trivial
theorem aax {a b : ByteArray} (h : a ≠ b) : (a.toList == b.toList) = false := by
 rw [beq_eq_false_iff_ne]
 intro e
 apply h
 rw [ByteArray.toList_eq, ByteArray.toList_eq] at e
 exact ByteArray.ext (Array.toList_inj.1 e)
theorem x8 {l n : Nat} : ∀ {A : List (Nat × Nat)}, atp l n A = true → (l, n) ∈ A
 | p :: A, h => by
   simp only [atp, aa] at h
   split at h
   ·rename_i h2
    split at h
    ·rename_i h1
     obtain ⟨x, y⟩ := p
     have e1 : x = l := zW h2
     have e2 : y = n := zW h1
     subst e1 e2; simp
    ·exact zA _ (x8 h)
   ·exact zA _ (x8 h)
theorem avp {t : TypeId} (h : anl t = true) : az t = some .bool := by
 unfold anl at h
 split at h
 ·assumption
 ·cases h
theorem zk {op : BinOp} {r : Bool} {s s0 : Sem Value} (hw : WRel ρ a w) (h0 : s0.run PP w = s.run PP w) (h1 : op = .eql → s.run PP w = .ok (.bool r) w) (h2 : op = .neq → s.run PP w = .ok (.bool (!r)) w) : VOK ρ a w s0 (tz op r a) := by
 unfold tz
 split <;> try trivial
 ·exact VOK.here hw (v' := .bool r) (h0.trans (h1 rfl)) (by simp only [VRel])
 ·exact VOK.here hw (v' := .bool (!r)) (h0.trans (h2 rfl)) (by simp only [VRel])
theorem bko (hw : WRel ρ a w) {op : BinOp} {t : TypeId} {x y : Operand} {b c : AV} {b' c' : Value} (hb : VRel ρ b b') (hc : VRel ρ c c') :
  VOK ρ a w (do eqGuard op t x y b' c'; binOp op t b' c') (asf op t x y b c a) := by
 unfold asf
 split
 ·rename_i k m k' n
  simp only [VRel] at hb hc
  subst hb; subst hc
  have hg := jh (w := w) (op := op) (t := t) (x := x) (y := y) (b' := .int k m) (c' := .int k' n) (by simp) (by simp)
  split
  ·refine gi hw fun v hv => ?_
   obtain ⟨v', h1, h2⟩ := nb (ρ := ρ) (w := w) t hv (k' := k') (.inr (.inl rfl))
   exact ⟨v', by simp only [zR, hg, zQ, h1], h2⟩
  ·refine gi hw fun v hv => ?_
   obtain ⟨v', h1, h2⟩ := nb (ρ := ρ) (w := w) t hv (k' := k') (.inr (.inr rfl))
   exact ⟨v', by simp only [zR, hg, zQ, h1], h2⟩
  ·rw [aa]
   split
   ·rename_i hk
    obtain rfl := (dq _ _).1 hk
    refine gi hw fun v hv => ?_
    obtain ⟨v', h1, h2⟩ := nb (ρ := ρ) (w := w) t hv (k' := k) (.inl rfl)
    exact ⟨v', by simp only [zR, hg, zQ, h1], h2⟩
   ·trivial
 ·rename_i l n l' n'
  simp only [VRel] at hb hc
  obtain ⟨h1, rfl⟩ := hb
  obtain ⟨h2, rfl⟩ := hc
  have hg := jh (w := w) (op := op) (t := t) (x := x) (y := y) (b' := .string (ay l n)) (c' := .string (ay l' n')) (by simp) (by simp)
  refine gi hw fun v hv => ?_
  obtain ⟨v', h3, h4⟩ := awn (ρ := ρ) (w := w) t hv h1 h2
  exact ⟨v', by simp only [zR, hg, zQ, h3], h4⟩
 ·rename_i k e A k' n
  rw [aa]
  split <;> try trivial
  rename_i hk
  obtain rfl := (dq _ _).1 hk
  simp only [VRel] at hb hc
  obtain ⟨hA, rfl⟩ := hb
  subst hc
  have hg := jh (w := w) (op := op) (t := t) (x := x) (y := y) (b' := .int k (e.eval Gv.σ)) (c' := .int k n) (by simp) (by simp)
  refine gi hw fun v hv => ?_
  obtain ⟨v0, q1, q2⟩ := ajw hA hv
  obtain ⟨v', h1, h2⟩ := nb (ρ := ρ) (w := w) t q1 (k' := k) (.inl rfl)
  exact ⟨v', by simp only [zR, hg, zQ]; exact h1, q2 _ h2⟩
 ·rename_i k' n k e A
  rw [aa]
  split <;> try trivial
  rename_i hk
  obtain rfl := (dq _ _).1 hk
  simp only [VRel] at hb hc
  obtain ⟨hA, rfl⟩ := hc
  subst hb
  have hg := jh (w := w) (op := op) (t := t) (x := x) (y := y) (b' := .int k n) (c' := .int k (e.eval Gv.σ)) (by simp) (by simp)
  refine gi hw fun v hv => ?_
  obtain ⟨v0, q1, q2⟩ := ajw hA hv
  obtain ⟨v', h1, h2⟩ := nb (ρ := ρ) (w := w) t q1 (k' := k) (.inl rfl)
  exact ⟨v', by simp only [zR, hg, zQ]; exact h1, q2 _ h2⟩
 ·rename_i k e A k' e' A'
  rw [aa]
  split <;> try trivial
  rename_i hk
  obtain rfl := (dq _ _).1 hk
  simp only [VRel] at hb hc
  obtain ⟨hA, rfl⟩ := hb
  obtain ⟨_, rfl⟩ := hc
  have hg := jh (w := w) (op := op) (t := t) (x := x) (y := y) (b' := .int k (e.eval Gv.σ)) (c' := .int k (e'.eval Gv.σ)) (by simp) (by simp)
  refine gi hw fun v hv => ?_
  obtain ⟨v0, q1, q2⟩ := ajw hA hv
  obtain ⟨v', h1, h2⟩ := nb (ρ := ρ) (w := w) t q1 (k' := k) (.inl rfl)
  exact ⟨v', by simp only [zR, hg, zQ]; exact h1, q2 _ h2⟩
 ·rename_i e A l n
  rw [aa]
  split <;> try trivial
  rename_i hm
  simp only [VRel] at hb hc
  obtain ⟨hn, rfl⟩ := hc
  obtain ⟨rfl, hA⟩ := (show _ ∧ _ from hb)
  have hne : akw Gv.σ ≠ ay l n := hA _ (x8 hm)
  have hg := jh (w := w) (op := op) (t := t) (x := x) (y := y) (b' := .string (akw Gv.σ)) (c' := .string (ay l n)) (by simp) (by simp)
  exact zk (s := binOp op t (.string (akw Gv.σ)) (.string (ay l n))) hw (by simp only [zR, hg, zQ]) (fun e => by subst e; rw [binOp_string_eql, aax (hne)]; rfl) (fun e => by subst e; rw [binOp_string_neq, aax (hne)]; rfl)
 ·rename_i l n e A
  rw [aa]
  split <;> try trivial
  rename_i hm
  simp only [VRel] at hb hc
  obtain ⟨hn, rfl⟩ := hb
  obtain ⟨rfl, hA⟩ := (show _ ∧ _ from hc)
  have hne : akw Gv.σ ≠ ay l n := hA _ (x8 hm)
  have hg := jh (w := w) (op := op) (t := t) (x := x) (y := y) (b' := .string (ay l n)) (c' := .string (akw Gv.σ)) (by simp) (by simp)
  exact zk (s := binOp op t (.string (ay l n)) (.string (akw Gv.σ))) hw (by simp only [zR, hg, zQ]) (fun e => by subst e; rw [binOp_string_eql, aax (Ne.symm hne)]; rfl) (fun e => by subst e; rw [binOp_string_neq, aax (Ne.symm hne)]; rfl)
 ·rename_i e A e' A'
  rw [aa]
  split <;> try trivial
  rename_i hm
  simp only [zU] at hm
  simp only [VRel] at hb hc
  have hb : b' = .bool (decide (e.eval Gv.σ ≠ 0)) := hb
  have hc : c' = .bool (decide (e'.eval Gv.σ ≠ 0)) := hc
  have he := bn _ _ hm.1
  subst he
  generalize hr0 : decide (e.eval Gv.σ ≠ 0) = r0 at hb hc
  subst hb; subst hc
  have hu := avp hm.2
  have hr : eqA t (.bool r0) (.bool r0) a = some true := by
   unfold eqA ah5
   rw [hu]
   cases r0 <;> rfl
  have ⟨t1, t2⟩ := ah6 hr
  have hvb : VRel ρ (.bool r0) (.bool r0) := by simp only [VRel]
  have hi : (aip (.bool r0) && aip (.bool r0)) = false := rfl
  have hs : (zn (.bool r0) && zn (.bool r0)) = false := rfl
  have hgu : uf t x y (.bool r0) (.bool r0) = true := rfl
  have hq := sv hw 8 t (.bool r0) (.bool r0) true (.bool r0) (.bool r0) hr hvb hvb 10000 (by omega)
  refine zk (s := binOp op t (.bool r0) (.bool r0)) hw ?_ ?_ ?_
  ·have hg := fun op => jh (w := w) (op := op) (t := t) (x := x) (y := y) (b' := .bool r0) (c' := .bool r0) (by simp) (by simp)
   simp only [zR, hg, zQ]
  ·intro e; subst e
   simp only [(xj hr hvb hvb hi hs t).1, Op.equal, Op.maxDepth, zR, hq, zQ, zT]
  ·intro e; subst e
   simp only [(xj hr hvb hvb hi hs t).2, Op.equal, Op.maxDepth, zR, hq, zQ, zT]
 ·rename_i hni hns _ _ _ _ _ _
  have hi : (aip b && aip c) = false := by
   cases b <;> first | rfl | (cases c <;> first | rfl | (exact (hni _ _ _ _ rfl rfl).elim))
  have hs : (zn b && zn c) = false := by
   cases b <;> first | rfl | (cases c <;> first | rfl | (exact (hns _ _ _ _ rfl rfl).elim))
  split
  ·rw [aa]
   split
   ·rename_i hg
    refine gi hw fun v hv => ?_
    simp only [zG] at hv
    obtain ⟨r, hr, rfl⟩ := hv
    have ⟨t1, t2⟩ := ah6 hr
    have hg := adj (w := w) (op := .eql) hg hb hc t1 t2
    have hq := sv hw 8 t b c r b' c' hr hb hc 10000 (by omega)
    refine ⟨.bool r, ?_, fq rfl⟩
    simp only [zR, hg, zQ, (xj hr hb hc hi hs t).1, Op.equal, Op.maxDepth, hq, zT]
   ·trivial
  ·rw [aa]
   split
   ·rename_i hg
    refine gi hw fun v hv => ?_
    simp only [zG] at hv
    obtain ⟨r, hr, rfl⟩ := hv
    have ⟨t1, t2⟩ := ah6 hr
    have hg := adj (w := w) (op := .neq) hg hb hc t1 t2
    have hq := sv hw 8 t b c r b' c' hr hb hc 10000 (by omega)
    refine ⟨.bool (!r), ?_, fq rfl⟩
    simp only [zR, hg, zQ, (xj hr hb hc hi hs t).2, Op.equal, Op.maxDepth, hq, zT]
   ·trivial
  ·trivial
theorem btd (hw : WRel ρ a w) {op : UnOp} {b : AV} {b' : Value} (hb : VRel ρ b b') : VOK ρ a w (Op.unary op b') (a7l op b a) := by
 unfold a7l
 split
 ·simp only [VRel] at hb; subst hb
  exact VOK.here hw (by simp only [Op.unary, Op.intArith]; rfl) (bw (by rw [fy]; rfl))
 ·rename_i k e A
  simp only [VRel] at hb
  obtain ⟨hA, rfl⟩ := hb
  exact VOK.here hw (v' := .int k (k.wrap (0 - e.eval Gv.σ))) (by simp only [Op.unary, Op.intArith]; rfl) (by simp only [VRel]; exact ⟨hA, rfl⟩)
 ·rename_i k n
  simp only [VRel] at hb; subst hb
  refine gi hw fun v hv => ?_
  simp only [zG] at hv
  obtain ⟨r, hr, rfl⟩ := hv
  exact ⟨_, by simp only [Op.unary]; exact jz hr, bw rfl⟩
 ·simp only [VRel] at hb; subst hb
  exact VOK.here hw (by simp only [Op.unary]; rfl) (fq rfl)
 ·trivial
end
end Go.Ev
set_option linter.all false
namespace Go.Ev
variable [Gv]
section
variable {ρ : Env} {a : W} {w : World}
theorem yd (hw : WRel ρ a w) {o : AObj} {obj : Obj} {f : K → AV} {f' : Nat → Value} {s : Sem Value} (ho : ORel ρ o (some obj)) (hf : ∀ ρ' k c, ρ' k = some c → VRel ρ' (f k) (f' c))
  (hs : s.run PP w = .ok (f' w.heap.size) (w.alloc obj)) (hlo : bq o = none := by rfl) : VOK ρ a w s (n9 o f a) := by
 obtain ⟨h, nx⟩ := a
 show VOK ρ (.mk h nx) w s (bc nx.isMax (.no 1) (.val (f nx) (.mk (ca nx o h) nx.succ)))
 rw [aa]
 split
 ·trivial
 ·rename_i hm
  have hm : nx.isMax = false := by simpa using hm
  intro fr
  have hfr : ρ nx = none := fr nx (zY _) (by simp only [W.nx_mk]; rw [K.succ_num hm]; omega)
  exact ⟨_, _, _, hs, hf _ _ _ (cm ρ nx _ _), xf hw hfr hm ho hlo⟩
theorem sm {l : List AV} {l' : List Value} (h : VRels ρ l l') (hn : l.length ≤ 65536) : a6l ρ l.length (me l 0 (jk l.length)) l'.toArray := by
 intro i hi
 have hc := iq l.length hn
 obtain ⟨v, h1, h2⟩ := VRels.get l l' h i hi
 refine ⟨v, by simpa using h1, ?_⟩
 rw [iy l 0 _ i (by omega) (by omega), dif_pos ⟨Nat.zero_le _, by simpa using hi⟩]
 simpa using h2
theorem rc {t : TypeId} {l : List AV} {l' tail : List Value} {ext : Bool} (h : VRels ρ l l') (hn : l.length ≤ 65536) (he : ext = false → tail = []) :
  ORel ρ (x6 t l ext) (some (.cells (l' ++ tail).toArray t)) := by
 unfold x6
 rw [ba]
 have hl := VRels.length l l' h
 refine ⟨_, _, rfl, by simp; omega, fun e => by rw [he e]; simp [hl], by rw [dx]; exact iq _ hn, ⟨zY _, fun i h1 h2 => by simp at h1 h2⟩, ?_⟩
 intro i hi
 obtain ⟨v, h1, h2⟩ := sm h hn i hi
 refine ⟨v, ?_, h2⟩
 have h1' : l'[i]? = some v := by simpa using h1
 have hlt := (List.getElem?_eq_some_iff.1 h1').1
 simp [List.getElem?_append_left hlt, h1']
theorem al0 (hw : WRel ρ a w) {t : TypeId} {l : List AV} {arr : Array Value} (h : VRels ρ l arr.toList) : VOK ρ a w (do pure (.pointer (some (← Go.newRow t arr)))) (newRow t l a) := by
 unfold newRow
 rw [aa, ba]
 split
 ·rename_i hn
  have hn := zE hn
  refine yd hw (obj := .cells arr t) (f' := fun c => .pointer (some ⟨c, 0, none⟩)) ?_ ?_ ?_
  ·have := rc (t := t) (tail := []) (ext := false) h hn (fun _ => rfl)
   rw [List.append_nil, Array.toArray_toList] at this
   exact this
  ·intro ρ' k c hk; simp only [a5j, VRel]; exact ⟨c, hk, rfl⟩
  ·simp only [Go.newRow, zR, run_newObj, zQ, zT]; rfl
 ·trivial
theorem dc {v : AV} {v' : Value} (h : VRel ρ v v') (ht : v ≠ .top) : VRels ρ (cellsOf v) v'.cells.toList := by
 cases v <;> first
  | (exact absurd rfl ht)
  | (simp only [VRel] at h; obtain ⟨ys, rfl, h⟩ := h; exact h)
  | (have hc : v'.cells = #[v'] := by
      simp only [VRel] at h
      first
       | (subst h; rfl) | (obtain ⟨_, rfl⟩ := h; rfl) | (obtain ⟨_, _, rfl⟩ := h; rfl) | (obtain ⟨_, _, _, _, _, rfl⟩ := h; rfl) | (obtain ⟨_, _, _, _, _, _, rfl⟩ := h; rfl) | (obtain ⟨_, _, _, _, rfl⟩ := h; rfl) | (obtain ⟨_, _, rfl, _⟩ := h; rfl) | (obtain ⟨_, _, _, rfl, _⟩ := h; rfl) | (obtain ⟨_, rfl, _⟩ := h; rfl) | (rcases SxRel.shape h with ⟨_, rfl⟩ | ⟨_, rfl⟩ <;> rfl) | (rcases GVRel.shape h with ⟨_, rfl⟩ | ⟨_, _, _, rfl⟩ | ⟨_, rfl⟩ <;> rfl)
     rw [hc]; simp only [cellsOf, VRels]; exact ⟨v', [], rfl, h, rfl⟩)
theorem fm {v : AV} (h : ki v = true) : v ≠ .top := by rintro rfl; cases h
theorem bkr (hw : WRel ρ a w) {t : TypeId} {v : AV} {v' : Value} (h : VRel ρ v v') (ht : v ≠ .top) : VOK ρ a w (Instr.box t v') (newRow t (cellsOf v) a) :=
 (al0 hw (dc h ht)).of_run (by simp [Instr.box, newVar])
theorem e9 : ∀ (cells : List AV) (off : Nat) (vs : List AV), off + vs.length ≤ cells.length → (js cells off vs).length = cells.length
 | cells, 0, vs, h => by simp only [js, ba, zP, List.length_drop]; omega
 | [], off + 1, vs, h => by simp at h
 | c :: cells, off + 1, vs, h => by simp only [js, zO]; rw [e9 cells off vs (by simp at h; omega)]
theorem abx : ∀ (cells : List AV) (off : Nat) (vs : List AV), off + vs.length ≤ cells.length → ∀ i, (js cells off vs)[i]? = if off ≤ i ∧ i < off + vs.length then vs[i - off]? else cells[i]?
 | cells, 0, vs, h, i => by
   simp only [js, ba, List.getElem?_append, List.getElem?_drop, Nat.zero_add, Nat.zero_le, true_and, Nat.sub_zero]
   split
   ·rfl
   ·rw [show vs.length + (i - vs.length) = i by omega]
 | [], off + 1, vs, h, i => by simp at h
 | c :: cells, off + 1, vs, h, i => by
   simp only [js]
   cases i with
   | zero => rw [if_neg (by omega)]; rfl
   | succ i =>
     rw [List.getElem?_cons_succ, abx cells off vs (by simp at h; omega) i, List.getElem?_cons_succ]
     by_cases hx : off ≤ i ∧ i < off + vs.length
     ·rw [if_pos hx, if_pos (by omega), show i + 1 - (off + 1) = i - off by omega]
     ·rw [if_neg hx, if_neg (by omega)]
theorem a7x (off : Nat) (vs : List Value) : ∀ (k : Nat) (cs : Array Value), off + k + vs.length ≤ cs.size →
  ((vs.zipIdx k).foldl (fun (cs : Array Value) (p : Value × Nat) => cs.setIfInBounds (off + p.2) p.1) cs).size = cs.size ∧
  ∀ j, ((vs.zipIdx k).foldl (fun (cs : Array Value) (p : Value × Nat) => cs.setIfInBounds (off + p.2) p.1) cs)[j]? = if off + k ≤ j ∧ j < off + k + vs.length then vs[j - (off + k)]? else cs[j]? := by
 induction vs with
 | nil => intro k cs _; exact ⟨rfl, fun j => by rw [if_neg (by simp only [zS]; omega)]; rfl⟩
 | cons v vs ih =>
   intro k cs h
   simp only [zO] at h
   simp only [List.zipIdx_cons, List.foldl_cons]
   have ⟨i1, i2⟩ := ih (k + 1) (cs.setIfInBounds (off + k) v) (by simp; omega)
   refine ⟨by rw [i1]; simp, fun j => ?_⟩
   rw [i2 j]
   by_cases x : off + (k + 1) ≤ j ∧ j < off + (k + 1) + vs.length
   ·rw [if_pos x, if_pos ⟨by omega, by simp only [zO]; omega⟩]
    have e : j - (off + k) = (j - (off + (k + 1))) + 1 := by omega
    rw [e, List.getElem?_cons_succ]
   ·rw [if_neg x]
    by_cases b : j = off + k
    ·subst b
     rw [if_pos ⟨zY _, by simp only [zO]; omega⟩]
     simp only [Nat.sub_self, List.getElem?_cons_zero]
     rw [Array.getElem?_setIfInBounds_self_of_lt (by omega)]
    ·rw [if_neg (by simp only [zO]; omega)]
     rw [Array.getElem?_setIfInBounds_ne (by omega)]
theorem bfi {cells : List AV} {cs : Array Value} {off : Nat} {vs : List AV} {vs' : Array Value} (h : VRels ρ cells cs.toList) (hv : VRels ρ vs vs'.toList) (hb : off + vs.length ≤ cells.length) :
  VRels ρ (js cells off vs) (vs'.zipIdx.foldl (fun (cs : Array Value) (p : Value × Nat) => cs.setIfInBounds (off + p.2) p.1) cs).toList := by
 have hl := VRels.length _ _ h
 have hl' := VRels.length _ _ hv
 simp only [Array.length_toList] at hl hl'
 have e : (vs'.zipIdx.foldl (fun (cs : Array Value) (p : Value × Nat) => cs.setIfInBounds (off + p.2) p.1) cs) = ((vs'.toList.zipIdx 0).foldl (fun (cs : Array Value) (p : Value × Nat) => cs.setIfInBounds (off + p.2) p.1) cs) := by
  rw [← Array.foldl_toList, Array.toList_zipIdx]
 rw [e]
 have ⟨f1, f2⟩ := a7x off vs'.toList 0 cs (by simp; omega)
 apply VRels.of_get
 ·rw [e9 _ _ _ hb, Array.length_toList, f1]; omega
 ·intro i hi
  rw [e9 _ _ _ hb] at hi
  have hp := abx cells off vs hb i
  have hq := f2 i
  simp only [Array.length_toList, Nat.add_zero] at hq
  by_cases x : off ≤ i ∧ i < off + vs.length
  ·rw [if_pos x] at hp
   rw [if_pos (by omega)] at hq
   obtain ⟨v, h1, h2⟩ := VRels.get _ _ hv (i - off) (by omega)
   refine ⟨v, by rw [Array.getElem?_toList, hq, h1], ?_⟩
   have : (js cells off vs)[i]'(by rw [e9 _ _ _ hb]; exact hi) = vs[i - off]'(by omega) := by
    rw [zK (by rw [e9 _ _ _ hb]; exact hi), zK (by omega)] at hp
    injection hp
   rw [this]; exact h2
  ·rw [if_neg x] at hp
   rw [if_neg (by omega)] at hq
   obtain ⟨v, h1, h2⟩ := VRels.get _ _ h i hi
   refine ⟨v, by rw [Array.getElem?_toList, hq, ← Array.getElem?_toList, h1], ?_⟩
   have : (js cells off vs)[i]'(by rw [e9 _ _ _ hb]; exact hi) = cells[i] := by
    rw [zK (by rw [e9 _ _ _ hb]; exact hi), zK hi] at hp
    injection hp
   rw [this]; exact h2
def akk (ρ : Env) : List (Nat × AV) → List (Nat × Value) → Prop
 | [], l => l = []
 | p :: ps, l => ∃ v ls, l = (p.1, v) :: ls ∧ VRel ρ p.2 v ∧ akk ρ ps ls
theorem abh {place : Nat → Option (Nat × Nat)} : ∀ (ps : List (Nat × AV)) (ps' : List (Nat × Value)) (cells r : List AV) (cs : Array Value), akk ρ ps ps' → VRels ρ cells cs.toList →
  aif place cells ps = some r → ∃ r', Instr.fill place cs ps' = some r' ∧ VRels ρ r r'.toList
 | [], _, cells, r, cs, hp, hc, h => by
   simp only [akk] at hp; subst hp
   simp only [aif] at h; cases h
   exact ⟨cs, rfl, hc⟩
 | (i, v) :: ps, _, cells, r, cs, hp, hc, h => by
   simp only [akk] at hp
   obtain ⟨v', ls, rfl, hv, hps⟩ := hp
   simp only [aif] at h
   cases hpl : place i with
   | none => rw [hpl] at h; cases h
   | some q =>
     obtain ⟨off, size⟩ := q
     rw [hpl] at h
     simp only [aa, ba] at h
     split at h <;> try (cases h; done)
     rename_i h0
     split at h <;> try (cases h; done)
     rename_i h1
     split at h <;> try (cases h; done)
     rename_i h2
     have h1 := zW h1
     have h2 := zE h2
     have hcv := dc hv (fm h0)
     have hl := VRels.length _ _ hcv
     have hl2 := VRels.length _ _ hc
     simp only [Array.length_toList] at hl hl2
     obtain ⟨r', e1, e2⟩ := abh ps ls _ r _ hps (bfi hc hcv (by omega)) h
     refine ⟨r', ?_, e2⟩
     simp only [Instr.fill, hpl]
     rw [if_neg (by simp; omega)]
     exact e1
end
end Go.Ev
set_option linter.all false
namespace Go.Ev
variable [Gv]
section
variable {ρ : Env} {a : W} {w : World}
theorem ae0 {t : TypeId} {fs : List Field} (h : fieldsOf t = some fs) : ∃ fa : Array Field, az t = some (.struct fa) ∧ fa.toList = fs := by
 unfold fieldsOf at h
 split at h
 ·rename_i fa hu; cases h; exact ⟨fa, hu, rfl⟩
 ·cases h
theorem ajs {t : TypeId} {i off size : Nat} (h : jx t i = some (off, size)) :
  ∃ (fa : Array Field) (f : Field), az t = some (.struct fa) ∧ fa[i]? = some f ∧ f.offset = off ∧ sizeOf f.type = some size := by
 unfold jx at h
 cases hf : fieldsOf t with
 | none => rw [hf] at h; cases h
 | some fs =>
   obtain ⟨fa, hu, rfl⟩ := ae0 hf
   rw [hf] at h
   simp only [Option.bind_some] at h
   cases hi : fa.toList[i]? with
   | none => rw [hi] at h; cases h
   | some f =>
     rw [hi] at h
     simp only [Option.bind_some, zG] at h
     obtain ⟨s, hs, e⟩ := h
     injection e with e1 e2
     subst e1; subst e2
     exact ⟨fa, f, hu, by simpa using hi, rfl, hs⟩
theorem ai9 : ∀ (l : List Field) (g : Field → Nat × Nat), (∀ f ∈ l, sizeOf f.type = some (g f).2 ∧ (g f).1 = f.offset) →
  (l.mapM (m := Sem) fun f => do pure (f.offset, ← Go.sizeOf f.type)).run PP w = .ok (l.map g) w
 | [], _, _ => rfl
 | f :: l, g, h => by
   have ⟨h1, h2⟩ := h f (by simp)
   rw [List.mapM_cons]
   simp only [zR, bi h1, zQ, zT, ai9 l g (fun x hx => h x (by simp [hx])), List.map_cons]
   rw [← h2]
theorem ac3 {t : TypeId} {fa : Array Field} {i : TypeInfo} {z : Value} {ps : Array (Nat × Value)} {r : Array Value} (hu : az t = some (.struct fa)) (hsz : wv t = true)
  (hi : PP.info? t = some i) (hz : i.zero = some z) (hf : Instr.fill (jx t) z.cells ps.toList = some r) : (Instr.build t ps).run PP w = .ok (.agg r) w := by
 have hfo : fieldsOf t = some fa.toList := by unfold fieldsOf; rw [hu]
 have hs : ∀ f ∈ fa.toList, ∃ n, sizeOf f.type = some n := by
  unfold wv at hsz
  rw [hfo] at hsz
  intro f hm
  exact Option.isSome_iff_exists.1 (List.all_eq_true.1 hsz f hm)
 let g : Field → Nat × Nat := fun f => (f.offset, (sizeOf f.type).getD 0)
 have hg : ∀ f ∈ fa.toList, sizeOf f.type = some (g f).2 ∧ (g f).1 = f.offset := by
  intro f hm
  obtain ⟨n, hn⟩ := hs f hm
  exact ⟨by simp [g, hn], rfl⟩
 have hm := ai9 (w := w) fa.toList g hg
 have hplace : (fun x => (fa.map g)[x]?) = jx t := by
  funext k
  unfold jx
  rw [hfo]
  simp only [Option.bind_some, Array.getElem?_map, Array.getElem?_toList]
  cases hk : fa[k]? with
  | none => rfl
  | some f =>
    obtain ⟨n, hn⟩ := hs f (by simpa using Array.mem_of_getElem? hk)
    simp [g, hn]
 have hma : (fa.mapM (m := Sem) fun f => do pure (f.offset, ← Go.sizeOf f.type)).run PP w = .ok (fa.map g) w := by
  rw [Array.mapM_eq_mapM_toList, Sem.run_map, hm]
  show Result.ok (fa.toList.map g).toArray w = _
  rw [← Array.toList_map, Array.toArray_toList]
 simp only [Instr.build, zR, ei hi hz, zQ, af hu, hma]
 rw [hplace, hf]
 rfl
theorem a6t (hw : WRel ρ a w) {t : TypeId} {ps : List (Nat × AV)} {ps' : Array (Nat × Value)} (hp : akk ρ ps ps'.toList) : VOK ρ a w (Instr.build t ps') (aba t ps a) := by
 unfold aba
 split
 ·rename_i fa z hu hz
  obtain ⟨i, z', hi, hz', rfl⟩ := c8 hz
  simp only [aa]
  split <;> try trivial
  rename_i hsz
  split <;> try trivial
  rename_i hnt
  refine gi hw fun v hv => ?_
  simp only [zG] at hv
  obtain ⟨r, hr, rfl⟩ := hv
  obtain ⟨r', e1, e2⟩ := abh ps ps'.toList _ r _ hp (dc (ev ρ z') (fm hnt)) hr
  exact ⟨.agg r', ac3 hu hsz hi hz' e1, by simp only [VRel]; exact ⟨r', rfl, e2⟩⟩
 ·rename_i n e z hu hz
  obtain ⟨i, z', hi, hz', rfl⟩ := c8 hz
  split <;> try trivial
  rename_i s hs
  rw [aa]
  split <;> try trivial
  rename_i hnt
  refine gi hw fun v hv => ?_
  simp only [zG] at hv
  obtain ⟨r, hr, rfl⟩ := hv
  obtain ⟨r', e1, e2⟩ := abh ps ps'.toList _ r _ hp (dc (ev ρ z') (fm hnt)) hr
  refine ⟨.agg r', ?_, by simp only [VRel]; exact ⟨r', rfl, e2⟩⟩
  simp only [Instr.build, zR, ei hi hz', zQ, af hu, bi hs]
  rw [e1]
  rfl
 ·trivial
theorem ju (z : List AV) : ∀ n, (lc z n).length = n * z.length
 | 0 => by simp [lc]
 | n + 1 => by simp only [lc, zP, ju z n, Nat.succ_mul]; omega
theorem ae8 (z : List AV) : ∀ (n i : Nat), i < n * z.length → (lc z n)[i]? = z[i % z.length]?
 | 0, i, h => by simp at h
 | n + 1, i, h => by
   simp only [lc, List.getElem?_append]
   split
   ·rename_i h1; rw [Nat.mod_eq_of_lt h1]
   ·rename_i h1
    rw [Nat.succ_mul] at h
    rw [ae8 z n (i - z.length) (by omega), ← Nat.mod_eq_sub_mod (by omega)]
theorem yp {z : List AV} {z' : Array Value} (h : VRels ρ z z'.toList) (n m : Nat) (hm : m = n * z.length) : VRels ρ (lc z n) ((Array.range m).map (z'[· % z'.size]!)).toList := by
 have hl := VRels.length _ _ h
 simp only [Array.length_toList] at hl
 subst hm
 apply VRels.of_get
 ·rw [ju]; simp
 ·intro i hi
  rw [ju] at hi
  have hz : 0 < z.length := by
   rcases Nat.eq_zero_or_pos z.length with e | e
   ·rw [e] at hi; simp at hi
   ·exact e
  have hlt : i % z.length < z.length := Nat.mod_lt _ hz
  obtain ⟨v, h1, h2⟩ := VRels.get _ _ h (i % z.length) hlt
  have hg := ae8 z n i hi
  rw [zK (by rw [ju]; exact hi), zK hlt] at hg
  injection hg with hg
  refine ⟨v, ?_, by rw [hg]; exact h2⟩
  have h1' : z'[i % z.length]? = some v := by simpa using h1
  simp only [Array.toList_map, Array.toList_range, List.getElem?_map]
  rw [List.getElem?_range hi]
  simp only [Option.map_some, hl]
  rw [getElem!_def, h1']
theorem atl (hw : WRel ρ a w) {e : TypeId} {l : List AV} {arr : Array Value} {len : Nat} (h : VRels ρ l arr.toList) :
  VOK ρ a w (do pure (.slice (some (← Go.newRow e arr)) len len)) (aiy e l len a) := by
 unfold aiy
 rw [aa, ba]
 split
 ·rename_i hn
  have hn := zE hn
  refine yd hw (obj := .cells arr e) (f' := fun c => .slice (some ⟨c, 0, none⟩) len len) ?_ ?_ ?_
  ·have := rc (t := e) (tail := []) (ext := false) h hn (fun _ => rfl)
   rw [List.append_nil, Array.toArray_toList] at this
   exact this
  ·intro ρ' k c hk; simp only [VRel]; exact ⟨c, len, hk, ⟨zY _, zY _⟩, rfl, rfl⟩
  ·simp only [Go.newRow, zR, run_newObj, zQ, zT]; rfl
 ·trivial
theorem ako (hw : WRel ρ a w) {t : TypeId} {len : Nat} {ps : List (Nat × AV)} {ps' : Array (Nat × Value)} (hp : akk ρ ps ps'.toList) :
  VOK ρ a w (Instr.buildSlice t len ps') (mh t len ps a) := by
 unfold mh
 split <;> try trivial
 rename_i e hu
 split <;> try trivial
 rename_i s z hs hz
 obtain ⟨i, z', hi, hz', rfl⟩ := c8 hz
 rw [aa]
 split <;> try trivial
 rename_i hc
 simp only [zU, ba] at hc
 obtain ⟨⟨h1, h2⟩, h3⟩ := hc
 have h2 := zW h2
 have h3 := zE h3
 split <;> try trivial
 rename_i l hl
 have hcz := dc (ev ρ z') (fm h1)
 have hlen := VRels.length _ _ hcz
 obtain ⟨r', e1, e2⟩ := abh ps ps'.toList _ l _ hp (yp hcz len (len * s) (by rw [h2])) hl
 refine (atl hw e2).of_run ?_
 have hbig : ¬ len * s > 2 ^ 24 := by omega
 simp only [Instr.buildSlice, zR, af hu, zQ, bi hs, hbig, if_false]
 by_cases h0 : len * s = 0
 ·have hr : ∀ z : Array Value, ((Array.range (len * s)).map (z[· % z.size]!)) = #[] := by intro z; rw [h0]; simp
  rw [hr] at e1
  rw [if_pos h0]
  simp only [zR, zT, zQ]
  rw [hr, e1]
  simp only [zR, zT]
 ·rw [if_neg h0]
  simp only [zR, ei hi hz', zQ, zT, e1]
end
end Go.Ev
