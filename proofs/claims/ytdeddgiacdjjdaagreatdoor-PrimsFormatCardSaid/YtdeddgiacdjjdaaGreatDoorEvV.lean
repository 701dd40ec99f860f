import Derived.Test.YtdeddgiacdjjdaaGreatDoorEvO
import Derived.Laws.Strings
import Derived.Laws.StructEq
import Derived.Laws.Cover3
import Derived.WalkSpells
set_option linter.all false
namespace Go.Ev
variable [Gv]
theorem ec (k : IntKind) (n : Int) : nq k n = k.wrap n := by
 cases n with
 | ofNat m =>
   simp only [nq, aa]
   split
   ·rename_i h
    have h := zE h
    cases k <;> simp only [xm] at h <;> simp only [IntKind.wrap, IntKind.bits, IntKind.signed] <;> simp <;> omega
   ·rfl
 | negSucc m =>
   simp only [nq, aa]
   split
   ·rename_i hs
    split
    ·rename_i h
     have h := zE h
     cases k <;> simp only [a88] at hs <;> first
      | (cases hs; done)
      | (simp only [xm] at h; simp only [IntKind.wrap, IntKind.bits, IntKind.signed]; simp; omega)
    ·rfl
   ·rfl
theorem ix (a b : Int) : yl a b = decide (a ≤ b) := by
 cases a <;> cases b <;> simp only [yl] <;> rename_i m n
 ·rw [Bool.eq_iff_iff]; simp [Nat.ble_eq]
 ·simp; omega
 ·simp; omega
 ·rw [Bool.eq_iff_iff]; simp [Nat.ble_eq]; omega
theorem lk (a b : Int) : yk a b = (a == b) := by
 cases a <;> cases b <;> simp only [yk] <;> rename_i m n
 ·rw [Bool.eq_iff_iff]; simp; omega
 ·symm; rw [beq_eq_false_iff_ne]; simp
 ·symm; rw [beq_eq_false_iff_ne]; simp
 ·rw [Bool.eq_iff_iff]; simp
theorem cq (k l : IntKind) : nb k l = true ↔ k = l := by cases k <;> cases l <;> simp [nb]
theorem amv (k : IntKind) : xm k < 2 ^ k.bits := by cases k <;> decide
theorem akd (k : IntKind) : ∃ m, xm k = 2 ^ m - 1 ∧ m ≤ k.bits := by
 cases k
 ·exact ⟨7, by decide, by decide⟩
 ·exact ⟨15, by decide, by decide⟩
 ·exact ⟨31, by decide, by decide⟩
 ·exact ⟨63, by decide, by decide⟩
 ·exact ⟨8, by decide, by decide⟩
 ·exact ⟨16, by decide, by decide⟩
 ·exact ⟨32, by decide, by decide⟩
 ·exact ⟨64, by decide, by decide⟩
theorem mq (n m : Nat) (h : m < 2 ^ n) : (BitVec.ofInt n (Int.ofNat m)).toNat = m := by
 simp [BitVec.ofInt]
 exact Nat.mod_eq_of_lt h
theorem qu (k : IntKind) (m : Nat) (h : m ≤ xm k) : k.wrap (Int.ofNat m) = Int.ofNat m := by
 rw [← ec]; simp only [nq, aa, Nat.ble_eq_true_of_le h, if_true]
theorem vu (op : BinOp) (k : IntKind) (x y : Int) : ara op k x y = cu op k x y := by
 unfold ara
 split
 ·rename_i a b
  simp only [aa]
  split
  ·rename_i h1
   split
   ·rename_i h2
    have h1 := zE h1
    have h2 := zE h2
    have := amv k
    simp only [cu, BitVec.toNat_and, mq k.bits a (by omega), mq k.bits b (by omega)]
    congr 1
    symm
    exact qu k _ (Nat.le_trans Nat.and_le_left h1)
   ·rfl
  ·rfl
 ·rename_i a b
  simp only [aa]
  split
  ·rename_i h1
   split
   ·rename_i h2
    have h1 := zE h1
    have h2 := zE h2
    have := amv k
    simp only [cu, BitVec.toNat_or, mq k.bits a (by omega), mq k.bits b (by omega)]
    congr 1
    symm
    refine qu k _ ?_
    obtain ⟨m, hm, _⟩ := akd k
    have hp : 0 < 2 ^ m := Nat.pow_pos (by decide)
    have := Nat.or_lt_two_pow (x := a) (y := b) (n := m) (by omega) (by omega)
    omega
   ·rfl
  ·rfl
 ·rename_i a b
  simp only [aa]
  split
  ·rename_i h1
   split
   ·rename_i h2
    have h1 := zE h1
    have h2 := zE h2
    have := amv k
    simp only [cu, BitVec.toNat_xor, mq k.bits a (by omega), mq k.bits b (by omega)]
    congr 1
    symm
    refine qu k _ ?_
    obtain ⟨m, hm, _⟩ := akd k
    have hp : 0 < 2 ^ m := Nat.pow_pos (by decide)
    have := Nat.xor_lt_two_pow (x := a) (y := b) (n := m) (by omega) (by omega)
    omega
   ·rfl
  ·rfl
 ·rfl
section
variable {ρ : Env} {a : W} {w : World}
theorem bh {k : IntKind} {x y : Int} (h : x = y) : VRel ρ (.int k x) (.int k y) := by simp only [VRel, h]
theorem d9 {x y : Bool} (h : x = y) : VRel ρ (.bool x) (.bool y) := by simp only [VRel, h]
theorem ir {op : BinOp} {k : IntKind} {m n r : Int} (h : cu op k m n = some r) : (Op.intBits op k m n).run PP w = .ok (.int k r) w := by
 cases op <;> simp only [cu] at h <;> first | (cases h; done) | (cases h; rfl)
theorem lb {op : BinOp} {k k' : IntKind} {m n : Int} {v : AV} (t : TypeId) (h : ku op k m n = some v) (hk : k = k' ∨ op = .shl ∨ op = .shr) :
  ∃ v', (binOp op t (.int k m) (.int k' n)).run PP w = .ok v' w ∧ VRel ρ v v' := by
 have pos : ∀ n : Int, yl 0 n = true → ¬ n < 0 := by intro n h; rw [ix] at h; simp at h; omega
 have ne : ∀ n : Int, yk n 0 = false → n ≠ 0 := by intro n h; rw [lk] at h; simpa using h
 cases op with
 | shl =>
   simp only [ku, aa] at h
   split at h
   ·rename_i hb
    cases h
    refine ⟨_, ?_, bh (ec _ _)⟩
    simp [binOp, Op.shift, pos n hb]
   ·cases h
 | shr =>
   simp only [ku, aa] at h
   split at h
   ·rename_i hb
    cases h
    refine ⟨_, ?_, bh rfl⟩
    simp [binOp, Op.shift, pos n hb]
   ·cases h
 | add => obtain rfl := hk.resolve_right (by simp); cases h; exact ⟨_, by simp only [binOp, Op.intArith, ne_eq, not_true_eq_false, if_false]; rfl, bh (ec _ _)⟩
 | sub => obtain rfl := hk.resolve_right (by simp); cases h; exact ⟨_, by simp only [binOp, Op.intArith, ne_eq, not_true_eq_false, if_false]; rfl, bh (ec _ _)⟩
 | mul => obtain rfl := hk.resolve_right (by simp); cases h; exact ⟨_, by simp only [binOp, Op.intArith, ne_eq, not_true_eq_false, if_false]; rfl, bh (ec _ _)⟩
 | eql => obtain rfl := hk.resolve_right (by simp); cases h; exact ⟨_, by simp only [binOp, Op.intCmp, ne_eq, not_true_eq_false, if_false]; rfl, d9 (lk _ _)⟩
 | neq => obtain rfl := hk.resolve_right (by simp); cases h; exact ⟨_, by simp only [binOp, Op.intCmp, ne_eq, not_true_eq_false, if_false]; rfl, d9 (by rw [lk]; rfl)⟩
 | lss => obtain rfl := hk.resolve_right (by simp); cases h; exact ⟨_, by simp only [binOp, Op.intCmp, ne_eq, not_true_eq_false, if_false]; rfl, d9 (by rw [ix, ← decide_not]; congr 1; simp)⟩
 | leq => obtain rfl := hk.resolve_right (by simp); cases h; exact ⟨_, by simp only [binOp, Op.intCmp, ne_eq, not_true_eq_false, if_false]; rfl, d9 (ix _ _)⟩
 | gtr => obtain rfl := hk.resolve_right (by simp); cases h; exact ⟨_, by simp only [binOp, Op.intCmp, ne_eq, not_true_eq_false, if_false]; rfl, d9 (by rw [ix, ← decide_not]; congr 1; simp)⟩
 | geq => obtain rfl := hk.resolve_right (by simp); cases h; exact ⟨_, by simp only [binOp, Op.intCmp, ne_eq, not_true_eq_false, if_false]; rfl, d9 (ix _ _)⟩
 | quo =>
   obtain rfl := hk.resolve_right (by simp)
   simp only [ku, aa] at h
   split at h
   ·cases h
   ·rename_i hb
    cases h
    exact ⟨_, by simp only [binOp, Op.intDiv, ne_eq, not_true_eq_false, if_false, ne n (by simpa using hb)]; rfl, bh (ec _ _)⟩
 | rem =>
   obtain rfl := hk.resolve_right (by simp)
   simp only [ku, aa] at h
   split at h
   ·cases h
   ·rename_i hb
    cases h
    exact ⟨_, by simp only [binOp, Op.intDiv, ne_eq, not_true_eq_false, if_false, ne n (by simpa using hb)]; rfl, bh rfl⟩
 | and =>
   obtain rfl := hk.resolve_right (by simp)
   simp only [ku, vu, zG] at h
   obtain ⟨r, hr, rfl⟩ := h
   exact ⟨_, by simp only [binOp, ne_eq, not_true_eq_false, if_false]; exact ir hr, bh rfl⟩
 | or =>
   obtain rfl := hk.resolve_right (by simp)
   simp only [ku, vu, zG] at h
   obtain ⟨r, hr, rfl⟩ := h
   exact ⟨_, by simp only [binOp, ne_eq, not_true_eq_false, if_false]; exact ir hr, bh rfl⟩
 | xor =>
   obtain rfl := hk.resolve_right (by simp)
   simp only [ku, vu, zG] at h
   obtain ⟨r, hr, rfl⟩ := h
   exact ⟨_, by simp only [binOp, ne_eq, not_true_eq_false, if_false]; exact ir hr, bh rfl⟩
 | andNot =>
   obtain rfl := hk.resolve_right (by simp)
   simp only [ku, vu, zG] at h
   obtain ⟨r, hr, rfl⟩ := h
   exact ⟨_, by simp only [binOp, ne_eq, not_true_eq_false, if_false]; exact ir hr, bh rfl⟩
theorem ut (l n : Nat) : (ap l n).toList = aq l n := by unfold ap; rw [ByteArray.toList_mk]
theorem py (l n l' n' : Nat) (h : n < 256 ^ l) (h' : n' < 256 ^ l') : ((ap l n).toList == (ap l' n').toList) = sEq l n l' n' := by
 rw [a3k l n l' n' h h', Bool.eq_iff_iff, beq_iff_eq, decide_eq_true_eq]
 constructor
 ·intro e; rw [ut, ut] at e; unfold ap; rw [e]
 ·intro e; rw [e]
theorem ams {op : BinOp} {l n l' n' : Nat} {v : AV} (t : TypeId) (h : amr op l n l' n' = some v) (h1 : n < 256 ^ l) (h2 : n' < 256 ^ l') :
  ∃ v', (binOp op t (.string (ap l n)) (.string (ap l' n'))).run PP w = .ok v' w ∧ VRel ρ v v' := by
 cases op <;> simp only [amr] at h <;> try (cases h; done)
 ·rw [aa] at h
  split at h
  ·rename_i hb
   have hb := zE hb
   cases h
   refine ⟨.string (ap l n ++ ap l' n'), ?_, ?_⟩
   ·have : ¬ (((ap l n).size + (ap l' n').size : Nat) : Int) > IntKind.i64.max := by
     rw [cg, cg]
     simp [IntKind.max, IntKind.bits, IntKind.signed]; omega
    simp only [binOp, Op.stringOp, this, if_false]
    rfl
   ·unfold a86
    simp only [VRel]
    refine ⟨arc _ _ _ _ h1 h2, ?_⟩
    congr 1
    have e : ∀ x y : List UInt8, (⟨x.toArray⟩ : ByteArray) ++ ⟨y.toArray⟩ = ⟨(x ++ y).toArray⟩ := by
     intro x y
     apply ByteArray.ext
     simp
    unfold ap
    rw [e, show Nat.pow 256 l' = 256 ^ l' from rfl, nv _ _ _ _ h2]
  ·cases h
 ·cases h
  exact ⟨_, by rw [binOp_string_eql]; rfl, d9 (py _ _ _ _ h1 h2).symm⟩
 ·cases h
  exact ⟨_, by rw [binOp_string_neq]; rfl, d9 (by rw [py _ _ _ _ h1 h2])⟩
theorem bc_and {x y : Bool} : bc x y false = true ↔ x = true ∧ y = true := by cases x <;> cases y <;> simp [aa]
theorem tl (m n : Int) : (m == n) = decide (m = n) := by rw [Bool.eq_iff_iff]; simp
mutual
theorem av : ∀ (a b : SE), dk a b = true → a = b := by
 intro a b h
 cases a <;> cases b <;> simp only [dk, zF] at h
 ·rw [zW h]
 ·rw [lk] at h; simp at h; rw [h]
 ·obtain ⟨h1, h⟩ := bc_and.1 h
  obtain ⟨h2, h⟩ := bc_and.1 h
  obtain ⟨h3, h4⟩ := bc_and.1 h
  rw [zW h1, (cq _ _).1 h2, av _ _ h3, av _ _ h4]
 ·rw [bw _ _ h]
 ·obtain ⟨h1, h2⟩ := bc_and.1 h; rw [bw _ _ h1, av _ _ h2]
 ·obtain ⟨h1, h2⟩ := bc_and.1 h; rw [bw _ _ h1, av _ _ h2]
 ·obtain ⟨h1, h2⟩ := bc_and.1 h; rw [bw _ _ h1, av _ _ h2]
 ·obtain ⟨h1, h2⟩ := bc_and.1 h; rw [bw _ _ h1, bw _ _ h2]
 ·obtain ⟨h1, h2⟩ := bc_and.1 h; rw [bw _ _ h1, bw _ _ h2]
 ·obtain ⟨h1, h2⟩ := bc_and.1 h; rw [bw _ _ h1, bw _ _ h2]
 ·obtain ⟨h1, h2⟩ := bc_and.1 h; rw [zW h1, aab _ _ h2]
theorem bw : ∀ (a b : GE), kr a b = true → a = b := by
 intro a b h
 cases a <;> cases b <;> simp only [kr, zF] at h
 ·rw [zW h]
 ·rfl
 ·rw [av _ _ h]
 ·obtain ⟨h1, h2⟩ := bc_and.1 h; rw [bw _ _ h1, bw _ _ h2]
 ·obtain ⟨h1, h2⟩ := bc_and.1 h; rw [zW h1, zW h2]
 ·obtain ⟨h1, h⟩ := bc_and.1 h
  obtain ⟨h2, h3⟩ := bc_and.1 h
  rw [bw _ _ h1, av _ _ h2, av _ _ h3]
 ·rw [av _ _ h]
 ·obtain ⟨h1, h2⟩ := bc_and.1 h; rw [zW h1, aab _ _ h2]
theorem aab : ∀ (a b : AL), aov a b = true → a = b := by
 intro a b h
 cases a <;> cases b <;> simp only [aov, zF] at h
 ·rfl
 ·obtain ⟨h1, h2⟩ := bc_and.1 h; rw [av _ _ h1, aab _ _ h2]
 ·obtain ⟨h1, h2⟩ := bc_and.1 h; rw [bw _ _ h1, aab _ _ h2]
end
theorem afj {σ : Nat → List Int} {lt : Bool} {a b : SE} {r : Bool} : ∀ {A : List SA}, SAll σ A → yy lt a b A = some r → (SA.mk lt a b r).holds σ
 | [], _, h => by cases h
 | .mk lt' a' b' r' :: A, hA, h => by
   have ih := fun h => afj (A := A) (σ := σ) (lt := lt) (a := a) (b := b) (r := r) (fun x hx => hA x (zA _ hx)) h
   simp only [yy, aa] at h
   split at h
   ·rename_i h1
    split at h
    ·rename_i h2
     split at h
     ·rename_i h3
      injection h with h
      subst h
      have h1 : lt = lt' := by cases lt <;> cases lt' <;> first | rfl | cases h1
      subst h1
      rw [av _ _ h2, av _ _ h3]
      exact hA _ (by simp)
     ·exact ih h
    ·exact ih h
   ·exact ih h
theorem b7 {σ : Nat → List Int} {lt : Bool} {a b : SE} {A : List SA} {r : Bool} (hA : SAll σ A) (h : cz lt a b A = some r) : (SA.mk lt a b r).holds σ := by
 unfold cz at h
 split at h
 ·rename_i m n
  injection h with h
  subst h
  cases lt
  ·show decide (m = n) = _; rw [aa]; simp only [zF, if_false]; rw [lk, tl]
  ·show decide (m < n) = _; rw [aa]; simp only [if_true]; rw [ix]; by_cases e : n ≤ m <;> simp [e] <;> omega
 ·rw [aa] at h
  split at h
  ·rename_i he
   injection h with h
   subst h
   rw [av _ _ he]
   cases lt
   ·show decide (_ = _) = _; simp
   ·show decide (_ < _) = _; simp
  ·exact afj hA h
theorem adl {op : BinOp} {k : IntKind} {a b : SE} {A : List SA} {v : AV} (hA : SAll Gv.σ A) (h : aj9 op k a b A = some v) :
  ∃ v0, ku op k (a.eval Gv.σ) (b.eval Gv.σ) = some v0 ∧ ∀ x, VRel ρ v0 x → VRel ρ v x := by
 have nz : ∀ r, cz false b (.c 0) A = some r → yk (b.eval Gv.σ) 0 = r := by
  intro r hr
  have := b7 hA hr
  have this : decide (b.eval Gv.σ = 0) = r := this
  rw [lk, tl]; exact this
 unfold aj9 at h
 split at h
 ·injection h with h; subst h
  exact ⟨_, rfl, fun x hx => by simp only [VRel] at hx ⊢; rw [ec] at hx; exact ⟨hA, hx⟩⟩
 ·injection h with h; subst h
  exact ⟨_, rfl, fun x hx => by simp only [VRel] at hx ⊢; rw [ec] at hx; exact ⟨hA, hx⟩⟩
 ·injection h with h; subst h
  exact ⟨_, rfl, fun x hx => by simp only [VRel] at hx ⊢; rw [ec] at hx; exact ⟨hA, hx⟩⟩
 ·split at h <;> try (cases h; done)
  rename_i he
  injection h with h; subst h
  exact ⟨.int k (nq k ((a.eval Gv.σ).tdiv (b.eval Gv.σ))), by simp only [ku, nz _ he, aa, zF, if_false], fun x hx => by simp only [VRel] at hx ⊢; rw [ec] at hx; exact ⟨hA, hx⟩⟩
 ·split at h <;> try (cases h; done)
  rename_i he
  injection h with h; subst h
  exact ⟨.int k ((a.eval Gv.σ).tmod (b.eval Gv.σ)), by simp only [ku, nz _ he, aa, zF, if_false], fun x hx => by simp only [VRel] at hx ⊢; exact ⟨hA, hx⟩⟩
 ·simp only [zG] at h
  obtain ⟨r, hr, rfl⟩ := h
  have := b7 hA hr
  have this : decide (a.eval Gv.σ = b.eval Gv.σ) = r := this
  exact ⟨_, rfl, fun x hx => by simp only [VRel] at hx ⊢; rw [lk, tl, this] at hx; exact hx⟩
 ·simp only [zG] at h
  obtain ⟨r, hr, rfl⟩ := h
  have := b7 hA hr
  have this : decide (a.eval Gv.σ = b.eval Gv.σ) = r := this
  exact ⟨_, rfl, fun x hx => by simp only [VRel] at hx ⊢; rw [lk, tl, this] at hx; exact hx⟩
 ·simp only [zG] at h
  obtain ⟨r, hr, rfl⟩ := h
  have := b7 hA hr
  have this : decide (a.eval Gv.σ < b.eval Gv.σ) = r := this
  refine ⟨_, rfl, fun x hx => ?_⟩
  simp only [VRel] at hx ⊢
  rw [hx, ix, ← this]
  by_cases e : b.eval Gv.σ ≤ a.eval Gv.σ <;> simp [e] <;> omega
 ·simp only [zG] at h
  obtain ⟨r, hr, rfl⟩ := h
  have := b7 hA hr
  have this : decide (b.eval Gv.σ < a.eval Gv.σ) = r := this
  refine ⟨_, rfl, fun x hx => ?_⟩
  simp only [VRel] at hx ⊢
  rw [hx, ix, ← this]
  by_cases e : a.eval Gv.σ ≤ b.eval Gv.σ <;> simp [e] <;> omega
 ·simp only [zG] at h
  obtain ⟨r, hr, rfl⟩ := h
  have := b7 hA hr
  have this : decide (b.eval Gv.σ < a.eval Gv.σ) = r := this
  refine ⟨_, rfl, fun x hx => ?_⟩
  simp only [VRel] at hx ⊢
  rw [hx, ix, ← this]
  by_cases e : a.eval Gv.σ ≤ b.eval Gv.σ <;> simp [e] <;> omega
 ·simp only [zG] at h
  obtain ⟨r, hr, rfl⟩ := h
  have := b7 hA hr
  have this : decide (a.eval Gv.σ < b.eval Gv.σ) = r := this
  refine ⟨_, rfl, fun x hx => ?_⟩
  simp only [VRel] at hx ⊢
  rw [hx, ix, ← this]
  by_cases e : b.eval Gv.σ ≤ a.eval Gv.σ <;> simp [e] <;> omega
 ·cases h
theorem y6 {mx : Bool} {k : IntKind} {a b : SE} {A : List SA} {v : AV} (hA : SAll Gv.σ A) (h : adk mx k a b A = some v) :
  ∀ x, VRel ρ (.int k (bc (yl (a.eval Gv.σ) (b.eval Gv.σ)) (bc mx (b.eval Gv.σ) (a.eval Gv.σ)) (bc mx (a.eval Gv.σ) (b.eval Gv.σ)))) x → VRel ρ v x := by
 intro x hx
 unfold adk at h
 split at h <;> try (cases h; done)
 ·rename_i hr
  have := b7 hA hr
  have this : decide (b.eval Gv.σ < a.eval Gv.σ) = true := this
  simp at this
  injection h with h; subst h
  simp only [VRel, ix] at hx ⊢
  rw [show decide (a.eval Gv.σ ≤ b.eval Gv.σ) = false by simp; omega] at hx
  refine ⟨hA, ?_⟩
  cases mx <;> exact hx
 ·rename_i hr
  have := b7 hA hr
  have this : decide (b.eval Gv.σ < a.eval Gv.σ) = false := this
  simp at this
  injection h with h; subst h
  simp only [VRel, ix] at hx ⊢
  rw [show decide (a.eval Gv.σ ≤ b.eval Gv.σ) = true by simp; omega] at hx
  refine ⟨hA, ?_⟩
  cases mx <;> exact hx
end
end Go.Ev
set_option linter.all false
namespace Go.Ev
variable [Gv]
section
variable {ρ : Env} {a : W} {w : World}
theorem VRels.drop {ρ : Env} : ∀ (n : Nat) (l : List AV) (vs : List Value), VRels ρ l vs → VRels ρ (l.drop n) (vs.drop n)
 | 0, _, _, h => by simpa using h
 | n + 1, [], _, h => by simp only [VRels] at h; subst h; simp [VRels]
 | n + 1, a :: l, _, h => by simp only [VRels] at h; obtain ⟨v, vs, rfl, _, h3⟩ := h; simpa using VRels.drop n l vs h3
theorem VRels.take {ρ : Env} : ∀ (n : Nat) (l : List AV) (vs : List Value), VRels ρ l vs → VRels ρ (l.take n) (vs.take n)
 | 0, _, _, _ => by simp [VRels]
 | n + 1, [], _, h => by simp only [VRels] at h; subst h; simp [VRels]
 | n + 1, a :: l, _, h => by
   simp only [VRels] at h; obtain ⟨v, vs, rfl, h2, h3⟩ := h
   simp only [List.take_succ_cons, VRels]
   exact ⟨v, vs.take n, rfl, h2, VRels.take n l vs h3⟩
theorem sh {t : TypeId} {cs : List AV} {cs' : Array Value} {off : Nat} {v : AV} (h : acu t cs off = some v) (hc : VRels ρ cs cs'.toList) :
  ∃ v', (part t cs' off).run PP w = .ok v' w ∧ VRel ρ v v' := by
 unfold acu at h
 split at h
 ·rename_i h0
  obtain ⟨d, n, hd, hs, hr⟩ := ic h0
  have hagg : ei d = false := by cases e : ei d with | false => rfl | true => rw [e] at hr; simp at hr
  rw [oh] at h
  obtain ⟨hlt, he⟩ := List.getElem?_eq_some_iff.1 h
  obtain ⟨v', h1, h2⟩ := VRels.get cs _ hc off hlt
  rw [he] at h2
  refine ⟨v', ?_, h2⟩
  have h1' : cs'[off]? = some v' := by simpa using h1
  simp only [part, zR, iy hd, zQ, hagg, zF, if_false, h1']
  rfl
 ·rename_i n h0
  obtain ⟨d, m, hd, hs, hr⟩ := ic h0
  cases h
  by_cases hagg : ei d = true
  ·rw [if_pos hagg] at hr
   injection hr with hr
   injection hr with hr
   subst hr
   refine ⟨.agg (cs'.extract off (off + n)), ?_, ?_⟩
   ·simp only [part, zR, iy hd, zQ, hagg, if_true, ax hs, zT]
   ·simp only [VRel]
    refine ⟨_, rfl, ?_⟩
    have := VRels.take n _ _ (VRels.drop off _ _ hc)
    simpa [List.extract_eq_take_drop] using this
  ·rw [if_neg hagg] at hr
   split at hr <;> cases hr
 ·cases h
def aks (w : World) (d : Nat) (t : TypeId) (x y : Value) (r : Bool) : Prop := ∀ D, d ≤ D → (Op.equalIn D t x y).run PP w = .ok r w
theorem ai7 (hw : WRel ρ a w) {b : K} {c : Nat} (h : ad8 b a = true) (hc : ρ b = some c) (hn : ac b a.h ≠ .none) :
  ∃ arr t fz, w.heap[c]? = some (.cells arr t fz) ∧ arr.size ≠ 0 ∧ ∀ i, ¬ (fz.1 ≤ i ∧ i < fz.2) := by
 unfold ad8 at h
 split at h
 ·rename_i t size ext fl fh cs hg
  rw [aa] at h
  split at h
  ·rename_i h1
   have h1 := zE h1
   obtain ⟨arr, fz, e1, e2, e3, e4, e5, e6⟩ := hw.block hg (by simp) hc
   refine ⟨arr, t, fz, e1, ?_, ?_⟩
   ·have : size ≠ 0 := by intro e; subst e; cases h
    omega
   ·intro i hi; have := e5.2 i hi.1 hi.2; omega
  ·cases h
 ·cases h
theorem aak {b : K} (h : ad8 b a = true) : ac b a.h ≠ .none := by
 rw [← ar]; intro e; unfold ad8 at h; rw [e] at h; cases h
theorem a27 {b : K} (h : ad8 b a = true) : (ac b a.h).isRo = false := by
 rw [← ar]; unfold ad8 at h
 split at h
 ·rename_i hg; rw [hg]; rfl
 ·cases h
theorem ac9 (hw : WRel ρ a w) {b b' : K} {c c' o o' : Nat} (h : ad8 b a = true) (h' : ad8 b' a = true) (hc : ρ b = some c) (hc' : ρ b' = some c') (hne : b ≠ b') :
  (sameAddr ⟨c, o, none⟩ ⟨c', o', none⟩).run PP w = .ok false w := by
 have hcc : c ≠ c' := fun e => hne (hw.inj1 (aak h) (aak h') (.inl (a27 h)) (by rw [hc, hc', e]))
 obtain ⟨arr, t, fz, e1, e2, e3⟩ := ai7 hw h hc (aak h)
 obtain ⟨arr', t', fz', e1', e2', e3'⟩ := ai7 hw h' hc' (aak h')
 have f : ∀ o, w.frozen? ⟨c, o, none⟩ = false := by
  intro o
  obtain ⟨f1, f2⟩ := fz
  have := e3 o
  simp only [World.frozen?, e1, Bool.and_eq_false_iff, decide_eq_false_iff_not]
  simp only at this; omega
 have f' : ∀ o, w.frozen? ⟨c', o, none⟩ = false := by
  intro o
  obtain ⟨f1, f2⟩ := fz'
  have := e3' o
  simp only [World.frozen?, e1', Bool.and_eq_false_iff, decide_eq_false_iff_not]
  simp only at this; omega
 have s : w.shape? c = some (t, arr.size) := by simp [World.shape?, e1]
 have s' : w.shape? c' = some (t', arr'.size) := by simp [World.shape?, e1']
 have hb : (c == c') = false := by simpa using hcc
 simp [sameAddr, hb, f, f', noView, viewAt, s, s', mayBeOne, stringish]
theorem wj {eq : TypeId → AV → AV → Option Bool} {d : Nat} (heq : ∀ t x y r x' y', eq t x y = some r → VRel ρ x x' → VRel ρ y y' → aks w d t x' y' r) {xs ys : List AV} {xs' ys' : Array Value}
  (hx : VRels ρ xs xs'.toList) (hy : VRels ρ ys ys'.toList) : ∀ (fs : List Field) (r : Bool), eqFields eq xs ys fs = some r → ∀ D, d ≤ D → (Op.eqFields D xs' ys' fs).run PP w = .ok r w := by
 intro fs
 induction fs with
 | nil => intro r h D _; simp only [eqFields] at h; cases h; rfl
 | cons f fs ih =>
   intro r h D hD
   simp only [eqFields, aa] at h
   split at h
   ·rename_i hn
    have hn : f.name = "_" := by simpa using hn
    simp only [Op.eqFields, hn, ne_eq, not_true_eq_false, if_false]
    exact ih r h D hD
   ·rename_i hn
    have hn : f.name ≠ "_" := by simpa using hn
    split at h
    ·rename_i x y ex ey
     obtain ⟨x', rx, vx⟩ := sh (w := w) ex hx
     obtain ⟨y', ry, vy⟩ := sh (w := w) ey hy
     split at h
     ·rename_i e
      have := heq _ _ _ _ _ _ e vx vy D hD
      simp only [Op.eqFields, ne_eq, hn, not_false_eq_true, if_true, zR, rx, ry, this, zQ, Bool.not_true, zF, if_false]
      exact ih r h D hD
     ·rename_i e
      have := heq _ _ _ _ _ _ e vx vy D hD
      cases h
      simp only [Op.eqFields, ne_eq, hn, not_false_eq_true, if_true, zR, rx, ry, this, zQ, Bool.not_false, zT]
     ·cases h
    ·cases h
theorem wk {t : TypeId} {fs : Array Field} {D : Nat} {xs ys : Array Value} {r : Bool} (hu : PP.underlying t = some (.struct fs)) (hst : PP.stoodInHeld t = false)
  (h : (Op.eqFields D xs ys fs.toList).run PP w = .ok r w) : (Op.equalIn (D + 1) t (.agg xs) (.agg ys)).run PP w = .ok r w := by
 have hf : PP.fieldsOf t = fs := by unfold Program.fieldsOf; rw [hu]
 rw [run_equalIn_struct w D t xs ys (by rw [hf]; exact hu) hst, hf]
 exact h
set_option maxHeartbeats 2000000 in
theorem o0 (hw : WRel ρ a w) : ∀ (d : Nat) (t : TypeId) (x y : AV) (r : Bool) (x' y' : Value), abq a d t x y = some r → VRel ρ x x' → VRel ρ y y' → aks w d t x' y' r := by
 intro d
 induction d with
 | zero => intro t x y r x' y' h; cases h
 | succ d ih =>
   intro t x y r x' y' h hx hy D hD
   obtain ⟨D, rfl⟩ : ∃ E, D = E + 1 := ⟨D - 1, by omega⟩
   have hD : d ≤ D := by omega
   unfold abq at h
   split at h <;> (try (cases h; done)) <;> rename_i ht <;> simp only [VRel] at hx hy <;> have hu := bi ht
   ·subst hx; subst hy; cases h; simp only [Op.equalIn, zR, ab ht, zQ]; rfl
   ·subst hx; subst hy
    rw [aa] at h
    split at h
    ·rename_i hk; obtain rfl := (cq _ _).1 hk; cases h; simp [Op.equalIn, ab ht, lk]
    ·cases h
   ·obtain ⟨h1, rfl⟩ := hx; obtain ⟨h2, rfl⟩ := hy; cases h
    simp only [Op.equalIn, zR, ab ht, zQ, beq_toListBytes, py _ _ _ _ h1 h2, zT]
   ·subst hx; subst hy; cases h; simp only [Op.equalIn, zR, ab ht, zQ]; rfl
   ·subst hx; obtain ⟨c, _, rfl⟩ := hy; cases h; simp only [Op.equalIn, zR, ab ht, zQ]; rfl
   ·subst hy; obtain ⟨c, _, rfl⟩ := hx; cases h; simp only [Op.equalIn, zR, ab ht, zQ]; rfl
   ·obtain ⟨c, hc, rfl⟩ := hx
    obtain ⟨c', hc', rfl⟩ := hy
    split at h
    ·rename_i m hs
     simp only [aa] at h
     split at h
     ·rename_i hk
      obtain rfl := (K.beq_iff _ _).1 hk
      rw [hc] at hc'; cases hc'
      cases h
      simp [Op.equalIn, ab ht, ax hs, sameAddr]
      rw [Bool.eq_iff_iff]; simp
     ·rename_i hk
      split at h <;> try (cases h; done)
      rename_i hl
      split at h <;> try (cases h; done)
      rename_i hl'
      cases h
      have := fun o o' => ac9 (o := o) (o' := o') hw hl hl' hc hc' (fun e => hk ((K.beq_iff _ _).2 e))
      simp [Op.equalIn, ab ht, ax hs, this]
    ·cases h
   ·subst hx; subst hy; cases h; simp only [Op.equalIn, zR, ab ht, zQ]; rfl
   ·subst hx; obtain ⟨v', rfl, _⟩ := hy; cases h; simp only [Op.equalIn, zR, ab ht, zQ]; rfl
   ·subst hy; obtain ⟨v', rfl, _⟩ := hx; cases h; simp only [Op.equalIn, zR, ab ht, zQ]; rfl
   ·obtain ⟨v1, rfl, r1⟩ := hx
    obtain ⟨v2, rfl, r2⟩ := hy
    simp only [aa] at h
    split at h
    ·rename_i he
     have he := zW he
     subst he
     split at h
     ·rename_i hcmp
      rename_i t1 x1 t2 y1 ht2
      cases hi : d7 t2 with
      | none => rw [hi] at hcmp; simp at hcmp
      | some i =>
        rw [hi] at hcmp
        have hcmp : i.comparable = true := by simpa using hcmp
        have := ih _ _ _ _ _ _ h r1 r2 D hD
        simp [Op.equalIn, ab ht, fu (dg hi), hcmp, this]
     ·cases h
    ·rename_i he
     cases h
     rw [Nat.beq_eq] at he
     simp [Op.equalIn, ab ht, he]
   ·obtain ⟨xs', rfl, r1⟩ := hx
    obtain ⟨ys', rfl, r2⟩ := hy
    simp only [aa] at h
    split at h
    ·cases h
    ·rename_i hst
     have hst : PP.stoodInHeld t = false := by simpa using hst
     exact wk hu hst (wj (fun t x y r x' y' => ih t x y r x' y') r1 r2 _ _ h D hD)
   ·subst hx; subst hy; cases h; simp only [Op.equalIn, zR, ab ht, zQ]; rfl
   ·subst hx; obtain ⟨_, _, _, _, _, rfl⟩ := hy; cases h; simp only [Op.equalIn, zR, ab ht, zQ]; rfl
   ·subst hy; obtain ⟨_, _, _, _, _, rfl⟩ := hx; cases h; simp only [Op.equalIn, zR, ab ht, zQ]; rfl
   ·subst hx; obtain ⟨_, _, rfl⟩ := hy; cases h; simp only [Op.equalIn, zR, ab ht, zQ]; rfl
   ·subst hy; obtain ⟨_, _, rfl⟩ := hx; cases h; simp only [Op.equalIn, zR, ab ht, zQ]; rfl
   ·subst hx; obtain ⟨_, _, _, _, _, _, _, rfl⟩ := hy; cases h; simp only [Op.equalIn, zR, ab ht, zQ]; rfl
   ·subst hy; obtain ⟨_, _, _, _, _, _, _, rfl⟩ := hx; cases h; simp only [Op.equalIn, zR, ab ht, zQ]; rfl
   ·subst hx; subst hy; cases h; simp only [Op.equalIn, zR, ab ht, zQ]; rfl
   ·subst hx; obtain ⟨_, _, rfl⟩ := hy; cases h; simp only [Op.equalIn, zR, ab ht, zQ]; rfl
   ·subst hy; obtain ⟨_, _, rfl⟩ := hx; cases h; simp only [Op.equalIn, zR, ab ht, zQ]; rfl
   ·subst hx; subst hy; cases h; simp only [Op.equalIn, zR, ab ht, zQ]; rfl
   ·subst hx; obtain ⟨_, _, _, rfl, _⟩ := hy; cases h; simp only [Op.equalIn, zR, ab ht, zQ]; rfl
   ·subst hy; obtain ⟨_, _, _, rfl, _⟩ := hx; cases h; simp only [Op.equalIn, zR, ab ht, zQ]; rfl
end
end Go.Ev
set_option linter.all false
namespace Go.Ev
variable [Gv]
section
variable {ρ : Env} {a : W} {w : World}
def a9t (x y : Value) : Prop := ∀ t, binOp .eql t x y = (do pure (.bool (← Op.equal t x y))) ∧ binOp .neq t x y = (do pure (.bool (!(← Op.equal t x y))))
def acd : AV → Bool | .int _ _ => true | _ => false
def u7 : AV → Bool | .str _ _ => true | _ => false
theorem ta {d : Nat} {t : TypeId} {x y : AV} {r : Bool} {x' y' : Value} (h : abq a d t x y = some r) (hx : VRel ρ x x') (hy : VRel ρ y y')
  (hi : (acd x && acd y) = false) (hs : (u7 x && u7 y) = false) : a9t x' y' := by
 cases d with
 | zero => cases h
 | succ d =>
   unfold abq at h
   split at h <;> (try (cases h; done)) <;> simp only [VRel] at hx hy <;> first
    | (simp [acd] at hi; done)
    | (simp [u7] at hs; done)
    | (subst hx; subst hy; intro t; exact ⟨rfl, rfl⟩)
    | (subst hx; obtain ⟨_, _, rfl⟩ := hy; intro t; exact ⟨rfl, rfl⟩)
    | (subst hy; obtain ⟨_, _, rfl⟩ := hx; intro t; exact ⟨rfl, rfl⟩)
    | (obtain ⟨_, _, rfl⟩ := hx; obtain ⟨_, _, rfl⟩ := hy; intro t; exact ⟨rfl, rfl⟩)
    | (subst hx; obtain ⟨_, rfl, _⟩ := hy; intro t; exact ⟨rfl, rfl⟩)
    | (subst hy; obtain ⟨_, rfl, _⟩ := hx; intro t; exact ⟨rfl, rfl⟩)
    | (obtain ⟨_, rfl, _⟩ := hx; obtain ⟨_, rfl, _⟩ := hy; intro t; exact ⟨rfl, rfl⟩)
    | (subst hx; obtain ⟨_, _, _, _, _, rfl⟩ := hy; intro t; exact ⟨rfl, rfl⟩)
    | (subst hy; obtain ⟨_, _, _, _, _, rfl⟩ := hx; intro t; exact ⟨rfl, rfl⟩)
    | (subst hx; obtain ⟨_, _, rfl, _⟩ := hy; intro t; exact ⟨rfl, rfl⟩)
    | (subst hy; obtain ⟨_, _, rfl, _⟩ := hx; intro t; exact ⟨rfl, rfl⟩)
    | (subst hx; obtain ⟨_, _, _, rfl, _⟩ := hy; intro t; exact ⟨rfl, rfl⟩)
    | (subst hy; obtain ⟨_, _, _, rfl, _⟩ := hx; intro t; exact ⟨rfl, rfl⟩)
    | (subst hx; obtain ⟨_, _, _, _, _, _, _, rfl⟩ := hy; intro t; exact ⟨rfl, rfl⟩)
    | (subst hy; obtain ⟨_, _, _, _, _, _, _, rfl⟩ := hx; intro t; exact ⟨rfl, rfl⟩)
theorem aer {op : BinOp} {t : TypeId} {x y : Operand} {b' c' : Value} (h1 : b' = .nilIface → c' = .nilIface → (tm x || tm y) = true)
  (h2 : ∀ p q, b' = .agg p → c' = .agg q → PP.eqGuardType PP.depth t = false) : (eqGuard op t x y b' c').run PP w = .ok () w := by
 unfold eqGuard
 cases op <;> (try rfl) <;> cases b' <;> (try rfl) <;> cases c' <;> (try rfl)
 ·have := h1 rfl rfl
  cases x <;> cases y <;> first | rfl | (simp [tm] at this; done)
 ·simp [h2 _ _ rfl rfl]
 ·have := h1 rfl rfl
  cases x <;> cases y <;> first | rfl | (simp [tm] at this; done)
 ·simp [h2 _ _ rfl rfl]
theorem xa {b : AV} (h : VRel ρ b .nilIface) : b = .nilIface ∨ b = .top := by
 cases b <;> simp only [VRel] at h <;> first
  | (exact .inl rfl) | (exact .inr rfl)
  | (cases h; done)
  | (obtain ⟨_, h⟩ := h; cases h; done)
  | (obtain ⟨_, _, h⟩ := h; cases h; done)
  | (obtain ⟨_, _, _, _, _, h⟩ := h; cases h; done)
  | (obtain ⟨_, _, _, _, _, _, h⟩ := h; cases h; done)
  | (obtain ⟨_, _, _, _, h⟩ := h; cases h; done)
  | (obtain ⟨_, _, h, _⟩ := h; cases h; done)
  | (obtain ⟨_, h, _⟩ := h; cases h; done)
  | (obtain ⟨_, _, _, h, _⟩ := h; cases h; done)
  | (rcases SxRel.shape h with ⟨_, h⟩ | ⟨_, h⟩ <;> cases h; done)
  | (rcases GVRel.shape h with ⟨_, h⟩ | ⟨_, _, _, h⟩ | ⟨_, h⟩ <;> cases h; done)
theorem anw {b : AV} {p : Array Value} (h : VRel ρ b (.agg p)) : (∃ l, b = .agg l) ∨ b = .top := by
 cases b <;> simp only [VRel] at h <;> first
  | (exact .inl ⟨_, rfl⟩) | (exact .inr rfl)
  | (cases h; done)
  | (obtain ⟨_, h⟩ := h; cases h; done)
  | (obtain ⟨_, _, h⟩ := h; cases h; done)
  | (obtain ⟨_, _, _, _, _, h⟩ := h; cases h; done)
  | (obtain ⟨_, _, _, _, _, _, h⟩ := h; cases h; done)
  | (obtain ⟨_, _, _, _, h⟩ := h; cases h; done)
  | (obtain ⟨_, _, h, _⟩ := h; cases h; done)
  | (obtain ⟨_, h, _⟩ := h; cases h; done)
  | (obtain ⟨_, _, _, h, _⟩ := h; cases h; done)
  | (rcases SxRel.shape h with ⟨_, h⟩ | ⟨_, h⟩ <;> cases h; done)
  | (rcases GVRel.shape h with ⟨_, h⟩ | ⟨_, _, _, h⟩ | ⟨_, h⟩ <;> cases h; done)
theorem yi {op : BinOp} {t : TypeId} {x y : Operand} {b c : AV} {b' c' : Value} (h : ql t x y b c = true) (hb : VRel ρ b b') (hc : VRel ρ c c') (hb0 : b ≠ .top) (hc0 : c ≠ .top) :
  (eqGuard op t x y b' c').run PP w = .ok () w := by
 apply aer
 ·rintro rfl rfl
  obtain rfl := (xa hb).resolve_right hb0
  obtain rfl := (xa hc).resolve_right hc0
  exact h
 ·rintro p q rfl rfl
  obtain ⟨l, rfl⟩ := (anw hb).resolve_right hb0
  obtain ⟨m, rfl⟩ := (anw hc).resolve_right hc0
  simpa [ql] using h
theorem gn {op : BinOp} {t : TypeId} {x y : Operand} {b' c' : Value} (h1 : b' ≠ .nilIface) (h2 : ∀ p, b' ≠ .agg p) : (eqGuard op t x y b' c').run PP w = .ok () w :=
 aer (fun e => absurd e h1) (fun p _ e => absurd e (h2 p))
theorem abr {d : Nat} {t : TypeId} {x y : AV} {r : Bool} (h : abq a d t x y = some r) : x ≠ .top ∧ y ≠ .top := by
 cases d with
 | zero => cases h
 | succ d => unfold abq at h; split at h <;> first | (cases h; done) | (constructor <;> (intro e; cases e))
theorem e9 (hw : WRel ρ a w) {s : Sem Value} {o : Option AV} {c : Nat} (h : ∀ v, o = some v → ∃ v', s.run PP w = .ok v' w ∧ VRel ρ v v') : VOK ρ a w s (nk o a c) := by
 unfold nk
 split
 ·obtain ⟨v', h1, h2⟩ := h _ rfl; exact VOK.here hw h1 h2
 ·trivial
theorem vv {a b : ByteArray} (h : a ≠ b) : (a.toList == b.toList) = false := by
 rw [beq_eq_false_iff_ne]
 intro e
 apply h
 rw [ByteArray.toList_eq, ByteArray.toList_eq] at e
 exact ByteArray.ext (Array.toList_inj.1 e)
theorem ua {l n : Nat} : ∀ {A : List (Nat × Nat)}, ajl l n A = true → (l, n) ∈ A
 | p :: A, h => by
   simp only [ajl, aa] at h
   split at h
   ·rename_i h2
    split at h
    ·rename_i h1
     obtain ⟨x, y⟩ := p
     have e1 : x = l := zW h2
     have e2 : y = n := zW h1
     subst e1 e2; simp
    ·exact zA _ (ua h)
   ·exact zA _ (ua h)
theorem alx {t : TypeId} (h : ago t = true) : al t = some .bool := by
 unfold ago at h
 split at h
 ·assumption
 ·cases h
theorem u5 {op : BinOp} {r : Bool} {s s0 : Sem Value} (hw : WRel ρ a w) (h0 : s0.run PP w = s.run PP w) (h1 : op = .eql → s.run PP w = .ok (.bool r) w) (h2 : op = .neq → s.run PP w = .ok (.bool (!r)) w) : VOK ρ a w s0 (qg op r a) := by
 unfold qg
 split <;> try trivial
 ·exact VOK.here hw (v' := .bool r) (h0.trans (h1 rfl)) (by simp only [VRel])
 ·exact VOK.here hw (v' := .bool (!r)) (h0.trans (h2 rfl)) (by simp only [VRel])
theorem a4i (hw : WRel ρ a w) {op : BinOp} {t : TypeId} {x y : Operand} {b c : AV} {b' c' : Value} (hb : VRel ρ b b') (hc : VRel ρ c c') :
  VOK ρ a w (do eqGuard op t x y b' c'; binOp op t b' c') (aic op t x y b c a) := by
 unfold aic
 split
 ·rename_i k m k' n
  simp only [VRel] at hb hc
  subst hb; subst hc
  have hg := gn (w := w) (op := op) (t := t) (x := x) (y := y) (b' := .int k m) (c' := .int k' n) (by simp) (by simp)
  split
  ·refine e9 hw fun v hv => ?_
   obtain ⟨v', h1, h2⟩ := lb (ρ := ρ) (w := w) t hv (k' := k') (.inr (.inl rfl))
   exact ⟨v', by simp only [zR, hg, zQ, h1], h2⟩
  ·refine e9 hw fun v hv => ?_
   obtain ⟨v', h1, h2⟩ := lb (ρ := ρ) (w := w) t hv (k' := k') (.inr (.inr rfl))
   exact ⟨v', by simp only [zR, hg, zQ, h1], h2⟩
  ·rw [aa]
   split
   ·rename_i hk
    obtain rfl := (cq _ _).1 hk
    refine e9 hw fun v hv => ?_
    obtain ⟨v', h1, h2⟩ := lb (ρ := ρ) (w := w) t hv (k' := k) (.inl rfl)
    exact ⟨v', by simp only [zR, hg, zQ, h1], h2⟩
   ·trivial
 ·rename_i l n l' n'
  simp only [VRel] at hb hc
  obtain ⟨h1, rfl⟩ := hb
  obtain ⟨h2, rfl⟩ := hc
  have hg := gn (w := w) (op := op) (t := t) (x := x) (y := y) (b' := .string (ap l n)) (c' := .string (ap l' n')) (by simp) (by simp)
  refine e9 hw fun v hv => ?_
  obtain ⟨v', h3, h4⟩ := ams (ρ := ρ) (w := w) t hv h1 h2
  exact ⟨v', by simp only [zR, hg, zQ, h3], h4⟩
 ·rename_i k e A k' n
  rw [aa]
  split <;> try trivial
  rename_i hk
  obtain rfl := (cq _ _).1 hk
  simp only [VRel] at hb hc
  obtain ⟨hA, rfl⟩ := hb
  subst hc
  have hg := gn (w := w) (op := op) (t := t) (x := x) (y := y) (b' := .int k (e.eval Gv.σ)) (c' := .int k n) (by simp) (by simp)
  refine e9 hw fun v hv => ?_
  obtain ⟨v0, q1, q2⟩ := adl hA hv
  obtain ⟨v', h1, h2⟩ := lb (ρ := ρ) (w := w) t q1 (k' := k) (.inl rfl)
  exact ⟨v', by simp only [zR, hg, zQ]; exact h1, q2 _ h2⟩
 ·rename_i k' n k e A
  rw [aa]
  split <;> try trivial
  rename_i hk
  obtain rfl := (cq _ _).1 hk
  simp only [VRel] at hb hc
  obtain ⟨hA, rfl⟩ := hc
  subst hb
  have hg := gn (w := w) (op := op) (t := t) (x := x) (y := y) (b' := .int k n) (c' := .int k (e.eval Gv.σ)) (by simp) (by simp)
  refine e9 hw fun v hv => ?_
  obtain ⟨v0, q1, q2⟩ := adl hA hv
  obtain ⟨v', h1, h2⟩ := lb (ρ := ρ) (w := w) t q1 (k' := k) (.inl rfl)
  exact ⟨v', by simp only [zR, hg, zQ]; exact h1, q2 _ h2⟩
 ·rename_i k e A k' e' A'
  rw [aa]
  split <;> try trivial
  rename_i hk
  obtain rfl := (cq _ _).1 hk
  simp only [VRel] at hb hc
  obtain ⟨hA, rfl⟩ := hb
  obtain ⟨_, rfl⟩ := hc
  have hg := gn (w := w) (op := op) (t := t) (x := x) (y := y) (b' := .int k (e.eval Gv.σ)) (c' := .int k (e'.eval Gv.σ)) (by simp) (by simp)
  refine e9 hw fun v hv => ?_
  obtain ⟨v0, q1, q2⟩ := adl hA hv
  obtain ⟨v', h1, h2⟩ := lb (ρ := ρ) (w := w) t q1 (k' := k) (.inl rfl)
  exact ⟨v', by simp only [zR, hg, zQ]; exact h1, q2 _ h2⟩
 ·rename_i e A l n
  rw [aa]
  split <;> try trivial
  rename_i hm
  simp only [VRel] at hb hc
  obtain ⟨hn, rfl⟩ := hc
  obtain ⟨rfl, hA⟩ := (show _ ∧ _ from hb)
  have hne : ad9 Gv.σ ≠ ap l n := hA _ (ua hm)
  have hg := gn (w := w) (op := op) (t := t) (x := x) (y := y) (b' := .string (ad9 Gv.σ)) (c' := .string (ap l n)) (by simp) (by simp)
  exact u5 (s := binOp op t (.string (ad9 Gv.σ)) (.string (ap l n))) hw (by simp only [zR, hg, zQ]) (fun e => by subst e; rw [binOp_string_eql, vv (hne)]; rfl) (fun e => by subst e; rw [binOp_string_neq, vv (hne)]; rfl)
 ·rename_i l n e A
  rw [aa]
  split <;> try trivial
  rename_i hm
  simp only [VRel] at hb hc
  obtain ⟨hn, rfl⟩ := hb
  obtain ⟨rfl, hA⟩ := (show _ ∧ _ from hc)
  have hne : ad9 Gv.σ ≠ ap l n := hA _ (ua hm)
  have hg := gn (w := w) (op := op) (t := t) (x := x) (y := y) (b' := .string (ap l n)) (c' := .string (ad9 Gv.σ)) (by simp) (by simp)
  exact u5 (s := binOp op t (.string (ap l n)) (.string (ad9 Gv.σ))) hw (by simp only [zR, hg, zQ]) (fun e => by subst e; rw [binOp_string_eql, vv (Ne.symm hne)]; rfl) (fun e => by subst e; rw [binOp_string_neq, vv (Ne.symm hne)]; rfl)
 ·rename_i e A e' A'
  rw [aa]
  split <;> try trivial
  rename_i hm
  simp only [zU] at hm
  simp only [VRel] at hb hc
  have hb : b' = .bool (decide (e.eval Gv.σ ≠ 0)) := hb
  have hc : c' = .bool (decide (e'.eval Gv.σ ≠ 0)) := hc
  have he := av _ _ hm.1
  subst he
  generalize hr0 : decide (e.eval Gv.σ ≠ 0) = r0 at hb hc
  subst hb; subst hc
  have hu := alx hm.2
  have hr : eqA t (.bool r0) (.bool r0) a = some true := by
   unfold eqA abq
   rw [hu]
   cases r0 <;> rfl
  have ⟨t1, t2⟩ := abr hr
  have hvb : VRel ρ (.bool r0) (.bool r0) := by simp only [VRel]
  have hi : (acd (.bool r0) && acd (.bool r0)) = false := rfl
  have hs : (u7 (.bool r0) && u7 (.bool r0)) = false := rfl
  have hgu : ql t x y (.bool r0) (.bool r0) = true := rfl
  have hq := o0 hw 8 t (.bool r0) (.bool r0) true (.bool r0) (.bool r0) hr hvb hvb 10000 (by omega)
  refine u5 (s := binOp op t (.bool r0) (.bool r0)) hw ?_ ?_ ?_
  ·have hg := fun op => gn (w := w) (op := op) (t := t) (x := x) (y := y) (b' := .bool r0) (c' := .bool r0) (by simp) (by simp)
   simp only [zR, hg, zQ]
  ·intro e; subst e
   simp only [(ta hr hvb hvb hi hs t).1, Op.equal, Op.maxDepth, zR, hq, zQ, zT]
  ·intro e; subst e
   simp only [(ta hr hvb hvb hi hs t).2, Op.equal, Op.maxDepth, zR, hq, zQ, zT]
 ·rename_i hni hns _ _ _ _ _ _
  have hi : (acd b && acd c) = false := by
   cases b <;> first | rfl | (cases c <;> first | rfl | (exact (hni _ _ _ _ rfl rfl).elim))
  have hs : (u7 b && u7 c) = false := by
   cases b <;> first | rfl | (cases c <;> first | rfl | (exact (hns _ _ _ _ rfl rfl).elim))
  split
  ·rw [aa]
   split
   ·rename_i hg
    refine e9 hw fun v hv => ?_
    simp only [zG] at hv
    obtain ⟨r, hr, rfl⟩ := hv
    have ⟨t1, t2⟩ := abr hr
    have hg := yi (w := w) (op := .eql) hg hb hc t1 t2
    have hq := o0 hw 8 t b c r b' c' hr hb hc 10000 (by omega)
    refine ⟨.bool r, ?_, d9 rfl⟩
    simp only [zR, hg, zQ, (ta hr hb hc hi hs t).1, Op.equal, Op.maxDepth, hq, zT]
   ·trivial
  ·rw [aa]
   split
   ·rename_i hg
    refine e9 hw fun v hv => ?_
    simp only [zG] at hv
    obtain ⟨r, hr, rfl⟩ := hv
    have ⟨t1, t2⟩ := abr hr
    have hg := yi (w := w) (op := .neq) hg hb hc t1 t2
    have hq := o0 hw 8 t b c r b' c' hr hb hc 10000 (by omega)
    refine ⟨.bool (!r), ?_, d9 rfl⟩
    simp only [zR, hg, zQ, (ta hr hb hc hi hs t).2, Op.equal, Op.maxDepth, hq, zT]
   ·trivial
  ·trivial
theorem a9j (hw : WRel ρ a w) {op : UnOp} {b : AV} {b' : Value} (hb : VRel ρ b b') : VOK ρ a w (Op.unary op b') (asb op b a) := by
 unfold asb
 split
 ·simp only [VRel] at hb; subst hb
  exact VOK.here hw (by simp only [Op.unary, Op.intArith]; rfl) (bh (by rw [ec]; rfl))
 ·rename_i k e A
  simp only [VRel] at hb
  obtain ⟨hA, rfl⟩ := hb
  exact VOK.here hw (v' := .int k (k.wrap (0 - e.eval Gv.σ))) (by simp only [Op.unary, Op.intArith]; rfl) (by simp only [VRel]; exact ⟨hA, rfl⟩)
 ·rename_i k n
  simp only [VRel] at hb; subst hb
  refine e9 hw fun v hv => ?_
  simp only [zG] at hv
  obtain ⟨r, hr, rfl⟩ := hv
  exact ⟨_, by simp only [Op.unary]; exact ir hr, bh rfl⟩
 ·simp only [VRel] at hb; subst hb
  exact VOK.here hw (by simp only [Op.unary]; rfl) (d9 rfl)
 ·trivial
end
end Go.Ev
set_option linter.all false
namespace Go.Ev
variable [Gv]
section
variable {ρ : Env} {a : W} {w : World}
theorem ue (hw : WRel ρ a w) {o : AObj} {obj : Obj} {f : K → AV} {f' : Nat → Value} {s : Sem Value} (ho : ORel ρ o (some obj)) (hf : ∀ ρ' k c, ρ' k = some c → VRel ρ' (f k) (f' c))
  (hs : s.run PP w = .ok (f' w.heap.size) (w.alloc obj)) (hlo : ay o = none := by rfl) : VOK ρ a w s (kz o f a) := by
 obtain ⟨h, nx⟩ := a
 show VOK ρ (.mk h nx) w s (bc nx.isMax (.no 1) (.val (f nx) (.mk (bn nx o h) nx.succ)))
 rw [aa]
 split
 ·trivial
 ·rename_i hm
  have hm : nx.isMax = false := by simpa using hm
  intro fr
  have hfr : ρ nx = none := fr nx (zY _) (by simp only [W.nx_mk]; rw [K.succ_num hm]; omega)
  exact ⟨_, _, _, hs, hf _ _ _ (bp ρ nx _ _), s5 hw hfr hm ho hlo⟩
theorem ot {l : List AV} {l' : List Value} (h : VRels ρ l l') (hn : l.length ≤ 65536) : aq3 ρ l.length (kh l 0 (gx l.length)) l'.toArray := by
 intro i hi
 have hc := f8 l.length hn
 obtain ⟨v, h1, h2⟩ := VRels.get l l' h i hi
 refine ⟨v, by simpa using h1, ?_⟩
 rw [gc l 0 _ i (by omega) (by omega), dif_pos ⟨Nat.zero_le _, by simpa using hi⟩]
 simpa using h2
theorem oc {t : TypeId} {l : List AV} {l' tail : List Value} {ext : Bool} (h : VRels ρ l l') (hn : l.length ≤ 65536) (he : ext = false → tail = []) :
  ORel ρ (tx t l ext) (some (.cells (l' ++ tail).toArray t)) := by
 unfold tx
 rw [ao]
 have hl := VRels.length l l' h
 refine ⟨_, _, rfl, by simp; omega, fun e => by rw [he e]; simp [hl], by rw [cx]; exact f8 _ hn, ⟨zY _, fun i h1 h2 => by simp at h1 h2⟩, ?_⟩
 intro i hi
 obtain ⟨v, h1, h2⟩ := ot h hn i hi
 refine ⟨v, ?_, h2⟩
 have h1' : l'[i]? = some v := by simpa using h1
 have hlt := (List.getElem?_eq_some_iff.1 h1').1
 simp [List.getElem?_append_left hlt, h1']
theorem ae3 (hw : WRel ρ a w) {t : TypeId} {l : List AV} {arr : Array Value} (h : VRels ρ l arr.toList) : VOK ρ a w (do pure (.pointer (some (← Go.newRow t arr)))) (newRow t l a) := by
 unfold newRow
 rw [aa, ao]
 split
 ·rename_i hn
  have hn := zE hn
  refine ue hw (obj := .cells arr t) (f' := fun c => .pointer (some ⟨c, 0, none⟩)) ?_ ?_ ?_
  ·have := oc (t := t) (tail := []) (ext := false) h hn (fun _ => rfl)
   rw [List.append_nil, Array.toArray_toList] at this
   exact this
  ·intro ρ' k c hk; simp only [aqb, VRel]; exact ⟨c, hk, rfl⟩
  ·simp only [Go.newRow, zR, run_newObj, zQ, zT]; rfl
 ·trivial
theorem cb {v : AV} {v' : Value} (h : VRel ρ v v') (ht : v ≠ .top) : VRels ρ (cellsOf v) v'.cells.toList := by
 cases v <;> first
  | (exact absurd rfl ht)
  | (simp only [VRel] at h; obtain ⟨ys, rfl, h⟩ := h; exact h)
  | (have hc : v'.cells = #[v'] := by
      simp only [VRel] at h
      first
       | (subst h; rfl) | (obtain ⟨_, rfl⟩ := h; rfl) | (obtain ⟨_, _, rfl⟩ := h; rfl) | (obtain ⟨_, _, _, _, _, rfl⟩ := h; rfl) | (obtain ⟨_, _, _, _, _, _, rfl⟩ := h; rfl) | (obtain ⟨_, _, _, _, rfl⟩ := h; rfl) | (obtain ⟨_, _, rfl, _⟩ := h; rfl) | (obtain ⟨_, _, _, rfl, _⟩ := h; rfl) | (obtain ⟨_, rfl, _⟩ := h; rfl) | (rcases SxRel.shape h with ⟨_, rfl⟩ | ⟨_, rfl⟩ <;> rfl) | (rcases GVRel.shape h with ⟨_, rfl⟩ | ⟨_, _, _, rfl⟩ | ⟨_, rfl⟩ <;> rfl)
     rw [hc]; simp only [cellsOf, VRels]; exact ⟨v', [], rfl, h, rfl⟩)
theorem dz {v : AV} (h : ju v = true) : v ≠ .top := by rintro rfl; cases h
theorem a4l (hw : WRel ρ a w) {t : TypeId} {v : AV} {v' : Value} (h : VRel ρ v v') (ht : v ≠ .top) : VOK ρ a w (Instr.box t v') (newRow t (cellsOf v) a) :=
 (ae3 hw (cb h ht)).of_run (by simp [Instr.box, newVar])
theorem dj : ∀ (cells : List AV) (off : Nat) (vs : List AV), off + vs.length ≤ cells.length → (ik cells off vs).length = cells.length
 | cells, 0, vs, h => by simp only [ik, ao, zP, List.length_drop]; omega
 | [], off + 1, vs, h => by simp at h
 | c :: cells, off + 1, vs, h => by simp only [ik, zO]; rw [dj cells off vs (by simp at h; omega)]
theorem xj : ∀ (cells : List AV) (off : Nat) (vs : List AV), off + vs.length ≤ cells.length → ∀ i, (ik cells off vs)[i]? = if off ≤ i ∧ i < off + vs.length then vs[i - off]? else cells[i]?
 | cells, 0, vs, h, i => by
   simp only [ik, ao, List.getElem?_append, List.getElem?_drop, Nat.zero_add, Nat.zero_le, true_and, Nat.sub_zero]
   split
   ·rfl
   ·rw [show vs.length + (i - vs.length) = i by omega]
 | [], off + 1, vs, h, i => by simp at h
 | c :: cells, off + 1, vs, h, i => by
   simp only [ik]
   cases i with
   | zero => rw [if_neg (by omega)]; rfl
   | succ i =>
     rw [List.getElem?_cons_succ, xj cells off vs (by simp at h; omega) i, List.getElem?_cons_succ]
     by_cases hx : off ≤ i ∧ i < off + vs.length
     ·rw [if_pos hx, if_pos (by omega), show i + 1 - (off + 1) = i - off by omega]
     ·rw [if_neg hx, if_neg (by omega)]
theorem asg (off : Nat) (vs : List Value) : ∀ (k : Nat) (cs : Array Value), off + k + vs.length ≤ cs.size →
  ((vs.zipIdx k).foldl (fun (cs : Array Value) (p : Value × Nat) => cs.setIfInBounds (off + p.2) p.1) cs).size = cs.size ∧
  ∀ j, ((vs.zipIdx k).foldl (fun (cs : Array Value) (p : Value × Nat) => cs.setIfInBounds (off + p.2) p.1) cs)[j]? = if off + k ≤ j ∧ j < off + k + vs.length then vs[j - (off + k)]? else cs[j]? := by
 induction vs with
 | nil => intro k cs _; exact ⟨rfl, fun j => by rw [if_neg (by simp only [zS]; omega)]; rfl⟩
 | cons v vs ih =>
   intro k cs h
   simp only [zO] at h
   simp only [List.zipIdx_cons, List.foldl_cons]
   have ⟨i1, i2⟩ := ih (k + 1) (cs.setIfInBounds (off + k) v) (by simp; omega)
   refine ⟨by rw [i1]; simp, fun j => ?_⟩
   rw [i2 j]
   by_cases x : off + (k + 1) ≤ j ∧ j < off + (k + 1) + vs.length
   ·rw [if_pos x, if_pos ⟨by omega, by simp only [zO]; omega⟩]
    have e : j - (off + k) = (j - (off + (k + 1))) + 1 := by omega
    rw [e, List.getElem?_cons_succ]
   ·rw [if_neg x]
    by_cases b : j = off + k
    ·subst b
     rw [if_pos ⟨zY _, by simp only [zO]; omega⟩]
     simp only [Nat.sub_self, List.getElem?_cons_zero]
     rw [Array.getElem?_setIfInBounds_self_of_lt (by omega)]
    ·rw [if_neg (by simp only [zO]; omega)]
     rw [Array.getElem?_setIfInBounds_ne (by omega)]
theorem a3g {cells : List AV} {cs : Array Value} {off : Nat} {vs : List AV} {vs' : Array Value} (h : VRels ρ cells cs.toList) (hv : VRels ρ vs vs'.toList) (hb : off + vs.length ≤ cells.length) :
  VRels ρ (ik cells off vs) (vs'.zipIdx.foldl (fun (cs : Array Value) (p : Value × Nat) => cs.setIfInBounds (off + p.2) p.1) cs).toList := by
 have hl := VRels.length _ _ h
 have hl' := VRels.length _ _ hv
 simp only [Array.length_toList] at hl hl'
 have e : (vs'.zipIdx.foldl (fun (cs : Array Value) (p : Value × Nat) => cs.setIfInBounds (off + p.2) p.1) cs) = ((vs'.toList.zipIdx 0).foldl (fun (cs : Array Value) (p : Value × Nat) => cs.setIfInBounds (off + p.2) p.1) cs) := by
  rw [← Array.foldl_toList, Array.toList_zipIdx]
 rw [e]
 have ⟨f1, f2⟩ := asg off vs'.toList 0 cs (by simp; omega)
 apply VRels.of_get
 ·rw [dj _ _ _ hb, Array.length_toList, f1]; omega
 ·intro i hi
  rw [dj _ _ _ hb] at hi
  have hp := xj cells off vs hb i
  have hq := f2 i
  simp only [Array.length_toList, Nat.add_zero] at hq
  by_cases x : off ≤ i ∧ i < off + vs.length
  ·rw [if_pos x] at hp
   rw [if_pos (by omega)] at hq
   obtain ⟨v, h1, h2⟩ := VRels.get _ _ hv (i - off) (by omega)
   refine ⟨v, by rw [Array.getElem?_toList, hq, h1], ?_⟩
   have : (ik cells off vs)[i]'(by rw [dj _ _ _ hb]; exact hi) = vs[i - off]'(by omega) := by
    rw [zK (by rw [dj _ _ _ hb]; exact hi), zK (by omega)] at hp
    injection hp
   rw [this]; exact h2
  ·rw [if_neg x] at hp
   rw [if_neg (by omega)] at hq
   obtain ⟨v, h1, h2⟩ := VRels.get _ _ h i hi
   refine ⟨v, by rw [Array.getElem?_toList, hq, ← Array.getElem?_toList, h1], ?_⟩
   have : (ik cells off vs)[i]'(by rw [dj _ _ _ hb]; exact hi) = cells[i] := by
    rw [zK (by rw [dj _ _ _ hb]; exact hi), zK hi] at hp
    injection hp
   rw [this]; exact h2
def ady (ρ : Env) : List (Nat × AV) → List (Nat × Value) → Prop
 | [], l => l = []
 | p :: ps, l => ∃ v ls, l = (p.1, v) :: ls ∧ VRel ρ p.2 v ∧ ady ρ ps ls
theorem w5 {place : Nat → Option (Nat × Nat)} : ∀ (ps : List (Nat × AV)) (ps' : List (Nat × Value)) (cells r : List AV) (cs : Array Value), ady ρ ps ps' → VRels ρ cells cs.toList →
  abz place cells ps = some r → ∃ r', Instr.fill place cs ps' = some r' ∧ VRels ρ r r'.toList
 | [], _, cells, r, cs, hp, hc, h => by
   simp only [ady] at hp; subst hp
   simp only [abz] at h; cases h
   exact ⟨cs, rfl, hc⟩
 | (i, v) :: ps, _, cells, r, cs, hp, hc, h => by
   simp only [ady] at hp
   obtain ⟨v', ls, rfl, hv, hps⟩ := hp
   simp only [abz] at h
   cases hpl : place i with
   | none => rw [hpl] at h; cases h
   | some q =>
     obtain ⟨off, size⟩ := q
     rw [hpl] at h
     simp only [aa, ao] at h
     split at h <;> try (cases h; done)
     rename_i h0
     split at h <;> try (cases h; done)
     rename_i h1
     split at h <;> try (cases h; done)
     rename_i h2
     have h1 := zW h1
     have h2 := zE h2
     have hcv := cb hv (dz h0)
     have hl := VRels.length _ _ hcv
     have hl2 := VRels.length _ _ hc
     simp only [Array.length_toList] at hl hl2
     obtain ⟨r', e1, e2⟩ := w5 ps ls _ r _ hps (a3g hc hcv (by omega)) h
     refine ⟨r', ?_, e2⟩
     simp only [Instr.fill, hpl]
     rw [if_neg (by simp; omega)]
     exact e1
end
end Go.Ev
set_option linter.all false
namespace Go.Ev
variable [Gv]
section
variable {ρ : Env} {a : W} {w : World}
theorem zk {t : TypeId} {fs : List Field} (h : fieldsOf t = some fs) : ∃ fa : Array Field, al t = some (.struct fa) ∧ fa.toList = fs := by
 unfold fieldsOf at h
 split at h
 ·rename_i fa hu; cases h; exact ⟨fa, hu, rfl⟩
 ·cases h
theorem adh {t : TypeId} {i off size : Nat} (h : ip t i = some (off, size)) :
  ∃ (fa : Array Field) (f : Field), al t = some (.struct fa) ∧ fa[i]? = some f ∧ f.offset = off ∧ sizeOf f.type = some size := by
 unfold ip at h
 cases hf : fieldsOf t with
 | none => rw [hf] at h; cases h
 | some fs =>
   obtain ⟨fa, hu, rfl⟩ := zk hf
   rw [hf] at h
   simp only [Option.bind_some] at h
   cases hi : fa.toList[i]? with
   | none => rw [hi] at h; cases h
   | some f =>
     rw [hi] at h
     simp only [Option.bind_some, zG] at h
     obtain ⟨s, hs, e⟩ := h
     injection e with e1 e2
     subst e1; subst e2
     exact ⟨fa, f, hu, by simpa using hi, rfl, hs⟩
theorem acw : ∀ (l : List Field) (g : Field → Nat × Nat), (∀ f ∈ l, sizeOf f.type = some (g f).2 ∧ (g f).1 = f.offset) →
  (l.mapM (m := Sem) fun f => do pure (f.offset, ← Go.sizeOf f.type)).run PP w = .ok (l.map g) w
 | [], _, _ => rfl
 | f :: l, g, h => by
   have ⟨h1, h2⟩ := h f (by simp)
   rw [List.mapM_cons]
   simp only [zR, ax h1, zQ, zT, acw l g (fun x hx => h x (by simp [hx])), List.map_cons]
   rw [← h2]
theorem xx {t : TypeId} {fa : Array Field} {i : TypeInfo} {z : Value} {ps : Array (Nat × Value)} {r : Array Value} (hu : al t = some (.struct fa)) (hsz : sp t = true)
  (hi : PP.info? t = some i) (hz : i.zero = some z) (hf : Instr.fill (ip t) z.cells ps.toList = some r) : (Instr.build t ps).run PP w = .ok (.agg r) w := by
 have hfo : fieldsOf t = some fa.toList := by unfold fieldsOf; rw [hu]
 have hs : ∀ f ∈ fa.toList, ∃ n, sizeOf f.type = some n := by
  unfold sp at hsz
  rw [hfo] at hsz
  intro f hm
  exact Option.isSome_iff_exists.1 (List.all_eq_true.1 hsz f hm)
 let g : Field → Nat × Nat := fun f => (f.offset, (sizeOf f.type).getD 0)
 have hg : ∀ f ∈ fa.toList, sizeOf f.type = some (g f).2 ∧ (g f).1 = f.offset := by
  intro f hm
  obtain ⟨n, hn⟩ := hs f hm
  exact ⟨by simp [g, hn], rfl⟩
 have hm := acw (w := w) fa.toList g hg
 have hplace : (fun x => (fa.map g)[x]?) = ip t := by
  funext k
  unfold ip
  rw [hfo]
  simp only [Option.bind_some, Array.getElem?_map, Array.getElem?_toList]
  cases hk : fa[k]? with
  | none => rfl
  | some f =>
    obtain ⟨n, hn⟩ := hs f (by simpa using Array.mem_of_getElem? hk)
    simp [g, hn]
 have hma : (fa.mapM (m := Sem) fun f => do pure (f.offset, ← Go.sizeOf f.type)).run PP w = .ok (fa.map g) w := by
  rw [Array.mapM_eq_mapM_toList, Sem.run_map, hm]
  show Result.ok (fa.toList.map g).toArray w = _
  rw [← Array.toList_map, Array.toArray_toList]
 simp only [Instr.build, zR, de hi hz, zQ, ab hu, hma]
 rw [hplace, hf]
 rfl
theorem arb (hw : WRel ρ a w) {t : TypeId} {ps : List (Nat × AV)} {ps' : Array (Nat × Value)} (hp : ady ρ ps ps'.toList) : VOK ρ a w (Instr.build t ps') (wm t ps a) := by
 unfold wm
 split
 ·rename_i fa z hu hz
  obtain ⟨i, z', hi, hz', rfl⟩ := b9 hz
  simp only [aa]
  split <;> try trivial
  rename_i hsz
  split <;> try trivial
  rename_i hnt
  refine e9 hw fun v hv => ?_
  simp only [zG] at hv
  obtain ⟨r, hr, rfl⟩ := hv
  obtain ⟨r', e1, e2⟩ := w5 ps ps'.toList _ r _ hp (cb (di ρ z') (dz hnt)) hr
  exact ⟨.agg r', xx hu hsz hi hz' e1, by simp only [VRel]; exact ⟨r', rfl, e2⟩⟩
 ·rename_i n e z hu hz
  obtain ⟨i, z', hi, hz', rfl⟩ := b9 hz
  split <;> try trivial
  rename_i s hs
  rw [aa]
  split <;> try trivial
  rename_i hnt
  refine e9 hw fun v hv => ?_
  simp only [zG] at hv
  obtain ⟨r, hr, rfl⟩ := hv
  obtain ⟨r', e1, e2⟩ := w5 ps ps'.toList _ r _ hp (cb (di ρ z') (dz hnt)) hr
  refine ⟨.agg r', ?_, by simp only [VRel]; exact ⟨r', rfl, e2⟩⟩
  simp only [Instr.build, zR, de hi hz', zQ, ab hu, ax hs]
  rw [e1]
  rfl
 ·trivial
theorem il (z : List AV) : ∀ n, (repeatL z n).length = n * z.length
 | 0 => by simp [repeatL]
 | n + 1 => by simp only [repeatL, zP, il z n, Nat.succ_mul]; omega
theorem zv (z : List AV) : ∀ (n i : Nat), i < n * z.length → (repeatL z n)[i]? = z[i % z.length]?
 | 0, i, h => by simp at h
 | n + 1, i, h => by
   simp only [repeatL, List.getElem?_append]
   split
   ·rename_i h1; rw [Nat.mod_eq_of_lt h1]
   ·rename_i h1
    rw [Nat.succ_mul] at h
    rw [zv z n (i - z.length) (by omega), ← Nat.mod_eq_sub_mod (by omega)]
theorem uh {z : List AV} {z' : Array Value} (h : VRels ρ z z'.toList) (n m : Nat) (hm : m = n * z.length) : VRels ρ (repeatL z n) ((Array.range m).map (z'[· % z'.size]!)).toList := by
 have hl := VRels.length _ _ h
 simp only [Array.length_toList] at hl
 subst hm
 apply VRels.of_get
 ·rw [il]; simp
 ·intro i hi
  rw [il] at hi
  have hz : 0 < z.length := by
   rcases Nat.eq_zero_or_pos z.length with e | e
   ·rw [e] at hi; simp at hi
   ·exact e
  have hlt : i % z.length < z.length := Nat.mod_lt _ hz
  obtain ⟨v, h1, h2⟩ := VRels.get _ _ h (i % z.length) hlt
  have hg := zv z n i hi
  rw [zK (by rw [il]; exact hi), zK hlt] at hg
  injection hg with hg
  refine ⟨v, ?_, by rw [hg]; exact h2⟩
  have h1' : z'[i % z.length]? = some v := by simpa using h1
  simp only [Array.toList_map, Array.toList_range, List.getElem?_map]
  rw [List.getElem?_range hi]
  simp only [Option.map_some, hl]
  rw [getElem!_def, h1']
theorem ajh (hw : WRel ρ a w) {e : TypeId} {l : List AV} {arr : Array Value} {len : Nat} (h : VRels ρ l arr.toList) :
  VOK ρ a w (do pure (.slice (some (← Go.newRow e arr)) len len)) (acm e l len a) := by
 unfold acm
 rw [aa, ao]
 split
 ·rename_i hn
  have hn := zE hn
  refine ue hw (obj := .cells arr e) (f' := fun c => .slice (some ⟨c, 0, none⟩) len len) ?_ ?_ ?_
  ·have := oc (t := e) (tail := []) (ext := false) h hn (fun _ => rfl)
   rw [List.append_nil, Array.toArray_toList] at this
   exact this
  ·intro ρ' k c hk; simp only [VRel]; exact ⟨c, len, hk, ⟨zY _, zY _⟩, rfl, rfl⟩
  ·simp only [Go.newRow, zR, run_newObj, zQ, zT]; rfl
 ·trivial
theorem ad0 (hw : WRel ρ a w) {t : TypeId} {len : Nat} {ps : List (Nat × AV)} {ps' : Array (Nat × Value)} (hp : ady ρ ps ps'.toList) :
  VOK ρ a w (Instr.buildSlice t len ps') (kk t len ps a) := by
 unfold kk
 split <;> try trivial
 rename_i e hu
 split <;> try trivial
 rename_i s z hs hz
 obtain ⟨i, z', hi, hz', rfl⟩ := b9 hz
 rw [aa]
 split <;> try trivial
 rename_i hc
 simp only [zU, ao] at hc
 obtain ⟨⟨h1, h2⟩, h3⟩ := hc
 have h2 := zW h2
 have h3 := zE h3
 split <;> try trivial
 rename_i l hl
 have hcz := cb (di ρ z') (dz h1)
 have hlen := VRels.length _ _ hcz
 obtain ⟨r', e1, e2⟩ := w5 ps ps'.toList _ l _ hp (uh hcz len (len * s) (by rw [h2])) hl
 refine (ajh hw e2).of_run ?_
 have hbig : ¬ len * s > 2 ^ 24 := by omega
 simp only [Instr.buildSlice, zR, ab hu, zQ, ax hs, hbig, if_false]
 by_cases h0 : len * s = 0
 ·have hr : ∀ z : Array Value, ((Array.range (len * s)).map (z[· % z.size]!)) = #[] := by intro z; rw [h0]; simp
  rw [hr] at e1
  rw [if_pos h0]
  simp only [zR, zT, zQ]
  rw [hr, e1]
  simp only [zR, zT]
 ·rw [if_neg h0]
  simp only [zR, de hi hz', zQ, zT, e1]
end
end Go.Ev
