import Derived.Test.YtkfdioikigponaaGreatDoorEvDa
import Derived.Orders
set_option linter.all false
namespace Go.Ev
/- The order of a region: what is surely run before what; what the checks say. -/
section
variable {ops : Array Oper}
def Closed (ops : Array Oper) (L : Nat → Bool) : Prop := ∀ j o, ops[j]? = some o → L j = true → ∀ e ∈ o.after, Region.binds .any e = true → L e.on = true
theorem emask_bit : ∀ (es : List Edge) (acc : List Nat) (s i : Nat), Nat.testBit (emask es acc s) i = true → Nat.testBit s i = true ∨ ∃ e ∈ es, Region.binds .any e = true ∧ (i = e.on ∨ ∃ m, acc[e.on]? = some m ∧ Nat.testBit m i = true)
  | [], _, _, _, h => .inl h
  | e :: es, acc, s, i, h => by
    simp only [emask] at h
    rcases emask_bit es acc _ i h with h | ⟨e', h1, h2, h3⟩
    · rw [bc_eq] at h
      split at h
      · rename_i hb
        have h : ((s ||| 2 ^ e.on) ||| (nth acc e.on).getD 0).testBit i = true := h
        rw [Nat.testBit_or, Nat.testBit_or] at h
        simp only [Bool.or_eq_true] at h
        rcases h with (h | h) | h
        · exact .inl h
        · right
          refine ⟨e, by simp, hb, .inl ?_⟩
          rw [Nat.testBit_two_pow] at h
          simpa using (of_decide_eq_true h).symm
        · right
          rw [nth_eq] at h
          cases hm : acc[e.on]? with
          | none => rw [hm] at h; simp at h
          | some m => rw [hm] at h; exact ⟨e, by simp, hb, .inr ⟨m, hm, h⟩⟩
      · exact .inl h
    · exact .inr ⟨e', by simp [h1], h2, h3⟩
theorem bmGo_bit {L : Nat → Bool} (hc : Closed ops L) : ∀ (l : List Oper) (acc : List Nat), ops.toList.drop acc.length = l →
    (∀ j m, acc[j]? = some m → ∀ i, Nat.testBit m i = true → L j = true → L i = true) → ∀ j m, (bmGo l acc)[j]? = some m → ∀ i, Nat.testBit m i = true → L j = true → L i = true
  | [], acc, _, h => h
  | o :: l, acc, hl, h => by
    have ho : ops[acc.length]? = some o := by
      have := congrArg (·[0]?) hl
      simpa using this
    refine bmGo_bit hc l _ ?_ ?_
    · have := congrArg List.tail hl
      simpa using this
    · intro j m hj i hi hL
      by_cases e : j < acc.length
      · rw [List.getElem?_append_left e] at hj
        exact h j m hj i hi hL
      · rw [List.getElem?_append_right (by omega)] at hj
        have hj0 : j - acc.length = 0 := by
          rcases Nat.eq_zero_or_pos (j - acc.length) with h0 | h0
          · exact h0
          · rw [List.getElem?_eq_none (by simp; omega)] at hj; cases hj
        have hje : j = acc.length := by omega
        subst hje
        simp at hj
        subst hj
        rcases emask_bit _ _ _ _ hi with h0 | ⟨e, h1, h2, h3⟩
        · simp at h0
        · have hle := hc _ o ho hL e (by simpa using h1) h2
          rcases h3 with h3 | ⟨m, h3, h4⟩
          · rw [h3]; exact hle
          · exact h _ _ h3 i h4 hle
theorem isBef_closed {L : Nat → Bool} (hc : Closed ops L) {i j : Nat} (h : isBef ops i j = true) (hj : L j = true) : L i = true := by
  unfold isBef bmask at h
  rw [nth_eq] at h
  cases hm : (bmGo ops.toList [])[j]? with
  | none => rw [hm] at h; simp at h
  | some m =>
    rw [hm] at h
    exact bmGo_bit hc ops.toList [] (by simp) (by intro j m h; simp at h) j m hm i h hj
theorem allN_iff {p : Nat → Bool} : ∀ n, allN p n = true ↔ ∀ i, i < n → p i = true
  | 0 => ⟨fun _ i h => by omega, fun _ => rfl⟩
  | n + 1 => by
    simp only [allN, bc_eq]
    constructor
    · intro h i hi
      split at h
      · rename_i hp
        rcases Nat.lt_or_ge i n with h1 | h1
        · exact (allN_iff n).1 h i h1
        · have : i = n := by omega
          rw [this]; exact hp
      · cases h
    · intro h
      rw [if_pos (h n (by omega))]
      exact (allN_iff n).2 fun i hi => h i (by omega)
theorem opsLen_eq (ops : Array Oper) : opsLen ops = ops.size := by unfold opsLen; rw [llen_eq]; simp
theorem nth_ops (ops : Array Oper) (j : Nat) : nth ops.toList j = ops[j]? := by rw [nth_eq]; simp
theorem clsAt_eq {j : Nat} {o : Oper} (h : ops[j]? = some o) : clsAt ops j = cls o.op := by unfold clsAt; rw [nth_ops, h]
theorem hasB_iff (d : Nat) : ∀ l, hasB d l = true ↔ d ∈ l
  | [] => by simp [hasB]
  | x :: l => by
    simp only [hasB, bc_eq, List.mem_cons]
    split
    · rename_i h; rw [Nat.eq_of_beq_eq_true h]; simp
    · rename_i h
      rw [hasB_iff d l]
      constructor
      · exact .inr
      · rintro (h' | h')
        · subst h'; exact absurd (Nat.beq_refl _) h
        · exact h'
theorem tmpsOf_mem {t : Nat} : ∀ {l : List Operand}, .tmp t ∈ l → t ∈ tmpsOf l
  | x :: l, h => by
    rcases List.mem_cons.1 h with h | h
    · subst h; simp [tmpsOf]
    · have := tmpsOf_mem h
      cases x <;> simp [tmpsOf, this]
theorem lt_of_blt {i j : Nat} (h : Nat.blt i j = true) : i < j := Nat.le_of_ble_eq_true h
theorem blt_of_lt {i j : Nat} (h : i < j) : Nat.blt i j = true := Nat.ble_eq_true_of_le h
theorem bc_and {x y : Bool} : bc x y false = true ↔ x = true ∧ y = true := by cases x <;> cases y <;> simp [bc_eq]
theorem bc_imp {x y : Bool} : bc x y true = true ↔ (x = true → y = true) := by cases x <;> cases y <;> simp [bc_eq]
structure Drawn (ops : Array Oper) : Prop where
  edge : ∀ j o, ops[j]? = some o → ∀ e ∈ o.after, Region.binds .any e = true → e.on < j
  tmp : ∀ i j oi oj d, i ≠ j → ops[i]? = some oi → ops[j]? = some oj → oi.dst = some d → d ∈ looksA ops.toList oj → (i < j → isBef ops i j = true) ∧ (j < i → isBef ops j i = true)
  eff : ∀ i j oi oj, i < j → ops[i]? = some oi → ops[j]? = some oj → cls oi.op = .ef → cls oj.op = .ef → isBef ops i j = true
theorem edgesOk_spec {j : Nat} : ∀ {l : List Edge}, edgesOk j l = true → ∀ e ∈ l, Region.binds .any e = true → e.on < j
  | e :: l, h, x, hx, hb => by
    simp only [edgesOk] at h
    obtain ⟨h1, h2⟩ := bc_and.1 h
    rcases List.mem_cons.1 hx with e' | e'
    · subst e'; exact lt_of_blt (bc_imp.1 h1 hb)
    · exact edgesOk_spec h2 x e' hb
theorem drawOk_spec (h : drawOk ops = true) : Drawn ops := by
  unfold drawOk at h
  rw [allN_iff, opsLen_eq] at h
  have hop : ∀ j o, ops[j]? = some o → edgesOk j o.after.toList = true ∧ ∀ i, i < ops.size → i ≠ j → pairOk ops i j = true := by
    intro j o ho
    have hj := (Array.getElem?_eq_some_iff.1 ho).1
    have := h j hj
    unfold opOk at this
    rw [nth_ops, ho] at this
    simp only [bc_eq] at this
    split at this
    · rename_i he
      refine ⟨he, fun i hi hne => ?_⟩
      rw [allN_iff, opsLen_eq] at this
      have := this i hi
      rw [if_neg (fun e => hne (Nat.eq_of_beq_eq_true e))] at this
      exact this
    · cases this
  have hpair : ∀ i j oi oj, i ≠ j → ops[i]? = some oi → ops[j]? = some oj →
      ((match oi.dst with | some d => hasB d (looksA ops.toList oj) | none => false) = true → (bc (Nat.blt i j) (isBef ops i j) (isBef ops j i)) = true) ∧
      (bc (Nat.blt i j) (bc (isEf (cls oi.op)) (isEf (cls oj.op)) false) false = true → isBef ops i j = true) := by
    intro i j oi oj hne hi hj
    have := (hop j oj hj).2 i (Array.getElem?_eq_some_iff.1 hi).1 hne
    unfold pairOk at this
    rw [nth_ops, nth_ops, hi, hj] at this
    dsimp only at this
    obtain ⟨h1, h2⟩ := bc_and.1 this
    exact ⟨bc_imp.1 h1, bc_imp.1 h2⟩
  refine ⟨fun j o ho e he hb => edgesOk_spec (hop j o ho).1 e (by simpa using he) hb, ?_, ?_⟩
  · intro i j oi oj d hne hi hj hd hl
    have := (hpair i j oi oj hne hi hj).1 (by rw [hd]; exact (hasB_iff _ _).2 hl)
    constructor
    · intro h1; rw [blt_of_lt h1] at this; exact this
    · intro h1
      rw [bc_eq, if_neg (fun e => by have := lt_of_blt e; omega)] at this
      exact this
  · intro i j oi oj hlt hi hj h1 h2
    refine (hpair i j oi oj (by omega) hi hj).2 ?_
    rw [blt_of_lt hlt, h1, h2]; rfl
/- how many are left -/
def un (L : Nat → Bool) : Nat → Nat
  | 0 => 0
  | n + 1 => un L n + bif L n then 0 else 1
theorem un_zero {L : Nat → Bool} : ∀ n, un L n = 0 → ∀ i, i < n → L i = true
  | n + 1, h, i, hi => by
    simp only [un] at h
    rcases Nat.lt_or_ge i n with h1 | h1
    · exact un_zero n (by omega) i h1
    · have : i = n := by omega
      subst this
      cases hL : L i with
      | true => rfl
      | false => rw [hL] at h; simp at h
theorem un_all {L : Nat → Bool} : ∀ n, (∀ i, i < n → L i = true) → un L n = 0
  | 0, _ => rfl
  | n + 1, h => by simp only [un, un_all n fun i hi => h i (by omega), h n (by omega), cond_true]
theorem un_congr {L L' : Nat → Bool} : ∀ n, (∀ i, i < n → L i = L' i) → un L n = un L' n
  | 0, _ => rfl
  | n + 1, h => by simp only [un, un_congr n fun i hi => h i (by omega), h n (by omega)]
def upL (L : Nat → Bool) (j : Nat) : Nat → Bool := fun i => if i = j then true else L i
theorem upL_same (L : Nat → Bool) (j : Nat) : upL L j j = true := by simp [upL]
theorem upL_ne (L : Nat → Bool) {i j : Nat} (h : i ≠ j) : upL L j i = L i := by simp [upL, h]
theorem un_up {L : Nat → Bool} {j : Nat} (hj : L j = false) : ∀ n, j < n → un L n = un (upL L j) n + 1
  | n + 1, h => by
    simp only [un]
    rcases Nat.lt_or_ge j n with h1 | h1
    · rw [un_up hj n h1, upL_ne L (by omega)]; omega
    · have : j = n := by omega
      subst this
      rw [upL_same, hj, un_congr (L' := L) j (fun i hi => upL_ne L (by omega))]
      simp
/-- what the machine's table of the operations done says -/
def ofArr (listed : Array Bool) : Nat → Bool := fun i => listed.getD i false
theorem ofArr_set {listed : Array Bool} {j : Nat} (h : j < listed.size) : ofArr (listed.setIfInBounds j true) = upL (ofArr listed) j := by
  funext i
  simp only [ofArr, upL, Array.getD_eq_getD_getElem?, Array.getElem?_setIfInBounds]
  by_cases e : i = j
  · subst e; simp [h]
  · rw [if_neg (Ne.symm e), if_neg e]
theorem ready_spec {listed : Array Bool} (hs : listed.size = ops.size) {j : Nat} (h : j ∈ Region.ready .any ops listed) :
    ofArr listed j = false ∧ ∃ o, ops[j]? = some o ∧ ∀ e ∈ o.after, Region.binds .any e = true → ofArr listed e.on = true := by
  obtain ⟨h1, o, ho, h2⟩ := mem_ready.1 h
  have hj := (Array.getElem?_eq_some_iff.1 ho).1
  refine ⟨?_, o, ho, h2⟩
  unfold ofArr
  rw [Array.getD_eq_getD_getElem?] at h1 ⊢
  rw [Array.getElem?_eq_getElem (by omega)] at h1 ⊢
  exact h1
theorem ready_nil (hd : Drawn ops) {listed : Array Bool} (hs : listed.size = ops.size) (h : Region.ready .any ops listed = []) : ∀ j, j < ops.size → ofArr listed j = true := by
  intro j
  induction j using Nat.strongRecOn with
  | _ j ih =>
    intro hj
    cases hL : ofArr listed j with
    | true => rfl
    | false =>
      exfalso
      have : j ∈ Region.ready .any ops listed := by
        refine mem_ready.2 ⟨?_, ops[j], Array.getElem?_eq_getElem hj, fun e he hb => ?_⟩
        · unfold ofArr at hL
          rw [Array.getD_eq_getD_getElem?] at hL ⊢
          rw [Array.getElem?_eq_getElem (by omega)] at hL ⊢
          exact hL
        · have hlt := hd.edge j ops[j] (Array.getElem?_eq_getElem hj) e he hb
          exact ih e.on hlt (by omega)
      rw [h] at this
      cases this
end
end Go.Ev
