import Derived.Test.YtldcnedpfagliaaGreatDoorEvC
set_option linter.all false
namespace Go.Ev
/- Plain facts on the evaluator's data. -/
@[simp] theorem bc_true {α : Type} (t e : α) : bc true t e = t := rfl
@[simp] theorem bc_false {α : Type} (t e : α) : bc false t e = e := rfl
theorem bc_eq {α : Type} (c : Bool) (t e : α) : bc c t e = if c then t else e := by cases c <;> rfl

theorem N.get_set_same {α : Type} (i : I) (x : α) (t : N α) : N.get i (N.set i x t) = x := by cases i <;> rfl
theorem N.get_set_ne {α : Type} {i j : I} (h : i ≠ j) (x : α) (t : N α) : N.get i (N.set j x t) = N.get i t := by
  cases i <;> cases j <;> first | rfl | exact absurd rfl h
theorem N.get_all {α : Type} (i : I) (x : α) : N.get i (N.all x) = x := by cases i <;> rfl

theorem I.num_lt (i : I) : i.num < 16 := by cases i <;> decide
theorem I.num_inj {i j : I} (h : i.num = j.num) : i = j := by cases i <;> cases j <;> first | rfl | cases h
theorem I.of_num (x : Nat) (h : x < 16) : (I.of x).num = x := by
  match x, h with
  | 0, _ | 1, _ | 2, _ | 3, _ | 4, _ | 5, _ | 6, _ | 7, _ | 8, _ | 9, _ | 10, _ | 11, _ | 12, _ | 13, _ | 14, _ | 15, _ => rfl
  | n + 16, h => omega
theorem I.of_inj {x y : Nat} (hx : x < 16) (hy : y < 16) (h : I.of x = I.of y) : x = y := by
  rw [← I.of_num x hx, ← I.of_num y hy, h]
theorem I.next_num {i : I} (h : i.isMax = false) : i.next.num = i.num + 1 := by cases i <;> first | rfl | cases h
theorem I.max_num {i : I} (h : i.isMax = true) : i.num = 15 := by cases i <;> first | rfl | cases h

theorem K.num_mk (a b c d : I) : (K.mk a b c d).num = ((a.num * 16 + b.num) * 16 + c.num) * 16 + d.num := rfl
theorem K.num_inj {k l : K} (h : k.num = l.num) : k = l := by
  obtain ⟨a, b, c, d⟩ := k
  obtain ⟨a', b', c', d'⟩ := l
  simp only [K.num_mk] at h
  have h1 := a.num_lt; have h2 := b.num_lt; have h3 := c.num_lt; have h4 := d.num_lt
  have h1' := a'.num_lt; have h2' := b'.num_lt; have h3' := c'.num_lt; have h4' := d'.num_lt
  rw [I.num_inj (i := a) (j := a') (by omega), I.num_inj (i := b) (j := b') (by omega), I.num_inj (i := c) (j := c') (by omega), I.num_inj (i := d) (j := d') (by omega)]
theorem K.succ_num {k : K} (h : k.isMax = false) : k.succ.num = k.num + 1 := by
  obtain ⟨a, b, c, d⟩ := k
  show (bc d.isMax (bc c.isMax (bc b.isMax (K.mk a.next .i0 .i0 .i0) (.mk a b.next .i0 .i0)) (.mk a b c.next .i0)) (.mk a b c d.next)).num = _
  have h' : bc a.isMax (bc b.isMax (bc c.isMax d.isMax false) false) false = false := h
  cases hd : d.isMax
  · simp only [bc_false, K.num_mk, I.next_num hd]; omega
  · have := I.max_num hd
    cases hc : c.isMax
    · simp only [bc_false, bc_true, K.num_mk, I.next_num hc]; show _ + 0 = _; omega
    · have := I.max_num hc
      cases hb : b.isMax
      · simp only [bc_false, bc_true, K.num_mk, I.next_num hb]; show (_ * 16 + 0) * 16 + 0 = _; omega
      · have := I.max_num hb
        cases ha : a.isMax
        · simp only [bc_true, K.num_mk, I.next_num ha]; show ((_ * 16 + 0) * 16 + 0) * 16 + 0 = _; omega
        · rw [ha, hb, hc, hd] at h'; cases h'
theorem K.beq_iff (k l : K) : K.beq k l = true ↔ k = l := by
  constructor
  · intro h; exact K.num_inj (Nat.eq_of_beq_eq_true h)
  · rintro rfl; exact Nat.beq_refl _

theorem hget_hset_same (k : K) (o : AObj) (h : H4) : hget k (hset k o h) = o := by
  obtain ⟨a, b, c, d⟩ := k
  show N.get d (N.get c (N.get b (N.get a (N.set a (N.set b (N.set c (N.set d o (N.get c (N.get b (N.get a h)))) (N.get b (N.get a h))) (N.get a h)) h)))) = o
  rw [N.get_set_same, N.get_set_same, N.get_set_same, N.get_set_same]
theorem hget_hset_ne {k l : K} (hn : k ≠ l) (o : AObj) (h : H4) : hget k (hset l o h) = hget k h := by
  obtain ⟨a, b, c, d⟩ := k
  obtain ⟨a', b', c', d'⟩ := l
  show N.get d (N.get c (N.get b (N.get a (N.set a' (N.set b' (N.set c' (N.set d' o (N.get c' (N.get b' (N.get a' h)))) (N.get b' (N.get a' h))) (N.get a' h)) h)))) = N.get d (N.get c (N.get b (N.get a h)))
  by_cases ha : a = a'
  · subst ha; rw [N.get_set_same]
    by_cases hb : b = b'
    · subst hb; rw [N.get_set_same]
      by_cases hc : c = c'
      · subst hc; rw [N.get_set_same]
        by_cases hd : d = d'
        · subst hd; exact absurd rfl hn
        · rw [N.get_set_ne hd]
      · rw [N.get_set_ne hc]
    · rw [N.get_set_ne hb]
  · rw [N.get_set_ne ha]
theorem hget_none (k : K) : hget k h4none = .none := by
  obtain ⟨a, b, c, d⟩ := k
  show N.get d (N.get c (N.get b (N.get a h4none))) = _
  unfold h4none
  rw [N.get_all, N.get_all, N.get_all, N.get_all]

/- cells -/
def ccap : Cells → Nat
  | .c0 _ => 16
  | .c1 _ => 256
  | .c2 _ => 4096
  | .c3 _ => 65536
theorem cget0_set (x : C0) (i j : Nat) (v : AV) (hi : i < 16) (hj : j < 16) : cget0 (cset0 x i v) j = if i = j then v else cget0 x j := by
  show N.get (I.of (j % 16)) (N.set (I.of (i % 16)) v x) = if i = j then v else N.get (I.of (j % 16)) x
  by_cases h : i = j
  · subst h; rw [if_pos rfl, N.get_set_same]
  · rw [if_neg h, N.get_set_ne]
    intro e; exact h (by have := I.of_inj (by omega) (by omega) e; omega)
theorem digit_ne {a b : Nat} (ha : a < 16) (hb : b < 16) (h : a ≠ b) : I.of a ≠ I.of b := fun e => h (I.of_inj ha hb e)
theorem cget0_set' (x : C0) (i j : Nat) (v : AV) : cget0 (cset0 x i v) j = if i % 16 = j % 16 then v else cget0 x j := by
  show N.get (I.of (j % 16)) (N.set (I.of (i % 16)) v x) = if i % 16 = j % 16 then v else N.get (I.of (j % 16)) x
  by_cases h : i % 16 = j % 16
  · rw [if_pos h, h, N.get_set_same]
  · rw [if_neg h, N.get_set_ne (digit_ne (by omega) (by omega) (fun e => h e.symm))]
theorem cget1_set' (x : C1) (i j : Nat) (v : AV) : cget1 (cset1 x i v) j = if i % 256 = j % 256 then v else cget1 x j := by
  show cget0 (N.get (I.of (j / 16 % 16)) (N.set (I.of (i / 16 % 16)) (cset0 (N.get (I.of (i / 16 % 16)) x) i v) x)) j = if i % 256 = j % 256 then v else cget0 (N.get (I.of (j / 16 % 16)) x) j
  by_cases h : i / 16 % 16 = j / 16 % 16
  · rw [h, N.get_set_same, cget0_set']
    by_cases h' : i % 16 = j % 16
    · rw [if_pos h', if_pos (by omega)]
    · rw [if_neg h', if_neg (by omega)]
  · rw [if_neg (by omega), N.get_set_ne (digit_ne (by omega) (by omega) (fun e => h e.symm))]
theorem cget2_set' (x : C2) (i j : Nat) (v : AV) : cget2 (cset2 x i v) j = if i % 4096 = j % 4096 then v else cget2 x j := by
  show cget1 (N.get (I.of (j / 256 % 16)) (N.set (I.of (i / 256 % 16)) (cset1 (N.get (I.of (i / 256 % 16)) x) i v) x)) j = if i % 4096 = j % 4096 then v else cget1 (N.get (I.of (j / 256 % 16)) x) j
  by_cases h : i / 256 % 16 = j / 256 % 16
  · rw [h, N.get_set_same, cget1_set']
    by_cases h' : i % 256 = j % 256
    · rw [if_pos h', if_pos (by omega)]
    · rw [if_neg h', if_neg (by omega)]
  · rw [if_neg (by omega), N.get_set_ne (digit_ne (by omega) (by omega) (fun e => h e.symm))]
theorem cget3_set' (x : C3) (i j : Nat) (v : AV) : cget3 (cset3 x i v) j = if i % 65536 = j % 65536 then v else cget3 x j := by
  show cget2 (N.get (I.of (j / 4096 % 16)) (N.set (I.of (i / 4096 % 16)) (cset2 (N.get (I.of (i / 4096 % 16)) x) i v) x)) j = if i % 65536 = j % 65536 then v else cget2 (N.get (I.of (j / 4096 % 16)) x) j
  by_cases h : i / 4096 % 16 = j / 4096 % 16
  · rw [h, N.get_set_same, cget2_set']
    by_cases h' : i % 4096 = j % 4096
    · rw [if_pos h', if_pos (by omega)]
    · rw [if_neg h', if_neg (by omega)]
  · rw [if_neg (by omega), N.get_set_ne (digit_ne (by omega) (by omega) (fun e => h e.symm))]
theorem ccap_cset (c : Cells) (i : Nat) (v : AV) : ccap (cset c i v) = ccap c := by cases c <;> rfl
theorem cget_cset (c : Cells) (i j : Nat) (v : AV) (hi : i < ccap c) (hj : j < ccap c) : cget (cset c i v) j = if i = j then v else cget c j := by
  cases c with
  | c0 x => simp only [ccap] at hi hj; show cget0 (cset0 x i v) j = if i = j then v else cget0 x j; rw [cget0_set', Nat.mod_eq_of_lt hi, Nat.mod_eq_of_lt hj]
  | c1 x => simp only [ccap] at hi hj; show cget1 (cset1 x i v) j = if i = j then v else cget1 x j; rw [cget1_set', Nat.mod_eq_of_lt hi, Nat.mod_eq_of_lt hj]
  | c2 x => simp only [ccap] at hi hj; show cget2 (cset2 x i v) j = if i = j then v else cget2 x j; rw [cget2_set', Nat.mod_eq_of_lt hi, Nat.mod_eq_of_lt hj]
  | c3 x => simp only [ccap] at hi hj; show cget3 (cset3 x i v) j = if i = j then v else cget3 x j; rw [cget3_set', Nat.mod_eq_of_lt hi, Nat.mod_eq_of_lt hj]
theorem cfill_nil (i : Nat) (c : Cells) : cfill [] i c = c := rfl
theorem cfill_cons (v : AV) (l : List AV) (i : Nat) (c : Cells) : cfill (v :: l) i c = cfill l (i + 1) (cset c i v) := rfl
theorem ccap_cfill (l : List AV) : ∀ (i : Nat) (c : Cells), ccap (cfill l i c) = ccap c := by
  induction l with
  | nil => intro i c; rfl
  | cons v l ih => intro i c; rw [cfill_cons, ih, ccap_cset]
theorem cget_cfill (l : List AV) : ∀ (i : Nat) (c : Cells) (j : Nat), i + l.length ≤ ccap c → j < ccap c →
    cget (cfill l i c) j = if h : i ≤ j ∧ j - i < l.length then l[j - i]'h.2 else cget c j := by
  induction l with
  | nil => intro i c j _ _; simp [cfill_nil]
  | cons v l ih =>
    intro i c j h1 h2
    simp only [List.length_cons] at h1
    rw [cfill_cons, ih (i + 1) (cset c i v) j (by rw [ccap_cset]; omega) (by rw [ccap_cset]; omega), cget_cset c i j v (by omega) h2]
    by_cases ha : i + 1 ≤ j ∧ j - (i + 1) < l.length
    · rw [dif_pos ha, dif_pos ⟨by omega, by simp; omega⟩]
      have e : j - i = (j - (i + 1)) + 1 := by omega
      simp only [e, List.getElem_cons_succ]
    · rw [dif_neg ha]
      by_cases hb : i = j
      · subst hb; rw [if_pos rfl, dif_pos ⟨Nat.le_refl _, by simp⟩]; simp
      · rw [if_neg hb, dif_neg (by simp; omega)]
theorem ccap_cempty (n : Nat) (h : n ≤ 65536) : n ≤ ccap (cempty n) := by
  unfold cempty
  simp only [bc_eq]
  split
  · rename_i h1; exact Nat.le_of_ble_eq_true h1
  · split
    · rename_i h1; exact Nat.le_of_ble_eq_true h1
    · split
      · rename_i h1; exact Nat.le_of_ble_eq_true h1
      · exact h
theorem llen_eq {α : Type} (l : List α) : llen l = l.length := by
  induction l with
  | nil => rfl
  | cons x l ih => show Nat.succ (llen l) = _; rw [ih]; rfl
theorem clist_eq (c : Cells) (n : Nat) : ∀ i, clist c n i = (List.range n).map fun j => cget c (i + j) := by
  induction n with
  | zero => intro i; rfl
  | succ n ih =>
    intro i
    show cget c i :: clist c n (i + 1) = _
    rw [ih, List.range_succ_eq_map]
    simp only [List.map_cons, List.map_map, Nat.add_zero, List.cons.injEq, true_and]
    apply List.map_congr_left
    intro j _
    show cget c (i + 1 + j) = cget c (i + (j + 1))
    rw [show i + 1 + j = i + (j + 1) by omega]
theorem cup_cap (c : Cells) (n : Nat) (h : n ≤ 65536) : n ≤ ccap (cup c n) ∧ ccap c ≤ ccap (cup c n) := by
  cases c with
  | c0 x =>
    show n ≤ ccap (up0 x n) ∧ 16 ≤ ccap (up0 x n)
    unfold up0
    simp only [bc_eq]
    repeat' split
    all_goals (simp only [ccap]; rename_i h1; first | (have := Nat.le_of_ble_eq_true h1; omega) | omega)
  | c1 x =>
    show n ≤ ccap (up1 x n) ∧ 256 ≤ ccap (up1 x n)
    unfold up1
    simp only [bc_eq]
    repeat' split
    all_goals (simp only [ccap]; rename_i h1; first | (have := Nat.le_of_ble_eq_true h1; omega) | omega)
  | c2 x =>
    show n ≤ ccap (up2 x n) ∧ 4096 ≤ ccap (up2 x n)
    unfold up2
    simp only [bc_eq]
    repeat' split
    all_goals (simp only [ccap]; rename_i h1; first | (have := Nat.le_of_ble_eq_true h1; omega) | omega)
  | c3 x => exact ⟨h, Nat.le_refl _⟩
theorem cget1_up (x : C0) (j : Nat) (h : j < 16) : cget1 (N.set .i0 x c1none) j = cget0 x j := by
  show cget0 (N.get (I.of (j / 16 % 16)) (N.set .i0 x c1none)) j = _
  rw [show j / 16 % 16 = 0 by omega]; rfl
theorem cget2_up (x : C1) (j : Nat) (h : j < 256) : cget2 (N.set .i0 x c2none) j = cget1 x j := by
  show cget1 (N.get (I.of (j / 256 % 16)) (N.set .i0 x c2none)) j = _
  rw [show j / 256 % 16 = 0 by omega]; rfl
theorem cget3_up (x : C2) (j : Nat) (h : j < 4096) : cget3 (N.set .i0 x c3none) j = cget2 x j := by
  show cget2 (N.get (I.of (j / 4096 % 16)) (N.set .i0 x c3none)) j = _
  rw [show j / 4096 % 16 = 0 by omega]; rfl
theorem cget_cup (c : Cells) (n j : Nat) (h : j < ccap c) : cget (cup c n) j = cget c j := by
  cases c with
  | c0 x =>
    simp only [ccap] at h
    show cget (up0 x n) j = cget0 x j
    unfold up0
    simp only [bc_eq]
    split
    · rfl
    · split
      · exact cget1_up x j h
      · split
        · exact (cget2_up _ j (by omega)).trans (cget1_up x j h)
        · exact ((cget3_up _ j (by omega)).trans (cget2_up _ j (by omega))).trans (cget1_up x j h)
  | c1 x =>
    simp only [ccap] at h
    show cget (up1 x n) j = cget1 x j
    unfold up1
    simp only [bc_eq]
    split
    · rfl
    · split
      · exact cget2_up _ j h
      · exact (cget3_up _ j (by omega)).trans (cget2_up _ j h)
  | c2 x =>
    simp only [ccap] at h
    show cget (up2 x n) j = cget2 x j
    unfold up2
    simp only [bc_eq]
    split
    · rfl
    · exact cget3_up _ j h
  | c3 x => rfl

/- frames -/
theorem f2_set (i j i' j' : I) (v : AV) (t : F2) : f2get i' j' (f2set i j v t) = if i = i' ∧ j = j' then v else f2get i' j' t := by
  show N.get j' (N.get i' (N.set i (N.set j v (N.get i t)) t)) = if i = i' ∧ j = j' then v else N.get j' (N.get i' t)
  by_cases hi : i = i'
  · subst hi; rw [N.get_set_same]
    by_cases hj : j = j'
    · subst hj; rw [N.get_set_same]; simp
    · rw [N.get_set_ne (fun e => hj e.symm)]; simp [hj]
  · rw [N.get_set_ne (fun e => hi e.symm)]; simp [hi]
theorem fget_lo {t : Nat} (h : t < 256) (lo hi : F2) : fget t (.mk lo hi) = f2get (I.of (t / 16)) (I.of (t % 16)) lo := by
  unfold fget; rw [show Nat.ble t 255 = true from Nat.ble_eq_true_of_le (by omega)]; rfl
theorem fget_hi {t : Nat} (h : ¬ t < 256) (h' : t < 512) (lo hi : F2) : fget t (.mk lo hi) = f2get (I.of (t / 16 - 16)) (I.of (t % 16)) hi := by
  unfold fget
  rw [show Nat.ble t 255 = false from by rw [Bool.eq_false_iff]; intro e; have := Nat.le_of_ble_eq_true e; omega, show Nat.ble t 511 = true from Nat.ble_eq_true_of_le (by omega)]; rfl
theorem fget_far {t : Nat} (h : 512 ≤ t) (τ : F) : fget t τ = .top := by
  unfold fget
  rw [show Nat.ble t 255 = false from by rw [Bool.eq_false_iff]; intro e; have := Nat.le_of_ble_eq_true e; omega, show Nat.ble t 511 = false from by rw [Bool.eq_false_iff]; intro e; have := Nat.le_of_ble_eq_true e; omega]; rfl
theorem fset_lo {t : Nat} (h : t < 256) (v : AV) (lo hi : F2) : fset t v (.mk lo hi) = .mk (f2set (I.of (t / 16)) (I.of (t % 16)) v lo) hi := by
  unfold fset; rw [show Nat.ble t 255 = true from Nat.ble_eq_true_of_le (by omega)]; rfl
theorem fset_hi {t : Nat} (h : ¬ t < 256) (v : AV) (lo hi : F2) : fset t v (.mk lo hi) = .mk lo (f2set (I.of (t / 16 - 16)) (I.of (t % 16)) v hi) := by
  unfold fset
  rw [show Nat.ble t 255 = false from by rw [Bool.eq_false_iff]; intro e; have := Nat.le_of_ble_eq_true e; omega]; rfl
theorem of2 {a b : Nat} (ha : a < 256) (hb : b < 256) : (I.of (a / 16) = I.of (b / 16) ∧ I.of (a % 16) = I.of (b % 16)) ↔ a = b := by
  constructor
  · rintro ⟨h1, h2⟩
    have := I.of_inj (by omega) (by omega) h1
    have := I.of_inj (by omega) (by omega) h2
    omega
  · rintro rfl; exact ⟨rfl, rfl⟩
theorem of2' {a b : Nat} (ha : a < 512) (hb : b < 512) (ha' : 256 ≤ a) (hb' : 256 ≤ b) : (I.of (a / 16 - 16) = I.of (b / 16 - 16) ∧ I.of (a % 16) = I.of (b % 16)) ↔ a = b := by
  constructor
  · rintro ⟨h1, h2⟩
    have := I.of_inj (by omega) (by omega) h1
    have := I.of_inj (by omega) (by omega) h2
    omega
  · rintro rfl; exact ⟨rfl, rfl⟩
theorem fget_fset (t t' : Nat) (v : AV) (τ : F) (h : t < 512) (h' : t' < 512) : fget t' (fset t v τ) = if t = t' then v else fget t' τ := by
  obtain ⟨lo, hi⟩ := τ
  by_cases a : t < 256
  · rw [fset_lo a]
    by_cases b : t' < 256
    · rw [fget_lo b, fget_lo b, f2_set]; simp only [of2 a b]
    · rw [fget_hi b h', fget_hi b h', if_neg (by omega)]
  · rw [fset_hi a]
    by_cases b : t' < 256
    · rw [fget_lo b, fget_lo b, if_neg (by omega)]
    · rw [fget_hi b h', fget_hi b h', f2_set]; simp only [of2' h h' (by omega) (by omega)]
theorem fget_none (t : Nat) (h : t < 512) : fget t fnone = undefA := by
  have e : ∀ i j, f2get i j f2none = undefA := by intro i j; show N.get j (N.get i f2none) = _; unfold f2none; rw [N.get_all, N.get_all]
  unfold fnone
  by_cases a : t < 256
  · rw [fget_lo a, e]
  · rw [fget_hi a h, e]
end Go.Ev
