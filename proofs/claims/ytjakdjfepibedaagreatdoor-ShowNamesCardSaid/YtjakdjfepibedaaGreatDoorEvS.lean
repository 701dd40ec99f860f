import Derived.Test.YtjakdjfepibedaaGreatDoorEvC
import Derived.Below
set_option linter.all false
namespace Go.Ev
/- Plain facts on the evaluator's data. -/
@[simp] theorem bc_true {α : Type} (t e : α) : bc true t e = t := rfl
@[simp] theorem bc_false {α : Type} (t e : α) : bc false t e = e := rfl
theorem bc_eq {α : Type} (c : Bool) (t e : α) : bc c t e = if c then t else e := by cases c <;> rfl

theorem N.get_set_same {α : Type} (i : I) (x : α) (t : N α) : N.get i (N.set i x t) = x := by cases i <;> rfl
theorem N.get_set_ne {α : Type} {i j : I} (h : i ≠ j) (x : α) (t : N α) : N.get i (N.set j x t) = N.get i t := by
  cases i <;> cases j <;> first | rfl | exact absurd rfl h
theorem N.get_all {α : Type} (i : I) (x : α) : N.get i (N.all x) = x := by cases i <;> rfl

theorem I.num_lt (i : I) : i.num < 16 := by cases i <;> decide
theorem I.num_inj {i j : I} (h : i.num = j.num) : i = j := by cases i <;> cases j <;> first | rfl | cases h
theorem I.of_num (x : Nat) (h : x < 16) : (I.of x).num = x := by
  match x, h with
  | 0, _ | 1, _ | 2, _ | 3, _ | 4, _ | 5, _ | 6, _ | 7, _ | 8, _ | 9, _ | 10, _ | 11, _ | 12, _ | 13, _ | 14, _ | 15, _ => rfl
  | n + 16, h => omega
theorem I.of_inj {x y : Nat} (hx : x < 16) (hy : y < 16) (h : I.of x = I.of y) : x = y := by
  rw [← I.of_num x hx, ← I.of_num y hy, h]
theorem I.next_num {i : I} (h : i.isMax = false) : i.next.num = i.num + 1 := by cases i <;> first | rfl | cases h
theorem I.max_num {i : I} (h : i.isMax = true) : i.num = 15 := by cases i <;> first | rfl | cases h

theorem K.num_mk (a b c d : I) : (K.mk a b c d).num = ((a.num * 16 + b.num) * 16 + c.num) * 16 + d.num := rfl
theorem K.num_inj {k l : K} (h : k.num = l.num) : k = l := by
  obtain ⟨a, b, c, d⟩ := k
  obtain ⟨a', b', c', d'⟩ := l
  simp only [K.num_mk] at h
  have h1 := a.num_lt; have h2 := b.num_lt; have h3 := c.num_lt; have h4 := d.num_lt
  have h1' := a'.num_lt; have h2' := b'.num_lt; have h3' := c'.num_lt; have h4' := d'.num_lt
  rw [I.num_inj (i := a) (j := a') (by omega), I.num_inj (i := b) (j := b') (by omega), I.num_inj (i := c) (j := c') (by omega), I.num_inj (i := d) (j := d') (by omega)]
theorem K.succ_num {k : K} (h : k.isMax = false) : k.succ.num = k.num + 1 := by
  obtain ⟨a, b, c, d⟩ := k
  show (bc d.isMax (bc c.isMax (bc b.isMax (K.mk a.next .i0 .i0 .i0) (.mk a b.next .i0 .i0)) (.mk a b c.next .i0)) (.mk a b c d.next)).num = _
  have h' : bc a.isMax (bc b.isMax (bc c.isMax d.isMax false) false) false = false := h
  cases hd : d.isMax
  · simp only [bc_false, K.num_mk, I.next_num hd]; omega
  · have := I.max_num hd
    cases hc : c.isMax
    · simp only [bc_false, bc_true, K.num_mk, I.next_num hc]; show _ + 0 = _; omega
    · have := I.max_num hc
      cases hb : b.isMax
      · simp only [bc_false, bc_true, K.num_mk, I.next_num hb]; show (_ * 16 + 0) * 16 + 0 = _; omega
      · have := I.max_num hb
        cases ha : a.isMax
        · simp only [bc_true, K.num_mk, I.next_num ha]; show ((_ * 16 + 0) * 16 + 0) * 16 + 0 = _; omega
        · rw [ha, hb, hc, hd] at h'; cases h'
theorem K.beq_iff (k l : K) : K.beq k l = true ↔ k = l := by
  constructor
  · intro h; exact K.num_inj (Nat.eq_of_beq_eq_true h)
  · rintro rfl; exact Nat.beq_refl _

theorem hget_hset_same (k : K) (o : AObj) (h : H4) : hget k (hset k o h) = o := by
  obtain ⟨a, b, c, d⟩ := k
  show N.get d (N.get c (N.get b (N.get a (N.set a (N.set b (N.set c (N.set d o (N.get c (N.get b (N.get a h)))) (N.get b (N.get a h))) (N.get a h)) h)))) = o
  rw [N.get_set_same, N.get_set_same, N.get_set_same, N.get_set_same]
theorem hget_hset_ne {k l : K} (hn : k ≠ l) (o : AObj) (h : H4) : hget k (hset l o h) = hget k h := by
  obtain ⟨a, b, c, d⟩ := k
  obtain ⟨a', b', c', d'⟩ := l
  show N.get d (N.get c (N.get b (N.get a (N.set a' (N.set b' (N.set c' (N.set d' o (N.get c' (N.get b' (N.get a' h)))) (N.get b' (N.get a' h))) (N.get a' h)) h)))) = N.get d (N.get c (N.get b (N.get a h)))
  by_cases ha : a = a'
  · subst ha; rw [N.get_set_same]
    by_cases hb : b = b'
    · subst hb; rw [N.get_set_same]
      by_cases hc : c = c'
      · subst hc; rw [N.get_set_same]
        by_cases hd : d = d'
        · subst hd; exact absurd rfl hn
        · rw [N.get_set_ne hd]
      · rw [N.get_set_ne hc]
    · rw [N.get_set_ne hb]
  · rw [N.get_set_ne ha]
theorem hget_none (k : K) : hget k h4none = .none := by
  obtain ⟨a, b, c, d⟩ := k
  show N.get d (N.get c (N.get b (N.get a h4none))) = _
  unfold h4none
  rw [N.get_all, N.get_all, N.get_all, N.get_all]

/- cells -/
def ccap : Cells → Nat
  | .c0 _ => 16
  | .c1 _ => 256
  | .c2 _ => 4096
  | .c3 _ => 65536
theorem cget0_set (x : C0) (i j : Nat) (v : AV) (hi : i < 16) (hj : j < 16) : cget0 (cset0 x i v) j = if i = j then v else cget0 x j := by
  show N.get (I.of (j % 16)) (N.set (I.of (i % 16)) v x) = if i = j then v else N.get (I.of (j % 16)) x
  by_cases h : i = j
  · subst h; rw [if_pos rfl, N.get_set_same]
  · rw [if_neg h, N.get_set_ne]
    intro e; exact h (by have := I.of_inj (by omega) (by omega) e; omega)
theorem digit_ne {a b : Nat} (ha : a < 16) (hb : b < 16) (h : a ≠ b) : I.of a ≠ I.of b := fun e => h (I.of_inj ha hb e)
theorem cget0_set' (x : C0) (i j : Nat) (v : AV) : cget0 (cset0 x i v) j = if i % 16 = j % 16 then v else cget0 x j := by
  show N.get (I.of (j % 16)) (N.set (I.of (i % 16)) v x) = if i % 16 = j % 16 then v else N.get (I.of (j % 16)) x
  by_cases h : i % 16 = j % 16
  · rw [if_pos h, h, N.get_set_same]
  · rw [if_neg h, N.get_set_ne (digit_ne (by omega) (by omega) (fun e => h e.symm))]
theorem cget1_set' (x : C1) (i j : Nat) (v : AV) : cget1 (cset1 x i v) j = if i % 256 = j % 256 then v else cget1 x j := by
  show cget0 (N.get (I.of (j / 16 % 16)) (N.set (I.of (i / 16 % 16)) (cset0 (N.get (I.of (i / 16 % 16)) x) i v) x)) j = if i % 256 = j % 256 then v else cget0 (N.get (I.of (j / 16 % 16)) x) j
  by_cases h : i / 16 % 16 = j / 16 % 16
  · rw [h, N.get_set_same, cget0_set']
    by_cases h' : i % 16 = j % 16
    · rw [if_pos h', if_pos (by omega)]
    · rw [if_neg h', if_neg (by omega)]
  · rw [if_neg (by omega), N.get_set_ne (digit_ne (by omega) (by omega) (fun e => h e.symm))]
theorem cget2_set' (x : C2) (i j : Nat) (v : AV) : cget2 (cset2 x i v) j = if i % 4096 = j % 4096 then v else cget2 x j := by
  show cget1 (N.get (I.of (j / 256 % 16)) (N.set (I.of (i / 256 % 16)) (cset1 (N.get (I.of (i / 256 % 16)) x) i v) x)) j = if i % 4096 = j % 4096 then v else cget1 (N.get (I.of (j / 256 % 16)) x) j
  by_cases h : i / 256 % 16 = j / 256 % 16
  · rw [h, N.get_set_same, cget1_set']
    by_cases h' : i % 256 = j % 256
    · rw [if_pos h', if_pos (by omega)]
    · rw [if_neg h', if_neg (by omega)]
  · rw [if_neg (by omega), N.get_set_ne (digit_ne (by omega) (by omega) (fun e => h e.symm))]
theorem cget3_set' (x : C3) (i j : Nat) (v : AV) : cget3 (cset3 x i v) j = if i % 65536 = j % 65536 then v else cget3 x j := by
  show cget2 (N.get (I.of (j / 4096 % 16)) (N.set (I.of (i / 4096 % 16)) (cset2 (N.get (I.of (i / 4096 % 16)) x) i v) x)) j = if i % 65536 = j % 65536 then v else cget2 (N.get (I.of (j / 4096 % 16)) x) j
  by_cases h : i / 4096 % 16 = j / 4096 % 16
  · rw [h, N.get_set_same, cget2_set']
    by_cases h' : i % 4096 = j % 4096
    · rw [if_pos h', if_pos (by omega)]
    · rw [if_neg h', if_neg (by omega)]
  · rw [if_neg (by omega), N.get_set_ne (digit_ne (by omega) (by omega) (fun e => h e.symm))]
theorem ccap_cset (c : Cells) (i : Nat) (v : AV) : ccap (cset c i v) = ccap c := by cases c <;> rfl
theorem cget_cset (c : Cells) (i j : Nat) (v : AV) (hi : i < ccap c) (hj : j < ccap c) : cget (cset c i v) j = if i = j then v else cget c j := by
  cases c with
  | c0 x => simp only [ccap] at hi hj; show cget0 (cset0 x i v) j = if i = j then v else cget0 x j; rw [cget0_set', Nat.mod_eq_of_lt hi, Nat.mod_eq_of_lt hj]
  | c1 x => simp only [ccap] at hi hj; show cget1 (cset1 x i v) j = if i = j then v else cget1 x j; rw [cget1_set', Nat.mod_eq_of_lt hi, Nat.mod_eq_of_lt hj]
  | c2 x => simp only [ccap] at hi hj; show cget2 (cset2 x i v) j = if i = j then v else cget2 x j; rw [cget2_set', Nat.mod_eq_of_lt hi, Nat.mod_eq_of_lt hj]
  | c3 x => simp only [ccap] at hi hj; show cget3 (cset3 x i v) j = if i = j then v else cget3 x j; rw [cget3_set', Nat.mod_eq_of_lt hi, Nat.mod_eq_of_lt hj]
theorem cfill_nil (i : Nat) (c : Cells) : cfill [] i c = c := rfl
theorem cfill_cons (v : AV) (l : List AV) (i : Nat) (c : Cells) : cfill (v :: l) i c = cfill l (i + 1) (cset c i v) := rfl
theorem ccap_cfill (l : List AV) : ∀ (i : Nat) (c : Cells), ccap (cfill l i c) = ccap c := by
  induction l with
  | nil => intro i c; rfl
  | cons v l ih => intro i c; rw [cfill_cons, ih, ccap_cset]
theorem cget_cfill (l : List AV) : ∀ (i : Nat) (c : Cells) (j : Nat), i + l.length ≤ ccap c → j < ccap c →
    cget (cfill l i c) j = if h : i ≤ j ∧ j - i < l.length then l[j - i]'h.2 else cget c j := by
  induction l with
  | nil => intro i c j _ _; simp [cfill_nil]
  | cons v l ih =>
    intro i c j h1 h2
    simp only [List.length_cons] at h1
    rw [cfill_cons, ih (i + 1) (cset c i v) j (by rw [ccap_cset]; omega) (by rw [ccap_cset]; omega), cget_cset c i j v (by omega) h2]
    by_cases ha : i + 1 ≤ j ∧ j - (i + 1) < l.length
    · rw [dif_pos ha, dif_pos ⟨by omega, by simp; omega⟩]
      have e : j - i = (j - (i + 1)) + 1 := by omega
      simp only [e, List.getElem_cons_succ]
    · rw [dif_neg ha]
      by_cases hb : i = j
      · subst hb; rw [if_pos rfl, dif_pos ⟨Nat.le_refl _, by simp⟩]; simp
      · rw [if_neg hb, dif_neg (by simp; omega)]
theorem ccap_cempty (n : Nat) (h : n ≤ 65536) : n ≤ ccap (cempty n) := by
  unfold cempty
  simp only [bc_eq]
  split
  · rename_i h1; exact Nat.le_of_ble_eq_true h1
  · split
    · rename_i h1; exact Nat.le_of_ble_eq_true h1
    · split
      · rename_i h1; exact Nat.le_of_ble_eq_true h1
      · exact h
theorem llen_eq {α : Type} (l : List α) : llen l = l.length := by
  induction l with
  | nil => rfl
  | cons x l ih => show Nat.succ (llen l) = _; rw [ih]; rfl
theorem clist_eq (c : Cells) (n : Nat) : ∀ i, clist c n i = (List.range n).map fun j => cget c (i + j) := by
  induction n with
  | zero => intro i; rfl
  | succ n ih =>
    intro i
    show cget c i :: clist c n (i + 1) = _
    rw [ih, List.range_succ_eq_map]
    simp only [List.map_cons, List.map_map, Nat.add_zero, List.cons.injEq, true_and]
    apply List.map_congr_left
    intro j _
    show cget c (i + 1 + j) = cget c (i + (j + 1))
    rw [show i + 1 + j = i + (j + 1) by omega]
theorem cup_cap (c : Cells) (n : Nat) (h : n ≤ 65536) : n ≤ ccap (cup c n) ∧ ccap c ≤ ccap (cup c n) := by
  cases c with
  | c0 x =>
    show n ≤ ccap (up0 x n) ∧ 16 ≤ ccap (up0 x n)
    unfold up0
    simp only [bc_eq]
    repeat' split
    all_goals (simp only [ccap]; rename_i h1; first | (have := Nat.le_of_ble_eq_true h1; omega) | omega)
  | c1 x =>
    show n ≤ ccap (up1 x n) ∧ 256 ≤ ccap (up1 x n)
    unfold up1
    simp only [bc_eq]
    repeat' split
    all_goals (simp only [ccap]; rename_i h1; first | (have := Nat.le_of_ble_eq_true h1; omega) | omega)
  | c2 x =>
    show n ≤ ccap (up2 x n) ∧ 4096 ≤ ccap (up2 x n)
    unfold up2
    simp only [bc_eq]
    repeat' split
    all_goals (simp only [ccap]; rename_i h1; first | (have := Nat.le_of_ble_eq_true h1; omega) | omega)
  | c3 x => exact ⟨h, Nat.le_refl _⟩
theorem cget1_up (x : C0) (j : Nat) (h : j < 16) : cget1 (N.set .i0 x c1none) j = cget0 x j := by
  show cget0 (N.get (I.of (j / 16 % 16)) (N.set .i0 x c1none)) j = _
  rw [show j / 16 % 16 = 0 by omega]; rfl
theorem cget2_up (x : C1) (j : Nat) (h : j < 256) : cget2 (N.set .i0 x c2none) j = cget1 x j := by
  show cget1 (N.get (I.of (j / 256 % 16)) (N.set .i0 x c2none)) j = _
  rw [show j / 256 % 16 = 0 by omega]; rfl
theorem cget3_up (x : C2) (j : Nat) (h : j < 4096) : cget3 (N.set .i0 x c3none) j = cget2 x j := by
  show cget2 (N.get (I.of (j / 4096 % 16)) (N.set .i0 x c3none)) j = _
  rw [show j / 4096 % 16 = 0 by omega]; rfl
theorem cget_cup (c : Cells) (n j : Nat) (h : j < ccap c) : cget (cup c n) j = cget c j := by
  cases c with
  | c0 x =>
    simp only [ccap] at h
    show cget (up0 x n) j = cget0 x j
    unfold up0
    simp only [bc_eq]
    split
    · rfl
    · split
      · exact cget1_up x j h
      · split
        · exact (cget2_up _ j (by omega)).trans (cget1_up x j h)
        · exact ((cget3_up _ j (by omega)).trans (cget2_up _ j (by omega))).trans (cget1_up x j h)
  | c1 x =>
    simp only [ccap] at h
    show cget (up1 x n) j = cget1 x j
    unfold up1
    simp only [bc_eq]
    split
    · rfl
    · split
      · exact cget2_up _ j h
      · exact (cget3_up _ j (by omega)).trans (cget2_up _ j h)
  | c2 x =>
    simp only [ccap] at h
    show cget (up2 x n) j = cget2 x j
    unfold up2
    simp only [bc_eq]
    split
    · rfl
    · exact cget3_up _ j h
  | c3 x => rfl

/- frames -/
theorem f2_set (i j i' j' : I) (v : AV) (t : F2) : f2get i' j' (f2set i j v t) = if i = i' ∧ j = j' then v else f2get i' j' t := by
  show N.get j' (N.get i' (N.set i (N.set j v (N.get i t)) t)) = if i = i' ∧ j = j' then v else N.get j' (N.get i' t)
  by_cases hi : i = i'
  · subst hi; rw [N.get_set_same]
    by_cases hj : j = j'
    · subst hj; rw [N.get_set_same]; simp
    · rw [N.get_set_ne (fun e => hj e.symm)]; simp [hj]
  · rw [N.get_set_ne (fun e => hi e.symm)]; simp [hi]
theorem fget_lo {t : Nat} (h : t < 256) (lo hi : F2) : fget t (.mk lo hi) = f2get (I.of (t / 16)) (I.of (t % 16)) lo := by
  unfold fget; rw [show Nat.ble t 255 = true from Nat.ble_eq_true_of_le (by omega)]; rfl
theorem fget_hi {t : Nat} (h : ¬ t < 256) (h' : t < 512) (lo hi : F2) : fget t (.mk lo hi) = f2get (I.of (t / 16 - 16)) (I.of (t % 16)) hi := by
  unfold fget
  rw [show Nat.ble t 255 = false from by rw [Bool.eq_false_iff]; intro e; have := Nat.le_of_ble_eq_true e; omega, show Nat.ble t 511 = true from Nat.ble_eq_true_of_le (by omega)]; rfl
theorem fget_far {t : Nat} (h : 512 ≤ t) (τ : F) : fget t τ = .top := by
  unfold fget
  rw [show Nat.ble t 255 = false from by rw [Bool.eq_false_iff]; intro e; have := Nat.le_of_ble_eq_true e; omega, show Nat.ble t 511 = false from by rw [Bool.eq_false_iff]; intro e; have := Nat.le_of_ble_eq_true e; omega]; rfl
theorem fset_lo {t : Nat} (h : t < 256) (v : AV) (lo hi : F2) : fset t v (.mk lo hi) = .mk (f2set (I.of (t / 16)) (I.of (t % 16)) v lo) hi := by
  unfold fset; rw [show Nat.ble t 255 = true from Nat.ble_eq_true_of_le (by omega)]; rfl
theorem fset_hi {t : Nat} (h : ¬ t < 256) (v : AV) (lo hi : F2) : fset t v (.mk lo hi) = .mk lo (f2set (I.of (t / 16 - 16)) (I.of (t % 16)) v hi) := by
  unfold fset
  rw [show Nat.ble t 255 = false from by rw [Bool.eq_false_iff]; intro e; have := Nat.le_of_ble_eq_true e; omega]; rfl
theorem of2 {a b : Nat} (ha : a < 256) (hb : b < 256) : (I.of (a / 16) = I.of (b / 16) ∧ I.of (a % 16) = I.of (b % 16)) ↔ a = b := by
  constructor
  · rintro ⟨h1, h2⟩
    have := I.of_inj (by omega) (by omega) h1
    have := I.of_inj (by omega) (by omega) h2
    omega
  · rintro rfl; exact ⟨rfl, rfl⟩
theorem of2' {a b : Nat} (ha : a < 512) (hb : b < 512) (ha' : 256 ≤ a) (hb' : 256 ≤ b) : (I.of (a / 16 - 16) = I.of (b / 16 - 16) ∧ I.of (a % 16) = I.of (b % 16)) ↔ a = b := by
  constructor
  · rintro ⟨h1, h2⟩
    have := I.of_inj (by omega) (by omega) h1
    have := I.of_inj (by omega) (by omega) h2
    omega
  · rintro rfl; exact ⟨rfl, rfl⟩
theorem fget_fset (t t' : Nat) (v : AV) (τ : F) (h : t < 512) (h' : t' < 512) : fget t' (fset t v τ) = if t = t' then v else fget t' τ := by
  obtain ⟨lo, hi⟩ := τ
  by_cases a : t < 256
  · rw [fset_lo a]
    by_cases b : t' < 256
    · rw [fget_lo b, fget_lo b, f2_set]; simp only [of2 a b]
    · rw [fget_hi b h', fget_hi b h', if_neg (by omega)]
  · rw [fset_hi a]
    by_cases b : t' < 256
    · rw [fget_lo b, fget_lo b, if_neg (by omega)]
    · rw [fget_hi b h', fget_hi b h', f2_set]; simp only [of2' h h' (by omega) (by omega)]
theorem fget_none (t : Nat) (h : t < 512) : fget t fnone = undefA := by
  have e : ∀ i j, f2get i j f2none = undefA := by intro i j; show N.get j (N.get i f2none) = _; unfold f2none; rw [N.get_all, N.get_all]
  unfold fnone
  by_cases a : t < 256
  · rw [fget_lo a, e]
  · rw [fget_hi a h, e]
end Go.Ev
set_option linter.all false
namespace Go.Ev
/- Packed strings. -/
def bytesOf (len n : Nat) : List UInt8 := (List.range len).map fun i => UInt8.ofNat (n / 256 ^ (len - 1 - i))
def unpack (len n : Nat) : ByteArray := ⟨(bytesOf len n).toArray⟩
theorem bytesOf_length (len n : Nat) : (bytesOf len n).length = len := by simp [bytesOf]
theorem unpack_size (len n : Nat) : (unpack len n).size = len := by simp [unpack, ByteArray.size, bytesOf]
theorem bytesOf_get (len n i : Nat) (h : i < (bytesOf len n).length) : (bytesOf len n)[i] = UInt8.ofNat (n / 256 ^ (len - 1 - i)) := by simp [bytesOf]
theorem shiftRight_eq (n k : Nat) : Nat.shiftRight n (8 * k) = n / 256 ^ k := by
  show n >>> (8 * k) = _
  rw [Nat.shiftRight_eq_div_pow, Nat.pow_mul]
theorem sAt_eq (len n i : Nat) : sAt len n i = n / 256 ^ (len - 1 - i) % 256 := by
  unfold sAt; rw [shiftRight_eq]
theorem sAt_lt (len n i : Nat) : sAt len n i < 256 := by rw [sAt_eq]; exact Nat.mod_lt _ (by decide)
theorem u8_mod (n : Nat) : UInt8.ofNat (n % 256) = UInt8.ofNat n := by
  apply UInt8.toNat_inj.1; simp
theorem bytesOf_get' (len n i : Nat) (h : i < (bytesOf len n).length) : (bytesOf len n)[i] = UInt8.ofNat (sAt len n i) := by
  rw [bytesOf_get, sAt_eq, u8_mod]
theorem u8_toNat_sAt (len n i : Nat) : (UInt8.ofNat (sAt len n i)).toNat = sAt len n i := by
  have := sAt_lt len n i
  simp; omega
theorem bytesOf_cat (l1 n1 l2 n2 : Nat) (h : n2 < 256 ^ l2) : bytesOf (l1 + l2) (n1 * 256 ^ l2 + n2) = bytesOf l1 n1 ++ bytesOf l2 n2 := by
  apply List.ext_getElem
  · simp [bytesOf_length]
  · intro i h1 h2
    rw [bytesOf_get]
    rw [bytesOf_length] at h1
    rw [List.getElem_append]
    split
    · rename_i h3
      rw [bytesOf_length] at h3
      rw [bytesOf_get]
      have e : l1 + l2 - 1 - i = l2 + (l1 - 1 - i) := by omega
      rw [e, Nat.pow_add, ← Nat.div_div_eq_div_mul, Nat.mul_comm n1, Nat.mul_add_div (Nat.pow_pos (by decide)), Nat.div_eq_of_lt h, Nat.add_zero]
    · rename_i h3
      rw [bytesOf_length] at h3
      rw [bytesOf_get, bytesOf_length]
      have e : l1 + l2 - 1 - i = l2 - 1 - (i - l1) := by omega
      rw [e]
      have e2 : 256 ^ l2 = 256 ^ (l2 - 1 - (i - l1)) * 256 ^ (i - l1 + 1) := by rw [← Nat.pow_add]; congr 1; omega
      rw [e2, Nat.mul_left_comm, Nat.mul_add_div (Nat.pow_pos (by decide)), ← u8_mod, Nat.pow_succ, ← Nat.mul_assoc, Nat.mul_comm _ 256, Nat.mul_add_mod, u8_mod]
theorem cat_lt (l1 n1 l2 n2 : Nat) (h1 : n1 < 256 ^ l1) (h : n2 < 256 ^ l2) : n1 * 256 ^ l2 + n2 < 256 ^ (l1 + l2) := by
  rw [Nat.pow_add]
  have q1 : (n1 + 1) * 256 ^ l2 ≤ 256 ^ l1 * 256 ^ l2 := Nat.mul_le_mul_right _ h1
  rw [Nat.succ_mul] at q1
  omega
theorem bytesOf_cut (len n lo hi : Nat) (h1 : lo ≤ hi) (h2 : hi ≤ len) :
    bytesOf (hi - lo) (Nat.shiftRight n (8 * (len - hi)) % 256 ^ (hi - lo)) = (bytesOf len n).extract lo hi := by
  apply List.ext_getElem
  · simp [bytesOf_length]; omega
  · intro i h3 h4
    rw [bytesOf_length] at h3
    rw [bytesOf_get]
    simp only [List.extract_eq_take_drop, List.getElem_take, List.getElem_drop]
    rw [bytesOf_get, shiftRight_eq]
    have e2 : 256 ^ (hi - lo) = 256 ^ (hi - lo - 1 - i) * 256 ^ (i + 1) := by rw [← Nat.pow_add]; congr 1; omega
    rw [e2, Nat.mod_mul_right_div_self, ← u8_mod, Nat.pow_succ, Nat.mul_comm (256 ^ i) 256, Nat.mod_mul_right_mod, u8_mod, Nat.div_div_eq_div_mul, ← Nat.pow_add]
    congr 2
    congr 1
    omega
theorem bytesOf_snoc (len n : Nat) : bytesOf (len + 1) n = bytesOf len (n / 256) ++ [UInt8.ofNat n] := by
  have h := bytesOf_cat len (n / 256) 1 (n % 256) (by simpa using Nat.mod_lt _ (by decide))
  rw [Nat.pow_one, Nat.div_add_mod' n 256] at h
  rw [h]
  simp [bytesOf, u8_mod]
theorem bytesOf_inj : ∀ (l n n' : Nat), n < 256 ^ l → n' < 256 ^ l → bytesOf l n = bytesOf l n' → n = n' := by
  intro l
  induction l with
  | zero => intro n n' h h' _; simp at h h'; omega
  | succ l ih =>
    intro n n' h h' e
    rw [bytesOf_snoc, bytesOf_snoc] at e
    have ⟨e1, e2⟩ := List.append_inj' e rfl
    have h3 := ih (n / 256) (n' / 256) (by rw [Nat.pow_succ] at h; exact Nat.div_lt_of_lt_mul (by omega)) (by rw [Nat.pow_succ] at h'; exact Nat.div_lt_of_lt_mul (by omega)) e1
    simp only [List.cons.injEq, and_true] at e2
    have h4 := congrArg UInt8.toNat e2
    simp at h4
    omega
theorem packL_snoc (l : List UInt8) : ∀ (b : UInt8) (a : Nat), packL (l ++ [b]) a = packL l a * 256 + b.toNat := by
  induction l with
  | nil => intro b a; rfl
  | cons x l ih => intro b a; show packL (l ++ [b]) (a * 256 + x.toNat) = packL l (a * 256 + x.toNat) * 256 + b.toNat; exact ih b _
theorem pack_bytes : ∀ (n : Nat) (l : List UInt8), l.length = n → packL l 0 < 256 ^ n ∧ bytesOf n (packL l 0) = l := by
  intro n
  induction n with
  | zero => intro l h; obtain rfl := List.length_eq_zero_iff.1 h; exact ⟨by decide, rfl⟩
  | succ n ih =>
    intro l h
    obtain ⟨l', b, rfl⟩ : ∃ l' b, l = l' ++ [b] := ⟨l.dropLast, l.getLast (by intro e; simp [e] at h), (List.dropLast_concat_getLast _).symm⟩
    have ⟨h1, h2⟩ := ih l' (by simpa using h)
    rw [packL_snoc]
    have hb := UInt8.toNat_lt b
    constructor
    · rw [Nat.pow_succ]; omega
    · rw [bytesOf_snoc]
      have e : (packL l' 0 * 256 + b.toNat) / 256 = packL l' 0 := by omega
      rw [e, h2]
      congr 2
      rw [← u8_mod, show (packL l' 0 * 256 + b.toNat) % 256 = b.toNat by omega]
      simp
theorem unpack_pack (s : ByteArray) : unpack s.data.toList.length (packL s.data.toList 0) = s := by
  unfold unpack
  rw [(pack_bytes _ _ rfl).2]
theorem pack_lt (l : List UInt8) : packL l 0 < 256 ^ l.length := (pack_bytes _ l rfl).1
theorem sEq_iff (l n l' n' : Nat) (h : n < 256 ^ l) (h' : n' < 256 ^ l') : sEq l n l' n' = decide (unpack l n = unpack l' n') := by
  unfold sEq
  rw [bc_eq]
  by_cases e : l = l'
  · subst e
    rw [if_pos (Nat.beq_refl _)]
    by_cases e2 : n = n'
    · subst e2; simp
    · rw [show Nat.beq n n' = false from Bool.eq_false_iff.2 fun h => e2 (Nat.eq_of_beq_eq_true h)]
      symm
      rw [decide_eq_false_iff_not]
      intro e3
      unfold unpack at e3
      have e4 : bytesOf l n = bytesOf l n' := by simpa using e3
      exact e2 (bytesOf_inj l n n' h h' e4)
  · rw [if_neg (fun h => e (Nat.eq_of_beq_eq_true h))]
    symm
    rw [decide_eq_false_iff_not]
    intro e3
    have := congrArg ByteArray.size e3
    rw [unpack_size, unpack_size] at this
    exact e this
end Go.Ev
set_option linter.all false
namespace Go.Ev
/- What an abstract value, object, world says of a real one. ρ: which block a key stands for. -/
structure Env where
  blk : K → Option Nat
  sz : K → Nat
instance : CoeFun Env (fun _ => K → Option Nat) := ⟨Env.blk⟩
/-- the capacity of a slice: just that, or (of elements of es cells) such that its block has room for it -/
def SlOk (ρ : Env) (b : K) (o cap cap' : Nat) : Option Nat → Prop
  | none => cap' = cap
  | some es => o + cap' * es ≤ ρ.sz b
/-- a function, or the body of a loop over a function (its loop by its key's number) -/
def FnRel (ρ : Env) : Fn → Fn → Prop
  | .yield n, f => ∃ c, ρ (K.of n) = some c ∧ f = .yield c
  | g, f => f = g
/- integers that are not known: their values are kept as the sizes of keys that stand for nothing else -/
noncomputable def decZ (n : Nat) : Int := if n % 2 = 0 then ((n / 2 : Nat) : Int) else -(((n + 1) / 2 : Nat) : Int)
noncomputable def Env.val (ρ : Env) (i : Nat) : Int := if i < 15 then decZ (ρ.sz (K.of (240 + i))) else 0
noncomputable def SE.eval (σ : Nat → Int) : SE → Int
  | .v i => σ i
  | .c n => n
  | .bin op k a b => match op with
    | 0 => k.wrap (a.eval σ + b.eval σ)
    | 1 => k.wrap (a.eval σ - b.eval σ)
    | 2 => k.wrap (a.eval σ * b.eval σ)
    | 3 => k.wrap ((a.eval σ).tdiv (b.eval σ))
    | 4 => (a.eval σ).tmod (b.eval σ)
    | 5 => (a.eval σ) % (b.eval σ)
    | _ => 0
/-- a table of strings with two integers each (a seat's own) -/
def arL : List (Nat × Nat × Int × Int) := []
noncomputable def arTab (s : ByteArray) : Int × Int × Int := match arL.find? fun p => decide (unpack p.1 p.2.1 = s) with
  | some p => (p.2.2.1, p.2.2.2, 1)
  | none => (0, 0, 0)
/-- the string that is not known -/
noncomputable def strV (σ : Nat → Int) : ByteArray := unpack (σ 13).toNat (σ 14).toNat
def ArOk (σ : Nat → Int) : Prop := arTab (strV σ) = (σ 3, σ 4, σ 5)
def SxRel (σ : Nat → Int) (c : Nat) (e : SE) (A : List (Nat × Nat)) (v : Value) : Prop := match c with
  | 0 => v = .string (strV σ) ∧ ∀ p ∈ A, strV σ ≠ unpack p.1 p.2
  | 1 => v = .bool (decide (e.eval σ ≠ 0))
  | _ => v = .string (strV σ) ∧ ArOk σ
def SA.holds (σ : Nat → Int) : SA → Prop
  | .mk true a b r => decide (a.eval σ < b.eval σ) = r
  | .mk false a b r => decide (a.eval σ = b.eval σ) = r
def SAll (σ : Nat → Int) (A : List SA) : Prop := ∀ x ∈ A, x.holds σ
def VarsIn (ρ : Env) : Prop := ∀ i, i < 15 → ∃ c, ρ (K.of (240 + i)) = some c
mutual
def VRel (ρ : Env) : AV → Value → Prop
  | .bool b, v => v = .bool b
  | .int k n, v => v = .int k n
  | .str l n, v => n < 256 ^ l ∧ v = .string (unpack l n)
  | .nilPtr, v => v = .pointer none
  | .ptr b o, v => ∃ c, ρ b = some c ∧ v = .pointer (some ⟨c, o, none⟩)
  | .nilSlice, v => v = .slice none 0 0
  | .slice b o len cap ex, v => ∃ c cap', ρ b = some c ∧ (len ≤ cap ∧ cap ≤ cap') ∧ SlOk ρ b o cap cap' ex ∧ v = .slice (some ⟨c, o, none⟩) len cap'
  | .nilMap, v => v = .map none
  | .map b, v => ∃ c, ρ b = some c ∧ v = .map (some c)
  | .func fn x y, v => ∃ fn' x' y', v = .func fn' x' y' ∧ FnRel ρ fn fn' ∧ VRels ρ x x'.toList ∧ VRels ρ y y'.toList
  | .nilFunc, v => v = .nilFunc
  | .iface t a, v => ∃ v', v = .iface t v' ∧ VRel ρ a v'
  | .nilIface, v => v = .nilIface
  | .agg xs, v => ∃ ys, v = .agg ys ∧ VRels ρ xs ys.toList
  | .tuple xs, v => ∃ ys, v = .tuple ys ∧ VRels ρ xs ys.toList
  | .esl, v => ∃ p cap', v = .slice (some p) 0 cap'
  | .wsl b kb d n, v => ∃ c c' cap', ρ b = some c ∧ ρ kb = some c' ∧ (1 ≤ n ∧ n ≤ cap' ∧ cap' ≤ 9223372036854775807 ∧ ρ.sz kb + d + cap' ≤ ρ.sz b) ∧ v = .slice (some ⟨c, ρ.sz kb + d, none⟩) n cap'
  | .wse b, v => ∃ c p cap', ρ b = some c ∧ (cap' ≤ 9223372036854775807 ∧ p + cap' ≤ ρ.sz b) ∧ v = .slice (some ⟨c, p, none⟩) 0 cap'
  | .wptr b kb i, v => ∃ c c', ρ b = some c ∧ ρ kb = some c' ∧ v = .pointer (some ⟨c, ρ.sz kb + i, none⟩)
  | .sym k e A, v => VarsIn ρ ∧ SAll ρ.val A ∧ v = .int k (e.eval ρ.val)
  | .sx c e A, v => VarsIn ρ ∧ SxRel ρ.val c e A v
  | .top, _ => True
def VRels (ρ : Env) : List AV → List Value → Prop
  | [], l => l = []
  | a :: r, l => ∃ v vs, l = v :: vs ∧ VRel ρ a v ∧ VRels ρ r vs
end
def Env.le (ρ ρ' : Env) : Prop := ∀ k c, ρ k = some c → ρ' k = some c ∧ ρ'.sz k = ρ.sz k
theorem Env.le_refl (ρ : Env) : ρ.le ρ := fun _ _ h => ⟨h, rfl⟩
theorem Env.le_trans {a b c : Env} (h : a.le b) (h' : b.le c) : a.le c := fun k x e => ⟨(h' k x (h k x e).1).1, ((h' k x (h k x e).1).2).trans (h k x e).2⟩
theorem SlOk.mono {ρ ρ' : Env} {b : K} {o cap cap' : Nat} {ex : Option Nat} (h : ρ'.sz b = ρ.sz b) (e : SlOk ρ b o cap cap' ex) : SlOk ρ' b o cap cap' ex := by
  cases ex with
  | none => exact e
  | some es => simp only [SlOk] at e ⊢; rw [h]; exact e
theorem FnRel.mono {ρ ρ' : Env} (h : ρ.le ρ') : ∀ {f g : Fn}, FnRel ρ f g → FnRel ρ' f g := by
  intro f g e
  cases f <;> first | exact e | (obtain ⟨c, h1, h2⟩ := e; exact ⟨c, (h _ _ h1).1, h2⟩)
theorem FnRel.plain {ρ : Env} {f g : Fn} (h : ∀ n, f ≠ .yield n) (e : FnRel ρ f g) : g = f := by
  cases f <;> first | exact e | exact absurd rfl (h _)
theorem FnRel.refl {ρ : Env} {f : Fn} (h : ∀ n, f ≠ .yield n) : FnRel ρ f f := by
  cases f <;> first | rfl | exact absurd rfl (h _)
theorem val_mono {ρ ρ' : Env} (h : ρ.le ρ') (hv : VarsIn ρ) : VarsIn ρ' ∧ ρ'.val = ρ.val := by
  refine ⟨fun i hi => let ⟨c, e⟩ := hv i hi; ⟨c, (h _ _ e).1⟩, funext fun i => ?_⟩
  unfold Env.val
  split
  · rename_i hi
    obtain ⟨c, e⟩ := hv i hi
    rw [(h _ _ e).2]
  · rfl
mutual
theorem VRel.mono {ρ ρ' : Env} (h : ρ.le ρ') : ∀ (a : AV) (v : Value), VRel ρ a v → VRel ρ' a v
  | .bool _, _, e | .int _ _, _, e | .str _ _, _, e | .nilPtr, _, e | .nilSlice, _, e | .nilMap, _, e | .nilFunc, _, e | .nilIface, _, e | .esl, _, e | .top, _, e => by simpa only [VRel] using e
  | .ptr _ _, _, e => by simp only [VRel] at e ⊢; obtain ⟨c, h1, h2⟩ := e; exact ⟨c, (h _ _ h1).1, h2⟩
  | .slice _ _ _ _ _, _, e => by simp only [VRel] at e ⊢; obtain ⟨c, cap', h1, h2, h3, h4⟩ := e; exact ⟨c, cap', (h _ _ h1).1, h2, SlOk.mono (h _ _ h1).2 h3, h4⟩
  | .map _, _, e => by simp only [VRel] at e ⊢; obtain ⟨c, h1, h2⟩ := e; exact ⟨c, (h _ _ h1).1, h2⟩
  | .wsl _ _ _ _, _, e => by simp only [VRel] at e ⊢; obtain ⟨c, c', cap', h1, h2, h3, h4⟩ := e; exact ⟨c, c', cap', (h _ _ h1).1, (h _ _ h2).1, by rw [(h _ _ h1).2, (h _ _ h2).2]; exact h3, by rw [(h _ _ h2).2]; exact h4⟩
  | .wse _, _, e => by simp only [VRel] at e ⊢; obtain ⟨c, p, cap', h1, h3, h4⟩ := e; exact ⟨c, p, cap', (h _ _ h1).1, by rw [(h _ _ h1).2]; exact h3, h4⟩
  | .sym _ _ _, _, e => by simp only [VRel] at e ⊢; obtain ⟨h1, h2, h3⟩ := e; obtain ⟨q1, q2⟩ := val_mono h h1; rw [q2]; exact ⟨q1, h2, h3⟩
  | .sx _ _ _, _, e => by simp only [VRel] at e ⊢; obtain ⟨h1, h2⟩ := e; obtain ⟨q1, q2⟩ := val_mono h h1; rw [q2]; exact ⟨q1, h2⟩
  | .wptr _ _ _, _, e => by simp only [VRel] at e ⊢; obtain ⟨c, c', h1, h2, h4⟩ := e; exact ⟨c, c', (h _ _ h1).1, (h _ _ h2).1, by rw [(h _ _ h2).2]; exact h4⟩
  | .func _ x y, _, e => by simp only [VRel] at e ⊢; obtain ⟨f', x', y', h1, h0, h2, h3⟩ := e; exact ⟨f', x', y', h1, h0.mono h, VRels.mono h x _ h2, VRels.mono h y _ h3⟩
  | .iface _ a, _, e => by simp only [VRel] at e ⊢; obtain ⟨v', h1, h2⟩ := e; exact ⟨v', h1, VRel.mono h a _ h2⟩
  | .agg xs, _, e => by simp only [VRel] at e ⊢; obtain ⟨ys, h1, h2⟩ := e; exact ⟨ys, h1, VRels.mono h xs _ h2⟩
  | .tuple xs, _, e => by simp only [VRel] at e ⊢; obtain ⟨ys, h1, h2⟩ := e; exact ⟨ys, h1, VRels.mono h xs _ h2⟩
theorem VRels.mono {ρ ρ' : Env} (h : ρ.le ρ') : ∀ (l : List AV) (vs : List Value), VRels ρ l vs → VRels ρ' l vs
  | [], _, e => by simpa only [VRels] using e
  | a :: l, _, e => by simp only [VRels] at e ⊢; obtain ⟨v, vs, h1, h2, h3⟩ := e; exact ⟨v, vs, h1, VRel.mono h a _ h2, VRels.mono h l _ h3⟩
end
theorem VRels.length {ρ : Env} : ∀ (l : List AV) (vs : List Value), VRels ρ l vs → vs.length = l.length
  | [], _, e => by simp only [VRels] at e; subst e; rfl
  | a :: l, _, e => by simp only [VRels] at e; obtain ⟨v, vs, rfl, _, h3⟩ := e; simp [VRels.length l vs h3]
theorem VRels.get {ρ : Env} : ∀ (l : List AV) (vs : List Value), VRels ρ l vs → ∀ (i : Nat) (h : i < l.length), ∃ v, vs[i]? = some v ∧ VRel ρ l[i] v
  | [], _, _, i, h => by simp at h
  | a :: l, _, e, i, h => by
    simp only [VRels] at e; obtain ⟨v, vs, rfl, h2, h3⟩ := e
    cases i with
    | zero => exact ⟨v, rfl, h2⟩
    | succ i => exact VRels.get l vs h3 i (by simpa using h)
theorem VRels.of_get {ρ : Env} : ∀ (l : List AV) (vs : List Value), vs.length = l.length → (∀ (i : Nat) (h : i < l.length), ∃ v, vs[i]? = some v ∧ VRel ρ l[i] v) → VRels ρ l vs
  | [], [], _, _ => by simp only [VRels]
  | [], _ :: _, h, _ => by simp at h
  | _ :: _, [], h, _ => by simp at h
  | a :: l, v :: vs, h, e => by
    simp only [VRels]
    obtain ⟨v', h1, h2⟩ := e 0 (by simp)
    simp at h1; subst h1
    refine ⟨v, vs, rfl, by simpa using h2, VRels.of_get l vs (by simpa using h) fun i hi => ?_⟩
    obtain ⟨v', h1, h2⟩ := e (i + 1) (by simpa using hi)
    exact ⟨v', by simpa using h1, by simpa using h2⟩
theorem VRels.append {ρ : Env} : ∀ (l l' : List AV) (vs vs' : List Value), VRels ρ l vs → VRels ρ l' vs' → VRels ρ (l ++ l') (vs ++ vs')
  | [], _, _, _, h, h' => by simp only [VRels] at h; subst h; exact h'
  | a :: l, l', _, vs', h, h' => by
    simp only [VRels] at h; obtain ⟨v, vs, rfl, h2, h3⟩ := h
    simp only [List.cons_append, VRels]
    exact ⟨v, vs ++ vs', rfl, h2, VRels.append l l' vs vs' h3 h'⟩

theorem SxRel.shape {σ : Nat → Int} {c : Nat} {e : SE} {A : List (Nat × Nat)} {v : Value} (h : SxRel σ c e A v) : (∃ s, v = .string s) ∨ ∃ b, v = .bool b := by
  unfold SxRel at h
  split at h
  · exact .inl ⟨_, h.1⟩
  · exact .inr ⟨_, h⟩
  · exact .inl ⟨_, h.1⟩
/-- the cells of a block -/
def CRel (ρ : Env) (size : Nat) (c : Cells) (arr : Array Value) : Prop := ∀ i, i < size → ∃ v, arr[i]? = some v ∧ VRel ρ (cget c i) v
def ERel (ρ : Env) : List (AV × AV) → List MapEntry → Prop
  | [], l => l = []
  | e :: es, l => ∃ m ms, l = m :: ms ∧ VRel ρ e.1 m.key ∧ VRel ρ e.2 m.val ∧ ERel ρ es ms
theorem ERel.mono {ρ ρ' : Env} (h : ρ.le ρ') : ∀ es l, ERel ρ es l → ERel ρ' es l
  | [], _, e => e
  | _ :: es, _, ⟨m, ms, h1, h2, h3, h4⟩ => ⟨m, ms, h1, VRel.mono h _ _ h2, VRel.mono h _ _ h3, ERel.mono h es ms h4⟩
/-- a block with a tag is a laid variable as it is laid -/
def LaidTag (t : Nat) (arr : Array Value) : Prop := ∀ g cs, t = g + 1 → LE.mk g cs ∈ laidL → ∀ ρ, VRels ρ cs arr.toList
def ORel (ρ : Env) (o : AObj) (x0 : Option Obj) : Prop :=
  match o with
  | .none => True
  | .cells t size ext fl fh c => ∃ arr fz, x0 = some (.cells arr t fz) ∧ size ≤ arr.size ∧ (ext = false → arr.size = size) ∧ size ≤ ccap c ∧ (fz.1 ≤ fz.2 ∧ ∀ i, fz.1 ≤ i → i < fz.2 → fl ≤ i ∧ i < fh) ∧ CRel ρ size c arr
  | .ro t size c => ∃ arr t' fz, x0 = some (.cells arr t' fz) ∧ arr.size = size ∧ size ≤ ccap c ∧ CRel ρ size c arr ∧ LaidTag t arr
  | .map es => ∃ entries clock, x0 = some (.map entries clock) ∧ ERel ρ es entries.toList
  | .pk t len n fl fh => ∃ arr fz, x0 = some (.cells arr t fz) ∧ len ≤ arr.size ∧ (fz.1 ≤ fz.2 ∧ ∀ i, fz.1 ≤ i → i < fz.2 → fl ≤ i ∧ i < fh) ∧ n < 256 ^ len ∧ ∀ (i : Nat) (b : UInt8), (bytesOf len n)[i]? = some b → arr[i]? = some (Value.int .u8 b.toNat)
  | .umap es => ∃ entries clock l, x0 = some (.map entries clock) ∧ l.Perm es ∧ ERel ρ l entries.toList
  | .strIter len n pos => x0 = some (.stringIter (unpack len n) pos) ∧ n < 256 ^ len
  | .loop st pend fn nt τ ps x y kd => ∃ tmps c, x0 = some (.loop { state := st, pending := pend, fn, tmps, params := ps.toArray, assign := x, body := y, defers := c }) ∧ ρ kd = some c ∧ tmps.size = nt ∧ nt ≤ 512 ∧ ∀ t, VRel ρ (fget t τ) (tmps.getD t undef)
  | .win kb l => ∃ arr t fz c', x0 = some (.cells arr t fz) ∧ ρ kb = some c' ∧ fz.2 ≤ fz.1 ∧ ∀ (i : Nat) (h : i < l.length), ∃ v, arr[ρ.sz kb + i]? = some v ∧ VRel ρ l[i] v
  | .deferred (some []) => x0 = some (.deferred (some []))
  | .deferred none => x0 = some (.deferred none)
  | .deferred _ => False
theorem ORel.mono {ρ ρ' : Env} (h : ρ.le ρ') {o : AObj} {x : Option Obj} (e : ORel ρ o x) : ORel ρ' o x := by
  cases o with
  | none => trivial
  | cells t size ext fl fh c =>
    obtain ⟨arr, fz, h1, h2, h3, h4, h5, h6⟩ := e
    exact ⟨arr, fz, h1, h2, h3, h4, h5, fun i hi => let ⟨v, a, b⟩ := h6 i hi; ⟨v, a, VRel.mono h _ _ b⟩⟩
  | ro t size c =>
    obtain ⟨arr, t', fz, h1, h2, h3, h6, h7⟩ := e
    exact ⟨arr, t', fz, h1, h2, h3, fun i hi => let ⟨v, a, b⟩ := h6 i hi; ⟨v, a, VRel.mono h _ _ b⟩, h7⟩
  | map es => obtain ⟨a, b, h1, h2⟩ := e; exact ⟨a, b, h1, ERel.mono h _ _ h2⟩
  | umap es => obtain ⟨a, b, l, h1, h2, h3⟩ := e; exact ⟨a, b, l, h1, h2, ERel.mono h _ _ h3⟩
  | pk => exact e
  | strIter => exact e
  | loop st pend fn nt τ ps x y kd => obtain ⟨tmps, c, h1, h2, h3, h4, h5⟩ := e; exact ⟨tmps, c, h1, (h _ _ h2).1, h3, h4, fun t => VRel.mono h _ _ (h5 t)⟩
  | win kb l =>
    obtain ⟨arr, t, fz, c', h1, h2, h3, h4⟩ := e
    exact ⟨arr, t, fz, c', h1, (h _ _ h2).1, h3, fun i hi => let ⟨v, a, b⟩ := h4 i hi; ⟨v, by rw [(h _ _ h2).2]; exact a, VRel.mono h _ _ b⟩⟩
  | deferred ds =>
    cases ds with
    | none => exact e
    | some l => cases l with
      | nil => exact e
      | cons _ _ => exact e.elim
theorem ORel.some {ρ : Env} {o : AObj} {x : Option Obj} (e : ORel ρ o x) (h : o ≠ .none) : ∃ y, x = some y := by
  cases o with
  | none => exact absurd rfl h
  | cells => obtain ⟨arr, fz, h1, _⟩ := e; exact ⟨_, h1⟩
  | ro => obtain ⟨arr, t', fz, h1, _⟩ := e; exact ⟨_, h1⟩
  | map => obtain ⟨a, b, h1, _⟩ := e; exact ⟨_, h1⟩
  | umap es => obtain ⟨a, b, l, h1, _⟩ := e; exact ⟨_, h1⟩
  | pk => obtain ⟨arr, fz, h1, _⟩ := e; exact ⟨_, h1⟩
  | strIter => exact ⟨_, e.1⟩
  | loop st pend fn nt τ ps x y kd => obtain ⟨tmps, c, h1, _⟩ := e; exact ⟨_, h1⟩
  | win kb l => obtain ⟨arr, t, fz, c', h1, _⟩ := e; exact ⟨_, h1⟩
  | deferred ds =>
    cases ds with
    | none => exact ⟨_, e⟩
    | some l => cases l with
      | nil => exact ⟨_, e⟩
      | cons _ _ => exact e.elim

def W.h : W → H4 | .mk h _ => h
def W.nx : W → K | .mk _ nx => nx
@[simp] theorem W.h_mk (h : H4) (nx : K) : (W.mk h nx).h = h := rfl
@[simp] theorem W.nx_mk (h : H4) (nx : K) : (W.mk h nx).nx = nx := rfl
theorem wget_eq (b : K) (a : W) : wget b a = hget b a.h := by cases a; rfl
theorem wset_eq (b : K) (o : AObj) (a : W) : wset b o a = .mk (hset b o a.h) a.nx := by cases a; rfl
def AObj.isRo : AObj → Bool | .ro .. => true | _ => false

structure WRel (ρ : Env) (a : W) (w : World) : Prop where
  inj : ∀ k l, hget k a.h ≠ .none → hget l a.h ≠ .none → ρ k = ρ l → k = l
  dom : ∀ k, hget k a.h ≠ .none → ∃ c, ρ k = some c ∧ ORel ρ (hget k a.h) (w.heap[c]?)
  len : ∀ k c arr t fz, hget k a.h ≠ .none → ρ k = some c → w.heap[c]? = some (.cells arr t fz) → arr.size = ρ.sz k
/-- a block that the abstract world may write -/
def Own (ρ : Env) (a : W) (c : Nat) : Prop := ∃ k, hget k a.h ≠ .none ∧ (hget k a.h).isRo = false ∧ ρ k = some c
/-- no key from a's next to a''s next is in use -/
def Fresh (ρ : Env) (a a' : W) : Prop := ∀ k, a.nx.num ≤ k.num → k.num < a'.nx.num → ρ k = none
/-- one step on: from (ρ, a, w) to (ρ', a', w') -/
structure Adv (ρ : Env) (a : W) (w : World) (ρ' : Env) (a' : W) (w' : World) : Prop where
  rel : WRel ρ' a' w'
  le : ρ.le ρ'
  rng : ∀ k, ρ' k = ρ k ∨ (a.nx.num ≤ k.num ∧ k.num < a'.nx.num)
  nx : a.nx.num ≤ a'.nx.num
  size : w.heap.size ≤ w'.heap.size
  own : ∀ c, Own ρ' a' c → Own ρ a c ∨ w.heap.size ≤ c
  keep : ∀ k c, hget k a'.h ≠ .none → ρ' k = some c → (∃ l, hget l a.h ≠ .none ∧ ρ l = some c) ∨ w.heap.size ≤ c
  frame : ∀ c, c < w.heap.size → ¬ Own ρ a c → w'.heap[c]? = w.heap[c]?
  os : w'.os = w.os
  tape : w'.tape = w.tape
  output : w'.output = w.output
theorem Adv.refl {ρ : Env} {a : W} {w : World} (h : WRel ρ a w) : Adv ρ a w ρ a w :=
  ⟨h, Env.le_refl ρ, fun _ => .inl rfl, Nat.le_refl _, Nat.le_refl _, fun _ h => .inl h, fun k _ h e => .inl ⟨k, h, e⟩, fun _ _ _ => rfl, rfl, rfl, rfl⟩
theorem Adv.trans {ρ ρ1 ρ2 : Env} {a a1 a2 : W} {w w1 w2 : World} (h : Adv ρ a w ρ1 a1 w1) (k : Adv ρ1 a1 w1 ρ2 a2 w2) : Adv ρ a w ρ2 a2 w2 where
  rel := k.rel
  le := Env.le_trans h.le k.le
  rng x := by
    have := h.nx; have := k.nx
    rcases k.rng x with e | e
    · rcases h.rng x with e' | e'
      · exact .inl (e.trans e')
      · exact .inr (by omega)
    · exact .inr (by omega)
  nx := Nat.le_trans h.nx k.nx
  size := Nat.le_trans h.size k.size
  own c hc := by
    have := h.size
    rcases k.own c hc with e | e
    · rcases h.own c e with e' | e'
      · exact .inl e'
      · exact .inr e'
    · exact .inr (by omega)
  keep x c hx hc := by
    have := h.size
    rcases k.keep x c hx hc with ⟨l, e1, e2⟩ | e
    · exact h.keep l c e1 e2
    · exact .inr (by omega)
  frame c hc hn := by
    have hs := h.size
    rw [k.frame c (by omega) (fun e => by rcases h.own c e with e' | e'; exact hn e'; omega)]
    exact h.frame c hc hn
  os := k.os.trans h.os
  tape := k.tape.trans h.tape
  output := k.output.trans h.output
theorem Fresh.left {ρ : Env} {a a1 a2 : W} (h : Fresh ρ a a2) (h' : a1.nx.num ≤ a2.nx.num) : Fresh ρ a a1 := fun k h1 h2 => h k h1 (by omega)
theorem Fresh.right {ρ ρ1 : Env} {a a1 a2 : W} {w w1 : World} (h : Fresh ρ a a2) (k : Adv ρ a w ρ1 a1 w1) : Fresh ρ1 a1 a2 := by
  intro x h1 h2
  have := k.nx
  rcases k.rng x with e | e
  · rw [e]; exact h x (by omega) h2
  · omega
/-- a draw changes nothing here -/
theorem Adv.drew {ρ ρ' : Env} {a a' : W} {w w' : World} (h : Adv ρ a w ρ' a' w') : Adv ρ a w ρ' a' w'.drew :=
  ⟨⟨h.rel.inj, h.rel.dom, h.rel.len⟩, h.le, h.rng, h.nx, h.size, h.own, h.keep, h.frame, h.os, h.tape, h.output⟩

def upd (ρ : Env) (k : K) (c n : Nat) : Env := { blk := fun l => if l = k then some c else ρ l, sz := fun l => if l = k then n else ρ.sz l }
theorem upd_same (ρ : Env) (k : K) (c n : Nat) : upd ρ k c n k = some c := by simp [upd]
theorem upd_ne (ρ : Env) {k l : K} (h : l ≠ k) (c n : Nat) : upd ρ k c n l = ρ l := by simp [upd, h]
theorem sz_same (ρ : Env) (k : K) (c n : Nat) : (upd ρ k c n).sz k = n := by simp [upd]
theorem sz_ne (ρ : Env) {k l : K} (h : l ≠ k) (c n : Nat) : (upd ρ k c n).sz l = ρ.sz l := by simp [upd, h]
theorem le_upd (ρ : Env) (k : K) (c n : Nat) (h : ρ k = none) : ρ.le (upd ρ k c n) := by
  intro l x e
  by_cases hk : l = k
  · subst hk; rw [h] at e; cases e
  · rw [upd_ne ρ hk, sz_ne ρ hk]; exact ⟨e, rfl⟩
def Obj.cellCount : Obj → Nat
  | .cells arr _ _ => arr.size
  | _ => 0
/-- a new block -/
theorem adv_new {ρ : Env} {h : H4} {nx : K} {w : World} {o : AObj} {obj : Obj} (hw : WRel ρ (.mk h nx) w) (hf : ρ nx = none) (hm : nx.isMax = false)
    (ho : ORel ρ o (some obj)) : Adv ρ (.mk h nx) w (upd ρ nx w.heap.size (Obj.cellCount obj)) (.mk (hset nx o h) nx.succ) (w.alloc obj) := by
  have hle := le_upd ρ nx w.heap.size (Obj.cellCount obj) hf
  have hn : hget nx h = .none := by
    by_cases e : hget nx h = .none
    · exact e
    · obtain ⟨c, hc, _⟩ := hw.dom nx e; rw [hf] at hc; cases hc
  have lt : ∀ k c, hget k h ≠ .none → ρ k = some c → c < w.heap.size := by
    intro k c hk hc
    obtain ⟨c', hc', ho'⟩ := hw.dom k hk
    rw [hc] at hc'; cases hc'
    obtain ⟨y, hy⟩ := ho'.some hk
    exact (Array.getElem?_eq_some_iff.1 hy).1
  have old : ∀ k, k ≠ nx → hget k (hset nx o h) = hget k h := fun k hk => hget_hset_ne hk o h
  have get : ∀ c, c < w.heap.size → (w.alloc obj).heap[c]? = w.heap[c]? := fun c hc => RowKit.Below.heap_alloc w obj c hc
  have hnx : nx.succ.num = nx.num + 1 := K.succ_num hm
  refine ⟨⟨?_, ?_, ?_⟩, hle, ?_, ?_, ?_, ?_, ?_, ?_, rfl, rfl, rfl⟩
  · intro k l hk hl e
    simp only [W.h_mk] at hk hl
    by_cases k1 : k = nx
    · by_cases l1 : l = nx
      · rw [k1, l1]
      · exfalso
        rw [old l l1] at hl
        obtain ⟨c, hc, _⟩ := hw.dom l hl
        rw [k1, upd_same, upd_ne ρ l1, hc] at e
        have := lt l c hl hc
        injection e with e; omega
    · rw [old k k1] at hk
      by_cases l1 : l = nx
      · exfalso
        obtain ⟨c, hc, _⟩ := hw.dom k hk
        rw [l1, upd_same, upd_ne ρ k1, hc] at e
        have := lt k c hk hc
        injection e with e; omega
      · rw [old l l1] at hl
        rw [upd_ne ρ k1, upd_ne ρ l1] at e
        exact hw.inj k l hk hl e
  · intro k hk
    simp only [W.h_mk] at hk ⊢
    by_cases k1 : k = nx
    · subst k1
      refine ⟨w.heap.size, upd_same ρ k _ _, ?_⟩
      rw [hget_hset_same]
      have : (w.alloc obj).heap[w.heap.size]? = some obj := by show (w.heap.push obj)[w.heap.size]? = _; simp
      rw [this]
      exact ho.mono hle
    · rw [old k k1] at hk ⊢
      obtain ⟨c, hc, ho'⟩ := hw.dom k hk
      refine ⟨c, by rw [upd_ne ρ k1]; exact hc, ?_⟩
      rw [get c (lt k c hk hc)]
      exact ho'.mono hle
  · intro k c arr t fz hk hc hx
    simp only [W.h_mk] at hk
    by_cases k1 : k = nx
    · subst k1
      rw [upd_same] at hc
      injection hc with hc
      subst hc
      have : (w.alloc obj).heap[w.heap.size]? = some obj := by show (w.heap.push obj)[w.heap.size]? = _; simp
      rw [this] at hx
      injection hx with hx
      rw [sz_same, hx]; rfl
    · rw [old k k1] at hk
      rw [upd_ne ρ k1] at hc
      rw [get c (lt k c hk hc)] at hx
      rw [sz_ne ρ k1]
      exact hw.len k c arr t fz hk hc hx
  · intro k
    by_cases k1 : k = nx
    · subst k1; right; simp only [W.nx_mk]; omega
    · left; exact upd_ne ρ k1 _ _
  · simp only [W.nx_mk]; omega
  · rw [World.size_alloc]; omega
  · rintro c ⟨k, hk, hr, hc⟩
    simp only [W.h_mk] at hk hr
    by_cases k1 : k = nx
    · subst k1; rw [upd_same] at hc; injection hc with hc; right; omega
    · rw [old k k1] at hk hr; rw [upd_ne ρ k1] at hc
      exact .inl ⟨k, hk, hr, hc⟩
  · intro k c hk hc
    simp only [W.h_mk] at hk
    by_cases k1 : k = nx
    · subst k1; rw [upd_same] at hc; injection hc with hc; right; omega
    · rw [old k k1] at hk; rw [upd_ne ρ k1] at hc
      exact .inl ⟨k, hk, hc⟩
  · intro c hc _; exact get c hc
/-- a block that is written -/
theorem adv_put {ρ : Env} {a : W} {w w' : World} {b : K} {c : Nat} {o : AObj} {obj : Obj} (hw : WRel ρ a w) (hb : hget b a.h ≠ .none) (hr : (hget b a.h).isRo = false)
    (hc : ρ b = some c) (ho : ORel ρ o (some obj)) (hn : o ≠ .none) (hcount : ∀ arr t fz, obj = .cells arr t fz → arr.size = ρ.sz b) (hx : w'.heap[c]? = some obj) (hs : w'.heap.size = w.heap.size) (hother : ∀ d, d ≠ c → w'.heap[d]? = w.heap[d]?)
    (h1 : w'.os = w.os) (h2 : w'.tape = w.tape) (h3 : w'.output = w.output) : Adv ρ a w ρ (wset b o a) w' := by
  rw [wset_eq]
  have old : ∀ k, k ≠ b → hget k (hset b o a.h) = hget k a.h := fun k hk => hget_hset_ne hk o a.h
  have liv : ∀ k, hget k (hset b o a.h) ≠ .none → hget k a.h ≠ .none := by
    intro k hk
    by_cases e : k = b
    · subst e; exact hb
    · rw [old k e] at hk; exact hk
  refine ⟨⟨?_, ?_, ?_⟩, Env.le_refl ρ, fun _ => .inl rfl, Nat.le_refl _, by omega, ?_, fun k c hk hc => .inl ⟨k, liv k hk, hc⟩, ?_, h1, h2, h3⟩
  · intro k l hk hl e; exact hw.inj k l (liv k hk) (liv l hl) e
  · intro k hk
    simp only [W.h_mk] at hk ⊢
    by_cases e : k = b
    · subst e; exact ⟨c, hc, by rw [hget_hset_same, hx]; exact ho⟩
    · have hk' := liv k hk
      obtain ⟨d, hd, ho'⟩ := hw.dom k hk'
      refine ⟨d, hd, ?_⟩
      rw [old k e, hother d]
      · exact ho'
      · intro e'; subst e'; exact e (hw.inj k b hk' hb (by rw [hd, hc]))
  · intro k d arr t fz hk hd hxx
    simp only [W.h_mk] at hk
    by_cases e : k = b
    · subst e
      rw [hc] at hd; injection hd with hd; subst hd
      rw [hx] at hxx; injection hxx with hxx
      exact hcount arr t fz hxx
    · have hk' := liv k hk
      rw [hother d] at hxx
      · exact hw.len k d arr t fz hk' hd hxx
      · intro e'; subst e'; exact e (hw.inj k b hk' hb (by rw [hd, hc]))
  · rintro d ⟨k, hk, hr', hd⟩
    simp only [W.h_mk] at hk hr'
    by_cases e : k = b
    · subst e; exact .inl ⟨k, hb, hr, hd⟩
    · rw [old k e] at hk hr'; exact .inl ⟨k, hk, hr', hd⟩
  · intro d _ hd
    exact hother d fun e => hd ⟨b, hb, hr, by rw [e]; exact hc⟩
end Go.Ev
