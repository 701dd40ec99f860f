import Derived.Test.YtocilenpboklbaaGreatDoorEvC
import Derived.Lib.ValidU
import Derived.Below
import Derived.Laws.Entries
import Derived.Laws.Cells
set_option linter.all false
namespace Go.Ev
theorem zQ : type_of% @Result.andThen_ok := @Result.andThen_ok
theorem zW : type_of% @Nat.eq_of_beq_eq_true := @Nat.eq_of_beq_eq_true
theorem zE : type_of% @Nat.le_of_ble_eq_true := @Nat.le_of_ble_eq_true
theorem zR : type_of% @Sem.run_bind := @Sem.run_bind
theorem zT : type_of% @Sem.run_pure := @Sem.run_pure
theorem zY : type_of% @Nat.le_refl := @Nat.le_refl
theorem zU : type_of% @Bool.and_eq_true := @Bool.and_eq_true
theorem zI : type_of% @Array.getElem?_eq_some_iff := @Array.getElem?_eq_some_iff
theorem zO : type_of% @List.length_cons := @List.length_cons
theorem zP : type_of% @List.length_append := @List.length_append
theorem zA : type_of% @List.mem_cons_of_mem := @List.mem_cons_of_mem
theorem zS : type_of% @List.length_nil := @List.length_nil
theorem zD : type_of% @List.nil_append := @List.nil_append
theorem zF : type_of% @Bool.false_eq_true := @Bool.false_eq_true
theorem zG : type_of% @Option.map_eq_some_iff := @Option.map_eq_some_iff
theorem zH : type_of% @List.not_mem_nil := @List.not_mem_nil
theorem zJ : type_of% @List.cons_append := @List.cons_append
theorem zK : type_of% @List.getElem?_eq_getElem := @List.getElem?_eq_getElem
theorem zL : type_of% @List.getElem?_toArray := @List.getElem?_toArray
@[simp] theorem aa4 {α : Type} (t e : α) : bc true t e = t := rfl
@[simp] theorem aa3 {α : Type} (t e : α) : bc false t e = e := rfl
theorem ab {α : Type} (c : Bool) (t e : α) : bc c t e = if c then t else e := by cases c <;> rfl
theorem N.get_set_same {α : Type} (i : I) (x : α) (t : N α) : N.get i (N.set i x t) = x := by cases i <;> rfl
theorem N.get_set_ne {α : Type} {i j : I} (h : i ≠ j) (x : α) (t : N α) : N.get i (N.set j x t) = N.get i t := by
 cases i <;> cases j <;> first | rfl | exact absurd rfl h
theorem N.get_all {α : Type} (i : I) (x : α) : N.get i (N.all x) = x := by cases i <;> rfl
theorem I.num_lt (i : I) : i.num < 16 := by cases i <;> decide
theorem I.num_inj {i j : I} (h : i.num = j.num) : i = j := by cases i <;> cases j <;> first | rfl | cases h
theorem I.of_num (x : Nat) (h : x < 16) : (I.of x).num = x := by
 match x, h with
 | 0, _ | 1, _ | 2, _ | 3, _ | 4, _ | 5, _ | 6, _ | 7, _ | 8, _ | 9, _ | 10, _ | 11, _ | 12, _ | 13, _ | 14, _ | 15, _ => rfl
 | n + 16, h => omega
theorem I.of_inj {x y : Nat} (hx : x < 16) (hy : y < 16) (h : I.of x = I.of y) : x = y := by
 rw [← I.of_num x hx, ← I.of_num y hy, h]
theorem I.next_num {i : I} (h : i.isMax = false) : i.next.num = i.num + 1 := by cases i <;> first | rfl | cases h
theorem I.max_num {i : I} (h : i.isMax = true) : i.num = 15 := by cases i <;> first | rfl | cases h
theorem K.num_mk (a b c d : I) : (K.mk a b c d).num = ((a.num * 16 + b.num) * 16 + c.num) * 16 + d.num := rfl
theorem K.num_inj {k l : K} (h : k.num = l.num) : k = l := by
 obtain ⟨a, b, c, d⟩ := k
 obtain ⟨a', b', c', d'⟩ := l
 simp only [K.num_mk] at h
 have h1 := a.num_lt; have h2 := b.num_lt; have h3 := c.num_lt; have h4 := d.num_lt
 have h1' := a'.num_lt; have h2' := b'.num_lt; have h3' := c'.num_lt; have h4' := d'.num_lt
 rw [I.num_inj (i := a) (j := a') (by omega), I.num_inj (i := b) (j := b') (by omega), I.num_inj (i := c) (j := c') (by omega), I.num_inj (i := d) (j := d') (by omega)]
theorem K.succ_num {k : K} (h : k.isMax = false) : k.succ.num = k.num + 1 := by
 obtain ⟨a, b, c, d⟩ := k
 show (bc d.isMax (bc c.isMax (bc b.isMax (K.mk a.next .i0 .i0 .i0) (.mk a b.next .i0 .i0)) (.mk a b c.next .i0)) (.mk a b c d.next)).num = _
 have h' : bc a.isMax (bc b.isMax (bc c.isMax d.isMax false) false) false = false := h
 cases hd : d.isMax
 ·simp only [aa3, K.num_mk, I.next_num hd]; omega
 ·have := I.max_num hd
  cases hc : c.isMax
  ·simp only [aa3, aa4, K.num_mk, I.next_num hc]; show _ + 0 = _; omega
  ·have := I.max_num hc
   cases hb : b.isMax
   ·simp only [aa3, aa4, K.num_mk, I.next_num hb]; show (_ * 16 + 0) * 16 + 0 = _; omega
   ·have := I.max_num hb
    cases ha : a.isMax
    ·simp only [aa4, K.num_mk, I.next_num ha]; show ((_ * 16 + 0) * 16 + 0) * 16 + 0 = _; omega
    ·rw [ha, hb, hc, hd] at h'; cases h'
theorem K.beq_iff (k l : K) : K.beq k l = true ↔ k = l := by
 constructor
 ·intro h; exact K.num_inj (zW h)
 ·rintro rfl; exact Nat.beq_refl _
theorem ah (k : K) (o : AObj) (h : H4) : ae k (b8 k o h) = o := by
 obtain ⟨a, b, c, d⟩ := k
 show N.get d (N.get c (N.get b (N.get a (N.set a (N.set b (N.set c (N.set d o (N.get c (N.get b (N.get a h)))) (N.get b (N.get a h))) (N.get a h)) h)))) = o
 rw [N.get_set_same, N.get_set_same, N.get_set_same, N.get_set_same]
theorem ap {k l : K} (hn : k ≠ l) (o : AObj) (h : H4) : ae k (b8 l o h) = ae k h := by
 obtain ⟨a, b, c, d⟩ := k
 obtain ⟨a', b', c', d'⟩ := l
 show N.get d (N.get c (N.get b (N.get a (N.set a' (N.set b' (N.set c' (N.set d' o (N.get c' (N.get b' (N.get a' h)))) (N.get b' (N.get a' h))) (N.get a' h)) h)))) = N.get d (N.get c (N.get b (N.get a h)))
 by_cases ha : a = a'
 ·subst ha; rw [N.get_set_same]
  by_cases hb : b = b'
  ·subst hb; rw [N.get_set_same]
   by_cases hc : c = c'
   ·subst hc; rw [N.get_set_same]
    by_cases hd : d = d'
    ·subst hd; exact absurd rfl hn
    ·rw [N.get_set_ne hd]
   ·rw [N.get_set_ne hc]
  ·rw [N.get_set_ne hb]
 ·rw [N.get_set_ne ha]
theorem a5y (k : K) : ae k ai8 = .none := by
 obtain ⟨a, b, c, d⟩ := k
 show N.get d (N.get c (N.get b (N.get a ai8))) = _
 unfold ai8
 rw [N.get_all, N.get_all, N.get_all, N.get_all]
def lc : Cells → Nat
 | .c0 _ => 16
 | .c1 _ => 256
 | .c2 _ => 4096
 | .c3 _ => 65536
theorem abb {a b : Nat} (ha : a < 16) (hb : b < 16) (h : a ≠ b) : I.of a ≠ I.of b := fun e => h (I.of_inj ha hb e)
theorem ah2 (x : C0) (i j : Nat) (v : AV) : s7 (as1 x i v) j = if i % 16 = j % 16 then v else s7 x j := by
 show N.get (I.of (j % 16)) (N.set (I.of (i % 16)) v x) = if i % 16 = j % 16 then v else N.get (I.of (j % 16)) x
 by_cases h : i % 16 = j % 16
 ·rw [if_pos h, h, N.get_set_same]
 ·rw [if_neg h, N.get_set_ne (abb (by omega) (by omega) (fun e => h e.symm))]
theorem ah3 (x : C1) (i j : Nat) (v : AV) : qz (as2 x i v) j = if i % 256 = j % 256 then v else qz x j := by
 show s7 (N.get (I.of (j / 16 % 16)) (N.set (I.of (i / 16 % 16)) (as1 (N.get (I.of (i / 16 % 16)) x) i v) x)) j = if i % 256 = j % 256 then v else s7 (N.get (I.of (j / 16 % 16)) x) j
 by_cases h : i / 16 % 16 = j / 16 % 16
 ·rw [h, N.get_set_same, ah2]
  by_cases h' : i % 16 = j % 16
  ·rw [if_pos h', if_pos (by omega)]
  ·rw [if_neg h', if_neg (by omega)]
 ·rw [if_neg (by omega), N.get_set_ne (abb (by omega) (by omega) (fun e => h e.symm))]
theorem ah5 (x : C2) (i j : Nat) (v : AV) : q9 (as3 x i v) j = if i % 4096 = j % 4096 then v else q9 x j := by
 show qz (N.get (I.of (j / 256 % 16)) (N.set (I.of (i / 256 % 16)) (as2 (N.get (I.of (i / 256 % 16)) x) i v) x)) j = if i % 4096 = j % 4096 then v else qz (N.get (I.of (j / 256 % 16)) x) j
 by_cases h : i / 256 % 16 = j / 256 % 16
 ·rw [h, N.get_set_same, ah3]
  by_cases h' : i % 256 = j % 256
  ·rw [if_pos h', if_pos (by omega)]
  ·rw [if_neg h', if_neg (by omega)]
 ·rw [if_neg (by omega), N.get_set_ne (abb (by omega) (by omega) (fun e => h e.symm))]
theorem av8 (x : C3) (i j : Nat) (v : AV) : ah6 (a8d x i v) j = if i % 65536 = j % 65536 then v else ah6 x j := by
 show q9 (N.get (I.of (j / 4096 % 16)) (N.set (I.of (i / 4096 % 16)) (as3 (N.get (I.of (i / 4096 % 16)) x) i v) x)) j = if i % 65536 = j % 65536 then v else q9 (N.get (I.of (j / 4096 % 16)) x) j
 by_cases h : i / 4096 % 16 = j / 4096 % 16
 ·rw [h, N.get_set_same, ah5]
  by_cases h' : i % 4096 = j % 4096
  ·rw [if_pos h', if_pos (by omega)]
  ·rw [if_neg h', if_neg (by omega)]
 ·rw [if_neg (by omega), N.get_set_ne (abb (by omega) (by omega) (fun e => h e.symm))]
theorem adn (c : Cells) (i : Nat) (v : AV) : lc (a8c c i v) = lc c := by cases c <;> rfl
theorem a5o (c : Cells) (i j : Nat) (v : AV) (hi : i < lc c) (hj : j < lc c) : uj (a8c c i v) j = if i = j then v else uj c j := by
 cases c with
 | c0 x => simp only [lc] at hi hj; show s7 (as1 x i v) j = if i = j then v else s7 x j; rw [ah2, Nat.mod_eq_of_lt hi, Nat.mod_eq_of_lt hj]
 | c1 x => simp only [lc] at hi hj; show qz (as2 x i v) j = if i = j then v else qz x j; rw [ah3, Nat.mod_eq_of_lt hi, Nat.mod_eq_of_lt hj]
 | c2 x => simp only [lc] at hi hj; show q9 (as3 x i v) j = if i = j then v else q9 x j; rw [ah5, Nat.mod_eq_of_lt hi, Nat.mod_eq_of_lt hj]
 | c3 x => simp only [lc] at hi hj; show ah6 (a8d x i v) j = if i = j then v else ah6 x j; rw [av8, Nat.mod_eq_of_lt hi, Nat.mod_eq_of_lt hj]
theorem a5n (i : Nat) (c : Cells) : mc [] i c = c := rfl
theorem ah1 (v : AV) (l : List AV) (i : Nat) (c : Cells) : mc (v :: l) i c = mc l (i + 1) (a8c c i v) := rfl
theorem du (l : List AV) : ∀ (i : Nat) (c : Cells), lc (mc l i c) = lc c := by
 induction l with
 | nil => intro i c; rfl
 | cons v l ih => intro i c; rw [ah1, ih, adn]
theorem ja (l : List AV) : ∀ (i : Nat) (c : Cells) (j : Nat), i + l.length ≤ lc c → j < lc c →
  uj (mc l i c) j = if h : i ≤ j ∧ j - i < l.length then l[j - i]'h.2 else uj c j := by
 induction l with
 | nil => intro i c j _ _; simp [a5n]
 | cons v l ih =>
   intro i c j h1 h2
   simp only [zO] at h1
   rw [ah1, ih (i + 1) (a8c c i v) j (by rw [adn]; omega) (by rw [adn]; omega), a5o c i j v (by omega) h2]
   by_cases ha : i + 1 ≤ j ∧ j - (i + 1) < l.length
   ·rw [dif_pos ha, dif_pos ⟨by omega, by simp; omega⟩]
    have e : j - i = (j - (i + 1)) + 1 := by omega
    simp only [e, List.getElem_cons_succ]
   ·rw [dif_neg ha]
    by_cases hb : i = j
    ·subst hb; rw [if_pos rfl, dif_pos ⟨zY _, by simp⟩]; simp
    ·rw [if_neg hb, dif_neg (by simp; omega)]
theorem iu (n : Nat) (h : n ≤ 65536) : n ≤ lc (jo n) := by
 unfold jo
 simp only [ab]
 split
 ·rename_i h1; exact zE h1
 ·split
  ·rename_i h1; exact zE h1
  ·split
   ·rename_i h1; exact zE h1
   ·exact h
theorem av {α : Type} (l : List α) : bq l = l.length := by
 induction l with
 | nil => rfl
 | cons x l ih => show Nat.succ (bq l) = _; rw [ih]; rfl
theorem wc (c : Cells) (n : Nat) : ∀ i, lq c n i = (List.range n).map fun j => uj c (i + j) := by
 induction n with
 | zero => intro i; rfl
 | succ n ih =>
   intro i
   show uj c i :: lq c n (i + 1) = _
   rw [ih, List.range_succ_eq_map]
   simp only [List.map_cons, List.map_map, Nat.add_zero, List.cons.injEq, true_and]
   apply List.map_congr_left
   intro j _
   show uj c (i + 1 + j) = uj c (i + (j + 1))
   rw [show i + 1 + j = i + (j + 1) by omega]
theorem be3 (c : Cells) (n : Nat) (h : n ≤ 65536) : n ≤ lc (cup c n) ∧ lc c ≤ lc (cup c n) := by
 cases c with
 | c0 x =>
   show n ≤ lc (up0 x n) ∧ 16 ≤ lc (up0 x n)
   unfold up0
   simp only [ab]
   repeat' split
   all_goals (simp only [lc]; rename_i h1; first | (have := zE h1; omega) | omega)
 | c1 x =>
   show n ≤ lc (up1 x n) ∧ 256 ≤ lc (up1 x n)
   unfold up1
   simp only [ab]
   repeat' split
   all_goals (simp only [lc]; rename_i h1; first | (have := zE h1; omega) | omega)
 | c2 x =>
   show n ≤ lc (up2 x n) ∧ 4096 ≤ lc (up2 x n)
   unfold up2
   simp only [ab]
   repeat' split
   all_goals (simp only [lc]; rename_i h1; first | (have := zE h1; omega) | omega)
 | c3 x => exact ⟨h, zY _⟩
theorem ah4 (x : C0) (j : Nat) (h : j < 16) : qz (N.set .i0 x wa) j = s7 x j := by
 show s7 (N.get (I.of (j / 16 % 16)) (N.set .i0 x wa)) j = _
 rw [show j / 16 % 16 = 0 by omega]; rfl
theorem aa9 (x : C1) (j : Nat) (h : j < 256) : q9 (N.set .i0 x uh) j = qz x j := by
 show qz (N.get (I.of (j / 256 % 16)) (N.set .i0 x uh)) j = _
 rw [show j / 256 % 16 = 0 by omega]; rfl
theorem ah7 (x : C2) (j : Nat) (h : j < 4096) : ah6 (N.set .i0 x zr) j = q9 x j := by
 show q9 (N.get (I.of (j / 4096 % 16)) (N.set .i0 x zr)) j = _
 rw [show j / 4096 % 16 = 0 by omega]; rfl
theorem a73 (c : Cells) (n j : Nat) (h : j < lc c) : uj (cup c n) j = uj c j := by
 cases c with
 | c0 x =>
   simp only [lc] at h
   show uj (up0 x n) j = s7 x j
   unfold up0
   simp only [ab]
   split
   ·rfl
   ·split
    ·exact ah4 x j h
    ·split
     ·exact (aa9 _ j (by omega)).trans (ah4 x j h)
     ·exact ((ah7 _ j (by omega)).trans (aa9 _ j (by omega))).trans (ah4 x j h)
 | c1 x =>
   simp only [lc] at h
   show uj (up1 x n) j = qz x j
   unfold up1
   simp only [ab]
   split
   ·rfl
   ·split
    ·exact aa9 _ j h
    ·exact (ah7 _ j (by omega)).trans (aa9 _ j h)
 | c2 x =>
   simp only [lc] at h
   show uj (up2 x n) j = q9 x j
   unfold up2
   simp only [ab]
   split
   ·rfl
   ·exact ah7 _ j h
 | c3 x => rfl
theorem a8x (i j i' j' : I) (v : AV) (t : F2) : aiy i' j' (ate i j v t) = if i = i' ∧ j = j' then v else aiy i' j' t := by
 show N.get j' (N.get i' (N.set i (N.set j v (N.get i t)) t)) = if i = i' ∧ j = j' then v else N.get j' (N.get i' t)
 by_cases hi : i = i'
 ·subst hi; rw [N.get_set_same]
  by_cases hj : j = j'
  ·subst hj; rw [N.get_set_same]; simp
  ·rw [N.get_set_ne (fun e => hj e.symm)]; simp [hj]
 ·rw [N.get_set_ne (fun e => hi e.symm)]; simp [hi]
theorem abs {t : Nat} (h : t < 256) (lo hi : F2) : gr t (.mk lo hi) = aiy (I.of (t / 16)) (I.of (t % 16)) lo := by
 unfold gr; rw [show Nat.ble t 255 = true from Nat.ble_eq_true_of_le (by omega)]; rfl
theorem abr {t : Nat} (h : ¬ t < 256) (h' : t < 512) (lo hi : F2) : gr t (.mk lo hi) = aiy (I.of (t / 16 - 16)) (I.of (t % 16)) hi := by
 unfold gr
 rw [show Nat.ble t 255 = false from by rw [Bool.eq_false_iff]; intro e; have := zE e; omega, show Nat.ble t 511 = true from Nat.ble_eq_true_of_le (by omega)]; rfl
theorem th {t : Nat} (h : 512 ≤ t) (τ : F) : gr t τ = .top := by
 unfold gr
 rw [show Nat.ble t 255 = false from by rw [Bool.eq_false_iff]; intro e; have := zE e; omega, show Nat.ble t 511 = false from by rw [Bool.eq_false_iff]; intro e; have := zE e; omega]; rfl
theorem bfl {t : Nat} (h : t < 256) (v : AV) (lo hi : F2) : atk t v (.mk lo hi) = .mk (ate (I.of (t / 16)) (I.of (t % 16)) v lo) hi := by
 unfold atk; rw [show Nat.ble t 255 = true from Nat.ble_eq_true_of_le (by omega)]; rfl
theorem bfk {t : Nat} (h : ¬ t < 256) (v : AV) (lo hi : F2) : atk t v (.mk lo hi) = .mk lo (ate (I.of (t / 16 - 16)) (I.of (t % 16)) v hi) := by
 unfold atk
 rw [show Nat.ble t 255 = false from by rw [Bool.eq_false_iff]; intro e; have := zE e; omega]; rfl
theorem of2 {a b : Nat} (ha : a < 256) (hb : b < 256) : (I.of (a / 16) = I.of (b / 16) ∧ I.of (a % 16) = I.of (b % 16)) ↔ a = b := by
 constructor
 ·rintro ⟨h1, h2⟩
  have := I.of_inj (by omega) (by omega) h1
  have := I.of_inj (by omega) (by omega) h2
  omega
 ·rintro rfl; exact ⟨rfl, rfl⟩
theorem b0z {a b : Nat} (ha : a < 512) (hb : b < 512) (ha' : 256 ≤ a) (hb' : 256 ≤ b) : (I.of (a / 16 - 16) = I.of (b / 16 - 16) ∧ I.of (a % 16) = I.of (b % 16)) ↔ a = b := by
 constructor
 ·rintro ⟨h1, h2⟩
  have := I.of_inj (by omega) (by omega) h1
  have := I.of_inj (by omega) (by omega) h2
  omega
 ·rintro rfl; exact ⟨rfl, rfl⟩
theorem xz (t t' : Nat) (v : AV) (τ : F) (h : t < 512) (h' : t' < 512) : gr t' (atk t v τ) = if t = t' then v else gr t' τ := by
 obtain ⟨lo, hi⟩ := τ
 by_cases a : t < 256
 ·rw [bfl a]
  by_cases b : t' < 256
  ·rw [abs b, abs b, a8x]; simp only [of2 a b]
  ·rw [abr b h', abr b h', if_neg (by omega)]
 ·rw [bfk a]
  by_cases b : t' < 256
  ·rw [abs b, abs b, if_neg (by omega)]
  ·rw [abr b h', abr b h', a8x]; simp only [b0z h h' (by omega) (by omega)]
theorem a5t (t : Nat) (h : t < 512) : gr t mt = gu := by
 have e : ∀ i j, aiy i j aiz = gu := by intro i j; show N.get j (N.get i aiz) = _; unfold aiz; rw [N.get_all, N.get_all]
 unfold mt
 by_cases a : t < 256
 ·rw [abs a, e]
 ·rw [abr a h, e]
end Go.Ev
set_option linter.all false
namespace Go.Ev
def py (l : List Int) : ByteArray := ⟨(l.map fun x => UInt8.ofNat x.toNat).toArray⟩
def ia : Nat → List Int → Nat → List Int
 | 0, _, _ => []
 | f + 1, s, p => if p < s.length then ((Utf8.decode (py s) p).1 : Int) :: ia f s (p + (Utf8.decode (py s) p).2) else []
def ak (s : List Int) (p : Nat) : List Int := ia s.length s p
def a9o (s : List Int) (p : Int) (r : List Int) : Prop := 0 ≤ p ∧ p ≤ (s.length : Int) ∧ (r.length : Int) ≤ p ∧ s.length ≤ 4000
def jn (op : Nat) (k : IntKind) (a b : Int) : Int := match op with
 | 8 => (c8 .and k a b).getD 0
 | 9 => (c8 .or k a b).getD 0
 | 11 => k.wrap (a * 2 ^ (min b.toNat k.bits))
 | 12 => a.fdiv (2 ^ (min b.toNat k.bits))
 | 13 => (c8 .andNot k a b).getD 0
 | _ => 0
def chA (R : List Int) (p : Int) : Int := if p < (R.length : Int) then R.getD p.toNat 0 else -1
def ald (c : Int) : Int := if c = 9 ∨ c = 10 ∨ c = 12 ∨ c = 13 ∨ c = 32 then 1 else 0
def sj (c : Int) : Int := if c = 40 ∨ c = 41 ∨ c = 91 ∨ c = 93 ∨ c = 34 ∨ c = 39 ∨ c = 96 ∨ c = 44 ∨ c = 59 ∨ ald c = 1 then 1 else 0
def apb (R : List Int) (p : Int) : Int := if p < (R.length : Int) then sj (R.getD p.toNat 0) else 1
def ou (R : List Int) : Prop := R.length ≤ 4000 ∧ ∀ x ∈ R, 0 ≤ x ∧ x < 1114112
def al (R : List Int) (p b : Int) : Int :=
 if _h : p < (R.length : Int) then
  if b = 1 then al R (p + 1) (if R.getD p.toNat 0 = 10 then 0 else 1)
  else if R.getD p.toNat 0 = 59 then al R (p + 1) 1
  else if ald (R.getD p.toNat 0) = 1 then al R (p + 1) 0
  else p
 else p
termination_by ((R.length : Int) - p).toNat
decreasing_by all_goals omega
def sh8 (c n : Int) : Int := IntKind.u8.wrap (jn 12 .i32 c n)
def lo8 (x : Int) : Int := jn 9 .u8 128 (jn 8 .u8 x 63)
def c9 (c : Int) : List Int :=
 if 127 < c then
  if 2047 < c then
   if c < 55296 then [jn 9 .u8 224 (sh8 c 12), lo8 (sh8 c 6), lo8 (IntKind.u8.wrap c)]
   else if 57343 < c then
    if 65535 < c then [jn 9 .u8 240 (sh8 c 18), lo8 (sh8 c 12), lo8 (sh8 c 6), lo8 (IntKind.u8.wrap c)]
    else [jn 9 .u8 224 (sh8 c 12), lo8 (sh8 c 6), lo8 (IntKind.u8.wrap c)]
   else [239, 191, 189]
  else [jn 9 .u8 192 (sh8 c 6), lo8 (IntKind.u8.wrap c)]
 else [c]
structure TK where
 f : Int
 p : Int
 b : List Int
 q : Int
def kk (R : List Int) (p : Int) (b : List Int) (q : Int) : TK :=
 if _h : p < (R.length : Int) then
  if sj (R.getD p.toNat 0) = 1 then ⟨0, p, b, q⟩
  else if R.getD p.toNat 0 = 92 then
   (if p + 1 < (R.length : Int) then kk R (p + 2) (b ++ c9 (R.getD (p + 1).toNat 0)) 1 else ⟨5, 0, [], 0⟩)
  else kk R (p + 1) (b ++ c9 (R.getD p.toNat 0)) q
 else ⟨0, p, b, q⟩
termination_by ((R.length : Int) - p).toNat
decreasing_by all_goals omega
def gy (s : List Int) : List Int := s.dropWhile fun c => decide (c = 43 ∨ c = 45)
structure NR where
 k : Int
 n : Int
def drJ (s : List Int) (p : Int) : Int := ((Utf8.decode (py s) p.toNat).1 : Int)
def dwJ (s : List Int) (p : Int) : Int := ((Utf8.decode (py s) p.toNat).2 : Int)
def lf (d : List Int) (p sum most fits : Int) : NR :=
 if _h : p < (d.length : Int) then
  if drJ d p < 48 ∨ 57 < drJ d p then ⟨0, 0⟩
  else if _h2 : 0 < dwJ d p then
   (if most < (sum * 10 % 18446744073709551616 + (drJ d p - 48)) % 18446744073709551616 then lf d (p + dwJ d p) most most 0
    else lf d (p + dwJ d p) ((sum * 10 % 18446744073709551616 + (drJ d p - 48)) % 18446744073709551616) most fits)
  else ⟨0, 0⟩
 else ⟨if fits = 1 then 1 else 2, sum⟩
termination_by ((d.length : Int) - p).toNat
decreasing_by all_goals omega
def zc (s : List Int) : Int := if s.getD 0 0 = 45 then 1 else 0
def ajm (s : List Int) : NR := if gy s = [] ∨ (s.length : Int) - ((gy s).length : Int) > 1 then ⟨0, 0⟩ else lf (gy s) 0 0 (if zc s = 1 then 2305843009213693952 else 2305843009213693951) 1
def qw (s : List Int) : Int := (ajm s).k
def auo (s : List Int) : Int := if zc s = 1 then -(ajm s).n else (ajm s).n
def vt (s : List Int) (p : Int) : Int :=
 if _h : p < (s.length : Int) then (if _h2 : 0 < dwJ s p then 1 + vt s (p + dwJ s p) else 0) else 0
termination_by ((s.length : Int) - p).toNat
decreasing_by all_goals omega
def bj (s : List Int) : Int := if Lib.validD (s.map fun x => UInt8.ofNat x.toNat) = true then 1 else 0
def az1 : Nat → List Int → List (List Int × Int)
 | 0, _ => []
 | _ + 1, [] => []
 | _ + 1, [_] => []
 | f + 1, n :: k :: l => (l.take k.toNat, n) :: az1 f (l.drop k.toNat)
def aub (l : List Int) : List (List Int × Int) := (az1 l.length l).reverse
def bo5 (G s : List Int) : Int := if ((aub G).lookup s).isSome then 1 else 0
def bo3 (G s : List Int) : Int := ((aub G).lookup s).getD 0
def aia (G : List Int) : Int := ((aub G).length : Int)
structure IR where
 f : Int
 n : Int
 G : List Int
def nj (G s : List Int) : IR :=
 if bj s = 0 then ⟨5, 0, G⟩
 else if 1000 < vt s 0 then ⟨4, 0, G⟩
 else if bo5 G s = 1 then ⟨0, bo3 G s, G⟩
 else if aia G < 16384 then ⟨0, aia G, aia G :: (s.length : Int) :: (s ++ G)⟩
 else ⟨7, 0, G⟩
def hL (h : List Int) : Int := h.getD 0 0
def hM (h : List Int) : Int := h.getD 1 0
def hU (h : List Int) : Int := h.getD 2 0
def azq (h : List Int) : Prop := h = [hL h, hM h, hU h] ∧ 1 ≤ hL h ∧ hL h ≤ 50000 ∧ 0 ≤ hM h ∧ hM h ≤ hL h ∧ 0 ≤ hU h ∧ hU h ≤ 1048576
structure AR where
 f : Int
 h : List Int
def ua (h : List Int) (z : Int) : AR := if hM h = hL h ∨ 1048576 < hU h + z then ⟨7, h⟩ else ⟨0, [hL h, hM h + 1, hU h + z]⟩
def bcv (h : List Int) (n : Int) : AR := if 65536 < n then ⟨4, h⟩ else ua h n
def n8 (h s : List Int) : AR := if bj s = 0 then ⟨5, h⟩ else if 65536 < vt s 0 then ⟨4, h⟩ else ua h (vt s 0)
structure CN where
 f : Int
 k : Int
 n : Int
 h : List Int
def a76 : Nat → List Int → Int → Int → CN
 | 0, h, k, n => ⟨0, k, n, h⟩
 | i + 1, h, k, n => if (ua h 0).f = 0 then a76 i (ua h 0).h 2 (hM h) else ⟨(ua h 0).f, 0, 0, h⟩
def si (i : Int) (h : List Int) (k n : Int) : CN := a76 i.toNat h k n
def acb (c : Int) : Int := if c = 110 then 10 else if c = 116 then 9 else if c = 101 then 27 else -1
def aik (c : Int) : Int := if 48 ≤ c ∧ c ≤ 57 then c - 48 else if 97 ≤ c ∧ c ≤ 102 then c - 87 else if 65 ≤ c ∧ c ≤ 70 then c - 55 else -1
structure ER where
 f : Int
 a : Int
 c : Int
 p : Int
def mp (R : List Int) (p c n : Int) : ER :=
 if _h : n < 6 ∧ p < (R.length : Int) then
  if aik (R.getD p.toNat 0) < 0 then ⟨0, n, c, p⟩
  else mp R (p + 1) (jn 9 .i64 (jn 11 .i64 c 4) (aik (R.getD p.toNat 0))) (n + 1)
 else ⟨0, n, c, p⟩
termination_by ((R.length : Int) - p).toNat
decreasing_by all_goals omega
def qf (c : Int) : Int := if 0 ≤ c ∧ c ≤ 1114111 ∧ ¬(55296 ≤ c ∧ c ≤ 57343) then 1 else 0
def ul (R : List Int) (p at_ : Int) : ER :=
 if (mp R p 0 0).p < (R.length : Int) then
  if (mp R p 0 0).a = 0 ∨ R.getD (mp R p 0 0).p.toNat 0 ≠ 92 ∨ qf (mp R p 0 0).c = 0 then ⟨5, at_, 0, 0⟩
  else ⟨0, 0, (mp R p 0 0).c, (mp R p 0 0).p + 1⟩
 else ⟨5, (R.length : Int), 0, 0⟩
def jc (R : List Int) (p : Int) : ER :=
 if p < (R.length : Int) then
  if R.getD p.toNat 0 = 10 then ⟨0, 0, -1, p + 1⟩
  else if R.getD p.toNat 0 = 92 ∨ R.getD p.toNat 0 = 34 then ⟨0, 0, R.getD p.toNat 0, p + 1⟩
  else if R.getD p.toNat 0 = 120 then ul R (p + 1) (p - 1)
  else if acb (R.getD p.toNat 0) < 0 then ⟨5, p - 1, 0, 0⟩
  else ⟨0, 0, acb (R.getD p.toNat 0), p + 1⟩
 else ⟨5, (R.length : Int), 0, 0⟩
structure TX where
 f : Int
 a : Int
 b : List Int
 p : Int
def jp (R : List Int) (p : Int) (b : List Int) : TX :=
 if _h : p < (R.length : Int) then
  if R.getD p.toNat 0 = 34 then ⟨0, 0, b, p + 1⟩
  else if R.getD p.toNat 0 = 92 then
   (if (jc R (p + 1)).f = 0 then
     (if _h2 : p < (jc R (p + 1)).p then
       (if (jc R (p + 1)).c < 0 then jp R (jc R (p + 1)).p b else jp R (jc R (p + 1)).p (b ++ c9 (jc R (p + 1)).c))
      else ⟨5, 0, [], 0⟩)
    else ⟨(jc R (p + 1)).f, (jc R (p + 1)).a, [], 0⟩)
  else jp R (p + 1) (b ++ c9 (R.getD p.toNat 0))
 else ⟨5, (R.length : Int), [], 0⟩
termination_by ((R.length : Int) - p).toNat
decreasing_by all_goals omega
def bgo (R : List Int) (p : Int) : Int := if chA R p = 92 ∧ chA R (p + 2) = 45 then (if chA R (p + 1) = 67 then 67108864 else if chA R (p + 1) = 77 then 134217728 else if chA R (p + 1) = 83 then 33554432 else 0) else 0
structure PR where
 p : Int
 b : Int
def aea (R : List Int) (p b : Int) : PR :=
 if _h : p < (R.length : Int) then (if bgo R p = 0 then ⟨p, b⟩ else aea R (p + 3) (jn 9 .i64 b (bgo R p))) else ⟨p, b⟩
termination_by ((R.length : Int) - p).toNat
decreasing_by all_goals omega
def zl (R : List Int) (p : Int) : ER :=
 if p < (R.length : Int) then
  if R.getD p.toNat 0 = 92 then
   (if p + 1 < (R.length : Int) then
     (if acb (R.getD (p + 1).toNat 0) < 0 then
       (if R.getD (p + 1).toNat 0 = 115 then ⟨0, 0, 32, p + 2⟩
        else if R.getD (p + 1).toNat 0 = 100 then ⟨0, 0, 127, p + 2⟩
        else if 97 ≤ R.getD (p + 1).toNat 0 ∧ R.getD (p + 1).toNat 0 ≤ 122 ∨ 65 ≤ R.getD (p + 1).toNat 0 ∧ R.getD (p + 1).toNat 0 ≤ 90 then ⟨5, p, 0, 0⟩
        else ⟨0, 0, R.getD (p + 1).toNat 0, p + 2⟩)
      else ⟨0, 0, acb (R.getD (p + 1).toNat 0), p + 2⟩)
    else ⟨5, (R.length : Int), 0, 0⟩)
  else ⟨0, 0, R.getD p.toNat 0, p + 1⟩
 else ⟨5, (R.length : Int), 0, 0⟩
def bz2 (c b : Int) : Int :=
 if jn 8 .i64 b 67108864 = 0 then jn 9 .i64 c b
 else if 97 ≤ c ∧ c ≤ 122 ∨ 64 ≤ c ∧ c ≤ 95 then jn 9 .i64 (c.tmod 32) (jn 13 .i64 b 67108864)
 else if c = 63 then jn 9 .i64 127 (jn 13 .i64 b 67108864)
 else jn 9 .i64 c b
def aba (R : List Int) (q : Int) : ER :=
 if (zl R (aea R (q + 1) 0).p).f = 0 then
  if apb R (zl R (aea R (q + 1) 0).p).p = 1 then ⟨0, 0, bz2 (zl R (aea R (q + 1) 0).p).c (aea R (q + 1) 0).b, (zl R (aea R (q + 1) 0).p).p⟩
  else ⟨5, (zl R (aea R (q + 1) 0).p).p, 0, 0⟩
 else ⟨(zl R (aea R (q + 1) 0).p).f, (zl R (aea R (q + 1) 0).p).a, 0, 0⟩
structure FR where
 f : Int
 a : Int
 k : Int
 n : Int
 p : Int
 h : List Int
 G : List Int
def bad (f a : Int) : FR := ⟨f, a, 0, 0, 0, [], []⟩
def bv1 (G s : List Int) (at_ p : Int) (h : List Int) : FR := if (nj G s).f = 0 then ⟨0, 0, 1, (nj G s).n, p, h, (nj G s).G⟩ else bad (nj G s).f at_
def b1h (t : TK) (len q : Int) (h G : List Int) : FR :=
 if t.f = 0 then
  if t.q = 0 ∧ qw t.b = 2 then bad 15 q
  else if t.q = 0 ∧ qw t.b = 1 then ⟨0, 0, 0, auo t.b, t.p, h, G⟩
  else if t.q = 0 ∧ t.b = [46] then bad 5 q
  else if 1000 < vt t.b 0 then bad 4 q
  else bv1 G t.b q t.p h
 else bad 5 len
def b1i (t : TX) (q : Int) (h G : List Int) : FR :=
 if t.f = 0 then (if (n8 h t.b).f = 0 then ⟨0, 0, 3, hM h, t.p, (n8 h t.b).h, G⟩ else bad (n8 h t.b).f q) else bad t.f t.a
def bz0 (t : ER) (h G : List Int) : FR := if t.f = 0 then ⟨0, 0, 0, t.c, t.p, h, G⟩ else bad t.f t.a
def bua (c : CN) (q p : Int) (G : List Int) : FR := if c.f = 0 then ⟨0, 0, c.k, c.n, p, c.h, G⟩ else bad c.f q
def b1j (v : AR) (q p n : Int) (G : List Int) : FR := if v.f = 0 then ⟨0, 0, 4, n, p, v.h, G⟩ else bad v.f q
def bgz (r : FR) (q : Int) : FR := if r.f = 0 then bua (si 2 r.h 1 0) q r.p r.G else r
theorem acd (R : List Int) : ∀ (n : Nat) (p b : Int), ((R.length : Int) - p).toNat ≤ n → p ≤ al R p b
 | 0, p, b, h => by rw [al, dif_neg (by omega)]; exact Int.le_refl _
 | n + 1, p, b, h => by
   rw [al]
   split
   ·split
    ·have := acd R n (p + 1) (if R.getD p.toNat 0 = 10 then 0 else 1) (by omega); omega
    ·split
     ·have := acd R n (p + 1) 1 (by omega); omega
     ·split
      ·have := acd R n (p + 1) 0 (by omega); omega
      ·exact Int.le_refl _
   ·exact Int.le_refl _
theorem af8 (R : List Int) (p b : Int) : p ≤ al R p b := acd R _ p b (zY _)
mutual
def ce (R : List Int) (p o : Int) (h G : List Int) : FR :=
 if hq : al R p 0 < (R.length : Int) then
  if chA R (al R p 0) = 40 then (if 200 ≤ o then bad 12 (al R p 0) else n5 R (al R p 0 + 1) (o + 1) (al R p 0) 0 1 0 h G)
  else if chA R (al R p 0) = 91 then (if 200 ≤ o then bad 12 (al R p 0) else ack R (al R p 0 + 1) (o + 1) (al R p 0) 0 h G)
  else if chA R (al R p 0) = 41 ∨ chA R (al R p 0) = 93 then bad 5 (al R p 0)
  else if chA R (al R p 0) = 34 then b1i (jp R (al R p 0 + 1) []) (al R p 0) h G
  else if chA R (al R p 0) = 63 then bz0 (aba R (al R p 0)) h G
  else if chA R (al R p 0) = 39 ∨ chA R (al R p 0) = 96 then (if 200 ≤ o then bad 12 (al R p 0) else bgz (ce R (al R p 0 + 1) (o + 1) h G) (al R p 0))
  else if chA R (al R p 0) = 44 then
   (if chA R (al R p 0 + 1) = 64 then (if 200 ≤ o then bad 12 (al R p 0) else bgz (ce R (al R p 0 + 2) (o + 1) h G) (al R p 0))
    else (if 200 ≤ o then bad 12 (al R p 0) else bgz (ce R (al R p 0 + 1) (o + 1) h G) (al R p 0)))
  else if chA R (al R p 0) = 35 then
   (if chA R (al R p 0 + 1) = 39 then (if 200 ≤ o then bad 12 (al R p 0) else bgz (ce R (al R p 0 + 2) (o + 1) h G) (al R p 0))
    else if chA R (al R p 0 + 1) = 35 ∧ apb R (al R p 0 + 2) = 1 then bv1 G [] (al R p 0) (al R p 0 + 2) h
    else bad 5 (al R p 0))
  else b1h (kk R (al R p 0) [] 0) (R.length : Int) (al R p 0) h G
 else bad 5 (R.length : Int)
termination_by 2 * ((R.length : Int) - p).toNat + 1
decreasing_by all_goals (have := af8 R p 0; omega)
def n5 (R : List Int) (p o at_ cnt tk tn : Int) (h G : List Int) : FR :=
 if hs : al R p 0 < (R.length : Int) then
  if chA R (al R p 0) = 41 then bua (si cnt h tk tn) at_ (al R p 0 + 1) G
  else if chA R (al R p 0) = 46 ∧ apb R (al R p 0 + 1) = 1 ∧ 0 < cnt then
   (if (ce R (al R p 0 + 1) o h G).f = 0 then
     (if hp : al R p 0 < al R (ce R (al R p 0 + 1) o h G).p 0 then
       (if chA R (al R (ce R (al R p 0 + 1) o h G).p 0) = 41 then n5 R (al R (ce R (al R p 0 + 1) o h G).p 0) o at_ cnt (ce R (al R p 0 + 1) o h G).k (ce R (al R p 0 + 1) o h G).n (ce R (al R p 0 + 1) o h G).h (ce R (al R p 0 + 1) o h G).G
        else bad 5 (al R (ce R (al R p 0 + 1) o h G).p 0))
      else bad 5 0)
    else ce R (al R p 0 + 1) o h G)
  else
   (if (ce R (al R p 0) o h G).f = 0 then
     (if hp : al R p 0 < (ce R (al R p 0) o h G).p then n5 R (ce R (al R p 0) o h G).p o at_ (cnt + 1) tk tn (ce R (al R p 0) o h G).h (ce R (al R p 0) o h G).G else bad 5 0)
    else ce R (al R p 0) o h G)
 else bad 5 (R.length : Int)
termination_by 2 * ((R.length : Int) - p).toNat + 2
decreasing_by all_goals (have := af8 R p 0; omega)
def ack (R : List Int) (p o at_ cnt : Int) (h G : List Int) : FR :=
 if hs : al R p 0 < (R.length : Int) then
  if chA R (al R p 0) = 93 then b1j (bcv h cnt) at_ (al R p 0 + 1) (hM h) G
  else
   (if (ce R (al R p 0) o h G).f = 0 then
     (if hp : al R p 0 < (ce R (al R p 0) o h G).p then ack R (ce R (al R p 0) o h G).p o at_ (cnt + 1) (ce R (al R p 0) o h G).h (ce R (al R p 0) o h G).G else bad 5 0)
    else ce R (al R p 0) o h G)
 else bad 5 (R.length : Int)
termination_by 2 * ((R.length : Int) - p).toNat + 2
decreasing_by all_goals (have := af8 R p 0; omega)
end
structure AW where
 f : Int
 a : Int
 l : List Int
 h : List Int
 G : List Int
def ub (R : List Int) (p : Int) (l h G : List Int) : AW :=
 if hs : p < (R.length : Int) then
  (if (ce R p 0 h G).f = 0 then
    (if hp : p < al R (ce R p 0 h G).p 0 then ub R (al R (ce R p 0 h G).p 0) (l ++ [(ce R p 0 h G).k, (ce R p 0 h G).n]) (ce R p 0 h G).h (ce R p 0 h G).G else ⟨5, 0, [], [], []⟩)
   else ⟨(ce R p 0 h G).f, (ce R p 0 h G).a, [], [], []⟩)
 else ⟨0, 0, l, h, G⟩
termination_by ((R.length : Int) - p).toNat
decreasing_by all_goals omega
def bvb (s : List Int) (p i : Int) (L : List Int) (n : Int) (h1 G1 h G : List Int) : Prop :=
 s.length ≤ 1500 ∧ 1 ≤ s.length ∧ bj s = 1 ∧ 0 ≤ p ∧ p ≤ ((ak s 0).length : Int) ∧ 0 ≤ i ∧ i ≤ p ∧ 1 ≤ n ∧ i ≤ n ∧ n ≤ 1500 ∧ (L.length : Int) = 2 * n ∧
  (ub (ak s 0) (al (ak s 0) p 0) [] h G).f = 0 ∧ (ub (ak s 0) (al (ak s 0) p 0) [] h G).l = L.drop (2 * i).toNat ∧
  (ub (ak s 0) (al (ak s 0) p 0) [] h G).h = h1 ∧ (ub (ak s 0) (al (ak s 0) p 0) [] h G).G = G1
def bvc (s : List Int) (p i f a : Int) (h G : List Int) : Prop :=
 s.length ≤ 1500 ∧ 1 ≤ s.length ∧ bj s = 1 ∧ 0 ≤ p ∧ p ≤ ((ak s 0).length : Int) ∧ 0 ≤ i ∧ i ≤ p ∧
  (ub (ak s 0) (al (ak s 0) p 0) [] h G).f = f ∧ (ub (ak s 0) (al (ak s 0) p 0) [] h G).a = a ∧ f ≠ 0
def ptN (s : List Int) : Int := if drJ s 0 = 65533 ∧ dwJ s 0 ≤ 1 then 0 else dwJ s 0
def ptC (s : List Int) : Int := if drJ s 0 = 65533 ∧ dwJ s 0 ≤ 1 then 0 else drJ s 0
def bse (l : List Int) (i n : Int) : List Int := ((l.take n.toNat).drop i.toNat).flatMap c9
def hxd (d : Int) : Int := if d < 10 then 48 + d else 87 + d
def bth : Nat → Int → List Int
 | 0, _ => []
 | f + 1, c => if c < 16 then [hxd c] else bth f (c / 16) ++ [hxd (c % 16)]
def bti (c : Int) : List Int := bth 8 c
def bz6 (c : Int) : List Int := 92 :: 120 :: (bti c ++ [92])
def isE (c b : Int) : Prop := ¬ b = 0 ∨ c = 34 ∨ c = 92
instance (c b : Int) : Decidable (isE c b) := by unfold isE; infer_instance
def b01 (c b : Int) : List Int := if isE c b then bz6 c else c9 c
def bv0 : List Int → List Int → List Int
 | c :: l, y :: by_ => b01 c y ++ bv0 l by_
 | _, _ => []
def bzz (l : List Int) (i : Int) : Int := if (l.drop i.toNat).all (fun c => qf c == 1) then 1 else 0
def acf (k c : Int) : Int := if c = 92 then 1 else if k = 0 then (if c = 34 then 1 else 0) else sj c
def l9 (k : Int) (s : List Int) (p : Int) : List Int :=
 if _h : p < (s.length : Int) then (if _h2 : 0 < dwJ s p then (if acf k (drJ s p) = 1 then [92] else []) ++ (c9 (drJ s p) ++ l9 k s (p + dwJ s p)) else []) else []
termination_by ((s.length : Int) - p).toNat
decreasing_by all_goals omega
def s9 : Nat → Int → List Int
 | 0, _ => []
 | f + 1, n => if n < 10 then [48 + n] else s9 f (n / 10) ++ [48 + n % 10]
def ej (n : Int) : List Int := if n < 0 then 45 :: s9 20 (-n) else s9 20 n
def g0L : List Int := [61, 27, 99, 121, 99, 108, 105, 99, 45, 102, 117, 110, 99, 116, 105, 111, 110, 45, 105, 110, 100, 105, 114, 101, 99, 116, 105, 111, 110, 60, 16, 98, 117, 102, 102, 101, 114, 45, 114, 101, 97, 100, 45, 111, 110, 108, 121, 59, 10, 117, 115, 101, 114, 45, 101, 114, 114, 111, 114, 58, 14, 105, 110, 118, 97, 108, 105, 100, 45, 114, 101, 103, 101, 120, 112, 57, 13, 115, 101, 97, 114, 99, 104, 45, 102, 97, 105, 108, 101, 100, 56, 13, 101, 110, 100, 45, 111, 102, 45, 98, 117, 102, 102, 101, 114, 55, 19, 98, 101, 103, 105, 110, 110, 105, 110, 103, 45, 111, 102, 45, 98, 117, 102, 102, 101, 114, 54, 14, 116, 101, 120, 116, 45, 114, 101, 97, 100, 45, 111, 110, 108, 121, 53, 11, 109, 101, 109, 111, 114, 121, 45, 102, 117, 108, 108, 52, 22, 101, 120, 99, 101, 115, 115, 105, 118, 101, 45, 108, 105, 115, 112, 45, 110, 101, 115, 116, 105, 110, 103, 51, 13, 99, 105, 114, 99, 117, 108, 97, 114, 45, 108, 105, 115, 116, 50, 11, 101, 110, 100, 45, 111, 102, 45, 102, 105, 108, 101, 49, 19, 105, 110, 118, 97, 108, 105, 100, 45, 114, 101, 97, 100, 45, 115, 121, 110, 116, 97, 120, 48, 16, 105, 110, 118, 97, 108, 105, 100, 45, 102, 117, 110, 99, 116, 105, 111, 110, 47, 8, 110, 111, 45, 99, 97, 116, 99, 104, 46, 16, 115, 101, 116, 116, 105, 110, 103, 45, 99, 111, 110, 115, 116, 97, 110, 116, 45, 14, 111, 118, 101, 114, 102, 108, 111, 119, 45, 101, 114, 114, 111, 114, 44, 11, 97, 114, 105, 116, 104, 45, 101, 114, 114, 111, 114, 43, 17, 97, 114, 103, 115, 45, 111, 117, 116, 45, 111, 102, 45, 114, 97, 110, 103, 101, 42, 25, 119, 114, 111, 110, 103, 45, 110, 117, 109, 98, 101, 114, 45, 111, 102, 45, 97, 114, 103, 117, 109, 101, 110, 116, 115, 41, 19, 119, 114, 111, 110, 103, 45, 116, 121, 112, 101, 45, 97, 114, 103, 117, 109, 101, 110, 116, 40, 13, 118, 111, 105, 100, 45, 102, 117, 110, 99, 116, 105, 111, 110, 39, 13, 118, 111, 105, 100, 45, 118, 97, 114, 105, 97, 98, 108, 101, 38, 4, 113, 117, 105, 116, 37, 5, 101, 114, 114, 111, 114, 36, 6, 115, 105, 103, 110, 97, 108, 35, 5, 116, 104, 114, 111, 119, 34, 4, 101, 118, 97, 108, 33, 4, 109, 97, 112, 99, 32, 6, 109, 97, 112, 99, 97, 114, 31, 5, 97, 112, 112, 108, 121, 30, 7, 102, 117, 110, 99, 97, 108, 108, 29, 11, 105, 110, 116, 101, 114, 97, 99, 116, 105, 118, 101, 28, 8, 100, 101, 102, 109, 97, 99, 114, 111, 27, 5, 100, 101, 102, 117, 110, 26, 8, 100, 101, 102, 99, 111, 110, 115, 116, 25, 6, 100, 101, 102, 118, 97, 114, 24, 14, 99, 111, 110, 100, 105, 116, 105, 111, 110, 45, 99, 97, 115, 101, 23, 14, 117, 110, 119, 105, 110, 100, 45, 112, 114, 111, 116, 101, 99, 116, 22, 5, 99, 97, 116, 99, 104, 21, 4, 108, 101, 116, 42, 20, 3, 108, 101, 116, 19, 4, 115, 101, 116, 113, 18, 5, 112, 114, 111, 103, 49, 17, 5, 112, 114, 111, 103, 110, 16, 5, 119, 104, 105, 108, 101, 15, 2, 111, 114, 14, 3, 97, 110, 100, 13, 4, 99, 111, 110, 100, 12, 2, 105, 102, 11, 9, 38, 111, 112, 116, 105, 111, 110, 97, 108, 10, 5, 38, 114, 101, 115, 116, 9, 5, 109, 97, 99, 114, 111, 8, 7, 99, 108, 111, 115, 117, 114, 101, 7, 6, 108, 97, 109, 98, 100, 97, 6, 2, 44, 64, 5, 1, 44, 4, 1, 96, 3, 8, 102, 117, 110, 99, 116, 105, 111, 110, 2, 5, 113, 117, 111, 116, 101, 1, 1, 116, 0, 3, 110, 105, 108]
open Classical in
noncomputable def bp2 : Nat → List (List Int) → Int
 | 11, [s, p, r] => if a9o s (p.headD 0) r then 1 else 0
 | 40, [c] => ald (c.headD 0)
 | 41, [c] => sj (c.headD 0)
 | 42, [R] => if ou R then 1 else 0
 | 43, [R, p, b] => al R (p.headD 0) (b.headD 0)
 | 44, [R, p, b, q] => (kk R (p.headD 0) b (q.headD 0)).f
 | 45, [R, p, b, q] => (kk R (p.headD 0) b (q.headD 0)).p
 | 46, [R, p, b, q] => (kk R (p.headD 0) b (q.headD 0)).q
 | 47, [s] => qw s
 | 48, [s] => auo s
 | 49, [s, p] => vt s (p.headD 0)
 | 50, [s] => bj s
 | 51, [d, p, s, m, t] => (lf d (p.headD 0) (s.headD 0) (m.headD 0) (t.headD 0)).k
 | 52, [d, p, s, m, t] => (lf d (p.headD 0) (s.headD 0) (m.headD 0) (t.headD 0)).n
 | 53, [G] => aia G
 | 54, [G, s] => (nj G s).f
 | 55, [G, s] => (nj G s).n
 | 56, [h] => if azq h then 1 else 0
 | 57, [h, z] => (ua h (z.headD 0)).f
 | 58, [h, z] => (bcv h (z.headD 0)).f
 | 59, [h, s] => (n8 h s).f
 | 60, [R, p, o, h, G] => (ce R (p.headD 0) (o.headD 0) h G).f
 | 61, [R, p, o, h, G] => (ce R (p.headD 0) (o.headD 0) h G).a
 | 62, [R, p, o, h, G] => (ce R (p.headD 0) (o.headD 0) h G).k
 | 63, [R, p, o, h, G] => (ce R (p.headD 0) (o.headD 0) h G).n
 | 64, [R, p, o, h, G] => (ce R (p.headD 0) (o.headD 0) h G).p
 | 65, [R, p, o, a, c, k, n, h, G] => (n5 R (p.headD 0) (o.headD 0) (a.headD 0) (c.headD 0) (k.headD 0) (n.headD 0) h G).f
 | 66, [R, p, o, a, c, k, n, h, G] => (n5 R (p.headD 0) (o.headD 0) (a.headD 0) (c.headD 0) (k.headD 0) (n.headD 0) h G).a
 | 67, [R, p, o, a, c, k, n, h, G] => (n5 R (p.headD 0) (o.headD 0) (a.headD 0) (c.headD 0) (k.headD 0) (n.headD 0) h G).k
 | 68, [R, p, o, a, c, k, n, h, G] => (n5 R (p.headD 0) (o.headD 0) (a.headD 0) (c.headD 0) (k.headD 0) (n.headD 0) h G).n
 | 69, [R, p, o, a, c, k, n, h, G] => (n5 R (p.headD 0) (o.headD 0) (a.headD 0) (c.headD 0) (k.headD 0) (n.headD 0) h G).p
 | 70, [R, p, o, a, c, h, G] => (ack R (p.headD 0) (o.headD 0) (a.headD 0) (c.headD 0) h G).f
 | 71, [R, p, o, a, c, h, G] => (ack R (p.headD 0) (o.headD 0) (a.headD 0) (c.headD 0) h G).a
 | 72, [R, p, o, a, c, h, G] => (ack R (p.headD 0) (o.headD 0) (a.headD 0) (c.headD 0) h G).n
 | 73, [R, p, o, a, c, h, G] => (ack R (p.headD 0) (o.headD 0) (a.headD 0) (c.headD 0) h G).p
 | 74, [i, h, k, n] => (si (i.headD 0) h (k.headD 0) (n.headD 0)).f
 | 75, [i, h, k, n] => (si (i.headD 0) h (k.headD 0) (n.headD 0)).k
 | 76, [i, h, k, n] => (si (i.headD 0) h (k.headD 0) (n.headD 0)).n
 | 77, [c] => acb (c.headD 0)
 | 78, [c] => aik (c.headD 0)
 | 79, [c] => qf (c.headD 0)
 | 80, [R, p, c, n] => (mp R (p.headD 0) (c.headD 0) (n.headD 0)).p
 | 81, [R, p, c, n] => (mp R (p.headD 0) (c.headD 0) (n.headD 0)).c
 | 82, [R, p, c, n] => (mp R (p.headD 0) (c.headD 0) (n.headD 0)).a
 | 83, [R, p, a] => (ul R (p.headD 0) (a.headD 0)).f
 | 84, [R, p, a] => (ul R (p.headD 0) (a.headD 0)).a
 | 85, [R, p, a] => (ul R (p.headD 0) (a.headD 0)).c
 | 86, [R, p, a] => (ul R (p.headD 0) (a.headD 0)).p
 | 87, [R, p] => (jc R (p.headD 0)).f
 | 88, [R, p] => (jc R (p.headD 0)).a
 | 89, [R, p] => (jc R (p.headD 0)).c
 | 90, [R, p] => (jc R (p.headD 0)).p
 | 91, [R, p, b] => (jp R (p.headD 0) b).f
 | 92, [R, p, b] => (jp R (p.headD 0) b).a
 | 93, [R, p, b] => (jp R (p.headD 0) b).p
 | 94, [R, p] => bgo R (p.headD 0)
 | 95, [R, p, b] => (aea R (p.headD 0) (b.headD 0)).p
 | 96, [R, p, b] => (aea R (p.headD 0) (b.headD 0)).b
 | 97, [R, p] => (zl R (p.headD 0)).f
 | 98, [R, p] => (zl R (p.headD 0)).a
 | 100, [R, p] => (zl R (p.headD 0)).c
 | 101, [R, p] => (zl R (p.headD 0)).p
 | 102, [R, p] => (aba R (p.headD 0)).f
 | 103, [R, p] => (aba R (p.headD 0)).a
 | 104, [R, p] => (aba R (p.headD 0)).c
 | 105, [R, p] => (aba R (p.headD 0)).p
 | 106, [R, p, l, h, G] => (ub R (p.headD 0) l h G).f
 | 107, [R, p, l, h, G] => (ub R (p.headD 0) l h G).a
 | 108, [R, p] => apb R (p.headD 0)
 | 110, [R, p, l, h, G] => ((ub R (p.headD 0) l h G).l.length : Int) / 2
 | 111, [s, p, i, L, n, h1, G1, h, G] => if bvb s (p.headD 0) (i.headD 0) L (n.headD 0) h1 G1 h G then 1 else 0
 | 112, [s, p, i, f, a, h, G] => if bvc s (p.headD 0) (i.headD 0) (f.headD 0) (a.headD 0) h G then 1 else 0
 | 113, [s] => ptN s
 | 114, [s] => ptC s
 | 115, [l, i] => bzz l (i.headD 0)
 | 120, [k, c] => acf (k.headD 0) (c.headD 0)
 | _, _ => 0
noncomputable def b00 : Nat → List (List Int) → List Int
 | 6, [s, p] => ak s (p.headD 0).toNat
 | 40, [c] => c9 (c.headD 0)
 | 44, [R, p, b, q] => (kk R (p.headD 0) b (q.headD 0)).b
 | 47, [s] => gy s
 | 54, [G, s] => (nj G s).G
 | 57, [h, z] => (ua h (z.headD 0)).h
 | 58, [h, z] => (bcv h (z.headD 0)).h
 | 59, [h, s] => (n8 h s).h
 | 60, [R, p, o, h, G] => (ce R (p.headD 0) (o.headD 0) h G).h
 | 61, [R, p, o, h, G] => (ce R (p.headD 0) (o.headD 0) h G).G
 | 65, [R, p, o, a, c, k, n, h, G] => (n5 R (p.headD 0) (o.headD 0) (a.headD 0) (c.headD 0) (k.headD 0) (n.headD 0) h G).h
 | 66, [R, p, o, a, c, k, n, h, G] => (n5 R (p.headD 0) (o.headD 0) (a.headD 0) (c.headD 0) (k.headD 0) (n.headD 0) h G).G
 | 70, [R, p, o, a, c, h, G] => (ack R (p.headD 0) (o.headD 0) (a.headD 0) (c.headD 0) h G).h
 | 71, [R, p, o, a, c, h, G] => (ack R (p.headD 0) (o.headD 0) (a.headD 0) (c.headD 0) h G).G
 | 74, [i, h, k, n] => (si (i.headD 0) h (k.headD 0) (n.headD 0)).h
 | 91, [R, p, b] => (jp R (p.headD 0) b).b
 | 106, [R, p, l, h, G] => (ub R (p.headD 0) l h G).l
 | 107, [R, p, l, h, G] => (ub R (p.headD 0) l h G).h
 | 108, [R, p, l, h, G] => (ub R (p.headD 0) l h G).G
 | 109, [] => g0L
 | 110, [l, i, n] => bse l (i.headD 0) (n.headD 0)
 | 115, [c] => bti (c.headD 0)
 | 116, [l, y, i] => bv0 (l.drop (i.headD 0).toNat) (y.drop (i.headD 0).toNat)
 | 120, [k, s, p] => l9 (k.headD 0) s (p.headD 0)
 | 121, [n] => ej (n.headD 0)
 | _, _ => []
def bmp (l : List Int) (s : Value) (x : Option Obj) : Prop := ∃ arr fz, x = some (.cells arr 132 fz) ∧ arr.toList = [.int .i64 (hL l), .int .i64 (hM l), .int .i64 (hU l), s, .slice none 0 0] ∧ fz.1 = fz.2
def btg (l : List Int) (c : Nat) (F : Nat → Prop) (H : Array Obj) : Prop := azq l ∧ ((hM l = 0 ∧ (F = fun x => x = c) ∧ bmp l (.slice none 0 0) H[c]?) ∨
 ∃ b arr fz cap, b ≠ c ∧ (F = fun x => x = c ∨ x = b) ∧ bmp l (.slice (some ⟨b, 0, none⟩) (hM l).toNat cap) H[c]? ∧ H[b]? = some (.cells arr 126 fz) ∧ fz.2 ≤ fz.1 ∧ (hM l).toNat ≤ cap ∧ cap ≤ arr.size)
def amd (k : Nat) (l : List Int) (c : Nat) (F : Nat → Prop) (H : Array Obj) : Prop := k = 1 ∧ btg l c F H
theorem atm {k : Nat} {l : List Int} {c : Nat} {F : Nat → Prop} {H H' : Array Obj} (hF : ∀ b, F b → H'[b]? = H[b]?) (h : amd k l c F H) : amd k l c F H' := by
 obtain ⟨hk, hr, h⟩ := h
 refine ⟨hk, hr, ?_⟩
 rcases h with ⟨h0, rfl, hx⟩ | ⟨b, arr, fz, cap, hb, rfl, hx, ha, h1, h2, h3⟩
 ·refine .inl ⟨h0, rfl, ?_⟩
  rw [hF c rfl]; exact hx
 ·refine .inr ⟨b, arr, fz, cap, hb, rfl, ?_, ?_, h1, h2, h3⟩
  ·rw [hF c (.inl rfl)]; exact hx
  ·rw [hF b (.inr rfl)]; exact ha
end Go.Ev
set_option linter.all false
namespace Go.Ev
def be (len n : Nat) : List UInt8 := (List.range len).map fun i => UInt8.ofNat (n / 256 ^ (len - 1 - i))
def ar (len n : Nat) : ByteArray := ⟨(be len n).toArray⟩
theorem ao (len n : Nat) : (be len n).length = len := by simp [be]
theorem dg (len n : Nat) : (ar len n).size = len := by simp [ar, ByteArray.size, be]
theorem lm (len n i : Nat) (h : i < (be len n).length) : (be len n)[i] = UInt8.ofNat (n / 256 ^ (len - 1 - i)) := by simp [be]
theorem nk (n k : Nat) : Nat.shiftRight n (8 * k) = n / 256 ^ k := by
 show n >>> (8 * k) = _
 rw [Nat.shiftRight_eq_div_pow, Nat.pow_mul]
theorem bbf (len n i : Nat) : sAt len n i = n / 256 ^ (len - 1 - i) % 256 := by
 unfold sAt; rw [nk]
theorem axc (len n i : Nat) : sAt len n i < 256 := by rw [bbf]; exact Nat.mod_lt _ (by decide)
theorem aao (n : Nat) : UInt8.ofNat (n % 256) = UInt8.ofNat n := by
 apply UInt8.toNat_inj.1; simp
theorem mb (len n i : Nat) (h : i < (be len n).length) : (be len n)[i] = UInt8.ofNat (sAt len n i) := by
 rw [lm, bbf, aao]
theorem u3 (len n i : Nat) : (UInt8.ofNat (sAt len n i)).toNat = sAt len n i := by
 have := axc len n i
 simp; omega
theorem qy (l1 n1 l2 n2 : Nat) (h : n2 < 256 ^ l2) : be (l1 + l2) (n1 * 256 ^ l2 + n2) = be l1 n1 ++ be l2 n2 := by
 apply List.ext_getElem
 ·simp [ao]
 ·intro i h1 h2
  rw [lm]
  rw [ao] at h1
  rw [List.getElem_append]
  split
  ·rename_i h3
   rw [ao] at h3
   rw [lm]
   have e : l1 + l2 - 1 - i = l2 + (l1 - 1 - i) := by omega
   rw [e, Nat.pow_add, ← Nat.div_div_eq_div_mul, Nat.mul_comm n1, Nat.mul_add_div (Nat.pow_pos (by decide)), Nat.div_eq_of_lt h, Nat.add_zero]
  ·rename_i h3
   rw [ao] at h3
   rw [lm, ao]
   have e : l1 + l2 - 1 - i = l2 - 1 - (i - l1) := by omega
   rw [e]
   have e2 : 256 ^ l2 = 256 ^ (l2 - 1 - (i - l1)) * 256 ^ (i - l1 + 1) := by rw [← Nat.pow_add]; congr 1; omega
   rw [e2, Nat.mul_left_comm, Nat.mul_add_div (Nat.pow_pos (by decide)), ← aao, Nat.pow_succ, ← Nat.mul_assoc, Nat.mul_comm _ 256, Nat.mul_add_mod, aao]
theorem a72 (l1 n1 l2 n2 : Nat) (h1 : n1 < 256 ^ l1) (h : n2 < 256 ^ l2) : n1 * 256 ^ l2 + n2 < 256 ^ (l1 + l2) := by
 rw [Nat.pow_add]
 have q1 : (n1 + 1) * 256 ^ l2 ≤ 256 ^ l1 * 256 ^ l2 := Nat.mul_le_mul_right _ h1
 rw [Nat.succ_mul] at q1
 omega
theorem asu (len n lo hi : Nat) (h1 : lo ≤ hi) (h2 : hi ≤ len) :
  be (hi - lo) (Nat.shiftRight n (8 * (len - hi)) % 256 ^ (hi - lo)) = (be len n).extract lo hi := by
 apply List.ext_getElem
 ·simp [ao]; omega
 ·intro i h3 h4
  rw [ao] at h3
  rw [lm]
  simp only [List.extract_eq_take_drop, List.getElem_take, List.getElem_drop]
  rw [lm, nk]
  have e2 : 256 ^ (hi - lo) = 256 ^ (hi - lo - 1 - i) * 256 ^ (i + 1) := by rw [← Nat.pow_add]; congr 1; omega
  rw [e2, Nat.mod_mul_right_div_self, ← aao, Nat.pow_succ, Nat.mul_comm (256 ^ i) 256, Nat.mod_mul_right_mod, aao, Nat.div_div_eq_div_mul, ← Nat.pow_add]
  congr 2
  congr 1
  omega
theorem ug (len n : Nat) : be (len + 1) n = be len (n / 256) ++ [UInt8.ofNat n] := by
 have h := qy len (n / 256) 1 (n % 256) (by simpa using Nat.mod_lt _ (by decide))
 rw [Nat.pow_one, Nat.div_add_mod' n 256] at h
 rw [h]
 simp [be, aao]
theorem asv : ∀ (l n n' : Nat), n < 256 ^ l → n' < 256 ^ l → be l n = be l n' → n = n' := by
 intro l
 induction l with
 | zero => intro n n' h h' _; simp at h h'; omega
 | succ l ih =>
   intro n n' h h' e
   rw [ug, ug] at e
   have ⟨e1, e2⟩ := List.append_inj' e rfl
   have h3 := ih (n / 256) (n' / 256) (by rw [Nat.pow_succ] at h; exact Nat.div_lt_of_lt_mul (by omega)) (by rw [Nat.pow_succ] at h'; exact Nat.div_lt_of_lt_mul (by omega)) e1
   simp only [List.cons.injEq, and_true] at e2
   have h4 := congrArg UInt8.toNat e2
   simp at h4
   omega
theorem aw8 (l : List UInt8) : ∀ (b : UInt8) (a : Nat), mi (l ++ [b]) a = mi l a * 256 + b.toNat := by
 induction l with
 | nil => intro b a; rfl
 | cons x l ih => intro b a; show mi (l ++ [b]) (a * 256 + x.toNat) = mi l (a * 256 + x.toNat) * 256 + b.toNat; exact ih b _
theorem aaj : ∀ (n : Nat) (l : List UInt8), l.length = n → mi l 0 < 256 ^ n ∧ be n (mi l 0) = l := by
 intro n
 induction n with
 | zero => intro l h; obtain rfl := List.length_eq_zero_iff.1 h; exact ⟨by decide, rfl⟩
 | succ n ih =>
   intro l h
   obtain ⟨l', b, rfl⟩ : ∃ l' b, l = l' ++ [b] := ⟨l.dropLast, l.getLast (by intro e; simp [e] at h), (List.dropLast_concat_getLast _).symm⟩
   have ⟨h1, h2⟩ := ih l' (by simpa using h)
   rw [aw8]
   have hb := UInt8.toNat_lt b
   constructor
   ·rw [Nat.pow_succ]; omega
   ·rw [ug]
    have e : (mi l' 0 * 256 + b.toNat) / 256 = mi l' 0 := by omega
    rw [e, h2]
    congr 2
    rw [← aao, show (mi l' 0 * 256 + b.toNat) % 256 = b.toNat by omega]
    simp
theorem xe (s : ByteArray) : ar s.data.toList.length (mi s.data.toList 0) = s := by
 unfold ar
 rw [(aaj _ _ rfl).2]
theorem ao2 (l : List UInt8) : mi l 0 < 256 ^ l.length := (aaj _ l rfl).1
theorem bha (l n l' n' : Nat) (h : n < 256 ^ l) (h' : n' < 256 ^ l') : sEq l n l' n' = decide (ar l n = ar l' n') := by
 unfold sEq
 rw [ab]
 by_cases e : l = l'
 ·subst e
  rw [if_pos (Nat.beq_refl _)]
  by_cases e2 : n = n'
  ·subst e2; simp
  ·rw [show Nat.beq n n' = false from Bool.eq_false_iff.2 fun h => e2 (zW h)]
   symm
   rw [decide_eq_false_iff_not]
   intro e3
   unfold ar at e3
   have e4 : be l n = be l n' := by simpa using e3
   exact e2 (asv l n n' h h' e4)
 ·rw [if_neg (fun h => e (zW h))]
  symm
  rw [decide_eq_false_iff_not]
  intro e3
  have := congrArg ByteArray.size e3
  rw [dg, dg] at this
  exact e this
end Go.Ev
set_option linter.all false
namespace Go.Ev
structure Env where
 blk : K → Option Nat
 sz : K → Nat
 ft : K → Nat → Prop := fun _ _ => False
instance : CoeFun Env (fun _ => K → Option Nat) := ⟨Env.blk⟩
def SlOk (ρ : Env) (b : K) (o cap cap' : Nat) : Option Nat → Prop
 | none => cap' = cap
 | some es => o + cap' * es ≤ ρ.sz b
def FnRel (ρ : Env) : Fn → Fn → Prop
 | .yield n, f => ∃ c, ρ (K.of n) = some c ∧ f = .yield c
 | g, f => f = g
class Gv where
 σ : Nat → List Int
def aj (l : List Int) : ByteArray := ⟨(l.map fun x => UInt8.ofNat x.toNat).toArray⟩
def ay (l : List Int) : Prop := ∀ x ∈ l, 0 ≤ x ∧ x < 256
def alo : Nat → List Int → List (List Int × Int)
 | 0, _ => []
 | _ + 1, [] => []
 | _ + 1, [_] => []
 | f + 1, n :: k :: l => (l.take k.toNat, n) :: alo f (l.drop k.toNat)
def wy (l : List Int) : List (List Int × Int) := (alo l.length l).reverse
def qv (op : Nat) (k : IntKind) (a b : Int) : Int := match op with
 | 0 => k.wrap (a + b)
 | 1 => k.wrap (a - b)
 | 2 => k.wrap (a * b)
 | 3 => k.wrap (a.tdiv b)
 | 4 => a.tmod b
 | 5 => a % b
 | 6 => a + b
 | 7 => a * b
 | 8 => (c8 .and k a b).getD 0
 | 9 => (c8 .or k a b).getD 0
 | 10 => (c8 .xor k a b).getD 0
 | 11 => k.wrap (a * 2 ^ (min b.toNat k.bits))
 | 12 => a.fdiv (2 ^ (min b.toNat k.bits))
 | 13 => (c8 .andNot k a b).getD 0
 | _ => 0
mutual
noncomputable def SE.eval (σ : Nat → List Int) : SE → Int
 | .v i => (σ i).headD 0
 | .c n => n
 | .bin op k a b => qv op k (a.eval σ) (b.eval σ)
 | .len g => ((g.eval σ).length : Int)
 | .rd g e => (g.eval σ).getD (e.eval σ).toNat 0
 | .dr g e => ((Utf8.decode (aj (g.eval σ)) (e.eval σ).toNat).1 : Int)
 | .dw g e => ((Utf8.decode (aj (g.eval σ)) (e.eval σ).toNat).2 : Int)
 | .eqg g h => if g.eval σ = h.eval σ then 1 else 0
 | .mhas m g => if ((wy (m.eval σ)).lookup (g.eval σ)).isSome then 1 else 0
 | .mget m g => ((wy (m.eval σ)).lookup (g.eval σ)).getD 0
 | .app f l => bp2 f (l.eval σ)
noncomputable def GE.eval (σ : Nat → List Int) : GE → List Int
 | .s i => σ i
 | .nil => []
 | .one e => [e.eval σ]
 | .cat a b => a.eval σ ++ b.eval σ
 | .lit l n => (be l n).map fun b => (b.toNat : Int)
 | .cut g a b => ((g.eval σ).take (b.eval σ).toNat).drop (a.eval σ).toNat
 | .enc e => (Utf8.encode (e.eval σ)).data.toList.map fun b => (b.toNat : Int)
 | .app f l => b00 f (l.eval σ)
noncomputable def AL.eval (σ : Nat → List Int) : AL → List (List Int)
 | .nil => []
 | .i e l => [e.eval σ] :: l.eval σ
 | .g g l => g.eval σ :: l.eval σ
end
def arL : List (Nat × Nat × Int × Int) := []
noncomputable def bro (s : ByteArray) : Int × Int × Int := match arL.find? fun p => decide (ar p.1 p.2.1 = s) with
 | some p => (p.2.2.1, p.2.2.2, 1)
 | none => (0, 0, 0)
noncomputable def alp (σ : Nat → List Int) : ByteArray := ar ((σ 13).headD 0).toNat ((σ 14).headD 0).toNat
def bzu (σ : Nat → List Int) : Prop := bro (alp σ) = ((σ 3).headD 0, (σ 4).headD 0, (σ 5).headD 0)
def SxRel (σ : Nat → List Int) (c : Nat) (e : SE) (A : List (Nat × Nat)) (v : Value) : Prop := match c with
 | 0 => v = .string (alp σ) ∧ ∀ p ∈ A, alp σ ≠ ar p.1 p.2
 | 1 => v = .bool (decide (e.eval σ ≠ 0))
 | _ => v = .string (alp σ) ∧ bzu σ
def SA.holds (σ : Nat → List Int) : SA → Prop
 | .mk true a b r => decide (a.eval σ < b.eval σ) = r
 | .mk false a b r => decide (a.eval σ = b.eval σ) = r
def SAll (σ : Nat → List Int) (A : List SA) : Prop := ∀ x ∈ A, x.holds σ
variable [Gv]
def GVRel (ρ : Env) (x : GV) (v : Value) : Prop := match x with
 | .str g A => SAll Gv.σ A ∧ v = .string (aj (g.eval Gv.σ)) ∧ ay (g.eval Gv.σ)
 | .sl b es n A => SAll Gv.σ A ∧ ∃ c cap', ρ b = some c ∧ 0 ≤ n.eval Gv.σ ∧ (n.eval Gv.σ).toNat ≤ cap' ∧ cap' * es ≤ ρ.sz b ∧ v = .slice (some ⟨c, 0, none⟩) (n.eval Gv.σ).toNat cap'
 | .ptr b es i off A => SAll Gv.σ A ∧ ∃ c, ρ b = some c ∧ 0 ≤ i.eval Gv.σ ∧ v = .pointer (some ⟨c, es * (i.eval Gv.σ).toNat + off, none⟩)
 | .sr b o n A => SAll Gv.σ A ∧ ∃ c cap', ρ b = some c ∧ 0 ≤ n.eval Gv.σ ∧ (n.eval Gv.σ).toNat ≤ cap' ∧ v = .slice (some ⟨c, (o.eval Gv.σ).toNat, none⟩) (n.eval Gv.σ).toNat cap'
 | .pr b o i A => SAll Gv.σ A ∧ ∃ c, ρ b = some c ∧ 0 ≤ i.eval Gv.σ ∧ v = .pointer (some ⟨c, (o.eval Gv.σ).toNat + (i.eval Gv.σ).toNat, none⟩)
def MRel : List (List Int × Int) → List MapEntry → Prop
 | [], l => l = []
 | e :: es, l => ∃ m ms, l = m :: ms ∧ m.key = .string (aj e.1) ∧ ay e.1 ∧ m.val = .int .i64 e.2 ∧ MRel es ms
def GORel (o : GO) (x0 : Option Obj) : Prop := match o with
 | .gh t ks n g => ∃ arr fz, x0 = some (.cells arr t fz) ∧ fz.2 ≤ fz.1 ∧ 0 ≤ n.eval Gv.σ ∧ (g.eval Gv.σ).length = ks.length * (n.eval Gv.σ).toNat ∧ (g.eval Gv.σ).length ≤ arr.size ∧ (ks = [.u8] → ay (g.eval Gv.σ)) ∧
    ∀ (i : Nat) (h : i < (g.eval Gv.σ).length), ∃ k, ks[i % ks.length]? = some k ∧ arr[i]? = some (.int k (g.eval Gv.σ)[i])
 | .junk t => ∃ arr fz, x0 = some (.cells arr t fz) ∧ fz.2 ≤ fz.1
 | .gmap m => ∃ entries clock, x0 = some (.map entries clock) ∧ MRel (wy (m.eval Gv.σ)) entries.toList
 | .lh _ _ => ∃ y, x0 = some y
 | .rh o n g => ∃ arr t fz, x0 = some (.cells arr t fz) ∧ 0 ≤ n.eval Gv.σ ∧ (g.eval Gv.σ).length = (n.eval Gv.σ).toNat ∧
    ∀ (i : Nat) (h : i < (g.eval Gv.σ).length), arr[(o.eval Gv.σ).toNat + i]? = some (.int .i64 (g.eval Gv.σ)[i])
 | .rb o n g => ∃ arr t fz, x0 = some (.cells arr t fz) ∧ 0 ≤ n.eval Gv.σ ∧ (g.eval Gv.σ).length = (n.eval Gv.σ).toNat ∧
    ∀ (i : Nat) (h : i < (g.eval Gv.σ).length), arr[(o.eval Gv.σ).toNat + i]? = some (.bool (decide ((g.eval Gv.σ)[i] ≠ 0)))
 | .iter g pos A => SAll Gv.σ A ∧ x0 = some (.stringIter (aj (g.eval Gv.σ)) (pos.eval Gv.σ).toNat) ∧ 0 ≤ pos.eval Gv.σ ∧ ay (g.eval Gv.σ)
mutual
def VRel (ρ : Env) : AV → Value → Prop
 | .bool b, v => v = .bool b
 | .int k n, v => v = .int k n
 | .str l n, v => n < 256 ^ l ∧ v = .string (ar l n)
 | .nilPtr, v => v = .pointer none
 | .ptr b o, v => ∃ c, ρ b = some c ∧ v = .pointer (some ⟨c, o, none⟩)
 | .nilSlice, v => v = .slice none 0 0
 | .slice b o len cap ex, v => ∃ c cap', ρ b = some c ∧ (len ≤ cap ∧ cap ≤ cap') ∧ SlOk ρ b o cap cap' ex ∧ v = .slice (some ⟨c, o, none⟩) len cap'
 | .nilMap, v => v = .map none
 | .map b, v => ∃ c, ρ b = some c ∧ v = .map (some c)
 | .func fn x y, v => ∃ fn' x' y', v = .func fn' x' y' ∧ FnRel ρ fn fn' ∧ VRels ρ x x'.toList ∧ VRels ρ y y'.toList
 | .nilFunc, v => v = .nilFunc
 | .iface t a, v => ∃ v', v = .iface t v' ∧ VRel ρ a v'
 | .nilIface, v => v = .nilIface
 | .agg xs, v => ∃ ys, v = .agg ys ∧ VRels ρ xs ys.toList
 | .tuple xs, v => ∃ ys, v = .tuple ys ∧ VRels ρ xs ys.toList
 | .esl, v => ∃ p cap', v = .slice (some p) 0 cap'
 | .wsl b kb d n, v => ∃ c c' cap', ρ b = some c ∧ ρ kb = some c' ∧ (1 ≤ n ∧ n ≤ cap' ∧ cap' ≤ 9223372036854775807 ∧ ρ.sz kb + d + cap' ≤ ρ.sz b) ∧ v = .slice (some ⟨c, ρ.sz kb + d, none⟩) n cap'
 | .wse b, v => ∃ c p cap', ρ b = some c ∧ (cap' ≤ 9223372036854775807 ∧ p + cap' ≤ ρ.sz b) ∧ v = .slice (some ⟨c, p, none⟩) 0 cap'
 | .wptr b kb i, v => ∃ c c', ρ b = some c ∧ ρ kb = some c' ∧ v = .pointer (some ⟨c, ρ.sz kb + i, none⟩)
 | .sym k e A, v => SAll Gv.σ A ∧ v = .int k (e.eval Gv.σ)
 | .sx c e A, v => SxRel Gv.σ c e A v
 | .gv x, v => GVRel ρ x v
 | .top, _ => True
def VRels (ρ : Env) : List AV → List Value → Prop
 | [], l => l = []
 | a :: r, l => ∃ v vs, l = v :: vs ∧ VRel ρ a v ∧ VRels ρ r vs
end
def Env.le (ρ ρ' : Env) : Prop := ∀ k c, ρ k = some c → ρ' k = some c ∧ ρ'.sz k = ρ.sz k
theorem Env.le_refl (ρ : Env) : ρ.le ρ := fun _ _ h => ⟨h, rfl⟩
theorem Env.le_trans {a b c : Env} (h : a.le b) (h' : b.le c) : a.le c := fun k x e => ⟨(h' k x (h k x e).1).1, ((h' k x (h k x e).1).2).trans (h k x e).2⟩
theorem SlOk.mono {ρ ρ' : Env} {b : K} {o cap cap' : Nat} {ex : Option Nat} (h : ρ'.sz b = ρ.sz b) (e : SlOk ρ b o cap cap' ex) : SlOk ρ' b o cap cap' ex := by
 cases ex with
 | none => exact e
 | some es => simp only [SlOk] at e ⊢; rw [h]; exact e
theorem FnRel.mono {ρ ρ' : Env} (h : ρ.le ρ') : ∀ {f g : Fn}, FnRel ρ f g → FnRel ρ' f g := by
 intro f g e
 cases f <;> first | exact e | (obtain ⟨c, h1, h2⟩ := e; exact ⟨c, (h _ _ h1).1, h2⟩)
theorem FnRel.plain {ρ : Env} {f g : Fn} (h : ∀ n, f ≠ .yield n) (e : FnRel ρ f g) : g = f := by
 cases f <;> first | exact e | exact absurd rfl (h _)
theorem FnRel.refl {ρ : Env} {f : Fn} (h : ∀ n, f ≠ .yield n) : FnRel ρ f f := by
 cases f <;> first | rfl | exact absurd rfl (h _)
theorem GVRel.mono {ρ ρ' : Env} (h : ρ.le ρ') {x : GV} {v : Value} (e : GVRel ρ x v) : GVRel ρ' x v := by
 cases x with
 | str => exact e
 | sl b es n A => obtain ⟨h0, c, cap', h1, h2, h3, h4, h5⟩ := e; exact ⟨h0, c, cap', (h _ _ h1).1, h2, h3, by rw [(h _ _ h1).2]; exact h4, h5⟩
 | ptr b es i off A => obtain ⟨h0, c, h1, h2⟩ := e; exact ⟨h0, c, (h _ _ h1).1, h2⟩
 | sr b o n A => obtain ⟨h0, c, cap', h1, h2, h3, h4⟩ := e; exact ⟨h0, c, cap', (h _ _ h1).1, h2, h3, h4⟩
 | pr b o i A => obtain ⟨h0, c, h1, h2⟩ := e; exact ⟨h0, c, (h _ _ h1).1, h2⟩
mutual
theorem VRel.mono {ρ ρ' : Env} (h : ρ.le ρ') : ∀ (a : AV) (v : Value), VRel ρ a v → VRel ρ' a v
 | .bool _, _, e | .int _ _, _, e | .str _ _, _, e | .nilPtr, _, e | .nilSlice, _, e | .nilMap, _, e | .nilFunc, _, e | .nilIface, _, e | .esl, _, e | .top, _, e => by simpa only [VRel] using e
 | .ptr _ _, _, e => by simp only [VRel] at e ⊢; obtain ⟨c, h1, h2⟩ := e; exact ⟨c, (h _ _ h1).1, h2⟩
 | .slice _ _ _ _ _, _, e => by simp only [VRel] at e ⊢; obtain ⟨c, cap', h1, h2, h3, h4⟩ := e; exact ⟨c, cap', (h _ _ h1).1, h2, SlOk.mono (h _ _ h1).2 h3, h4⟩
 | .map _, _, e => by simp only [VRel] at e ⊢; obtain ⟨c, h1, h2⟩ := e; exact ⟨c, (h _ _ h1).1, h2⟩
 | .wsl _ _ _ _, _, e => by simp only [VRel] at e ⊢; obtain ⟨c, c', cap', h1, h2, h3, h4⟩ := e; exact ⟨c, c', cap', (h _ _ h1).1, (h _ _ h2).1, by rw [(h _ _ h1).2, (h _ _ h2).2]; exact h3, by rw [(h _ _ h2).2]; exact h4⟩
 | .wse _, _, e => by simp only [VRel] at e ⊢; obtain ⟨c, p, cap', h1, h3, h4⟩ := e; exact ⟨c, p, cap', (h _ _ h1).1, by rw [(h _ _ h1).2]; exact h3, h4⟩
 | .sym _ _ _, _, e => by simpa only [VRel] using e
 | .sx _ _ _, _, e => by simpa only [VRel] using e
 | .gv _, _, e => by simp only [VRel] at e ⊢; exact e.mono h
 | .wptr _ _ _, _, e => by simp only [VRel] at e ⊢; obtain ⟨c, c', h1, h2, h4⟩ := e; exact ⟨c, c', (h _ _ h1).1, (h _ _ h2).1, by rw [(h _ _ h2).2]; exact h4⟩
 | .func _ x y, _, e => by simp only [VRel] at e ⊢; obtain ⟨f', x', y', h1, h0, h2, h3⟩ := e; exact ⟨f', x', y', h1, h0.mono h, VRels.mono h x _ h2, VRels.mono h y _ h3⟩
 | .iface _ a, _, e => by simp only [VRel] at e ⊢; obtain ⟨v', h1, h2⟩ := e; exact ⟨v', h1, VRel.mono h a _ h2⟩
 | .agg xs, _, e => by simp only [VRel] at e ⊢; obtain ⟨ys, h1, h2⟩ := e; exact ⟨ys, h1, VRels.mono h xs _ h2⟩
 | .tuple xs, _, e => by simp only [VRel] at e ⊢; obtain ⟨ys, h1, h2⟩ := e; exact ⟨ys, h1, VRels.mono h xs _ h2⟩
theorem VRels.mono {ρ ρ' : Env} (h : ρ.le ρ') : ∀ (l : List AV) (vs : List Value), VRels ρ l vs → VRels ρ' l vs
 | [], _, e => by simpa only [VRels] using e
 | a :: l, _, e => by simp only [VRels] at e ⊢; obtain ⟨v, vs, h1, h2, h3⟩ := e; exact ⟨v, vs, h1, VRel.mono h a _ h2, VRels.mono h l _ h3⟩
end
theorem VRels.length {ρ : Env} : ∀ (l : List AV) (vs : List Value), VRels ρ l vs → vs.length = l.length
 | [], _, e => by simp only [VRels] at e; subst e; rfl
 | a :: l, _, e => by simp only [VRels] at e; obtain ⟨v, vs, rfl, _, h3⟩ := e; simp [VRels.length l vs h3]
theorem VRels.get {ρ : Env} : ∀ (l : List AV) (vs : List Value), VRels ρ l vs → ∀ (i : Nat) (h : i < l.length), ∃ v, vs[i]? = some v ∧ VRel ρ l[i] v
 | [], _, _, i, h => by simp at h
 | a :: l, _, e, i, h => by
   simp only [VRels] at e; obtain ⟨v, vs, rfl, h2, h3⟩ := e
   cases i with
   | zero => exact ⟨v, rfl, h2⟩
   | succ i => exact VRels.get l vs h3 i (by simpa using h)
theorem VRels.of_get {ρ : Env} : ∀ (l : List AV) (vs : List Value), vs.length = l.length → (∀ (i : Nat) (h : i < l.length), ∃ v, vs[i]? = some v ∧ VRel ρ l[i] v) → VRels ρ l vs
 | [], [], _, _ => by simp only [VRels]
 | [], _ :: _, h, _ => by simp at h
 | _ :: _, [], h, _ => by simp at h
 | a :: l, v :: vs, h, e => by
   simp only [VRels]
   obtain ⟨v', h1, h2⟩ := e 0 (by simp)
   simp at h1; subst h1
   refine ⟨v, vs, rfl, by simpa using h2, VRels.of_get l vs (by simpa using h) fun i hi => ?_⟩
   obtain ⟨v', h1, h2⟩ := e (i + 1) (by simpa using hi)
   exact ⟨v', by simpa using h1, by simpa using h2⟩
theorem VRels.append {ρ : Env} : ∀ (l l' : List AV) (vs vs' : List Value), VRels ρ l vs → VRels ρ l' vs' → VRels ρ (l ++ l') (vs ++ vs')
 | [], _, _, _, h, h' => by simp only [VRels] at h; subst h; exact h'
 | a :: l, l', _, vs', h, h' => by
   simp only [VRels] at h; obtain ⟨v, vs, rfl, h2, h3⟩ := h
   simp only [zJ, VRels]
   exact ⟨v, vs ++ vs', rfl, h2, VRels.append l l' vs vs' h3 h'⟩
theorem SxRel.shape {σ : Nat → List Int} {c : Nat} {e : SE} {A : List (Nat × Nat)} {v : Value} (h : SxRel σ c e A v) : (∃ s, v = .string s) ∨ ∃ b, v = .bool b := by
 unfold SxRel at h
 split at h
 ·exact .inl ⟨_, h.1⟩
 ·exact .inr ⟨_, h⟩
 ·exact .inl ⟨_, h.1⟩
theorem GVRel.shape {ρ : Env} {x : GV} {v : Value} (h : GVRel ρ x v) : (∃ s, v = .string s) ∨ (∃ p l c, v = .slice (some p) l c) ∨ ∃ p, v = .pointer (some p) := by
 cases x with
 | str => exact .inl ⟨_, h.2.1⟩
 | sl => obtain ⟨_, c, cap', _, _, _, _, e⟩ := h; exact .inr (.inl ⟨_, _, _, e⟩)
 | ptr => obtain ⟨_, c, _, _, e⟩ := h; exact .inr (.inr ⟨_, e⟩)
 | sr => obtain ⟨_, c, cap', _, _, _, e⟩ := h; exact .inr (.inl ⟨_, _, _, e⟩)
 | pr => obtain ⟨_, c, _, _, e⟩ := h; exact .inr (.inr ⟨_, e⟩)
def a7u (ρ : Env) (size : Nat) (c : Cells) (arr : Array Value) : Prop := ∀ i, i < size → ∃ v, arr[i]? = some v ∧ VRel ρ (uj c i) v
def ERel (ρ : Env) : List (AV × AV) → List MapEntry → Prop
 | [], l => l = []
 | e :: es, l => ∃ m ms, l = m :: ms ∧ VRel ρ e.1 m.key ∧ VRel ρ e.2 m.val ∧ ERel ρ es ms
theorem ERel.mono {ρ ρ' : Env} (h : ρ.le ρ') : ∀ es l, ERel ρ es l → ERel ρ' es l
 | [], _, e => e
 | _ :: es, _, ⟨m, ms, h1, h2, h3, h4⟩ => ⟨m, ms, h1, VRel.mono h _ _ h2, VRel.mono h _ _ h3, ERel.mono h es ms h4⟩
def bel (t : Nat) (arr : Array Value) : Prop := ∀ g cs, t = g + 1 → LE.mk g cs ∈ laidL → ∀ ρ, VRels ρ cs arr.toList
def ORel (ρ : Env) (o : AObj) (x0 : Option Obj) : Prop :=
 match o with
 | .none => True
 | .cells t size ext fl fh c => ∃ arr fz, x0 = some (.cells arr t fz) ∧ size ≤ arr.size ∧ (ext = false → arr.size = size) ∧ size ≤ lc c ∧ (fz.1 ≤ fz.2 ∧ ∀ i, fz.1 ≤ i → i < fz.2 → fl ≤ i ∧ i < fh) ∧ a7u ρ size c arr
 | .ro t size c => ∃ arr t' fz, x0 = some (.cells arr t' fz) ∧ arr.size = size ∧ size ≤ lc c ∧ a7u ρ size c arr ∧ bel t arr
 | .map es => ∃ entries clock, x0 = some (.map entries clock) ∧ ERel ρ es entries.toList
 | .pk t len n fl fh => ∃ arr fz, x0 = some (.cells arr t fz) ∧ len ≤ arr.size ∧ (fz.1 ≤ fz.2 ∧ ∀ i, fz.1 ≤ i → i < fz.2 → fl ≤ i ∧ i < fh) ∧ n < 256 ^ len ∧ ∀ (i : Nat) (b : UInt8), (be len n)[i]? = some b → arr[i]? = some (Value.int .u8 b.toNat)
 | .umap es => ∃ entries clock l, x0 = some (.map entries clock) ∧ l.Perm es ∧ ERel ρ l entries.toList
 | .strIter len n pos => x0 = some (.stringIter (ar len n) pos) ∧ n < 256 ^ len
 | .loop st pend fn nt τ ps x y kd => ∃ tmps c, x0 = some (.loop { state := st, pending := pend, fn, tmps, params := ps.toArray, assign := x, body := y, defers := c }) ∧ ρ kd = some c ∧ tmps.size = nt ∧ nt ≤ 512 ∧ ∀ t, VRel ρ (gr t τ) (tmps.getD t undef)
 | .win kb l => ∃ arr t fz c', x0 = some (.cells arr t fz) ∧ ρ kb = some c' ∧ fz.2 ≤ fz.1 ∧ ∀ (i : Nat) (h : i < l.length), ∃ v, arr[ρ.sz kb + i]? = some v ∧ VRel ρ l[i] v
 | .deferred (some []) => x0 = some (.deferred (some []))
 | .deferred none => x0 = some (.deferred none)
 | .deferred _ => False
 | .gob g => GORel g x0
theorem ORel.mono {ρ ρ' : Env} (h : ρ.le ρ') {o : AObj} {x : Option Obj} (e : ORel ρ o x) : ORel ρ' o x := by
 cases o with
 | none => trivial
 | cells t size ext fl fh c =>
   obtain ⟨arr, fz, h1, h2, h3, h4, h5, h6⟩ := e
   exact ⟨arr, fz, h1, h2, h3, h4, h5, fun i hi => let ⟨v, a, b⟩ := h6 i hi; ⟨v, a, VRel.mono h _ _ b⟩⟩
 | ro t size c =>
   obtain ⟨arr, t', fz, h1, h2, h3, h6, h7⟩ := e
   exact ⟨arr, t', fz, h1, h2, h3, fun i hi => let ⟨v, a, b⟩ := h6 i hi; ⟨v, a, VRel.mono h _ _ b⟩, h7⟩
 | map es => obtain ⟨a, b, h1, h2⟩ := e; exact ⟨a, b, h1, ERel.mono h _ _ h2⟩
 | umap es => obtain ⟨a, b, l, h1, h2, h3⟩ := e; exact ⟨a, b, l, h1, h2, ERel.mono h _ _ h3⟩
 | pk => exact e
 | gob => exact e
 | strIter => exact e
 | loop st pend fn nt τ ps x y kd => obtain ⟨tmps, c, h1, h2, h3, h4, h5⟩ := e; exact ⟨tmps, c, h1, (h _ _ h2).1, h3, h4, fun t => VRel.mono h _ _ (h5 t)⟩
 | win kb l =>
   obtain ⟨arr, t, fz, c', h1, h2, h3, h4⟩ := e
   exact ⟨arr, t, fz, c', h1, (h _ _ h2).1, h3, fun i hi => let ⟨v, a, b⟩ := h4 i hi; ⟨v, by rw [(h _ _ h2).2]; exact a, VRel.mono h _ _ b⟩⟩
 | deferred ds =>
   cases ds with
   | none => exact e
   | some l => cases l with
     | nil => exact e
     | cons _ _ => exact e.elim
theorem GORel.some {o : GO} {x : Option Obj} (e : GORel o x) : ∃ y, x = some y := by
 cases o with
 | gh => obtain ⟨_, _, h, _⟩ := e; exact ⟨_, h⟩
 | junk => obtain ⟨_, _, h, _⟩ := e; exact ⟨_, h⟩
 | gmap => obtain ⟨_, _, h, _⟩ := e; exact ⟨_, h⟩
 | lh => exact e
 | rh => obtain ⟨_, _, _, h, _⟩ := e; exact ⟨_, h⟩
 | rb => obtain ⟨_, _, _, h, _⟩ := e; exact ⟨_, h⟩
 | iter => exact ⟨_, e.2.1⟩
theorem ORel.some {ρ : Env} {o : AObj} {x : Option Obj} (e : ORel ρ o x) (h : o ≠ .none) : ∃ y, x = some y := by
 cases o with
 | none => exact absurd rfl h
 | cells => obtain ⟨arr, fz, h1, _⟩ := e; exact ⟨_, h1⟩
 | ro => obtain ⟨arr, t', fz, h1, _⟩ := e; exact ⟨_, h1⟩
 | map => obtain ⟨a, b, h1, _⟩ := e; exact ⟨_, h1⟩
 | umap es => obtain ⟨a, b, l, h1, _⟩ := e; exact ⟨_, h1⟩
 | pk => obtain ⟨arr, fz, h1, _⟩ := e; exact ⟨_, h1⟩
 | gob => exact GORel.some e
 | strIter => exact ⟨_, e.1⟩
 | loop st pend fn nt τ ps x y kd => obtain ⟨tmps, c, h1, _⟩ := e; exact ⟨_, h1⟩
 | win kb l => obtain ⟨arr, t, fz, c', h1, _⟩ := e; exact ⟨_, h1⟩
 | deferred ds =>
   cases ds with
   | none => exact ⟨_, e⟩
   | some l => cases l with
     | nil => exact ⟨_, e⟩
     | cons _ _ => exact e.elim
def W.h : W → H4 | .mk h _ => h
def W.nx : W → K | .mk _ nx => nx
@[simp] theorem W.h_mk (h : H4) (nx : K) : (W.mk h nx).h = h := rfl
@[simp] theorem W.nx_mk (h : H4) (nx : K) : (W.mk h nx).nx = nx := rfl
theorem az (b : K) (a : W) : cu b a = ae b a.h := by cases a; rfl
theorem fe (b : K) (o : AObj) (a : W) : wset b o a = .mk (b8 b o a.h) a.nx := by cases a; rfl
def AObj.isRo : AObj → Bool | .ro .. => true | .gob (.rh ..) => true | .gob (.rb ..) => true | _ => false
def bi : AObj → Option (Nat × GE)
 | .gob (.lh k g) => some (k, g)
 | _ => none
structure GhAt (ρ : Env) (a : W) (w : World) (k : K) (kd : Nat) (g : GE) : Prop where
 root : ∀ c, ρ k = some c → ρ.ft k c
 rel : ∀ c, ρ k = some c → amd kd (g.eval Gv.σ) c (ρ.ft k) w.heap
 lt : ∀ c, ρ.ft k c → c < w.heap.size
 sep : ∀ l, ae l a.h ≠ .none → l ≠ k → ∀ c, ρ l = some c → ¬ ρ.ft k c
 dis : ∀ l, bi (ae l a.h) ≠ none → l ≠ k → ∀ c, ρ.ft l c → ¬ ρ.ft k c
structure WRel (ρ : Env) (a : W) (w : World) : Prop where
 inj : ∀ k l, ae k a.h ≠ .none → ae l a.h ≠ .none → ρ k = ρ l → k = l ∨ ((ae k a.h).isRo = true ∧ (ae l a.h).isRo = true)
 dom : ∀ k, ae k a.h ≠ .none → ∃ c, ρ k = some c ∧ ORel ρ (ae k a.h) (w.heap[c]?)
 len : ∀ k c arr t fz, ae k a.h ≠ .none → ρ k = some c → w.heap[c]? = some (.cells arr t fz) → arr.size = ρ.sz k
 gho : ∀ k kd g, bi (ae k a.h) = some (kd, g) → GhAt ρ a w k kd g
theorem WRel.inj1 {ρ : Env} {a : W} {w : World} (h : WRel ρ a w) {k l : K} (hk : ae k a.h ≠ .none) (hl : ae l a.h ≠ .none) (hr : (ae k a.h).isRo = false ∨ (ae l a.h).isRo = false) (e : ρ k = ρ l) : k = l := by
 rcases h.inj k l hk hl e with h | ⟨h1, h2⟩
 ·exact h
 ·rw [h1, h2] at hr; simp at hr
theorem GhAt.step {ρ ρ' : Env} {a a' : W} {w w' : World} {k : K} {kd : Nat} {g : GE} (h : GhAt ρ a w k kd g) (hk : ρ' k = ρ k) (hft : ρ'.ft k = ρ.ft k) (hs : w.heap.size ≤ w'.heap.size) (hfr : ∀ c, ρ.ft k c → w'.heap[c]? = w.heap[c]?)
  (hsep : ∀ l, ae l a'.h ≠ .none → l ≠ k → ∀ c, ρ' l = some c → ¬ ρ.ft k c) (hdis : ∀ l, bi (ae l a'.h) ≠ none → l ≠ k → ∀ c, ρ'.ft l c → ¬ ρ.ft k c) : GhAt ρ' a' w' k kd g := by
 refine ⟨?_, ?_, ?_, ?_, ?_⟩
 ·rw [hk, hft]; exact h.root
 ·rw [hk, hft]; exact fun c hc => atm hfr (h.rel c hc)
 ·rw [hft]; exact fun c hc => Nat.lt_of_lt_of_le (h.lt c hc) hs
 ·rw [hft]; exact hsep
 ·rw [hft]; exact hdis
omit [Gv] in
theorem bp {o : AObj} (h : bi o ≠ none) : o ≠ .none := by rintro rfl; exact h rfl
omit [Gv] in
theorem rm {o : AObj} {x : Nat × GE} (h : bi o = some x) : bi o ≠ none := by rw [h]; simp
def Own (ρ : Env) (a : W) (c : Nat) : Prop := ∃ k, ae k a.h ≠ .none ∧ (ae k a.h).isRo = false ∧ (ρ k = some c ∨ (bi (ae k a.h) ≠ none ∧ ρ.ft k c))
def Fresh (ρ : Env) (a a' : W) : Prop := ∀ k, a.nx.num ≤ k.num → k.num < a'.nx.num → ρ k = none
structure Adv (ρ : Env) (a : W) (w : World) (ρ' : Env) (a' : W) (w' : World) : Prop where
 rel : WRel ρ' a' w'
 le : ρ.le ρ'
 rng : ∀ k, ρ' k = ρ k ∨ (a.nx.num ≤ k.num ∧ k.num < a'.nx.num)
 nx : a.nx.num ≤ a'.nx.num
 size : w.heap.size ≤ w'.heap.size
 own : ∀ c, Own ρ' a' c → Own ρ a c ∨ w.heap.size ≤ c
 keep : ∀ k c, ae k a'.h ≠ .none → ρ' k = some c → (∃ l, ae l a.h ≠ .none ∧ ρ l = some c) ∨ w.heap.size ≤ c
 frame : ∀ c, c < w.heap.size → ¬ Own ρ a c → w'.heap[c]? = w.heap[c]?
 fts : ∀ k, k.num < a.nx.num → bi (ae k a.h) = none → ρ'.ft k = ρ.ft k ∧ bi (ae k a'.h) = none
 os : w'.os = w.os
 tape : w'.tape = w.tape
 output : w'.output = w.output
theorem Adv.refl {ρ : Env} {a : W} {w : World} (h : WRel ρ a w) : Adv ρ a w ρ a w :=
 ⟨h, Env.le_refl ρ, fun _ => .inl rfl, zY _, zY _, fun _ h => .inl h, fun k _ h e => .inl ⟨k, h, e⟩, fun _ _ _ => rfl, fun _ _ h => ⟨rfl, h⟩, rfl, rfl, rfl⟩
theorem Adv.trans {ρ ρ1 ρ2 : Env} {a a1 a2 : W} {w w1 w2 : World} (h : Adv ρ a w ρ1 a1 w1) (k : Adv ρ1 a1 w1 ρ2 a2 w2) : Adv ρ a w ρ2 a2 w2 where
 rel := k.rel
 le := Env.le_trans h.le k.le
 rng x := by
  have := h.nx; have := k.nx
  rcases k.rng x with e | e
  ·rcases h.rng x with e' | e'
   ·exact .inl (e.trans e')
   ·exact .inr (by omega)
  ·exact .inr (by omega)
 nx := Nat.le_trans h.nx k.nx
 size := Nat.le_trans h.size k.size
 own c hc := by
  have := h.size
  rcases k.own c hc with e | e
  ·rcases h.own c e with e' | e'
   ·exact .inl e'
   ·exact .inr e'
  ·exact .inr (by omega)
 keep x c hx hc := by
  have := h.size
  rcases k.keep x c hx hc with ⟨l, e1, e2⟩ | e
  ·exact h.keep l c e1 e2
  ·exact .inr (by omega)
 frame c hc hn := by
  have hs := h.size
  rw [k.frame c (by omega) (fun e => by rcases h.own c e with e' | e'; exact hn e'; omega)]
  exact h.frame c hc hn
 fts x hx hl := by
  have h1 := h.fts x hx hl
  have h2 := k.fts x (Nat.lt_of_lt_of_le hx h.nx) h1.2
  exact ⟨h2.1.trans h1.1, h2.2⟩
 os := k.os.trans h.os
 tape := k.tape.trans h.tape
 output := k.output.trans h.output
theorem Fresh.left {ρ : Env} {a a1 a2 : W} (h : Fresh ρ a a2) (h' : a1.nx.num ≤ a2.nx.num) : Fresh ρ a a1 := fun k h1 h2 => h k h1 (by omega)
theorem Fresh.right {ρ ρ1 : Env} {a a1 a2 : W} {w w1 : World} (h : Fresh ρ a a2) (k : Adv ρ a w ρ1 a1 w1) : Fresh ρ1 a1 a2 := by
 intro x h1 h2
 have := k.nx
 rcases k.rng x with e | e
 ·rw [e]; exact h x (by omega) h2
 ·omega
theorem Adv.drew {ρ ρ' : Env} {a a' : W} {w w' : World} (h : Adv ρ a w ρ' a' w') : Adv ρ a w ρ' a' w'.drew :=
 ⟨⟨h.rel.inj, h.rel.dom, h.rel.len, fun k kd g hk => let q := h.rel.gho k kd g hk; ⟨q.root, q.rel, q.lt, q.sep, q.dis⟩⟩, h.le, h.rng, h.nx, h.size, h.own, h.keep, h.frame, h.fts, h.os, h.tape, h.output⟩
def upd (ρ : Env) (k : K) (c n : Nat) : Env := { blk := fun l => if l = k then some c else ρ l, sz := fun l => if l = k then n else ρ.sz l, ft := ρ.ft }
theorem cj (ρ : Env) (k : K) (c n : Nat) : upd ρ k c n k = some c := by simp [upd]
theorem fb (ρ : Env) {k l : K} (h : l ≠ k) (c n : Nat) : upd ρ k c n l = ρ l := by simp [upd, h]
theorem ru (ρ : Env) (k : K) (c n : Nat) : (upd ρ k c n).sz k = n := by simp [upd]
theorem bbv (ρ : Env) {k l : K} (h : l ≠ k) (c n : Nat) : (upd ρ k c n).sz l = ρ.sz l := by simp [upd, h]
theorem a9t (ρ : Env) (k : K) (c n : Nat) (h : ρ k = none) : ρ.le (upd ρ k c n) := by
 intro l x e
 by_cases hk : l = k
 ·subst hk; rw [h] at e; cases e
 ·rw [fb ρ hk, bbv ρ hk]; exact ⟨e, rfl⟩
def Obj.cellCount : Obj → Nat
 | .cells arr _ _ => arr.size
 | _ => 0
theorem xm {ρ : Env} {h : H4} {nx : K} {w : World} {o : AObj} {obj : Obj} (hw : WRel ρ (.mk h nx) w) (hf : ρ nx = none) (hm : nx.isMax = false)
  (ho : ORel ρ o (some obj)) (hlo : bi o = none := by rfl) : Adv ρ (.mk h nx) w (upd ρ nx w.heap.size (Obj.cellCount obj)) (.mk (b8 nx o h) nx.succ) (w.alloc obj) := by
 have hle := a9t ρ nx w.heap.size (Obj.cellCount obj) hf
 have hn : ae nx h = .none := by
  by_cases e : ae nx h = .none
  ·exact e
  ·obtain ⟨c, hc, _⟩ := hw.dom nx e; rw [hf] at hc; cases hc
 have lt : ∀ k c, ae k h ≠ .none → ρ k = some c → c < w.heap.size := by
  intro k c hk hc
  obtain ⟨c', hc', ho'⟩ := hw.dom k hk
  rw [hc] at hc'; cases hc'
  obtain ⟨y, hy⟩ := ho'.some hk
  exact (zI.1 hy).1
 have old : ∀ k, k ≠ nx → ae k (b8 nx o h) = ae k h := fun k hk => ap hk o h
 have get : ∀ c, c < w.heap.size → (w.alloc obj).heap[c]? = w.heap[c]? := fun c hc => RowKit.Below.heap_alloc w obj c hc
 have hnx : nx.succ.num = nx.num + 1 := K.succ_num hm
 refine ⟨⟨?_, ?_, ?_, ?_⟩, hle, ?_, ?_, ?_, ?_, ?_, ?_, ?_, rfl, rfl, rfl⟩
 ·intro k l hk hl e
  simp only [W.h_mk] at hk hl
  by_cases k1 : k = nx
  ·by_cases l1 : l = nx
   ·left; rw [k1, l1]
   ·exfalso
    rw [old l l1] at hl
    obtain ⟨c, hc, _⟩ := hw.dom l hl
    rw [k1, cj, fb ρ l1, hc] at e
    have := lt l c hl hc
    injection e with e; omega
  ·rw [old k k1] at hk
   by_cases l1 : l = nx
   ·exfalso
    obtain ⟨c, hc, _⟩ := hw.dom k hk
    rw [l1, cj, fb ρ k1, hc] at e
    have := lt k c hk hc
    injection e with e; omega
   ·rw [old l l1] at hl
    rw [fb ρ k1, fb ρ l1] at e
    have := hw.inj k l hk hl e
    simp only [W.h_mk] at this ⊢
    rw [old k k1, old l l1]; exact this
 ·intro k hk
  simp only [W.h_mk] at hk ⊢
  by_cases k1 : k = nx
  ·subst k1
   refine ⟨w.heap.size, cj ρ k _ _, ?_⟩
   rw [ah]
   have : (w.alloc obj).heap[w.heap.size]? = some obj := by show (w.heap.push obj)[w.heap.size]? = _; simp
   rw [this]
   exact ho.mono hle
  ·rw [old k k1] at hk ⊢
   obtain ⟨c, hc, ho'⟩ := hw.dom k hk
   refine ⟨c, by rw [fb ρ k1]; exact hc, ?_⟩
   rw [get c (lt k c hk hc)]
   exact ho'.mono hle
 ·intro k c arr t fz hk hc hx
  simp only [W.h_mk] at hk
  by_cases k1 : k = nx
  ·subst k1
   rw [cj] at hc
   injection hc with hc
   subst hc
   have : (w.alloc obj).heap[w.heap.size]? = some obj := by show (w.heap.push obj)[w.heap.size]? = _; simp
   rw [this] at hx
   injection hx with hx
   rw [ru, hx]; rfl
  ·rw [old k k1] at hk
   rw [fb ρ k1] at hc
   rw [get c (lt k c hk hc)] at hx
   rw [bbv ρ k1]
   exact hw.len k c arr t fz hk hc hx
 ·intro k kd g hk
  simp only [W.h_mk] at hk
  have k1 : k ≠ nx := by rintro rfl; rw [ah, hlo] at hk; cases hk
  rw [old k k1] at hk
  have q := hw.gho k kd g hk
  refine q.step (fb ρ k1 _ _) rfl (by rw [World.size_alloc]; omega) (fun c hc => get c (q.lt c hc)) ?_ ?_
  ·intro l hl hlk c hc
   simp only [W.h_mk] at hl
   by_cases l1 : l = nx
   ·subst l1; rw [cj] at hc; injection hc with hc; intro hf'; have := q.lt _ hf'; omega
   ·rw [old l l1] at hl; rw [fb ρ l1] at hc; exact q.sep l hl hlk c hc
  ·intro l hl hlk
   simp only [W.h_mk] at hl
   have l1 : l ≠ nx := by rintro rfl; rw [ah, hlo] at hl; exact hl rfl
   rw [old l l1] at hl
   exact q.dis l hl hlk
 ·intro k
  by_cases k1 : k = nx
  ·subst k1; right; simp only [W.nx_mk]; omega
  ·left; exact fb ρ k1 _ _
 ·simp only [W.nx_mk]; omega
 ·rw [World.size_alloc]; omega
 ·rintro c ⟨k, hk, hr, hc⟩
  simp only [W.h_mk] at hk hr hc
  by_cases k1 : k = nx
  ·subst k1
   rcases hc with hc | ⟨hc, _⟩
   ·rw [cj] at hc; injection hc with hc; right; omega
   ·rw [ah, hlo] at hc; exact absurd rfl hc
  ·rw [old k k1] at hk hr hc; rw [fb ρ k1] at hc
   exact .inl ⟨k, hk, hr, hc⟩
 ·intro k c hk hc
  simp only [W.h_mk] at hk
  by_cases k1 : k = nx
  ·subst k1; rw [cj] at hc; injection hc with hc; right; omega
  ·rw [old k k1] at hk; rw [fb ρ k1] at hc
   exact .inl ⟨k, hk, hc⟩
 ·intro c hc _; exact get c hc
 ·intro k hk hl
  have k1 : k ≠ nx := by rintro rfl; simp only [W.nx_mk] at hk; omega
  refine ⟨rfl, ?_⟩
  show bi (ae k (b8 nx o h)) = none
  rw [old k k1]
  exact hl
theorem xn {ρ : Env} {a : W} {w w' : World} {b : K} {c : Nat} {o : AObj} {obj : Obj} (hw : WRel ρ a w) (hb : ae b a.h ≠ .none) (hr : (ae b a.h).isRo = false)
  (hc : ρ b = some c) (ho : ORel ρ o (some obj)) (hn : o ≠ .none) (hcount : ∀ arr t fz, obj = .cells arr t fz → arr.size = ρ.sz b) (hx : w'.heap[c]? = some obj) (hs : w'.heap.size = w.heap.size) (hother : ∀ d, d ≠ c → w'.heap[d]? = w.heap[d]?)
  (h1 : w'.os = w.os) (h2 : w'.tape = w.tape) (h3 : w'.output = w.output) (hlb : bi (ae b a.h) = none) (hlo : bi o = none := by rfl) : Adv ρ a w ρ (wset b o a) w' := by
 rw [fe]
 have old : ∀ k, k ≠ b → ae k (b8 b o a.h) = ae k a.h := fun k hk => ap hk o a.h
 have liv : ∀ k, ae k (b8 b o a.h) ≠ .none → ae k a.h ≠ .none := by
  intro k hk
  by_cases e : k = b
  ·subst e; exact hb
  ·rw [old k e] at hk; exact hk
 have lhs : ∀ k, bi (ae k (b8 b o a.h)) = bi (ae k a.h) := by
  intro k
  by_cases e : k = b
  ·subst e; rw [ah, hlo, hlb]
  ·rw [old k e]
 refine ⟨⟨?_, ?_, ?_, ?_⟩, Env.le_refl ρ, fun _ => .inl rfl, zY _, by omega, ?_, fun k c hk hc => .inl ⟨k, liv k hk, hc⟩, ?_, ?_, h1, h2, h3⟩
 ·intro k l hk hl e
  by_cases k1 : k = b
  ·by_cases l1 : l = b
   ·left; rw [k1, l1]
   ·subst k1; exact absurd (hw.inj1 hb (liv l hl) (.inl hr) e).symm l1
  ·by_cases l1 : l = b
   ·subst l1; exact absurd (hw.inj1 (liv k hk) hb (.inr hr) e) k1
   ·have := hw.inj k l (liv k hk) (liv l hl) e
    simp only [W.h_mk]
    rw [old k k1, old l l1]; exact this
 ·intro k hk
  simp only [W.h_mk] at hk ⊢
  by_cases e : k = b
  ·subst e; exact ⟨c, hc, by rw [ah, hx]; exact ho⟩
  ·have hk' := liv k hk
   obtain ⟨d, hd, ho'⟩ := hw.dom k hk'
   refine ⟨d, hd, ?_⟩
   rw [old k e, hother d]
   ·exact ho'
   ·intro e'; subst e'; exact e (hw.inj1 hk' hb (.inr hr) (by rw [hd, hc]))
 ·intro k d arr t fz hk hd hxx
  simp only [W.h_mk] at hk
  by_cases e : k = b
  ·subst e
   rw [hc] at hd; injection hd with hd; subst hd
   rw [hx] at hxx; injection hxx with hxx
   exact hcount arr t fz hxx
  ·have hk' := liv k hk
   rw [hother d] at hxx
   ·exact hw.len k d arr t fz hk' hd hxx
   ·intro e'; subst e'; exact e (hw.inj1 hk' hb (.inr hr) (by rw [hd, hc]))
 ·intro k kd g hk
  simp only [W.h_mk] at hk
  rw [lhs k] at hk
  have q := hw.gho k kd g hk
  have hbk : b ≠ k := by rintro rfl; rw [hlb] at hk; cases hk
  refine q.step rfl rfl (by omega) (fun d hd => hother d ?_) (fun l hl hlk => q.sep l (liv l hl) hlk) (fun l hl hlk => q.dis l (by rw [← lhs l]; exact hl) hlk)
  rintro rfl
  exact q.sep b hb hbk d hc hd
 ·rintro d ⟨k, hk, hr', hd⟩
  simp only [W.h_mk] at hk hr' hd
  rw [lhs k] at hd
  by_cases e : k = b
  ·subst e; exact .inl ⟨k, hb, hr, hd⟩
  ·rw [old k e] at hk hr'; exact .inl ⟨k, hk, hr', hd⟩
 ·intro d _ hd
  exact hother d fun e => hd ⟨b, hb, hr, .inl (by rw [e]; exact hc)⟩
 ·intro k _ hk
  refine ⟨rfl, ?_⟩
  show bi (ae k (b8 b o a.h)) = none
  rw [lhs k]
  exact hk
end Go.Ev
set_option linter.all false
namespace Go.Ev
variable [Gv]
section tables
variable {α : Type}
theorem sq (l : List α) : ∀ i, nth l i = l[i]? := by
 induction l with
 | nil => intro i; rfl
 | cons x l ih =>
   intro i
   cases i with
   | zero => rfl
   | succ i => show nth l i = _; rw [ih]; simp
theorem awr (l : List α) (k : Nat) (h : k < 16) : N.get (I.of k) (a9u l) = l[k]? := by
 match k, h with
 | 0, _ | 1, _ | 2, _ | 3, _ | 4, _ | 5, _ | 6, _ | 7, _ | 8, _ | 9, _ | 10, _ | 11, _ | 12, _ | 13, _ | 14, _ | 15, _ => exact sq l _
 | n + 16, h => omega
theorem ast {β : Type} (f : List α → β) (s : Nat) (l : List α) (k : Nat) (h : k < 16) : N.get (I.of k) (bog f s l) = f (l.drop (k * s)) := by
 match k, h with
 | 0, _ => simp only [Nat.zero_mul, List.drop_zero]; rfl
 | 1, _ => simp only [Nat.one_mul]; rfl
 | 2, _ | 3, _ | 4, _ | 5, _ | 6, _ | 7, _ | 8, _ | 9, _ | 10, _ | 11, _ | 12, _ | 13, _ | 14, _ | 15, _ => rfl
 | n + 16, h => omega
theorem a0l (l : List α) (i : Nat) (h : i < 4096) : bhw (a0p l) i = l[i]? := by
 unfold bhw a0p
 rw [ast _ _ _ _ (by omega), ast _ _ _ _ (by omega), awr _ _ (by omega)]
 simp only [List.getElem?_drop, List.drop_drop]
 congr 1
 omega
end tables
theorem afz {f : FuncId} {fn : Func} (h : alj f = some fn) : PP.funcs[f]? = some fn := by
 unfold alj at h
 rw [ab] at h
 split at h
 ·rename_i hb
  have := zE hb
  unfold FT at h
  rw [a0l _ _ (by omega)] at h
  simpa using h
 ·cases h
theorem eo {t : TypeId} {i : TypeInfo} (h : fj t = some i) : PP.info? t = some i := by
 unfold fj at h
 rw [ab] at h
 split at h
 ·rename_i hb
  have := zE hb
  unfold TT at h
  rw [a0l _ _ (by omega)] at h
  have h' : PP.types[t]? = some i := by simpa using h
  have hlt := (zI.1 h').1
  unfold Tables.info?
  rw [if_pos hlt]
  exact h'
 ·cases h
theorem bv {t : TypeId} {d : TypeDesc} (h : aq t = some d) : PP.underlying t = some d := by
 unfold aq at h
 cases hi : fj t with
 | none => rw [hi] at h; cases h
 | some i =>
   rw [hi] at h
   unfold Program.underlying
   rw [eo hi]
   obtain ⟨desc, a1, a2, a3, a4, a5, a6, a7, a8, a9⟩ := i
   cases desc <;> first
    | exact h
    | (simp only [a0u] at h
       rename_i nm u
       cases hu : fj u with
       | none => rw [hu] at h; cases h
       | some j => rw [hu] at h; simp only [eo hu]; exact h)
theorem l6 {t : TypeId} {n : Nat} (h : sizeOf t = some n) : ∃ i, PP.info? t = some i ∧ i.size = n := by
 unfold sizeOf at h
 cases hi : fj t with
 | none => rw [hi] at h; cases h
 | some i => rw [hi] at h; exact ⟨i, eo hi, by simpa using h⟩
theorem c7 {t : TypeId} {v : AV} (h : il t = some v) : ∃ i z, PP.info? t = some i ∧ i.zero = some z ∧ v = ofV z := by
 unfold il at h
 cases hi : fj t with
 | none => rw [hi] at h; cases h
 | some i =>
   rw [hi] at h
   simp only [Option.bind_some] at h
   cases hz : i.zero with
   | none => rw [hz] at h; cases h
   | some z => rw [hz] at h; exact ⟨i, z, eo hi, hz, by simpa using h.symm⟩
section runs
variable {w : World}
theorem ac {t : TypeId} {d : TypeDesc} (h : aq t = some d) : (underlying t).run PP w = .ok d w := run_underlying (bv h) w
theorem ij {t : TypeId} {i : TypeInfo} (h : PP.info? t = some i) : (typeInfo t).run PP w = .ok i w := by simp [typeInfo, h]
theorem bg {t : TypeId} {n : Nat} (h : sizeOf t = some n) : (Go.sizeOf t).run PP w = .ok n w := by
 obtain ⟨i, hi, rfl⟩ := l6 h
 simp [Go.sizeOf, ij hi]
theorem ei {t : TypeId} {i : TypeInfo} {z : Value} (h : PP.info? t = some i) (hz : i.zero = some z) : (zeroValue t).run PP w = .ok z w := by
 simp [zeroValue, ij h, hz]
theorem lz {t : TypeId} {d : TypeDesc} (h : aq t = some d) : (isAgg t).run PP w = .ok (iy d) w := by
 simp only [isAgg, zR, ac h, zQ]
 cases d <;> rfl
theorem kr {t : TypeId} {r : Option Nat} (h : vz t = some r) : ∃ d n, aq t = some d ∧ sizeOf t = some n ∧ some r = (if iy d then some (some n) else if n = 1 then some none else none) := by
 unfold vz at h
 cases hu : aq t with
 | none => rw [hu] at h; cases h
 | some d =>
   cases hs : sizeOf t with
   | none => rw [hu, hs] at h; cases h
   | some n => rw [hu, hs] at h; exact ⟨d, n, rfl, rfl, h.symm⟩
end runs
theorem a6j (ρ : Env) (p : Option Addr) : VRel ρ (bav p) (.pointer p) := by cases p <;> simp only [bav, VRel]
theorem baw (ρ : Env) (p : Option Addr) (l c : Nat) : VRel ρ (bp0 p l c) (.slice p l c) := by
 unfold bp0; split <;> simp only [VRel]
theorem a6i (ρ : Env) (p : Option Nat) : VRel ρ (bau p) (.map p) := by cases p <;> simp only [bau, VRel]
theorem az7 (ρ : Env) (v : Value) : VRel ρ (ofS v) v := by
 cases v <;> simp only [ofS] <;> first
  | exact a6j ρ _
  | exact baw ρ _ _ _
  | exact a6i ρ _
  | (simp only [VRel]; done)
  | (simp only [VRel]; exact ⟨ao2 _, by rw [xe]⟩)
theorem aur (ρ : Env) : ∀ (l : List Value), VRels ρ (l.map ofS) l
 | [] => by simp [VRels]
 | v :: l => by simp only [List.map_cons, VRels]; exact ⟨v, l, rfl, az7 ρ v, aur ρ l⟩
theorem a6k (ρ : Env) (l : Array Value) : VRel ρ (az8 l.toList) (.tuple l) := by
 cases h : l.toList with
 | nil => simp only [az8, VRel]; exact ⟨l, rfl, by simp [h, VRels]⟩
 | cons x r => simp only [az8, VRel]
theorem ev (ρ : Env) (v : Value) : VRel ρ (ofV v) v := by
 cases v <;> simp only [ofV] <;> first
  | exact az7 ρ _
  | exact a6k ρ _
  | (simp only [VRel]; exact ⟨_, rfl, aur ρ _⟩)
def VOK (ρ : Env) (a : W) (w : World) (s : Sem Value) (r : OR) : Prop :=
 match r with
 | .val v a' => Fresh ρ a a' → ∃ ρ' w' v', s.run PP w = .ok v' w' ∧ VRel ρ' v v' ∧ Adv ρ a w ρ' a' w'
 | .no _ => True
 | _ => False
def UOK (ρ : Env) (a : W) (w : World) (s : Sem Unit) (r : OR) : Prop :=
 match r with
 | .val v a' => Fresh ρ a a' → v = gu ∧ ∃ ρ' w', s.run PP w = .ok () w' ∧ Adv ρ a w ρ' a' w'
 | .no _ => True
 | _ => False
section
variable {ρ : Env} {a : W} {w : World}
theorem VOK.of_run {s s' : Sem Value} {r : OR} (h : VOK ρ a w s r) (e : s.run PP w = s'.run PP w) : VOK ρ a w s' r := by
 cases r with
 | val v a' => intro hf; obtain ⟨ρ', w', v', h1, h2, h3⟩ := h hf; exact ⟨ρ', w', v', by rw [← e]; exact h1, h2, h3⟩
 | no => trivial
 | _ => exact h
theorem VOK.here {s : Sem Value} {v : AV} {v' : Value} (hw : WRel ρ a w) (h : s.run PP w = .ok v' w) (hv : VRel ρ v v') : VOK ρ a w s (.val v a) :=
 fun _ => ⟨ρ, w, v', h, hv, Adv.refl hw⟩
theorem WRel.block (hw : WRel ρ a w) {b : K} {o : AObj} (h : cu b a = o) (hn : o ≠ .none) {c : Nat} (hc : ρ b = some c) : ORel ρ o (w.heap[c]?) := by
 rw [az] at h
 obtain ⟨c', hc', ho⟩ := hw.dom b (by rw [h]; exact hn)
 rw [hc] at hc'; cases hc'
 rw [h] at ho; exact ho
theorem fx {b off : Nat} {arr : Array Value} {t : TypeId} {fz : Nat × Nat} (h : w.heap[b]? = some (.cells arr t fz)) : w.cell? ⟨b, off, none⟩ = arr[off]? := by
 simp [World.cell?, h]
theorem ajn {o : AObj} {i : Nat} {v : AV} {c : Nat} (h : aoz o i = some v) (ho : ORel ρ o (w.heap[c]?)) : ∃ v', w.cell? ⟨c, i, none⟩ = some v' ∧ VRel ρ v v' := by
 cases o <;> simp only [aoz] at h <;> try (cases h; done)
 ·rw [ab] at h
  split at h
  ·rename_i hb
   obtain ⟨arr, fz, h1, h2, h3, h4, h5, h6⟩ := ho
   obtain ⟨v', h7, h8⟩ := h6 i (by simpa using hb)
   cases h
   exact ⟨v', by rw [fx h1]; exact h7, h8⟩
  ·cases h
 ·rw [ab] at h
  split at h
  ·rename_i hb
   obtain ⟨arr, t', fz, h1, h2, h3, h6, _⟩ := ho
   obtain ⟨v', h7, h8⟩ := h6 i (by simpa using hb)
   cases h
   exact ⟨v', by rw [fx h1]; exact h7, h8⟩
  ·cases h
theorem amr {o : AObj} {i : Nat} {v : AV} (h : aoz o i = some v) : o ≠ .none := by rintro rfl; cases h
theorem a9r (hw : WRel ρ a w) {p : AV} {p' : Value} (hp : VRel ρ p p') : VOK ρ a w (do load (← Instr.sureAddr p')) (at3 p a) := by
 unfold at3
 split
 ·rename_i b kb i
  simp only [VRel] at hp
  obtain ⟨c, c', hc, hk, rfl⟩ := hp
  unfold a9s
  split <;> try trivial
  rename_i kb' l hg
  rw [ab]
  split <;> try trivial
  rename_i hkb
  obtain rfl := (K.beq_iff _ _).1 hkb
  split <;> try trivial
  rename_i v hv
  rw [sq] at hv
  obtain ⟨hlt, hv⟩ := List.getElem?_eq_some_iff.1 hv
  obtain ⟨arr, t, fz, c'', e1, e2, e3, e4⟩ := hw.block hg (by simp) hc
  obtain ⟨v', q1, q2⟩ := e4 i hlt
  rw [hv] at q2
  refine VOK.here hw (v' := v') ?_ q2
  have h1 : w.cell? ⟨c, ρ.sz kb + i, none⟩ = some v' := by rw [fx e1]; exact q1
  simp [Instr.sureAddr, h1]
 ·rename_i b off
  simp only [VRel] at hp
  obtain ⟨c, hc, rfl⟩ := hp
  split
  ·rename_i v hv
   obtain ⟨v', h1, h2⟩ := ajn hv (hw.block rfl (amr hv) hc)
   refine VOK.here hw (v' := v') ?_ h2
   simp [Instr.sureAddr, h1]
  ·trivial
 ·trivial
theorem m9 {arr : Array Value} {c : Cells} {size i n : Nat} (hc : a7u ρ size c arr) (h : i + n ≤ size) :
  ∃ l : List Value, l.length = n ∧ VRels ρ (lq c n i) l ∧ ∀ j v, l[j]? = some v → arr[i + j]? = some v := by
 refine ⟨(List.range n).map fun j => arr.getD (i + j) undef, by simp, ?_, ?_⟩
 ·apply VRels.of_get
  ·rw [wc]; simp
  ·intro j hj
   rw [wc] at hj
   simp at hj
   obtain ⟨v, h1, h2⟩ := hc (i + j) (by omega)
   refine ⟨v, ?_, ?_⟩
   ·simp [hj, Array.getD_eq_getD_getElem?, h1]
   ·simp only [wc, List.getElem_map, List.getElem_range]; exact h2
 ·intro j v hj
  have hlt : j < n := by have := (List.getElem?_eq_some_iff.1 hj).1; simpa using this
  obtain ⟨v', h1, _⟩ := hc (i + j) (by omega)
  simp [hlt, Array.getD_eq_getD_getElem?, h1] at hj
  rw [h1, hj]
theorem ly {o : AObj} {i n : Nat} {l : List AV} {c : Nat} (h : yi o i n = some l) (ho : ORel ρ o (w.heap[c]?)) :
  ∃ l' : List Value, l'.length = n ∧ VRels ρ l l' ∧ ∀ j v, l'[j]? = some v → w.cell? ⟨c, i + j, none⟩ = some v := by
 cases o <;> simp only [yi] at h <;> try (cases h; done)
 ·rw [ab] at h
  split at h
  ·rename_i hb
   obtain ⟨arr, fz, h1, h2, h3, h4, h5, h6⟩ := ho
   obtain ⟨l', h7, h8, h9⟩ := m9 h6 (zE hb)
   cases h
   exact ⟨l', h7, h8, fun j v hj => by rw [fx h1]; exact h9 j v hj⟩
  ·cases h
 ·rw [ab] at h
  split at h
  ·rename_i hb
   obtain ⟨arr, t', fz, h1, h2, h3, h6, _⟩ := ho
   obtain ⟨l', h7, h8, h9⟩ := m9 h6 (zE hb)
   cases h
   exact ⟨l', h7, h8, fun j v hj => by rw [fx h1]; exact h9 j v hj⟩
  ·cases h
theorem nb {o : AObj} {i n : Nat} {l : List AV} (h : yi o i n = some l) : o ≠ .none := by rintro rfl; cases h
theorem bu (c o j : Nat) : (⟨c, o, none⟩ : Addr).add j = ⟨c, o + j, none⟩ := by
 unfold Addr.add; split
 ·rename_i h; subst h; rfl
 ·rfl
theorem jl {c o : Nat} {l : List Value} {n : Nat} (hn : l.length = n) (h : ∀ j v, l[j]? = some v → w.cell? ⟨c, o + j, none⟩ = some v) :
  (loadCells ⟨c, o, none⟩ n).run PP w = .ok l.toArray w := by
 subst hn
 exact run_loadCells_list w ⟨c, o, none⟩ l fun j v hj => by rw [bu]; exact h j v hj
theorem a54 (hw : WRel ρ a w) {p : AV} {p' : Value} (hp : VRel ρ p p') (n : Nat) : VOK ρ a w (do pure (.agg (← loadCells (← Instr.sureAddr p') n))) (aje n p a) := by
 unfold aje
 split
 ·rename_i b off
  simp only [VRel] at hp
  obtain ⟨c, hc, rfl⟩ := hp
  split
  ·rename_i l hl
   obtain ⟨l', h1, h2, h3⟩ := ly hl (hw.block rfl (nb hl) hc)
   refine VOK.here hw (v' := .agg l'.toArray) ?_ (by simp only [VRel]; exact ⟨_, rfl, by simpa using h2⟩)
   simp [Instr.sureAddr, jl h1 h3]
  ·trivial
 ·trivial
theorem bge (hw : WRel ρ a w) {p : AV} {p' : Value} (hp : VRel ρ p p') (t : TypeId) : VOK ρ a w (Instr.loadAt t p') (ur t p a) := by
 unfold ur
 split
 ·rename_i h
  obtain ⟨d, n, hd, hs, hr⟩ := kr h
  have hagg : iy d = false := by cases e : iy d with | false => rfl | true => rw [e] at hr; simp at hr
  refine (a9r hw hp).of_run ?_
  simp only [Instr.loadAt, loadVar, zR]
  cases hsr : (Instr.sureAddr p').run PP w with
  | halt h w' => rfl
  | ok ad w' => simp only [zQ, zR, lz hd, hagg, zF, if_false]
 ·rename_i n h
  obtain ⟨d, m, hd, hs, hr⟩ := kr h
  by_cases hagg : iy d = true
  ·rw [if_pos hagg] at hr
   injection hr with hr
   injection hr with hr
   subst hr
   refine (a54 hw hp n).of_run ?_
   simp only [Instr.loadAt, loadVar, zR]
   cases hsr : (Instr.sureAddr p').run PP w with
   | halt h w' => rfl
   | ok ad w' => simp only [zQ, zR, lz hd, hagg, if_true, bg hs]
  ·rw [if_neg hagg] at hr
   split at hr <;> cases hr
 ·trivial
theorem aff {v : AV} {v' : Value} (h : ab6 v = true) (hv : VRel ρ v v') : v'.oneCell' = true := by
 cases v <;> simp only [VRel] at hv <;> first
  | (subst hv; rfl)
  | (cases h; done)
  | (obtain ⟨_, rfl⟩ := hv; rfl)
  | (obtain ⟨_, _, rfl⟩ := hv; rfl)
  | (obtain ⟨_, _, _, _, _, rfl⟩ := hv; rfl)
  | (obtain ⟨_, _, _, _, _, _, rfl⟩ := hv; rfl)
  | (obtain ⟨_, _, _, _, rfl⟩ := hv; rfl)
  | (obtain ⟨_, _, rfl, _⟩ := hv; rfl)
  | (obtain ⟨_, _, _, rfl, _⟩ := hv; rfl)
  | (obtain ⟨_, rfl, _⟩ := hv; rfl)
  | (rcases SxRel.shape hv with ⟨_, rfl⟩ | ⟨_, rfl⟩ <;> rfl)
  | (rcases GVRel.shape hv with ⟨_, rfl⟩ | ⟨_, _, _, rfl⟩ | ⟨_, rfl⟩ <;> rfl)
theorem uc : ∀ (l : List AV) (l' : List Value), ahv l = true → VRels ρ l l' → ∀ v ∈ l', v.oneCell' = true
 | [], _, _, h, v, hv => by simp only [VRels] at h; subst h; cases hv
 | x :: l, _, h, hl, v, hv => by
   simp only [VRels] at hl; obtain ⟨y, ys, rfl, h2, h3⟩ := hl
   have h' : bc (ab6 x) (ahv l) false = true := h
   rw [ab] at h'
   split at h'
   ·rename_i hx
    rcases List.mem_cons.1 hv with rfl | hm
    ·exact aff hx h2
    ·exact uc l ys h' h3 v hm
   ·cases h'
theorem qn (c o : Nat) (t : TypeId) (fz : Nat × Nat) : ∀ (vs : List Value) (i : Nat) (w : World) (arr : Array Value), w.heap[c]? = some (.cells arr t fz) → o + i + vs.length ≤ arr.size →
  (∀ j, o + i ≤ j → j < o + i + vs.length → fz.1 ≤ j → j < fz.2 → False) → (∀ v ∈ vs, v.oneCell' = true) →
  ∃ (w' : World) (arr' : Array Value), (storeCells ⟨c, o, none⟩ vs i).run PP w = .ok () w' ∧ w'.heap[c]? = some (.cells arr' t fz) ∧ arr'.size = arr.size ∧
   (∀ j, arr'[j]? = if o + i ≤ j ∧ j < o + i + vs.length then vs[j - (o + i)]? else arr[j]?) ∧ w'.heap.size = w.heap.size ∧ (∀ d, d ≠ c → w'.heap[d]? = w.heap[d]?) ∧
   w'.os = w.os ∧ w'.tape = w.tape ∧ w'.output = w.output := by
 intro vs
 induction vs with
 | nil =>
   intro i w arr h _ _ _
   exact ⟨w, arr, rfl, h, rfl, fun j => by rw [if_neg (by simp only [zS]; omega)], rfl, fun _ _ => rfl, rfl, rfl, rfl⟩
 | cons v vs ih =>
   intro i w arr h h1 h2 h3
   simp only [zO] at h1 h2
   have hcell : w.cell? ⟨c, o + i, none⟩ = some arr[o + i] := by rw [fx h]; exact Array.getElem?_eq_getElem (by omega)
   have hfz : w.frozen? ⟨c, o + i, none⟩ = false := by
    simp only [World.frozen?, h]
    by_cases e : fz.1 ≤ o + i ∧ o + i < fz.2
    ·exact (h2 (o + i) (zY _) (by omega) e.1 e.2).elim
    ·obtain ⟨f1, f2⟩ := fz
     simp only [Bool.and_eq_false_iff, decide_eq_false_iff_not]
     simp only at e
     omega
   have b8 : (w.setCell ⟨c, o + i, none⟩ v).heap[c]? = some (.cells (arr.setIfInBounds (o + i) v) t fz) := by
    simp [World.setCell, Array.getElem?_modify, h]
   obtain ⟨w', arr', r1, r2, r3, r4, r5, r6, r7, r8, r9⟩ := ih (i + 1) (w.setCell ⟨c, o + i, none⟩ v) (arr.setIfInBounds (o + i) v) b8 (by simp; omega)
    (fun j a b => h2 j (by omega) (by omega)) (fun x hx => h3 x (zA _ hx))
   refine ⟨w', arr', ?_, r2, by simpa using r3, ?_, by rw [r5, World.size_setCell], ?_, r7, r8, r9⟩
   ·simp only [storeCells, zR, bu, run_store PP w _ v _ (h3 v (by simp)), hcell, hfz, zF, if_false, zQ]
    exact r1
   ·intro j
    rw [r4 j]
    by_cases a : o + (i + 1) ≤ j ∧ j < o + (i + 1) + vs.length
    ·rw [if_pos a, if_pos ⟨by omega, by simp only [zO]; omega⟩]
     have e : j - (o + i) = (j - (o + (i + 1))) + 1 := by omega
     rw [e, List.getElem?_cons_succ]
    ·rw [if_neg a]
     by_cases b : j = o + i
     ·subst b
      rw [if_pos ⟨zY _, by simp only [zO]; omega⟩]
      simp only [Nat.sub_self, List.getElem?_cons_zero]
      rw [Array.getElem?_setIfInBounds_self_of_lt (by omega)]
     ·rw [if_neg (by simp only [zO]; omega)]
      rw [Array.getElem?_setIfInBounds_ne (by omega)]
   ·intro d hd
    rw [r6 d hd]
    exact RowKit.Below.heap_setCell w ⟨c, o + i, none⟩ v d hd
theorem u4 {fl fh i n : Nat} {fz : Nat × Nat} (h : xd fl fh i n = true) (hf : fz.1 ≤ fz.2 ∧ ∀ i, fz.1 ≤ i → i < fz.2 → fl ≤ i ∧ i < fh) :
  ∀ j, i ≤ j → j < i + n → fz.1 ≤ j → j < fz.2 → False := by
 intro j h1 h2 h3 h4
 have ⟨a, b⟩ := hf.2 j h3 h4
 unfold xd at h
 simp only [ab] at h
 split at h
 ·rename_i e; have := zE e; omega
 ·split at h
  ·rename_i e; have := zE e; omega
  ·have := zE h; omega
theorem aai (hw : WRel ρ a w) {b : K} {c off : Nat} {l : List AV} {l' : List Value} {o : AObj} (hb : ρ b = some c) (h : ajp (cu b a) off l = some o) (hl : VRels ρ l l') :
  ∃ w', (storeCells ⟨c, off, none⟩ l').run PP w = .ok () w' ∧ Adv ρ a w ρ (wset b o a) w' := by
 cases hg : cu b a <;> rw [hg] at h <;> simp only [ajp] at h <;> try (cases h; done)
 rename_i t size ext fl fh cs
 simp only [ab] at h
 split at h <;> try (cases h; done)
 rename_i h1
 split at h <;> try (cases h; done)
 rename_i h2
 split at h <;> try (cases h; done)
 rename_i h3
 cases h
 rw [av] at h2 h3
 have h2 := zE h2
 obtain ⟨arr, fz, e1, e2, e3, e4, e5, e6⟩ := hw.block hg (by simp) hb
 have hlen := VRels.length l l' hl
 obtain ⟨w', arr', r1, r2, r3, r4, r5, r6, r7, r8, r9⟩ := qn c off t fz l' 0 w arr e1 (by omega)
  (fun j x y => u4 h3 e5 j (by omega) (by omega)) (uc l l' h1 hl)
 refine ⟨w', r1, xn (c := c) hw (by rw [← az, hg]; simp) (by rw [← az, hg]; rfl) hb (obj := .cells arr' t fz) ?_ (by simp) (by intro x y z e; cases e; rw [r3]; exact hw.len b c arr t fz (by rw [← az, hg]; simp) hb e1) r2 r5 r6 r7 r8 r9 (by rw [← az, hg]; rfl)⟩
 refine ⟨arr', fz, rfl, by omega, fun e => by rw [r3]; exact e3 e, by rw [du]; exact e4, e5, ?_⟩
 intro i hi
 rw [ja l off cs i (by omega) (by omega), r4 i]
 by_cases x : off ≤ i ∧ i - off < l.length
 ·rw [dif_pos x, if_pos ⟨by omega, by omega⟩]
  obtain ⟨v, q1, q2⟩ := VRels.get l l' hl (i - off) x.2
  exact ⟨v, by rw [← q1]; rfl, q2⟩
 ·rw [dif_neg x, if_neg (by omega)]
  exact e6 i hi
theorem am4 (hw : WRel ρ a w) {p : AV} {p' : Value} (hp : VRel ρ p p') {l : List AV} {l' : List Value} (hl : VRels ρ l l') :
  UOK ρ a w (do storeCells (← Instr.sureAddr p') l') (apa l p a) := by
 unfold apa
 split
 ·rename_i b off
  simp only [VRel] at hp
  obtain ⟨c, hc, rfl⟩ := hp
  split
  ·rename_i o ho
   obtain ⟨w', h1, h2⟩ := aai hw hc ho hl
   intro _
   refine ⟨rfl, ρ, w', ?_, h2⟩
   simp [Instr.sureAddr, h1]
  ·trivial
 ·trivial
theorem a5m {v : AV} {v' : Value} (h : ab6 v = true) (hv : VRel ρ v v') : v'.cells = #[v'] := by
 have := aff h hv
 cases v' <;> first | rfl | cases this
theorem UOK.of_run {s s' : Sem Unit} {r : OR} (h : UOK ρ a w s r) (e : s.run PP w = s'.run PP w) : UOK ρ a w s' r := by
 cases r with
 | val v a' => intro hf; obtain ⟨h0, ρ', w', h1, h3⟩ := h hf; exact ⟨h0, ρ', w', by rw [← e]; exact h1, h3⟩
 | no => trivial
 | _ => exact h
theorem bbs (hw : WRel ρ a w) {p v : AV} {p' v' : Value} (hp : VRel ρ p p') (hv : VRel ρ v v') (t : TypeId) : UOK ρ a w (Instr.storeAt t p' v') (an0 t p v a) := by
 unfold an0
 split
 ·rename_i h
  obtain ⟨d, n, hd, hs, hr⟩ := kr h
  rw [ab]
  split
  ·rename_i h1
   have hn : n = 1 := by
    split at hr
    ·cases hr
    ·split at hr
     ·assumption
     ·cases hr
   subst hn
   refine (am4 hw hp (l' := [v']) (by simp only [VRels]; exact ⟨v', [], rfl, hv, rfl⟩)).of_run ?_
   simp only [Instr.storeAt, storeVar, zR]
   cases hsr : (Instr.sureAddr p').run PP w with
   | halt h w' => rfl
   | ok ad w' => simp [bg hs, a5m h1 hv]
  ·trivial
 ·rename_i n h
  obtain ⟨d, m, hd, hs, hr⟩ := kr h
  have hn : n = m := by
   split at hr
   ·injection hr with hr; injection hr
   ·split at hr <;> cases hr
  subst hn
  split
  ·rename_i l
   rw [ab]
   split
   ·rename_i h1
    rw [av] at h1
    simp only [VRel] at hv
    obtain ⟨ys, rfl, hl⟩ := hv
    refine (am4 hw hp hl).of_run ?_
    simp only [Instr.storeAt, storeVar, zR]
    cases hsr : (Instr.sureAddr p').run PP w with
    | halt h w' => rfl
    | ok ad w' =>
      have hlen := VRels.length _ _ hl
      have h2 := zW h1
      have : ys.size = n := by rw [← h2, ← hlen]; simp
      simp [bg hs, Value.cells, this]
   ·trivial
  ·trivial
 ·trivial
end
end Go.Ev
