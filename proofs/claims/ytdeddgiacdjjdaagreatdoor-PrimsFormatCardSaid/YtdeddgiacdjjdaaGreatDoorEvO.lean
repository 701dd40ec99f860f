import Derived.Test.YtdeddgiacdjjdaaGreatDoorEvC
import Derived.Below
import Derived.Lib.ValidU
import Derived.Laws.Entries
import Derived.Laws.Cells
set_option linter.all false
namespace Go.Ev
theorem zQ : type_of% @Result.andThen_ok := @Result.andThen_ok
theorem zW : type_of% @Nat.eq_of_beq_eq_true := @Nat.eq_of_beq_eq_true
theorem zE : type_of% @Nat.le_of_ble_eq_true := @Nat.le_of_ble_eq_true
theorem zR : type_of% @Sem.run_bind := @Sem.run_bind
theorem zT : type_of% @Sem.run_pure := @Sem.run_pure
theorem zY : type_of% @Nat.le_refl := @Nat.le_refl
theorem zU : type_of% @Bool.and_eq_true := @Bool.and_eq_true
theorem zI : type_of% @Array.getElem?_eq_some_iff := @Array.getElem?_eq_some_iff
theorem zO : type_of% @List.length_cons := @List.length_cons
theorem zP : type_of% @List.length_append := @List.length_append
theorem zA : type_of% @List.mem_cons_of_mem := @List.mem_cons_of_mem
theorem zS : type_of% @List.length_nil := @List.length_nil
theorem zD : type_of% @List.nil_append := @List.nil_append
theorem zF : type_of% @Bool.false_eq_true := @Bool.false_eq_true
theorem zG : type_of% @Option.map_eq_some_iff := @Option.map_eq_some_iff
theorem zH : type_of% @List.not_mem_nil := @List.not_mem_nil
theorem zJ : type_of% @List.cons_append := @List.cons_append
theorem zK : type_of% @List.getElem?_eq_getElem := @List.getElem?_eq_getElem
theorem zL : type_of% @List.getElem?_toArray := @List.getElem?_toArray
@[simp] theorem vr {α : Type} (t e : α) : bc true t e = t := rfl
@[simp] theorem vq {α : Type} (t e : α) : bc false t e = e := rfl
theorem aa {α : Type} (c : Bool) (t e : α) : bc c t e = if c then t else e := by cases c <;> rfl
theorem N.get_set_same {α : Type} (i : I) (x : α) (t : N α) : N.get i (N.set i x t) = x := by cases i <;> rfl
theorem N.get_set_ne {α : Type} {i j : I} (h : i ≠ j) (x : α) (t : N α) : N.get i (N.set j x t) = N.get i t := by
 cases i <;> cases j <;> first | rfl | exact absurd rfl h
theorem N.get_all {α : Type} (i : I) (x : α) : N.get i (N.all x) = x := by cases i <;> rfl
theorem I.num_lt (i : I) : i.num < 16 := by cases i <;> decide
theorem I.num_inj {i j : I} (h : i.num = j.num) : i = j := by cases i <;> cases j <;> first | rfl | cases h
theorem I.of_num (x : Nat) (h : x < 16) : (I.of x).num = x := by
 match x, h with
 | 0, _ | 1, _ | 2, _ | 3, _ | 4, _ | 5, _ | 6, _ | 7, _ | 8, _ | 9, _ | 10, _ | 11, _ | 12, _ | 13, _ | 14, _ | 15, _ => rfl
 | n + 16, h => omega
theorem I.of_inj {x y : Nat} (hx : x < 16) (hy : y < 16) (h : I.of x = I.of y) : x = y := by
 rw [← I.of_num x hx, ← I.of_num y hy, h]
theorem I.next_num {i : I} (h : i.isMax = false) : i.next.num = i.num + 1 := by cases i <;> first | rfl | cases h
theorem I.max_num {i : I} (h : i.isMax = true) : i.num = 15 := by cases i <;> first | rfl | cases h
theorem K.num_mk (a b c d : I) : (K.mk a b c d).num = ((a.num * 16 + b.num) * 16 + c.num) * 16 + d.num := rfl
theorem K.num_inj {k l : K} (h : k.num = l.num) : k = l := by
 obtain ⟨a, b, c, d⟩ := k
 obtain ⟨a', b', c', d'⟩ := l
 simp only [K.num_mk] at h
 have h1 := a.num_lt; have h2 := b.num_lt; have h3 := c.num_lt; have h4 := d.num_lt
 have h1' := a'.num_lt; have h2' := b'.num_lt; have h3' := c'.num_lt; have h4' := d'.num_lt
 rw [I.num_inj (i := a) (j := a') (by omega), I.num_inj (i := b) (j := b') (by omega), I.num_inj (i := c) (j := c') (by omega), I.num_inj (i := d) (j := d') (by omega)]
theorem K.succ_num {k : K} (h : k.isMax = false) : k.succ.num = k.num + 1 := by
 obtain ⟨a, b, c, d⟩ := k
 show (bc d.isMax (bc c.isMax (bc b.isMax (K.mk a.next .i0 .i0 .i0) (.mk a b.next .i0 .i0)) (.mk a b c.next .i0)) (.mk a b c d.next)).num = _
 have h' : bc a.isMax (bc b.isMax (bc c.isMax d.isMax false) false) false = false := h
 cases hd : d.isMax
 ·simp only [vq, K.num_mk, I.next_num hd]; omega
 ·have := I.max_num hd
  cases hc : c.isMax
  ·simp only [vq, vr, K.num_mk, I.next_num hc]; show _ + 0 = _; omega
  ·have := I.max_num hc
   cases hb : b.isMax
   ·simp only [vq, vr, K.num_mk, I.next_num hb]; show (_ * 16 + 0) * 16 + 0 = _; omega
   ·have := I.max_num hb
    cases ha : a.isMax
    ·simp only [vr, K.num_mk, I.next_num ha]; show ((_ * 16 + 0) * 16 + 0) * 16 + 0 = _; omega
    ·rw [ha, hb, hc, hd] at h'; cases h'
theorem K.beq_iff (k l : K) : K.beq k l = true ↔ k = l := by
 constructor
 ·intro h; exact K.num_inj (zW h)
 ·rintro rfl; exact Nat.beq_refl _
theorem af (k : K) (o : AObj) (h : H4) : ac k (bn k o h) = o := by
 obtain ⟨a, b, c, d⟩ := k
 show N.get d (N.get c (N.get b (N.get a (N.set a (N.set b (N.set c (N.set d o (N.get c (N.get b (N.get a h)))) (N.get b (N.get a h))) (N.get a h)) h)))) = o
 rw [N.get_set_same, N.get_set_same, N.get_set_same, N.get_set_same]
theorem ak {k l : K} (hn : k ≠ l) (o : AObj) (h : H4) : ac k (bn l o h) = ac k h := by
 obtain ⟨a, b, c, d⟩ := k
 obtain ⟨a', b', c', d'⟩ := l
 show N.get d (N.get c (N.get b (N.get a (N.set a' (N.set b' (N.set c' (N.set d' o (N.get c' (N.get b' (N.get a' h)))) (N.get b' (N.get a' h))) (N.get a' h)) h)))) = N.get d (N.get c (N.get b (N.get a h)))
 by_cases ha : a = a'
 ·subst ha; rw [N.get_set_same]
  by_cases hb : b = b'
  ·subst hb; rw [N.get_set_same]
   by_cases hc : c = c'
   ·subst hc; rw [N.get_set_same]
    by_cases hd : d = d'
    ·subst hd; exact absurd rfl hn
    ·rw [N.get_set_ne hd]
   ·rw [N.get_set_ne hc]
  ·rw [N.get_set_ne hb]
 ·rw [N.get_set_ne ha]
theorem apu (k : K) : ac k ab9 = .none := by
 obtain ⟨a, b, c, d⟩ := k
 show N.get d (N.get c (N.get b (N.get a ab9))) = _
 unfold ab9
 rw [N.get_all, N.get_all, N.get_all, N.get_all]
def j0 : Cells → Nat
 | .c0 _ => 16
 | .c1 _ => 256
 | .c2 _ => 4096
 | .c3 _ => 65536
theorem v7 {a b : Nat} (ha : a < 16) (hb : b < 16) (h : a ≠ b) : I.of a ≠ I.of b := fun e => h (I.of_inj ha hb e)
theorem aa4 (x : C0) (i j : Nat) (v : AV) : ov (ah6 x i v) j = if i % 16 = j % 16 then v else ov x j := by
 show N.get (I.of (j % 16)) (N.set (I.of (i % 16)) v x) = if i % 16 = j % 16 then v else N.get (I.of (j % 16)) x
 by_cases h : i % 16 = j % 16
 ·rw [if_pos h, h, N.get_set_same]
 ·rw [if_neg h, N.get_set_ne (v7 (by omega) (by omega) (fun e => h e.symm))]
theorem aa5 (x : C1) (i j : Nat) (v : AV) : nw (ah7 x i v) j = if i % 256 = j % 256 then v else nw x j := by
 show ov (N.get (I.of (j / 16 % 16)) (N.set (I.of (i / 16 % 16)) (ah6 (N.get (I.of (i / 16 % 16)) x) i v) x)) j = if i % 256 = j % 256 then v else ov (N.get (I.of (j / 16 % 16)) x) j
 by_cases h : i / 16 % 16 = j / 16 % 16
 ·rw [h, N.get_set_same, aa4]
  by_cases h' : i % 16 = j % 16
  ·rw [if_pos h', if_pos (by omega)]
  ·rw [if_neg h', if_neg (by omega)]
 ·rw [if_neg (by omega), N.get_set_ne (v7 (by omega) (by omega) (fun e => h e.symm))]
theorem aa7 (x : C2) (i j : Nat) (v : AV) : ny (ah8 x i v) j = if i % 4096 = j % 4096 then v else ny x j := by
 show nw (N.get (I.of (j / 256 % 16)) (N.set (I.of (i / 256 % 16)) (ah7 (N.get (I.of (i / 256 % 16)) x) i v) x)) j = if i % 4096 = j % 4096 then v else nw (N.get (I.of (j / 256 % 16)) x) j
 by_cases h : i / 256 % 16 = j / 256 % 16
 ·rw [h, N.get_set_same, aa5]
  by_cases h' : i % 256 = j % 256
  ·rw [if_pos h', if_pos (by omega)]
  ·rw [if_neg h', if_neg (by omega)]
 ·rw [if_neg (by omega), N.get_set_ne (v7 (by omega) (by omega) (fun e => h e.symm))]
theorem ak3 (x : C3) (i j : Nat) (v : AV) : aa8 (aro x i v) j = if i % 65536 = j % 65536 then v else aa8 x j := by
 show ny (N.get (I.of (j / 4096 % 16)) (N.set (I.of (i / 4096 % 16)) (ah8 (N.get (I.of (i / 4096 % 16)) x) i v) x)) j = if i % 65536 = j % 65536 then v else ny (N.get (I.of (j / 4096 % 16)) x) j
 by_cases h : i / 4096 % 16 = j / 4096 % 16
 ·rw [h, N.get_set_same, aa7]
  by_cases h' : i % 4096 = j % 4096
  ·rw [if_pos h', if_pos (by omega)]
  ·rw [if_neg h', if_neg (by omega)]
 ·rw [if_neg (by omega), N.get_set_ne (v7 (by omega) (by omega) (fun e => h e.symm))]
theorem x6 (c : Cells) (i : Nat) (v : AV) : j0 (arn c i v) = j0 c := by cases c <;> rfl
theorem ao5 (c : Cells) (i j : Nat) (v : AV) (hi : i < j0 c) (hj : j < j0 c) : ou (arn c i v) j = if i = j then v else ou c j := by
 cases c with
 | c0 x => simp only [j0] at hi hj; show ov (ah6 x i v) j = if i = j then v else ov x j; rw [aa4, Nat.mod_eq_of_lt hi, Nat.mod_eq_of_lt hj]
 | c1 x => simp only [j0] at hi hj; show nw (ah7 x i v) j = if i = j then v else nw x j; rw [aa5, Nat.mod_eq_of_lt hi, Nat.mod_eq_of_lt hj]
 | c2 x => simp only [j0] at hi hj; show ny (ah8 x i v) j = if i = j then v else ny x j; rw [aa7, Nat.mod_eq_of_lt hi, Nat.mod_eq_of_lt hj]
 | c3 x => simp only [j0] at hi hj; show aa8 (aro x i v) j = if i = j then v else aa8 x j; rw [ak3, Nat.mod_eq_of_lt hi, Nat.mod_eq_of_lt hj]
theorem ao4 (i : Nat) (c : Cells) : kh [] i c = c := rfl
theorem aa3 (v : AV) (l : List AV) (i : Nat) (c : Cells) : kh (v :: l) i c = kh l (i + 1) (arn c i v) := rfl
theorem cx (l : List AV) : ∀ (i : Nat) (c : Cells), j0 (kh l i c) = j0 c := by
 induction l with
 | nil => intro i c; rfl
 | cons v l ih => intro i c; rw [aa3, ih, x6]
theorem gc (l : List AV) : ∀ (i : Nat) (c : Cells) (j : Nat), i + l.length ≤ j0 c → j < j0 c →
  ou (kh l i c) j = if h : i ≤ j ∧ j - i < l.length then l[j - i]'h.2 else ou c j := by
 induction l with
 | nil => intro i c j _ _; simp [ao4]
 | cons v l ih =>
   intro i c j h1 h2
   simp only [zO] at h1
   rw [aa3, ih (i + 1) (arn c i v) j (by rw [x6]; omega) (by rw [x6]; omega), ao5 c i j v (by omega) h2]
   by_cases ha : i + 1 ≤ j ∧ j - (i + 1) < l.length
   ·rw [dif_pos ha, dif_pos ⟨by omega, by simp; omega⟩]
    have e : j - i = (j - (i + 1)) + 1 := by omega
    simp only [e, List.getElem_cons_succ]
   ·rw [dif_neg ha]
    by_cases hb : i = j
    ·subst hb; rw [if_pos rfl, dif_pos ⟨zY _, by simp⟩]; simp
    ·rw [if_neg hb, dif_neg (by simp; omega)]
theorem f8 (n : Nat) (h : n ≤ 65536) : n ≤ j0 (gx n) := by
 unfold gx
 simp only [aa]
 split
 ·rename_i h1; exact zE h1
 ·split
  ·rename_i h1; exact zE h1
  ·split
   ·rename_i h1; exact zE h1
   ·exact h
theorem ao {α : Type} (l : List α) : bl l = l.length := by
 induction l with
 | nil => rfl
 | cons x l ih => show Nat.succ (bl l) = _; rw [ih]; rfl
theorem rn (c : Cells) (n : Nat) : ∀ i, ki c n i = (List.range n).map fun j => ou c (i + j) := by
 induction n with
 | zero => intro i; rfl
 | succ n ih =>
   intro i
   show ou c i :: ki c n (i + 1) = _
   rw [ih, List.range_succ_eq_map]
   simp only [List.map_cons, List.map_map, Nat.add_zero, List.cons.injEq, true_and]
   apply List.map_congr_left
   intro j _
   show ou c (i + 1 + j) = ou c (i + (j + 1))
   rw [show i + 1 + j = i + (j + 1) by omega]
theorem a0u (c : Cells) (n : Nat) (h : n ≤ 65536) : n ≤ j0 (cup c n) ∧ j0 c ≤ j0 (cup c n) := by
 cases c with
 | c0 x =>
   show n ≤ j0 (up0 x n) ∧ 16 ≤ j0 (up0 x n)
   unfold up0
   simp only [aa]
   repeat' split
   all_goals (simp only [j0]; rename_i h1; first | (have := zE h1; omega) | omega)
 | c1 x =>
   show n ≤ j0 (up1 x n) ∧ 256 ≤ j0 (up1 x n)
   unfold up1
   simp only [aa]
   repeat' split
   all_goals (simp only [j0]; rename_i h1; first | (have := zE h1; omega) | omega)
 | c2 x =>
   show n ≤ j0 (up2 x n) ∧ 4096 ≤ j0 (up2 x n)
   unfold up2
   simp only [aa]
   repeat' split
   all_goals (simp only [j0]; rename_i h1; first | (have := zE h1; omega) | omega)
 | c3 x => exact ⟨h, zY _⟩
theorem aa6 (x : C0) (j : Nat) (h : j < 16) : nw (N.set .i0 x rj) j = ov x j := by
 show ov (N.get (I.of (j / 16 % 16)) (N.set .i0 x rj)) j = _
 rw [show j / 16 % 16 = 0 by omega]; rfl
theorem v6 (x : C1) (j : Nat) (h : j < 256) : ny (N.set .i0 x qe) j = nw x j := by
 show nw (N.get (I.of (j / 256 % 16)) (N.set .i0 x qe)) j = _
 rw [show j / 256 % 16 = 0 by omega]; rfl
theorem aa9 (x : C2) (j : Nat) (h : j < 4096) : aa8 (N.set .i0 x uy) j = ny x j := by
 show ny (N.get (I.of (j / 4096 % 16)) (N.set .i0 x uy)) j = _
 rw [show j / 4096 % 16 = 0 by omega]; rfl
theorem ard (c : Cells) (n j : Nat) (h : j < j0 c) : ou (cup c n) j = ou c j := by
 cases c with
 | c0 x =>
   simp only [j0] at h
   show ou (up0 x n) j = ov x j
   unfold up0
   simp only [aa]
   split
   ·rfl
   ·split
    ·exact aa6 x j h
    ·split
     ·exact (v6 _ j (by omega)).trans (aa6 x j h)
     ·exact ((aa9 _ j (by omega)).trans (v6 _ j (by omega))).trans (aa6 x j h)
 | c1 x =>
   simp only [j0] at h
   show ou (up1 x n) j = nw x j
   unfold up1
   simp only [aa]
   split
   ·rfl
   ·split
    ·exact v6 _ j h
    ·exact (aa9 _ j (by omega)).trans (v6 _ j h)
 | c2 x =>
   simp only [j0] at h
   show ou (up2 x n) j = ny x j
   unfold up2
   simp only [aa]
   split
   ·rfl
   ·exact aa9 _ j h
 | c3 x => rfl
theorem asc (i j i' j' : I) (v : AV) (t : F2) : abx i' j' (aig i j v t) = if i = i' ∧ j = j' then v else abx i' j' t := by
 show N.get j' (N.get i' (N.set i (N.set j v (N.get i t)) t)) = if i = i' ∧ j = j' then v else N.get j' (N.get i' t)
 by_cases hi : i = i'
 ·subst hi; rw [N.get_set_same]
  by_cases hj : j = j'
  ·subst hj; rw [N.get_set_same]; simp
  ·rw [N.get_set_ne (fun e => hj e.symm)]; simp [hj]
 ·rw [N.get_set_ne (fun e => hi e.symm)]; simp [hi]
theorem wz {t : Nat} (h : t < 256) (lo hi : F2) : ev t (.mk lo hi) = abx (I.of (t / 16)) (I.of (t % 16)) lo := by
 unfold ev; rw [show Nat.ble t 255 = true from Nat.ble_eq_true_of_le (by omega)]; rfl
theorem wy {t : Nat} (h : ¬ t < 256) (h' : t < 512) (lo hi : F2) : ev t (.mk lo hi) = abx (I.of (t / 16 - 16)) (I.of (t % 16)) hi := by
 unfold ev
 rw [show Nat.ble t 255 = false from by rw [Bool.eq_false_iff]; intro e; have := zE e; omega, show Nat.ble t 511 = true from Nat.ble_eq_true_of_le (by omega)]; rfl
theorem o8 {t : Nat} (h : 512 ≤ t) (τ : F) : ev t τ = .top := by
 unfold ev
 rw [show Nat.ble t 255 = false from by rw [Bool.eq_false_iff]; intro e; have := zE e; omega, show Nat.ble t 511 = false from by rw [Bool.eq_false_iff]; intro e; have := zE e; omega]; rfl
theorem a05 {t : Nat} (h : t < 256) (v : AV) (lo hi : F2) : ail t v (.mk lo hi) = .mk (aig (I.of (t / 16)) (I.of (t % 16)) v lo) hi := by
 unfold ail; rw [show Nat.ble t 255 = true from Nat.ble_eq_true_of_le (by omega)]; rfl
theorem a04 {t : Nat} (h : ¬ t < 256) (v : AV) (lo hi : F2) : ail t v (.mk lo hi) = .mk lo (aig (I.of (t / 16 - 16)) (I.of (t % 16)) v hi) := by
 unfold ail
 rw [show Nat.ble t 255 = false from by rw [Bool.eq_false_iff]; intro e; have := zE e; omega]; rfl
theorem of2 {a b : Nat} (ha : a < 256) (hb : b < 256) : (I.of (a / 16) = I.of (b / 16) ∧ I.of (a % 16) = I.of (b % 16)) ↔ a = b := by
 constructor
 ·rintro ⟨h1, h2⟩
  have := I.of_inj (by omega) (by omega) h1
  have := I.of_inj (by omega) (by omega) h2
  omega
 ·rintro rfl; exact ⟨rfl, rfl⟩
theorem bae {a b : Nat} (ha : a < 512) (hb : b < 512) (ha' : 256 ≤ a) (hb' : 256 ≤ b) : (I.of (a / 16 - 16) = I.of (b / 16 - 16) ∧ I.of (a % 16) = I.of (b % 16)) ↔ a = b := by
 constructor
 ·rintro ⟨h1, h2⟩
  have := I.of_inj (by omega) (by omega) h1
  have := I.of_inj (by omega) (by omega) h2
  omega
 ·rintro rfl; exact ⟨rfl, rfl⟩
theorem tg (t t' : Nat) (v : AV) (τ : F) (h : t < 512) (h' : t' < 512) : ev t' (ail t v τ) = if t = t' then v else ev t' τ := by
 obtain ⟨lo, hi⟩ := τ
 by_cases a : t < 256
 ·rw [a05 a]
  by_cases b : t' < 256
  ·rw [wz b, wz b, asc]; simp only [of2 a b]
  ·rw [wy b h', wy b h', if_neg (by omega)]
 ·rw [a04 a]
  by_cases b : t' < 256
  ·rw [wz b, wz b, if_neg (by omega)]
  ·rw [wy b h', wy b h', asc]; simp only [bae h h' (by omega) (by omega)]
theorem apo (t : Nat) (h : t < 512) : ev t lr = ff := by
 have e : ∀ i j, abx i j aby = ff := by intro i j; show N.get j (N.get i aby) = _; unfold aby; rw [N.get_all, N.get_all]
 unfold lr
 by_cases a : t < 256
 ·rw [wz a, e]
 ·rw [wy a h, e]
end Go.Ev
set_option linter.all false
namespace Go.Ev
def mb : Nat → Int → List Int
 | 0, _ => []
 | f + 1, n => if n < 10 then [48 + n] else mb f (n / 10) ++ [48 + n % 10]
def c9 (n : Int) : List Int := if n < 0 then 45 :: mb 20 (-n) else mb 20 n
def uv (s : List Int) : Prop := ∀ x ∈ s, 0 ≤ x ∧ x < 128
def nj (s : List Int) (n : Int) : List Int := (List.replicate n.toNat s).flatten
open Classical in
noncomputable def a5n : Nat → List (List Int) → Int
 | 228, [l] => if uv l then 1 else 0
 | _, _ => 0
noncomputable def baf : Nat → List (List Int) → List Int
 | 121, [n] => c9 (n.headD 0)
 | 245, [s, n] => nj s (n.headD 0)
 | _, _ => []
def azb : Int → Value := fun _ => .nilIface
def ask : Nat → List Int → Nat → (Nat → Prop) → Array Obj → Prop := fun _ _ _ _ _ => False
theorem aio {k : Nat} {l : List Int} {c : Nat} {F : Nat → Prop} {H H' : Array Obj} (_ : ∀ b, F b → H'[b]? = H[b]?) (h : ask k l c F H) : ask k l c F H' := h.elim
end Go.Ev
set_option linter.all false
namespace Go.Ev
def aq (len n : Nat) : List UInt8 := (List.range len).map fun i => UInt8.ofNat (n / 256 ^ (len - 1 - i))
def ap (len n : Nat) : ByteArray := ⟨(aq len n).toArray⟩
theorem aj (len n : Nat) : (aq len n).length = len := by simp [aq]
theorem cg (len n : Nat) : (ap len n).size = len := by simp [ap, ByteArray.size, aq]
theorem j3 (len n i : Nat) (h : i < (aq len n).length) : (aq len n)[i] = UInt8.ofNat (n / 256 ^ (len - 1 - i)) := by simp [aq]
theorem ll (n k : Nat) : Nat.shiftRight n (8 * k) = n / 256 ^ k := by
 show n >>> (8 * k) = _
 rw [Nat.shiftRight_eq_div_pow, Nat.pow_mul]
theorem azo (len n i : Nat) : sAt len n i = n / 256 ^ (len - 1 - i) % 256 := by
 unfold sAt; rw [ll]
theorem amh (len n i : Nat) : sAt len n i < 256 := by rw [azo]; exact Nat.mod_lt _ (by decide)
theorem vk (n : Nat) : UInt8.ofNat (n % 256) = UInt8.ofNat n := by
 apply UInt8.toNat_inj.1; simp
theorem kg (len n i : Nat) (h : i < (aq len n).length) : (aq len n)[i] = UInt8.ofNat (sAt len n i) := by
 rw [j3, azo, vk]
theorem qs (len n i : Nat) : (UInt8.ofNat (sAt len n i)).toNat = sAt len n i := by
 have := amh len n i
 simp; omega
theorem nv (l1 n1 l2 n2 : Nat) (h : n2 < 256 ^ l2) : aq (l1 + l2) (n1 * 256 ^ l2 + n2) = aq l1 n1 ++ aq l2 n2 := by
 apply List.ext_getElem
 ·simp [aj]
 ·intro i h1 h2
  rw [j3]
  rw [aj] at h1
  rw [List.getElem_append]
  split
  ·rename_i h3
   rw [aj] at h3
   rw [j3]
   have e : l1 + l2 - 1 - i = l2 + (l1 - 1 - i) := by omega
   rw [e, Nat.pow_add, ← Nat.div_div_eq_div_mul, Nat.mul_comm n1, Nat.mul_add_div (Nat.pow_pos (by decide)), Nat.div_eq_of_lt h, Nat.add_zero]
  ·rename_i h3
   rw [aj] at h3
   rw [j3, aj]
   have e : l1 + l2 - 1 - i = l2 - 1 - (i - l1) := by omega
   rw [e]
   have e2 : 256 ^ l2 = 256 ^ (l2 - 1 - (i - l1)) * 256 ^ (i - l1 + 1) := by rw [← Nat.pow_add]; congr 1; omega
   rw [e2, Nat.mul_left_comm, Nat.mul_add_div (Nat.pow_pos (by decide)), ← vk, Nat.pow_succ, ← Nat.mul_assoc, Nat.mul_comm _ 256, Nat.mul_add_mod, vk]
theorem arc (l1 n1 l2 n2 : Nat) (h1 : n1 < 256 ^ l1) (h : n2 < 256 ^ l2) : n1 * 256 ^ l2 + n2 < 256 ^ (l1 + l2) := by
 rw [Nat.pow_add]
 have q1 : (n1 + 1) * 256 ^ l2 ≤ 256 ^ l1 * 256 ^ l2 := Nat.mul_le_mul_right _ h1
 rw [Nat.succ_mul] at q1
 omega
theorem ahz (len n lo hi : Nat) (h1 : lo ≤ hi) (h2 : hi ≤ len) :
  aq (hi - lo) (Nat.shiftRight n (8 * (len - hi)) % 256 ^ (hi - lo)) = (aq len n).extract lo hi := by
 apply List.ext_getElem
 ·simp [aj]; omega
 ·intro i h3 h4
  rw [aj] at h3
  rw [j3]
  simp only [List.extract_eq_take_drop, List.getElem_take, List.getElem_drop]
  rw [j3, ll]
  have e2 : 256 ^ (hi - lo) = 256 ^ (hi - lo - 1 - i) * 256 ^ (i + 1) := by rw [← Nat.pow_add]; congr 1; omega
  rw [e2, Nat.mod_mul_right_div_self, ← vk, Nat.pow_succ, Nat.mul_comm (256 ^ i) 256, Nat.mod_mul_right_mod, vk, Nat.div_div_eq_div_mul, ← Nat.pow_add]
  congr 2
  congr 1
  omega
theorem qd (len n : Nat) : aq (len + 1) n = aq len (n / 256) ++ [UInt8.ofNat n] := by
 have h := nv len (n / 256) 1 (n % 256) (by simpa using Nat.mod_lt _ (by decide))
 rw [Nat.pow_one, Nat.div_add_mod' n 256] at h
 rw [h]
 simp [aq, vk]
theorem ah0 : ∀ (l n n' : Nat), n < 256 ^ l → n' < 256 ^ l → aq l n = aq l n' → n = n' := by
 intro l
 induction l with
 | zero => intro n n' h h' _; simp at h h'; omega
 | succ l ih =>
   intro n n' h h' e
   rw [qd, qd] at e
   have ⟨e1, e2⟩ := List.append_inj' e rfl
   have h3 := ih (n / 256) (n' / 256) (by rw [Nat.pow_succ] at h; exact Nat.div_lt_of_lt_mul (by omega)) (by rw [Nat.pow_succ] at h'; exact Nat.div_lt_of_lt_mul (by omega)) e1
   simp only [List.cons.injEq, and_true] at e2
   have h4 := congrArg UInt8.toNat e2
   simp at h4
   omega
theorem amb (l : List UInt8) : ∀ (b : UInt8) (a : Nat), kw (l ++ [b]) a = kw l a * 256 + b.toNat := by
 induction l with
 | nil => intro b a; rfl
 | cons x l ih => intro b a; show kw (l ++ [b]) (a * 256 + x.toNat) = kw l (a * 256 + x.toNat) * 256 + b.toNat; exact ih b _
theorem ve : ∀ (n : Nat) (l : List UInt8), l.length = n → kw l 0 < 256 ^ n ∧ aq n (kw l 0) = l := by
 intro n
 induction n with
 | zero => intro l h; obtain rfl := List.length_eq_zero_iff.1 h; exact ⟨by decide, rfl⟩
 | succ n ih =>
   intro l h
   obtain ⟨l', b, rfl⟩ : ∃ l' b, l = l' ++ [b] := ⟨l.dropLast, l.getLast (by intro e; simp [e] at h), (List.dropLast_concat_getLast _).symm⟩
   have ⟨h1, h2⟩ := ih l' (by simpa using h)
   rw [amb]
   have hb := UInt8.toNat_lt b
   constructor
   ·rw [Nat.pow_succ]; omega
   ·rw [qd]
    have e : (kw l' 0 * 256 + b.toNat) / 256 = kw l' 0 := by omega
    rw [e, h2]
    congr 2
    rw [← vk, show (kw l' 0 * 256 + b.toNat) % 256 = b.toNat by omega]
    simp
theorem sv (s : ByteArray) : ap s.data.toList.length (kw s.data.toList 0) = s := by
 unfold ap
 rw [(ve _ _ rfl).2]
theorem ag5 (l : List UInt8) : kw l 0 < 256 ^ l.length := (ve _ l rfl).1
theorem a3k (l n l' n' : Nat) (h : n < 256 ^ l) (h' : n' < 256 ^ l') : sEq l n l' n' = decide (ap l n = ap l' n') := by
 unfold sEq
 rw [aa]
 by_cases e : l = l'
 ·subst e
  rw [if_pos (Nat.beq_refl _)]
  by_cases e2 : n = n'
  ·subst e2; simp
  ·rw [show Nat.beq n n' = false from Bool.eq_false_iff.2 fun h => e2 (zW h)]
   symm
   rw [decide_eq_false_iff_not]
   intro e3
   unfold ap at e3
   have e4 : aq l n = aq l n' := by simpa using e3
   exact e2 (ah0 l n n' h h' e4)
 ·rw [if_neg (fun h => e (zW h))]
  symm
  rw [decide_eq_false_iff_not]
  intro e3
  have := congrArg ByteArray.size e3
  rw [cg, cg] at this
  exact e this
end Go.Ev
set_option linter.all false
namespace Go.Ev
structure Env where
 blk : K → Option Nat
 sz : K → Nat
 ft : K → Nat → Prop := fun _ _ => False
instance : CoeFun Env (fun _ => K → Option Nat) := ⟨Env.blk⟩
def SlOk (ρ : Env) (b : K) (o cap cap' : Nat) : Option Nat → Prop
 | none => cap' = cap
 | some es => o + cap' * es ≤ ρ.sz b
def FnRel (ρ : Env) : Fn → Fn → Prop
 | .yield n, f => ∃ c, ρ (K.of n) = some c ∧ f = .yield c
 | g, f => f = g
class Gv where
 σ : Nat → List Int
def ai (l : List Int) : ByteArray := ⟨(l.map fun x => UInt8.ofNat x.toNat).toArray⟩
def c7 (l : List Int) : Prop := ∀ x ∈ l, 0 ≤ x ∧ x < 256
def ajd : Nat → List Int → List (List Int × Int)
 | 0, _ => []
 | _ + 1, [] => []
 | _ + 1, [_] => []
 | f + 1, n :: k :: l => (l.take k.toNat, n) :: ajd f (l.drop k.toNat)
def vb (l : List Int) : List (List Int × Int) := (ajd l.length l).reverse
def qz (op : Nat) (k : IntKind) (a b : Int) : Int := match op with
 | 0 => k.wrap (a + b)
 | 1 => k.wrap (a - b)
 | 2 => k.wrap (a * b)
 | 3 => k.wrap (a.tdiv b)
 | 4 => a.tmod b
 | 5 => a % b
 | 6 => a + b
 | 7 => a * b
 | 8 => (cu .and k a b).getD 0
 | 9 => (cu .or k a b).getD 0
 | 10 => (cu .xor k a b).getD 0
 | 11 => k.wrap (a * 2 ^ (min b.toNat k.bits))
 | 12 => a.fdiv (2 ^ (min b.toNat k.bits))
 | 13 => (cu .andNot k a b).getD 0
 | _ => 0
mutual
noncomputable def SE.eval (σ : Nat → List Int) : SE → Int
 | .v i => (σ i).headD 0
 | .c n => n
 | .bin op k a b => qz op k (a.eval σ) (b.eval σ)
 | .len g => ((g.eval σ).length : Int)
 | .rd g e => (g.eval σ).getD (e.eval σ).toNat 0
 | .dr g e => ((Utf8.decode (ai (g.eval σ)) (e.eval σ).toNat).1 : Int)
 | .dw g e => ((Utf8.decode (ai (g.eval σ)) (e.eval σ).toNat).2 : Int)
 | .eqg g h => if g.eval σ = h.eval σ then 1 else 0
 | .mhas m g => if ((vb (m.eval σ)).lookup (g.eval σ)).isSome then 1 else 0
 | .mget m g => ((vb (m.eval σ)).lookup (g.eval σ)).getD 0
 | .app f l => a5n f (l.eval σ)
noncomputable def GE.eval (σ : Nat → List Int) : GE → List Int
 | .s i => σ i
 | .nil => []
 | .one e => [e.eval σ]
 | .cat a b => a.eval σ ++ b.eval σ
 | .lit l n => (aq l n).map fun b => (b.toNat : Int)
 | .cut g a b => ((g.eval σ).take (b.eval σ).toNat).drop (a.eval σ).toNat
 | .enc e => (Utf8.encode (e.eval σ)).data.toList.map fun b => (b.toNat : Int)
 | .app f l => baf f (l.eval σ)
noncomputable def AL.eval (σ : Nat → List Int) : AL → List (List Int)
 | .nil => []
 | .i e l => [e.eval σ] :: l.eval σ
 | .g g l => g.eval σ :: l.eval σ
end
def arL : List (Nat × Nat × Int × Int) := []
noncomputable def a6d (s : ByteArray) : Int × Int × Int := match arL.find? fun p => decide (ap p.1 p.2.1 = s) with
 | some p => (p.2.2.1, p.2.2.2, 1)
 | none => (0, 0, 0)
noncomputable def ad9 (σ : Nat → List Int) : ByteArray := ap ((σ 13).headD 0).toNat ((σ 14).headD 0).toNat
def a9s (σ : Nat → List Int) : Prop := a6d (ad9 σ) = ((σ 3).headD 0, (σ 4).headD 0, (σ 5).headD 0)
def SxRel (σ : Nat → List Int) (c : Nat) (e : SE) (A : List (Nat × Nat)) (v : Value) : Prop := match c with
 | 0 => v = .string (ad9 σ) ∧ ∀ p ∈ A, ad9 σ ≠ ap p.1 p.2
 | 1 => v = .bool (decide (e.eval σ ≠ 0))
 | _ => v = .string (ad9 σ) ∧ a9s σ
def SA.holds (σ : Nat → List Int) : SA → Prop
 | .mk true a b r => decide (a.eval σ < b.eval σ) = r
 | .mk false a b r => decide (a.eval σ = b.eval σ) = r
def SAll (σ : Nat → List Int) (A : List SA) : Prop := ∀ x ∈ A, x.holds σ
variable [Gv]
def GVRel (ρ : Env) (x : GV) (v : Value) : Prop := match x with
 | .str g A => SAll Gv.σ A ∧ v = .string (ai (g.eval Gv.σ)) ∧ c7 (g.eval Gv.σ)
 | .sl b es n A => SAll Gv.σ A ∧ ∃ c cap', ρ b = some c ∧ 0 ≤ n.eval Gv.σ ∧ (n.eval Gv.σ).toNat ≤ cap' ∧ cap' * es ≤ ρ.sz b ∧ v = .slice (some ⟨c, 0, none⟩) (n.eval Gv.σ).toNat cap'
 | .ptr b es i off A => SAll Gv.σ A ∧ ∃ c, ρ b = some c ∧ 0 ≤ i.eval Gv.σ ∧ v = .pointer (some ⟨c, es * (i.eval Gv.σ).toNat + off, none⟩)
 | .sr b o n A => SAll Gv.σ A ∧ ∃ c cap', ρ b = some c ∧ 0 ≤ n.eval Gv.σ ∧ (n.eval Gv.σ).toNat ≤ cap' ∧ v = .slice (some ⟨c, (o.eval Gv.σ).toNat, none⟩) (n.eval Gv.σ).toNat cap'
 | .pr b o i A => SAll Gv.σ A ∧ ∃ c, ρ b = some c ∧ 0 ≤ i.eval Gv.σ ∧ v = .pointer (some ⟨c, (o.eval Gv.σ).toNat + (i.eval Gv.σ).toNat, none⟩)
def MRel : List (List Int × Int) → List MapEntry → Prop
 | [], l => l = []
 | e :: es, l => ∃ m ms, l = m :: ms ∧ m.key = .string (ai e.1) ∧ c7 e.1 ∧ m.val = .int .i64 e.2 ∧ MRel es ms
def GORel (o : GO) (x0 : Option Obj) : Prop := match o with
 | .gh t ks n g => ∃ arr fz, x0 = some (.cells arr t fz) ∧ fz.2 ≤ fz.1 ∧ 0 ≤ n.eval Gv.σ ∧ (g.eval Gv.σ).length = ks.length * (n.eval Gv.σ).toNat ∧ (g.eval Gv.σ).length ≤ arr.size ∧ (ks = [.u8] → c7 (g.eval Gv.σ)) ∧
    ∀ (i : Nat) (h : i < (g.eval Gv.σ).length), ∃ k, ks[i % ks.length]? = some k ∧ arr[i]? = some (.int k (g.eval Gv.σ)[i])
 | .junk t => ∃ arr fz, x0 = some (.cells arr t fz) ∧ fz.2 ≤ fz.1
 | .gmap m => ∃ entries clock, x0 = some (.map entries clock) ∧ MRel (vb (m.eval Gv.σ)) entries.toList
 | .lh _ _ => ∃ y, x0 = some y
 | .rh o n g => ∃ arr t fz, x0 = some (.cells arr t fz) ∧ 0 ≤ n.eval Gv.σ ∧ (g.eval Gv.σ).length = (n.eval Gv.σ).toNat ∧
    ∀ (i : Nat) (h : i < (g.eval Gv.σ).length), arr[(o.eval Gv.σ).toNat + i]? = some (.int .i64 (g.eval Gv.σ)[i])
 | .rb o n g => ∃ arr t fz, x0 = some (.cells arr t fz) ∧ 0 ≤ n.eval Gv.σ ∧ (g.eval Gv.σ).length = (n.eval Gv.σ).toNat ∧
    ∀ (i : Nat) (h : i < (g.eval Gv.σ).length), arr[(o.eval Gv.σ).toNat + i]? = some (.bool (decide ((g.eval Gv.σ)[i] ≠ 0)))
 | .iter g pos A => SAll Gv.σ A ∧ x0 = some (.stringIter (ai (g.eval Gv.σ)) (pos.eval Gv.σ).toNat) ∧ 0 ≤ pos.eval Gv.σ ∧ c7 (g.eval Gv.σ)
mutual
def VRel (ρ : Env) : AV → Value → Prop
 | .bool b, v => v = .bool b
 | .int k n, v => v = .int k n
 | .str l n, v => n < 256 ^ l ∧ v = .string (ap l n)
 | .nilPtr, v => v = .pointer none
 | .ptr b o, v => ∃ c, ρ b = some c ∧ v = .pointer (some ⟨c, o, none⟩)
 | .nilSlice, v => v = .slice none 0 0
 | .slice b o len cap ex, v => ∃ c cap', ρ b = some c ∧ (len ≤ cap ∧ cap ≤ cap') ∧ SlOk ρ b o cap cap' ex ∧ v = .slice (some ⟨c, o, none⟩) len cap'
 | .nilMap, v => v = .map none
 | .map b, v => ∃ c, ρ b = some c ∧ v = .map (some c)
 | .func fn x y, v => ∃ fn' x' y', v = .func fn' x' y' ∧ FnRel ρ fn fn' ∧ VRels ρ x x'.toList ∧ VRels ρ y y'.toList
 | .nilFunc, v => v = .nilFunc
 | .iface t a, v => ∃ v', v = .iface t v' ∧ VRel ρ a v'
 | .nilIface, v => v = .nilIface
 | .agg xs, v => ∃ ys, v = .agg ys ∧ VRels ρ xs ys.toList
 | .tuple xs, v => ∃ ys, v = .tuple ys ∧ VRels ρ xs ys.toList
 | .esl, v => ∃ p cap', v = .slice (some p) 0 cap'
 | .wsl b kb d n, v => ∃ c c' cap', ρ b = some c ∧ ρ kb = some c' ∧ (1 ≤ n ∧ n ≤ cap' ∧ cap' ≤ 9223372036854775807 ∧ ρ.sz kb + d + cap' ≤ ρ.sz b) ∧ v = .slice (some ⟨c, ρ.sz kb + d, none⟩) n cap'
 | .wse b, v => ∃ c p cap', ρ b = some c ∧ (cap' ≤ 9223372036854775807 ∧ p + cap' ≤ ρ.sz b) ∧ v = .slice (some ⟨c, p, none⟩) 0 cap'
 | .wptr b kb i, v => ∃ c c', ρ b = some c ∧ ρ kb = some c' ∧ v = .pointer (some ⟨c, ρ.sz kb + i, none⟩)
 | .sym k e A, v => SAll Gv.σ A ∧ v = .int k (e.eval Gv.σ)
 | .sx c e A, v => SxRel Gv.σ c e A v
 | .gv x, v => GVRel ρ x v
 | .top, _ => True
def VRels (ρ : Env) : List AV → List Value → Prop
 | [], l => l = []
 | a :: r, l => ∃ v vs, l = v :: vs ∧ VRel ρ a v ∧ VRels ρ r vs
end
def Env.le (ρ ρ' : Env) : Prop := ∀ k c, ρ k = some c → ρ' k = some c ∧ ρ'.sz k = ρ.sz k
theorem Env.le_refl (ρ : Env) : ρ.le ρ := fun _ _ h => ⟨h, rfl⟩
theorem Env.le_trans {a b c : Env} (h : a.le b) (h' : b.le c) : a.le c := fun k x e => ⟨(h' k x (h k x e).1).1, ((h' k x (h k x e).1).2).trans (h k x e).2⟩
theorem SlOk.mono {ρ ρ' : Env} {b : K} {o cap cap' : Nat} {ex : Option Nat} (h : ρ'.sz b = ρ.sz b) (e : SlOk ρ b o cap cap' ex) : SlOk ρ' b o cap cap' ex := by
 cases ex with
 | none => exact e
 | some es => simp only [SlOk] at e ⊢; rw [h]; exact e
theorem FnRel.mono {ρ ρ' : Env} (h : ρ.le ρ') : ∀ {f g : Fn}, FnRel ρ f g → FnRel ρ' f g := by
 intro f g e
 cases f <;> first | exact e | (obtain ⟨c, h1, h2⟩ := e; exact ⟨c, (h _ _ h1).1, h2⟩)
theorem FnRel.plain {ρ : Env} {f g : Fn} (h : ∀ n, f ≠ .yield n) (e : FnRel ρ f g) : g = f := by
 cases f <;> first | exact e | exact absurd rfl (h _)
theorem FnRel.refl {ρ : Env} {f : Fn} (h : ∀ n, f ≠ .yield n) : FnRel ρ f f := by
 cases f <;> first | rfl | exact absurd rfl (h _)
theorem GVRel.mono {ρ ρ' : Env} (h : ρ.le ρ') {x : GV} {v : Value} (e : GVRel ρ x v) : GVRel ρ' x v := by
 cases x with
 | str => exact e
 | sl b es n A => obtain ⟨h0, c, cap', h1, h2, h3, h4, h5⟩ := e; exact ⟨h0, c, cap', (h _ _ h1).1, h2, h3, by rw [(h _ _ h1).2]; exact h4, h5⟩
 | ptr b es i off A => obtain ⟨h0, c, h1, h2⟩ := e; exact ⟨h0, c, (h _ _ h1).1, h2⟩
 | sr b o n A => obtain ⟨h0, c, cap', h1, h2, h3, h4⟩ := e; exact ⟨h0, c, cap', (h _ _ h1).1, h2, h3, h4⟩
 | pr b o i A => obtain ⟨h0, c, h1, h2⟩ := e; exact ⟨h0, c, (h _ _ h1).1, h2⟩
mutual
theorem VRel.mono {ρ ρ' : Env} (h : ρ.le ρ') : ∀ (a : AV) (v : Value), VRel ρ a v → VRel ρ' a v
 | .bool _, _, e | .int _ _, _, e | .str _ _, _, e | .nilPtr, _, e | .nilSlice, _, e | .nilMap, _, e | .nilFunc, _, e | .nilIface, _, e | .esl, _, e | .top, _, e => by simpa only [VRel] using e
 | .ptr _ _, _, e => by simp only [VRel] at e ⊢; obtain ⟨c, h1, h2⟩ := e; exact ⟨c, (h _ _ h1).1, h2⟩
 | .slice _ _ _ _ _, _, e => by simp only [VRel] at e ⊢; obtain ⟨c, cap', h1, h2, h3, h4⟩ := e; exact ⟨c, cap', (h _ _ h1).1, h2, SlOk.mono (h _ _ h1).2 h3, h4⟩
 | .map _, _, e => by simp only [VRel] at e ⊢; obtain ⟨c, h1, h2⟩ := e; exact ⟨c, (h _ _ h1).1, h2⟩
 | .wsl _ _ _ _, _, e => by simp only [VRel] at e ⊢; obtain ⟨c, c', cap', h1, h2, h3, h4⟩ := e; exact ⟨c, c', cap', (h _ _ h1).1, (h _ _ h2).1, by rw [(h _ _ h1).2, (h _ _ h2).2]; exact h3, by rw [(h _ _ h2).2]; exact h4⟩
 | .wse _, _, e => by simp only [VRel] at e ⊢; obtain ⟨c, p, cap', h1, h3, h4⟩ := e; exact ⟨c, p, cap', (h _ _ h1).1, by rw [(h _ _ h1).2]; exact h3, h4⟩
 | .sym _ _ _, _, e => by simpa only [VRel] using e
 | .sx _ _ _, _, e => by simpa only [VRel] using e
 | .gv _, _, e => by simp only [VRel] at e ⊢; exact e.mono h
 | .wptr _ _ _, _, e => by simp only [VRel] at e ⊢; obtain ⟨c, c', h1, h2, h4⟩ := e; exact ⟨c, c', (h _ _ h1).1, (h _ _ h2).1, by rw [(h _ _ h2).2]; exact h4⟩
 | .func _ x y, _, e => by simp only [VRel] at e ⊢; obtain ⟨f', x', y', h1, h0, h2, h3⟩ := e; exact ⟨f', x', y', h1, h0.mono h, VRels.mono h x _ h2, VRels.mono h y _ h3⟩
 | .iface _ a, _, e => by simp only [VRel] at e ⊢; obtain ⟨v', h1, h2⟩ := e; exact ⟨v', h1, VRel.mono h a _ h2⟩
 | .agg xs, _, e => by simp only [VRel] at e ⊢; obtain ⟨ys, h1, h2⟩ := e; exact ⟨ys, h1, VRels.mono h xs _ h2⟩
 | .tuple xs, _, e => by simp only [VRel] at e ⊢; obtain ⟨ys, h1, h2⟩ := e; exact ⟨ys, h1, VRels.mono h xs _ h2⟩
theorem VRels.mono {ρ ρ' : Env} (h : ρ.le ρ') : ∀ (l : List AV) (vs : List Value), VRels ρ l vs → VRels ρ' l vs
 | [], _, e => by simpa only [VRels] using e
 | a :: l, _, e => by simp only [VRels] at e ⊢; obtain ⟨v, vs, h1, h2, h3⟩ := e; exact ⟨v, vs, h1, VRel.mono h a _ h2, VRels.mono h l _ h3⟩
end
theorem VRels.length {ρ : Env} : ∀ (l : List AV) (vs : List Value), VRels ρ l vs → vs.length = l.length
 | [], _, e => by simp only [VRels] at e; subst e; rfl
 | a :: l, _, e => by simp only [VRels] at e; obtain ⟨v, vs, rfl, _, h3⟩ := e; simp [VRels.length l vs h3]
theorem VRels.get {ρ : Env} : ∀ (l : List AV) (vs : List Value), VRels ρ l vs → ∀ (i : Nat) (h : i < l.length), ∃ v, vs[i]? = some v ∧ VRel ρ l[i] v
 | [], _, _, i, h => by simp at h
 | a :: l, _, e, i, h => by
   simp only [VRels] at e; obtain ⟨v, vs, rfl, h2, h3⟩ := e
   cases i with
   | zero => exact ⟨v, rfl, h2⟩
   | succ i => exact VRels.get l vs h3 i (by simpa using h)
theorem VRels.of_get {ρ : Env} : ∀ (l : List AV) (vs : List Value), vs.length = l.length → (∀ (i : Nat) (h : i < l.length), ∃ v, vs[i]? = some v ∧ VRel ρ l[i] v) → VRels ρ l vs
 | [], [], _, _ => by simp only [VRels]
 | [], _ :: _, h, _ => by simp at h
 | _ :: _, [], h, _ => by simp at h
 | a :: l, v :: vs, h, e => by
   simp only [VRels]
   obtain ⟨v', h1, h2⟩ := e 0 (by simp)
   simp at h1; subst h1
   refine ⟨v, vs, rfl, by simpa using h2, VRels.of_get l vs (by simpa using h) fun i hi => ?_⟩
   obtain ⟨v', h1, h2⟩ := e (i + 1) (by simpa using hi)
   exact ⟨v', by simpa using h1, by simpa using h2⟩
theorem VRels.append {ρ : Env} : ∀ (l l' : List AV) (vs vs' : List Value), VRels ρ l vs → VRels ρ l' vs' → VRels ρ (l ++ l') (vs ++ vs')
 | [], _, _, _, h, h' => by simp only [VRels] at h; subst h; exact h'
 | a :: l, l', _, vs', h, h' => by
   simp only [VRels] at h; obtain ⟨v, vs, rfl, h2, h3⟩ := h
   simp only [zJ, VRels]
   exact ⟨v, vs ++ vs', rfl, h2, VRels.append l l' vs vs' h3 h'⟩
theorem SxRel.shape {σ : Nat → List Int} {c : Nat} {e : SE} {A : List (Nat × Nat)} {v : Value} (h : SxRel σ c e A v) : (∃ s, v = .string s) ∨ ∃ b, v = .bool b := by
 unfold SxRel at h
 split at h
 ·exact .inl ⟨_, h.1⟩
 ·exact .inr ⟨_, h⟩
 ·exact .inl ⟨_, h.1⟩
theorem GVRel.shape {ρ : Env} {x : GV} {v : Value} (h : GVRel ρ x v) : (∃ s, v = .string s) ∨ (∃ p l c, v = .slice (some p) l c) ∨ ∃ p, v = .pointer (some p) := by
 cases x with
 | str => exact .inl ⟨_, h.2.1⟩
 | sl => obtain ⟨_, c, cap', _, _, _, _, e⟩ := h; exact .inr (.inl ⟨_, _, _, e⟩)
 | ptr => obtain ⟨_, c, _, _, e⟩ := h; exact .inr (.inr ⟨_, e⟩)
 | sr => obtain ⟨_, c, cap', _, _, _, e⟩ := h; exact .inr (.inl ⟨_, _, _, e⟩)
 | pr => obtain ⟨_, c, _, _, e⟩ := h; exact .inr (.inr ⟨_, e⟩)
def aq3 (ρ : Env) (size : Nat) (c : Cells) (arr : Array Value) : Prop := ∀ i, i < size → ∃ v, arr[i]? = some v ∧ VRel ρ (ou c i) v
def ERel (ρ : Env) : List (AV × AV) → List MapEntry → Prop
 | [], l => l = []
 | e :: es, l => ∃ m ms, l = m :: ms ∧ VRel ρ e.1 m.key ∧ VRel ρ e.2 m.val ∧ ERel ρ es ms
theorem ERel.mono {ρ ρ' : Env} (h : ρ.le ρ') : ∀ es l, ERel ρ es l → ERel ρ' es l
 | [], _, e => e
 | _ :: es, _, ⟨m, ms, h1, h2, h3, h4⟩ => ⟨m, ms, h1, VRel.mono h _ _ h2, VRel.mono h _ _ h3, ERel.mono h es ms h4⟩
inductive CSub : Code → Code → Prop
 | refl (c : Code) : CSub c c
 | seqL {a b c : Code} : CSub (.seq a b) c → CSub a c
 | seqR {a b c : Code} : CSub (.seq a b) c → CSub b c
 | condT {v : Operand} {a b c : Code} : CSub (.cond v a b) c → CSub a c
 | condF {v : Operand} {a b c : Code} : CSub (.cond v a b) c → CSub b c
 | block {id : Nat} {a c : Code} : CSub (.block id a) c → CSub a c
 | loop {a c : Code} : CSub (.loop a) c → CSub a c
def InF (f : FuncId) (c : Code) : Prop := ∃ fn x, pz f = some (fn, x) ∧ CSub c x
omit [Gv] in
theorem InF.sub {f : FuncId} {c d : Code} (h : InF f c) (g : ∀ x, CSub c x → CSub d x) : InF f d := let ⟨fn, x, h1, h2⟩ := h; ⟨fn, x, h1, g x h2⟩
def GPs (ρ : Env) (arr : Array Value) (ps : List GP) : Prop := ∀ e t k, GP.mk e t k ∈ ps → 0 ≤ e.eval Gv.σ ∧ ∃ c, ρ k = some c ∧ arr[(e.eval Gv.σ).toNat]? = some (.iface t (.pointer (some ⟨c, 0, none⟩)))
theorem GPs.mono {ρ ρ' : Env} (h : ρ.le ρ') {arr : Array Value} {ps : List GP} (e : GPs ρ arr ps) : GPs ρ' arr ps := fun x t k hm => let ⟨h0, c, h1, h2⟩ := e x t k hm; ⟨h0, c, (h _ _ h1).1, h2⟩
def a0k (t : Nat) (arr : Array Value) : Prop := ∀ g cs, t = g + 1 → LE.mk g cs ∈ laidL → ∀ ρ, VRels ρ cs arr.toList
def ORel (ρ : Env) (o : AObj) (x0 : Option Obj) : Prop :=
 match o with
 | .none => True
 | .cells t size ext fl fh c => ∃ arr fz, x0 = some (.cells arr t fz) ∧ size ≤ arr.size ∧ (ext = false → arr.size = size) ∧ size ≤ j0 c ∧ (fz.1 ≤ fz.2 ∧ ∀ i, fz.1 ≤ i → i < fz.2 → fl ≤ i ∧ i < fh) ∧ aq3 ρ size c arr
 | .ro t size c => ∃ arr t' fz, x0 = some (.cells arr t' fz) ∧ arr.size = size ∧ size ≤ j0 c ∧ aq3 ρ size c arr ∧ a0k t arr
 | .map es => ∃ entries clock, x0 = some (.map entries clock) ∧ ERel ρ es entries.toList
 | .pk t len n fl fh => ∃ arr fz, x0 = some (.cells arr t fz) ∧ len ≤ arr.size ∧ (fz.1 ≤ fz.2 ∧ ∀ i, fz.1 ≤ i → i < fz.2 → fl ≤ i ∧ i < fh) ∧ n < 256 ^ len ∧ ∀ (i : Nat) (b : UInt8), (aq len n)[i]? = some b → arr[i]? = some (Value.int .u8 b.toNat)
 | .umap es => ∃ entries clock l, x0 = some (.map entries clock) ∧ l.Perm es ∧ ERel ρ l entries.toList
 | .strIter len n pos => x0 = some (.stringIter (ap len n) pos) ∧ n < 256 ^ len
 | .loop st pend fn nt τ ps x y kd => ∃ tmps c, x0 = some (.loop { state := st, pending := pend, fn, tmps, params := ps.toArray, assign := x, body := y, defers := c }) ∧ ρ kd = some c ∧ tmps.size = nt ∧ nt ≤ 512 ∧ (∀ t, VRel ρ (ev t τ) (tmps.getD t undef)) ∧ ∃ g, InF fn (.rangeFunc g ps.toArray x y)
 | .win kb l => ∃ arr t fz c', x0 = some (.cells arr t fz) ∧ ρ kb = some c' ∧ fz.2 ≤ fz.1 ∧ ∀ (i : Nat) (h : i < l.length), ∃ v, arr[ρ.sz kb + i]? = some v ∧ VRel ρ l[i] v
 | .deferred (some []) => x0 = some (.deferred (some []))
 | .deferred none => x0 = some (.deferred none)
 | .deferred _ => False
 | .gob g => GORel g x0
 | .gp _ t n g ps => ∃ arr fz, x0 = some (.cells arr t fz) ∧ fz.2 ≤ fz.1 ∧ 0 ≤ n.eval Gv.σ ∧ ((g.eval Gv.σ).length : Int) ≤ n.eval Gv.σ ∧ (n.eval Gv.σ).toNat ≤ arr.size ∧ (∀ (i : Nat) (h : i < (g.eval Gv.σ).length), arr[i]? = some (azb (g.eval Gv.σ)[i])) ∧ GPs ρ arr ps
theorem ORel.mono {ρ ρ' : Env} (h : ρ.le ρ') {o : AObj} {x : Option Obj} (e : ORel ρ o x) : ORel ρ' o x := by
 cases o with
 | none => trivial
 | cells t size ext fl fh c =>
   obtain ⟨arr, fz, h1, h2, h3, h4, h5, h6⟩ := e
   exact ⟨arr, fz, h1, h2, h3, h4, h5, fun i hi => let ⟨v, a, b⟩ := h6 i hi; ⟨v, a, VRel.mono h _ _ b⟩⟩
 | ro t size c =>
   obtain ⟨arr, t', fz, h1, h2, h3, h6, h7⟩ := e
   exact ⟨arr, t', fz, h1, h2, h3, fun i hi => let ⟨v, a, b⟩ := h6 i hi; ⟨v, a, VRel.mono h _ _ b⟩, h7⟩
 | map es => obtain ⟨a, b, h1, h2⟩ := e; exact ⟨a, b, h1, ERel.mono h _ _ h2⟩
 | umap es => obtain ⟨a, b, l, h1, h2, h3⟩ := e; exact ⟨a, b, l, h1, h2, ERel.mono h _ _ h3⟩
 | pk => exact e
 | gob => exact e
 | gp => obtain ⟨arr, fz, h1, h2, h3, h4, h5, h6, h7⟩ := e; exact ⟨arr, fz, h1, h2, h3, h4, h5, h6, h7.mono h⟩
 | strIter => exact e
 | loop st pend fn nt τ ps x y kd => obtain ⟨tmps, c, h1, h2, h3, h4, h5, h6⟩ := e; exact ⟨tmps, c, h1, (h _ _ h2).1, h3, h4, fun t => VRel.mono h _ _ (h5 t), h6⟩
 | win kb l =>
   obtain ⟨arr, t, fz, c', h1, h2, h3, h4⟩ := e
   exact ⟨arr, t, fz, c', h1, (h _ _ h2).1, h3, fun i hi => let ⟨v, a, b⟩ := h4 i hi; ⟨v, by rw [(h _ _ h2).2]; exact a, VRel.mono h _ _ b⟩⟩
 | deferred ds =>
   cases ds with
   | none => exact e
   | some l => cases l with
     | nil => exact e
     | cons _ _ => exact e.elim
theorem GORel.some {o : GO} {x : Option Obj} (e : GORel o x) : ∃ y, x = some y := by
 cases o with
 | gh => obtain ⟨_, _, h, _⟩ := e; exact ⟨_, h⟩
 | junk => obtain ⟨_, _, h, _⟩ := e; exact ⟨_, h⟩
 | gmap => obtain ⟨_, _, h, _⟩ := e; exact ⟨_, h⟩
 | lh => exact e
 | rh => obtain ⟨_, _, _, h, _⟩ := e; exact ⟨_, h⟩
 | rb => obtain ⟨_, _, _, h, _⟩ := e; exact ⟨_, h⟩
 | iter => exact ⟨_, e.2.1⟩
theorem ORel.some {ρ : Env} {o : AObj} {x : Option Obj} (e : ORel ρ o x) (h : o ≠ .none) : ∃ y, x = some y := by
 cases o with
 | none => exact absurd rfl h
 | cells => obtain ⟨arr, fz, h1, _⟩ := e; exact ⟨_, h1⟩
 | ro => obtain ⟨arr, t', fz, h1, _⟩ := e; exact ⟨_, h1⟩
 | map => obtain ⟨a, b, h1, _⟩ := e; exact ⟨_, h1⟩
 | umap es => obtain ⟨a, b, l, h1, _⟩ := e; exact ⟨_, h1⟩
 | pk => obtain ⟨arr, fz, h1, _⟩ := e; exact ⟨_, h1⟩
 | gob => exact GORel.some e
 | gp => obtain ⟨arr, fz, h1, _⟩ := e; exact ⟨_, h1⟩
 | strIter => exact ⟨_, e.1⟩
 | loop st pend fn nt τ ps x y kd => obtain ⟨tmps, c, h1, _⟩ := e; exact ⟨_, h1⟩
 | win kb l => obtain ⟨arr, t, fz, c', h1, _⟩ := e; exact ⟨_, h1⟩
 | deferred ds =>
   cases ds with
   | none => exact ⟨_, e⟩
   | some l => cases l with
     | nil => exact ⟨_, e⟩
     | cons _ _ => exact e.elim
def W.h : W → H4 | .mk h _ => h
def W.nx : W → K | .mk _ nx => nx
@[simp] theorem W.h_mk (h : H4) (nx : K) : (W.mk h nx).h = h := rfl
@[simp] theorem W.nx_mk (h : H4) (nx : K) : (W.mk h nx).nx = nx := rfl
theorem ar (b : K) (a : W) : bz b a = ac b a.h := by cases a; rfl
theorem c8 (b : K) (o : AObj) (a : W) : wset b o a = .mk (bn b o a.h) a.nx := by cases a; rfl
def AObj.isRo : AObj → Bool | .ro .. => true | .gob (.rh ..) => true | .gob (.rb ..) => true | .gp r .. => r | _ => false
def ay : AObj → Option (Nat × GE)
 | .gob (.lh k g) => some (k, g)
 | _ => none
structure GhAt (ρ : Env) (a : W) (w : World) (k : K) (kd : Nat) (g : GE) : Prop where
 root : ∀ c, ρ k = some c → ρ.ft k c
 rel : ∀ c, ρ k = some c → ask kd (g.eval Gv.σ) c (ρ.ft k) w.heap
 lt : ∀ c, ρ.ft k c → c < w.heap.size
 sep : ∀ l, ac l a.h ≠ .none → l ≠ k → ∀ c, ρ l = some c → ¬ ρ.ft k c
 dis : ∀ l, ay (ac l a.h) ≠ none → l ≠ k → ∀ c, ρ.ft l c → ¬ ρ.ft k c
structure WRel (ρ : Env) (a : W) (w : World) : Prop where
 inj : ∀ k l, ac k a.h ≠ .none → ac l a.h ≠ .none → ρ k = ρ l → k = l ∨ ((ac k a.h).isRo = true ∧ (ac l a.h).isRo = true)
 dom : ∀ k, ac k a.h ≠ .none → ∃ c, ρ k = some c ∧ ORel ρ (ac k a.h) (w.heap[c]?)
 len : ∀ k c arr t fz, ac k a.h ≠ .none → ρ k = some c → w.heap[c]? = some (.cells arr t fz) → arr.size = ρ.sz k
 gho : ∀ k kd g, ay (ac k a.h) = some (kd, g) → GhAt ρ a w k kd g
theorem WRel.inj1 {ρ : Env} {a : W} {w : World} (h : WRel ρ a w) {k l : K} (hk : ac k a.h ≠ .none) (hl : ac l a.h ≠ .none) (hr : (ac k a.h).isRo = false ∨ (ac l a.h).isRo = false) (e : ρ k = ρ l) : k = l := by
 rcases h.inj k l hk hl e with h | ⟨h1, h2⟩
 ·exact h
 ·rw [h1, h2] at hr; simp at hr
theorem GhAt.step {ρ ρ' : Env} {a a' : W} {w w' : World} {k : K} {kd : Nat} {g : GE} (h : GhAt ρ a w k kd g) (hk : ρ' k = ρ k) (hft : ρ'.ft k = ρ.ft k) (hs : w.heap.size ≤ w'.heap.size) (hfr : ∀ c, ρ.ft k c → w'.heap[c]? = w.heap[c]?)
  (hsep : ∀ l, ac l a'.h ≠ .none → l ≠ k → ∀ c, ρ' l = some c → ¬ ρ.ft k c) (hdis : ∀ l, ay (ac l a'.h) ≠ none → l ≠ k → ∀ c, ρ'.ft l c → ¬ ρ.ft k c) : GhAt ρ' a' w' k kd g := by
 refine ⟨?_, ?_, ?_, ?_, ?_⟩
 ·rw [hk, hft]; exact h.root
 ·rw [hk, hft]; exact fun c hc => aio hfr (h.rel c hc)
 ·rw [hft]; exact fun c hc => Nat.lt_of_lt_of_le (h.lt c hc) hs
 ·rw [hft]; exact hsep
 ·rw [hft]; exact hdis
omit [Gv] in
theorem be {o : AObj} (h : ay o ≠ none) : o ≠ .none := by rintro rfl; exact h rfl
omit [Gv] in
theorem n9 {o : AObj} {x : Nat × GE} (h : ay o = some x) : ay o ≠ none := by rw [h]; simp
def Own (ρ : Env) (a : W) (c : Nat) : Prop := ∃ k, ac k a.h ≠ .none ∧ (ac k a.h).isRo = false ∧ (ρ k = some c ∨ (ay (ac k a.h) ≠ none ∧ ρ.ft k c))
def Fresh (ρ : Env) (a a' : W) : Prop := ∀ k, a.nx.num ≤ k.num → k.num < a'.nx.num → ρ k = none
structure Adv (ρ : Env) (a : W) (w : World) (ρ' : Env) (a' : W) (w' : World) : Prop where
 rel : WRel ρ' a' w'
 le : ρ.le ρ'
 rng : ∀ k, ρ' k = ρ k ∨ (a.nx.num ≤ k.num ∧ k.num < a'.nx.num)
 nx : a.nx.num ≤ a'.nx.num
 size : w.heap.size ≤ w'.heap.size
 own : ∀ c, Own ρ' a' c → Own ρ a c ∨ w.heap.size ≤ c
 keep : ∀ k c, ac k a'.h ≠ .none → ρ' k = some c → (∃ l, ac l a.h ≠ .none ∧ ρ l = some c) ∨ w.heap.size ≤ c
 frame : ∀ c, c < w.heap.size → ¬ Own ρ a c → w'.heap[c]? = w.heap[c]?
 fts : ∀ k, k.num < a.nx.num → ay (ac k a.h) = none → ρ'.ft k = ρ.ft k ∧ ay (ac k a'.h) = none
 os : w'.os = w.os
 tape : w'.tape = w.tape
 output : w'.output = w.output
theorem Adv.refl {ρ : Env} {a : W} {w : World} (h : WRel ρ a w) : Adv ρ a w ρ a w :=
 ⟨h, Env.le_refl ρ, fun _ => .inl rfl, zY _, zY _, fun _ h => .inl h, fun k _ h e => .inl ⟨k, h, e⟩, fun _ _ _ => rfl, fun _ _ h => ⟨rfl, h⟩, rfl, rfl, rfl⟩
theorem Adv.trans {ρ ρ1 ρ2 : Env} {a a1 a2 : W} {w w1 w2 : World} (h : Adv ρ a w ρ1 a1 w1) (k : Adv ρ1 a1 w1 ρ2 a2 w2) : Adv ρ a w ρ2 a2 w2 where
 rel := k.rel
 le := Env.le_trans h.le k.le
 rng x := by
  have := h.nx; have := k.nx
  rcases k.rng x with e | e
  ·rcases h.rng x with e' | e'
   ·exact .inl (e.trans e')
   ·exact .inr (by omega)
  ·exact .inr (by omega)
 nx := Nat.le_trans h.nx k.nx
 size := Nat.le_trans h.size k.size
 own c hc := by
  have := h.size
  rcases k.own c hc with e | e
  ·rcases h.own c e with e' | e'
   ·exact .inl e'
   ·exact .inr e'
  ·exact .inr (by omega)
 keep x c hx hc := by
  have := h.size
  rcases k.keep x c hx hc with ⟨l, e1, e2⟩ | e
  ·exact h.keep l c e1 e2
  ·exact .inr (by omega)
 frame c hc hn := by
  have hs := h.size
  rw [k.frame c (by omega) (fun e => by rcases h.own c e with e' | e'; exact hn e'; omega)]
  exact h.frame c hc hn
 fts x hx hl := by
  have h1 := h.fts x hx hl
  have h2 := k.fts x (Nat.lt_of_lt_of_le hx h.nx) h1.2
  exact ⟨h2.1.trans h1.1, h2.2⟩
 os := k.os.trans h.os
 tape := k.tape.trans h.tape
 output := k.output.trans h.output
theorem Fresh.left {ρ : Env} {a a1 a2 : W} (h : Fresh ρ a a2) (h' : a1.nx.num ≤ a2.nx.num) : Fresh ρ a a1 := fun k h1 h2 => h k h1 (by omega)
theorem Fresh.right {ρ ρ1 : Env} {a a1 a2 : W} {w w1 : World} (h : Fresh ρ a a2) (k : Adv ρ a w ρ1 a1 w1) : Fresh ρ1 a1 a2 := by
 intro x h1 h2
 have := k.nx
 rcases k.rng x with e | e
 ·rw [e]; exact h x (by omega) h2
 ·omega
theorem Adv.drew {ρ ρ' : Env} {a a' : W} {w w' : World} (h : Adv ρ a w ρ' a' w') : Adv ρ a w ρ' a' w'.drew :=
 ⟨⟨h.rel.inj, h.rel.dom, h.rel.len, fun k kd g hk => let q := h.rel.gho k kd g hk; ⟨q.root, q.rel, q.lt, q.sep, q.dis⟩⟩, h.le, h.rng, h.nx, h.size, h.own, h.keep, h.frame, h.fts, h.os, h.tape, h.output⟩
def upd (ρ : Env) (k : K) (c n : Nat) : Env := { blk := fun l => if l = k then some c else ρ l, sz := fun l => if l = k then n else ρ.sz l, ft := ρ.ft }
theorem bp (ρ : Env) (k : K) (c n : Nat) : upd ρ k c n k = some c := by simp [upd]
theorem dx (ρ : Env) {k l : K} (h : l ≠ k) (c n : Nat) : upd ρ k c n l = ρ l := by simp [upd, h]
theorem ml (ρ : Env) (k : K) (c n : Nat) : (upd ρ k c n).sz k = n := by simp [upd]
theorem az0 (ρ : Env) {k l : K} (h : l ≠ k) (c n : Nat) : (upd ρ k c n).sz l = ρ.sz l := by simp [upd, h]
theorem ayh (ρ : Env) (k : K) (c n : Nat) (h : ρ k = none) : ρ.le (upd ρ k c n) := by
 intro l x e
 by_cases hk : l = k
 ·subst hk; rw [h] at e; cases e
 ·rw [dx ρ hk, az0 ρ hk]; exact ⟨e, rfl⟩
def Obj.cellCount : Obj → Nat
 | .cells arr _ _ => arr.size
 | _ => 0
theorem s5 {ρ : Env} {h : H4} {nx : K} {w : World} {o : AObj} {obj : Obj} (hw : WRel ρ (.mk h nx) w) (hf : ρ nx = none) (hm : nx.isMax = false)
  (ho : ORel ρ o (some obj)) (hlo : ay o = none := by rfl) : Adv ρ (.mk h nx) w (upd ρ nx w.heap.size (Obj.cellCount obj)) (.mk (bn nx o h) nx.succ) (w.alloc obj) := by
 have hle := ayh ρ nx w.heap.size (Obj.cellCount obj) hf
 have hn : ac nx h = .none := by
  by_cases e : ac nx h = .none
  ·exact e
  ·obtain ⟨c, hc, _⟩ := hw.dom nx e; rw [hf] at hc; cases hc
 have lt : ∀ k c, ac k h ≠ .none → ρ k = some c → c < w.heap.size := by
  intro k c hk hc
  obtain ⟨c', hc', ho'⟩ := hw.dom k hk
  rw [hc] at hc'; cases hc'
  obtain ⟨y, hy⟩ := ho'.some hk
  exact (zI.1 hy).1
 have old : ∀ k, k ≠ nx → ac k (bn nx o h) = ac k h := fun k hk => ak hk o h
 have get : ∀ c, c < w.heap.size → (w.alloc obj).heap[c]? = w.heap[c]? := fun c hc => RowKit.Below.heap_alloc w obj c hc
 have hnx : nx.succ.num = nx.num + 1 := K.succ_num hm
 refine ⟨⟨?_, ?_, ?_, ?_⟩, hle, ?_, ?_, ?_, ?_, ?_, ?_, ?_, rfl, rfl, rfl⟩
 ·intro k l hk hl e
  simp only [W.h_mk] at hk hl
  by_cases k1 : k = nx
  ·by_cases l1 : l = nx
   ·left; rw [k1, l1]
   ·exfalso
    rw [old l l1] at hl
    obtain ⟨c, hc, _⟩ := hw.dom l hl
    rw [k1, bp, dx ρ l1, hc] at e
    have := lt l c hl hc
    injection e with e; omega
  ·rw [old k k1] at hk
   by_cases l1 : l = nx
   ·exfalso
    obtain ⟨c, hc, _⟩ := hw.dom k hk
    rw [l1, bp, dx ρ k1, hc] at e
    have := lt k c hk hc
    injection e with e; omega
   ·rw [old l l1] at hl
    rw [dx ρ k1, dx ρ l1] at e
    have := hw.inj k l hk hl e
    simp only [W.h_mk] at this ⊢
    rw [old k k1, old l l1]; exact this
 ·intro k hk
  simp only [W.h_mk] at hk ⊢
  by_cases k1 : k = nx
  ·subst k1
   refine ⟨w.heap.size, bp ρ k _ _, ?_⟩
   rw [af]
   have : (w.alloc obj).heap[w.heap.size]? = some obj := by show (w.heap.push obj)[w.heap.size]? = _; simp
   rw [this]
   exact ho.mono hle
  ·rw [old k k1] at hk ⊢
   obtain ⟨c, hc, ho'⟩ := hw.dom k hk
   refine ⟨c, by rw [dx ρ k1]; exact hc, ?_⟩
   rw [get c (lt k c hk hc)]
   exact ho'.mono hle
 ·intro k c arr t fz hk hc hx
  simp only [W.h_mk] at hk
  by_cases k1 : k = nx
  ·subst k1
   rw [bp] at hc
   injection hc with hc
   subst hc
   have : (w.alloc obj).heap[w.heap.size]? = some obj := by show (w.heap.push obj)[w.heap.size]? = _; simp
   rw [this] at hx
   injection hx with hx
   rw [ml, hx]; rfl
  ·rw [old k k1] at hk
   rw [dx ρ k1] at hc
   rw [get c (lt k c hk hc)] at hx
   rw [az0 ρ k1]
   exact hw.len k c arr t fz hk hc hx
 ·intro k kd g hk
  simp only [W.h_mk] at hk
  have k1 : k ≠ nx := by rintro rfl; rw [af, hlo] at hk; cases hk
  rw [old k k1] at hk
  have q := hw.gho k kd g hk
  refine q.step (dx ρ k1 _ _) rfl (by rw [World.size_alloc]; omega) (fun c hc => get c (q.lt c hc)) ?_ ?_
  ·intro l hl hlk c hc
   simp only [W.h_mk] at hl
   by_cases l1 : l = nx
   ·subst l1; rw [bp] at hc; injection hc with hc; intro hf'; have := q.lt _ hf'; omega
   ·rw [old l l1] at hl; rw [dx ρ l1] at hc; exact q.sep l hl hlk c hc
  ·intro l hl hlk
   simp only [W.h_mk] at hl
   have l1 : l ≠ nx := by rintro rfl; rw [af, hlo] at hl; exact hl rfl
   rw [old l l1] at hl
   exact q.dis l hl hlk
 ·intro k
  by_cases k1 : k = nx
  ·subst k1; right; simp only [W.nx_mk]; omega
  ·left; exact dx ρ k1 _ _
 ·simp only [W.nx_mk]; omega
 ·rw [World.size_alloc]; omega
 ·rintro c ⟨k, hk, hr, hc⟩
  simp only [W.h_mk] at hk hr hc
  by_cases k1 : k = nx
  ·subst k1
   rcases hc with hc | ⟨hc, _⟩
   ·rw [bp] at hc; injection hc with hc; right; omega
   ·rw [af, hlo] at hc; exact absurd rfl hc
  ·rw [old k k1] at hk hr hc; rw [dx ρ k1] at hc
   exact .inl ⟨k, hk, hr, hc⟩
 ·intro k c hk hc
  simp only [W.h_mk] at hk
  by_cases k1 : k = nx
  ·subst k1; rw [bp] at hc; injection hc with hc; right; omega
  ·rw [old k k1] at hk; rw [dx ρ k1] at hc
   exact .inl ⟨k, hk, hc⟩
 ·intro c hc _; exact get c hc
 ·intro k hk hl
  have k1 : k ≠ nx := by rintro rfl; simp only [W.nx_mk] at hk; omega
  refine ⟨rfl, ?_⟩
  show ay (ac k (bn nx o h)) = none
  rw [old k k1]
  exact hl
theorem s6 {ρ : Env} {a : W} {w w' : World} {b : K} {c : Nat} {o : AObj} {obj : Obj} (hw : WRel ρ a w) (hb : ac b a.h ≠ .none) (hr : (ac b a.h).isRo = false)
  (hc : ρ b = some c) (ho : ORel ρ o (some obj)) (hn : o ≠ .none) (hcount : ∀ arr t fz, obj = .cells arr t fz → arr.size = ρ.sz b) (hx : w'.heap[c]? = some obj) (hs : w'.heap.size = w.heap.size) (hother : ∀ d, d ≠ c → w'.heap[d]? = w.heap[d]?)
  (h1 : w'.os = w.os) (h2 : w'.tape = w.tape) (h3 : w'.output = w.output) (hlb : ay (ac b a.h) = none) (hlo : ay o = none := by rfl) : Adv ρ a w ρ (wset b o a) w' := by
 rw [c8]
 have old : ∀ k, k ≠ b → ac k (bn b o a.h) = ac k a.h := fun k hk => ak hk o a.h
 have liv : ∀ k, ac k (bn b o a.h) ≠ .none → ac k a.h ≠ .none := by
  intro k hk
  by_cases e : k = b
  ·subst e; exact hb
  ·rw [old k e] at hk; exact hk
 have lhs : ∀ k, ay (ac k (bn b o a.h)) = ay (ac k a.h) := by
  intro k
  by_cases e : k = b
  ·subst e; rw [af, hlo, hlb]
  ·rw [old k e]
 refine ⟨⟨?_, ?_, ?_, ?_⟩, Env.le_refl ρ, fun _ => .inl rfl, zY _, by omega, ?_, fun k c hk hc => .inl ⟨k, liv k hk, hc⟩, ?_, ?_, h1, h2, h3⟩
 ·intro k l hk hl e
  by_cases k1 : k = b
  ·by_cases l1 : l = b
   ·left; rw [k1, l1]
   ·subst k1; exact absurd (hw.inj1 hb (liv l hl) (.inl hr) e).symm l1
  ·by_cases l1 : l = b
   ·subst l1; exact absurd (hw.inj1 (liv k hk) hb (.inr hr) e) k1
   ·have := hw.inj k l (liv k hk) (liv l hl) e
    simp only [W.h_mk]
    rw [old k k1, old l l1]; exact this
 ·intro k hk
  simp only [W.h_mk] at hk ⊢
  by_cases e : k = b
  ·subst e; exact ⟨c, hc, by rw [af, hx]; exact ho⟩
  ·have hk' := liv k hk
   obtain ⟨d, hd, ho'⟩ := hw.dom k hk'
   refine ⟨d, hd, ?_⟩
   rw [old k e, hother d]
   ·exact ho'
   ·intro e'; subst e'; exact e (hw.inj1 hk' hb (.inr hr) (by rw [hd, hc]))
 ·intro k d arr t fz hk hd hxx
  simp only [W.h_mk] at hk
  by_cases e : k = b
  ·subst e
   rw [hc] at hd; injection hd with hd; subst hd
   rw [hx] at hxx; injection hxx with hxx
   exact hcount arr t fz hxx
  ·have hk' := liv k hk
   rw [hother d] at hxx
   ·exact hw.len k d arr t fz hk' hd hxx
   ·intro e'; subst e'; exact e (hw.inj1 hk' hb (.inr hr) (by rw [hd, hc]))
 ·intro k kd g hk
  simp only [W.h_mk] at hk
  rw [lhs k] at hk
  have q := hw.gho k kd g hk
  have hbk : b ≠ k := by rintro rfl; rw [hlb] at hk; cases hk
  refine q.step rfl rfl (by omega) (fun d hd => hother d ?_) (fun l hl hlk => q.sep l (liv l hl) hlk) (fun l hl hlk => q.dis l (by rw [← lhs l]; exact hl) hlk)
  rintro rfl
  exact q.sep b hb hbk d hc hd
 ·rintro d ⟨k, hk, hr', hd⟩
  simp only [W.h_mk] at hk hr' hd
  rw [lhs k] at hd
  by_cases e : k = b
  ·subst e; exact .inl ⟨k, hb, hr, hd⟩
  ·rw [old k e] at hk hr'; exact .inl ⟨k, hk, hr', hd⟩
 ·intro d _ hd
  exact hother d fun e => hd ⟨b, hb, hr, .inl (by rw [e]; exact hc)⟩
 ·intro k _ hk
  refine ⟨rfl, ?_⟩
  show ay (ac k (bn b o a.h)) = none
  rw [lhs k]
  exact hk
end Go.Ev
set_option linter.all false
namespace Go.Ev
variable [Gv]
section tables
variable {α : Type}
theorem oh (l : List α) : ∀ i, nth l i = l[i]? := by
 induction l with
 | nil => intro i; rfl
 | cons x l ih =>
   intro i
   cases i with
   | zero => rfl
   | succ i => show nth l i = _; rw [ih]; simp
theorem al1 (l : List α) (k : Nat) (h : k < 16) : N.get (I.of k) (ayi l) = l[k]? := by
 match k, h with
 | 0, _ | 1, _ | 2, _ | 3, _ | 4, _ | 5, _ | 6, _ | 7, _ | 8, _ | 9, _ | 10, _ | 11, _ | 12, _ | 13, _ | 14, _ | 15, _ => exact oh l _
 | n + 16, h => omega
theorem ahy {β : Type} (f : List α → β) (s : Nat) (l : List α) (k : Nat) (h : k < 16) : N.get (I.of k) (a4m f s l) = f (l.drop (k * s)) := by
 match k, h with
 | 0, _ => simp only [Nat.zero_mul, List.drop_zero]; rfl
 | 1, _ => simp only [Nat.one_mul]; rfl
 | 2, _ | 3, _ | 4, _ | 5, _ | 6, _ | 7, _ | 8, _ | 9, _ | 10, _ | 11, _ | 12, _ | 13, _ | 14, _ | 15, _ => rfl
 | n + 16, h => omega
theorem aoj (l : List α) (i : Nat) (h : i < 4096) : a3o (aon l) i = l[i]? := by
 unfold a3o aon
 rw [ahy _ _ _ _ (by omega), ahy _ _ _ _ (by omega), al1 _ _ (by omega)]
 simp only [List.getElem?_drop, List.drop_drop]
 congr 1
 omega
end tables
theorem aah {f : FuncId} {fn : Func} (h : ad4 f = some fn) : PP.funcs[f]? = some fn := by
 unfold ad4 at h
 rw [aa] at h
 split at h
 ·rename_i hb
  have := zE hb
  unfold FT at h
  rw [aoj _ _ (by omega)] at h
  simpa using h
 ·cases h
theorem dg {t : TypeId} {i : TypeInfo} (h : d7 t = some i) : PP.info? t = some i := by
 unfold d7 at h
 rw [aa] at h
 split at h
 ·rename_i hb
  have := zE hb
  unfold TT at h
  rw [aoj _ _ (by omega)] at h
  have h' : PP.types[t]? = some i := by simpa using h
  have hlt := (zI.1 h').1
  unfold Tables.info?
  rw [if_pos hlt]
  exact h'
 ·cases h
theorem bi {t : TypeId} {d : TypeDesc} (h : al t = some d) : PP.underlying t = some d := by
 unfold al at h
 cases hi : d7 t with
 | none => rw [hi] at h; cases h
 | some i =>
   rw [hi] at h
   unfold Program.underlying
   rw [dg hi]
   obtain ⟨desc, a1, a2, a3, a4, a5, a6, a7, a8, a9⟩ := i
   cases desc <;> first
    | exact h
    | (simp only [aoo] at h
       rename_i nm u
       cases hu : d7 u with
       | none => rw [hu] at h; cases h
       | some j => rw [hu] at h; simp only [dg hu]; exact h)
theorem j8 {t : TypeId} {n : Nat} (h : sizeOf t = some n) : ∃ i, PP.info? t = some i ∧ i.size = n := by
 unfold sizeOf at h
 cases hi : d7 t with
 | none => rw [hi] at h; cases h
 | some i => rw [hi] at h; exact ⟨i, dg hi, by simpa using h⟩
theorem b9 {t : TypeId} {v : AV} (h : fy t = some v) : ∃ i z, PP.info? t = some i ∧ i.zero = some z ∧ v = ofV z := by
 unfold fy at h
 cases hi : d7 t with
 | none => rw [hi] at h; cases h
 | some i =>
   rw [hi] at h
   simp only [Option.bind_some] at h
   cases hz : i.zero with
   | none => rw [hz] at h; cases h
   | some z => rw [hz] at h; exact ⟨i, z, dg hi, hz, by simpa using h.symm⟩
section runs
variable {w : World}
theorem ab {t : TypeId} {d : TypeDesc} (h : al t = some d) : (underlying t).run PP w = .ok d w := run_underlying (bi h) w
theorem fu {t : TypeId} {i : TypeInfo} (h : PP.info? t = some i) : (typeInfo t).run PP w = .ok i w := by simp [typeInfo, h]
theorem ax {t : TypeId} {n : Nat} (h : sizeOf t = some n) : (Go.sizeOf t).run PP w = .ok n w := by
 obtain ⟨i, hi, rfl⟩ := j8 h
 simp [Go.sizeOf, fu hi]
theorem de {t : TypeId} {i : TypeInfo} {z : Value} (h : PP.info? t = some i) (hz : i.zero = some z) : (zeroValue t).run PP w = .ok z w := by
 simp [zeroValue, fu h, hz]
theorem iy {t : TypeId} {d : TypeDesc} (h : al t = some d) : (isAgg t).run PP w = .ok (ei d) w := by
 simp only [isAgg, zR, ab h, zQ]
 cases d <;> rfl
theorem ic {t : TypeId} {r : Option Nat} (h : mt t = some r) : ∃ d n, al t = some d ∧ sizeOf t = some n ∧ some r = (if ei d then some (some n) else if n = 1 then some none else none) := by
 unfold mt at h
 cases hu : al t with
 | none => rw [hu] at h; cases h
 | some d =>
   cases hs : sizeOf t with
   | none => rw [hu, hs] at h; cases h
   | some n => rw [hu, hs] at h; exact ⟨d, n, rfl, rfl, h.symm⟩
end runs
theorem ap6 (ρ : Env) (p : Option Addr) : VRel ρ (ay6 p) (.pointer p) := by cases p <;> simp only [ay6, VRel]
theorem ay7 (ρ : Env) (p : Option Addr) (l c : Nat) : VRel ρ (a5l p l c) (.slice p l c) := by
 unfold a5l; split <;> simp only [VRel]
theorem ap5 (ρ : Env) (p : Option Nat) : VRel ρ (ay5 p) (.map p) := by cases p <;> simp only [ay5, VRel]
theorem aoa (ρ : Env) (v : Value) : VRel ρ (ofS v) v := by
 cases v <;> simp only [ofS] <;> first
  | exact ap6 ρ _
  | exact ay7 ρ _ _ _
  | exact ap5 ρ _
  | (simp only [VRel]; done)
  | (simp only [VRel]; exact ⟨ag5 _, by rw [sv]⟩)
theorem ajo (ρ : Env) : ∀ (l : List Value), VRels ρ (l.map ofS) l
 | [] => by simp [VRels]
 | v :: l => by simp only [List.map_cons, VRels]; exact ⟨v, l, rfl, aoa ρ v, ajo ρ l⟩
theorem ap7 (ρ : Env) (l : Array Value) : VRel ρ (aob l.toList) (.tuple l) := by
 cases h : l.toList with
 | nil => simp only [aob, VRel]; exact ⟨l, rfl, by simp [h, VRels]⟩
 | cons x r => simp only [aob, VRel]
theorem di (ρ : Env) (v : Value) : VRel ρ (ofV v) v := by
 cases v <;> simp only [ofV] <;> first
  | exact aoa ρ _
  | exact ap7 ρ _
  | (simp only [VRel]; exact ⟨_, rfl, ajo ρ _⟩)
def VOK (ρ : Env) (a : W) (w : World) (s : Sem Value) (r : OR) : Prop :=
 match r with
 | .val v a' => Fresh ρ a a' → ∃ ρ' w' v', s.run PP w = .ok v' w' ∧ VRel ρ' v v' ∧ Adv ρ a w ρ' a' w'
 | .no _ => True
 | _ => False
def UOK (ρ : Env) (a : W) (w : World) (s : Sem Unit) (r : OR) : Prop :=
 match r with
 | .val v a' => Fresh ρ a a' → v = ff ∧ ∃ ρ' w', s.run PP w = .ok () w' ∧ Adv ρ a w ρ' a' w'
 | .no _ => True
 | _ => False
section
variable {ρ : Env} {a : W} {w : World}
theorem VOK.of_run {s s' : Sem Value} {r : OR} (h : VOK ρ a w s r) (e : s.run PP w = s'.run PP w) : VOK ρ a w s' r := by
 cases r with
 | val v a' => intro hf; obtain ⟨ρ', w', v', h1, h2, h3⟩ := h hf; exact ⟨ρ', w', v', by rw [← e]; exact h1, h2, h3⟩
 | no => trivial
 | _ => exact h
theorem VOK.here {s : Sem Value} {v : AV} {v' : Value} (hw : WRel ρ a w) (h : s.run PP w = .ok v' w) (hv : VRel ρ v v') : VOK ρ a w s (.val v a) :=
 fun _ => ⟨ρ, w, v', h, hv, Adv.refl hw⟩
theorem WRel.block (hw : WRel ρ a w) {b : K} {o : AObj} (h : bz b a = o) (hn : o ≠ .none) {c : Nat} (hc : ρ b = some c) : ORel ρ o (w.heap[c]?) := by
 rw [ar] at h
 obtain ⟨c', hc', ho⟩ := hw.dom b (by rw [h]; exact hn)
 rw [hc] at hc'; cases hc'
 rw [h] at ho; exact ho
theorem df {b off : Nat} {arr : Array Value} {t : TypeId} {fz : Nat × Nat} (h : w.heap[b]? = some (.cells arr t fz)) : w.cell? ⟨b, off, none⟩ = arr[off]? := by
 simp [World.cell?, h]
theorem aco {o : AObj} {i : Nat} {v : AV} {c : Nat} (h : ag3 o i = some v) (ho : ORel ρ o (w.heap[c]?)) : ∃ v', w.cell? ⟨c, i, none⟩ = some v' ∧ VRel ρ v v' := by
 cases o <;> simp only [ag3] at h <;> try (cases h; done)
 ·rw [aa] at h
  split at h
  ·rename_i hb
   obtain ⟨arr, fz, h1, h2, h3, h4, h5, h6⟩ := ho
   obtain ⟨v', h7, h8⟩ := h6 i (by simpa using hb)
   cases h
   exact ⟨v', by rw [df h1]; exact h7, h8⟩
  ·cases h
 ·rw [aa] at h
  split at h
  ·rename_i hb
   obtain ⟨arr, t', fz, h1, h2, h3, h6, _⟩ := ho
   obtain ⟨v', h7, h8⟩ := h6 i (by simpa using hb)
   cases h
   exact ⟨v', by rw [df h1]; exact h7, h8⟩
  ·cases h
theorem ae6 {o : AObj} {i : Nat} {v : AV} (h : ag3 o i = some v) : o ≠ .none := by rintro rfl; cases h
theorem ayf (hw : WRel ρ a w) {p : AV} {p' : Value} (hp : VRel ρ p p') : VOK ρ a w (do load (← Instr.sureAddr p')) (ai5 p a) := by
 unfold ai5
 split
 ·rename_i b kb i
  simp only [VRel] at hp
  obtain ⟨c, c', hc, hk, rfl⟩ := hp
  unfold ayg
  split <;> try trivial
  rename_i kb' l hg
  rw [aa]
  split <;> try trivial
  rename_i hkb
  obtain rfl := (K.beq_iff _ _).1 hkb
  split <;> try trivial
  rename_i v hv
  rw [oh] at hv
  obtain ⟨hlt, hv⟩ := List.getElem?_eq_some_iff.1 hv
  obtain ⟨arr, t, fz, c'', e1, e2, e3, e4⟩ := hw.block hg (by simp) hc
  obtain ⟨v', q1, q2⟩ := e4 i hlt
  rw [hv] at q2
  refine VOK.here hw (v' := v') ?_ q2
  have h1 : w.cell? ⟨c, ρ.sz kb + i, none⟩ = some v' := by rw [df e1]; exact q1
  simp [Instr.sureAddr, h1]
 ·rename_i b off
  simp only [VRel] at hp
  obtain ⟨c, hc, rfl⟩ := hp
  split
  ·rename_i v hv
   obtain ⟨v', h1, h2⟩ := aco hv (hw.block rfl (ae6 hv) hc)
   refine VOK.here hw (v' := v') ?_ h2
   simp [Instr.sureAddr, h1]
  ·trivial
 ·trivial
theorem nf {arr : Array Value} {c : Cells} {size i n : Nat} (hc : aq3 ρ size c arr) (h : i + n ≤ size) :
  ∃ l : List Value, l.length = n ∧ VRels ρ (ki c n i) l ∧ ∀ j v, l[j]? = some v → arr[i + j]? = some v := by
 refine ⟨(List.range n).map fun j => arr.getD (i + j) undef, by simp, ?_, ?_⟩
 ·apply VRels.of_get
  ·rw [rn]; simp
  ·intro j hj
   rw [rn] at hj
   simp at hj
   obtain ⟨v, h1, h2⟩ := hc (i + j) (by omega)
   refine ⟨v, ?_, ?_⟩
   ·simp [hj, Array.getD_eq_getD_getElem?, h1]
   ·simp only [rn, List.getElem_map, List.getElem_range]; exact h2
 ·intro j v hj
  have hlt : j < n := by have := (List.getElem?_eq_some_iff.1 hj).1; simpa using this
  obtain ⟨v', h1, _⟩ := hc (i + j) (by omega)
  simp [hlt, Array.getD_eq_getD_getElem?, h1] at hj
  rw [h1, hj]
theorem j7 {o : AObj} {i n : Nat} {l : List AV} {c : Nat} (h : ub o i n = some l) (ho : ORel ρ o (w.heap[c]?)) :
  ∃ l' : List Value, l'.length = n ∧ VRels ρ l l' ∧ ∀ j v, l'[j]? = some v → w.cell? ⟨c, i + j, none⟩ = some v := by
 cases o <;> simp only [ub] at h <;> try (cases h; done)
 ·rw [aa] at h
  split at h
  ·rename_i hb
   obtain ⟨arr, fz, h1, h2, h3, h4, h5, h6⟩ := ho
   obtain ⟨l', h7, h8, h9⟩ := nf h6 (zE hb)
   cases h
   exact ⟨l', h7, h8, fun j v hj => by rw [df h1]; exact h9 j v hj⟩
  ·cases h
 ·rw [aa] at h
  split at h
  ·rename_i hb
   obtain ⟨arr, t', fz, h1, h2, h3, h6, _⟩ := ho
   obtain ⟨l', h7, h8, h9⟩ := nf h6 (zE hb)
   cases h
   exact ⟨l', h7, h8, fun j v hj => by rw [df h1]; exact h9 j v hj⟩
  ·cases h
theorem lc {o : AObj} {i n : Nat} {l : List AV} (h : ub o i n = some l) : o ≠ .none := by rintro rfl; cases h
theorem ba (c o j : Nat) : (⟨c, o, none⟩ : Addr).add j = ⟨c, o + j, none⟩ := by
 unfold Addr.add; split
 ·rename_i h; subst h; rfl
 ·rfl
theorem fq {c o : Nat} {l : List Value} {n : Nat} (hn : l.length = n) (h : ∀ j v, l[j]? = some v → w.cell? ⟨c, o + j, none⟩ = some v) :
  (loadCells ⟨c, o, none⟩ n).run PP w = .ok l.toArray w := by
 subst hn
 exact run_loadCells_list w ⟨c, o, none⟩ l fun j v hj => by rw [ba]; exact h j v hj
theorem apy (hw : WRel ρ a w) {p : AV} {p' : Value} (hp : VRel ρ p p') (n : Nat) : VOK ρ a w (do pure (.agg (← loadCells (← Instr.sureAddr p') n))) (acf n p a) := by
 unfold acf
 split
 ·rename_i b off
  simp only [VRel] at hp
  obtain ⟨c, hc, rfl⟩ := hp
  split
  ·rename_i l hl
   obtain ⟨l', h1, h2, h3⟩ := j7 hl (hw.block rfl (lc hl) hc)
   refine VOK.here hw (v' := .agg l'.toArray) ?_ (by simp only [VRel]; exact ⟨_, rfl, by simpa using h2⟩)
   simp [Instr.sureAddr, fq h1 h3]
  ·trivial
 ·trivial
theorem a3a (hw : WRel ρ a w) {p : AV} {p' : Value} (hp : VRel ρ p p') (t : TypeId) : VOK ρ a w (Instr.loadAt t p') (qh t p a) := by
 unfold qh
 split
 ·rename_i h
  obtain ⟨d, n, hd, hs, hr⟩ := ic h
  have hagg : ei d = false := by cases e : ei d with | false => rfl | true => rw [e] at hr; simp at hr
  refine (ayf hw hp).of_run ?_
  simp only [Instr.loadAt, loadVar, zR]
  cases hsr : (Instr.sureAddr p').run PP w with
  | halt h w' => rfl
  | ok ad w' => simp only [zQ, zR, iy hd, hagg, zF, if_false]
 ·rename_i n h
  obtain ⟨d, m, hd, hs, hr⟩ := ic h
  by_cases hagg : ei d = true
  ·rw [if_pos hagg] at hr
   injection hr with hr
   injection hr with hr
   subst hr
   refine (apy hw hp n).of_run ?_
   simp only [Instr.loadAt, loadVar, zR]
   cases hsr : (Instr.sureAddr p').run PP w with
   | halt h w' => rfl
   | ok ad w' => simp only [zQ, zR, iy hd, hagg, if_true, ax hs]
  ·rw [if_neg hagg] at hr
   split at hr <;> cases hr
 ·trivial
theorem zt {v : AV} {v' : Value} (h : xh v = true) (hv : VRel ρ v v') : v'.oneCell' = true := by
 cases v <;> simp only [VRel] at hv <;> first
  | (subst hv; rfl)
  | (cases h; done)
  | (obtain ⟨_, rfl⟩ := hv; rfl)
  | (obtain ⟨_, _, rfl⟩ := hv; rfl)
  | (obtain ⟨_, _, _, _, _, rfl⟩ := hv; rfl)
  | (obtain ⟨_, _, _, _, _, _, rfl⟩ := hv; rfl)
  | (obtain ⟨_, _, _, _, rfl⟩ := hv; rfl)
  | (obtain ⟨_, _, rfl, _⟩ := hv; rfl)
  | (obtain ⟨_, _, _, rfl, _⟩ := hv; rfl)
  | (obtain ⟨_, rfl, _⟩ := hv; rfl)
  | (rcases SxRel.shape hv with ⟨_, rfl⟩ | ⟨_, rfl⟩ <;> rfl)
  | (rcases GVRel.shape hv with ⟨_, rfl⟩ | ⟨_, _, _, rfl⟩ | ⟨_, rfl⟩ <;> rfl)
theorem pw : ∀ (l : List AV) (l' : List Value), aaz l = true → VRels ρ l l' → ∀ v ∈ l', v.oneCell' = true
 | [], _, _, h, v, hv => by simp only [VRels] at h; subst h; cases hv
 | x :: l, _, h, hl, v, hv => by
   simp only [VRels] at hl; obtain ⟨y, ys, rfl, h2, h3⟩ := hl
   have h' : bc (xh x) (aaz l) false = true := h
   rw [aa] at h'
   split at h'
   ·rename_i hx
    rcases List.mem_cons.1 hv with rfl | hm
    ·exact zt hx h2
    ·exact pw l ys h' h3 v hm
   ·cases h'
theorem lf (c o : Nat) (t : TypeId) (fz : Nat × Nat) : ∀ (vs : List Value) (i : Nat) (w : World) (arr : Array Value), w.heap[c]? = some (.cells arr t fz) → o + i + vs.length ≤ arr.size →
  (∀ j, o + i ≤ j → j < o + i + vs.length → fz.1 ≤ j → j < fz.2 → False) → (∀ v ∈ vs, v.oneCell' = true) →
  ∃ (w' : World) (arr' : Array Value), (storeCells ⟨c, o, none⟩ vs i).run PP w = .ok () w' ∧ w'.heap[c]? = some (.cells arr' t fz) ∧ arr'.size = arr.size ∧
   (∀ j, arr'[j]? = if o + i ≤ j ∧ j < o + i + vs.length then vs[j - (o + i)]? else arr[j]?) ∧ w'.heap.size = w.heap.size ∧ (∀ d, d ≠ c → w'.heap[d]? = w.heap[d]?) ∧
   w'.os = w.os ∧ w'.tape = w.tape ∧ w'.output = w.output := by
 intro vs
 induction vs with
 | nil =>
   intro i w arr h _ _ _
   exact ⟨w, arr, rfl, h, rfl, fun j => by rw [if_neg (by simp only [zS]; omega)], rfl, fun _ _ => rfl, rfl, rfl, rfl⟩
 | cons v vs ih =>
   intro i w arr h h1 h2 h3
   simp only [zO] at h1 h2
   have hcell : w.cell? ⟨c, o + i, none⟩ = some arr[o + i] := by rw [df h]; exact Array.getElem?_eq_getElem (by omega)
   have hfz : w.frozen? ⟨c, o + i, none⟩ = false := by
    simp only [World.frozen?, h]
    by_cases e : fz.1 ≤ o + i ∧ o + i < fz.2
    ·exact (h2 (o + i) (zY _) (by omega) e.1 e.2).elim
    ·obtain ⟨f1, f2⟩ := fz
     simp only [Bool.and_eq_false_iff, decide_eq_false_iff_not]
     simp only at e
     omega
   have bn : (w.setCell ⟨c, o + i, none⟩ v).heap[c]? = some (.cells (arr.setIfInBounds (o + i) v) t fz) := by
    simp [World.setCell, Array.getElem?_modify, h]
   obtain ⟨w', arr', r1, r2, r3, r4, r5, r6, r7, r8, r9⟩ := ih (i + 1) (w.setCell ⟨c, o + i, none⟩ v) (arr.setIfInBounds (o + i) v) bn (by simp; omega)
    (fun j a b => h2 j (by omega) (by omega)) (fun x hx => h3 x (zA _ hx))
   refine ⟨w', arr', ?_, r2, by simpa using r3, ?_, by rw [r5, World.size_setCell], ?_, r7, r8, r9⟩
   ·simp only [storeCells, zR, ba, run_store PP w _ v _ (h3 v (by simp)), hcell, hfz, zF, if_false, zQ]
    exact r1
   ·intro j
    rw [r4 j]
    by_cases a : o + (i + 1) ≤ j ∧ j < o + (i + 1) + vs.length
    ·rw [if_pos a, if_pos ⟨by omega, by simp only [zO]; omega⟩]
     have e : j - (o + i) = (j - (o + (i + 1))) + 1 := by omega
     rw [e, List.getElem?_cons_succ]
    ·rw [if_neg a]
     by_cases b : j = o + i
     ·subst b
      rw [if_pos ⟨zY _, by simp only [zO]; omega⟩]
      simp only [Nat.sub_self, List.getElem?_cons_zero]
      rw [Array.getElem?_setIfInBounds_self_of_lt (by omega)]
     ·rw [if_neg (by simp only [zO]; omega)]
      rw [Array.getElem?_setIfInBounds_ne (by omega)]
   ·intro d hd
    rw [r6 d hd]
    exact RowKit.Below.heap_setCell w ⟨c, o + i, none⟩ v d hd
theorem qt {fl fh i n : Nat} {fz : Nat × Nat} (h : ss fl fh i n = true) (hf : fz.1 ≤ fz.2 ∧ ∀ i, fz.1 ≤ i → i < fz.2 → fl ≤ i ∧ i < fh) :
  ∀ j, i ≤ j → j < i + n → fz.1 ≤ j → j < fz.2 → False := by
 intro j h1 h2 h3 h4
 have ⟨a, b⟩ := hf.2 j h3 h4
 unfold ss at h
 simp only [aa] at h
 split at h
 ·rename_i e; have := zE e; omega
 ·split at h
  ·rename_i e; have := zE e; omega
  ·have := zE h; omega
theorem vd (hw : WRel ρ a w) {b : K} {c off : Nat} {l : List AV} {l' : List Value} {o : AObj} (hb : ρ b = some c) (h : acq (bz b a) off l = some o) (hl : VRels ρ l l') :
  ∃ w', (storeCells ⟨c, off, none⟩ l').run PP w = .ok () w' ∧ Adv ρ a w ρ (wset b o a) w' := by
 cases hg : bz b a <;> rw [hg] at h <;> simp only [acq] at h <;> try (cases h; done)
 rename_i t size ext fl fh cs
 simp only [aa] at h
 split at h <;> try (cases h; done)
 rename_i h1
 split at h <;> try (cases h; done)
 rename_i h2
 split at h <;> try (cases h; done)
 rename_i h3
 cases h
 rw [ao] at h2 h3
 have h2 := zE h2
 obtain ⟨arr, fz, e1, e2, e3, e4, e5, e6⟩ := hw.block hg (by simp) hb
 have hlen := VRels.length l l' hl
 obtain ⟨w', arr', r1, r2, r3, r4, r5, r6, r7, r8, r9⟩ := lf c off t fz l' 0 w arr e1 (by omega)
  (fun j x y => qt h3 e5 j (by omega) (by omega)) (pw l l' h1 hl)
 refine ⟨w', r1, s6 (c := c) hw (by rw [← ar, hg]; simp) (by rw [← ar, hg]; rfl) hb (obj := .cells arr' t fz) ?_ (by simp) (by intro x y z e; cases e; rw [r3]; exact hw.len b c arr t fz (by rw [← ar, hg]; simp) hb e1) r2 r5 r6 r7 r8 r9 (by rw [← ar, hg]; rfl)⟩
 refine ⟨arr', fz, rfl, by omega, fun e => by rw [r3]; exact e3 e, by rw [cx]; exact e4, e5, ?_⟩
 intro i hi
 rw [gc l off cs i (by omega) (by omega), r4 i]
 by_cases x : off ≤ i ∧ i - off < l.length
 ·rw [dif_pos x, if_pos ⟨by omega, by omega⟩]
  obtain ⟨v, q1, q2⟩ := VRels.get l l' hl (i - off) x.2
  exact ⟨v, by rw [← q1]; rfl, q2⟩
 ·rw [dif_neg x, if_neg (by omega)]
  exact e6 i hi
theorem afk (hw : WRel ρ a w) {p : AV} {p' : Value} (hp : VRel ρ p p') {l : List AV} {l' : List Value} (hl : VRels ρ l l') :
  UOK ρ a w (do storeCells (← Instr.sureAddr p') l') (ahc l p a) := by
 unfold ahc
 split
 ·rename_i b off
  simp only [VRel] at hp
  obtain ⟨c, hc, rfl⟩ := hp
  split
  ·rename_i o ho
   obtain ⟨w', h1, h2⟩ := vd hw hc ho hl
   intro _
   refine ⟨rfl, ρ, w', ?_, h2⟩
   simp [Instr.sureAddr, h1]
  ·trivial
 ·trivial
theorem ao3 {v : AV} {v' : Value} (h : xh v = true) (hv : VRel ρ v v') : v'.cells = #[v'] := by
 have := zt h hv
 cases v' <;> first | rfl | cases this
theorem UOK.of_run {s s' : Sem Unit} {r : OR} (h : UOK ρ a w s r) (e : s.run PP w = s'.run PP w) : UOK ρ a w s' r := by
 cases r with
 | val v a' => intro hf; obtain ⟨h0, ρ', w', h1, h3⟩ := h hf; exact ⟨h0, ρ', w', by rw [← e]; exact h1, h3⟩
 | no => trivial
 | _ => exact h
theorem azy (hw : WRel ρ a w) {p v : AV} {p' v' : Value} (hp : VRel ρ p p') (hv : VRel ρ v v') (t : TypeId) : UOK ρ a w (Instr.storeAt t p' v') (aga t p v a) := by
 unfold aga
 split
 ·rename_i h
  obtain ⟨d, n, hd, hs, hr⟩ := ic h
  rw [aa]
  split
  ·rename_i h1
   have hn : n = 1 := by
    split at hr
    ·cases hr
    ·split at hr
     ·assumption
     ·cases hr
   subst hn
   refine (afk hw hp (l' := [v']) (by simp only [VRels]; exact ⟨v', [], rfl, hv, rfl⟩)).of_run ?_
   simp only [Instr.storeAt, storeVar, zR]
   cases hsr : (Instr.sureAddr p').run PP w with
   | halt h w' => rfl
   | ok ad w' => simp [ax hs, ao3 h1 hv]
  ·trivial
 ·rename_i n h
  obtain ⟨d, m, hd, hs, hr⟩ := ic h
  have hn : n = m := by
   split at hr
   ·injection hr with hr; injection hr
   ·split at hr <;> cases hr
  subst hn
  split
  ·rename_i l
   rw [aa]
   split
   ·rename_i h1
    rw [ao] at h1
    simp only [VRel] at hv
    obtain ⟨ys, rfl, hl⟩ := hv
    refine (afk hw hp hl).of_run ?_
    simp only [Instr.storeAt, storeVar, zR]
    cases hsr : (Instr.sureAddr p').run PP w with
    | halt h w' => rfl
    | ok ad w' =>
      have hlen := VRels.length _ _ hl
      have h2 := zW h1
      have : ys.size = n := by rw [← h2, ← hlen]; simp
      simp [ax hs, Value.cells, this]
   ·trivial
  ·trivial
 ·trivial
end
end Go.Ev
