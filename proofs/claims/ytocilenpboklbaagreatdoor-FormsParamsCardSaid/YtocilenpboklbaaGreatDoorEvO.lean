import Derived.Test.YtocilenpboklbaaGreatDoorEvC
import Derived.Lib.ValidU
import Derived.Below
import Derived.Laws.Entries
import Derived.Laws.Cells
set_option linter.all false
namespace Go.Ev
theorem zQ : type_of% @Result.andThen_ok := @Result.andThen_ok
theorem zW : type_of% @Nat.eq_of_beq_eq_true := @Nat.eq_of_beq_eq_true
theorem zE : type_of% @Nat.le_of_ble_eq_true := @Nat.le_of_ble_eq_true
theorem zR : type_of% @Sem.run_bind := @Sem.run_bind
theorem zT : type_of% @Sem.run_pure := @Sem.run_pure
theorem zY : type_of% @Nat.le_refl := @Nat.le_refl
theorem zU : type_of% @Bool.and_eq_true := @Bool.and_eq_true
theorem zI : type_of% @Array.getElem?_eq_some_iff := @Array.getElem?_eq_some_iff
theorem zO : type_of% @List.length_cons := @List.length_cons
theorem zP : type_of% @List.length_append := @List.length_append
theorem zS : type_of% @List.mem_cons_of_mem := @List.mem_cons_of_mem
theorem zD : type_of% @List.length_nil := @List.length_nil
theorem zF : type_of% @List.nil_append := @List.nil_append
theorem zG : type_of% @Bool.false_eq_true := @Bool.false_eq_true
theorem zH : type_of% @Option.map_eq_some_iff := @Option.map_eq_some_iff
theorem zJ : type_of% @List.not_mem_nil := @List.not_mem_nil
theorem zK : type_of% @List.cons_append := @List.cons_append
theorem zL : type_of% @List.getElem?_eq_getElem := @List.getElem?_eq_getElem
theorem zZ : type_of% @List.getElem?_toArray := @List.getElem?_toArray
@[simp] theorem ab7 {α : Type} (t e : α) : bc true t e = t := rfl
@[simp] theorem ab6 {α : Type} (t e : α) : bc false t e = e := rfl
theorem ac {α : Type} (c : Bool) (t e : α) : bc c t e = if c then t else e := by cases c <;> rfl
theorem N.get_set_same {α : Type} (i : I) (x : α) (t : N α) : N.get i (N.set i x t) = x := by cases i <;> rfl
theorem N.get_set_ne {α : Type} {i j : I} (h : i ≠ j) (x : α) (t : N α) : N.get i (N.set j x t) = N.get i t := by
 cases i <;> cases j <;> first | rfl | exact absurd rfl h
theorem N.get_all {α : Type} (i : I) (x : α) : N.get i (N.all x) = x := by cases i <;> rfl
theorem I.num_lt (i : I) : i.num < 16 := by cases i <;> decide
theorem I.num_inj {i j : I} (h : i.num = j.num) : i = j := by cases i <;> cases j <;> first | rfl | cases h
theorem I.of_num (x : Nat) (h : x < 16) : (I.of x).num = x := by
 match x, h with
 | 0, _ | 1, _ | 2, _ | 3, _ | 4, _ | 5, _ | 6, _ | 7, _ | 8, _ | 9, _ | 10, _ | 11, _ | 12, _ | 13, _ | 14, _ | 15, _ => rfl
 | n + 16, h => omega
theorem I.of_inj {x y : Nat} (hx : x < 16) (hy : y < 16) (h : I.of x = I.of y) : x = y := by
 rw [← I.of_num x hx, ← I.of_num y hy, h]
theorem I.next_num {i : I} (h : i.isMax = false) : i.next.num = i.num + 1 := by cases i <;> first | rfl | cases h
theorem I.max_num {i : I} (h : i.isMax = true) : i.num = 15 := by cases i <;> first | rfl | cases h
theorem K.num_mk (a b c d : I) : (K.mk a b c d).num = ((a.num * 16 + b.num) * 16 + c.num) * 16 + d.num := rfl
theorem K.num_inj {k l : K} (h : k.num = l.num) : k = l := by
 obtain ⟨a, b, c, d⟩ := k
 obtain ⟨a', b', c', d'⟩ := l
 simp only [K.num_mk] at h
 have h1 := a.num_lt; have h2 := b.num_lt; have h3 := c.num_lt; have h4 := d.num_lt
 have h1' := a'.num_lt; have h2' := b'.num_lt; have h3' := c'.num_lt; have h4' := d'.num_lt
 rw [I.num_inj (i := a) (j := a') (by omega), I.num_inj (i := b) (j := b') (by omega), I.num_inj (i := c) (j := c') (by omega), I.num_inj (i := d) (j := d') (by omega)]
theorem K.succ_num {k : K} (h : k.isMax = false) : k.succ.num = k.num + 1 := by
 obtain ⟨a, b, c, d⟩ := k
 show (bc d.isMax (bc c.isMax (bc b.isMax (K.mk a.next .i0 .i0 .i0) (.mk a b.next .i0 .i0)) (.mk a b c.next .i0)) (.mk a b c d.next)).num = _
 have h' : bc a.isMax (bc b.isMax (bc c.isMax d.isMax false) false) false = false := h
 cases hd : d.isMax
 ·simp only [ab6, K.num_mk, I.next_num hd]; omega
 ·have := I.max_num hd
  cases hc : c.isMax
  ·simp only [ab6, ab7, K.num_mk, I.next_num hc]; show _ + 0 = _; omega
  ·have := I.max_num hc
   cases hb : b.isMax
   ·simp only [ab6, ab7, K.num_mk, I.next_num hb]; show (_ * 16 + 0) * 16 + 0 = _; omega
   ·have := I.max_num hb
    cases ha : a.isMax
    ·simp only [ab7, K.num_mk, I.next_num ha]; show ((_ * 16 + 0) * 16 + 0) * 16 + 0 = _; omega
    ·rw [ha, hb, hc, hd] at h'; cases h'
theorem K.beq_iff (k l : K) : K.beq k l = true ↔ k = l := by
 constructor
 ·intro h; exact K.num_inj (zW h)
 ·rintro rfl; exact Nat.beq_refl _
theorem ag (k : K) (o : AObj) (h : H4) : aa k (ce k o h) = o := by
 obtain ⟨a, b, c, d⟩ := k
 show N.get d (N.get c (N.get b (N.get a (N.set a (N.set b (N.set c (N.set d o (N.get c (N.get b (N.get a h)))) (N.get b (N.get a h))) (N.get a h)) h)))) = o
 rw [N.get_set_same, N.get_set_same, N.get_set_same, N.get_set_same]
theorem au {k l : K} (hn : k ≠ l) (o : AObj) (h : H4) : aa k (ce l o h) = aa k h := by
 obtain ⟨a, b, c, d⟩ := k
 obtain ⟨a', b', c', d'⟩ := l
 show N.get d (N.get c (N.get b (N.get a (N.set a' (N.set b' (N.set c' (N.set d' o (N.get c' (N.get b' (N.get a' h)))) (N.get b' (N.get a' h))) (N.get a' h)) h)))) = N.get d (N.get c (N.get b (N.get a h)))
 by_cases ha : a = a'
 ·subst ha; rw [N.get_set_same]
  by_cases hb : b = b'
  ·subst hb; rw [N.get_set_same]
   by_cases hc : c = c'
   ·subst hc; rw [N.get_set_same]
    by_cases hd : d = d'
    ·subst hd; exact absurd rfl hn
    ·rw [N.get_set_ne hd]
   ·rw [N.get_set_ne hc]
  ·rw [N.get_set_ne hb]
 ·rw [N.get_set_ne ha]
theorem a65 (k : K) : aa k ajm = .none := by
 obtain ⟨a, b, c, d⟩ := k
 show N.get d (N.get c (N.get b (N.get a ajm))) = _
 unfold ajm
 rw [N.get_all, N.get_all, N.get_all, N.get_all]
def lq : Cells → Nat
 | .c0 _ => 16
 | .c1 _ => 256
 | .c2 _ => 4096
 | .c3 _ => 65536
theorem acf {a b : Nat} (ha : a < 16) (hb : b < 16) (h : a ≠ b) : I.of a ≠ I.of b := fun e => h (I.of_inj ha hb e)
theorem aif (x : C0) (i j : Nat) (v : AV) : ue (asy x i v) j = if i % 16 = j % 16 then v else ue x j := by
 show N.get (I.of (j % 16)) (N.set (I.of (i % 16)) v x) = if i % 16 = j % 16 then v else N.get (I.of (j % 16)) x
 by_cases h : i % 16 = j % 16
 ·rw [if_pos h, h, N.get_set_same]
 ·rw [if_neg h, N.get_set_ne (acf (by omega) (by omega) (fun e => h e.symm))]
theorem aig (x : C1) (i j : Nat) (v : AV) : sq (asz x i v) j = if i % 256 = j % 256 then v else sq x j := by
 show ue (N.get (I.of (j / 16 % 16)) (N.set (I.of (i / 16 % 16)) (asy (N.get (I.of (i / 16 % 16)) x) i v) x)) j = if i % 256 = j % 256 then v else ue (N.get (I.of (j / 16 % 16)) x) j
 by_cases h : i / 16 % 16 = j / 16 % 16
 ·rw [h, N.get_set_same, aif]
  by_cases h' : i % 16 = j % 16
  ·rw [if_pos h', if_pos (by omega)]
  ·rw [if_neg h', if_neg (by omega)]
 ·rw [if_neg (by omega), N.get_set_ne (acf (by omega) (by omega) (fun e => h e.symm))]
theorem aii (x : C2) (i j : Nat) (v : AV) : ss (as0 x i v) j = if i % 4096 = j % 4096 then v else ss x j := by
 show sq (N.get (I.of (j / 256 % 16)) (N.set (I.of (i / 256 % 16)) (asz (N.get (I.of (i / 256 % 16)) x) i v) x)) j = if i % 4096 = j % 4096 then v else sq (N.get (I.of (j / 256 % 16)) x) j
 by_cases h : i / 256 % 16 = j / 256 % 16
 ·rw [h, N.get_set_same, aig]
  by_cases h' : i % 256 = j % 256
  ·rw [if_pos h', if_pos (by omega)]
  ·rw [if_neg h', if_neg (by omega)]
 ·rw [if_neg (by omega), N.get_set_ne (acf (by omega) (by omega) (fun e => h e.symm))]
theorem ax1 (x : C3) (i j : Nat) (v : AV) : aij (a98 x i v) j = if i % 65536 = j % 65536 then v else aij x j := by
 show ss (N.get (I.of (j / 4096 % 16)) (N.set (I.of (i / 4096 % 16)) (as0 (N.get (I.of (i / 4096 % 16)) x) i v) x)) j = if i % 65536 = j % 65536 then v else ss (N.get (I.of (j / 4096 % 16)) x) j
 by_cases h : i / 4096 % 16 = j / 4096 % 16
 ·rw [h, N.get_set_same, aii]
  by_cases h' : i % 4096 = j % 4096
  ·rw [if_pos h', if_pos (by omega)]
  ·rw [if_neg h', if_neg (by omega)]
 ·rw [if_neg (by omega), N.get_set_ne (acf (by omega) (by omega) (fun e => h e.symm))]
theorem aee (c : Cells) (i : Nat) (v : AV) : lq (a97 c i v) = lq c := by cases c <;> rfl
theorem a6w (c : Cells) (i j : Nat) (v : AV) (hi : i < lq c) (hj : j < lq c) : vj (a97 c i v) j = if i = j then v else vj c j := by
 cases c with
 | c0 x => simp only [lq] at hi hj; show ue (asy x i v) j = if i = j then v else ue x j; rw [aif, Nat.mod_eq_of_lt hi, Nat.mod_eq_of_lt hj]
 | c1 x => simp only [lq] at hi hj; show sq (asz x i v) j = if i = j then v else sq x j; rw [aig, Nat.mod_eq_of_lt hi, Nat.mod_eq_of_lt hj]
 | c2 x => simp only [lq] at hi hj; show ss (as0 x i v) j = if i = j then v else ss x j; rw [aii, Nat.mod_eq_of_lt hi, Nat.mod_eq_of_lt hj]
 | c3 x => simp only [lq] at hi hj; show aij (a98 x i v) j = if i = j then v else aij x j; rw [ax1, Nat.mod_eq_of_lt hi, Nat.mod_eq_of_lt hj]
theorem a6v (i : Nat) (c : Cells) : m9 [] i c = c := rfl
theorem aie (v : AV) (l : List AV) (i : Nat) (c : Cells) : m9 (v :: l) i c = m9 l (i + 1) (a97 c i v) := rfl
theorem dy (l : List AV) : ∀ (i : Nat) (c : Cells), lq (m9 l i c) = lq c := by
 induction l with
 | nil => intro i c; rfl
 | cons v l ih => intro i c; rw [aie, ih, aee]
theorem fq (l : List AV) : ∀ (i : Nat) (c : Cells) (j : Nat), i + l.length ≤ lq c → j < lq c →
  vj (m9 l i c) j = if h : i ≤ j ∧ j - i < l.length then l[j - i]'h.2 else vj c j := by
 induction l with
 | nil => intro i c j _ _; simp [a6v]
 | cons v l ih =>
   intro i c j h1 h2
   simp only [zO] at h1
   rw [aie, ih (i + 1) (a97 c i v) j (by rw [aee]; omega) (by rw [aee]; omega), a6w c i j v (by omega) h2]
   by_cases ha : i + 1 ≤ j ∧ j - (i + 1) < l.length
   ·rw [dif_pos ha, dif_pos ⟨by omega, by simp; omega⟩]
    have e : j - i = (j - (i + 1)) + 1 := by omega
    simp only [e, List.getElem_cons_succ]
   ·rw [dif_neg ha]
    by_cases hb : i = j
    ·subst hb; rw [if_pos rfl, dif_pos ⟨zY _, by simp⟩]; simp
    ·rw [if_neg hb, dif_neg (by simp; omega)]
theorem fe (n : Nat) (h : n ≤ 65536) : n ≤ lq (jh n) := by
 unfold jh
 simp only [ac]
 split
 ·rename_i h1; exact zE h1
 ·split
  ·rename_i h1; exact zE h1
  ·split
   ·rename_i h1; exact zE h1
   ·exact h
theorem aq {α : Type} (l : List α) : bv l = l.length := by
 induction l with
 | nil => rfl
 | cons x l ih => show Nat.succ (bv l) = _; rw [ih]; rfl
theorem xi (c : Cells) (n : Nat) : ∀ i, na c n i = (List.range n).map fun j => vj c (i + j) := by
 induction n with
 | zero => intro i; rfl
 | succ n ih =>
   intro i
   show vj c i :: na c n (i + 1) = _
   rw [ih, List.range_succ_eq_map]
   simp only [List.map_cons, List.map_map, Nat.add_zero, List.cons.injEq, true_and]
   apply List.map_congr_left
   intro j _
   show vj c (i + 1 + j) = vj c (i + (j + 1))
   rw [show i + 1 + j = i + (j + 1) by omega]
theorem bhc (c : Cells) (n : Nat) (h : n ≤ 65536) : n ≤ lq (cup c n) ∧ lq c ≤ lq (cup c n) := by
 cases c with
 | c0 x =>
   show n ≤ lq (up0 x n) ∧ 16 ≤ lq (up0 x n)
   unfold up0
   simp only [ac]
   repeat' split
   all_goals (simp only [lq]; rename_i h1; first | (have := zE h1; omega) | omega)
 | c1 x =>
   show n ≤ lq (up1 x n) ∧ 256 ≤ lq (up1 x n)
   unfold up1
   simp only [ac]
   repeat' split
   all_goals (simp only [lq]; rename_i h1; first | (have := zE h1; omega) | omega)
 | c2 x =>
   show n ≤ lq (up2 x n) ∧ 4096 ≤ lq (up2 x n)
   unfold up2
   simp only [ac]
   repeat' split
   all_goals (simp only [lq]; rename_i h1; first | (have := zE h1; omega) | omega)
 | c3 x => exact ⟨h, zY _⟩
theorem aih (x : C0) (j : Nat) (h : j < 16) : sq (N.set .i0 x xf) j = ue x j := by
 show ue (N.get (I.of (j / 16 % 16)) (N.set .i0 x xf)) j = _
 rw [show j / 16 % 16 = 0 by omega]; rfl
theorem ace (x : C1) (j : Nat) (h : j < 256) : ss (N.set .i0 x vh) j = sq x j := by
 show sq (N.get (I.of (j / 256 % 16)) (N.set .i0 x vh)) j = _
 rw [show j / 256 % 16 = 0 by omega]; rfl
theorem aik (x : C2) (j : Nat) (h : j < 4096) : aij (N.set .i0 x abd) j = ss x j := by
 show ss (N.get (I.of (j / 4096 % 16)) (N.set .i0 x abd)) j = _
 rw [show j / 4096 % 16 = 0 by omega]; rfl
theorem a8v (c : Cells) (n j : Nat) (h : j < lq c) : vj (cup c n) j = vj c j := by
 cases c with
 | c0 x =>
   simp only [lq] at h
   show vj (up0 x n) j = ue x j
   unfold up0
   simp only [ac]
   split
   ·rfl
   ·split
    ·exact aih x j h
    ·split
     ·exact (ace _ j (by omega)).trans (aih x j h)
     ·exact ((aik _ j (by omega)).trans (ace _ j (by omega))).trans (aih x j h)
 | c1 x =>
   simp only [lq] at h
   show vj (up1 x n) j = sq x j
   unfold up1
   simp only [ac]
   split
   ·rfl
   ·split
    ·exact ace _ j h
    ·exact (aik _ j (by omega)).trans (ace _ j h)
 | c2 x =>
   simp only [lq] at h
   show vj (up2 x n) j = ss x j
   unfold up2
   simp only [ac]
   split
   ·rfl
   ·exact aik _ j h
 | c3 x => rfl
theorem bam (i j i' j' : I) (v : AV) (t : F2) : ai8 i' j' (as8 i j v t) = if i = i' ∧ j = j' then v else ai8 i' j' t := by
 show N.get j' (N.get i' (N.set i (N.set j v (N.get i t)) t)) = if i = i' ∧ j = j' then v else N.get j' (N.get i' t)
 by_cases hi : i = i'
 ·subst hi; rw [N.get_set_same]
  by_cases hj : j = j'
  ·subst hj; rw [N.get_set_same]; simp
  ·rw [N.get_set_ne (fun e => hj e.symm)]; simp [hj]
 ·rw [N.get_set_ne (fun e => hi e.symm)]; simp [hi]
theorem act {t : Nat} (h : t < 256) (lo hi : F2) : ii t (.mk lo hi) = ai8 (I.of (t / 16)) (I.of (t % 16)) lo := by
 unfold ii; rw [show Nat.ble t 255 = true from Nat.ble_eq_true_of_le (by omega)]; rfl
theorem acs {t : Nat} (h : ¬ t < 256) (h' : t < 512) (lo hi : F2) : ii t (.mk lo hi) = ai8 (I.of (t / 16 - 16)) (I.of (t % 16)) hi := by
 unfold ii
 rw [show Nat.ble t 255 = false from by rw [Bool.eq_false_iff]; intro e; have := zE e; omega, show Nat.ble t 511 = true from Nat.ble_eq_true_of_le (by omega)]; rfl
theorem ul {t : Nat} (h : 512 ≤ t) (τ : F) : ii t τ = .top := by
 unfold ii
 rw [show Nat.ble t 255 = false from by rw [Bool.eq_false_iff]; intro e; have := zE e; omega, show Nat.ble t 511 = false from by rw [Bool.eq_false_iff]; intro e; have := zE e; omega]; rfl
theorem bhm {t : Nat} (h : t < 256) (v : AV) (lo hi : F2) : atd t v (.mk lo hi) = .mk (as8 (I.of (t / 16)) (I.of (t % 16)) v lo) hi := by
 unfold atd; rw [show Nat.ble t 255 = true from Nat.ble_eq_true_of_le (by omega)]; rfl
theorem bhl {t : Nat} (h : ¬ t < 256) (v : AV) (lo hi : F2) : atd t v (.mk lo hi) = .mk lo (as8 (I.of (t / 16 - 16)) (I.of (t % 16)) v hi) := by
 unfold atd
 rw [show Nat.ble t 255 = false from by rw [Bool.eq_false_iff]; intro e; have := zE e; omega]; rfl
theorem of2 {a b : Nat} (ha : a < 256) (hb : b < 256) : (I.of (a / 16) = I.of (b / 16) ∧ I.of (a % 16) = I.of (b % 16)) ↔ a = b := by
 constructor
 ·rintro ⟨h1, h2⟩
  have := I.of_inj (by omega) (by omega) h1
  have := I.of_inj (by omega) (by omega) h2
  omega
 ·rintro rfl; exact ⟨rfl, rfl⟩
theorem btb {a b : Nat} (ha : a < 512) (hb : b < 512) (ha' : 256 ≤ a) (hb' : 256 ≤ b) : (I.of (a / 16 - 16) = I.of (b / 16 - 16) ∧ I.of (a % 16) = I.of (b % 16)) ↔ a = b := by
 constructor
 ·rintro ⟨h1, h2⟩
  have := I.of_inj (by omega) (by omega) h1
  have := I.of_inj (by omega) (by omega) h2
  omega
 ·rintro rfl; exact ⟨rfl, rfl⟩
theorem zf (t t' : Nat) (v : AV) (τ : F) (h : t < 512) (h' : t' < 512) : ii t' (atd t v τ) = if t = t' then v else ii t' τ := by
 obtain ⟨lo, hi⟩ := τ
 by_cases a : t < 256
 ·rw [bhm a]
  by_cases b : t' < 256
  ·rw [act b, act b, bam]; simp only [of2 a b]
  ·rw [acs b h', acs b h', if_neg (by omega)]
 ·rw [bhl a]
  by_cases b : t' < 256
  ·rw [act b, act b, if_neg (by omega)]
  ·rw [acs b h', acs b h', bam]; simp only [btb h h' (by omega) (by omega)]
theorem a61 (t : Nat) (h : t < 512) : ii t nh = ip := by
 have e : ∀ i j, ai8 i j ai9 = ip := by intro i j; show N.get j (N.get i ai9) = _; unfold ai9; rw [N.get_all, N.get_all]
 unfold nh
 by_cases a : t < 256
 ·rw [act a, e]
 ·rw [acs a h, e]
end Go.Ev
set_option linter.all false
namespace Go.Ev
def aic (l : List Int) : ByteArray := ⟨(l.map fun x => UInt8.ofNat x.toNat).toArray⟩
def a0m : Nat → List Int → Nat → List Int
 | 0, _, _ => []
 | f + 1, s, p => if p < s.length then ((Utf8.decode (aic s) p).1 : Int) :: a0m f s (p + (Utf8.decode (aic s) p).2) else []
def lg (s : List Int) (p : Nat) : List Int := a0m s.length s p
def bs1 (s : List Int) (p : Int) (r : List Int) : Prop := 0 ≤ p ∧ p ≤ (s.length : Int) ∧ (r.length : Int) ≤ p ∧ s.length ≤ 4000
def xc (op : Nat) (k : IntKind) (a b : Int) : Int := match op with
 | 8 => (df .and k a b).getD 0
 | 9 => (df .or k a b).getD 0
 | 11 => k.wrap (a * 2 ^ (min b.toNat k.bits))
 | 12 => a.fdiv (2 ^ (min b.toNat k.bits))
 | 13 => (df .andNot k a b).getD 0
 | _ => 0
def chA (R : List Int) (p : Int) : Int := if p < (R.length : Int) then R.getD p.toNat 0 else -1
def blp (c : Int) : Int := if c = 9 ∨ c = 10 ∨ c = 12 ∨ c = 13 ∨ c = 32 then 1 else 0
def bhg (c : Int) : Int := if c = 40 ∨ c = 41 ∨ c = 91 ∨ c = 93 ∨ c = 34 ∨ c = 39 ∨ c = 96 ∨ c = 44 ∨ c = 59 ∨ blp c = 1 then 1 else 0
def bi6 (R : List Int) (p : Int) : Int := if p < (R.length : Int) then bhg (R.getD p.toNat 0) else 1
def bqx (R : List Int) : Prop := R.length ≤ 4000 ∧ ∀ x ∈ R, 0 ≤ x ∧ x < 1114112
def ay (R : List Int) (p b : Int) : Int :=
 if _h : p < (R.length : Int) then
  if b = 1 then ay R (p + 1) (if R.getD p.toNat 0 = 10 then 0 else 1)
  else if R.getD p.toNat 0 = 59 then ay R (p + 1) 1
  else if blp (R.getD p.toNat 0) = 1 then ay R (p + 1) 0
  else p
 else p
termination_by ((R.length : Int) - p).toNat
decreasing_by all_goals omega
def sh8 (c n : Int) : Int := IntKind.u8.wrap (xc 12 .i32 c n)
def lo8 (x : Int) : Int := xc 9 .u8 128 (xc 8 .u8 x 63)
def as4 (c : Int) : List Int :=
 if 127 < c then
  if 2047 < c then
   if c < 55296 then [xc 9 .u8 224 (sh8 c 12), lo8 (sh8 c 6), lo8 (IntKind.u8.wrap c)]
   else if 57343 < c then
    if 65535 < c then [xc 9 .u8 240 (sh8 c 18), lo8 (sh8 c 12), lo8 (sh8 c 6), lo8 (IntKind.u8.wrap c)]
    else [xc 9 .u8 224 (sh8 c 12), lo8 (sh8 c 6), lo8 (IntKind.u8.wrap c)]
   else [239, 191, 189]
  else [xc 9 .u8 192 (sh8 c 6), lo8 (IntKind.u8.wrap c)]
 else [c]
structure TK where
 f : Int
 p : Int
 b : List Int
 q : Int
def azm (R : List Int) (p : Int) (b : List Int) (q : Int) : TK :=
 if _h : p < (R.length : Int) then
  if bhg (R.getD p.toNat 0) = 1 then ⟨0, p, b, q⟩
  else if R.getD p.toNat 0 = 92 then
   (if p + 1 < (R.length : Int) then azm R (p + 2) (b ++ as4 (R.getD (p + 1).toNat 0)) 1 else ⟨5, 0, [], 0⟩)
  else azm R (p + 1) (b ++ as4 (R.getD p.toNat 0)) q
 else ⟨0, p, b, q⟩
termination_by ((R.length : Int) - p).toNat
decreasing_by all_goals omega
def a3d (s : List Int) : List Int := s.dropWhile fun c => decide (c = 43 ∨ c = 45)
structure NR where
 k : Int
 n : Int
def drJ (s : List Int) (p : Int) : Int := ((Utf8.decode (aic s) p.toNat).1 : Int)
def dwJ (s : List Int) (p : Int) : Int := ((Utf8.decode (aic s) p.toNat).2 : Int)
def bd7 (d : List Int) (p sum most fits : Int) : NR :=
 if _h : p < (d.length : Int) then
  if drJ d p < 48 ∨ 57 < drJ d p then ⟨0, 0⟩
  else if _h2 : 0 < dwJ d p then
   (if most < (sum * 10 % 18446744073709551616 + (drJ d p - 48)) % 18446744073709551616 then bd7 d (p + dwJ d p) most most 0
    else bd7 d (p + dwJ d p) ((sum * 10 % 18446744073709551616 + (drJ d p - 48)) % 18446744073709551616) most fits)
  else ⟨0, 0⟩
 else ⟨if fits = 1 then 1 else 2, sum⟩
termination_by ((d.length : Int) - p).toNat
decreasing_by all_goals omega
def bp9 (s : List Int) : Int := if s.getD 0 0 = 45 then 1 else 0
def bnc (s : List Int) : NR := if a3d s = [] ∨ (s.length : Int) - ((a3d s).length : Int) > 1 then ⟨0, 0⟩ else bd7 (a3d s) 0 0 (if bp9 s = 1 then 2305843009213693952 else 2305843009213693951) 1
def bic (s : List Int) : Int := (bnc s).k
def bqd (s : List Int) : Int := if bp9 s = 1 then -(bnc s).n else (bnc s).n
def a6x (s : List Int) (p : Int) : Int :=
 if _h : p < (s.length : Int) then (if _h2 : 0 < dwJ s p then 1 + a6x s (p + dwJ s p) else 0) else 0
termination_by ((s.length : Int) - p).toNat
decreasing_by all_goals omega
def ald (s : List Int) : Int := if Lib.validD (s.map fun x => UInt8.ofNat x.toNat) = true then 1 else 0
def bke : Nat → List Int → List (List Int × Int)
 | 0, _ => []
 | _ + 1, [] => []
 | _ + 1, [_] => []
 | f + 1, n :: k :: l => (l.take k.toNat, n) :: bke f (l.drop k.toNat)
def bdx (l : List Int) : List (List Int × Int) := (bke l.length l).reverse
def bsx (G s : List Int) : Int := if ((bdx G).lookup s).isSome then 1 else 0
def bsw (G s : List Int) : Int := ((bdx G).lookup s).getD 0
def bg5 (G : List Int) : Int := ((bdx G).length : Int)
structure IR where
 f : Int
 n : Int
 G : List Int
def vq (G s : List Int) : IR :=
 if ald s = 0 then ⟨5, 0, G⟩
 else if 1000 < a6x s 0 then ⟨4, 0, G⟩
 else if bsx G s = 1 then ⟨0, bsw G s, G⟩
 else if bg5 G < 16384 then ⟨0, bg5 G, bg5 G :: (s.length : Int) :: (s ++ G)⟩
 else ⟨7, 0, G⟩
def hL (h : List Int) : Int := h.getD 0 0
def hM (h : List Int) : Int := h.getD 1 0
def hU (h : List Int) : Int := h.getD 2 0
def bj6 (h : List Int) : Prop := h = [hL h, hM h, hU h] ∧ 1 ≤ hL h ∧ hL h ≤ 50000 ∧ 0 ≤ hM h ∧ hM h ≤ hL h ∧ 0 ≤ hU h ∧ hU h ≤ 1048576
structure AR where
 f : Int
 h : List Int
def axu (h : List Int) (z : Int) : AR := if hM h = hL h ∨ 1048576 < hU h + z then ⟨7, h⟩ else ⟨0, [hL h, hM h + 1, hU h + z]⟩
def bnu (h : List Int) (n : Int) : AR := if 65536 < n then ⟨4, h⟩ else axu h n
def avt (h s : List Int) : AR := if ald s = 0 then ⟨5, h⟩ else if 65536 < a6x s 0 then ⟨4, h⟩ else axu h (a6x s 0)
structure CN where
 f : Int
 k : Int
 n : Int
 h : List Int
def a8x : Nat → List Int → Int → Int → CN
 | 0, h, k, n => ⟨0, k, n, h⟩
 | i + 1, h, k, n => if (axu h 0).f = 0 then a8x i (axu h 0).h 2 (hM h) else ⟨(axu h 0).f, 0, 0, h⟩
def aef (i : Int) (h : List Int) (k n : Int) : CN := a8x i.toNat h k n
def bfp (c : Int) : Int := if c = 110 then 10 else if c = 116 then 9 else if c = 101 then 27 else -1
def bl5 (c : Int) : Int := if 48 ≤ c ∧ c ≤ 57 then c - 48 else if 97 ≤ c ∧ c ≤ 102 then c - 87 else if 65 ≤ c ∧ c ≤ 70 then c - 55 else -1
structure ER where
 f : Int
 a : Int
 c : Int
 p : Int
def al3 (R : List Int) (p c n : Int) : ER :=
 if _h : n < 6 ∧ p < (R.length : Int) then
  if bl5 (R.getD p.toNat 0) < 0 then ⟨0, n, c, p⟩
  else al3 R (p + 1) (xc 9 .i64 (xc 11 .i64 c 4) (bl5 (R.getD p.toNat 0))) (n + 1)
 else ⟨0, n, c, p⟩
termination_by ((R.length : Int) - p).toNat
decreasing_by all_goals omega
def ayh (c : Int) : Int := if 0 ≤ c ∧ c ≤ 1114111 ∧ ¬(55296 ≤ c ∧ c ≤ 57343) then 1 else 0
def a93 (R : List Int) (p at_ : Int) : ER :=
 if (al3 R p 0 0).p < (R.length : Int) then
  if (al3 R p 0 0).a = 0 ∨ R.getD (al3 R p 0 0).p.toNat 0 ≠ 92 ∨ ayh (al3 R p 0 0).c = 0 then ⟨5, at_, 0, 0⟩
  else ⟨0, 0, (al3 R p 0 0).c, (al3 R p 0 0).p + 1⟩
 else ⟨5, (R.length : Int), 0, 0⟩
def af7 (R : List Int) (p : Int) : ER :=
 if p < (R.length : Int) then
  if R.getD p.toNat 0 = 10 then ⟨0, 0, -1, p + 1⟩
  else if R.getD p.toNat 0 = 92 ∨ R.getD p.toNat 0 = 34 then ⟨0, 0, R.getD p.toNat 0, p + 1⟩
  else if R.getD p.toNat 0 = 120 then a93 R (p + 1) (p - 1)
  else if bfp (R.getD p.toNat 0) < 0 then ⟨5, p - 1, 0, 0⟩
  else ⟨0, 0, bfp (R.getD p.toNat 0), p + 1⟩
 else ⟨5, (R.length : Int), 0, 0⟩
structure TX where
 f : Int
 a : Int
 b : List Int
 p : Int
def avz (R : List Int) (p : Int) (b : List Int) : TX :=
 if _h : p < (R.length : Int) then
  if R.getD p.toNat 0 = 34 then ⟨0, 0, b, p + 1⟩
  else if R.getD p.toNat 0 = 92 then
   (if (af7 R (p + 1)).f = 0 then
     (if _h2 : p < (af7 R (p + 1)).p then
       (if (af7 R (p + 1)).c < 0 then avz R (af7 R (p + 1)).p b else avz R (af7 R (p + 1)).p (b ++ as4 (af7 R (p + 1)).c))
      else ⟨5, 0, [], 0⟩)
    else ⟨(af7 R (p + 1)).f, (af7 R (p + 1)).a, [], 0⟩)
  else avz R (p + 1) (b ++ as4 (R.getD p.toNat 0))
 else ⟨5, (R.length : Int), [], 0⟩
termination_by ((R.length : Int) - p).toNat
decreasing_by all_goals omega
def bna (R : List Int) (p : Int) : Int := if chA R p = 92 ∧ chA R (p + 2) = 45 then (if chA R (p + 1) = 67 then 67108864 else if chA R (p + 1) = 77 then 134217728 else if chA R (p + 1) = 83 then 33554432 else 0) else 0
structure PR where
 p : Int
 b : Int
def aj0 (R : List Int) (p b : Int) : PR :=
 if _h : p < (R.length : Int) then (if bna R p = 0 then ⟨p, b⟩ else aj0 R (p + 3) (xc 9 .i64 b (bna R p))) else ⟨p, b⟩
termination_by ((R.length : Int) - p).toNat
decreasing_by all_goals omega
def ah8 (R : List Int) (p : Int) : ER :=
 if p < (R.length : Int) then
  if R.getD p.toNat 0 = 92 then
   (if p + 1 < (R.length : Int) then
     (if bfp (R.getD (p + 1).toNat 0) < 0 then
       (if R.getD (p + 1).toNat 0 = 115 then ⟨0, 0, 32, p + 2⟩
        else if R.getD (p + 1).toNat 0 = 100 then ⟨0, 0, 127, p + 2⟩
        else if 97 ≤ R.getD (p + 1).toNat 0 ∧ R.getD (p + 1).toNat 0 ≤ 122 ∨ 65 ≤ R.getD (p + 1).toNat 0 ∧ R.getD (p + 1).toNat 0 ≤ 90 then ⟨5, p, 0, 0⟩
        else ⟨0, 0, R.getD (p + 1).toNat 0, p + 2⟩)
      else ⟨0, 0, bfp (R.getD (p + 1).toNat 0), p + 2⟩)
    else ⟨5, (R.length : Int), 0, 0⟩)
  else ⟨0, 0, R.getD p.toNat 0, p + 1⟩
 else ⟨5, (R.length : Int), 0, 0⟩
def bsm (c b : Int) : Int :=
 if xc 8 .i64 b 67108864 = 0 then xc 9 .i64 c b
 else if 97 ≤ c ∧ c ≤ 122 ∨ 64 ≤ c ∧ c ≤ 95 then xc 9 .i64 (c.tmod 32) (xc 13 .i64 b 67108864)
 else if c = 63 then xc 9 .i64 127 (xc 13 .i64 b 67108864)
 else xc 9 .i64 c b
def asn (R : List Int) (q : Int) : ER :=
 if (ah8 R (aj0 R (q + 1) 0).p).f = 0 then
  if bi6 R (ah8 R (aj0 R (q + 1) 0).p).p = 1 then ⟨0, 0, bsm (ah8 R (aj0 R (q + 1) 0).p).c (aj0 R (q + 1) 0).b, (ah8 R (aj0 R (q + 1) 0).p).p⟩
  else ⟨5, (ah8 R (aj0 R (q + 1) 0).p).p, 0, 0⟩
 else ⟨(ah8 R (aj0 R (q + 1) 0).p).f, (ah8 R (aj0 R (q + 1) 0).p).a, 0, 0⟩
structure FR where
 f : Int
 a : Int
 k : Int
 n : Int
 p : Int
 h : List Int
 G : List Int
def bad (f a : Int) : FR := ⟨f, a, 0, 0, 0, [], []⟩
def bq5 (G s : List Int) (at_ p : Int) (h : List Int) : FR := if (vq G s).f = 0 then ⟨0, 0, 1, (vq G s).n, p, h, (vq G s).G⟩ else bad (vq G s).f at_
def bto (t : TK) (len q : Int) (h G : List Int) : FR :=
 if t.f = 0 then
  if t.q = 0 ∧ bic t.b = 2 then bad 15 q
  else if t.q = 0 ∧ bic t.b = 1 then ⟨0, 0, 0, bqd t.b, t.p, h, G⟩
  else if t.q = 0 ∧ t.b = [46] then bad 5 q
  else if 1000 < a6x t.b 0 then bad 4 q
  else bq5 G t.b q t.p h
 else bad 5 len
def btp (t : TX) (q : Int) (h G : List Int) : FR :=
 if t.f = 0 then (if (avt h t.b).f = 0 then ⟨0, 0, 3, hM h, t.p, (avt h t.b).h, G⟩ else bad (avt h t.b).f q) else bad t.f t.a
def bsi (t : ER) (h G : List Int) : FR := if t.f = 0 then ⟨0, 0, 0, t.c, t.p, h, G⟩ else bad t.f t.a
def bpt (c : CN) (q p : Int) (G : List Int) : FR := if c.f = 0 then ⟨0, 0, c.k, c.n, p, c.h, G⟩ else bad c.f q
def btq (v : AR) (q p n : Int) (G : List Int) : FR := if v.f = 0 then ⟨0, 0, 4, n, p, v.h, G⟩ else bad v.f q
def bil (r : FR) (q : Int) : FR := if r.f = 0 then bpt (aef 2 r.h 1 0) q r.p r.G else r
theorem adk (R : List Int) : ∀ (n : Nat) (p b : Int), ((R.length : Int) - p).toNat ≤ n → p ≤ ay R p b
 | 0, p, b, h => by rw [ay, dif_neg (by omega)]; exact Int.le_refl _
 | n + 1, p, b, h => by
   rw [ay]
   split
   ·split
    ·have := adk R n (p + 1) (if R.getD p.toNat 0 = 10 then 0 else 1) (by omega); omega
    ·split
     ·have := adk R n (p + 1) 1 (by omega); omega
     ·split
      ·have := adk R n (p + 1) 0 (by omega); omega
      ·exact Int.le_refl _
   ·exact Int.le_refl _
theorem apu (R : List Int) (p b : Int) : p ≤ ay R p b := adk R _ p b (zY _)
mutual
def dg (R : List Int) (p o : Int) (h G : List Int) : FR :=
 if hq : ay R p 0 < (R.length : Int) then
  if chA R (ay R p 0) = 40 then (if 200 ≤ o then bad 12 (ay R p 0) else aa3 R (ay R p 0 + 1) (o + 1) (ay R p 0) 0 1 0 h G)
  else if chA R (ay R p 0) = 91 then (if 200 ≤ o then bad 12 (ay R p 0) else av2 R (ay R p 0 + 1) (o + 1) (ay R p 0) 0 h G)
  else if chA R (ay R p 0) = 41 ∨ chA R (ay R p 0) = 93 then bad 5 (ay R p 0)
  else if chA R (ay R p 0) = 34 then btp (avz R (ay R p 0 + 1) []) (ay R p 0) h G
  else if chA R (ay R p 0) = 63 then bsi (asn R (ay R p 0)) h G
  else if chA R (ay R p 0) = 39 ∨ chA R (ay R p 0) = 96 then (if 200 ≤ o then bad 12 (ay R p 0) else bil (dg R (ay R p 0 + 1) (o + 1) h G) (ay R p 0))
  else if chA R (ay R p 0) = 44 then
   (if chA R (ay R p 0 + 1) = 64 then (if 200 ≤ o then bad 12 (ay R p 0) else bil (dg R (ay R p 0 + 2) (o + 1) h G) (ay R p 0))
    else (if 200 ≤ o then bad 12 (ay R p 0) else bil (dg R (ay R p 0 + 1) (o + 1) h G) (ay R p 0)))
  else if chA R (ay R p 0) = 35 then
   (if chA R (ay R p 0 + 1) = 39 then (if 200 ≤ o then bad 12 (ay R p 0) else bil (dg R (ay R p 0 + 2) (o + 1) h G) (ay R p 0))
    else if chA R (ay R p 0 + 1) = 35 ∧ bi6 R (ay R p 0 + 2) = 1 then bq5 G [] (ay R p 0) (ay R p 0 + 2) h
    else bad 5 (ay R p 0))
  else bto (azm R (ay R p 0) [] 0) (R.length : Int) (ay R p 0) h G
 else bad 5 (R.length : Int)
termination_by 2 * ((R.length : Int) - p).toNat + 1
decreasing_by all_goals (have := apu R p 0; omega)
def aa3 (R : List Int) (p o at_ cnt tk tn : Int) (h G : List Int) : FR :=
 if hs : ay R p 0 < (R.length : Int) then
  if chA R (ay R p 0) = 41 then bpt (aef cnt h tk tn) at_ (ay R p 0 + 1) G
  else if chA R (ay R p 0) = 46 ∧ bi6 R (ay R p 0 + 1) = 1 ∧ 0 < cnt then
   (if (dg R (ay R p 0 + 1) o h G).f = 0 then
     (if hp : ay R p 0 < ay R (dg R (ay R p 0 + 1) o h G).p 0 then
       (if chA R (ay R (dg R (ay R p 0 + 1) o h G).p 0) = 41 then aa3 R (ay R (dg R (ay R p 0 + 1) o h G).p 0) o at_ cnt (dg R (ay R p 0 + 1) o h G).k (dg R (ay R p 0 + 1) o h G).n (dg R (ay R p 0 + 1) o h G).h (dg R (ay R p 0 + 1) o h G).G
        else bad 5 (ay R (dg R (ay R p 0 + 1) o h G).p 0))
      else bad 5 0)
    else dg R (ay R p 0 + 1) o h G)
  else
   (if (dg R (ay R p 0) o h G).f = 0 then
     (if hp : ay R p 0 < (dg R (ay R p 0) o h G).p then aa3 R (dg R (ay R p 0) o h G).p o at_ (cnt + 1) tk tn (dg R (ay R p 0) o h G).h (dg R (ay R p 0) o h G).G else bad 5 0)
    else dg R (ay R p 0) o h G)
 else bad 5 (R.length : Int)
termination_by 2 * ((R.length : Int) - p).toNat + 2
decreasing_by all_goals (have := apu R p 0; omega)
def av2 (R : List Int) (p o at_ cnt : Int) (h G : List Int) : FR :=
 if hs : ay R p 0 < (R.length : Int) then
  if chA R (ay R p 0) = 93 then btq (bnu h cnt) at_ (ay R p 0 + 1) (hM h) G
  else
   (if (dg R (ay R p 0) o h G).f = 0 then
     (if hp : ay R p 0 < (dg R (ay R p 0) o h G).p then av2 R (dg R (ay R p 0) o h G).p o at_ (cnt + 1) (dg R (ay R p 0) o h G).h (dg R (ay R p 0) o h G).G else bad 5 0)
    else dg R (ay R p 0) o h G)
 else bad 5 (R.length : Int)
termination_by 2 * ((R.length : Int) - p).toNat + 2
decreasing_by all_goals (have := apu R p 0; omega)
end
structure AW where
 f : Int
 a : Int
 l : List Int
 h : List Int
 G : List Int
def aea (R : List Int) (p : Int) (l h G : List Int) : AW :=
 if hs : p < (R.length : Int) then
  (if (dg R p 0 h G).f = 0 then
    (if hp : p < ay R (dg R p 0 h G).p 0 then aea R (ay R (dg R p 0 h G).p 0) (l ++ [(dg R p 0 h G).k, (dg R p 0 h G).n]) (dg R p 0 h G).h (dg R p 0 h G).G else ⟨5, 0, [], [], []⟩)
   else ⟨(dg R p 0 h G).f, (dg R p 0 h G).a, [], [], []⟩)
 else ⟨0, 0, l, h, G⟩
termination_by ((R.length : Int) - p).toNat
decreasing_by all_goals omega
def bti (s : List Int) (p i : Int) (L : List Int) (n : Int) (h1 G1 h G : List Int) : Prop :=
 s.length ≤ 1500 ∧ 1 ≤ s.length ∧ ald s = 1 ∧ 0 ≤ p ∧ p ≤ ((lg s 0).length : Int) ∧ 0 ≤ i ∧ i ≤ p ∧ 1 ≤ n ∧ i ≤ n ∧ n ≤ 1500 ∧ (L.length : Int) = 2 * n ∧
  (aea (lg s 0) (ay (lg s 0) p 0) [] h G).f = 0 ∧ (aea (lg s 0) (ay (lg s 0) p 0) [] h G).l = L.drop (2 * i).toNat ∧
  (aea (lg s 0) (ay (lg s 0) p 0) [] h G).h = h1 ∧ (aea (lg s 0) (ay (lg s 0) p 0) [] h G).G = G1
def btj (s : List Int) (p i f a : Int) (h G : List Int) : Prop :=
 s.length ≤ 1500 ∧ 1 ≤ s.length ∧ ald s = 1 ∧ 0 ≤ p ∧ p ≤ ((lg s 0).length : Int) ∧ 0 ≤ i ∧ i ≤ p ∧
  (aea (lg s 0) (ay (lg s 0) p 0) [] h G).f = f ∧ (aea (lg s 0) (ay (lg s 0) p 0) [] h G).a = a ∧ f ≠ 0
def ptN (s : List Int) : Int := if drJ s 0 = 65533 ∧ dwJ s 0 ≤ 1 then 0 else dwJ s 0
def ptC (s : List Int) : Int := if drJ s 0 = 65533 ∧ dwJ s 0 ≤ 1 then 0 else drJ s 0
def bso (l : List Int) (i n : Int) : List Int := ((l.take n.toNat).drop i.toNat).flatMap as4
def hxd (d : Int) : Int := if d < 10 then 48 + d else 87 + d
def bo3 : Nat → Int → List Int
 | 0, _ => []
 | f + 1, c => if c < 16 then [hxd c] else bo3 f (c / 16) ++ [hxd (c % 16)]
def bo4 (c : Int) : List Int := bo3 8 c
def bsp (c : Int) : List Int := 92 :: 120 :: (bo4 c ++ [92])
def isE (c b : Int) : Prop := ¬ b = 0 ∨ c = 34 ∨ c = 92
instance (c b : Int) : Decidable (isE c b) := by unfold isE; infer_instance
def bte (c b : Int) : List Int := if isE c b then bsp c else as4 c
def bq4 : List Int → List Int → List Int
 | c :: l, y :: by_ => bte c y ++ bq4 l by_
 | _, _ => []
def bsh (l : List Int) (i : Int) : Int := if (l.drop i.toNat).all (fun c => ayh c == 1) then 1 else 0
def bq3 (k c : Int) : Int := if c = 92 then 1 else if k = 0 then (if c = 34 then 1 else 0) else bhg c
def bip (k : Int) (s : List Int) (p : Int) : List Int :=
 if _h : p < (s.length : Int) then (if _h2 : 0 < dwJ s p then (if bq3 k (drJ s p) = 1 then [92] else []) ++ (as4 (drJ s p) ++ bip k s (p + dwJ s p)) else []) else []
termination_by ((s.length : Int) - p).toNat
decreasing_by all_goals omega
def bl4 : Nat → Int → List Int
 | 0, _ => []
 | f + 1, n => if n < 10 then [48 + n] else bl4 f (n / 10) ++ [48 + n % 10]
def bsn (n : Int) : List Int := if n < 0 then 45 :: bl4 20 (-n) else bl4 20 n
def bpe (c : Int) : Bool := decide (48 ≤ c ∧ c ≤ 57)
def ax5 (s : List Int) : List Int := (s.reverse.dropWhile bpe).reverse
def ax4 (s : List Int) : List Int := s.dropWhile bpe
def bq1 (s : List Int) : List Int := match s with
 | c :: l => if c = 43 ∨ c = 45 then l else c :: l
 | [] => []
def bqc (s : List Int) : Int := if bq1 s ≠ [] ∧ ax4 (ax5 (bq1 s)) = [] then 1 else 0
def bkh (s : List Int) : List Int := if s = [46] ∨ bqc s = 1 ∨ s.headD 0 = 63 ∨ s.headD 0 = 35 ∨ s.headD 0 = 64 then 92 :: bip 1 s 0 else bip 1 s 0
def syA (s : List Int) : List Int := if s = [] then [35, 35] else bkh s
def btn (b : List Int) (q : Int) : Int := if q = 1 ∨ (bic b = 0 ∧ b ≠ [46]) then 1 else 0
def g0L : List Int := [61, 27, 99, 121, 99, 108, 105, 99, 45, 102, 117, 110, 99, 116, 105, 111, 110, 45, 105, 110, 100, 105, 114, 101, 99, 116, 105, 111, 110, 60, 16, 98, 117, 102, 102, 101, 114, 45, 114, 101, 97, 100, 45, 111, 110, 108, 121, 59, 10, 117, 115, 101, 114, 45, 101, 114, 114, 111, 114, 58, 14, 105, 110, 118, 97, 108, 105, 100, 45, 114, 101, 103, 101, 120, 112, 57, 13, 115, 101, 97, 114, 99, 104, 45, 102, 97, 105, 108, 101, 100, 56, 13, 101, 110, 100, 45, 111, 102, 45, 98, 117, 102, 102, 101, 114, 55, 19, 98, 101, 103, 105, 110, 110, 105, 110, 103, 45, 111, 102, 45, 98, 117, 102, 102, 101, 114, 54, 14, 116, 101, 120, 116, 45, 114, 101, 97, 100, 45, 111, 110, 108, 121, 53, 11, 109, 101, 109, 111, 114, 121, 45, 102, 117, 108, 108, 52, 22, 101, 120, 99, 101, 115, 115, 105, 118, 101, 45, 108, 105, 115, 112, 45, 110, 101, 115, 116, 105, 110, 103, 51, 13, 99, 105, 114, 99, 117, 108, 97, 114, 45, 108, 105, 115, 116, 50, 11, 101, 110, 100, 45, 111, 102, 45, 102, 105, 108, 101, 49, 19, 105, 110, 118, 97, 108, 105, 100, 45, 114, 101, 97, 100, 45, 115, 121, 110, 116, 97, 120, 48, 16, 105, 110, 118, 97, 108, 105, 100, 45, 102, 117, 110, 99, 116, 105, 111, 110, 47, 8, 110, 111, 45, 99, 97, 116, 99, 104, 46, 16, 115, 101, 116, 116, 105, 110, 103, 45, 99, 111, 110, 115, 116, 97, 110, 116, 45, 14, 111, 118, 101, 114, 102, 108, 111, 119, 45, 101, 114, 114, 111, 114, 44, 11, 97, 114, 105, 116, 104, 45, 101, 114, 114, 111, 114, 43, 17, 97, 114, 103, 115, 45, 111, 117, 116, 45, 111, 102, 45, 114, 97, 110, 103, 101, 42, 25, 119, 114, 111, 110, 103, 45, 110, 117, 109, 98, 101, 114, 45, 111, 102, 45, 97, 114, 103, 117, 109, 101, 110, 116, 115, 41, 19, 119, 114, 111, 110, 103, 45, 116, 121, 112, 101, 45, 97, 114, 103, 117, 109, 101, 110, 116, 40, 13, 118, 111, 105, 100, 45, 102, 117, 110, 99, 116, 105, 111, 110, 39, 13, 118, 111, 105, 100, 45, 118, 97, 114, 105, 97, 98, 108, 101, 38, 4, 113, 117, 105, 116, 37, 5, 101, 114, 114, 111, 114, 36, 6, 115, 105, 103, 110, 97, 108, 35, 5, 116, 104, 114, 111, 119, 34, 4, 101, 118, 97, 108, 33, 4, 109, 97, 112, 99, 32, 6, 109, 97, 112, 99, 97, 114, 31, 5, 97, 112, 112, 108, 121, 30, 7, 102, 117, 110, 99, 97, 108, 108, 29, 11, 105, 110, 116, 101, 114, 97, 99, 116, 105, 118, 101, 28, 8, 100, 101, 102, 109, 97, 99, 114, 111, 27, 5, 100, 101, 102, 117, 110, 26, 8, 100, 101, 102, 99, 111, 110, 115, 116, 25, 6, 100, 101, 102, 118, 97, 114, 24, 14, 99, 111, 110, 100, 105, 116, 105, 111, 110, 45, 99, 97, 115, 101, 23, 14, 117, 110, 119, 105, 110, 100, 45, 112, 114, 111, 116, 101, 99, 116, 22, 5, 99, 97, 116, 99, 104, 21, 4, 108, 101, 116, 42, 20, 3, 108, 101, 116, 19, 4, 115, 101, 116, 113, 18, 5, 112, 114, 111, 103, 49, 17, 5, 112, 114, 111, 103, 110, 16, 5, 119, 104, 105, 108, 101, 15, 2, 111, 114, 14, 3, 97, 110, 100, 13, 4, 99, 111, 110, 100, 12, 2, 105, 102, 11, 9, 38, 111, 112, 116, 105, 111, 110, 97, 108, 10, 5, 38, 114, 101, 115, 116, 9, 5, 109, 97, 99, 114, 111, 8, 7, 99, 108, 111, 115, 117, 114, 101, 7, 6, 108, 97, 109, 98, 100, 97, 6, 2, 44, 64, 5, 1, 44, 4, 1, 96, 3, 8, 102, 117, 110, 99, 116, 105, 111, 110, 2, 5, 113, 117, 111, 116, 101, 1, 1, 116, 0, 3, 110, 105, 108]
def a24 : Nat → List Int → List (List Int)
 | 0, _ => []
 | _, [] => []
 | f + 1, n :: r => r.take n.toNat :: a24 f (r.drop n.toNat)
def recs (l : List Int) : List (List Int) := a24 l.length l
def ff : List (List Int) → List Int
 | [] => []
 | r :: L => (r.length : Int) :: (r ++ ff L)
theorem ans : ∀ (L : List (List Int)) (f : Nat), (ff L).length ≤ f → a24 f (ff L) = L
 | [], 0, _ => rfl
 | [], _ + 1, _ => rfl
 | r :: L, 0, h => by simp [ff] at h
 | r :: L, f + 1, h => by
   simp only [ff, zO, zP] at h
   simp only [ff, a24, Int.toNat_natCast, List.take_left', List.drop_left']
   rw [ans L f (by omega)]
theorem ik (L : List (List Int)) : recs (ff L) = L := ans L _ (zY _)
def aa7 (r : List Int) : Int := match r with
 | 3 :: bs => (lg bs 0).length
 | 4 :: ws => (ws.length / 2 : Nat)
 | _ => 0
def gy (L : List (List Int)) : Int := (L.map aa7).foldr (· + ·) 0
def obL (l : List Int) (n : Int) : List Int := if 0 ≤ n then (recs l.tail).getD n.toNat [] else []
def pf (l : List Int) (k n : Int) : Int := if 0 ≤ n ∧ n < ((recs l.tail).length : Int) ∧ (obL l n).getD 0 0 = k then 1 else 0
def ua (l r : List Int) : List Int := l ++ (r.length : Int) :: r
def bfo (l : List Int) (n : Int) (r : List Int) : List Int := l.headD 0 :: ff ((recs l.tail).set n.toNat r)
def co (l : List Int) : Int := ((recs l.tail).length : Int)
structure BR where
 l : List Int
 k : Int
 n : Int
def aba : Nat → List Int → List Int → Int → Int → BR
 | 0, l, _, k, n => ⟨l, k, n⟩
 | i + 1, l, ws, k, n => aba i (ua l [2, ws.getD (2 * i) 0, ws.getD (2 * i + 1) 0, k, n]) ws 2 (co l)
def pq (i : Int) (l ws : List Int) (k n : Int) : BR := aba i.toNat l ws k n
def mr : Nat → List Int → Int → Int → Option (List Int)
 | 0, _, _, _ => none
 | f + 1, l, k, n => if k = 2 ∧ pf l 2 n = 1 then (mr f l ((obL l n).getD 3 0) ((obL l n).getD 4 0)).map fun w => (obL l n).getD 1 0 :: (obL l n).getD 2 0 :: w
   else if k = 1 ∧ n = 0 then some [] else none
def j7 (l : List Int) (k n : Int) : Int := match mr ((recs l.tail).length + 1) l k n with
 | some w => (w.length : Int) / 2
 | none => -1
def w8 (l : List Int) (k n : Int) : List Int := (mr ((recs l.tail).length + 1) l k n).getD []
def aga (b : Int) : Nat → List Int
 | 0 => []
 | i + 1 => aga b i ++ [1, b + i]
def fj (b i : Int) : List Int := aga b i.toNat
def seqR (b i : Int) : List Int := (List.range i.toNat).map fun (j : Nat) => b + (j : Int)
def nj (r : List Int) (v i : Int) : Int := if _h : i < (r.length : Int) then (if v = r.getD i.toNat 0 then i else nj r v (i + 1)) else -1
termination_by ((r.length : Int) - i).toNat
decreasing_by omega
structure PA where
 e : Int
 need : List Int
 may : List Int
 r : Int
 p : Int
def cq (ws : List Int) (i : Int) (need may : List Int) (r p : Int) : PA :=
 if _h : 2 * i + 1 < (ws.length : Int) then
  if ws.getD (2 * i).toNat 0 = 1 then
   (if ws.getD (2 * i + 1).toNat 0 = 0 ∨ ws.getD (2 * i + 1).toNat 0 = 1 then ⟨10, [], [], 0, 0⟩
    else if ws.getD (2 * i + 1).toNat 0 = 11 ∧ p = 0 then cq ws (i + 1) need may r 1
    else if ws.getD (2 * i + 1).toNat 0 = 10 ∧ p < 2 then cq ws (i + 1) need may r 2
    else if ws.getD (2 * i + 1).toNat 0 = 11 ∨ ws.getD (2 * i + 1).toNat 0 = 10 ∨ p = 3 then ⟨5, [], [], 0, 0⟩
    else if 0 ≤ nj need (ws.getD (2 * i + 1).toNat 0) 0 ∨ 0 ≤ nj may (ws.getD (2 * i + 1).toNat 0) 0 then ⟨18, [], [], 0, 0⟩
    else if p = 0 then cq ws (i + 1) (need ++ [ws.getD (2 * i + 1).toNat 0]) may r p
    else if p = 1 then cq ws (i + 1) need (may ++ [ws.getD (2 * i + 1).toNat 0]) r p
    else cq ws (i + 1) need may (ws.getD (2 * i + 1).toNat 0) 3)
  else ⟨6, [], [], 0, 0⟩
 else ⟨0, need, may, r, p⟩
termination_by ((ws.length : Int) - i).toNat
decreasing_by all_goals omega
def od (l : List Int) : Prop := ∃ lim L, l = lim :: ff L ∧ 1 ≤ lim ∧ lim ≤ 50000 ∧ (L.length : Int) ≤ lim ∧ gy L ≤ 1048576
def du (a b c : Int) : List Int := fj 100 a ++ ((if 0 < b then 1 :: 11 :: fj 200 b else []) ++ if c = 1 then [1, 10, 1, 300] else [])
open Classical in
noncomputable def bnj : Nat → List (List Int) → Int
 | 201, [l] => ((recs l.tail).length : Int)
 | 202, [l] => gy (recs l.tail)
 | 203, [l, k, n] => pf l (k.headD 0) (n.headD 0)
 | 204, [l, n, j] => (obL l (n.headD 0)).getD (j.headD 0).toNat 0
 | 221, [l] => if od l then 1 else 0
 | 211, [i, l, ws, k, n] => (pq (i.headD 0) l ws (k.headD 0) (n.headD 0)).k
 | 212, [i, l, ws, k, n] => (pq (i.headD 0) l ws (k.headD 0) (n.headD 0)).n
 | 213, [l, k, n] => j7 l (k.headD 0) (n.headD 0)
 | 217, [r, v, i] => nj r (v.headD 0) (i.headD 0)
 | 218, [ws, i, a, b, r, p] => (cq ws (i.headD 0) a b (r.headD 0) (p.headD 0)).e
 | 219, [ws, i, a, b, r, p] => (cq ws (i.headD 0) a b (r.headD 0) (p.headD 0)).r
 | 220, [ws, i, a, b, r, p] => (cq ws (i.headD 0) a b (r.headD 0) (p.headD 0)).p
 | 11, [s, p, r] => if bs1 s (p.headD 0) r then 1 else 0
 | 40, [c] => blp (c.headD 0)
 | 41, [c] => bhg (c.headD 0)
 | 42, [R] => if bqx R then 1 else 0
 | 43, [R, p, b] => ay R (p.headD 0) (b.headD 0)
 | 44, [R, p, b, q] => (azm R (p.headD 0) b (q.headD 0)).f
 | 45, [R, p, b, q] => (azm R (p.headD 0) b (q.headD 0)).p
 | 46, [R, p, b, q] => (azm R (p.headD 0) b (q.headD 0)).q
 | 47, [s] => bic s
 | 48, [s] => bqd s
 | 49, [s, p] => a6x s (p.headD 0)
 | 50, [s] => ald s
 | 51, [d, p, s, m, t] => (bd7 d (p.headD 0) (s.headD 0) (m.headD 0) (t.headD 0)).k
 | 52, [d, p, s, m, t] => (bd7 d (p.headD 0) (s.headD 0) (m.headD 0) (t.headD 0)).n
 | 53, [G] => bg5 G
 | 54, [G, s] => (vq G s).f
 | 55, [G, s] => (vq G s).n
 | 56, [h] => if bj6 h then 1 else 0
 | 57, [h, z] => (axu h (z.headD 0)).f
 | 58, [h, z] => (bnu h (z.headD 0)).f
 | 59, [h, s] => (avt h s).f
 | 60, [R, p, o, h, G] => (dg R (p.headD 0) (o.headD 0) h G).f
 | 61, [R, p, o, h, G] => (dg R (p.headD 0) (o.headD 0) h G).a
 | 62, [R, p, o, h, G] => (dg R (p.headD 0) (o.headD 0) h G).k
 | 63, [R, p, o, h, G] => (dg R (p.headD 0) (o.headD 0) h G).n
 | 64, [R, p, o, h, G] => (dg R (p.headD 0) (o.headD 0) h G).p
 | 65, [R, p, o, a, c, k, n, h, G] => (aa3 R (p.headD 0) (o.headD 0) (a.headD 0) (c.headD 0) (k.headD 0) (n.headD 0) h G).f
 | 66, [R, p, o, a, c, k, n, h, G] => (aa3 R (p.headD 0) (o.headD 0) (a.headD 0) (c.headD 0) (k.headD 0) (n.headD 0) h G).a
 | 67, [R, p, o, a, c, k, n, h, G] => (aa3 R (p.headD 0) (o.headD 0) (a.headD 0) (c.headD 0) (k.headD 0) (n.headD 0) h G).k
 | 68, [R, p, o, a, c, k, n, h, G] => (aa3 R (p.headD 0) (o.headD 0) (a.headD 0) (c.headD 0) (k.headD 0) (n.headD 0) h G).n
 | 69, [R, p, o, a, c, k, n, h, G] => (aa3 R (p.headD 0) (o.headD 0) (a.headD 0) (c.headD 0) (k.headD 0) (n.headD 0) h G).p
 | 70, [R, p, o, a, c, h, G] => (av2 R (p.headD 0) (o.headD 0) (a.headD 0) (c.headD 0) h G).f
 | 71, [R, p, o, a, c, h, G] => (av2 R (p.headD 0) (o.headD 0) (a.headD 0) (c.headD 0) h G).a
 | 72, [R, p, o, a, c, h, G] => (av2 R (p.headD 0) (o.headD 0) (a.headD 0) (c.headD 0) h G).n
 | 73, [R, p, o, a, c, h, G] => (av2 R (p.headD 0) (o.headD 0) (a.headD 0) (c.headD 0) h G).p
 | 74, [i, h, k, n] => (aef (i.headD 0) h (k.headD 0) (n.headD 0)).f
 | 75, [i, h, k, n] => (aef (i.headD 0) h (k.headD 0) (n.headD 0)).k
 | 76, [i, h, k, n] => (aef (i.headD 0) h (k.headD 0) (n.headD 0)).n
 | 77, [c] => bfp (c.headD 0)
 | 78, [c] => bl5 (c.headD 0)
 | 79, [c] => ayh (c.headD 0)
 | 80, [R, p, c, n] => (al3 R (p.headD 0) (c.headD 0) (n.headD 0)).p
 | 81, [R, p, c, n] => (al3 R (p.headD 0) (c.headD 0) (n.headD 0)).c
 | 82, [R, p, c, n] => (al3 R (p.headD 0) (c.headD 0) (n.headD 0)).a
 | 83, [R, p, a] => (a93 R (p.headD 0) (a.headD 0)).f
 | 84, [R, p, a] => (a93 R (p.headD 0) (a.headD 0)).a
 | 85, [R, p, a] => (a93 R (p.headD 0) (a.headD 0)).c
 | 86, [R, p, a] => (a93 R (p.headD 0) (a.headD 0)).p
 | 87, [R, p] => (af7 R (p.headD 0)).f
 | 88, [R, p] => (af7 R (p.headD 0)).a
 | 89, [R, p] => (af7 R (p.headD 0)).c
 | 90, [R, p] => (af7 R (p.headD 0)).p
 | 91, [R, p, b] => (avz R (p.headD 0) b).f
 | 92, [R, p, b] => (avz R (p.headD 0) b).a
 | 93, [R, p, b] => (avz R (p.headD 0) b).p
 | 94, [R, p] => bna R (p.headD 0)
 | 95, [R, p, b] => (aj0 R (p.headD 0) (b.headD 0)).p
 | 96, [R, p, b] => (aj0 R (p.headD 0) (b.headD 0)).b
 | 97, [R, p] => (ah8 R (p.headD 0)).f
 | 98, [R, p] => (ah8 R (p.headD 0)).a
 | 100, [R, p] => (ah8 R (p.headD 0)).c
 | 101, [R, p] => (ah8 R (p.headD 0)).p
 | 102, [R, p] => (asn R (p.headD 0)).f
 | 103, [R, p] => (asn R (p.headD 0)).a
 | 104, [R, p] => (asn R (p.headD 0)).c
 | 105, [R, p] => (asn R (p.headD 0)).p
 | 106, [R, p, l, h, G] => (aea R (p.headD 0) l h G).f
 | 107, [R, p, l, h, G] => (aea R (p.headD 0) l h G).a
 | 108, [R, p] => bi6 R (p.headD 0)
 | 110, [R, p, l, h, G] => ((aea R (p.headD 0) l h G).l.length : Int) / 2
 | 111, [s, p, i, L, n, h1, G1, h, G] => if bti s (p.headD 0) (i.headD 0) L (n.headD 0) h1 G1 h G then 1 else 0
 | 112, [s, p, i, f, a, h, G] => if btj s (p.headD 0) (i.headD 0) (f.headD 0) (a.headD 0) h G then 1 else 0
 | 113, [s] => ptN s
 | 114, [s] => ptC s
 | 115, [l, i] => bsh l (i.headD 0)
 | 120, [k, c] => bq3 (k.headD 0) (c.headD 0)
 | 122, [s] => bqc s
 | 123, [b, q] => btn b (q.headD 0)
 | _, _ => 0
noncomputable def btd : Nat → List (List Int) → List Int
 | 206, [l, r] => ua l r
 | 207, [l, n, r] => bfo l (n.headD 0) r
 | 208, [l, n] => (obL l (n.headD 0)).tail
 | 210, [i, l, ws, k, n] => (pq (i.headD 0) l ws (k.headD 0) (n.headD 0)).l
 | 213, [l, k, n] => w8 l (k.headD 0) (n.headD 0)
 | 214, [b, i] => fj (b.headD 0) (i.headD 0)
 | 215, [b, i] => seqR (b.headD 0) (i.headD 0)
 | 218, [ws, i, a, b, r, p] => (cq ws (i.headD 0) a b (r.headD 0) (p.headD 0)).need
 | 219, [ws, i, a, b, r, p] => (cq ws (i.headD 0) a b (r.headD 0) (p.headD 0)).may
 | 220, [a, b, c] => du (a.headD 0) (b.headD 0) (c.headD 0)
 | 6, [s, p] => lg s (p.headD 0).toNat
 | 40, [c] => as4 (c.headD 0)
 | 44, [R, p, b, q] => (azm R (p.headD 0) b (q.headD 0)).b
 | 47, [s] => a3d s
 | 54, [G, s] => (vq G s).G
 | 57, [h, z] => (axu h (z.headD 0)).h
 | 58, [h, z] => (bnu h (z.headD 0)).h
 | 59, [h, s] => (avt h s).h
 | 60, [R, p, o, h, G] => (dg R (p.headD 0) (o.headD 0) h G).h
 | 61, [R, p, o, h, G] => (dg R (p.headD 0) (o.headD 0) h G).G
 | 65, [R, p, o, a, c, k, n, h, G] => (aa3 R (p.headD 0) (o.headD 0) (a.headD 0) (c.headD 0) (k.headD 0) (n.headD 0) h G).h
 | 66, [R, p, o, a, c, k, n, h, G] => (aa3 R (p.headD 0) (o.headD 0) (a.headD 0) (c.headD 0) (k.headD 0) (n.headD 0) h G).G
 | 70, [R, p, o, a, c, h, G] => (av2 R (p.headD 0) (o.headD 0) (a.headD 0) (c.headD 0) h G).h
 | 71, [R, p, o, a, c, h, G] => (av2 R (p.headD 0) (o.headD 0) (a.headD 0) (c.headD 0) h G).G
 | 74, [i, h, k, n] => (aef (i.headD 0) h (k.headD 0) (n.headD 0)).h
 | 91, [R, p, b] => (avz R (p.headD 0) b).b
 | 106, [R, p, l, h, G] => (aea R (p.headD 0) l h G).l
 | 107, [R, p, l, h, G] => (aea R (p.headD 0) l h G).h
 | 108, [R, p, l, h, G] => (aea R (p.headD 0) l h G).G
 | 109, [] => g0L
 | 110, [l, i, n] => bso l (i.headD 0) (n.headD 0)
 | 115, [c] => bo4 (c.headD 0)
 | 116, [l, y, i] => bq4 (l.drop (i.headD 0).toNat) (y.drop (i.headD 0).toNat)
 | 120, [k, s, p] => bip (k.headD 0) s (p.headD 0)
 | 121, [n] => bsn (n.headD 0)
 | 122, [s] => ax5 s
 | 123, [s] => ax4 s
 | 124, [s] => ax4 (ax5 s)
 | 125, [s] => bkh s
 | 126, [s] => syA s
 | _, _ => []
def bky (l : List Int) (s : Value) (x : Option Obj) : Prop := ∃ arr fz, x = some (.cells arr 132 fz) ∧ arr.toList = [.int .i64 (hL l), .int .i64 (hM l), .int .i64 (hU l), s, .slice none 0 0] ∧ fz.1 = fz.2
def ba3 (l : List Int) (c : Nat) (F : Nat → Prop) (H : Array Obj) : Prop := bj6 l ∧ ((hM l = 0 ∧ (F = fun x => x = c) ∧ bky l (.slice none 0 0) H[c]?) ∨
 ∃ b arr fz cap, b ≠ c ∧ (F = fun x => x = c ∨ x = b) ∧ bky l (.slice (some ⟨b, 0, none⟩) (hM l).toNat cap) H[c]? ∧ H[b]? = some (.cells arr 126 fz) ∧ fz.2 ≤ fz.1 ∧ (hM l).toNat ≤ cap ∧ cap ≤ arr.size)
def mm (z : Int) : Value := .iface (if z % 4 = 2 then 86 else if z % 4 = 3 then 121 else 101) (.pointer (some ⟨(z / 4).toNat, 0, none⟩))
def c8 (r : List Int) (o : Nat) : Int := 4 * (o : Int) + (if r.getD 0 0 = 4 then 0 else r.getD 0 0)
def al7 (z : Int) : Value := .int .i64 z
def wz (r : List Int) (o v : Nat) (H : Array Obj) : Prop :=
 (∃ a b c d arr fz, r = [2, a, b, c, d] ∧ H[o]? = some (.cells arr 88 fz) ∧ arr.toList = [al7 a, al7 b, al7 c, al7 d] ∧ fz.1 = fz.2 ∧ v = o) ∨
 (∃ bs arr fz, r = 3 :: bs ∧ (∀ x ∈ bs, 0 ≤ x ∧ x < 256) ∧ H[o]? = some (.cells arr 123 fz) ∧ arr.toList = [.string (aic bs)] ∧ fz.1 = fz.2 ∧ v = o) ∨
 (∃ ws arr fz n s cap, r = 4 :: ws ∧ ws.length = 2 * n ∧ H[o]? = some (.cells arr 103 fz) ∧ arr.toList = [.slice s n cap] ∧ fz.1 = fz.2 ∧
   ((n = 0 ∧ v = o) ∨ (0 < n ∧ s = some ⟨v, 0, none⟩ ∧ n ≤ cap ∧ v ≠ o ∧ ∃ arr2 t fz2, H[v]? = some (.cells arr2 t fz2) ∧ fz2.2 ≤ fz2.1 ∧ 2 * cap ≤ arr2.size ∧ arr2.toList.take (2 * n) = ws.map al7)))
def mw (os : List (Nat × Nat)) (x : Nat) : Prop := ∃ p ∈ os, x = p.1 ∨ x = p.2
def ko : List (List Int) → List (Nat × Nat) → Array Obj → Prop
 | [], [], _ => True
 | r :: L, p :: os, H => wz r p.1 p.2 H ∧ ¬ mw os p.1 ∧ ¬ mw os p.2 ∧ ko L os H
 | _, _, _ => False
def akx (lim : Int) (L : List (List Int)) (s : Value) (x : Option Obj) : Prop := ∃ arr fz, x = some (.cells arr 132 fz) ∧ arr.toList = [al7 lim, al7 L.length, al7 (gy L), s, .slice none 0 0] ∧ fz.1 = fz.2
def j4 (lim : Int) (L : List (List Int)) : Prop := 1 ≤ lim ∧ lim ≤ 50000 ∧ (L.length : Int) ≤ lim ∧ gy L ≤ 1048576
def a0w (l : List Int) (c : Nat) (F : Nat → Prop) (H : Array Obj) : Prop := ∃ lim L, l = lim :: ff L ∧ j4 lim L ∧
 ((L = [] ∧ (F = fun x => x = c) ∧ akx lim [] (.slice none 0 0) H[c]?) ∨
  ∃ os b arr fz cap, (F = fun x => x = c ∨ x = b ∨ mw os x) ∧ b ≠ c ∧ ¬ mw os c ∧ ¬ mw os b ∧ ko L os H ∧ akx lim L (.slice (some ⟨b, 0, none⟩) L.length cap) H[c]? ∧ L ≠ [] ∧
   H[b]? = some (.cells arr 126 fz) ∧ fz.2 ≤ fz.1 ∧ L.length ≤ cap ∧ cap ≤ arr.size ∧ arr.toList.take L.length = (List.zipWith c8 L (os.map (·.1))).map mm)
theorem afy {r : List Int} {o v : Nat} {H H' : Array Obj} (h1 : H'[o]? = H[o]?) (h2 : H'[v]? = H[v]?) (h : wz r o v H) : wz r o v H' := by
 unfold wz at h ⊢
 rw [h1, h2]; exact h
theorem lw {H H' : Array Obj} : ∀ {L : List (List Int)} {os : List (Nat × Nat)}, (∀ x, mw os x → H'[x]? = H[x]?) → ko L os H → ko L os H'
 | [], [], _, _ => trivial
 | [], _ :: _, _, h => h.elim
 | _ :: _, [], _, h => h.elim
 | r :: L, p :: os, hF, h => by
   obtain ⟨a, b, c, d⟩ := h
   exact ⟨afy (hF _ ⟨p, List.mem_cons_self .., .inl rfl⟩) (hF _ ⟨p, List.mem_cons_self .., .inr rfl⟩) a, b, c, lw (fun x ⟨q, q1, q2⟩ => hF x ⟨q, zS _ q1, q2⟩) d⟩
theorem atl {l : List Int} {c : Nat} {F : Nat → Prop} {H H' : Array Obj} (hF : ∀ b, F b → H'[b]? = H[b]?) (h : a0w l c F H) : a0w l c F H' := by
 obtain ⟨lim, L, e, ho, h⟩ := h
 refine ⟨lim, L, e, ho, ?_⟩
 rcases h with ⟨h0, rfl, hx⟩ | ⟨os, b, arr, fz, cap, rfl, h1, h2, h3, h4, h5, h6, h7, h8⟩
 ·exact .inl ⟨h0, rfl, by rw [hF c rfl]; exact hx⟩
 ·exact .inr ⟨os, b, arr, fz, cap, rfl, h1, h2, h3, lw (fun x hx => hF x (.inr (.inr hx))) h4, by rw [hF c (.inl rfl)]; exact h5, h6, by rw [hF b (.inr (.inl rfl))]; exact h7, h8⟩
def ajh (k : Nat) (l : List Int) (c : Nat) (F : Nat → Prop) (H : Array Obj) : Prop := (k = 1 ∧ ba3 l c F H) ∨ (k = 2 ∧ a0w l c F H)
theorem atm {l : List Int} {c : Nat} {F : Nat → Prop} {H H' : Array Obj} (hF : ∀ b, F b → H'[b]? = H[b]?) (h : ba3 l c F H) : ba3 l c F H' := by
 obtain ⟨hr, h⟩ := h
 refine ⟨hr, ?_⟩
 rcases h with ⟨h0, rfl, hx⟩ | ⟨b, arr, fz, cap, hb, rfl, hx, ha, h1, h2, h3⟩
 ·refine .inl ⟨h0, rfl, ?_⟩
  rw [hF c rfl]; exact hx
 ·refine .inr ⟨b, arr, fz, cap, hb, rfl, ?_, ?_, h1, h2, h3⟩
  ·rw [hF c (.inl rfl)]; exact hx
  ·rw [hF b (.inr rfl)]; exact ha
theorem atg {k : Nat} {l : List Int} {c : Nat} {F : Nat → Prop} {H H' : Array Obj} (hF : ∀ b, F b → H'[b]? = H[b]?) (h : ajh k l c F H) : ajh k l c F H' := by
 rcases h with ⟨hk, h⟩ | ⟨hk, h⟩
 ·exact .inl ⟨hk, atm hF h⟩
 ·exact .inr ⟨hk, atl hF h⟩
end Go.Ev
set_option linter.all false
namespace Go.Ev
def bh (len n : Nat) : List UInt8 := (List.range len).map fun i => UInt8.ofNat (n / 256 ^ (len - 1 - i))
def az (len n : Nat) : ByteArray := ⟨(bh len n).toArray⟩
theorem av (len n : Nat) : (bh len n).length = len := by simp [bh]
theorem dm (len n : Nat) : (az len n).size = len := by simp [az, ByteArray.size, bh]
theorem mf (len n i : Nat) (h : i < (bh len n).length) : (bh len n)[i] = UInt8.ofNat (n / 256 ^ (len - 1 - i)) := by simp [bh]
theorem o8 (n k : Nat) : Nat.shiftRight n (8 * k) = n / 256 ^ k := by
 show n >>> (8 * k) = _
 rw [Nat.shiftRight_eq_div_pow, Nat.pow_mul]
theorem bff (len n i : Nat) : sAt len n i = n / 256 ^ (len - 1 - i) % 256 := by
 unfold sAt; rw [o8]
theorem ay9 (len n i : Nat) : sAt len n i < 256 := by rw [bff]; exact Nat.mod_lt _ (by decide)
theorem abz (n : Nat) : UInt8.ofNat (n % 256) = UInt8.ofNat n := by
 apply UInt8.toNat_inj.1; simp
theorem mz (len n i : Nat) (h : i < (bh len n).length) : (bh len n)[i] = UInt8.ofNat (sAt len n i) := by
 rw [mf, bff, abz]
theorem v7 (len n i : Nat) : (UInt8.ofNat (sAt len n i)).toNat = sAt len n i := by
 have := ay9 len n i
 simp; omega
theorem sp (l1 n1 l2 n2 : Nat) (h : n2 < 256 ^ l2) : bh (l1 + l2) (n1 * 256 ^ l2 + n2) = bh l1 n1 ++ bh l2 n2 := by
 apply List.ext_getElem
 ·simp [av]
 ·intro i h1 h2
  rw [mf]
  rw [av] at h1
  rw [List.getElem_append]
  split
  ·rename_i h3
   rw [av] at h3
   rw [mf]
   have e : l1 + l2 - 1 - i = l2 + (l1 - 1 - i) := by omega
   rw [e, Nat.pow_add, ← Nat.div_div_eq_div_mul, Nat.mul_comm n1, Nat.mul_add_div (Nat.pow_pos (by decide)), Nat.div_eq_of_lt h, Nat.add_zero]
  ·rename_i h3
   rw [av] at h3
   rw [mf, av]
   have e : l1 + l2 - 1 - i = l2 - 1 - (i - l1) := by omega
   rw [e]
   have e2 : 256 ^ l2 = 256 ^ (l2 - 1 - (i - l1)) * 256 ^ (i - l1 + 1) := by rw [← Nat.pow_add]; congr 1; omega
   rw [e2, Nat.mul_left_comm, Nat.mul_add_div (Nat.pow_pos (by decide)), ← abz, Nat.pow_succ, ← Nat.mul_assoc, Nat.mul_comm _ 256, Nat.mul_add_mod, abz]
theorem a8u (l1 n1 l2 n2 : Nat) (h1 : n1 < 256 ^ l1) (h : n2 < 256 ^ l2) : n1 * 256 ^ l2 + n2 < 256 ^ (l1 + l2) := by
 rw [Nat.pow_add]
 have q1 : (n1 + 1) * 256 ^ l2 ≤ 256 ^ l1 * 256 ^ l2 := Nat.mul_le_mul_right _ h1
 rw [Nat.succ_mul] at q1
 omega
theorem ash (len n lo hi : Nat) (h1 : lo ≤ hi) (h2 : hi ≤ len) :
  bh (hi - lo) (Nat.shiftRight n (8 * (len - hi)) % 256 ^ (hi - lo)) = (bh len n).extract lo hi := by
 apply List.ext_getElem
 ·simp [av]; omega
 ·intro i h3 h4
  rw [av] at h3
  rw [mf]
  simp only [List.extract_eq_take_drop, List.getElem_take, List.getElem_drop]
  rw [mf, o8]
  have e2 : 256 ^ (hi - lo) = 256 ^ (hi - lo - 1 - i) * 256 ^ (i + 1) := by rw [← Nat.pow_add]; congr 1; omega
  rw [e2, Nat.mod_mul_right_div_self, ← abz, Nat.pow_succ, Nat.mul_comm (256 ^ i) 256, Nat.mod_mul_right_mod, abz, Nat.div_div_eq_div_mul, ← Nat.pow_add]
  congr 2
  congr 1
  omega
theorem vg (len n : Nat) : bh (len + 1) n = bh len (n / 256) ++ [UInt8.ofNat n] := by
 have h := sp len (n / 256) 1 (n % 256) (by simpa using Nat.mod_lt _ (by decide))
 rw [Nat.pow_one, Nat.div_add_mod' n 256] at h
 rw [h]
 simp [bh, abz]
theorem asi : ∀ (l n n' : Nat), n < 256 ^ l → n' < 256 ^ l → bh l n = bh l n' → n = n' := by
 intro l
 induction l with
 | zero => intro n n' h h' _; simp at h h'; omega
 | succ l ih =>
   intro n n' h h' e
   rw [vg, vg] at e
   have ⟨e1, e2⟩ := List.append_inj' e rfl
   have h3 := ih (n / 256) (n' / 256) (by rw [Nat.pow_succ] at h; exact Nat.div_lt_of_lt_mul (by omega)) (by rw [Nat.pow_succ] at h'; exact Nat.div_lt_of_lt_mul (by omega)) e1
   simp only [List.cons.injEq, and_true] at e2
   have h4 := congrArg UInt8.toNat e2
   simp at h4
   omega
theorem ayx (l : List UInt8) : ∀ (b : UInt8) (a : Nat), nl (l ++ [b]) a = nl l a * 256 + b.toNat := by
 induction l with
 | nil => intro b a; rfl
 | cons x l ih => intro b a; show nl (l ++ [b]) (a * 256 + x.toNat) = nl l (a * 256 + x.toNat) * 256 + b.toNat; exact ih b _
theorem abs : ∀ (n : Nat) (l : List UInt8), l.length = n → nl l 0 < 256 ^ n ∧ bh n (nl l 0) = l := by
 intro n
 induction n with
 | zero => intro l h; obtain rfl := List.length_eq_zero_iff.1 h; exact ⟨by decide, rfl⟩
 | succ n ih =>
   intro l h
   obtain ⟨l', b, rfl⟩ : ∃ l' b, l = l' ++ [b] := ⟨l.dropLast, l.getLast (by intro e; simp [e] at h), (List.dropLast_concat_getLast _).symm⟩
   have ⟨h1, h2⟩ := ih l' (by simpa using h)
   rw [ayx]
   have hb := UInt8.toNat_lt b
   constructor
   ·rw [Nat.pow_succ]; omega
   ·rw [vg]
    have e : (nl l' 0 * 256 + b.toNat) / 256 = nl l' 0 := by omega
    rw [e, h2]
    congr 2
    rw [← abz, show (nl l' 0 * 256 + b.toNat) % 256 = b.toNat by omega]
    simp
theorem ye (s : ByteArray) : az s.data.toList.length (nl s.data.toList 0) = s := by
 unfold az
 rw [(abs _ _ rfl).2]
theorem apl (l : List UInt8) : nl l 0 < 256 ^ l.length := (abs _ l rfl).1
theorem bis (l n l' n' : Nat) (h : n < 256 ^ l) (h' : n' < 256 ^ l') : sEq l n l' n' = decide (az l n = az l' n') := by
 unfold sEq
 rw [ac]
 by_cases e : l = l'
 ·subst e
  rw [if_pos (Nat.beq_refl _)]
  by_cases e2 : n = n'
  ·subst e2; simp
  ·rw [show Nat.beq n n' = false from Bool.eq_false_iff.2 fun h => e2 (zW h)]
   symm
   rw [decide_eq_false_iff_not]
   intro e3
   unfold az at e3
   have e4 : bh l n = bh l n' := by simpa using e3
   exact e2 (asi l n n' h h' e4)
 ·rw [if_neg (fun h => e (zW h))]
  symm
  rw [decide_eq_false_iff_not]
  intro e3
  have := congrArg ByteArray.size e3
  rw [dm, dm] at this
  exact e this
end Go.Ev
set_option linter.all false
namespace Go.Ev
structure Env where
 blk : K → Option Nat
 sz : K → Nat
 ft : K → Nat → Prop := fun _ _ => False
instance : CoeFun Env (fun _ => K → Option Nat) := ⟨Env.blk⟩
def SlOk (ρ : Env) (b : K) (o cap cap' : Nat) : Option Nat → Prop
 | none => cap' = cap
 | some es => o + cap' * es ≤ ρ.sz b
def FnRel (ρ : Env) : Fn → Fn → Prop
 | .yield n, f => ∃ c, ρ (K.of n) = some c ∧ f = .yield c
 | g, f => f = g
class Gv where
 σ : Nat → List Int
def ba (l : List Int) : ByteArray := ⟨(l.map fun x => UInt8.ofNat x.toNat).toArray⟩
def ia (l : List Int) : Prop := ∀ x ∈ l, 0 ≤ x ∧ x < 256
def auj : Nat → List Int → List (List Int × Int)
 | 0, _ => []
 | _ + 1, [] => []
 | _ + 1, [_] => []
 | f + 1, n :: k :: l => (l.take k.toNat, n) :: auj f (l.drop k.toNat)
def abp (l : List Int) : List (List Int × Int) := (auj l.length l).reverse
def w7 (op : Nat) (k : IntKind) (a b : Int) : Int := match op with
 | 0 => k.wrap (a + b)
 | 1 => k.wrap (a - b)
 | 2 => k.wrap (a * b)
 | 3 => k.wrap (a.tdiv b)
 | 4 => a.tmod b
 | 5 => a % b
 | 6 => a + b
 | 7 => a * b
 | 8 => (df .and k a b).getD 0
 | 9 => (df .or k a b).getD 0
 | 10 => (df .xor k a b).getD 0
 | 11 => k.wrap (a * 2 ^ (min b.toNat k.bits))
 | 12 => a.fdiv (2 ^ (min b.toNat k.bits))
 | 13 => (df .andNot k a b).getD 0
 | _ => 0
mutual
noncomputable def SE.eval (σ : Nat → List Int) : SE → Int
 | .v i => (σ i).headD 0
 | .c n => n
 | .bin op k a b => w7 op k (a.eval σ) (b.eval σ)
 | .len g => ((g.eval σ).length : Int)
 | .rd g e => (g.eval σ).getD (e.eval σ).toNat 0
 | .dr g e => ((Utf8.decode (ba (g.eval σ)) (e.eval σ).toNat).1 : Int)
 | .dw g e => ((Utf8.decode (ba (g.eval σ)) (e.eval σ).toNat).2 : Int)
 | .eqg g h => if g.eval σ = h.eval σ then 1 else 0
 | .mhas m g => if ((abp (m.eval σ)).lookup (g.eval σ)).isSome then 1 else 0
 | .mget m g => ((abp (m.eval σ)).lookup (g.eval σ)).getD 0
 | .app f l => bnj f (l.eval σ)
noncomputable def GE.eval (σ : Nat → List Int) : GE → List Int
 | .s i => σ i
 | .nil => []
 | .one e => [e.eval σ]
 | .cat a b => a.eval σ ++ b.eval σ
 | .lit l n => (bh l n).map fun b => (b.toNat : Int)
 | .cut g a b => ((g.eval σ).take (b.eval σ).toNat).drop (a.eval σ).toNat
 | .enc e => (Utf8.encode (e.eval σ)).data.toList.map fun b => (b.toNat : Int)
 | .app f l => btd f (l.eval σ)
noncomputable def AL.eval (σ : Nat → List Int) : AL → List (List Int)
 | .nil => []
 | .i e l => [e.eval σ] :: l.eval σ
 | .g g l => g.eval σ :: l.eval σ
end
def arL : List (Nat × Nat × Int × Int) := []
noncomputable def bn1 (s : ByteArray) : Int × Int × Int := match arL.find? fun p => decide (az p.1 p.2.1 = s) with
 | some p => (p.2.2.1, p.2.2.2, 1)
 | none => (0, 0, 0)
noncomputable def amb (σ : Nat → List Int) : ByteArray := az ((σ 13).headD 0).toNat ((σ 14).headD 0).toNat
def bse (σ : Nat → List Int) : Prop := bn1 (amb σ) = ((σ 3).headD 0, (σ 4).headD 0, (σ 5).headD 0)
def SxRel (σ : Nat → List Int) (c : Nat) (e : SE) (A : List (Nat × Nat)) (v : Value) : Prop := match c with
 | 0 => v = .string (amb σ) ∧ ∀ p ∈ A, amb σ ≠ az p.1 p.2
 | 1 => v = .bool (decide (e.eval σ ≠ 0))
 | _ => v = .string (amb σ) ∧ bse σ
def SA.holds (σ : Nat → List Int) : SA → Prop
 | .mk true a b r => decide (a.eval σ < b.eval σ) = r
 | .mk false a b r => decide (a.eval σ = b.eval σ) = r
def SAll (σ : Nat → List Int) (A : List SA) : Prop := ∀ x ∈ A, x.holds σ
variable [Gv]
def GVRel (ρ : Env) (x : GV) (v : Value) : Prop := match x with
 | .str g A => SAll Gv.σ A ∧ v = .string (ba (g.eval Gv.σ)) ∧ ia (g.eval Gv.σ)
 | .sl b es n A => SAll Gv.σ A ∧ ∃ c cap', ρ b = some c ∧ 0 ≤ n.eval Gv.σ ∧ (n.eval Gv.σ).toNat ≤ cap' ∧ cap' * es ≤ ρ.sz b ∧ v = .slice (some ⟨c, 0, none⟩) (n.eval Gv.σ).toNat cap'
 | .ptr b es i off A => SAll Gv.σ A ∧ ∃ c, ρ b = some c ∧ 0 ≤ i.eval Gv.σ ∧ v = .pointer (some ⟨c, es * (i.eval Gv.σ).toNat + off, none⟩)
 | .sr b o n A => SAll Gv.σ A ∧ ∃ c cap', ρ b = some c ∧ 0 ≤ n.eval Gv.σ ∧ (n.eval Gv.σ).toNat ≤ cap' ∧ v = .slice (some ⟨c, (o.eval Gv.σ).toNat, none⟩) (n.eval Gv.σ).toNat cap'
 | .pr b o i A => SAll Gv.σ A ∧ ∃ c, ρ b = some c ∧ 0 ≤ i.eval Gv.σ ∧ v = .pointer (some ⟨c, (o.eval Gv.σ).toNat + (i.eval Gv.σ).toNat, none⟩)
def MRel : List (List Int × Int) → List MapEntry → Prop
 | [], l => l = []
 | e :: es, l => ∃ m ms, l = m :: ms ∧ m.key = .string (ba e.1) ∧ ia e.1 ∧ m.val = .int .i64 e.2 ∧ MRel es ms
def GORel (o : GO) (x0 : Option Obj) : Prop := match o with
 | .gh t ks n g => ∃ arr fz, x0 = some (.cells arr t fz) ∧ fz.2 ≤ fz.1 ∧ 0 ≤ n.eval Gv.σ ∧ (g.eval Gv.σ).length = ks.length * (n.eval Gv.σ).toNat ∧ (g.eval Gv.σ).length ≤ arr.size ∧ (ks = [.u8] → ia (g.eval Gv.σ)) ∧
    ∀ (i : Nat) (h : i < (g.eval Gv.σ).length), ∃ k, ks[i % ks.length]? = some k ∧ arr[i]? = some (.int k (g.eval Gv.σ)[i])
 | .junk t => ∃ arr fz, x0 = some (.cells arr t fz) ∧ fz.2 ≤ fz.1
 | .gmap m => ∃ entries clock, x0 = some (.map entries clock) ∧ MRel (abp (m.eval Gv.σ)) entries.toList
 | .lh _ _ => ∃ y, x0 = some y
 | .rh o n g => ∃ arr t fz, x0 = some (.cells arr t fz) ∧ 0 ≤ n.eval Gv.σ ∧ (g.eval Gv.σ).length = (n.eval Gv.σ).toNat ∧
    ∀ (i : Nat) (h : i < (g.eval Gv.σ).length), arr[(o.eval Gv.σ).toNat + i]? = some (.int .i64 (g.eval Gv.σ)[i])
 | .rb o n g => ∃ arr t fz, x0 = some (.cells arr t fz) ∧ 0 ≤ n.eval Gv.σ ∧ (g.eval Gv.σ).length = (n.eval Gv.σ).toNat ∧
    ∀ (i : Nat) (h : i < (g.eval Gv.σ).length), arr[(o.eval Gv.σ).toNat + i]? = some (.bool (decide ((g.eval Gv.σ)[i] ≠ 0)))
 | .iter g pos A => SAll Gv.σ A ∧ x0 = some (.stringIter (ba (g.eval Gv.σ)) (pos.eval Gv.σ).toNat) ∧ 0 ≤ pos.eval Gv.σ ∧ ia (g.eval Gv.σ)
mutual
def VRel (ρ : Env) : AV → Value → Prop
 | .bool b, v => v = .bool b
 | .int k n, v => v = .int k n
 | .str l n, v => n < 256 ^ l ∧ v = .string (az l n)
 | .nilPtr, v => v = .pointer none
 | .ptr b o, v => ∃ c, ρ b = some c ∧ v = .pointer (some ⟨c, o, none⟩)
 | .nilSlice, v => v = .slice none 0 0
 | .slice b o len cap ex, v => ∃ c cap', ρ b = some c ∧ (len ≤ cap ∧ cap ≤ cap') ∧ SlOk ρ b o cap cap' ex ∧ v = .slice (some ⟨c, o, none⟩) len cap'
 | .nilMap, v => v = .map none
 | .map b, v => ∃ c, ρ b = some c ∧ v = .map (some c)
 | .func fn x y, v => ∃ fn' x' y', v = .func fn' x' y' ∧ FnRel ρ fn fn' ∧ VRels ρ x x'.toList ∧ VRels ρ y y'.toList
 | .nilFunc, v => v = .nilFunc
 | .iface t a, v => ∃ v', v = .iface t v' ∧ VRel ρ a v'
 | .nilIface, v => v = .nilIface
 | .agg xs, v => ∃ ys, v = .agg ys ∧ VRels ρ xs ys.toList
 | .tuple xs, v => ∃ ys, v = .tuple ys ∧ VRels ρ xs ys.toList
 | .esl, v => ∃ p cap', v = .slice (some p) 0 cap'
 | .wsl b kb d n, v => ∃ c c' cap', ρ b = some c ∧ ρ kb = some c' ∧ (1 ≤ n ∧ n ≤ cap' ∧ cap' ≤ 9223372036854775807 ∧ ρ.sz kb + d + cap' ≤ ρ.sz b) ∧ v = .slice (some ⟨c, ρ.sz kb + d, none⟩) n cap'
 | .wse b, v => ∃ c p cap', ρ b = some c ∧ (cap' ≤ 9223372036854775807 ∧ p + cap' ≤ ρ.sz b) ∧ v = .slice (some ⟨c, p, none⟩) 0 cap'
 | .wptr b kb i, v => ∃ c c', ρ b = some c ∧ ρ kb = some c' ∧ v = .pointer (some ⟨c, ρ.sz kb + i, none⟩)
 | .sym k e A, v => SAll Gv.σ A ∧ v = .int k (e.eval Gv.σ)
 | .sx c e A, v => SxRel Gv.σ c e A v
 | .gv x, v => GVRel ρ x v
 | .top, _ => True
def VRels (ρ : Env) : List AV → List Value → Prop
 | [], l => l = []
 | a :: r, l => ∃ v vs, l = v :: vs ∧ VRel ρ a v ∧ VRels ρ r vs
end
def Env.le (ρ ρ' : Env) : Prop := ∀ k c, ρ k = some c → ρ' k = some c ∧ ρ'.sz k = ρ.sz k
theorem Env.le_refl (ρ : Env) : ρ.le ρ := fun _ _ h => ⟨h, rfl⟩
theorem Env.le_trans {a b c : Env} (h : a.le b) (h' : b.le c) : a.le c := fun k x e => ⟨(h' k x (h k x e).1).1, ((h' k x (h k x e).1).2).trans (h k x e).2⟩
theorem SlOk.mono {ρ ρ' : Env} {b : K} {o cap cap' : Nat} {ex : Option Nat} (h : ρ'.sz b = ρ.sz b) (e : SlOk ρ b o cap cap' ex) : SlOk ρ' b o cap cap' ex := by
 cases ex with
 | none => exact e
 | some es => simp only [SlOk] at e ⊢; rw [h]; exact e
theorem FnRel.mono {ρ ρ' : Env} (h : ρ.le ρ') : ∀ {f g : Fn}, FnRel ρ f g → FnRel ρ' f g := by
 intro f g e
 cases f <;> first | exact e | (obtain ⟨c, h1, h2⟩ := e; exact ⟨c, (h _ _ h1).1, h2⟩)
theorem FnRel.plain {ρ : Env} {f g : Fn} (h : ∀ n, f ≠ .yield n) (e : FnRel ρ f g) : g = f := by
 cases f <;> first | exact e | exact absurd rfl (h _)
theorem FnRel.refl {ρ : Env} {f : Fn} (h : ∀ n, f ≠ .yield n) : FnRel ρ f f := by
 cases f <;> first | rfl | exact absurd rfl (h _)
theorem GVRel.mono {ρ ρ' : Env} (h : ρ.le ρ') {x : GV} {v : Value} (e : GVRel ρ x v) : GVRel ρ' x v := by
 cases x with
 | str => exact e
 | sl b es n A => obtain ⟨h0, c, cap', h1, h2, h3, h4, h5⟩ := e; exact ⟨h0, c, cap', (h _ _ h1).1, h2, h3, by rw [(h _ _ h1).2]; exact h4, h5⟩
 | ptr b es i off A => obtain ⟨h0, c, h1, h2⟩ := e; exact ⟨h0, c, (h _ _ h1).1, h2⟩
 | sr b o n A => obtain ⟨h0, c, cap', h1, h2, h3, h4⟩ := e; exact ⟨h0, c, cap', (h _ _ h1).1, h2, h3, h4⟩
 | pr b o i A => obtain ⟨h0, c, h1, h2⟩ := e; exact ⟨h0, c, (h _ _ h1).1, h2⟩
mutual
theorem VRel.mono {ρ ρ' : Env} (h : ρ.le ρ') : ∀ (a : AV) (v : Value), VRel ρ a v → VRel ρ' a v
 | .bool _, _, e | .int _ _, _, e | .str _ _, _, e | .nilPtr, _, e | .nilSlice, _, e | .nilMap, _, e | .nilFunc, _, e | .nilIface, _, e | .esl, _, e | .top, _, e => by simpa only [VRel] using e
 | .ptr _ _, _, e => by simp only [VRel] at e ⊢; obtain ⟨c, h1, h2⟩ := e; exact ⟨c, (h _ _ h1).1, h2⟩
 | .slice _ _ _ _ _, _, e => by simp only [VRel] at e ⊢; obtain ⟨c, cap', h1, h2, h3, h4⟩ := e; exact ⟨c, cap', (h _ _ h1).1, h2, SlOk.mono (h _ _ h1).2 h3, h4⟩
 | .map _, _, e => by simp only [VRel] at e ⊢; obtain ⟨c, h1, h2⟩ := e; exact ⟨c, (h _ _ h1).1, h2⟩
 | .wsl _ _ _ _, _, e => by simp only [VRel] at e ⊢; obtain ⟨c, c', cap', h1, h2, h3, h4⟩ := e; exact ⟨c, c', cap', (h _ _ h1).1, (h _ _ h2).1, by rw [(h _ _ h1).2, (h _ _ h2).2]; exact h3, by rw [(h _ _ h2).2]; exact h4⟩
 | .wse _, _, e => by simp only [VRel] at e ⊢; obtain ⟨c, p, cap', h1, h3, h4⟩ := e; exact ⟨c, p, cap', (h _ _ h1).1, by rw [(h _ _ h1).2]; exact h3, h4⟩
 | .sym _ _ _, _, e => by simpa only [VRel] using e
 | .sx _ _ _, _, e => by simpa only [VRel] using e
 | .gv _, _, e => by simp only [VRel] at e ⊢; exact e.mono h
 | .wptr _ _ _, _, e => by simp only [VRel] at e ⊢; obtain ⟨c, c', h1, h2, h4⟩ := e; exact ⟨c, c', (h _ _ h1).1, (h _ _ h2).1, by rw [(h _ _ h2).2]; exact h4⟩
 | .func _ x y, _, e => by simp only [VRel] at e ⊢; obtain ⟨f', x', y', h1, h0, h2, h3⟩ := e; exact ⟨f', x', y', h1, h0.mono h, VRels.mono h x _ h2, VRels.mono h y _ h3⟩
 | .iface _ a, _, e => by simp only [VRel] at e ⊢; obtain ⟨v', h1, h2⟩ := e; exact ⟨v', h1, VRel.mono h a _ h2⟩
 | .agg xs, _, e => by simp only [VRel] at e ⊢; obtain ⟨ys, h1, h2⟩ := e; exact ⟨ys, h1, VRels.mono h xs _ h2⟩
 | .tuple xs, _, e => by simp only [VRel] at e ⊢; obtain ⟨ys, h1, h2⟩ := e; exact ⟨ys, h1, VRels.mono h xs _ h2⟩
theorem VRels.mono {ρ ρ' : Env} (h : ρ.le ρ') : ∀ (l : List AV) (vs : List Value), VRels ρ l vs → VRels ρ' l vs
 | [], _, e => by simpa only [VRels] using e
 | a :: l, _, e => by simp only [VRels] at e ⊢; obtain ⟨v, vs, h1, h2, h3⟩ := e; exact ⟨v, vs, h1, VRel.mono h a _ h2, VRels.mono h l _ h3⟩
end
theorem VRels.length {ρ : Env} : ∀ (l : List AV) (vs : List Value), VRels ρ l vs → vs.length = l.length
 | [], _, e => by simp only [VRels] at e; subst e; rfl
 | a :: l, _, e => by simp only [VRels] at e; obtain ⟨v, vs, rfl, _, h3⟩ := e; simp [VRels.length l vs h3]
theorem VRels.get {ρ : Env} : ∀ (l : List AV) (vs : List Value), VRels ρ l vs → ∀ (i : Nat) (h : i < l.length), ∃ v, vs[i]? = some v ∧ VRel ρ l[i] v
 | [], _, _, i, h => by simp at h
 | a :: l, _, e, i, h => by
   simp only [VRels] at e; obtain ⟨v, vs, rfl, h2, h3⟩ := e
   cases i with
   | zero => exact ⟨v, rfl, h2⟩
   | succ i => exact VRels.get l vs h3 i (by simpa using h)
theorem VRels.of_get {ρ : Env} : ∀ (l : List AV) (vs : List Value), vs.length = l.length → (∀ (i : Nat) (h : i < l.length), ∃ v, vs[i]? = some v ∧ VRel ρ l[i] v) → VRels ρ l vs
 | [], [], _, _ => by simp only [VRels]
 | [], _ :: _, h, _ => by simp at h
 | _ :: _, [], h, _ => by simp at h
 | a :: l, v :: vs, h, e => by
   simp only [VRels]
   obtain ⟨v', h1, h2⟩ := e 0 (by simp)
   simp at h1; subst h1
   refine ⟨v, vs, rfl, by simpa using h2, VRels.of_get l vs (by simpa using h) fun i hi => ?_⟩
   obtain ⟨v', h1, h2⟩ := e (i + 1) (by simpa using hi)
   exact ⟨v', by simpa using h1, by simpa using h2⟩
theorem VRels.append {ρ : Env} : ∀ (l l' : List AV) (vs vs' : List Value), VRels ρ l vs → VRels ρ l' vs' → VRels ρ (l ++ l') (vs ++ vs')
 | [], _, _, _, h, h' => by simp only [VRels] at h; subst h; exact h'
 | a :: l, l', _, vs', h, h' => by
   simp only [VRels] at h; obtain ⟨v, vs, rfl, h2, h3⟩ := h
   simp only [zK, VRels]
   exact ⟨v, vs ++ vs', rfl, h2, VRels.append l l' vs vs' h3 h'⟩
theorem SxRel.shape {σ : Nat → List Int} {c : Nat} {e : SE} {A : List (Nat × Nat)} {v : Value} (h : SxRel σ c e A v) : (∃ s, v = .string s) ∨ ∃ b, v = .bool b := by
 unfold SxRel at h
 split at h
 ·exact .inl ⟨_, h.1⟩
 ·exact .inr ⟨_, h⟩
 ·exact .inl ⟨_, h.1⟩
theorem GVRel.shape {ρ : Env} {x : GV} {v : Value} (h : GVRel ρ x v) : (∃ s, v = .string s) ∨ (∃ p l c, v = .slice (some p) l c) ∨ ∃ p, v = .pointer (some p) := by
 cases x with
 | str => exact .inl ⟨_, h.2.1⟩
 | sl => obtain ⟨_, c, cap', _, _, _, _, e⟩ := h; exact .inr (.inl ⟨_, _, _, e⟩)
 | ptr => obtain ⟨_, c, _, _, e⟩ := h; exact .inr (.inr ⟨_, e⟩)
 | sr => obtain ⟨_, c, cap', _, _, _, e⟩ := h; exact .inr (.inl ⟨_, _, _, e⟩)
 | pr => obtain ⟨_, c, _, _, e⟩ := h; exact .inr (.inr ⟨_, e⟩)
def a8k (ρ : Env) (size : Nat) (c : Cells) (arr : Array Value) : Prop := ∀ i, i < size → ∃ v, arr[i]? = some v ∧ VRel ρ (vj c i) v
def ERel (ρ : Env) : List (AV × AV) → List MapEntry → Prop
 | [], l => l = []
 | e :: es, l => ∃ m ms, l = m :: ms ∧ VRel ρ e.1 m.key ∧ VRel ρ e.2 m.val ∧ ERel ρ es ms
theorem ERel.mono {ρ ρ' : Env} (h : ρ.le ρ') : ∀ es l, ERel ρ es l → ERel ρ' es l
 | [], _, e => e
 | _ :: es, _, ⟨m, ms, h1, h2, h3, h4⟩ => ⟨m, ms, h1, VRel.mono h _ _ h2, VRel.mono h _ _ h3, ERel.mono h es ms h4⟩
inductive CSub : Code → Code → Prop
 | refl (c : Code) : CSub c c
 | seqL {a b c : Code} : CSub (.seq a b) c → CSub a c
 | seqR {a b c : Code} : CSub (.seq a b) c → CSub b c
 | condT {v : Operand} {a b c : Code} : CSub (.cond v a b) c → CSub a c
 | condF {v : Operand} {a b c : Code} : CSub (.cond v a b) c → CSub b c
 | block {id : Nat} {a c : Code} : CSub (.block id a) c → CSub a c
 | loop {a c : Code} : CSub (.loop a) c → CSub a c
def InF (f : FuncId) (c : Code) : Prop := ∃ fn x, ve f = some (fn, x) ∧ CSub c x
omit [Gv] in
theorem InF.sub {f : FuncId} {c d : Code} (h : InF f c) (g : ∀ x, CSub c x → CSub d x) : InF f d := let ⟨fn, x, h1, h2⟩ := h; ⟨fn, x, h1, g x h2⟩
def GPs (ρ : Env) (arr : Array Value) (ps : List GP) : Prop := ∀ e t k, GP.mk e t k ∈ ps → 0 ≤ e.eval Gv.σ ∧ ∃ c, ρ k = some c ∧ arr[(e.eval Gv.σ).toNat]? = some (.iface t (.pointer (some ⟨c, 0, none⟩)))
theorem GPs.mono {ρ ρ' : Env} (h : ρ.le ρ') {arr : Array Value} {ps : List GP} (e : GPs ρ arr ps) : GPs ρ' arr ps := fun x t k hm => let ⟨h0, c, h1, h2⟩ := e x t k hm; ⟨h0, c, (h _ _ h1).1, h2⟩
def bgk (t : Nat) (arr : Array Value) : Prop := ∀ g cs, t = g + 1 → LE.mk g cs ∈ laidL → ∀ ρ, VRels ρ cs arr.toList
def ORel (ρ : Env) (o : AObj) (x0 : Option Obj) : Prop :=
 match o with
 | .none => True
 | .cells t size ext fl fh c => ∃ arr fz, x0 = some (.cells arr t fz) ∧ size ≤ arr.size ∧ (ext = false → arr.size = size) ∧ size ≤ lq c ∧ (fz.1 ≤ fz.2 ∧ ∀ i, fz.1 ≤ i → i < fz.2 → fl ≤ i ∧ i < fh) ∧ a8k ρ size c arr
 | .ro t size c => ∃ arr t' fz, x0 = some (.cells arr t' fz) ∧ arr.size = size ∧ size ≤ lq c ∧ a8k ρ size c arr ∧ bgk t arr
 | .map es => ∃ entries clock, x0 = some (.map entries clock) ∧ ERel ρ es entries.toList
 | .pk t len n fl fh => ∃ arr fz, x0 = some (.cells arr t fz) ∧ len ≤ arr.size ∧ (fz.1 ≤ fz.2 ∧ ∀ i, fz.1 ≤ i → i < fz.2 → fl ≤ i ∧ i < fh) ∧ n < 256 ^ len ∧ ∀ (i : Nat) (b : UInt8), (bh len n)[i]? = some b → arr[i]? = some (Value.int .u8 b.toNat)
 | .umap es => ∃ entries clock l, x0 = some (.map entries clock) ∧ l.Perm es ∧ ERel ρ l entries.toList
 | .strIter len n pos => x0 = some (.stringIter (az len n) pos) ∧ n < 256 ^ len
 | .loop st pend fn nt τ ps x y kd => ∃ tmps c, x0 = some (.loop { state := st, pending := pend, fn, tmps, params := ps.toArray, assign := x, body := y, defers := c }) ∧ ρ kd = some c ∧ tmps.size = nt ∧ nt ≤ 512 ∧ (∀ t, VRel ρ (ii t τ) (tmps.getD t undef)) ∧ ∃ g, InF fn (.rangeFunc g ps.toArray x y)
 | .win kb l => ∃ arr t fz c', x0 = some (.cells arr t fz) ∧ ρ kb = some c' ∧ fz.2 ≤ fz.1 ∧ ∀ (i : Nat) (h : i < l.length), ∃ v, arr[ρ.sz kb + i]? = some v ∧ VRel ρ l[i] v
 | .deferred (some []) => x0 = some (.deferred (some []))
 | .deferred none => x0 = some (.deferred none)
 | .deferred _ => False
 | .gob g => GORel g x0
 | .gp _ t n g ps => ∃ arr fz, x0 = some (.cells arr t fz) ∧ fz.2 ≤ fz.1 ∧ 0 ≤ n.eval Gv.σ ∧ ((g.eval Gv.σ).length : Int) ≤ n.eval Gv.σ ∧ (n.eval Gv.σ).toNat ≤ arr.size ∧ (∀ (i : Nat) (h : i < (g.eval Gv.σ).length), arr[i]? = some (mm (g.eval Gv.σ)[i])) ∧ GPs ρ arr ps
theorem ORel.mono {ρ ρ' : Env} (h : ρ.le ρ') {o : AObj} {x : Option Obj} (e : ORel ρ o x) : ORel ρ' o x := by
 cases o with
 | none => trivial
 | cells t size ext fl fh c =>
   obtain ⟨arr, fz, h1, h2, h3, h4, h5, h6⟩ := e
   exact ⟨arr, fz, h1, h2, h3, h4, h5, fun i hi => let ⟨v, a, b⟩ := h6 i hi; ⟨v, a, VRel.mono h _ _ b⟩⟩
 | ro t size c =>
   obtain ⟨arr, t', fz, h1, h2, h3, h6, h7⟩ := e
   exact ⟨arr, t', fz, h1, h2, h3, fun i hi => let ⟨v, a, b⟩ := h6 i hi; ⟨v, a, VRel.mono h _ _ b⟩, h7⟩
 | map es => obtain ⟨a, b, h1, h2⟩ := e; exact ⟨a, b, h1, ERel.mono h _ _ h2⟩
 | umap es => obtain ⟨a, b, l, h1, h2, h3⟩ := e; exact ⟨a, b, l, h1, h2, ERel.mono h _ _ h3⟩
 | pk => exact e
 | gob => exact e
 | gp => obtain ⟨arr, fz, h1, h2, h3, h4, h5, h6, h7⟩ := e; exact ⟨arr, fz, h1, h2, h3, h4, h5, h6, h7.mono h⟩
 | strIter => exact e
 | loop st pend fn nt τ ps x y kd => obtain ⟨tmps, c, h1, h2, h3, h4, h5, h6⟩ := e; exact ⟨tmps, c, h1, (h _ _ h2).1, h3, h4, fun t => VRel.mono h _ _ (h5 t), h6⟩
 | win kb l =>
   obtain ⟨arr, t, fz, c', h1, h2, h3, h4⟩ := e
   exact ⟨arr, t, fz, c', h1, (h _ _ h2).1, h3, fun i hi => let ⟨v, a, b⟩ := h4 i hi; ⟨v, by rw [(h _ _ h2).2]; exact a, VRel.mono h _ _ b⟩⟩
 | deferred ds =>
   cases ds with
   | none => exact e
   | some l => cases l with
     | nil => exact e
     | cons _ _ => exact e.elim
theorem GORel.some {o : GO} {x : Option Obj} (e : GORel o x) : ∃ y, x = some y := by
 cases o with
 | gh => obtain ⟨_, _, h, _⟩ := e; exact ⟨_, h⟩
 | junk => obtain ⟨_, _, h, _⟩ := e; exact ⟨_, h⟩
 | gmap => obtain ⟨_, _, h, _⟩ := e; exact ⟨_, h⟩
 | lh => exact e
 | rh => obtain ⟨_, _, _, h, _⟩ := e; exact ⟨_, h⟩
 | rb => obtain ⟨_, _, _, h, _⟩ := e; exact ⟨_, h⟩
 | iter => exact ⟨_, e.2.1⟩
theorem ORel.some {ρ : Env} {o : AObj} {x : Option Obj} (e : ORel ρ o x) (h : o ≠ .none) : ∃ y, x = some y := by
 cases o with
 | none => exact absurd rfl h
 | cells => obtain ⟨arr, fz, h1, _⟩ := e; exact ⟨_, h1⟩
 | ro => obtain ⟨arr, t', fz, h1, _⟩ := e; exact ⟨_, h1⟩
 | map => obtain ⟨a, b, h1, _⟩ := e; exact ⟨_, h1⟩
 | umap es => obtain ⟨a, b, l, h1, _⟩ := e; exact ⟨_, h1⟩
 | pk => obtain ⟨arr, fz, h1, _⟩ := e; exact ⟨_, h1⟩
 | gob => exact GORel.some e
 | gp => obtain ⟨arr, fz, h1, _⟩ := e; exact ⟨_, h1⟩
 | strIter => exact ⟨_, e.1⟩
 | loop st pend fn nt τ ps x y kd => obtain ⟨tmps, c, h1, _⟩ := e; exact ⟨_, h1⟩
 | win kb l => obtain ⟨arr, t, fz, c', h1, _⟩ := e; exact ⟨_, h1⟩
 | deferred ds =>
   cases ds with
   | none => exact ⟨_, e⟩
   | some l => cases l with
     | nil => exact ⟨_, e⟩
     | cons _ _ => exact e.elim
def W.h : W → H4 | .mk h _ => h
def W.nx : W → K | .mk _ nx => nx
@[simp] theorem W.h_mk (h : H4) (nx : K) : (W.mk h nx).h = h := rfl
@[simp] theorem W.nx_mk (h : H4) (nx : K) : (W.mk h nx).nx = nx := rfl
theorem be (b : K) (a : W) : cy b a = aa b a.h := by cases a; rfl
theorem ev (b : K) (o : AObj) (a : W) : wset b o a = .mk (ce b o a.h) a.nx := by cases a; rfl
def AObj.isRo : AObj → Bool | .ro .. => true | .gob (.rh ..) => true | .gob (.rb ..) => true | .gp r .. => r | _ => false
def bg : AObj → Option (Nat × GE)
 | .gob (.lh k g) => some (k, g)
 | _ => none
structure GhAt (ρ : Env) (a : W) (w : World) (k : K) (kd : Nat) (g : GE) : Prop where
 root : ∀ c, ρ k = some c → ρ.ft k c
 rel : ∀ c, ρ k = some c → ajh kd (g.eval Gv.σ) c (ρ.ft k) w.heap
 lt : ∀ c, ρ.ft k c → c < w.heap.size
 sep : ∀ l, aa l a.h ≠ .none → l ≠ k → ∀ c, ρ l = some c → ¬ ρ.ft k c
 dis : ∀ l, bg (aa l a.h) ≠ none → l ≠ k → ∀ c, ρ.ft l c → ¬ ρ.ft k c
structure WRel (ρ : Env) (a : W) (w : World) : Prop where
 inj : ∀ k l, aa k a.h ≠ .none → aa l a.h ≠ .none → ρ k = ρ l → k = l ∨ ((aa k a.h).isRo = true ∧ (aa l a.h).isRo = true)
 dom : ∀ k, aa k a.h ≠ .none → ∃ c, ρ k = some c ∧ ORel ρ (aa k a.h) (w.heap[c]?)
 len : ∀ k c arr t fz, aa k a.h ≠ .none → ρ k = some c → w.heap[c]? = some (.cells arr t fz) → arr.size = ρ.sz k
 gho : ∀ k kd g, bg (aa k a.h) = some (kd, g) → GhAt ρ a w k kd g
theorem WRel.inj1 {ρ : Env} {a : W} {w : World} (h : WRel ρ a w) {k l : K} (hk : aa k a.h ≠ .none) (hl : aa l a.h ≠ .none) (hr : (aa k a.h).isRo = false ∨ (aa l a.h).isRo = false) (e : ρ k = ρ l) : k = l := by
 rcases h.inj k l hk hl e with h | ⟨h1, h2⟩
 ·exact h
 ·rw [h1, h2] at hr; simp at hr
theorem GhAt.step {ρ ρ' : Env} {a a' : W} {w w' : World} {k : K} {kd : Nat} {g : GE} (h : GhAt ρ a w k kd g) (hk : ρ' k = ρ k) (hft : ρ'.ft k = ρ.ft k) (hs : w.heap.size ≤ w'.heap.size) (hfr : ∀ c, ρ.ft k c → w'.heap[c]? = w.heap[c]?)
  (hsep : ∀ l, aa l a'.h ≠ .none → l ≠ k → ∀ c, ρ' l = some c → ¬ ρ.ft k c) (hdis : ∀ l, bg (aa l a'.h) ≠ none → l ≠ k → ∀ c, ρ'.ft l c → ¬ ρ.ft k c) : GhAt ρ' a' w' k kd g := by
 refine ⟨?_, ?_, ?_, ?_, ?_⟩
 ·rw [hk, hft]; exact h.root
 ·rw [hk, hft]; exact fun c hc => atg hfr (h.rel c hc)
 ·rw [hft]; exact fun c hc => Nat.lt_of_lt_of_le (h.lt c hc) hs
 ·rw [hft]; exact hsep
 ·rw [hft]; exact hdis
omit [Gv] in
theorem bz {o : AObj} (h : bg o ≠ none) : o ≠ .none := by rintro rfl; exact h rfl
omit [Gv] in
theorem td {o : AObj} {x : Nat × GE} (h : bg o = some x) : bg o ≠ none := by rw [h]; simp
def Own (ρ : Env) (a : W) (c : Nat) : Prop := ∃ k, aa k a.h ≠ .none ∧ (aa k a.h).isRo = false ∧ (ρ k = some c ∨ (bg (aa k a.h) ≠ none ∧ ρ.ft k c))
def Fresh (ρ : Env) (a a' : W) : Prop := ∀ k, a.nx.num ≤ k.num → k.num < a'.nx.num → ρ k = none
structure Adv (ρ : Env) (a : W) (w : World) (ρ' : Env) (a' : W) (w' : World) : Prop where
 rel : WRel ρ' a' w'
 le : ρ.le ρ'
 rng : ∀ k, ρ' k = ρ k ∨ (a.nx.num ≤ k.num ∧ k.num < a'.nx.num)
 nx : a.nx.num ≤ a'.nx.num
 size : w.heap.size ≤ w'.heap.size
 own : ∀ c, Own ρ' a' c → Own ρ a c ∨ w.heap.size ≤ c
 keep : ∀ k c, aa k a'.h ≠ .none → ρ' k = some c → (∃ l, aa l a.h ≠ .none ∧ ρ l = some c) ∨ w.heap.size ≤ c
 frame : ∀ c, c < w.heap.size → ¬ Own ρ a c → w'.heap[c]? = w.heap[c]?
 fts : ∀ k, k.num < a.nx.num → bg (aa k a.h) = none → ρ'.ft k = ρ.ft k ∧ bg (aa k a'.h) = none
 os : w'.os = w.os
 tape : w'.tape = w.tape
 output : w'.output = w.output
theorem Adv.refl {ρ : Env} {a : W} {w : World} (h : WRel ρ a w) : Adv ρ a w ρ a w :=
 ⟨h, Env.le_refl ρ, fun _ => .inl rfl, zY _, zY _, fun _ h => .inl h, fun k _ h e => .inl ⟨k, h, e⟩, fun _ _ _ => rfl, fun _ _ h => ⟨rfl, h⟩, rfl, rfl, rfl⟩
theorem Adv.trans {ρ ρ1 ρ2 : Env} {a a1 a2 : W} {w w1 w2 : World} (h : Adv ρ a w ρ1 a1 w1) (k : Adv ρ1 a1 w1 ρ2 a2 w2) : Adv ρ a w ρ2 a2 w2 where
 rel := k.rel
 le := Env.le_trans h.le k.le
 rng x := by
  have := h.nx; have := k.nx
  rcases k.rng x with e | e
  ·rcases h.rng x with e' | e'
   ·exact .inl (e.trans e')
   ·exact .inr (by omega)
  ·exact .inr (by omega)
 nx := Nat.le_trans h.nx k.nx
 size := Nat.le_trans h.size k.size
 own c hc := by
  have := h.size
  rcases k.own c hc with e | e
  ·rcases h.own c e with e' | e'
   ·exact .inl e'
   ·exact .inr e'
  ·exact .inr (by omega)
 keep x c hx hc := by
  have := h.size
  rcases k.keep x c hx hc with ⟨l, e1, e2⟩ | e
  ·exact h.keep l c e1 e2
  ·exact .inr (by omega)
 frame c hc hn := by
  have hs := h.size
  rw [k.frame c (by omega) (fun e => by rcases h.own c e with e' | e'; exact hn e'; omega)]
  exact h.frame c hc hn
 fts x hx hl := by
  have h1 := h.fts x hx hl
  have h2 := k.fts x (Nat.lt_of_lt_of_le hx h.nx) h1.2
  exact ⟨h2.1.trans h1.1, h2.2⟩
 os := k.os.trans h.os
 tape := k.tape.trans h.tape
 output := k.output.trans h.output
theorem Fresh.left {ρ : Env} {a a1 a2 : W} (h : Fresh ρ a a2) (h' : a1.nx.num ≤ a2.nx.num) : Fresh ρ a a1 := fun k h1 h2 => h k h1 (by omega)
theorem Fresh.right {ρ ρ1 : Env} {a a1 a2 : W} {w w1 : World} (h : Fresh ρ a a2) (k : Adv ρ a w ρ1 a1 w1) : Fresh ρ1 a1 a2 := by
 intro x h1 h2
 have := k.nx
 rcases k.rng x with e | e
 ·rw [e]; exact h x (by omega) h2
 ·omega
theorem Adv.drew {ρ ρ' : Env} {a a' : W} {w w' : World} (h : Adv ρ a w ρ' a' w') : Adv ρ a w ρ' a' w'.drew :=
 ⟨⟨h.rel.inj, h.rel.dom, h.rel.len, fun k kd g hk => let q := h.rel.gho k kd g hk; ⟨q.root, q.rel, q.lt, q.sep, q.dis⟩⟩, h.le, h.rng, h.nx, h.size, h.own, h.keep, h.frame, h.fts, h.os, h.tape, h.output⟩
def upd (ρ : Env) (k : K) (c n : Nat) : Env := { blk := fun l => if l = k then some c else ρ l, sz := fun l => if l = k then n else ρ.sz l, ft := ρ.ft }
theorem cg (ρ : Env) (k : K) (c n : Nat) : upd ρ k c n k = some c := by simp [upd]
theorem gc (ρ : Env) {k l : K} (h : l ≠ k) (c n : Nat) : upd ρ k c n l = ρ l := by simp [upd, h]
theorem qq (ρ : Env) (k : K) (c n : Nat) : (upd ρ k c n).sz k = n := by simp [upd]
theorem bfu (ρ : Env) {k l : K} (h : l ≠ k) (c n : Nat) : (upd ρ k c n).sz l = ρ.sz l := by simp [upd, h]
theorem bdb (ρ : Env) (k : K) (c n : Nat) (h : ρ k = none) : ρ.le (upd ρ k c n) := by
 intro l x e
 by_cases hk : l = k
 ·subst hk; rw [h] at e; cases e
 ·rw [gc ρ hk, bfu ρ hk]; exact ⟨e, rfl⟩
def Obj.cellCount : Obj → Nat
 | .cells arr _ _ => arr.size
 | _ => 0
theorem yz {ρ : Env} {h : H4} {nx : K} {w : World} {o : AObj} {obj : Obj} (hw : WRel ρ (.mk h nx) w) (hf : ρ nx = none) (hm : nx.isMax = false)
  (ho : ORel ρ o (some obj)) (hlo : bg o = none := by rfl) : Adv ρ (.mk h nx) w (upd ρ nx w.heap.size (Obj.cellCount obj)) (.mk (ce nx o h) nx.succ) (w.alloc obj) := by
 have hle := bdb ρ nx w.heap.size (Obj.cellCount obj) hf
 have hn : aa nx h = .none := by
  by_cases e : aa nx h = .none
  ·exact e
  ·obtain ⟨c, hc, _⟩ := hw.dom nx e; rw [hf] at hc; cases hc
 have lt : ∀ k c, aa k h ≠ .none → ρ k = some c → c < w.heap.size := by
  intro k c hk hc
  obtain ⟨c', hc', ho'⟩ := hw.dom k hk
  rw [hc] at hc'; cases hc'
  obtain ⟨y, hy⟩ := ho'.some hk
  exact (zI.1 hy).1
 have old : ∀ k, k ≠ nx → aa k (ce nx o h) = aa k h := fun k hk => au hk o h
 have get : ∀ c, c < w.heap.size → (w.alloc obj).heap[c]? = w.heap[c]? := fun c hc => RowKit.Below.heap_alloc w obj c hc
 have hnx : nx.succ.num = nx.num + 1 := K.succ_num hm
 refine ⟨⟨?_, ?_, ?_, ?_⟩, hle, ?_, ?_, ?_, ?_, ?_, ?_, ?_, rfl, rfl, rfl⟩
 ·intro k l hk hl e
  simp only [W.h_mk] at hk hl
  by_cases k1 : k = nx
  ·by_cases l1 : l = nx
   ·left; rw [k1, l1]
   ·exfalso
    rw [old l l1] at hl
    obtain ⟨c, hc, _⟩ := hw.dom l hl
    rw [k1, cg, gc ρ l1, hc] at e
    have := lt l c hl hc
    injection e with e; omega
  ·rw [old k k1] at hk
   by_cases l1 : l = nx
   ·exfalso
    obtain ⟨c, hc, _⟩ := hw.dom k hk
    rw [l1, cg, gc ρ k1, hc] at e
    have := lt k c hk hc
    injection e with e; omega
   ·rw [old l l1] at hl
    rw [gc ρ k1, gc ρ l1] at e
    have := hw.inj k l hk hl e
    simp only [W.h_mk] at this ⊢
    rw [old k k1, old l l1]; exact this
 ·intro k hk
  simp only [W.h_mk] at hk ⊢
  by_cases k1 : k = nx
  ·subst k1
   refine ⟨w.heap.size, cg ρ k _ _, ?_⟩
   rw [ag]
   have : (w.alloc obj).heap[w.heap.size]? = some obj := by show (w.heap.push obj)[w.heap.size]? = _; simp
   rw [this]
   exact ho.mono hle
  ·rw [old k k1] at hk ⊢
   obtain ⟨c, hc, ho'⟩ := hw.dom k hk
   refine ⟨c, by rw [gc ρ k1]; exact hc, ?_⟩
   rw [get c (lt k c hk hc)]
   exact ho'.mono hle
 ·intro k c arr t fz hk hc hx
  simp only [W.h_mk] at hk
  by_cases k1 : k = nx
  ·subst k1
   rw [cg] at hc
   injection hc with hc
   subst hc
   have : (w.alloc obj).heap[w.heap.size]? = some obj := by show (w.heap.push obj)[w.heap.size]? = _; simp
   rw [this] at hx
   injection hx with hx
   rw [qq, hx]; rfl
  ·rw [old k k1] at hk
   rw [gc ρ k1] at hc
   rw [get c (lt k c hk hc)] at hx
   rw [bfu ρ k1]
   exact hw.len k c arr t fz hk hc hx
 ·intro k kd g hk
  simp only [W.h_mk] at hk
  have k1 : k ≠ nx := by rintro rfl; rw [ag, hlo] at hk; cases hk
  rw [old k k1] at hk
  have q := hw.gho k kd g hk
  refine q.step (gc ρ k1 _ _) rfl (by rw [World.size_alloc]; omega) (fun c hc => get c (q.lt c hc)) ?_ ?_
  ·intro l hl hlk c hc
   simp only [W.h_mk] at hl
   by_cases l1 : l = nx
   ·subst l1; rw [cg] at hc; injection hc with hc; intro hf'; have := q.lt _ hf'; omega
   ·rw [old l l1] at hl; rw [gc ρ l1] at hc; exact q.sep l hl hlk c hc
  ·intro l hl hlk
   simp only [W.h_mk] at hl
   have l1 : l ≠ nx := by rintro rfl; rw [ag, hlo] at hl; exact hl rfl
   rw [old l l1] at hl
   exact q.dis l hl hlk
 ·intro k
  by_cases k1 : k = nx
  ·subst k1; right; simp only [W.nx_mk]; omega
  ·left; exact gc ρ k1 _ _
 ·simp only [W.nx_mk]; omega
 ·rw [World.size_alloc]; omega
 ·rintro c ⟨k, hk, hr, hc⟩
  simp only [W.h_mk] at hk hr hc
  by_cases k1 : k = nx
  ·subst k1
   rcases hc with hc | ⟨hc, _⟩
   ·rw [cg] at hc; injection hc with hc; right; omega
   ·rw [ag, hlo] at hc; exact absurd rfl hc
  ·rw [old k k1] at hk hr hc; rw [gc ρ k1] at hc
   exact .inl ⟨k, hk, hr, hc⟩
 ·intro k c hk hc
  simp only [W.h_mk] at hk
  by_cases k1 : k = nx
  ·subst k1; rw [cg] at hc; injection hc with hc; right; omega
  ·rw [old k k1] at hk; rw [gc ρ k1] at hc
   exact .inl ⟨k, hk, hc⟩
 ·intro c hc _; exact get c hc
 ·intro k hk hl
  have k1 : k ≠ nx := by rintro rfl; simp only [W.nx_mk] at hk; omega
  refine ⟨rfl, ?_⟩
  show bg (aa k (ce nx o h)) = none
  rw [old k k1]
  exact hl
theorem y6 {ρ : Env} {a : W} {w w' : World} {b : K} {c : Nat} {o : AObj} {obj : Obj} (hw : WRel ρ a w) (hb : aa b a.h ≠ .none) (hr : (aa b a.h).isRo = false)
  (hc : ρ b = some c) (ho : ORel ρ o (some obj)) (hn : o ≠ .none) (hcount : ∀ arr t fz, obj = .cells arr t fz → arr.size = ρ.sz b) (hx : w'.heap[c]? = some obj) (hs : w'.heap.size = w.heap.size) (hother : ∀ d, d ≠ c → w'.heap[d]? = w.heap[d]?)
  (h1 : w'.os = w.os) (h2 : w'.tape = w.tape) (h3 : w'.output = w.output) (hlb : bg (aa b a.h) = none) (hlo : bg o = none := by rfl) : Adv ρ a w ρ (wset b o a) w' := by
 rw [ev]
 have old : ∀ k, k ≠ b → aa k (ce b o a.h) = aa k a.h := fun k hk => au hk o a.h
 have liv : ∀ k, aa k (ce b o a.h) ≠ .none → aa k a.h ≠ .none := by
  intro k hk
  by_cases e : k = b
  ·subst e; exact hb
  ·rw [old k e] at hk; exact hk
 have lhs : ∀ k, bg (aa k (ce b o a.h)) = bg (aa k a.h) := by
  intro k
  by_cases e : k = b
  ·subst e; rw [ag, hlo, hlb]
  ·rw [old k e]
 refine ⟨⟨?_, ?_, ?_, ?_⟩, Env.le_refl ρ, fun _ => .inl rfl, zY _, by omega, ?_, fun k c hk hc => .inl ⟨k, liv k hk, hc⟩, ?_, ?_, h1, h2, h3⟩
 ·intro k l hk hl e
  by_cases k1 : k = b
  ·by_cases l1 : l = b
   ·left; rw [k1, l1]
   ·subst k1; exact absurd (hw.inj1 hb (liv l hl) (.inl hr) e).symm l1
  ·by_cases l1 : l = b
   ·subst l1; exact absurd (hw.inj1 (liv k hk) hb (.inr hr) e) k1
   ·have := hw.inj k l (liv k hk) (liv l hl) e
    simp only [W.h_mk]
    rw [old k k1, old l l1]; exact this
 ·intro k hk
  simp only [W.h_mk] at hk ⊢
  by_cases e : k = b
  ·subst e; exact ⟨c, hc, by rw [ag, hx]; exact ho⟩
  ·have hk' := liv k hk
   obtain ⟨d, hd, ho'⟩ := hw.dom k hk'
   refine ⟨d, hd, ?_⟩
   rw [old k e, hother d]
   ·exact ho'
   ·intro e'; subst e'; exact e (hw.inj1 hk' hb (.inr hr) (by rw [hd, hc]))
 ·intro k d arr t fz hk hd hxx
  simp only [W.h_mk] at hk
  by_cases e : k = b
  ·subst e
   rw [hc] at hd; injection hd with hd; subst hd
   rw [hx] at hxx; injection hxx with hxx
   exact hcount arr t fz hxx
  ·have hk' := liv k hk
   rw [hother d] at hxx
   ·exact hw.len k d arr t fz hk' hd hxx
   ·intro e'; subst e'; exact e (hw.inj1 hk' hb (.inr hr) (by rw [hd, hc]))
 ·intro k kd g hk
  simp only [W.h_mk] at hk
  rw [lhs k] at hk
  have q := hw.gho k kd g hk
  have hbk : b ≠ k := by rintro rfl; rw [hlb] at hk; cases hk
  refine q.step rfl rfl (by omega) (fun d hd => hother d ?_) (fun l hl hlk => q.sep l (liv l hl) hlk) (fun l hl hlk => q.dis l (by rw [← lhs l]; exact hl) hlk)
  rintro rfl
  exact q.sep b hb hbk d hc hd
 ·rintro d ⟨k, hk, hr', hd⟩
  simp only [W.h_mk] at hk hr' hd
  rw [lhs k] at hd
  by_cases e : k = b
  ·subst e; exact .inl ⟨k, hb, hr, hd⟩
  ·rw [old k e] at hk hr'; exact .inl ⟨k, hk, hr', hd⟩
 ·intro d _ hd
  exact hother d fun e => hd ⟨b, hb, hr, .inl (by rw [e]; exact hc)⟩
 ·intro k _ hk
  refine ⟨rfl, ?_⟩
  show bg (aa k (ce b o a.h)) = none
  rw [lhs k]
  exact hk
end Go.Ev
set_option linter.all false
namespace Go.Ev
variable [Gv]
section tables
variable {α : Type}
theorem tv (l : List α) : ∀ i, nth l i = l[i]? := by
 induction l with
 | nil => intro i; rfl
 | cons x l ih =>
   intro i
   cases i with
   | zero => rfl
   | succ i => show nth l i = _; rw [ih]; simp
theorem aym (l : List α) (k : Nat) (h : k < 16) : N.get (I.of k) (bdc l) = l[k]? := by
 match k, h with
 | 0, _ | 1, _ | 2, _ | 3, _ | 4, _ | 5, _ | 6, _ | 7, _ | 8, _ | 9, _ | 10, _ | 11, _ | 12, _ | 13, _ | 14, _ | 15, _ => exact tv l _
 | n + 16, h => omega
theorem asg {β : Type} (f : List α → β) (s : Nat) (l : List α) (k : Nat) (h : k < 16) : N.get (I.of k) (blu f s l) = f (l.drop (k * s)) := by
 match k, h with
 | 0, _ => simp only [Nat.zero_mul, List.drop_zero]; rfl
 | 1, _ => simp only [Nat.one_mul]; rfl
 | 2, _ | 3, _ | 4, _ | 5, _ | 6, _ | 7, _ | 8, _ | 9, _ | 10, _ | 11, _ | 12, _ | 13, _ | 14, _ | 15, _ => rfl
 | n + 16, h => omega
theorem a29 (l : List α) (i : Nat) (h : i < 4096) : bi7 (a3c l) i = l[i]? := by
 unfold bi7 a3c
 rw [asg _ _ _ _ (by omega), asg _ _ _ _ (by omega), aym _ _ (by omega)]
 simp only [List.getElem?_drop, List.drop_drop]
 congr 1
 omega
end tables
theorem agh {f : FuncId} {fn : Func} (h : al6 f = some fn) : PP.funcs[f]? = some fn := by
 unfold al6 at h
 rw [ac] at h
 split at h
 ·rename_i hb
  have := zE hb
  unfold FT at h
  rw [a29 _ _ (by omega)] at h
  simpa using h
 ·cases h
theorem fo {t : TypeId} {i : TypeInfo} (h : gm t = some i) : PP.info? t = some i := by
 unfold gm at h
 rw [ac] at h
 split at h
 ·rename_i hb
  have := zE hb
  unfold TT at h
  rw [a29 _ _ (by omega)] at h
  have h' : PP.types[t]? = some i := by simpa using h
  have hlt := (zI.1 h').1
  unfold Tables.info?
  rw [if_pos hlt]
  exact h'
 ·cases h
theorem cb {t : TypeId} {d : TypeDesc} (h : ax t = some d) : PP.underlying t = some d := by
 unfold ax at h
 cases hi : gm t with
 | none => rw [hi] at h; cases h
 | some i =>
   rw [hi] at h
   unfold Program.underlying
   rw [fo hi]
   obtain ⟨desc, a1, a2, a3, a4, a5, a6, a7, a8, a9⟩ := i
   cases desc <;> first
    | exact h
    | (simp only [a3e] at h
       rename_i nm u
       cases hu : gm u with
       | none => rw [hu] at h; cases h
       | some j => rw [hu] at h; simp only [fo hu]; exact h)
theorem mo {t : TypeId} {n : Nat} (h : sizeOf t = some n) : ∃ i, PP.info? t = some i ∧ i.size = n := by
 unfold sizeOf at h
 cases hi : gm t with
 | none => rw [hi] at h; cases h
 | some i => rw [hi] at h; exact ⟨i, fo hi, by simpa using h⟩
theorem dc {t : TypeId} {v : AV} (h : jb t = some v) : ∃ i z, PP.info? t = some i ∧ i.zero = some z ∧ v = ofV z := by
 unfold jb at h
 cases hi : gm t with
 | none => rw [hi] at h; cases h
 | some i =>
   rw [hi] at h
   simp only [Option.bind_some] at h
   cases hz : i.zero with
   | none => rw [hz] at h; cases h
   | some z => rw [hz] at h; exact ⟨i, z, fo hi, hz, by simpa using h.symm⟩
section runs
variable {w : World}
theorem ae {t : TypeId} {d : TypeDesc} (h : ax t = some d) : (underlying t).run PP w = .ok d w := run_underlying (cb h) w
theorem ix {t : TypeId} {i : TypeInfo} (h : PP.info? t = some i) : (typeInfo t).run PP w = .ok i w := by simp [typeInfo, h]
theorem bl {t : TypeId} {n : Nat} (h : sizeOf t = some n) : (Go.sizeOf t).run PP w = .ok n w := by
 obtain ⟨i, hi, rfl⟩ := mo h
 simp [Go.sizeOf, ix hi]
theorem fi {t : TypeId} {i : TypeInfo} {z : Value} (h : PP.info? t = some i) (hz : i.zero = some z) : (zeroValue t).run PP w = .ok z w := by
 simp [zeroValue, ix h, hz]
theorem mn {t : TypeId} {d : TypeDesc} (h : ax t = some d) : (isAgg t).run PP w = .ok (jg d) w := by
 simp only [isAgg, zR, ae h, zQ]
 cases d <;> rfl
theorem lk {t : TypeId} {r : Option Nat} (h : wv t = some r) : ∃ d n, ax t = some d ∧ sizeOf t = some n ∧ some r = (if jg d then some (some n) else if n = 1 then some none else none) := by
 unfold wv at h
 cases hu : ax t with
 | none => rw [hu] at h; cases h
 | some d =>
   cases hs : sizeOf t with
   | none => rw [hu, hs] at h; cases h
   | some n => rw [hu, hs] at h; exact ⟨d, n, rfl, rfl, h.symm⟩
end runs
theorem a7j (ρ : Env) (p : Option Addr) : VRel ρ (bec p) (.pointer p) := by cases p <;> simp only [bec, VRel]
theorem bed (ρ : Env) (p : Option Addr) (l c : Nat) : VRel ρ (bng p l c) (.slice p l c) := by
 unfold bng; split <;> simp only [VRel]
theorem a7i (ρ : Env) (p : Option Nat) : VRel ρ (beb p) (.map p) := by cases p <;> simp only [beb, VRel]
theorem a1x (ρ : Env) (v : Value) : VRel ρ (ofS v) v := by
 cases v <;> simp only [ofS] <;> first
  | exact a7j ρ _
  | exact bed ρ _ _ _
  | exact a7i ρ _
  | (simp only [VRel]; done)
  | (simp only [VRel]; exact ⟨apl _, by rw [ye]⟩)
theorem auu (ρ : Env) : ∀ (l : List Value), VRels ρ (l.map ofS) l
 | [] => by simp [VRels]
 | v :: l => by simp only [List.map_cons, VRels]; exact ⟨v, l, rfl, a1x ρ v, auu ρ l⟩
theorem a7k (ρ : Env) (l : Array Value) : VRel ρ (a1y l.toList) (.tuple l) := by
 cases h : l.toList with
 | nil => simp only [a1y, VRel]; exact ⟨l, rfl, by simp [h, VRels]⟩
 | cons x r => simp only [a1y, VRel]
theorem fp (ρ : Env) (v : Value) : VRel ρ (ofV v) v := by
 cases v <;> simp only [ofV] <;> first
  | exact a1x ρ _
  | exact a7k ρ _
  | (simp only [VRel]; exact ⟨_, rfl, auu ρ _⟩)
def VOK (ρ : Env) (a : W) (w : World) (s : Sem Value) (r : OR) : Prop :=
 match r with
 | .val v a' => Fresh ρ a a' → ∃ ρ' w' v', s.run PP w = .ok v' w' ∧ VRel ρ' v v' ∧ Adv ρ a w ρ' a' w'
 | .no _ => True
 | _ => False
def UOK (ρ : Env) (a : W) (w : World) (s : Sem Unit) (r : OR) : Prop :=
 match r with
 | .val v a' => Fresh ρ a a' → v = ip ∧ ∃ ρ' w', s.run PP w = .ok () w' ∧ Adv ρ a w ρ' a' w'
 | .no _ => True
 | _ => False
section
variable {ρ : Env} {a : W} {w : World}
theorem VOK.of_run {s s' : Sem Value} {r : OR} (h : VOK ρ a w s r) (e : s.run PP w = s'.run PP w) : VOK ρ a w s' r := by
 cases r with
 | val v a' => intro hf; obtain ⟨ρ', w', v', h1, h2, h3⟩ := h hf; exact ⟨ρ', w', v', by rw [← e]; exact h1, h2, h3⟩
 | no => trivial
 | _ => exact h
theorem VOK.here {s : Sem Value} {v : AV} {v' : Value} (hw : WRel ρ a w) (h : s.run PP w = .ok v' w) (hv : VRel ρ v v') : VOK ρ a w s (.val v a) :=
 fun _ => ⟨ρ, w, v', h, hv, Adv.refl hw⟩
theorem WRel.block (hw : WRel ρ a w) {b : K} {o : AObj} (h : cy b a = o) (hn : o ≠ .none) {c : Nat} (hc : ρ b = some c) : ORel ρ o (w.heap[c]?) := by
 rw [be] at h
 obtain ⟨c', hc', ho⟩ := hw.dom b (by rw [h]; exact hn)
 rw [hc] at hc'; cases hc'
 rw [h] at ho; exact ho
theorem fm {b off : Nat} {arr : Array Value} {t : TypeId} {fz : Nat × Nat} (h : w.heap[b]? = some (.cells arr t fz)) : w.cell? ⟨b, off, none⟩ = arr[off]? := by
 simp [World.cell?, h]
theorem aj6 {o : AObj} {i : Nat} {v : AV} {c : Nat} (h : apk o i = some v) (ho : ORel ρ o (w.heap[c]?)) : ∃ v', w.cell? ⟨c, i, none⟩ = some v' ∧ VRel ρ v v' := by
 cases o <;> simp only [apk] at h <;> try (cases h; done)
 ·rw [ac] at h
  split at h
  ·rename_i hb
   obtain ⟨arr, fz, h1, h2, h3, h4, h5, h6⟩ := ho
   obtain ⟨v', h7, h8⟩ := h6 i (by simpa using hb)
   cases h
   exact ⟨v', by rw [fm h1]; exact h7, h8⟩
  ·cases h
 ·rw [ac] at h
  split at h
  ·rename_i hb
   obtain ⟨arr, t', fz, h1, h2, h3, h6, _⟩ := ho
   obtain ⟨v', h7, h8⟩ := h6 i (by simpa using hb)
   cases h
   exact ⟨v', by rw [fm h1]; exact h7, h8⟩
  ·cases h
theorem ana {o : AObj} {i : Nat} {v : AV} (h : apk o i = some v) : o ≠ .none := by rintro rfl; cases h
theorem bc9 (hw : WRel ρ a w) {p : AV} {p' : Value} (hp : VRel ρ p p') : VOK ρ a w (do load (← Instr.sureAddr p')) (at8 p a) := by
 unfold at8
 split
 ·rename_i b kb i
  simp only [VRel] at hp
  obtain ⟨c, c', hc, hk, rfl⟩ := hp
  unfold bda
  split <;> try trivial
  rename_i kb' l hg
  rw [ac]
  split <;> try trivial
  rename_i hkb
  obtain rfl := (K.beq_iff _ _).1 hkb
  split <;> try trivial
  rename_i v hv
  rw [tv] at hv
  obtain ⟨hlt, hv⟩ := List.getElem?_eq_some_iff.1 hv
  obtain ⟨arr, t, fz, c'', e1, e2, e3, e4⟩ := hw.block hg (by simp) hc
  obtain ⟨v', q1, q2⟩ := e4 i hlt
  rw [hv] at q2
  refine VOK.here hw (v' := v') ?_ q2
  have h1 : w.cell? ⟨c, ρ.sz kb + i, none⟩ = some v' := by rw [fm e1]; exact q1
  simp [Instr.sureAddr, h1]
 ·rename_i b off
  simp only [VRel] at hp
  obtain ⟨c, hc, rfl⟩ := hp
  split
  ·rename_i v hv
   obtain ⟨v', h1, h2⟩ := aj6 hv (hw.block rfl (ana hv) hc)
   refine VOK.here hw (v' := v') ?_ h2
   simp [Instr.sureAddr, h1]
  ·trivial
 ·trivial
theorem rt {arr : Array Value} {c : Cells} {size i n : Nat} (hc : a8k ρ size c arr) (h : i + n ≤ size) :
  ∃ l : List Value, l.length = n ∧ VRels ρ (na c n i) l ∧ ∀ j v, l[j]? = some v → arr[i + j]? = some v := by
 refine ⟨(List.range n).map fun j => arr.getD (i + j) undef, by simp, ?_, ?_⟩
 ·apply VRels.of_get
  ·rw [xi]; simp
  ·intro j hj
   rw [xi] at hj
   simp at hj
   obtain ⟨v, h1, h2⟩ := hc (i + j) (by omega)
   refine ⟨v, ?_, ?_⟩
   ·simp [hj, Array.getD_eq_getD_getElem?, h1]
   ·simp only [xi, List.getElem_map, List.getElem_range]; exact h2
 ·intro j v hj
  have hlt : j < n := by have := (List.getElem?_eq_some_iff.1 hj).1; simpa using this
  obtain ⟨v', h1, _⟩ := hc (i + j) (by omega)
  simp [hlt, Array.getD_eq_getD_getElem?, h1] at hj
  rw [h1, hj]
theorem ml {o : AObj} {i n : Nat} {l : List AV} {c : Nat} (h : aaa o i n = some l) (ho : ORel ρ o (w.heap[c]?)) :
  ∃ l' : List Value, l'.length = n ∧ VRels ρ l l' ∧ ∀ j v, l'[j]? = some v → w.cell? ⟨c, i + j, none⟩ = some v := by
 cases o <;> simp only [aaa] at h <;> try (cases h; done)
 ·rw [ac] at h
  split at h
  ·rename_i hb
   obtain ⟨arr, fz, h1, h2, h3, h4, h5, h6⟩ := ho
   obtain ⟨l', h7, h8, h9⟩ := rt h6 (zE hb)
   cases h
   exact ⟨l', h7, h8, fun j v hj => by rw [fm h1]; exact h9 j v hj⟩
  ·cases h
 ·rw [ac] at h
  split at h
  ·rename_i hb
   obtain ⟨arr, t', fz, h1, h2, h3, h6, _⟩ := ho
   obtain ⟨l', h7, h8, h9⟩ := rt h6 (zE hb)
   cases h
   exact ⟨l', h7, h8, fun j v hj => by rw [fm h1]; exact h9 j v hj⟩
  ·cases h
theorem ot {o : AObj} {i n : Nat} {l : List AV} (h : aaa o i n = some l) : o ≠ .none := by rintro rfl; cases h
theorem bw (c o j : Nat) : (⟨c, o, none⟩ : Addr).add j = ⟨c, o + j, none⟩ := by
 unfold Addr.add; split
 ·rename_i h; subst h; rfl
 ·rfl
theorem iw {c o : Nat} {l : List Value} {n : Nat} (hn : l.length = n) (h : ∀ j v, l[j]? = some v → w.cell? ⟨c, o + j, none⟩ = some v) :
  (loadCells ⟨c, o, none⟩ n).run PP w = .ok l.toArray w := by
 subst hn
 exact run_loadCells_list w ⟨c, o, none⟩ l fun j v hj => by rw [bw]; exact h j v hj
theorem a7b (hw : WRel ρ a w) {p : AV} {p' : Value} (hp : VRel ρ p p') (n : Nat) : VOK ρ a w (do pure (.agg (← loadCells (← Instr.sureAddr p') n))) (aju n p a) := by
 unfold aju
 split
 ·rename_i b off
  simp only [VRel] at hp
  obtain ⟨c, hc, rfl⟩ := hp
  split
  ·rename_i l hl
   obtain ⟨l', h1, h2, h3⟩ := ml hl (hw.block rfl (ot hl) hc)
   refine VOK.here hw (v' := .agg l'.toArray) ?_ (by simp only [VRel]; exact ⟨_, rfl, by simpa using h2⟩)
   simp [Instr.sureAddr, iw h1 h3]
  ·trivial
 ·trivial
theorem bh8 (hw : WRel ρ a w) {p : AV} {p' : Value} (hp : VRel ρ p p') (t : TypeId) : VOK ρ a w (Instr.loadAt t p') (vm t p a) := by
 unfold vm
 split
 ·rename_i h
  obtain ⟨d, n, hd, hs, hr⟩ := lk h
  have hagg : jg d = false := by cases e : jg d with | false => rfl | true => rw [e] at hr; simp at hr
  refine (bc9 hw hp).of_run ?_
  simp only [Instr.loadAt, loadVar, zR]
  cases hsr : (Instr.sureAddr p').run PP w with
  | halt h w' => rfl
  | ok ad w' => simp only [zQ, zR, mn hd, hagg, zG, if_false]
 ·rename_i n h
  obtain ⟨d, m, hd, hs, hr⟩ := lk h
  by_cases hagg : jg d = true
  ·rw [if_pos hagg] at hr
   injection hr with hr
   injection hr with hr
   subst hr
   refine (a7b hw hp n).of_run ?_
   simp only [Instr.loadAt, loadVar, zR]
   cases hsr : (Instr.sureAddr p').run PP w with
   | halt h w' => rfl
   | ok ad w' => simp only [zQ, zR, mn hd, hagg, if_true, bl hs]
  ·rw [if_neg hagg] at hr
   split at hr <;> cases hr
 ·trivial
theorem af0 {v : AV} {v' : Value} (h : ada v = true) (hv : VRel ρ v v') : v'.oneCell' = true := by
 cases v <;> simp only [VRel] at hv <;> first
  | (subst hv; rfl)
  | (cases h; done)
  | (obtain ⟨_, rfl⟩ := hv; rfl)
  | (obtain ⟨_, _, rfl⟩ := hv; rfl)
  | (obtain ⟨_, _, _, _, _, rfl⟩ := hv; rfl)
  | (obtain ⟨_, _, _, _, _, _, rfl⟩ := hv; rfl)
  | (obtain ⟨_, _, _, _, rfl⟩ := hv; rfl)
  | (obtain ⟨_, _, rfl, _⟩ := hv; rfl)
  | (obtain ⟨_, _, _, rfl, _⟩ := hv; rfl)
  | (obtain ⟨_, rfl, _⟩ := hv; rfl)
  | (rcases SxRel.shape hv with ⟨_, rfl⟩ | ⟨_, rfl⟩ <;> rfl)
  | (rcases GVRel.shape hv with ⟨_, rfl⟩ | ⟨_, _, _, rfl⟩ | ⟨_, rfl⟩ <;> rfl)
theorem vb : ∀ (l : List AV) (l' : List Value), ah7 l = true → VRels ρ l l' → ∀ v ∈ l', v.oneCell' = true
 | [], _, _, h, v, hv => by simp only [VRels] at h; subst h; cases hv
 | x :: l, _, h, hl, v, hv => by
   simp only [VRels] at hl; obtain ⟨y, ys, rfl, h2, h3⟩ := hl
   have h' : bc (ada x) (ah7 l) false = true := h
   rw [ac] at h'
   split at h'
   ·rename_i hx
    rcases List.mem_cons.1 hv with rfl | hm
    ·exact af0 hx h2
    ·exact vb l ys h' h3 v hm
   ·cases h'
theorem ov (c o : Nat) (t : TypeId) (fz : Nat × Nat) : ∀ (vs : List Value) (i : Nat) (w : World) (arr : Array Value), w.heap[c]? = some (.cells arr t fz) → o + i + vs.length ≤ arr.size →
  (∀ j, o + i ≤ j → j < o + i + vs.length → fz.1 ≤ j → j < fz.2 → False) → (∀ v ∈ vs, v.oneCell' = true) →
  ∃ (w' : World) (arr' : Array Value), (storeCells ⟨c, o, none⟩ vs i).run PP w = .ok () w' ∧ w'.heap[c]? = some (.cells arr' t fz) ∧ arr'.size = arr.size ∧
   (∀ j, arr'[j]? = if o + i ≤ j ∧ j < o + i + vs.length then vs[j - (o + i)]? else arr[j]?) ∧ w'.heap.size = w.heap.size ∧ (∀ d, d ≠ c → w'.heap[d]? = w.heap[d]?) ∧
   w'.os = w.os ∧ w'.tape = w.tape ∧ w'.output = w.output := by
 intro vs
 induction vs with
 | nil =>
   intro i w arr h _ _ _
   exact ⟨w, arr, rfl, h, rfl, fun j => by rw [if_neg (by simp only [zD]; omega)], rfl, fun _ _ => rfl, rfl, rfl, rfl⟩
 | cons v vs ih =>
   intro i w arr h h1 h2 h3
   simp only [zO] at h1 h2
   have hcell : w.cell? ⟨c, o + i, none⟩ = some arr[o + i] := by rw [fm h]; exact Array.getElem?_eq_getElem (by omega)
   have hfz : w.frozen? ⟨c, o + i, none⟩ = false := by
    simp only [World.frozen?, h]
    by_cases e : fz.1 ≤ o + i ∧ o + i < fz.2
    ·exact (h2 (o + i) (zY _) (by omega) e.1 e.2).elim
    ·obtain ⟨f1, f2⟩ := fz
     simp only [Bool.and_eq_false_iff, decide_eq_false_iff_not]
     simp only at e
     omega
   have ce : (w.setCell ⟨c, o + i, none⟩ v).heap[c]? = some (.cells (arr.setIfInBounds (o + i) v) t fz) := by
    simp [World.setCell, Array.getElem?_modify, h]
   obtain ⟨w', arr', r1, r2, r3, r4, r5, r6, r7, r8, r9⟩ := ih (i + 1) (w.setCell ⟨c, o + i, none⟩ v) (arr.setIfInBounds (o + i) v) ce (by simp; omega)
    (fun j a b => h2 j (by omega) (by omega)) (fun x hx => h3 x (zS _ hx))
   refine ⟨w', arr', ?_, r2, by simpa using r3, ?_, by rw [r5, World.size_setCell], ?_, r7, r8, r9⟩
   ·simp only [storeCells, zR, bw, run_store PP w _ v _ (h3 v (by simp)), hcell, hfz, zG, if_false, zQ]
    exact r1
   ·intro j
    rw [r4 j]
    by_cases a : o + (i + 1) ≤ j ∧ j < o + (i + 1) + vs.length
    ·rw [if_pos a, if_pos ⟨by omega, by simp only [zO]; omega⟩]
     have e : j - (o + i) = (j - (o + (i + 1))) + 1 := by omega
     rw [e, List.getElem?_cons_succ]
    ·rw [if_neg a]
     by_cases b : j = o + i
     ·subst b
      rw [if_pos ⟨zY _, by simp only [zO]; omega⟩]
      simp only [Nat.sub_self, List.getElem?_cons_zero]
      rw [Array.getElem?_setIfInBounds_self_of_lt (by omega)]
     ·rw [if_neg (by simp only [zO]; omega)]
      rw [Array.getElem?_setIfInBounds_ne (by omega)]
   ·intro d hd
    rw [r6 d hd]
    exact RowKit.Below.heap_setCell w ⟨c, o + i, none⟩ v d hd
theorem v8 {fl fh i n : Nat} {fz : Nat × Nat} (h : yd fl fh i n = true) (hf : fz.1 ≤ fz.2 ∧ ∀ i, fz.1 ≤ i → i < fz.2 → fl ≤ i ∧ i < fh) :
  ∀ j, i ≤ j → j < i + n → fz.1 ≤ j → j < fz.2 → False := by
 intro j h1 h2 h3 h4
 have ⟨a, b⟩ := hf.2 j h3 h4
 unfold yd at h
 simp only [ac] at h
 split at h
 ·rename_i e; have := zE e; omega
 ·split at h
  ·rename_i e; have := zE e; omega
  ·have := zE h; omega
theorem abr (hw : WRel ρ a w) {b : K} {c off : Nat} {l : List AV} {l' : List Value} {o : AObj} (hb : ρ b = some c) (h : aj8 (cy b a) off l = some o) (hl : VRels ρ l l') :
  ∃ w', (storeCells ⟨c, off, none⟩ l').run PP w = .ok () w' ∧ Adv ρ a w ρ (wset b o a) w' := by
 cases hg : cy b a <;> rw [hg] at h <;> simp only [aj8] at h <;> try (cases h; done)
 rename_i t size ext fl fh cs
 simp only [ac] at h
 split at h <;> try (cases h; done)
 rename_i h1
 split at h <;> try (cases h; done)
 rename_i h2
 split at h <;> try (cases h; done)
 rename_i h3
 cases h
 rw [aq] at h2 h3
 have h2 := zE h2
 obtain ⟨arr, fz, e1, e2, e3, e4, e5, e6⟩ := hw.block hg (by simp) hb
 have hlen := VRels.length l l' hl
 obtain ⟨w', arr', r1, r2, r3, r4, r5, r6, r7, r8, r9⟩ := ov c off t fz l' 0 w arr e1 (by omega)
  (fun j x y => v8 h3 e5 j (by omega) (by omega)) (vb l l' h1 hl)
 refine ⟨w', r1, y6 (c := c) hw (by rw [← be, hg]; simp) (by rw [← be, hg]; rfl) hb (obj := .cells arr' t fz) ?_ (by simp) (by intro x y z e; cases e; rw [r3]; exact hw.len b c arr t fz (by rw [← be, hg]; simp) hb e1) r2 r5 r6 r7 r8 r9 (by rw [← be, hg]; rfl)⟩
 refine ⟨arr', fz, rfl, by omega, fun e => by rw [r3]; exact e3 e, by rw [dy]; exact e4, e5, ?_⟩
 intro i hi
 rw [fq l off cs i (by omega) (by omega), r4 i]
 by_cases x : off ≤ i ∧ i - off < l.length
 ·rw [dif_pos x, if_pos ⟨by omega, by omega⟩]
  obtain ⟨v, q1, q2⟩ := VRels.get l l' hl (i - off) x.2
  exact ⟨v, by rw [← q1]; rfl, q2⟩
 ·rw [dif_neg x, if_neg (by omega)]
  exact e6 i hi
theorem anw (hw : WRel ρ a w) {p : AV} {p' : Value} (hp : VRel ρ p p') {l : List AV} {l' : List Value} (hl : VRels ρ l l') :
  UOK ρ a w (do storeCells (← Instr.sureAddr p') l') (apv l p a) := by
 unfold apv
 split
 ·rename_i b off
  simp only [VRel] at hp
  obtain ⟨c, hc, rfl⟩ := hp
  split
  ·rename_i o ho
   obtain ⟨w', h1, h2⟩ := abr hw hc ho hl
   intro _
   refine ⟨rfl, ρ, w', ?_, h2⟩
   simp [Instr.sureAddr, h1]
  ·trivial
 ·trivial
theorem a6u {v : AV} {v' : Value} (h : ada v = true) (hv : VRel ρ v v') : v'.cells = #[v'] := by
 have := af0 h hv
 cases v' <;> first | rfl | cases this
theorem UOK.of_run {s s' : Sem Unit} {r : OR} (h : UOK ρ a w s r) (e : s.run PP w = s'.run PP w) : UOK ρ a w s' r := by
 cases r with
 | val v a' => intro hf; obtain ⟨h0, ρ', w', h1, h3⟩ := h hf; exact ⟨h0, ρ', w', by rw [← e]; exact h1, h3⟩
 | no => trivial
 | _ => exact h
theorem bfs (hw : WRel ρ a w) {p v : AV} {p' v' : Value} (hp : VRel ρ p p') (hv : VRel ρ v v') (t : TypeId) : UOK ρ a w (Instr.storeAt t p' v') (aol t p v a) := by
 unfold aol
 split
 ·rename_i h
  obtain ⟨d, n, hd, hs, hr⟩ := lk h
  rw [ac]
  split
  ·rename_i h1
   have hn : n = 1 := by
    split at hr
    ·cases hr
    ·split at hr
     ·assumption
     ·cases hr
   subst hn
   refine (anw hw hp (l' := [v']) (by simp only [VRels]; exact ⟨v', [], rfl, hv, rfl⟩)).of_run ?_
   simp only [Instr.storeAt, storeVar, zR]
   cases hsr : (Instr.sureAddr p').run PP w with
   | halt h w' => rfl
   | ok ad w' => simp [bl hs, a6u h1 hv]
  ·trivial
 ·rename_i n h
  obtain ⟨d, m, hd, hs, hr⟩ := lk h
  have hn : n = m := by
   split at hr
   ·injection hr with hr; injection hr
   ·split at hr <;> cases hr
  subst hn
  split
  ·rename_i l
   rw [ac]
   split
   ·rename_i h1
    rw [aq] at h1
    simp only [VRel] at hv
    obtain ⟨ys, rfl, hl⟩ := hv
    refine (anw hw hp hl).of_run ?_
    simp only [Instr.storeAt, storeVar, zR]
    cases hsr : (Instr.sureAddr p').run PP w with
    | halt h w' => rfl
    | ok ad w' =>
      have hlen := VRels.length _ _ hl
      have h2 := zW h1
      have : ys.size = n := by rw [← h2, ← hlen]; simp
      simp [bl hs, Value.cells, this]
   ·trivial
  ·trivial
 ·trivial
end
end Go.Ev
