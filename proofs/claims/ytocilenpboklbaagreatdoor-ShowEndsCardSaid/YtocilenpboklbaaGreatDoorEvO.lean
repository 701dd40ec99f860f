import Derived.Test.YtocilenpboklbaaGreatDoorEvC
import Derived.Lib.ValidU
import Derived.Below
import Derived.Laws.Entries
import Derived.Laws.Cells
set_option linter.all false
namespace Go.Ev
theorem zQ : type_of% @Result.andThen_ok := @Result.andThen_ok
theorem zW : type_of% @Nat.eq_of_beq_eq_true := @Nat.eq_of_beq_eq_true
theorem zE : type_of% @Nat.le_of_ble_eq_true := @Nat.le_of_ble_eq_true
theorem zR : type_of% @Sem.run_bind := @Sem.run_bind
theorem zT : type_of% @Sem.run_pure := @Sem.run_pure
theorem zY : type_of% @Nat.le_refl := @Nat.le_refl
theorem zU : type_of% @Bool.and_eq_true := @Bool.and_eq_true
theorem zI : type_of% @Array.getElem?_eq_some_iff := @Array.getElem?_eq_some_iff
theorem zO : type_of% @List.length_cons := @List.length_cons
theorem zP : type_of% @List.length_append := @List.length_append
theorem zA : type_of% @List.mem_cons_of_mem := @List.mem_cons_of_mem
theorem zS : type_of% @List.length_nil := @List.length_nil
theorem zD : type_of% @List.nil_append := @List.nil_append
theorem zF : type_of% @Bool.false_eq_true := @Bool.false_eq_true
theorem zG : type_of% @Option.map_eq_some_iff := @Option.map_eq_some_iff
theorem zH : type_of% @List.not_mem_nil := @List.not_mem_nil
theorem zJ : type_of% @List.cons_append := @List.cons_append
theorem zK : type_of% @List.getElem?_eq_getElem := @List.getElem?_eq_getElem
theorem zL : type_of% @List.getElem?_toArray := @List.getElem?_toArray
@[simp] theorem abd {α : Type} (t e : α) : bc true t e = t := rfl
@[simp] theorem abc {α : Type} (t e : α) : bc false t e = e := rfl
theorem ac {α : Type} (c : Bool) (t e : α) : bc c t e = if c then t else e := by cases c <;> rfl
theorem N.get_set_same {α : Type} (i : I) (x : α) (t : N α) : N.get i (N.set i x t) = x := by cases i <;> rfl
theorem N.get_set_ne {α : Type} {i j : I} (h : i ≠ j) (x : α) (t : N α) : N.get i (N.set j x t) = N.get i t := by
 cases i <;> cases j <;> first | rfl | exact absurd rfl h
theorem N.get_all {α : Type} (i : I) (x : α) : N.get i (N.all x) = x := by cases i <;> rfl
theorem I.num_lt (i : I) : i.num < 16 := by cases i <;> decide
theorem I.num_inj {i j : I} (h : i.num = j.num) : i = j := by cases i <;> cases j <;> first | rfl | cases h
theorem I.of_num (x : Nat) (h : x < 16) : (I.of x).num = x := by
 match x, h with
 | 0, _ | 1, _ | 2, _ | 3, _ | 4, _ | 5, _ | 6, _ | 7, _ | 8, _ | 9, _ | 10, _ | 11, _ | 12, _ | 13, _ | 14, _ | 15, _ => rfl
 | n + 16, h => omega
theorem I.of_inj {x y : Nat} (hx : x < 16) (hy : y < 16) (h : I.of x = I.of y) : x = y := by
 rw [← I.of_num x hx, ← I.of_num y hy, h]
theorem I.next_num {i : I} (h : i.isMax = false) : i.next.num = i.num + 1 := by cases i <;> first | rfl | cases h
theorem I.max_num {i : I} (h : i.isMax = true) : i.num = 15 := by cases i <;> first | rfl | cases h
theorem K.num_mk (a b c d : I) : (K.mk a b c d).num = ((a.num * 16 + b.num) * 16 + c.num) * 16 + d.num := rfl
theorem K.num_inj {k l : K} (h : k.num = l.num) : k = l := by
 obtain ⟨a, b, c, d⟩ := k
 obtain ⟨a', b', c', d'⟩ := l
 simp only [K.num_mk] at h
 have h1 := a.num_lt; have h2 := b.num_lt; have h3 := c.num_lt; have h4 := d.num_lt
 have h1' := a'.num_lt; have h2' := b'.num_lt; have h3' := c'.num_lt; have h4' := d'.num_lt
 rw [I.num_inj (i := a) (j := a') (by omega), I.num_inj (i := b) (j := b') (by omega), I.num_inj (i := c) (j := c') (by omega), I.num_inj (i := d) (j := d') (by omega)]
theorem K.succ_num {k : K} (h : k.isMax = false) : k.succ.num = k.num + 1 := by
 obtain ⟨a, b, c, d⟩ := k
 show (bc d.isMax (bc c.isMax (bc b.isMax (K.mk a.next .i0 .i0 .i0) (.mk a b.next .i0 .i0)) (.mk a b c.next .i0)) (.mk a b c d.next)).num = _
 have h' : bc a.isMax (bc b.isMax (bc c.isMax d.isMax false) false) false = false := h
 cases hd : d.isMax
 ·simp only [abc, K.num_mk, I.next_num hd]; omega
 ·have := I.max_num hd
  cases hc : c.isMax
  ·simp only [abc, abd, K.num_mk, I.next_num hc]; show _ + 0 = _; omega
  ·have := I.max_num hc
   cases hb : b.isMax
   ·simp only [abc, abd, K.num_mk, I.next_num hb]; show (_ * 16 + 0) * 16 + 0 = _; omega
   ·have := I.max_num hb
    cases ha : a.isMax
    ·simp only [abd, K.num_mk, I.next_num ha]; show ((_ * 16 + 0) * 16 + 0) * 16 + 0 = _; omega
    ·rw [ha, hb, hc, hd] at h'; cases h'
theorem K.beq_iff (k l : K) : K.beq k l = true ↔ k = l := by
 constructor
 ·intro h; exact K.num_inj (zW h)
 ·rintro rfl; exact Nat.beq_refl _
theorem ai (k : K) (o : AObj) (h : H4) : aa k (dg k o h) = o := by
 obtain ⟨a, b, c, d⟩ := k
 show N.get d (N.get c (N.get b (N.get a (N.set a (N.set b (N.set c (N.set d o (N.get c (N.get b (N.get a h)))) (N.get b (N.get a h))) (N.get a h)) h)))) = o
 rw [N.get_set_same, N.get_set_same, N.get_set_same, N.get_set_same]
theorem az {k l : K} (hn : k ≠ l) (o : AObj) (h : H4) : aa k (dg l o h) = aa k h := by
 obtain ⟨a, b, c, d⟩ := k
 obtain ⟨a', b', c', d'⟩ := l
 show N.get d (N.get c (N.get b (N.get a (N.set a' (N.set b' (N.set c' (N.set d' o (N.get c' (N.get b' (N.get a' h)))) (N.get b' (N.get a' h))) (N.get a' h)) h)))) = N.get d (N.get c (N.get b (N.get a h)))
 by_cases ha : a = a'
 ·subst ha; rw [N.get_set_same]
  by_cases hb : b = b'
  ·subst hb; rw [N.get_set_same]
   by_cases hc : c = c'
   ·subst hc; rw [N.get_set_same]
    by_cases hd : d = d'
    ·subst hd; exact absurd rfl hn
    ·rw [N.get_set_ne hd]
   ·rw [N.get_set_ne hc]
  ·rw [N.get_set_ne hb]
 ·rw [N.get_set_ne ha]
theorem a0a (k : K) : aa k ah9 = .none := by
 obtain ⟨a, b, c, d⟩ := k
 show N.get d (N.get c (N.get b (N.get a ah9))) = _
 unfold ah9
 rw [N.get_all, N.get_all, N.get_all, N.get_all]
def mc : Cells → Nat
 | .c0 _ => 16
 | .c1 _ => 256
 | .c2 _ => 4096
 | .c3 _ => 65536
theorem abm {a b : Nat} (ha : a < 16) (hb : b < 16) (h : a ≠ b) : I.of a ≠ I.of b := fun e => h (I.of_inj ha hb e)
theorem ag4 (x : C0) (i j : Nat) (v : AV) : ud (aqd x i v) j = if i % 16 = j % 16 then v else ud x j := by
 show N.get (I.of (j % 16)) (N.set (I.of (i % 16)) v x) = if i % 16 = j % 16 then v else N.get (I.of (j % 16)) x
 by_cases h : i % 16 = j % 16
 ·rw [if_pos h, h, N.get_set_same]
 ·rw [if_neg h, N.get_set_ne (abm (by omega) (by omega) (fun e => h e.symm))]
theorem ag5 (x : C1) (i j : Nat) (v : AV) : sh (aqe x i v) j = if i % 256 = j % 256 then v else sh x j := by
 show ud (N.get (I.of (j / 16 % 16)) (N.set (I.of (i / 16 % 16)) (aqd (N.get (I.of (i / 16 % 16)) x) i v) x)) j = if i % 256 = j % 256 then v else ud (N.get (I.of (j / 16 % 16)) x) j
 by_cases h : i / 16 % 16 = j / 16 % 16
 ·rw [h, N.get_set_same, ag4]
  by_cases h' : i % 16 = j % 16
  ·rw [if_pos h', if_pos (by omega)]
  ·rw [if_neg h', if_neg (by omega)]
 ·rw [if_neg (by omega), N.get_set_ne (abm (by omega) (by omega) (fun e => h e.symm))]
theorem ag7 (x : C2) (i j : Nat) (v : AV) : si (aqf x i v) j = if i % 4096 = j % 4096 then v else si x j := by
 show sh (N.get (I.of (j / 256 % 16)) (N.set (I.of (i / 256 % 16)) (aqe (N.get (I.of (i / 256 % 16)) x) i v) x)) j = if i % 4096 = j % 4096 then v else sh (N.get (I.of (j / 256 % 16)) x) j
 by_cases h : i / 256 % 16 = j / 256 % 16
 ·rw [h, N.get_set_same, ag5]
  by_cases h' : i % 256 = j % 256
  ·rw [if_pos h', if_pos (by omega)]
  ·rw [if_neg h', if_neg (by omega)]
 ·rw [if_neg (by omega), N.get_set_ne (abm (by omega) (by omega) (fun e => h e.symm))]
theorem atp (x : C3) (i j : Nat) (v : AV) : ag8 (a2j x i v) j = if i % 65536 = j % 65536 then v else ag8 x j := by
 show si (N.get (I.of (j / 4096 % 16)) (N.set (I.of (i / 4096 % 16)) (aqf (N.get (I.of (i / 4096 % 16)) x) i v) x)) j = if i % 65536 = j % 65536 then v else si (N.get (I.of (j / 4096 % 16)) x) j
 by_cases h : i / 4096 % 16 = j / 4096 % 16
 ·rw [h, N.get_set_same, ag7]
  by_cases h' : i % 4096 = j % 4096
  ·rw [if_pos h', if_pos (by omega)]
  ·rw [if_neg h', if_neg (by omega)]
 ·rw [if_neg (by omega), N.get_set_ne (abm (by omega) (by omega) (fun e => h e.symm))]
theorem ada (c : Cells) (i : Nat) (v : AV) : mc (a2i c i v) = mc c := by cases c <;> rfl
theorem az0 (c : Cells) (i j : Nat) (v : AV) (hi : i < mc c) (hj : j < mc c) : uc (a2i c i v) j = if i = j then v else uc c j := by
 cases c with
 | c0 x => simp only [mc] at hi hj; show ud (aqd x i v) j = if i = j then v else ud x j; rw [ag4, Nat.mod_eq_of_lt hi, Nat.mod_eq_of_lt hj]
 | c1 x => simp only [mc] at hi hj; show sh (aqe x i v) j = if i = j then v else sh x j; rw [ag5, Nat.mod_eq_of_lt hi, Nat.mod_eq_of_lt hj]
 | c2 x => simp only [mc] at hi hj; show si (aqf x i v) j = if i = j then v else si x j; rw [ag7, Nat.mod_eq_of_lt hi, Nat.mod_eq_of_lt hj]
 | c3 x => simp only [mc] at hi hj; show ag8 (a2j x i v) j = if i = j then v else ag8 x j; rw [atp, Nat.mod_eq_of_lt hi, Nat.mod_eq_of_lt hj]
theorem azz (i : Nat) (c : Cells) : nd [] i c = c := rfl
theorem ag3 (v : AV) (l : List AV) (i : Nat) (c : Cells) : nd (v :: l) i c = nd l (i + 1) (a2i c i v) := rfl
theorem fw (l : List AV) : ∀ (i : Nat) (c : Cells), mc (nd l i c) = mc c := by
 induction l with
 | nil => intro i c; rfl
 | cons v l ih => intro i c; rw [ag3, ih, ada]
theorem ig (l : List AV) : ∀ (i : Nat) (c : Cells) (j : Nat), i + l.length ≤ mc c → j < mc c →
  uc (nd l i c) j = if h : i ≤ j ∧ j - i < l.length then l[j - i]'h.2 else uc c j := by
 induction l with
 | nil => intro i c j _ _; simp [azz]
 | cons v l ih =>
   intro i c j h1 h2
   simp only [zO] at h1
   rw [ag3, ih (i + 1) (a2i c i v) j (by rw [ada]; omega) (by rw [ada]; omega), az0 c i j v (by omega) h2]
   by_cases ha : i + 1 ≤ j ∧ j - (i + 1) < l.length
   ·rw [dif_pos ha, dif_pos ⟨by omega, by simp; omega⟩]
    have e : j - i = (j - (i + 1)) + 1 := by omega
    simp only [e, List.getElem_cons_succ]
   ·rw [dif_neg ha]
    by_cases hb : i = j
    ·subst hb; rw [if_pos rfl, dif_pos ⟨zY _, by simp⟩]; simp
    ·rw [if_neg hb, dif_neg (by simp; omega)]
theorem gx (n : Nat) (h : n ≤ 65536) : n ≤ mc (j5 n) := by
 unfold j5
 simp only [ac]
 split
 ·rename_i h1; exact zE h1
 ·split
  ·rename_i h1; exact zE h1
  ·split
   ·rename_i h1; exact zE h1
   ·exact h
theorem ax {α : Type} (l : List α) : cx l = l.length := by
 induction l with
 | nil => rfl
 | cons x l ih => show Nat.succ (cx l) = _; rw [ih]; rfl
theorem xh (c : Cells) (n : Nat) : ∀ i, nf c n i = (List.range n).map fun j => uc c (i + j) := by
 induction n with
 | zero => intro i; rfl
 | succ n ih =>
   intro i
   show uc c i :: nf c n (i + 1) = _
   rw [ih, List.range_succ_eq_map]
   simp only [List.map_cons, List.map_map, Nat.add_zero, List.cons.injEq, true_and]
   apply List.map_congr_left
   intro j _
   show uc c (i + 1 + j) = uc c (i + (j + 1))
   rw [show i + 1 + j = i + (j + 1) by omega]
theorem a62 (c : Cells) (n : Nat) (h : n ≤ 65536) : n ≤ mc (cup c n) ∧ mc c ≤ mc (cup c n) := by
 cases c with
 | c0 x =>
   show n ≤ mc (up0 x n) ∧ 16 ≤ mc (up0 x n)
   unfold up0
   simp only [ac]
   repeat' split
   all_goals (simp only [mc]; rename_i h1; first | (have := zE h1; omega) | omega)
 | c1 x =>
   show n ≤ mc (up1 x n) ∧ 256 ≤ mc (up1 x n)
   unfold up1
   simp only [ac]
   repeat' split
   all_goals (simp only [mc]; rename_i h1; first | (have := zE h1; omega) | omega)
 | c2 x =>
   show n ≤ mc (up2 x n) ∧ 4096 ≤ mc (up2 x n)
   unfold up2
   simp only [ac]
   repeat' split
   all_goals (simp only [mc]; rename_i h1; first | (have := zE h1; omega) | omega)
 | c3 x => exact ⟨h, zY _⟩
theorem ag6 (x : C0) (j : Nat) (h : j < 16) : sh (N.set .i0 x xf) j = ud x j := by
 show ud (N.get (I.of (j / 16 % 16)) (N.set .i0 x xf)) j = _
 rw [show j / 16 % 16 = 0 by omega]; rfl
theorem abk (x : C1) (j : Nat) (h : j < 256) : si (N.set .i0 x vi) j = sh x j := by
 show sh (N.get (I.of (j / 256 % 16)) (N.set .i0 x vi)) j = _
 rw [show j / 256 % 16 = 0 by omega]; rfl
theorem ag9 (x : C2) (j : Nat) (h : j < 4096) : ag8 (N.set .i0 x aag) j = si x j := by
 show si (N.get (I.of (j / 4096 % 16)) (N.set .i0 x aag)) j = _
 rw [show j / 4096 % 16 = 0 by omega]; rfl
theorem a2a (c : Cells) (n j : Nat) (h : j < mc c) : uc (cup c n) j = uc c j := by
 cases c with
 | c0 x =>
   simp only [mc] at h
   show uc (up0 x n) j = ud x j
   unfold up0
   simp only [ac]
   split
   ·rfl
   ·split
    ·exact ag6 x j h
    ·split
     ·exact (abk _ j (by omega)).trans (ag6 x j h)
     ·exact ((ag9 _ j (by omega)).trans (abk _ j (by omega))).trans (ag6 x j h)
 | c1 x =>
   simp only [mc] at h
   show uc (up1 x n) j = sh x j
   unfold up1
   simp only [ac]
   split
   ·rfl
   ·split
    ·exact abk _ j h
    ·exact (ag9 _ j (by omega)).trans (abk _ j h)
 | c2 x =>
   simp only [mc] at h
   show uc (up2 x n) j = si x j
   unfold up2
   simp only [ac]
   split
   ·rfl
   ·exact ag9 _ j h
 | c3 x => rfl
theorem a24 (i j i' j' : I) (v : AV) (t : F2) : ahw i' j' (aqn i j v t) = if i = i' ∧ j = j' then v else ahw i' j' t := by
 show N.get j' (N.get i' (N.set i (N.set j v (N.get i t)) t)) = if i = i' ∧ j = j' then v else N.get j' (N.get i' t)
 by_cases hi : i = i'
 ·subst hi; rw [N.get_set_same]
  by_cases hj : j = j'
  ·subst hj; rw [N.get_set_same]; simp
  ·rw [N.get_set_ne (fun e => hj e.symm)]; simp [hj]
 ·rw [N.get_set_ne (fun e => hi e.symm)]; simp [hi]
theorem abz {t : Nat} (h : t < 256) (lo hi : F2) : jj t (.mk lo hi) = ahw (I.of (t / 16)) (I.of (t % 16)) lo := by
 unfold jj; rw [show Nat.ble t 255 = true from Nat.ble_eq_true_of_le (by omega)]; rfl
theorem aby {t : Nat} (h : ¬ t < 256) (h' : t < 512) (lo hi : F2) : jj t (.mk lo hi) = ahw (I.of (t / 16 - 16)) (I.of (t % 16)) hi := by
 unfold jj
 rw [show Nat.ble t 255 = false from by rw [Bool.eq_false_iff]; intro e; have := zE e; omega, show Nat.ble t 511 = true from Nat.ble_eq_true_of_le (by omega)]; rfl
theorem uk {t : Nat} (h : 512 ≤ t) (τ : F) : jj t τ = .top := by
 unfold jj
 rw [show Nat.ble t 255 = false from by rw [Bool.eq_false_iff]; intro e; have := zE e; omega, show Nat.ble t 511 = false from by rw [Bool.eq_false_iff]; intro e; have := zE e; omega]; rfl
theorem a7b {t : Nat} (h : t < 256) (v : AV) (lo hi : F2) : aqt t v (.mk lo hi) = .mk (aqn (I.of (t / 16)) (I.of (t % 16)) v lo) hi := by
 unfold aqt; rw [show Nat.ble t 255 = true from Nat.ble_eq_true_of_le (by omega)]; rfl
theorem a7a {t : Nat} (h : ¬ t < 256) (v : AV) (lo hi : F2) : aqt t v (.mk lo hi) = .mk lo (aqn (I.of (t / 16 - 16)) (I.of (t % 16)) v hi) := by
 unfold aqt
 rw [show Nat.ble t 255 = false from by rw [Bool.eq_false_iff]; intro e; have := zE e; omega]; rfl
theorem of2 {a b : Nat} (ha : a < 256) (hb : b < 256) : (I.of (a / 16) = I.of (b / 16) ∧ I.of (a % 16) = I.of (b % 16)) ↔ a = b := by
 constructor
 ·rintro ⟨h1, h2⟩
  have := I.of_inj (by omega) (by omega) h1
  have := I.of_inj (by omega) (by omega) h2
  omega
 ·rintro rfl; exact ⟨rfl, rfl⟩
theorem bi7 {a b : Nat} (ha : a < 512) (hb : b < 512) (ha' : 256 ≤ a) (hb' : 256 ≤ b) : (I.of (a / 16 - 16) = I.of (b / 16 - 16) ∧ I.of (a % 16) = I.of (b % 16)) ↔ a = b := by
 constructor
 ·rintro ⟨h1, h2⟩
  have := I.of_inj (by omega) (by omega) h1
  have := I.of_inj (by omega) (by omega) h2
  omega
 ·rintro rfl; exact ⟨rfl, rfl⟩
theorem yp (t t' : Nat) (v : AV) (τ : F) (h : t < 512) (h' : t' < 512) : jj t' (aqt t v τ) = if t = t' then v else jj t' τ := by
 obtain ⟨lo, hi⟩ := τ
 by_cases a : t < 256
 ·rw [a7b a]
  by_cases b : t' < 256
  ·rw [abz b, abz b, a24]; simp only [of2 a b]
  ·rw [aby b h', aby b h', if_neg (by omega)]
 ·rw [a7a a]
  by_cases b : t' < 256
  ·rw [abz b, abz b, if_neg (by omega)]
  ·rw [aby b h', aby b h', a24]; simp only [bi7 h h' (by omega) (by omega)]
theorem az6 (t : Nat) (h : t < 512) : jj t jv = jo := by
 have e : ∀ i j, ahw i j ahx = jo := by intro i j; show N.get j (N.get i ahx) = _; unfold ahx; rw [N.get_all, N.get_all]
 unfold jv
 by_cases a : t < 256
 ·rw [abz a, e]
 ·rw [aby a h, e]
end Go.Ev
set_option linter.all false
namespace Go.Ev
def ag1 (l : List Int) : ByteArray := ⟨(l.map fun x => UInt8.ofNat x.toNat).toArray⟩
def awd : Nat → List Int → Nat → List Int
 | 0, _, _ => []
 | f + 1, s, p => if p < s.length then ((Utf8.decode (ag1 s) p).1 : Int) :: awd f s (p + (Utf8.decode (ag1 s) p).2) else []
def l9 (s : List Int) (p : Nat) : List Int := awd s.length s p
def bir (s : List Int) (p : Int) (r : List Int) : Prop := 0 ≤ p ∧ p ≤ (s.length : Int) ∧ (r.length : Int) ≤ p ∧ s.length ≤ 4000
def xc (op : Nat) (k : IntKind) (a b : Int) : Int := match op with
 | 8 => (ez .and k a b).getD 0
 | 9 => (ez .or k a b).getD 0
 | 11 => k.wrap (a * 2 ^ (min b.toNat k.bits))
 | 12 => a.fdiv (2 ^ (min b.toNat k.bits))
 | 13 => (ez .andNot k a b).getD 0
 | _ => 0
def chA (R : List Int) (p : Int) : Int := if p < (R.length : Int) then R.getD p.toNat 0 else -1
def bas (c : Int) : Int := if c = 9 ∨ c = 10 ∨ c = 12 ∨ c = 13 ∨ c = 32 then 1 else 0
def a66 (c : Int) : Int := if c = 40 ∨ c = 41 ∨ c = 91 ∨ c = 93 ∨ c = 34 ∨ c = 39 ∨ c = 96 ∨ c = 44 ∨ c = 59 ∨ bas c = 1 then 1 else 0
def a8h (R : List Int) (p : Int) : Int := if p < (R.length : Int) then a66 (R.getD p.toNat 0) else 1
def bf3 (R : List Int) : Prop := R.length ≤ 4000 ∧ ∀ x ∈ R, 0 ≤ x ∧ x < 1114112
def bf (R : List Int) (p b : Int) : Int :=
 if _h : p < (R.length : Int) then
  if b = 1 then bf R (p + 1) (if R.getD p.toNat 0 = 10 then 0 else 1)
  else if R.getD p.toNat 0 = 59 then bf R (p + 1) 1
  else if bas (R.getD p.toNat 0) = 1 then bf R (p + 1) 0
  else p
 else p
termination_by ((R.length : Int) - p).toNat
decreasing_by all_goals omega
def sh8 (c n : Int) : Int := IntKind.u8.wrap (xc 12 .i32 c n)
def lo8 (x : Int) : Int := xc 9 .u8 128 (xc 8 .u8 x 63)
def aqj (c : Int) : List Int :=
 if 127 < c then
  if 2047 < c then
   if c < 55296 then [xc 9 .u8 224 (sh8 c 12), lo8 (sh8 c 6), lo8 (IntKind.u8.wrap c)]
   else if 57343 < c then
    if 65535 < c then [xc 9 .u8 240 (sh8 c 18), lo8 (sh8 c 12), lo8 (sh8 c 6), lo8 (IntKind.u8.wrap c)]
    else [xc 9 .u8 224 (sh8 c 12), lo8 (sh8 c 6), lo8 (IntKind.u8.wrap c)]
   else [239, 191, 189]
  else [xc 9 .u8 192 (sh8 c 6), lo8 (IntKind.u8.wrap c)]
 else [c]
structure TK where
 f : Int
 p : Int
 b : List Int
 q : Int
def au9 (R : List Int) (p : Int) (b : List Int) (q : Int) : TK :=
 if _h : p < (R.length : Int) then
  if a66 (R.getD p.toNat 0) = 1 then ⟨0, p, b, q⟩
  else if R.getD p.toNat 0 = 92 then
   (if p + 1 < (R.length : Int) then au9 R (p + 2) (b ++ aqj (R.getD (p + 1).toNat 0)) 1 else ⟨5, 0, [], 0⟩)
  else au9 R (p + 1) (b ++ aqj (R.getD p.toNat 0)) q
 else ⟨0, p, b, q⟩
termination_by ((R.length : Int) - p).toNat
decreasing_by all_goals omega
def axq (s : List Int) : List Int := s.dropWhile fun c => decide (c = 43 ∨ c = 45)
structure NR where
 k : Int
 n : Int
def drJ (s : List Int) (p : Int) : Int := ((Utf8.decode (ag1 s) p.toNat).1 : Int)
def dwJ (s : List Int) (p : Int) : Int := ((Utf8.decode (ag1 s) p.toNat).2 : Int)
def a4o (d : List Int) (p sum most fits : Int) : NR :=
 if _h : p < (d.length : Int) then
  if drJ d p < 48 ∨ 57 < drJ d p then ⟨0, 0⟩
  else if _h2 : 0 < dwJ d p then
   (if most < (sum * 10 % 18446744073709551616 + (drJ d p - 48)) % 18446744073709551616 then a4o d (p + dwJ d p) most most 0
    else a4o d (p + dwJ d p) ((sum * 10 % 18446744073709551616 + (drJ d p - 48)) % 18446744073709551616) most fits)
  else ⟨0, 0⟩
 else ⟨if fits = 1 then 1 else 2, sum⟩
termination_by ((d.length : Int) - p).toNat
decreasing_by all_goals omega
def bey (s : List Int) : Int := if s.getD 0 0 = 45 then 1 else 0
def bbs (s : List Int) : NR := if axq s = [] ∨ (s.length : Int) - ((axq s).length : Int) > 1 then ⟨0, 0⟩ else a4o (axq s) 0 0 (if bey s = 1 then 2305843009213693952 else 2305843009213693951) 1
def a72 (s : List Int) : Int := (bbs s).k
def bfe (s : List Int) : Int := if bey s = 1 then -(bbs s).n else (bbs s).n
def az2 (s : List Int) (p : Int) : Int :=
 if _h : p < (s.length : Int) then (if _h2 : 0 < dwJ s p then 1 + az2 s (p + dwJ s p) else 0) else 0
termination_by ((s.length : Int) - p).toNat
decreasing_by all_goals omega
def aj1 (s : List Int) : Int := if Lib.validD (s.map fun x => UInt8.ofNat x.toNat) = true then 1 else 0
def a9v : Nat → List Int → List (List Int × Int)
 | 0, _ => []
 | _ + 1, [] => []
 | _ + 1, [_] => []
 | f + 1, n :: k :: l => (l.take k.toNat, n) :: a9v f (l.drop k.toNat)
def a4d (l : List Int) : List (List Int × Int) := (a9v l.length l).reverse
def bim (G s : List Int) : Int := if ((a4d G).lookup s).isSome then 1 else 0
def bil (G s : List Int) : Int := ((a4d G).lookup s).getD 0
def a6z (G : List Int) : Int := ((a4d G).length : Int)
structure IR where
 f : Int
 n : Int
 G : List Int
def vu (G s : List Int) : IR :=
 if aj1 s = 0 then ⟨5, 0, G⟩
 else if 1000 < az2 s 0 then ⟨4, 0, G⟩
 else if bim G s = 1 then ⟨0, bil G s, G⟩
 else if a6z G < 16384 then ⟨0, a6z G, a6z G :: (s.length : Int) :: (s ++ G)⟩
 else ⟨7, 0, G⟩
def hL (h : List Int) : Int := h.getD 0 0
def hM (h : List Int) : Int := h.getD 1 0
def hU (h : List Int) : Int := h.getD 2 0
def a9o (h : List Int) : Prop := h = [hL h, hM h, hU h] ∧ 1 ≤ hL h ∧ hL h ≤ 50000 ∧ 0 ≤ hM h ∧ hM h ≤ hL h ∧ 0 ≤ hU h ∧ hU h ≤ 1048576
structure AR where
 f : Int
 h : List Int
def ath (h : List Int) (z : Int) : AR := if hM h = hL h ∨ 1048576 < hU h + z then ⟨7, h⟩ else ⟨0, [hL h, hM h + 1, hU h + z]⟩
def bcc (h : List Int) (n : Int) : AR := if 65536 < n then ⟨4, h⟩ else ath h n
def ass (h s : List Int) : AR := if aj1 s = 0 then ⟨5, h⟩ else if 65536 < az2 s 0 then ⟨4, h⟩ else ath h (az2 s 0)
structure CN where
 f : Int
 k : Int
 n : Int
 h : List Int
def a2b : Nat → List Int → Int → Int → CN
 | 0, h, k, n => ⟨0, k, n, h⟩
 | i + 1, h, k, n => if (ath h 0).f = 0 then a2b i (ath h 0).h 2 (hM h) else ⟨(ath h 0).f, 0, 0, h⟩
def adb (i : Int) (h : List Int) (k n : Int) : CN := a2b i.toNat h k n
def a5g (c : Int) : Int := if c = 110 then 10 else if c = 116 then 9 else if c = 101 then 27 else -1
def ba5 (c : Int) : Int := if 48 ≤ c ∧ c ≤ 57 then c - 48 else if 97 ≤ c ∧ c ≤ 102 then c - 87 else if 65 ≤ c ∧ c ≤ 70 then c - 55 else -1
structure ER where
 f : Int
 a : Int
 c : Int
 p : Int
def akk (R : List Int) (p c n : Int) : ER :=
 if _h : n < 6 ∧ p < (R.length : Int) then
  if ba5 (R.getD p.toNat 0) < 0 then ⟨0, n, c, p⟩
  else akk R (p + 1) (xc 9 .i64 (xc 11 .i64 c 4) (ba5 (R.getD p.toNat 0))) (n + 1)
 else ⟨0, n, c, p⟩
termination_by ((R.length : Int) - p).toNat
decreasing_by all_goals omega
def at6 (c : Int) : Int := if 0 ≤ c ∧ c ≤ 1114111 ∧ ¬(55296 ≤ c ∧ c ≤ 57343) then 1 else 0
def a2e (R : List Int) (p at_ : Int) : ER :=
 if (akk R p 0 0).p < (R.length : Int) then
  if (akk R p 0 0).a = 0 ∨ R.getD (akk R p 0 0).p.toNat 0 ≠ 92 ∨ at6 (akk R p 0 0).c = 0 then ⟨5, at_, 0, 0⟩
  else ⟨0, 0, (akk R p 0 0).c, (akk R p 0 0).p + 1⟩
 else ⟨5, (R.length : Int), 0, 0⟩
def ae6 (R : List Int) (p : Int) : ER :=
 if p < (R.length : Int) then
  if R.getD p.toNat 0 = 10 then ⟨0, 0, -1, p + 1⟩
  else if R.getD p.toNat 0 = 92 ∨ R.getD p.toNat 0 = 34 then ⟨0, 0, R.getD p.toNat 0, p + 1⟩
  else if R.getD p.toNat 0 = 120 then a2e R (p + 1) (p - 1)
  else if a5g (R.getD p.toNat 0) < 0 then ⟨5, p - 1, 0, 0⟩
  else ⟨0, 0, a5g (R.getD p.toNat 0), p + 1⟩
 else ⟨5, (R.length : Int), 0, 0⟩
structure TX where
 f : Int
 a : Int
 b : List Int
 p : Int
def asx (R : List Int) (p : Int) (b : List Int) : TX :=
 if _h : p < (R.length : Int) then
  if R.getD p.toNat 0 = 34 then ⟨0, 0, b, p + 1⟩
  else if R.getD p.toNat 0 = 92 then
   (if (ae6 R (p + 1)).f = 0 then
     (if _h2 : p < (ae6 R (p + 1)).p then
       (if (ae6 R (p + 1)).c < 0 then asx R (ae6 R (p + 1)).p b else asx R (ae6 R (p + 1)).p (b ++ aqj (ae6 R (p + 1)).c))
      else ⟨5, 0, [], 0⟩)
    else ⟨(ae6 R (p + 1)).f, (ae6 R (p + 1)).a, [], 0⟩)
  else asx R (p + 1) (b ++ aqj (R.getD p.toNat 0))
 else ⟨5, (R.length : Int), [], 0⟩
termination_by ((R.length : Int) - p).toNat
decreasing_by all_goals omega
def bbo (R : List Int) (p : Int) : Int := if chA R p = 92 ∧ chA R (p + 2) = 45 then (if chA R (p + 1) = 67 then 67108864 else if chA R (p + 1) = 77 then 134217728 else if chA R (p + 1) = 83 then 33554432 else 0) else 0
structure PR where
 p : Int
 b : Int
def aiu (R : List Int) (p b : Int) : PR :=
 if _h : p < (R.length : Int) then (if bbo R p = 0 then ⟨p, b⟩ else aiu R (p + 3) (xc 9 .i64 b (bbo R p))) else ⟨p, b⟩
termination_by ((R.length : Int) - p).toNat
decreasing_by all_goals omega
def agw (R : List Int) (p : Int) : ER :=
 if p < (R.length : Int) then
  if R.getD p.toNat 0 = 92 then
   (if p + 1 < (R.length : Int) then
     (if a5g (R.getD (p + 1).toNat 0) < 0 then
       (if R.getD (p + 1).toNat 0 = 115 then ⟨0, 0, 32, p + 2⟩
        else if R.getD (p + 1).toNat 0 = 100 then ⟨0, 0, 127, p + 2⟩
        else if 97 ≤ R.getD (p + 1).toNat 0 ∧ R.getD (p + 1).toNat 0 ≤ 122 ∨ 65 ≤ R.getD (p + 1).toNat 0 ∧ R.getD (p + 1).toNat 0 ≤ 90 then ⟨5, p, 0, 0⟩
        else ⟨0, 0, R.getD (p + 1).toNat 0, p + 2⟩)
      else ⟨0, 0, a5g (R.getD (p + 1).toNat 0), p + 2⟩)
    else ⟨5, (R.length : Int), 0, 0⟩)
  else ⟨0, 0, R.getD p.toNat 0, p + 1⟩
 else ⟨5, (R.length : Int), 0, 0⟩
def bia (c b : Int) : Int :=
 if xc 8 .i64 b 67108864 = 0 then xc 9 .i64 c b
 else if 97 ≤ c ∧ c ≤ 122 ∨ 64 ≤ c ∧ c ≤ 95 then xc 9 .i64 (c.tmod 32) (xc 13 .i64 b 67108864)
 else if c = 63 then xc 9 .i64 127 (xc 13 .i64 b 67108864)
 else xc 9 .i64 c b
def aqa (R : List Int) (q : Int) : ER :=
 if (agw R (aiu R (q + 1) 0).p).f = 0 then
  if a8h R (agw R (aiu R (q + 1) 0).p).p = 1 then ⟨0, 0, bia (agw R (aiu R (q + 1) 0).p).c (aiu R (q + 1) 0).b, (agw R (aiu R (q + 1) 0).p).p⟩
  else ⟨5, (agw R (aiu R (q + 1) 0).p).p, 0, 0⟩
 else ⟨(agw R (aiu R (q + 1) 0).p).f, (agw R (aiu R (q + 1) 0).p).a, 0, 0⟩
structure FR where
 f : Int
 a : Int
 k : Int
 n : Int
 p : Int
 h : List Int
 G : List Int
def bad (f a : Int) : FR := ⟨f, a, 0, 0, 0, [], []⟩
def bgc (G s : List Int) (at_ p : Int) (h : List Int) : FR := if (vu G s).f = 0 then ⟨0, 0, 1, (vu G s).n, p, h, (vu G s).G⟩ else bad (vu G s).f at_
def bjj (t : TK) (len q : Int) (h G : List Int) : FR :=
 if t.f = 0 then
  if t.q = 0 ∧ a72 t.b = 2 then bad 15 q
  else if t.q = 0 ∧ a72 t.b = 1 then ⟨0, 0, 0, bfe t.b, t.p, h, G⟩
  else if t.q = 0 ∧ t.b = [46] then bad 5 q
  else if 1000 < az2 t.b 0 then bad 4 q
  else bgc G t.b q t.p h
 else bad 5 len
def bjm (t : TX) (q : Int) (h G : List Int) : FR :=
 if t.f = 0 then (if (ass h t.b).f = 0 then ⟨0, 0, 3, hM h, t.p, (ass h t.b).h, G⟩ else bad (ass h t.b).f q) else bad t.f t.a
def bh7 (t : ER) (h G : List Int) : FR := if t.f = 0 then ⟨0, 0, 0, t.c, t.p, h, G⟩ else bad t.f t.a
def bek (c : CN) (q p : Int) (G : List Int) : FR := if c.f = 0 then ⟨0, 0, c.k, c.n, p, c.h, G⟩ else bad c.f q
def bjp (v : AR) (q p n : Int) (G : List Int) : FR := if v.f = 0 then ⟨0, 0, 4, n, p, v.h, G⟩ else bad v.f q
def a75 (r : FR) (q : Int) : FR := if r.f = 0 then bek (adb 2 r.h 1 0) q r.p r.G else r
theorem acq (R : List Int) : ∀ (n : Nat) (p b : Int), ((R.length : Int) - p).toNat ≤ n → p ≤ bf R p b
 | 0, p, b, h => by rw [bf, dif_neg (by omega)]; exact Int.le_refl _
 | n + 1, p, b, h => by
   rw [bf]
   split
   ·split
    ·have := acq R n (p + 1) (if R.getD p.toNat 0 = 10 then 0 else 1) (by omega); omega
    ·split
     ·have := acq R n (p + 1) 1 (by omega); omega
     ·split
      ·have := acq R n (p + 1) 0 (by omega); omega
      ·exact Int.le_refl _
   ·exact Int.le_refl _
theorem an9 (R : List Int) (p b : Int) : p ≤ bf R p b := acq R _ p b (zY _)
mutual
def fg (R : List Int) (p o : Int) (h G : List Int) : FR :=
 if hq : bf R p 0 < (R.length : Int) then
  if chA R (bf R p 0) = 40 then (if 200 ≤ o then bad 12 (bf R p 0) else aaa R (bf R p 0 + 1) (o + 1) (bf R p 0) 0 1 0 h G)
  else if chA R (bf R p 0) = 91 then (if 200 ≤ o then bad 12 (bf R p 0) else as0 R (bf R p 0 + 1) (o + 1) (bf R p 0) 0 h G)
  else if chA R (bf R p 0) = 41 ∨ chA R (bf R p 0) = 93 then bad 5 (bf R p 0)
  else if chA R (bf R p 0) = 34 then bjm (asx R (bf R p 0 + 1) []) (bf R p 0) h G
  else if chA R (bf R p 0) = 63 then bh7 (aqa R (bf R p 0)) h G
  else if chA R (bf R p 0) = 39 ∨ chA R (bf R p 0) = 96 then (if 200 ≤ o then bad 12 (bf R p 0) else a75 (fg R (bf R p 0 + 1) (o + 1) h G) (bf R p 0))
  else if chA R (bf R p 0) = 44 then
   (if chA R (bf R p 0 + 1) = 64 then (if 200 ≤ o then bad 12 (bf R p 0) else a75 (fg R (bf R p 0 + 2) (o + 1) h G) (bf R p 0))
    else (if 200 ≤ o then bad 12 (bf R p 0) else a75 (fg R (bf R p 0 + 1) (o + 1) h G) (bf R p 0)))
  else if chA R (bf R p 0) = 35 then
   (if chA R (bf R p 0 + 1) = 39 then (if 200 ≤ o then bad 12 (bf R p 0) else a75 (fg R (bf R p 0 + 2) (o + 1) h G) (bf R p 0))
    else if chA R (bf R p 0 + 1) = 35 ∧ a8h R (bf R p 0 + 2) = 1 then bgc G [] (bf R p 0) (bf R p 0 + 2) h
    else bad 5 (bf R p 0))
  else bjj (au9 R (bf R p 0) [] 0) (R.length : Int) (bf R p 0) h G
 else bad 5 (R.length : Int)
termination_by 2 * ((R.length : Int) - p).toNat + 1
decreasing_by all_goals (have := an9 R p 0; omega)
def aaa (R : List Int) (p o at_ cnt tk tn : Int) (h G : List Int) : FR :=
 if hs : bf R p 0 < (R.length : Int) then
  if chA R (bf R p 0) = 41 then bek (adb cnt h tk tn) at_ (bf R p 0 + 1) G
  else if chA R (bf R p 0) = 46 ∧ a8h R (bf R p 0 + 1) = 1 ∧ 0 < cnt then
   (if (fg R (bf R p 0 + 1) o h G).f = 0 then
     (if hp : bf R p 0 < bf R (fg R (bf R p 0 + 1) o h G).p 0 then
       (if chA R (bf R (fg R (bf R p 0 + 1) o h G).p 0) = 41 then aaa R (bf R (fg R (bf R p 0 + 1) o h G).p 0) o at_ cnt (fg R (bf R p 0 + 1) o h G).k (fg R (bf R p 0 + 1) o h G).n (fg R (bf R p 0 + 1) o h G).h (fg R (bf R p 0 + 1) o h G).G
        else bad 5 (bf R (fg R (bf R p 0 + 1) o h G).p 0))
      else bad 5 0)
    else fg R (bf R p 0 + 1) o h G)
  else
   (if (fg R (bf R p 0) o h G).f = 0 then
     (if hp : bf R p 0 < (fg R (bf R p 0) o h G).p then aaa R (fg R (bf R p 0) o h G).p o at_ (cnt + 1) tk tn (fg R (bf R p 0) o h G).h (fg R (bf R p 0) o h G).G else bad 5 0)
    else fg R (bf R p 0) o h G)
 else bad 5 (R.length : Int)
termination_by 2 * ((R.length : Int) - p).toNat + 2
decreasing_by all_goals (have := an9 R p 0; omega)
def as0 (R : List Int) (p o at_ cnt : Int) (h G : List Int) : FR :=
 if hs : bf R p 0 < (R.length : Int) then
  if chA R (bf R p 0) = 93 then bjp (bcc h cnt) at_ (bf R p 0 + 1) (hM h) G
  else
   (if (fg R (bf R p 0) o h G).f = 0 then
     (if hp : bf R p 0 < (fg R (bf R p 0) o h G).p then as0 R (fg R (bf R p 0) o h G).p o at_ (cnt + 1) (fg R (bf R p 0) o h G).h (fg R (bf R p 0) o h G).G else bad 5 0)
    else fg R (bf R p 0) o h G)
 else bad 5 (R.length : Int)
termination_by 2 * ((R.length : Int) - p).toNat + 2
decreasing_by all_goals (have := an9 R p 0; omega)
end
structure AW where
 f : Int
 a : Int
 l : List Int
 h : List Int
 G : List Int
def ac4 (R : List Int) (p : Int) (l h G : List Int) : AW :=
 if hs : p < (R.length : Int) then
  (if (fg R p 0 h G).f = 0 then
    (if hp : p < bf R (fg R p 0 h G).p 0 then ac4 R (bf R (fg R p 0 h G).p 0) (l ++ [(fg R p 0 h G).k, (fg R p 0 h G).n]) (fg R p 0 h G).h (fg R p 0 h G).G else ⟨5, 0, [], [], []⟩)
   else ⟨(fg R p 0 h G).f, (fg R p 0 h G).a, [], [], []⟩)
 else ⟨0, 0, l, h, G⟩
termination_by ((R.length : Int) - p).toNat
decreasing_by all_goals omega
def bjc (s : List Int) (p i : Int) (L : List Int) (n : Int) (h1 G1 h G : List Int) : Prop :=
 s.length ≤ 1500 ∧ 1 ≤ s.length ∧ aj1 s = 1 ∧ 0 ≤ p ∧ p ≤ ((l9 s 0).length : Int) ∧ 0 ≤ i ∧ i ≤ p ∧ 1 ≤ n ∧ i ≤ n ∧ n ≤ 1500 ∧ (L.length : Int) = 2 * n ∧
  (ac4 (l9 s 0) (bf (l9 s 0) p 0) [] h G).f = 0 ∧ (ac4 (l9 s 0) (bf (l9 s 0) p 0) [] h G).l = L.drop (2 * i).toNat ∧
  (ac4 (l9 s 0) (bf (l9 s 0) p 0) [] h G).h = h1 ∧ (ac4 (l9 s 0) (bf (l9 s 0) p 0) [] h G).G = G1
def bjd (s : List Int) (p i f a : Int) (h G : List Int) : Prop :=
 s.length ≤ 1500 ∧ 1 ≤ s.length ∧ aj1 s = 1 ∧ 0 ≤ p ∧ p ≤ ((l9 s 0).length : Int) ∧ 0 ≤ i ∧ i ≤ p ∧
  (ac4 (l9 s 0) (bf (l9 s 0) p 0) [] h G).f = f ∧ (ac4 (l9 s 0) (bf (l9 s 0) p 0) [] h G).a = a ∧ f ≠ 0
def ptN (s : List Int) : Int := if drJ s 0 = 65533 ∧ dwJ s 0 ≤ 1 then 0 else dwJ s 0
def ptC (s : List Int) : Int := if drJ s 0 = 65533 ∧ dwJ s 0 ≤ 1 then 0 else drJ s 0
def bib (l : List Int) (i n : Int) : List Int := ((l.take n.toNat).drop i.toNat).flatMap aqj
def hxd (d : Int) : Int := if d < 10 then 48 + d else 87 + d
def bdt : Nat → Int → List Int
 | 0, _ => []
 | f + 1, c => if c < 16 then [hxd c] else bdt f (c / 16) ++ [hxd (c % 16)]
def bdu (c : Int) : List Int := bdt 8 c
def bic (c : Int) : List Int := 92 :: 120 :: (bdu c ++ [92])
def isE (c b : Int) : Prop := ¬ b = 0 ∨ c = 34 ∨ c = 92
instance (c b : Int) : Decidable (isE c b) := by unfold isE; infer_instance
def bi9 (c b : Int) : List Int := if isE c b then bic c else aqj c
def bgb : List Int → List Int → List Int
 | c :: l, y :: by_ => bi9 c y ++ bgb l by_
 | _, _ => []
def bh6 (l : List Int) (i : Int) : Int := if (l.drop i.toNat).all (fun c => at6 c == 1) then 1 else 0
def bga (k c : Int) : Int := if c = 92 then 1 else if k = 0 then (if c = 34 then 1 else 0) else a66 c
def a78 (k : Int) (s : List Int) (p : Int) : List Int :=
 if _h : p < (s.length : Int) then (if _h2 : 0 < dwJ s p then (if bga k (drJ s p) = 1 then [92] else []) ++ (aqj (drJ s p) ++ a78 k s (p + dwJ s p)) else []) else []
termination_by ((s.length : Int) - p).toNat
decreasing_by all_goals omega
def ats : Nat → Int → List Int
 | 0, _ => []
 | f + 1, n => if n < 10 then [48 + n] else ats f (n / 10) ++ [48 + n % 10]
def ae5 (n : Int) : List Int := if n < 0 then 45 :: ats 20 (-n) else ats 20 n
def bd3 (c : Int) : Bool := decide (48 ≤ c ∧ c ≤ 57)
def atu (s : List Int) : List Int := (s.reverse.dropWhile bd3).reverse
def att (s : List Int) : List Int := s.dropWhile bd3
def bf8 (s : List Int) : List Int := match s with
 | c :: l => if c = 43 ∨ c = 45 then l else c :: l
 | [] => []
def bfd (s : List Int) : Int := if bf8 s ≠ [] ∧ att (atu (bf8 s)) = [] then 1 else 0
def a9w (s : List Int) : List Int := if s = [46] ∨ bfd s = 1 ∨ s.headD 0 = 63 ∨ s.headD 0 = 35 ∨ s.headD 0 = 64 then 92 :: a78 1 s 0 else a78 1 s 0
def syA (s : List Int) : List Int := if s = [] then [35, 35] else a9w s
def bjg (b : List Int) (q : Int) : Int := if q = 1 ∨ (a72 b = 0 ∧ b ≠ [46]) then 1 else 0
def g0L : List Int := [61, 27, 99, 121, 99, 108, 105, 99, 45, 102, 117, 110, 99, 116, 105, 111, 110, 45, 105, 110, 100, 105, 114, 101, 99, 116, 105, 111, 110, 60, 16, 98, 117, 102, 102, 101, 114, 45, 114, 101, 97, 100, 45, 111, 110, 108, 121, 59, 10, 117, 115, 101, 114, 45, 101, 114, 114, 111, 114, 58, 14, 105, 110, 118, 97, 108, 105, 100, 45, 114, 101, 103, 101, 120, 112, 57, 13, 115, 101, 97, 114, 99, 104, 45, 102, 97, 105, 108, 101, 100, 56, 13, 101, 110, 100, 45, 111, 102, 45, 98, 117, 102, 102, 101, 114, 55, 19, 98, 101, 103, 105, 110, 110, 105, 110, 103, 45, 111, 102, 45, 98, 117, 102, 102, 101, 114, 54, 14, 116, 101, 120, 116, 45, 114, 101, 97, 100, 45, 111, 110, 108, 121, 53, 11, 109, 101, 109, 111, 114, 121, 45, 102, 117, 108, 108, 52, 22, 101, 120, 99, 101, 115, 115, 105, 118, 101, 45, 108, 105, 115, 112, 45, 110, 101, 115, 116, 105, 110, 103, 51, 13, 99, 105, 114, 99, 117, 108, 97, 114, 45, 108, 105, 115, 116, 50, 11, 101, 110, 100, 45, 111, 102, 45, 102, 105, 108, 101, 49, 19, 105, 110, 118, 97, 108, 105, 100, 45, 114, 101, 97, 100, 45, 115, 121, 110, 116, 97, 120, 48, 16, 105, 110, 118, 97, 108, 105, 100, 45, 102, 117, 110, 99, 116, 105, 111, 110, 47, 8, 110, 111, 45, 99, 97, 116, 99, 104, 46, 16, 115, 101, 116, 116, 105, 110, 103, 45, 99, 111, 110, 115, 116, 97, 110, 116, 45, 14, 111, 118, 101, 114, 102, 108, 111, 119, 45, 101, 114, 114, 111, 114, 44, 11, 97, 114, 105, 116, 104, 45, 101, 114, 114, 111, 114, 43, 17, 97, 114, 103, 115, 45, 111, 117, 116, 45, 111, 102, 45, 114, 97, 110, 103, 101, 42, 25, 119, 114, 111, 110, 103, 45, 110, 117, 109, 98, 101, 114, 45, 111, 102, 45, 97, 114, 103, 117, 109, 101, 110, 116, 115, 41, 19, 119, 114, 111, 110, 103, 45, 116, 121, 112, 101, 45, 97, 114, 103, 117, 109, 101, 110, 116, 40, 13, 118, 111, 105, 100, 45, 102, 117, 110, 99, 116, 105, 111, 110, 39, 13, 118, 111, 105, 100, 45, 118, 97, 114, 105, 97, 98, 108, 101, 38, 4, 113, 117, 105, 116, 37, 5, 101, 114, 114, 111, 114, 36, 6, 115, 105, 103, 110, 97, 108, 35, 5, 116, 104, 114, 111, 119, 34, 4, 101, 118, 97, 108, 33, 4, 109, 97, 112, 99, 32, 6, 109, 97, 112, 99, 97, 114, 31, 5, 97, 112, 112, 108, 121, 30, 7, 102, 117, 110, 99, 97, 108, 108, 29, 11, 105, 110, 116, 101, 114, 97, 99, 116, 105, 118, 101, 28, 8, 100, 101, 102, 109, 97, 99, 114, 111, 27, 5, 100, 101, 102, 117, 110, 26, 8, 100, 101, 102, 99, 111, 110, 115, 116, 25, 6, 100, 101, 102, 118, 97, 114, 24, 14, 99, 111, 110, 100, 105, 116, 105, 111, 110, 45, 99, 97, 115, 101, 23, 14, 117, 110, 119, 105, 110, 100, 45, 112, 114, 111, 116, 101, 99, 116, 22, 5, 99, 97, 116, 99, 104, 21, 4, 108, 101, 116, 42, 20, 3, 108, 101, 116, 19, 4, 115, 101, 116, 113, 18, 5, 112, 114, 111, 103, 49, 17, 5, 112, 114, 111, 103, 110, 16, 5, 119, 104, 105, 108, 101, 15, 2, 111, 114, 14, 3, 97, 110, 100, 13, 4, 99, 111, 110, 100, 12, 2, 105, 102, 11, 9, 38, 111, 112, 116, 105, 111, 110, 97, 108, 10, 5, 38, 114, 101, 115, 116, 9, 5, 109, 97, 99, 114, 111, 8, 7, 99, 108, 111, 115, 117, 114, 101, 7, 6, 108, 97, 109, 98, 100, 97, 6, 2, 44, 64, 5, 1, 44, 4, 1, 96, 3, 8, 102, 117, 110, 99, 116, 105, 111, 110, 2, 5, 113, 117, 111, 116, 101, 1, 1, 116, 0, 3, 110, 105, 108]
def axf : Nat → List Int → List (List Int)
 | 0, _ => []
 | _, [] => []
 | f + 1, n :: r => r.take n.toNat :: axf f (r.drop n.toNat)
def recs (l : List Int) : List (List Int) := axf l.length l
def d6 : List (List Int) → List Int
 | [] => []
 | r :: L => (r.length : Int) :: (r ++ d6 L)
theorem al3 : ∀ (L : List (List Int)) (f : Nat), (d6 L).length ≤ f → axf f (d6 L) = L
 | [], 0, _ => rfl
 | [], _ + 1, _ => rfl
 | r :: L, 0, h => by simp [d6] at h
 | r :: L, f + 1, h => by
   simp only [d6, zO, zP] at h
   simp only [d6, axf, Int.toNat_natCast, List.take_left', List.drop_left']
   rw [al3 L f (by omega)]
theorem gf (L : List (List Int)) : recs (d6 L) = L := al3 L _ (zY _)
def tc (r : List Int) : Int := match r with
 | 3 :: bs => (l9 bs 0).length
 | 4 :: ws => (ws.length / 2 : Nat)
 | _ => 0
def du (L : List (List Int)) : Int := (L.map tc).foldr (· + ·) 0
def obL (l : List Int) (n : Int) : List Int := if 0 ≤ n then (recs l.tail).getD n.toNat [] else []
def iq (l : List Int) (k n : Int) : Int := if 0 ≤ n ∧ n < ((recs l.tail).length : Int) ∧ (obL l n).getD 0 0 = k then 1 else 0
def n7 (l r : List Int) : List Int := l ++ (r.length : Int) :: r
def aks (l : List Int) (n : Int) (r : List Int) : List Int := l.headD 0 :: d6 ((recs l.tail).set n.toNat r)
def ea (l : List Int) : Int := ((recs l.tail).length : Int)
structure BR where
 l : List Int
 k : Int
 n : Int
def bcs : Nat → List Int → List Int → Int → Int → BR
 | 0, l, _, k, n => ⟨l, k, n⟩
 | i + 1, l, ws, k, n => bcs i (n7 l [2, ws.getD (2 * i) 0, ws.getD (2 * i + 1) 0, k, n]) ws 2 (ea l)
def amm (i : Int) (l ws : List Int) (k n : Int) : BR := bcs i.toNat l ws k n
def bbk : Nat → List Int → Int → Int → Option (List Int)
 | 0, _, _, _ => none
 | f + 1, l, k, n => if k = 2 ∧ iq l 2 n = 1 then (bbk f l ((obL l n).getD 3 0) ((obL l n).getD 4 0)).map fun w => (obL l n).getD 1 0 :: (obL l n).getD 2 0 :: w
   else if k = 1 ∧ n = 0 then some [] else none
def bei (l : List Int) (k n : Int) : Int := match bbk ((recs l.tail).length + 1) l k n with
 | some w => (w.length : Int) / 2
 | none => -1
def bej (l : List Int) (k n : Int) : List Int := (bbk ((recs l.tail).length + 1) l k n).getD []
def bgd (b : Int) : Nat → List Int
 | 0 => []
 | i + 1 => bgd b i ++ [1, b + i]
def a8i (b i : Int) : List Int := bgd b i.toNat
def seqR (b i : Int) : List Int := (List.range i.toNat).map fun (j : Nat) => b + (j : Int)
def a3n (r : List Int) (v i : Int) : Int := if _h : i < (r.length : Int) then (if v = r.getD i.toNat 0 then i else a3n r v (i + 1)) else -1
termination_by ((r.length : Int) - i).toNat
decreasing_by omega
structure PA where
 e : Int
 need : List Int
 may : List Int
 r : Int
 p : Int
def aax (ws : List Int) (i : Int) (need may : List Int) (r p : Int) : PA :=
 if _h : 2 * i + 1 < (ws.length : Int) then
  if ws.getD (2 * i).toNat 0 = 1 then
   (if ws.getD (2 * i + 1).toNat 0 = 0 ∨ ws.getD (2 * i + 1).toNat 0 = 1 then ⟨10, [], [], 0, 0⟩
    else if ws.getD (2 * i + 1).toNat 0 = 11 ∧ p = 0 then aax ws (i + 1) need may r 1
    else if ws.getD (2 * i + 1).toNat 0 = 10 ∧ p < 2 then aax ws (i + 1) need may r 2
    else if ws.getD (2 * i + 1).toNat 0 = 11 ∨ ws.getD (2 * i + 1).toNat 0 = 10 ∨ p = 3 then ⟨5, [], [], 0, 0⟩
    else if 0 ≤ a3n need (ws.getD (2 * i + 1).toNat 0) 0 ∨ 0 ≤ a3n may (ws.getD (2 * i + 1).toNat 0) 0 then ⟨18, [], [], 0, 0⟩
    else if p = 0 then aax ws (i + 1) (need ++ [ws.getD (2 * i + 1).toNat 0]) may r p
    else if p = 1 then aax ws (i + 1) need (may ++ [ws.getD (2 * i + 1).toNat 0]) r p
    else aax ws (i + 1) need may (ws.getD (2 * i + 1).toNat 0) 3)
  else ⟨6, [], [], 0, 0⟩
 else ⟨0, need, may, r, p⟩
termination_by ((ws.length : Int) - i).toNat
decreasing_by all_goals omega
def ab8 (l : List Int) : Prop := ∃ lim L, l = lim :: d6 L ∧ 1 ≤ lim ∧ lim ≤ 50000 ∧ (L.length : Int) ≤ lim ∧ du L ≤ 1048576
def bea (a b c : Int) : List Int := a8i 100 a ++ ((if 0 < b then 1 :: 11 :: a8i 200 b else []) ++ if c = 1 then [1, 10, 1, 300] else [])
def msgL : List (List Int) := [[101, 114, 114, 111, 114],
 [81, 117, 105, 116],
 [83, 121, 109, 98, 111, 108, 39, 115, 32, 118, 97, 108, 117, 101, 32, 97, 115, 32, 118, 97, 114, 105, 97, 98, 108, 101, 32, 105, 115, 32, 118, 111, 105, 100],
 [83, 121, 109, 98, 111, 108, 39, 115, 32, 102, 117, 110, 99, 116, 105, 111, 110, 32, 100, 101, 102, 105, 110, 105, 116, 105, 111, 110, 32, 105, 115, 32, 118, 111, 105, 100],
 [87, 114, 111, 110, 103, 32, 116, 121, 112, 101, 32, 97, 114, 103, 117, 109, 101, 110, 116],
 [87, 114, 111, 110, 103, 32, 110, 117, 109, 98, 101, 114, 32, 111, 102, 32, 97, 114, 103, 117, 109, 101, 110, 116, 115],
 [65, 114, 103, 115, 32, 111, 117, 116, 32, 111, 102, 32, 114, 97, 110, 103, 101],
 [65, 114, 105, 116, 104, 109, 101, 116, 105, 99, 32, 101, 114, 114, 111, 114],
 [65, 114, 105, 116, 104, 109, 101, 116, 105, 99, 32, 111, 118, 101, 114, 102, 108, 111, 119, 32, 101, 114, 114, 111, 114],
 [65, 116, 116, 101, 109, 112, 116, 32, 116, 111, 32, 115, 101, 116, 32, 97, 32, 99, 111, 110, 115, 116, 97, 110, 116, 32, 115, 121, 109, 98, 111, 108],
 [78, 111, 32, 99, 97, 116, 99, 104, 32, 102, 111, 114, 32, 116, 97, 103],
 [73, 110, 118, 97, 108, 105, 100, 32, 102, 117, 110, 99, 116, 105, 111, 110],
 [73, 110, 118, 97, 108, 105, 100, 32, 114, 101, 97, 100, 32, 115, 121, 110, 116, 97, 120],
 [69, 110, 100, 32, 111, 102, 32, 102, 105, 108, 101, 32, 100, 117, 114, 105, 110, 103, 32, 112, 97, 114, 115, 105, 110, 103],
 [76, 105, 115, 116, 32, 99, 111, 110, 116, 97, 105, 110, 115, 32, 97, 32, 108, 111, 111, 112],
 [76, 105, 115, 112, 32, 110, 101, 115, 116, 105, 110, 103, 32, 101, 120, 99, 101, 101, 100, 115],
 [77, 101, 109, 111, 114, 121, 32, 101, 120, 104, 97, 117, 115, 116, 101, 100],
 [84, 101, 120, 116, 32, 105, 115, 32, 114, 101, 97, 100, 45, 111, 110, 108, 121],
 [66, 101, 103, 105, 110, 110, 105, 110, 103, 32, 111, 102, 32, 98, 117, 102, 102, 101, 114],
 [69, 110, 100, 32, 111, 102, 32, 98, 117, 102, 102, 101, 114],
 [83, 101, 97, 114, 99, 104, 32, 102, 97, 105, 108, 101, 100],
 [73, 110, 118, 97, 108, 105, 100, 32, 114, 101, 103, 101, 120, 112],
 [117, 115, 101, 114, 32, 101, 114, 114, 111, 114],
 [66, 117, 102, 102, 101, 114, 32, 105, 115, 32, 114, 101, 97, 100, 45, 111, 110, 108, 121],
 [83, 121, 109, 98, 111, 108, 39, 115, 32, 99, 104, 97, 105, 110, 32, 111, 102, 32, 102, 117, 110, 99, 116, 105, 111, 110, 32, 105, 110, 100, 105, 114, 101, 99, 116, 105, 111, 110, 115, 32, 99, 111, 110, 116, 97, 105, 110, 115, 32, 97, 32, 108, 111, 111, 112]]
def bah (n : Int) : List Int := msgL.getD (n - 37).toNat []
def a7h : List Int → List Int
 | [] => []
 | z :: l => 0 :: z :: a7h l
def jnF (first : Bool) : List Int → List Int
 | [] => []
 | z :: l => (if first then [58, 32] else [44, 32]) ++ (ae5 z ++ jnF false l)
def jnW (first : Bool) : List Int → List Int
 | _ :: z :: l => (if first then [58, 32] else [44, 32]) ++ (ae5 z ++ jnW false l)
 | _ => []
def aad (s : List Int) : Prop := ∀ x ∈ s, 0 ≤ x ∧ x < 128
def a91 (s : List Int) : Prop := ∀ x ∈ s, -9223372036854775808 ≤ x ∧ x ≤ 9223372036854775807
def bh4 (l : List Int) : Prop := ∀ r ∈ recs l.tail, r.getD 0 0 = 2
def bd1 (w : List Int) : Prop := ∃ l, w = a7h l ∧ a91 l
def bex (n m : Int) : Int := if m = n ∨ (m = 37 ∧ n ≠ 38) ∨ (m = 44 ∧ n = 45) ∨ (m = 60 ∧ n = 54) then 1 else 0
def pe (k : Nat) : List (List Int) := (List.range k).map fun (j : Nat) => [2, 0, 1, 2, (j : Int) + 1]
def fq (a b c d k : Int) : List Int := 600 :: d6 (pe (k.toNat - 1) ++ [[2, a, b, c, d]])
def zv (k : Int) (i : Nat) : List (List Int) := (List.range i).map fun (j : Nat) => if j = 0 then [4, 0, 7] else [4, 4, k + (j : Int) - 1]
def rv (k i : Int) : List Int := 600 :: d6 (pe (k.toNat - 1) ++ [2, 2, 0, 1, 0] :: zv k i.toNat)
def zz (a b c d : Int) (l : List Int) : Prop := 1 ≤ ea l ∧ ea l ≤ 50 ∧ l = fq a b c d (ea l)
def sb (l : List Int) : Int := (((recs l.tail).filter fun r => r.getD 0 0 == 2).length : Int)
def a1a (l : List Int) : Prop := 1 ≤ sb l ∧ sb l ≤ 50 ∧ sb l ≤ ea l ∧ ea l ≤ 349 ∧ l = rv (sb l) (ea l - sb l)
noncomputable def n8 (l : List Int) (k n : Int) : Int := open Classical in if k = 0 ∧ n = 7 then 0 else if k = 4 ∧ a1a l ∧ sb l ≤ n ∧ n < ea l then n - sb l + 1 else -1
def x8 (s : List Int) (n : Int) : List Int := (List.replicate n.toNat s).flatten
open Classical in
noncomputable def aay : Nat → List (List Int) → Int
 | 201, [l] => ((recs l.tail).length : Int)
 | 202, [l] => du (recs l.tail)
 | 203, [l, k, n] => iq l (k.headD 0) (n.headD 0)
 | 204, [l, n, j] => (obL l (n.headD 0)).getD (j.headD 0).toNat 0
 | 221, [l] => if ab8 l then 1 else 0
 | 228, [l] => if aad l then 1 else 0
 | 229, [n, m] => bex (n.headD 0) (m.headD 0)
 | 230, [l] => if a91 l then 1 else 0
 | 231, [l] => if bh4 l then 1 else 0
 | 232, [w] => if bd1 w then 1 else 0
 | 233, [l] => if zz 0 1 2 0 l then 1 else 0
 | 234, [l] => if zz 2 0 1 0 l then 1 else 0
 | 235, [l, k, n] => n8 l (k.headD 0) (n.headD 0)
 | 236, [l, n] => (((obL l (n.headD 0)).length : Int) - 1) / 2
 | 237, [l] => if zz 0 1 1 0 l then 1 else 0
 | 238, [l] => sb l
 | 239, [l] => if a1a l then 1 else 0
 | 211, [i, l, ws, k, n] => (amm (i.headD 0) l ws (k.headD 0) (n.headD 0)).k
 | 212, [i, l, ws, k, n] => (amm (i.headD 0) l ws (k.headD 0) (n.headD 0)).n
 | 213, [l, k, n] => bei l (k.headD 0) (n.headD 0)
 | 217, [r, v, i] => a3n r (v.headD 0) (i.headD 0)
 | 218, [ws, i, a, b, r, p] => (aax ws (i.headD 0) a b (r.headD 0) (p.headD 0)).e
 | 219, [ws, i, a, b, r, p] => (aax ws (i.headD 0) a b (r.headD 0) (p.headD 0)).r
 | 220, [ws, i, a, b, r, p] => (aax ws (i.headD 0) a b (r.headD 0) (p.headD 0)).p
 | 11, [s, p, r] => if bir s (p.headD 0) r then 1 else 0
 | 40, [c] => bas (c.headD 0)
 | 41, [c] => a66 (c.headD 0)
 | 42, [R] => if bf3 R then 1 else 0
 | 43, [R, p, b] => bf R (p.headD 0) (b.headD 0)
 | 44, [R, p, b, q] => (au9 R (p.headD 0) b (q.headD 0)).f
 | 45, [R, p, b, q] => (au9 R (p.headD 0) b (q.headD 0)).p
 | 46, [R, p, b, q] => (au9 R (p.headD 0) b (q.headD 0)).q
 | 47, [s] => a72 s
 | 48, [s] => bfe s
 | 49, [s, p] => az2 s (p.headD 0)
 | 50, [s] => aj1 s
 | 51, [d, p, s, m, t] => (a4o d (p.headD 0) (s.headD 0) (m.headD 0) (t.headD 0)).k
 | 52, [d, p, s, m, t] => (a4o d (p.headD 0) (s.headD 0) (m.headD 0) (t.headD 0)).n
 | 53, [G] => a6z G
 | 54, [G, s] => (vu G s).f
 | 55, [G, s] => (vu G s).n
 | 56, [h] => if a9o h then 1 else 0
 | 57, [h, z] => (ath h (z.headD 0)).f
 | 58, [h, z] => (bcc h (z.headD 0)).f
 | 59, [h, s] => (ass h s).f
 | 60, [R, p, o, h, G] => (fg R (p.headD 0) (o.headD 0) h G).f
 | 61, [R, p, o, h, G] => (fg R (p.headD 0) (o.headD 0) h G).a
 | 62, [R, p, o, h, G] => (fg R (p.headD 0) (o.headD 0) h G).k
 | 63, [R, p, o, h, G] => (fg R (p.headD 0) (o.headD 0) h G).n
 | 64, [R, p, o, h, G] => (fg R (p.headD 0) (o.headD 0) h G).p
 | 65, [R, p, o, a, c, k, n, h, G] => (aaa R (p.headD 0) (o.headD 0) (a.headD 0) (c.headD 0) (k.headD 0) (n.headD 0) h G).f
 | 66, [R, p, o, a, c, k, n, h, G] => (aaa R (p.headD 0) (o.headD 0) (a.headD 0) (c.headD 0) (k.headD 0) (n.headD 0) h G).a
 | 67, [R, p, o, a, c, k, n, h, G] => (aaa R (p.headD 0) (o.headD 0) (a.headD 0) (c.headD 0) (k.headD 0) (n.headD 0) h G).k
 | 68, [R, p, o, a, c, k, n, h, G] => (aaa R (p.headD 0) (o.headD 0) (a.headD 0) (c.headD 0) (k.headD 0) (n.headD 0) h G).n
 | 69, [R, p, o, a, c, k, n, h, G] => (aaa R (p.headD 0) (o.headD 0) (a.headD 0) (c.headD 0) (k.headD 0) (n.headD 0) h G).p
 | 70, [R, p, o, a, c, h, G] => (as0 R (p.headD 0) (o.headD 0) (a.headD 0) (c.headD 0) h G).f
 | 71, [R, p, o, a, c, h, G] => (as0 R (p.headD 0) (o.headD 0) (a.headD 0) (c.headD 0) h G).a
 | 72, [R, p, o, a, c, h, G] => (as0 R (p.headD 0) (o.headD 0) (a.headD 0) (c.headD 0) h G).n
 | 73, [R, p, o, a, c, h, G] => (as0 R (p.headD 0) (o.headD 0) (a.headD 0) (c.headD 0) h G).p
 | 74, [i, h, k, n] => (adb (i.headD 0) h (k.headD 0) (n.headD 0)).f
 | 75, [i, h, k, n] => (adb (i.headD 0) h (k.headD 0) (n.headD 0)).k
 | 76, [i, h, k, n] => (adb (i.headD 0) h (k.headD 0) (n.headD 0)).n
 | 77, [c] => a5g (c.headD 0)
 | 78, [c] => ba5 (c.headD 0)
 | 79, [c] => at6 (c.headD 0)
 | 80, [R, p, c, n] => (akk R (p.headD 0) (c.headD 0) (n.headD 0)).p
 | 81, [R, p, c, n] => (akk R (p.headD 0) (c.headD 0) (n.headD 0)).c
 | 82, [R, p, c, n] => (akk R (p.headD 0) (c.headD 0) (n.headD 0)).a
 | 83, [R, p, a] => (a2e R (p.headD 0) (a.headD 0)).f
 | 84, [R, p, a] => (a2e R (p.headD 0) (a.headD 0)).a
 | 85, [R, p, a] => (a2e R (p.headD 0) (a.headD 0)).c
 | 86, [R, p, a] => (a2e R (p.headD 0) (a.headD 0)).p
 | 87, [R, p] => (ae6 R (p.headD 0)).f
 | 88, [R, p] => (ae6 R (p.headD 0)).a
 | 89, [R, p] => (ae6 R (p.headD 0)).c
 | 90, [R, p] => (ae6 R (p.headD 0)).p
 | 91, [R, p, b] => (asx R (p.headD 0) b).f
 | 92, [R, p, b] => (asx R (p.headD 0) b).a
 | 93, [R, p, b] => (asx R (p.headD 0) b).p
 | 94, [R, p] => bbo R (p.headD 0)
 | 95, [R, p, b] => (aiu R (p.headD 0) (b.headD 0)).p
 | 96, [R, p, b] => (aiu R (p.headD 0) (b.headD 0)).b
 | 97, [R, p] => (agw R (p.headD 0)).f
 | 98, [R, p] => (agw R (p.headD 0)).a
 | 100, [R, p] => (agw R (p.headD 0)).c
 | 101, [R, p] => (agw R (p.headD 0)).p
 | 102, [R, p] => (aqa R (p.headD 0)).f
 | 103, [R, p] => (aqa R (p.headD 0)).a
 | 104, [R, p] => (aqa R (p.headD 0)).c
 | 105, [R, p] => (aqa R (p.headD 0)).p
 | 106, [R, p, l, h, G] => (ac4 R (p.headD 0) l h G).f
 | 107, [R, p, l, h, G] => (ac4 R (p.headD 0) l h G).a
 | 108, [R, p] => a8h R (p.headD 0)
 | 110, [R, p, l, h, G] => ((ac4 R (p.headD 0) l h G).l.length : Int) / 2
 | 111, [s, p, i, L, n, h1, G1, h, G] => if bjc s (p.headD 0) (i.headD 0) L (n.headD 0) h1 G1 h G then 1 else 0
 | 112, [s, p, i, f, a, h, G] => if bjd s (p.headD 0) (i.headD 0) (f.headD 0) (a.headD 0) h G then 1 else 0
 | 113, [s] => ptN s
 | 114, [s] => ptC s
 | 115, [l, i] => bh6 l (i.headD 0)
 | 120, [k, c] => bga (k.headD 0) (c.headD 0)
 | 122, [s] => bfd s
 | 123, [b, q] => bjg b (q.headD 0)
 | _, _ => 0
noncomputable def bi8 : Nat → List (List Int) → List Int
 | 206, [l, r] => n7 l r
 | 207, [l, n, r] => aks l (n.headD 0) r
 | 208, [l, n] => (obL l (n.headD 0)).tail
 | 210, [i, l, ws, k, n] => (amm (i.headD 0) l ws (k.headD 0) (n.headD 0)).l
 | 213, [l, k, n] => bej l (k.headD 0) (n.headD 0)
 | 214, [b, i] => a8i (b.headD 0) (i.headD 0)
 | 215, [b, i] => seqR (b.headD 0) (i.headD 0)
 | 218, [ws, i, a, b, r, p] => (aax ws (i.headD 0) a b (r.headD 0) (p.headD 0)).need
 | 219, [ws, i, a, b, r, p] => (aax ws (i.headD 0) a b (r.headD 0) (p.headD 0)).may
 | 224, [n] => bah (n.headD 0)
 | 225, [l, i] => a7h (l.drop (i.headD 0).toNat)
 | 226, [l, i] => jnF (decide ((i.headD 0) = 0)) (l.drop (i.headD 0).toNat)
 | 227, [l, i] => jnW (decide ((i.headD 0) = 0)) (l.drop (2 * (i.headD 0).toNat))
 | 240, [a, b, c, d, k] => fq (a.headD 0) (b.headD 0) (c.headD 0) (d.headD 0) (k.headD 0)
 | 241, [k, i] => rv (k.headD 0) (i.headD 0)
 | 245, [s, n] => x8 s (n.headD 0)
 | 220, [a, b, c] => bea (a.headD 0) (b.headD 0) (c.headD 0)
 | 6, [s, p] => l9 s (p.headD 0).toNat
 | 40, [c] => aqj (c.headD 0)
 | 44, [R, p, b, q] => (au9 R (p.headD 0) b (q.headD 0)).b
 | 47, [s] => axq s
 | 54, [G, s] => (vu G s).G
 | 57, [h, z] => (ath h (z.headD 0)).h
 | 58, [h, z] => (bcc h (z.headD 0)).h
 | 59, [h, s] => (ass h s).h
 | 60, [R, p, o, h, G] => (fg R (p.headD 0) (o.headD 0) h G).h
 | 61, [R, p, o, h, G] => (fg R (p.headD 0) (o.headD 0) h G).G
 | 65, [R, p, o, a, c, k, n, h, G] => (aaa R (p.headD 0) (o.headD 0) (a.headD 0) (c.headD 0) (k.headD 0) (n.headD 0) h G).h
 | 66, [R, p, o, a, c, k, n, h, G] => (aaa R (p.headD 0) (o.headD 0) (a.headD 0) (c.headD 0) (k.headD 0) (n.headD 0) h G).G
 | 70, [R, p, o, a, c, h, G] => (as0 R (p.headD 0) (o.headD 0) (a.headD 0) (c.headD 0) h G).h
 | 71, [R, p, o, a, c, h, G] => (as0 R (p.headD 0) (o.headD 0) (a.headD 0) (c.headD 0) h G).G
 | 74, [i, h, k, n] => (adb (i.headD 0) h (k.headD 0) (n.headD 0)).h
 | 91, [R, p, b] => (asx R (p.headD 0) b).b
 | 106, [R, p, l, h, G] => (ac4 R (p.headD 0) l h G).l
 | 107, [R, p, l, h, G] => (ac4 R (p.headD 0) l h G).h
 | 108, [R, p, l, h, G] => (ac4 R (p.headD 0) l h G).G
 | 109, [] => g0L
 | 110, [l, i, n] => bib l (i.headD 0) (n.headD 0)
 | 115, [c] => bdu (c.headD 0)
 | 116, [l, y, i] => bgb (l.drop (i.headD 0).toNat) (y.drop (i.headD 0).toNat)
 | 120, [k, s, p] => a78 (k.headD 0) s (p.headD 0)
 | 121, [n] => ae5 (n.headD 0)
 | 122, [s] => atu s
 | 123, [s] => att s
 | 124, [s] => att (atu s)
 | 125, [s] => a9w s
 | 126, [s] => syA s
 | _, _ => []
def a92 (l : List Int) (s : Value) (x : Option Obj) : Prop := ∃ arr fz, x = some (.cells arr 132 fz) ∧ arr.toList = [.int .i64 (hL l), .int .i64 (hM l), .int .i64 (hU l), s, .slice none 0 0] ∧ fz.1 = fz.2
def a3h (l : List Int) (c : Nat) (F : Nat → Prop) (H : Array Obj) : Prop := a9o l ∧ ((hM l = 0 ∧ (F = fun x => x = c) ∧ a92 l (.slice none 0 0) H[c]?) ∨
 ∃ b arr fz cap, b ≠ c ∧ (F = fun x => x = c ∨ x = b) ∧ a92 l (.slice (some ⟨b, 0, none⟩) (hM l).toNat cap) H[c]? ∧ H[b]? = some (.cells arr 126 fz) ∧ fz.2 ≤ fz.1 ∧ (hM l).toNat ≤ cap ∧ cap ≤ arr.size)
def ky (z : Int) : Value := .iface (if z % 4 = 2 then 86 else if z % 4 = 3 then 121 else 101) (.pointer (some ⟨(z / 4).toNat, 0, none⟩))
def dq (r : List Int) (o : Nat) : Int := 4 * (o : Int) + (if r.getD 0 0 = 4 then 0 else r.getD 0 0)
def aif (z : Int) : Value := .int .i64 z
def px (r : List Int) (o v : Nat) (H : Array Obj) : Prop :=
 (∃ a b c d arr fz, r = [2, a, b, c, d] ∧ H[o]? = some (.cells arr 88 fz) ∧ arr.toList = [aif a, aif b, aif c, aif d] ∧ fz.1 = fz.2 ∧ v = o) ∨
 (∃ bs arr fz, r = 3 :: bs ∧ (∀ x ∈ bs, 0 ≤ x ∧ x < 256) ∧ H[o]? = some (.cells arr 123 fz) ∧ arr.toList = [.string (ag1 bs)] ∧ fz.1 = fz.2 ∧ v = o) ∨
 (∃ ws arr fz n s cap, r = 4 :: ws ∧ ws.length = 2 * n ∧ H[o]? = some (.cells arr 103 fz) ∧ arr.toList = [.slice s n cap] ∧ fz.1 = fz.2 ∧
   ((n = 0 ∧ v = o) ∨ (0 < n ∧ s = some ⟨v, 0, none⟩ ∧ n ≤ cap ∧ v ≠ o ∧ ∃ arr2 fz2, H[v]? = some (.cells arr2 29 fz2) ∧ fz2.2 ≤ fz2.1 ∧ 2 * cap ≤ arr2.size ∧ arr2.toList.take (2 * n) = ws.map aif)))
def j7 (os : List (Nat × Nat)) (x : Nat) : Prop := ∃ p ∈ os, x = p.1 ∨ x = p.2
def lx : List (List Int) → List (Nat × Nat) → Array Obj → Prop
 | [], [], _ => True
 | r :: L, p :: os, H => px r p.1 p.2 H ∧ ¬ j7 os p.1 ∧ ¬ j7 os p.2 ∧ lx L os H
 | _, _, _ => False
def ajn (lim : Int) (L : List (List Int)) (s : Value) (x : Option Obj) : Prop := ∃ arr fz, x = some (.cells arr 132 fz) ∧ arr.toList = [aif lim, aif L.length, aif (du L), s, .slice none 0 0] ∧ fz.1 = fz.2
def im (lim : Int) (L : List (List Int)) : Prop := 1 ≤ lim ∧ lim ≤ 50000 ∧ (L.length : Int) ≤ lim ∧ du L ≤ 1048576
def aq0 (l : List Int) (c : Nat) (F : Nat → Prop) (H : Array Obj) : Prop := ∃ lim L, l = lim :: d6 L ∧ im lim L ∧
 ((L = [] ∧ (F = fun x => x = c) ∧ ajn lim [] (.slice none 0 0) H[c]?) ∨
  ∃ os b arr fz cap, (F = fun x => x = c ∨ x = b ∨ j7 os x) ∧ b ≠ c ∧ ¬ j7 os c ∧ ¬ j7 os b ∧ lx L os H ∧ ajn lim L (.slice (some ⟨b, 0, none⟩) L.length cap) H[c]? ∧ L ≠ [] ∧
   H[b]? = some (.cells arr 126 fz) ∧ fz.2 ≤ fz.1 ∧ L.length ≤ cap ∧ cap ≤ arr.size ∧ arr.toList.take L.length = (List.zipWith dq L (os.map (·.1))).map ky)
theorem aew {r : List Int} {o v : Nat} {H H' : Array Obj} (h1 : H'[o]? = H[o]?) (h2 : H'[v]? = H[v]?) (h : px r o v H) : px r o v H' := by
 unfold px at h ⊢
 rw [h1, h2]; exact h
theorem kf {H H' : Array Obj} : ∀ {L : List (List Int)} {os : List (Nat × Nat)}, (∀ x, j7 os x → H'[x]? = H[x]?) → lx L os H → lx L os H'
 | [], [], _, _ => trivial
 | [], _ :: _, _, h => h.elim
 | _ :: _, [], _, h => h.elim
 | r :: L, p :: os, hF, h => by
   obtain ⟨a, b, c, d⟩ := h
   exact ⟨aew (hF _ ⟨p, List.mem_cons_self .., .inl rfl⟩) (hF _ ⟨p, List.mem_cons_self .., .inr rfl⟩) a, b, c, kf (fun x ⟨q, q1, q2⟩ => hF x ⟨q, zA _ q1, q2⟩) d⟩
theorem aq1 {l : List Int} {c : Nat} {F : Nat → Prop} {H H' : Array Obj} (hF : ∀ b, F b → H'[b]? = H[b]?) (h : aq0 l c F H) : aq0 l c F H' := by
 obtain ⟨lim, L, e, ho, h⟩ := h
 refine ⟨lim, L, e, ho, ?_⟩
 rcases h with ⟨h0, rfl, hx⟩ | ⟨os, b, arr, fz, cap, rfl, h1, h2, h3, h4, h5, h6, h7, h8⟩
 ·exact .inl ⟨h0, rfl, by rw [hF c rfl]; exact hx⟩
 ·exact .inr ⟨os, b, arr, fz, cap, rfl, h1, h2, h3, kf (fun x hx => hF x (.inr (.inr hx))) h4, by rw [hF c (.inl rfl)]; exact h5, h6, by rw [hF b (.inr (.inl rfl))]; exact h7, h8⟩
def ah4 (k : Nat) (l : List Int) (c : Nat) (F : Nat → Prop) (H : Array Obj) : Prop := (k = 1 ∧ a3h l c F H) ∨ (k = 2 ∧ aq0 l c F H)
theorem aq2 {l : List Int} {c : Nat} {F : Nat → Prop} {H H' : Array Obj} (hF : ∀ b, F b → H'[b]? = H[b]?) (h : a3h l c F H) : a3h l c F H' := by
 obtain ⟨hr, h⟩ := h
 refine ⟨hr, ?_⟩
 rcases h with ⟨h0, rfl, hx⟩ | ⟨b, arr, fz, cap, hb, rfl, hx, ha, h1, h2, h3⟩
 ·refine .inl ⟨h0, rfl, ?_⟩
  rw [hF c rfl]; exact hx
 ·refine .inr ⟨b, arr, fz, cap, hb, rfl, ?_, ?_, h1, h2, h3⟩
  ·rw [hF c (.inl rfl)]; exact hx
  ·rw [hF b (.inr rfl)]; exact ha
theorem aqv {k : Nat} {l : List Int} {c : Nat} {F : Nat → Prop} {H H' : Array Obj} (hF : ∀ b, F b → H'[b]? = H[b]?) (h : ah4 k l c F H) : ah4 k l c F H' := by
 rcases h with ⟨hk, h⟩ | ⟨hk, h⟩
 ·exact .inl ⟨hk, aq2 hF h⟩
 ·exact .inr ⟨hk, aq1 hF h⟩
end Go.Ev
set_option linter.all false
namespace Go.Ev
def bt (len n : Nat) : List UInt8 := (List.range len).map fun i => UInt8.ofNat (n / 256 ^ (len - 1 - i))
def bg (len n : Nat) : ByteArray := ⟨(bt len n).toArray⟩
theorem ba (len n : Nat) : (bt len n).length = len := by simp [bt]
theorem fo (len n : Nat) : (bg len n).size = len := by simp [bg, ByteArray.size, bt]
theorem mo (len n i : Nat) (h : i < (bt len n).length) : (bt len n)[i] = UInt8.ofNat (n / 256 ^ (len - 1 - i)) := by simp [bt]
theorem o8 (n k : Nat) : Nat.shiftRight n (8 * k) = n / 256 ^ k := by
 show n >>> (8 * k) = _
 rw [Nat.shiftRight_eq_div_pow, Nat.pow_mul]
theorem a47 (len n i : Nat) : sAt len n i = n / 256 ^ (len - 1 - i) % 256 := by
 unfold sAt; rw [o8]
theorem auv (len n i : Nat) : sAt len n i < 256 := by rw [a47]; exact Nat.mod_lt _ (by decide)
theorem aa4 (n : Nat) : UInt8.ofNat (n % 256) = UInt8.ofNat n := by
 apply UInt8.toNat_inj.1; simp
theorem nc (len n i : Nat) (h : i < (bt len n).length) : (bt len n)[i] = UInt8.ofNat (sAt len n i) := by
 rw [mo, a47, aa4]
theorem wn (len n i : Nat) : (UInt8.ofNat (sAt len n i)).toNat = sAt len n i := by
 have := auv len n i
 simp; omega
theorem sg (l1 n1 l2 n2 : Nat) (h : n2 < 256 ^ l2) : bt (l1 + l2) (n1 * 256 ^ l2 + n2) = bt l1 n1 ++ bt l2 n2 := by
 apply List.ext_getElem
 ·simp [ba]
 ·intro i h1 h2
  rw [mo]
  rw [ba] at h1
  rw [List.getElem_append]
  split
  ·rename_i h3
   rw [ba] at h3
   rw [mo]
   have e : l1 + l2 - 1 - i = l2 + (l1 - 1 - i) := by omega
   rw [e, Nat.pow_add, ← Nat.div_div_eq_div_mul, Nat.mul_comm n1, Nat.mul_add_div (Nat.pow_pos (by decide)), Nat.div_eq_of_lt h, Nat.add_zero]
  ·rename_i h3
   rw [ba] at h3
   rw [mo, ba]
   have e : l1 + l2 - 1 - i = l2 - 1 - (i - l1) := by omega
   rw [e]
   have e2 : 256 ^ l2 = 256 ^ (l2 - 1 - (i - l1)) * 256 ^ (i - l1 + 1) := by rw [← Nat.pow_add]; congr 1; omega
   rw [e2, Nat.mul_left_comm, Nat.mul_add_div (Nat.pow_pos (by decide)), ← aa4, Nat.pow_succ, ← Nat.mul_assoc, Nat.mul_comm _ 256, Nat.mul_add_mod, aa4]
theorem a19 (l1 n1 l2 n2 : Nat) (h1 : n1 < 256 ^ l1) (h : n2 < 256 ^ l2) : n1 * 256 ^ l2 + n2 < 256 ^ (l1 + l2) := by
 rw [Nat.pow_add]
 have q1 : (n1 + 1) * 256 ^ l2 ≤ 256 ^ l1 * 256 ^ l2 := Nat.mul_le_mul_right _ h1
 rw [Nat.succ_mul] at q1
 omega
theorem ap3 (len n lo hi : Nat) (h1 : lo ≤ hi) (h2 : hi ≤ len) :
  bt (hi - lo) (Nat.shiftRight n (8 * (len - hi)) % 256 ^ (hi - lo)) = (bt len n).extract lo hi := by
 apply List.ext_getElem
 ·simp [ba]; omega
 ·intro i h3 h4
  rw [ba] at h3
  rw [mo]
  simp only [List.extract_eq_take_drop, List.getElem_take, List.getElem_drop]
  rw [mo, o8]
  have e2 : 256 ^ (hi - lo) = 256 ^ (hi - lo - 1 - i) * 256 ^ (i + 1) := by rw [← Nat.pow_add]; congr 1; omega
  rw [e2, Nat.mod_mul_right_div_self, ← aa4, Nat.pow_succ, Nat.mul_comm (256 ^ i) 256, Nat.mod_mul_right_mod, aa4, Nat.div_div_eq_div_mul, ← Nat.pow_add]
  congr 2
  congr 1
  omega
theorem vh (len n : Nat) : bt (len + 1) n = bt len (n / 256) ++ [UInt8.ofNat n] := by
 have h := sg len (n / 256) 1 (n % 256) (by simpa using Nat.mod_lt _ (by decide))
 rw [Nat.pow_one, Nat.div_add_mod' n 256] at h
 rw [h]
 simp [bt, aa4]
theorem ap4 : ∀ (l n n' : Nat), n < 256 ^ l → n' < 256 ^ l → bt l n = bt l n' → n = n' := by
 intro l
 induction l with
 | zero => intro n n' h h' _; simp at h h'; omega
 | succ l ih =>
   intro n n' h h' e
   rw [vh, vh] at e
   have ⟨e1, e2⟩ := List.append_inj' e rfl
   have h3 := ih (n / 256) (n' / 256) (by rw [Nat.pow_succ] at h; exact Nat.div_lt_of_lt_mul (by omega)) (by rw [Nat.pow_succ] at h'; exact Nat.div_lt_of_lt_mul (by omega)) e1
   simp only [List.cons.injEq, and_true] at e2
   have h4 := congrArg UInt8.toNat e2
   simp at h4
   omega
theorem auo (l : List UInt8) : ∀ (b : UInt8) (a : Nat), nl (l ++ [b]) a = nl l a * 256 + b.toNat := by
 induction l with
 | nil => intro b a; rfl
 | cons x l ih => intro b a; show nl (l ++ [b]) (a * 256 + x.toNat) = nl l (a * 256 + x.toNat) * 256 + b.toNat; exact ih b _
theorem aaw : ∀ (n : Nat) (l : List UInt8), l.length = n → nl l 0 < 256 ^ n ∧ bt n (nl l 0) = l := by
 intro n
 induction n with
 | zero => intro l h; obtain rfl := List.length_eq_zero_iff.1 h; exact ⟨by decide, rfl⟩
 | succ n ih =>
   intro l h
   obtain ⟨l', b, rfl⟩ : ∃ l' b, l = l' ++ [b] := ⟨l.dropLast, l.getLast (by intro e; simp [e] at h), (List.dropLast_concat_getLast _).symm⟩
   have ⟨h1, h2⟩ := ih l' (by simpa using h)
   rw [auo]
   have hb := UInt8.toNat_lt b
   constructor
   ·rw [Nat.pow_succ]; omega
   ·rw [vh]
    have e : (nl l' 0 * 256 + b.toNat) / 256 = nl l' 0 := by omega
    rw [e, h2]
    congr 2
    rw [← aa4, show (nl l' 0 * 256 + b.toNat) % 256 = b.toNat by omega]
    simp
theorem yb (s : ByteArray) : bg s.data.toList.length (nl s.data.toList 0) = s := by
 unfold bg
 rw [(aaw _ _ rfl).2]
theorem an2 (l : List UInt8) : nl l 0 < 256 ^ l.length := (aaw _ l rfl).1
theorem a8c (l n l' n' : Nat) (h : n < 256 ^ l) (h' : n' < 256 ^ l') : sEq l n l' n' = decide (bg l n = bg l' n') := by
 unfold sEq
 rw [ac]
 by_cases e : l = l'
 ·subst e
  rw [if_pos (Nat.beq_refl _)]
  by_cases e2 : n = n'
  ·subst e2; simp
  ·rw [show Nat.beq n n' = false from Bool.eq_false_iff.2 fun h => e2 (zW h)]
   symm
   rw [decide_eq_false_iff_not]
   intro e3
   unfold bg at e3
   have e4 : bt l n = bt l n' := by simpa using e3
   exact e2 (ap4 l n n' h h' e4)
 ·rw [if_neg (fun h => e (zW h))]
  symm
  rw [decide_eq_false_iff_not]
  intro e3
  have := congrArg ByteArray.size e3
  rw [fo, fo] at this
  exact e this
end Go.Ev
set_option linter.all false
namespace Go.Ev
structure Env where
 blk : K → Option Nat
 sz : K → Nat
 ft : K → Nat → Prop := fun _ _ => False
instance : CoeFun Env (fun _ => K → Option Nat) := ⟨Env.blk⟩
def SlOk (ρ : Env) (b : K) (o cap cap' : Nat) : Option Nat → Prop
 | none => cap' = cap
 | some es => o + cap' * es ≤ ρ.sz b
def FnRel (ρ : Env) : Fn → Fn → Prop
 | .yield n, f => ∃ c, ρ (K.of n) = some c ∧ f = .yield c
 | g, f => f = g
class Gv where
 σ : Nat → List Int
def av (l : List Int) : ByteArray := ⟨(l.map fun x => UInt8.ofNat x.toNat).toArray⟩
def ia (l : List Int) : Prop := ∀ x ∈ l, 0 ≤ x ∧ x < 256
def arv : Nat → List Int → List (List Int × Int)
 | 0, _ => []
 | _ + 1, [] => []
 | _ + 1, [_] => []
 | f + 1, n :: k :: l => (l.take k.toNat, n) :: arv f (l.drop k.toNat)
def aas (l : List Int) : List (List Int × Int) := (arv l.length l).reverse
def w6 (op : Nat) (k : IntKind) (a b : Int) : Int := match op with
 | 0 => k.wrap (a + b)
 | 1 => k.wrap (a - b)
 | 2 => k.wrap (a * b)
 | 3 => k.wrap (a.tdiv b)
 | 4 => a.tmod b
 | 5 => a % b
 | 6 => a + b
 | 7 => a * b
 | 8 => (ez .and k a b).getD 0
 | 9 => (ez .or k a b).getD 0
 | 10 => (ez .xor k a b).getD 0
 | 11 => k.wrap (a * 2 ^ (min b.toNat k.bits))
 | 12 => a.fdiv (2 ^ (min b.toNat k.bits))
 | 13 => (ez .andNot k a b).getD 0
 | _ => 0
mutual
noncomputable def SE.eval (σ : Nat → List Int) : SE → Int
 | .v i => (σ i).headD 0
 | .c n => n
 | .bin op k a b => w6 op k (a.eval σ) (b.eval σ)
 | .len g => ((g.eval σ).length : Int)
 | .rd g e => (g.eval σ).getD (e.eval σ).toNat 0
 | .dr g e => ((Utf8.decode (av (g.eval σ)) (e.eval σ).toNat).1 : Int)
 | .dw g e => ((Utf8.decode (av (g.eval σ)) (e.eval σ).toNat).2 : Int)
 | .eqg g h => if g.eval σ = h.eval σ then 1 else 0
 | .mhas m g => if ((aas (m.eval σ)).lookup (g.eval σ)).isSome then 1 else 0
 | .mget m g => ((aas (m.eval σ)).lookup (g.eval σ)).getD 0
 | .app f l => aay f (l.eval σ)
noncomputable def GE.eval (σ : Nat → List Int) : GE → List Int
 | .s i => σ i
 | .nil => []
 | .one e => [e.eval σ]
 | .cat a b => a.eval σ ++ b.eval σ
 | .lit l n => (bt l n).map fun b => (b.toNat : Int)
 | .cut g a b => ((g.eval σ).take (b.eval σ).toNat).drop (a.eval σ).toNat
 | .enc e => (Utf8.encode (e.eval σ)).data.toList.map fun b => (b.toNat : Int)
 | .app f l => bi8 f (l.eval σ)
noncomputable def AL.eval (σ : Nat → List Int) : AL → List (List Int)
 | .nil => []
 | .i e l => [e.eval σ] :: l.eval σ
 | .g g l => g.eval σ :: l.eval σ
end
def arL : List (Nat × Nat × Int × Int) := []
noncomputable def bcp (s : ByteArray) : Int × Int × Int := match arL.find? fun p => decide (bg p.1 p.2.1 = s) with
 | some p => (p.2.2.1, p.2.2.2, 1)
 | none => (0, 0, 0)
noncomputable def akt (σ : Nat → List Int) : ByteArray := bg ((σ 13).headD 0).toNat ((σ 14).headD 0).toNat
def bh2 (σ : Nat → List Int) : Prop := bcp (akt σ) = ((σ 3).headD 0, (σ 4).headD 0, (σ 5).headD 0)
def SxRel (σ : Nat → List Int) (c : Nat) (e : SE) (A : List (Nat × Nat)) (v : Value) : Prop := match c with
 | 0 => v = .string (akt σ) ∧ ∀ p ∈ A, akt σ ≠ bg p.1 p.2
 | 1 => v = .bool (decide (e.eval σ ≠ 0))
 | _ => v = .string (akt σ) ∧ bh2 σ
def SA.holds (σ : Nat → List Int) : SA → Prop
 | .mk true a b r => decide (a.eval σ < b.eval σ) = r
 | .mk false a b r => decide (a.eval σ = b.eval σ) = r
def SAll (σ : Nat → List Int) (A : List SA) : Prop := ∀ x ∈ A, x.holds σ
variable [Gv]
def GVRel (ρ : Env) (x : GV) (v : Value) : Prop := match x with
 | .str g A => SAll Gv.σ A ∧ v = .string (av (g.eval Gv.σ)) ∧ ia (g.eval Gv.σ)
 | .sl b es n A => SAll Gv.σ A ∧ ∃ c cap', ρ b = some c ∧ 0 ≤ n.eval Gv.σ ∧ (n.eval Gv.σ).toNat ≤ cap' ∧ cap' * es ≤ ρ.sz b ∧ v = .slice (some ⟨c, 0, none⟩) (n.eval Gv.σ).toNat cap'
 | .ptr b es i off A => SAll Gv.σ A ∧ ∃ c, ρ b = some c ∧ 0 ≤ i.eval Gv.σ ∧ v = .pointer (some ⟨c, es * (i.eval Gv.σ).toNat + off, none⟩)
 | .sr b o n A => SAll Gv.σ A ∧ ∃ c cap', ρ b = some c ∧ 0 ≤ n.eval Gv.σ ∧ (n.eval Gv.σ).toNat ≤ cap' ∧ v = .slice (some ⟨c, (o.eval Gv.σ).toNat, none⟩) (n.eval Gv.σ).toNat cap'
 | .pr b o i A => SAll Gv.σ A ∧ ∃ c, ρ b = some c ∧ 0 ≤ i.eval Gv.σ ∧ v = .pointer (some ⟨c, (o.eval Gv.σ).toNat + (i.eval Gv.σ).toNat, none⟩)
def MRel : List (List Int × Int) → List MapEntry → Prop
 | [], l => l = []
 | e :: es, l => ∃ m ms, l = m :: ms ∧ m.key = .string (av e.1) ∧ ia e.1 ∧ m.val = .int .i64 e.2 ∧ MRel es ms
def GORel (o : GO) (x0 : Option Obj) : Prop := match o with
 | .gh t ks n g => ∃ arr fz, x0 = some (.cells arr t fz) ∧ fz.2 ≤ fz.1 ∧ 0 ≤ n.eval Gv.σ ∧ (g.eval Gv.σ).length = ks.length * (n.eval Gv.σ).toNat ∧ (g.eval Gv.σ).length ≤ arr.size ∧ (ks = [.u8] → ia (g.eval Gv.σ)) ∧
    ∀ (i : Nat) (h : i < (g.eval Gv.σ).length), ∃ k, ks[i % ks.length]? = some k ∧ arr[i]? = some (.int k (g.eval Gv.σ)[i])
 | .junk t => ∃ arr fz, x0 = some (.cells arr t fz) ∧ fz.2 ≤ fz.1
 | .gmap m => ∃ entries clock, x0 = some (.map entries clock) ∧ MRel (aas (m.eval Gv.σ)) entries.toList
 | .lh _ _ => ∃ y, x0 = some y
 | .rh o n g => ∃ arr t fz, x0 = some (.cells arr t fz) ∧ 0 ≤ n.eval Gv.σ ∧ (g.eval Gv.σ).length = (n.eval Gv.σ).toNat ∧
    ∀ (i : Nat) (h : i < (g.eval Gv.σ).length), arr[(o.eval Gv.σ).toNat + i]? = some (.int .i64 (g.eval Gv.σ)[i])
 | .rb o n g => ∃ arr t fz, x0 = some (.cells arr t fz) ∧ 0 ≤ n.eval Gv.σ ∧ (g.eval Gv.σ).length = (n.eval Gv.σ).toNat ∧
    ∀ (i : Nat) (h : i < (g.eval Gv.σ).length), arr[(o.eval Gv.σ).toNat + i]? = some (.bool (decide ((g.eval Gv.σ)[i] ≠ 0)))
 | .iter g pos A => SAll Gv.σ A ∧ x0 = some (.stringIter (av (g.eval Gv.σ)) (pos.eval Gv.σ).toNat) ∧ 0 ≤ pos.eval Gv.σ ∧ ia (g.eval Gv.σ)
mutual
def VRel (ρ : Env) : AV → Value → Prop
 | .bool b, v => v = .bool b
 | .int k n, v => v = .int k n
 | .str l n, v => n < 256 ^ l ∧ v = .string (bg l n)
 | .nilPtr, v => v = .pointer none
 | .ptr b o, v => ∃ c, ρ b = some c ∧ v = .pointer (some ⟨c, o, none⟩)
 | .nilSlice, v => v = .slice none 0 0
 | .slice b o len cap ex, v => ∃ c cap', ρ b = some c ∧ (len ≤ cap ∧ cap ≤ cap') ∧ SlOk ρ b o cap cap' ex ∧ v = .slice (some ⟨c, o, none⟩) len cap'
 | .nilMap, v => v = .map none
 | .map b, v => ∃ c, ρ b = some c ∧ v = .map (some c)
 | .func fn x y, v => ∃ fn' x' y', v = .func fn' x' y' ∧ FnRel ρ fn fn' ∧ VRels ρ x x'.toList ∧ VRels ρ y y'.toList
 | .nilFunc, v => v = .nilFunc
 | .iface t a, v => ∃ v', v = .iface t v' ∧ VRel ρ a v'
 | .nilIface, v => v = .nilIface
 | .agg xs, v => ∃ ys, v = .agg ys ∧ VRels ρ xs ys.toList
 | .tuple xs, v => ∃ ys, v = .tuple ys ∧ VRels ρ xs ys.toList
 | .esl, v => ∃ p cap', v = .slice (some p) 0 cap'
 | .wsl b kb d n, v => ∃ c c' cap', ρ b = some c ∧ ρ kb = some c' ∧ (1 ≤ n ∧ n ≤ cap' ∧ cap' ≤ 9223372036854775807 ∧ ρ.sz kb + d + cap' ≤ ρ.sz b) ∧ v = .slice (some ⟨c, ρ.sz kb + d, none⟩) n cap'
 | .wse b, v => ∃ c p cap', ρ b = some c ∧ (cap' ≤ 9223372036854775807 ∧ p + cap' ≤ ρ.sz b) ∧ v = .slice (some ⟨c, p, none⟩) 0 cap'
 | .wptr b kb i, v => ∃ c c', ρ b = some c ∧ ρ kb = some c' ∧ v = .pointer (some ⟨c, ρ.sz kb + i, none⟩)
 | .sym k e A, v => SAll Gv.σ A ∧ v = .int k (e.eval Gv.σ)
 | .sx c e A, v => SxRel Gv.σ c e A v
 | .gv x, v => GVRel ρ x v
 | .top, _ => True
def VRels (ρ : Env) : List AV → List Value → Prop
 | [], l => l = []
 | a :: r, l => ∃ v vs, l = v :: vs ∧ VRel ρ a v ∧ VRels ρ r vs
end
def Env.le (ρ ρ' : Env) : Prop := ∀ k c, ρ k = some c → ρ' k = some c ∧ ρ'.sz k = ρ.sz k
theorem Env.le_refl (ρ : Env) : ρ.le ρ := fun _ _ h => ⟨h, rfl⟩
theorem Env.le_trans {a b c : Env} (h : a.le b) (h' : b.le c) : a.le c := fun k x e => ⟨(h' k x (h k x e).1).1, ((h' k x (h k x e).1).2).trans (h k x e).2⟩
theorem SlOk.mono {ρ ρ' : Env} {b : K} {o cap cap' : Nat} {ex : Option Nat} (h : ρ'.sz b = ρ.sz b) (e : SlOk ρ b o cap cap' ex) : SlOk ρ' b o cap cap' ex := by
 cases ex with
 | none => exact e
 | some es => simp only [SlOk] at e ⊢; rw [h]; exact e
theorem FnRel.mono {ρ ρ' : Env} (h : ρ.le ρ') : ∀ {f g : Fn}, FnRel ρ f g → FnRel ρ' f g := by
 intro f g e
 cases f <;> first | exact e | (obtain ⟨c, h1, h2⟩ := e; exact ⟨c, (h _ _ h1).1, h2⟩)
theorem FnRel.plain {ρ : Env} {f g : Fn} (h : ∀ n, f ≠ .yield n) (e : FnRel ρ f g) : g = f := by
 cases f <;> first | exact e | exact absurd rfl (h _)
theorem FnRel.refl {ρ : Env} {f : Fn} (h : ∀ n, f ≠ .yield n) : FnRel ρ f f := by
 cases f <;> first | rfl | exact absurd rfl (h _)
theorem GVRel.mono {ρ ρ' : Env} (h : ρ.le ρ') {x : GV} {v : Value} (e : GVRel ρ x v) : GVRel ρ' x v := by
 cases x with
 | str => exact e
 | sl b es n A => obtain ⟨h0, c, cap', h1, h2, h3, h4, h5⟩ := e; exact ⟨h0, c, cap', (h _ _ h1).1, h2, h3, by rw [(h _ _ h1).2]; exact h4, h5⟩
 | ptr b es i off A => obtain ⟨h0, c, h1, h2⟩ := e; exact ⟨h0, c, (h _ _ h1).1, h2⟩
 | sr b o n A => obtain ⟨h0, c, cap', h1, h2, h3, h4⟩ := e; exact ⟨h0, c, cap', (h _ _ h1).1, h2, h3, h4⟩
 | pr b o i A => obtain ⟨h0, c, h1, h2⟩ := e; exact ⟨h0, c, (h _ _ h1).1, h2⟩
mutual
theorem VRel.mono {ρ ρ' : Env} (h : ρ.le ρ') : ∀ (a : AV) (v : Value), VRel ρ a v → VRel ρ' a v
 | .bool _, _, e | .int _ _, _, e | .str _ _, _, e | .nilPtr, _, e | .nilSlice, _, e | .nilMap, _, e | .nilFunc, _, e | .nilIface, _, e | .esl, _, e | .top, _, e => by simpa only [VRel] using e
 | .ptr _ _, _, e => by simp only [VRel] at e ⊢; obtain ⟨c, h1, h2⟩ := e; exact ⟨c, (h _ _ h1).1, h2⟩
 | .slice _ _ _ _ _, _, e => by simp only [VRel] at e ⊢; obtain ⟨c, cap', h1, h2, h3, h4⟩ := e; exact ⟨c, cap', (h _ _ h1).1, h2, SlOk.mono (h _ _ h1).2 h3, h4⟩
 | .map _, _, e => by simp only [VRel] at e ⊢; obtain ⟨c, h1, h2⟩ := e; exact ⟨c, (h _ _ h1).1, h2⟩
 | .wsl _ _ _ _, _, e => by simp only [VRel] at e ⊢; obtain ⟨c, c', cap', h1, h2, h3, h4⟩ := e; exact ⟨c, c', cap', (h _ _ h1).1, (h _ _ h2).1, by rw [(h _ _ h1).2, (h _ _ h2).2]; exact h3, by rw [(h _ _ h2).2]; exact h4⟩
 | .wse _, _, e => by simp only [VRel] at e ⊢; obtain ⟨c, p, cap', h1, h3, h4⟩ := e; exact ⟨c, p, cap', (h _ _ h1).1, by rw [(h _ _ h1).2]; exact h3, h4⟩
 | .sym _ _ _, _, e => by simpa only [VRel] using e
 | .sx _ _ _, _, e => by simpa only [VRel] using e
 | .gv _, _, e => by simp only [VRel] at e ⊢; exact e.mono h
 | .wptr _ _ _, _, e => by simp only [VRel] at e ⊢; obtain ⟨c, c', h1, h2, h4⟩ := e; exact ⟨c, c', (h _ _ h1).1, (h _ _ h2).1, by rw [(h _ _ h2).2]; exact h4⟩
 | .func _ x y, _, e => by simp only [VRel] at e ⊢; obtain ⟨f', x', y', h1, h0, h2, h3⟩ := e; exact ⟨f', x', y', h1, h0.mono h, VRels.mono h x _ h2, VRels.mono h y _ h3⟩
 | .iface _ a, _, e => by simp only [VRel] at e ⊢; obtain ⟨v', h1, h2⟩ := e; exact ⟨v', h1, VRel.mono h a _ h2⟩
 | .agg xs, _, e => by simp only [VRel] at e ⊢; obtain ⟨ys, h1, h2⟩ := e; exact ⟨ys, h1, VRels.mono h xs _ h2⟩
 | .tuple xs, _, e => by simp only [VRel] at e ⊢; obtain ⟨ys, h1, h2⟩ := e; exact ⟨ys, h1, VRels.mono h xs _ h2⟩
theorem VRels.mono {ρ ρ' : Env} (h : ρ.le ρ') : ∀ (l : List AV) (vs : List Value), VRels ρ l vs → VRels ρ' l vs
 | [], _, e => by simpa only [VRels] using e
 | a :: l, _, e => by simp only [VRels] at e ⊢; obtain ⟨v, vs, h1, h2, h3⟩ := e; exact ⟨v, vs, h1, VRel.mono h a _ h2, VRels.mono h l _ h3⟩
end
theorem VRels.length {ρ : Env} : ∀ (l : List AV) (vs : List Value), VRels ρ l vs → vs.length = l.length
 | [], _, e => by simp only [VRels] at e; subst e; rfl
 | a :: l, _, e => by simp only [VRels] at e; obtain ⟨v, vs, rfl, _, h3⟩ := e; simp [VRels.length l vs h3]
theorem VRels.get {ρ : Env} : ∀ (l : List AV) (vs : List Value), VRels ρ l vs → ∀ (i : Nat) (h : i < l.length), ∃ v, vs[i]? = some v ∧ VRel ρ l[i] v
 | [], _, _, i, h => by simp at h
 | a :: l, _, e, i, h => by
   simp only [VRels] at e; obtain ⟨v, vs, rfl, h2, h3⟩ := e
   cases i with
   | zero => exact ⟨v, rfl, h2⟩
   | succ i => exact VRels.get l vs h3 i (by simpa using h)
theorem VRels.of_get {ρ : Env} : ∀ (l : List AV) (vs : List Value), vs.length = l.length → (∀ (i : Nat) (h : i < l.length), ∃ v, vs[i]? = some v ∧ VRel ρ l[i] v) → VRels ρ l vs
 | [], [], _, _ => by simp only [VRels]
 | [], _ :: _, h, _ => by simp at h
 | _ :: _, [], h, _ => by simp at h
 | a :: l, v :: vs, h, e => by
   simp only [VRels]
   obtain ⟨v', h1, h2⟩ := e 0 (by simp)
   simp at h1; subst h1
   refine ⟨v, vs, rfl, by simpa using h2, VRels.of_get l vs (by simpa using h) fun i hi => ?_⟩
   obtain ⟨v', h1, h2⟩ := e (i + 1) (by simpa using hi)
   exact ⟨v', by simpa using h1, by simpa using h2⟩
theorem VRels.append {ρ : Env} : ∀ (l l' : List AV) (vs vs' : List Value), VRels ρ l vs → VRels ρ l' vs' → VRels ρ (l ++ l') (vs ++ vs')
 | [], _, _, _, h, h' => by simp only [VRels] at h; subst h; exact h'
 | a :: l, l', _, vs', h, h' => by
   simp only [VRels] at h; obtain ⟨v, vs, rfl, h2, h3⟩ := h
   simp only [zJ, VRels]
   exact ⟨v, vs ++ vs', rfl, h2, VRels.append l l' vs vs' h3 h'⟩
theorem SxRel.shape {σ : Nat → List Int} {c : Nat} {e : SE} {A : List (Nat × Nat)} {v : Value} (h : SxRel σ c e A v) : (∃ s, v = .string s) ∨ ∃ b, v = .bool b := by
 unfold SxRel at h
 split at h
 ·exact .inl ⟨_, h.1⟩
 ·exact .inr ⟨_, h⟩
 ·exact .inl ⟨_, h.1⟩
theorem GVRel.shape {ρ : Env} {x : GV} {v : Value} (h : GVRel ρ x v) : (∃ s, v = .string s) ∨ (∃ p l c, v = .slice (some p) l c) ∨ ∃ p, v = .pointer (some p) := by
 cases x with
 | str => exact .inl ⟨_, h.2.1⟩
 | sl => obtain ⟨_, c, cap', _, _, _, _, e⟩ := h; exact .inr (.inl ⟨_, _, _, e⟩)
 | ptr => obtain ⟨_, c, _, _, e⟩ := h; exact .inr (.inr ⟨_, e⟩)
 | sr => obtain ⟨_, c, cap', _, _, _, e⟩ := h; exact .inr (.inl ⟨_, _, _, e⟩)
 | pr => obtain ⟨_, c, _, _, e⟩ := h; exact .inr (.inr ⟨_, e⟩)
def a1q (ρ : Env) (size : Nat) (c : Cells) (arr : Array Value) : Prop := ∀ i, i < size → ∃ v, arr[i]? = some v ∧ VRel ρ (uc c i) v
def ERel (ρ : Env) : List (AV × AV) → List MapEntry → Prop
 | [], l => l = []
 | e :: es, l => ∃ m ms, l = m :: ms ∧ VRel ρ e.1 m.key ∧ VRel ρ e.2 m.val ∧ ERel ρ es ms
theorem ERel.mono {ρ ρ' : Env} (h : ρ.le ρ') : ∀ es l, ERel ρ es l → ERel ρ' es l
 | [], _, e => e
 | _ :: es, _, ⟨m, ms, h1, h2, h3, h4⟩ => ⟨m, ms, h1, VRel.mono h _ _ h2, VRel.mono h _ _ h3, ERel.mono h es ms h4⟩
inductive CSub : Code → Code → Prop
 | refl (c : Code) : CSub c c
 | seqL {a b c : Code} : CSub (.seq a b) c → CSub a c
 | seqR {a b c : Code} : CSub (.seq a b) c → CSub b c
 | condT {v : Operand} {a b c : Code} : CSub (.cond v a b) c → CSub a c
 | condF {v : Operand} {a b c : Code} : CSub (.cond v a b) c → CSub b c
 | block {id : Nat} {a c : Code} : CSub (.block id a) c → CSub a c
 | loop {a c : Code} : CSub (.loop a) c → CSub a c
def InF (f : FuncId) (c : Code) : Prop := ∃ fn x, vf f = some (fn, x) ∧ CSub c x
omit [Gv] in
theorem InF.sub {f : FuncId} {c d : Code} (h : InF f c) (g : ∀ x, CSub c x → CSub d x) : InF f d := let ⟨fn, x, h1, h2⟩ := h; ⟨fn, x, h1, g x h2⟩
def GPs (ρ : Env) (arr : Array Value) (ps : List GP) : Prop := ∀ e t k, GP.mk e t k ∈ ps → 0 ≤ e.eval Gv.σ ∧ ∃ c, ρ k = some c ∧ arr[(e.eval Gv.σ).toNat]? = some (.iface t (.pointer (some ⟨c, 0, none⟩)))
theorem GPs.mono {ρ ρ' : Env} (h : ρ.le ρ') {arr : Array Value} {ps : List GP} (e : GPs ρ arr ps) : GPs ρ' arr ps := fun x t k hm => let ⟨h0, c, h1, h2⟩ := e x t k hm; ⟨h0, c, (h _ _ h1).1, h2⟩
def a6l (t : Nat) (arr : Array Value) : Prop := ∀ g cs, t = g + 1 → LE.mk g cs ∈ laidL → ∀ ρ, VRels ρ cs arr.toList
def ORel (ρ : Env) (o : AObj) (x0 : Option Obj) : Prop :=
 match o with
 | .none => True
 | .cells t size ext fl fh c => ∃ arr fz, x0 = some (.cells arr t fz) ∧ size ≤ arr.size ∧ (ext = false → arr.size = size) ∧ size ≤ mc c ∧ (fz.1 ≤ fz.2 ∧ ∀ i, fz.1 ≤ i → i < fz.2 → fl ≤ i ∧ i < fh) ∧ a1q ρ size c arr
 | .ro t size c => ∃ arr t' fz, x0 = some (.cells arr t' fz) ∧ arr.size = size ∧ size ≤ mc c ∧ a1q ρ size c arr ∧ a6l t arr
 | .map es => ∃ entries clock, x0 = some (.map entries clock) ∧ ERel ρ es entries.toList
 | .pk t len n fl fh => ∃ arr fz, x0 = some (.cells arr t fz) ∧ len ≤ arr.size ∧ (fz.1 ≤ fz.2 ∧ ∀ i, fz.1 ≤ i → i < fz.2 → fl ≤ i ∧ i < fh) ∧ n < 256 ^ len ∧ ∀ (i : Nat) (b : UInt8), (bt len n)[i]? = some b → arr[i]? = some (Value.int .u8 b.toNat)
 | .umap es => ∃ entries clock l, x0 = some (.map entries clock) ∧ l.Perm es ∧ ERel ρ l entries.toList
 | .strIter len n pos => x0 = some (.stringIter (bg len n) pos) ∧ n < 256 ^ len
 | .loop st pend fn nt τ ps x y kd => ∃ tmps c, x0 = some (.loop { state := st, pending := pend, fn, tmps, params := ps.toArray, assign := x, body := y, defers := c }) ∧ ρ kd = some c ∧ tmps.size = nt ∧ nt ≤ 512 ∧ (∀ t, VRel ρ (jj t τ) (tmps.getD t undef)) ∧ ∃ g, InF fn (.rangeFunc g ps.toArray x y)
 | .win kb l => ∃ arr t fz c', x0 = some (.cells arr t fz) ∧ ρ kb = some c' ∧ fz.2 ≤ fz.1 ∧ ∀ (i : Nat) (h : i < l.length), ∃ v, arr[ρ.sz kb + i]? = some v ∧ VRel ρ l[i] v
 | .deferred (some []) => x0 = some (.deferred (some []))
 | .deferred none => x0 = some (.deferred none)
 | .deferred _ => False
 | .gob g => GORel g x0
 | .gp _ t n g ps => ∃ arr fz, x0 = some (.cells arr t fz) ∧ fz.2 ≤ fz.1 ∧ 0 ≤ n.eval Gv.σ ∧ ((g.eval Gv.σ).length : Int) ≤ n.eval Gv.σ ∧ (n.eval Gv.σ).toNat ≤ arr.size ∧ (∀ (i : Nat) (h : i < (g.eval Gv.σ).length), arr[i]? = some (ky (g.eval Gv.σ)[i])) ∧ GPs ρ arr ps
theorem ORel.mono {ρ ρ' : Env} (h : ρ.le ρ') {o : AObj} {x : Option Obj} (e : ORel ρ o x) : ORel ρ' o x := by
 cases o with
 | none => trivial
 | cells t size ext fl fh c =>
   obtain ⟨arr, fz, h1, h2, h3, h4, h5, h6⟩ := e
   exact ⟨arr, fz, h1, h2, h3, h4, h5, fun i hi => let ⟨v, a, b⟩ := h6 i hi; ⟨v, a, VRel.mono h _ _ b⟩⟩
 | ro t size c =>
   obtain ⟨arr, t', fz, h1, h2, h3, h6, h7⟩ := e
   exact ⟨arr, t', fz, h1, h2, h3, fun i hi => let ⟨v, a, b⟩ := h6 i hi; ⟨v, a, VRel.mono h _ _ b⟩, h7⟩
 | map es => obtain ⟨a, b, h1, h2⟩ := e; exact ⟨a, b, h1, ERel.mono h _ _ h2⟩
 | umap es => obtain ⟨a, b, l, h1, h2, h3⟩ := e; exact ⟨a, b, l, h1, h2, ERel.mono h _ _ h3⟩
 | pk => exact e
 | gob => exact e
 | gp => obtain ⟨arr, fz, h1, h2, h3, h4, h5, h6, h7⟩ := e; exact ⟨arr, fz, h1, h2, h3, h4, h5, h6, h7.mono h⟩
 | strIter => exact e
 | loop st pend fn nt τ ps x y kd => obtain ⟨tmps, c, h1, h2, h3, h4, h5, h6⟩ := e; exact ⟨tmps, c, h1, (h _ _ h2).1, h3, h4, fun t => VRel.mono h _ _ (h5 t), h6⟩
 | win kb l =>
   obtain ⟨arr, t, fz, c', h1, h2, h3, h4⟩ := e
   exact ⟨arr, t, fz, c', h1, (h _ _ h2).1, h3, fun i hi => let ⟨v, a, b⟩ := h4 i hi; ⟨v, by rw [(h _ _ h2).2]; exact a, VRel.mono h _ _ b⟩⟩
 | deferred ds =>
   cases ds with
   | none => exact e
   | some l => cases l with
     | nil => exact e
     | cons _ _ => exact e.elim
theorem GORel.some {o : GO} {x : Option Obj} (e : GORel o x) : ∃ y, x = some y := by
 cases o with
 | gh => obtain ⟨_, _, h, _⟩ := e; exact ⟨_, h⟩
 | junk => obtain ⟨_, _, h, _⟩ := e; exact ⟨_, h⟩
 | gmap => obtain ⟨_, _, h, _⟩ := e; exact ⟨_, h⟩
 | lh => exact e
 | rh => obtain ⟨_, _, _, h, _⟩ := e; exact ⟨_, h⟩
 | rb => obtain ⟨_, _, _, h, _⟩ := e; exact ⟨_, h⟩
 | iter => exact ⟨_, e.2.1⟩
theorem ORel.some {ρ : Env} {o : AObj} {x : Option Obj} (e : ORel ρ o x) (h : o ≠ .none) : ∃ y, x = some y := by
 cases o with
 | none => exact absurd rfl h
 | cells => obtain ⟨arr, fz, h1, _⟩ := e; exact ⟨_, h1⟩
 | ro => obtain ⟨arr, t', fz, h1, _⟩ := e; exact ⟨_, h1⟩
 | map => obtain ⟨a, b, h1, _⟩ := e; exact ⟨_, h1⟩
 | umap es => obtain ⟨a, b, l, h1, _⟩ := e; exact ⟨_, h1⟩
 | pk => obtain ⟨arr, fz, h1, _⟩ := e; exact ⟨_, h1⟩
 | gob => exact GORel.some e
 | gp => obtain ⟨arr, fz, h1, _⟩ := e; exact ⟨_, h1⟩
 | strIter => exact ⟨_, e.1⟩
 | loop st pend fn nt τ ps x y kd => obtain ⟨tmps, c, h1, _⟩ := e; exact ⟨_, h1⟩
 | win kb l => obtain ⟨arr, t, fz, c', h1, _⟩ := e; exact ⟨_, h1⟩
 | deferred ds =>
   cases ds with
   | none => exact ⟨_, e⟩
   | some l => cases l with
     | nil => exact ⟨_, e⟩
     | cons _ _ => exact e.elim
def W.h : W → H4 | .mk h _ => h
def W.nx : W → K | .mk _ nx => nx
@[simp] theorem W.h_mk (h : H4) (nx : K) : (W.mk h nx).h = h := rfl
@[simp] theorem W.nx_mk (h : H4) (nx : K) : (W.mk h nx).nx = nx := rfl
theorem bj (b : K) (a : W) : eo b a = aa b a.h := by cases a; rfl
theorem gu (b : K) (o : AObj) (a : W) : wset b o a = .mk (dg b o a.h) a.nx := by cases a; rfl
def AObj.isRo : AObj → Bool | .ro .. => true | .gob (.rh ..) => true | .gob (.rb ..) => true | .gp r .. => r | _ => false
def bi : AObj → Option (Nat × GE)
 | .gob (.lh k g) => some (k, g)
 | _ => none
structure GhAt (ρ : Env) (a : W) (w : World) (k : K) (kd : Nat) (g : GE) : Prop where
 root : ∀ c, ρ k = some c → ρ.ft k c
 rel : ∀ c, ρ k = some c → ah4 kd (g.eval Gv.σ) c (ρ.ft k) w.heap
 lt : ∀ c, ρ.ft k c → c < w.heap.size
 sep : ∀ l, aa l a.h ≠ .none → l ≠ k → ∀ c, ρ l = some c → ¬ ρ.ft k c
 dis : ∀ l, bi (aa l a.h) ≠ none → l ≠ k → ∀ c, ρ.ft l c → ¬ ρ.ft k c
structure WRel (ρ : Env) (a : W) (w : World) : Prop where
 inj : ∀ k l, aa k a.h ≠ .none → aa l a.h ≠ .none → ρ k = ρ l → k = l ∨ ((aa k a.h).isRo = true ∧ (aa l a.h).isRo = true)
 dom : ∀ k, aa k a.h ≠ .none → ∃ c, ρ k = some c ∧ ORel ρ (aa k a.h) (w.heap[c]?)
 len : ∀ k c arr t fz, aa k a.h ≠ .none → ρ k = some c → w.heap[c]? = some (.cells arr t fz) → arr.size = ρ.sz k
 gho : ∀ k kd g, bi (aa k a.h) = some (kd, g) → GhAt ρ a w k kd g
theorem WRel.inj1 {ρ : Env} {a : W} {w : World} (h : WRel ρ a w) {k l : K} (hk : aa k a.h ≠ .none) (hl : aa l a.h ≠ .none) (hr : (aa k a.h).isRo = false ∨ (aa l a.h).isRo = false) (e : ρ k = ρ l) : k = l := by
 rcases h.inj k l hk hl e with h | ⟨h1, h2⟩
 ·exact h
 ·rw [h1, h2] at hr; simp at hr
theorem GhAt.step {ρ ρ' : Env} {a a' : W} {w w' : World} {k : K} {kd : Nat} {g : GE} (h : GhAt ρ a w k kd g) (hk : ρ' k = ρ k) (hft : ρ'.ft k = ρ.ft k) (hs : w.heap.size ≤ w'.heap.size) (hfr : ∀ c, ρ.ft k c → w'.heap[c]? = w.heap[c]?)
  (hsep : ∀ l, aa l a'.h ≠ .none → l ≠ k → ∀ c, ρ' l = some c → ¬ ρ.ft k c) (hdis : ∀ l, bi (aa l a'.h) ≠ none → l ≠ k → ∀ c, ρ'.ft l c → ¬ ρ.ft k c) : GhAt ρ' a' w' k kd g := by
 refine ⟨?_, ?_, ?_, ?_, ?_⟩
 ·rw [hk, hft]; exact h.root
 ·rw [hk, hft]; exact fun c hc => aqv hfr (h.rel c hc)
 ·rw [hft]; exact fun c hc => Nat.lt_of_lt_of_le (h.lt c hc) hs
 ·rw [hft]; exact hsep
 ·rw [hft]; exact hdis
omit [Gv] in
theorem db {o : AObj} (h : bi o ≠ none) : o ≠ .none := by rintro rfl; exact h rfl
omit [Gv] in
theorem ss {o : AObj} {x : Nat × GE} (h : bi o = some x) : bi o ≠ none := by rw [h]; simp
def Own (ρ : Env) (a : W) (c : Nat) : Prop := ∃ k, aa k a.h ≠ .none ∧ (aa k a.h).isRo = false ∧ (ρ k = some c ∨ (bi (aa k a.h) ≠ none ∧ ρ.ft k c))
def Fresh (ρ : Env) (a a' : W) : Prop := ∀ k, a.nx.num ≤ k.num → k.num < a'.nx.num → ρ k = none
structure Adv (ρ : Env) (a : W) (w : World) (ρ' : Env) (a' : W) (w' : World) : Prop where
 rel : WRel ρ' a' w'
 le : ρ.le ρ'
 rng : ∀ k, ρ' k = ρ k ∨ (a.nx.num ≤ k.num ∧ k.num < a'.nx.num)
 nx : a.nx.num ≤ a'.nx.num
 size : w.heap.size ≤ w'.heap.size
 own : ∀ c, Own ρ' a' c → Own ρ a c ∨ w.heap.size ≤ c
 keep : ∀ k c, aa k a'.h ≠ .none → ρ' k = some c → (∃ l, aa l a.h ≠ .none ∧ ρ l = some c) ∨ w.heap.size ≤ c
 frame : ∀ c, c < w.heap.size → ¬ Own ρ a c → w'.heap[c]? = w.heap[c]?
 fts : ∀ k, k.num < a.nx.num → bi (aa k a.h) = none → ρ'.ft k = ρ.ft k ∧ bi (aa k a'.h) = none
 os : w'.os = w.os
 tape : w'.tape = w.tape
 output : w'.output = w.output
theorem Adv.refl {ρ : Env} {a : W} {w : World} (h : WRel ρ a w) : Adv ρ a w ρ a w :=
 ⟨h, Env.le_refl ρ, fun _ => .inl rfl, zY _, zY _, fun _ h => .inl h, fun k _ h e => .inl ⟨k, h, e⟩, fun _ _ _ => rfl, fun _ _ h => ⟨rfl, h⟩, rfl, rfl, rfl⟩
theorem Adv.trans {ρ ρ1 ρ2 : Env} {a a1 a2 : W} {w w1 w2 : World} (h : Adv ρ a w ρ1 a1 w1) (k : Adv ρ1 a1 w1 ρ2 a2 w2) : Adv ρ a w ρ2 a2 w2 where
 rel := k.rel
 le := Env.le_trans h.le k.le
 rng x := by
  have := h.nx; have := k.nx
  rcases k.rng x with e | e
  ·rcases h.rng x with e' | e'
   ·exact .inl (e.trans e')
   ·exact .inr (by omega)
  ·exact .inr (by omega)
 nx := Nat.le_trans h.nx k.nx
 size := Nat.le_trans h.size k.size
 own c hc := by
  have := h.size
  rcases k.own c hc with e | e
  ·rcases h.own c e with e' | e'
   ·exact .inl e'
   ·exact .inr e'
  ·exact .inr (by omega)
 keep x c hx hc := by
  have := h.size
  rcases k.keep x c hx hc with ⟨l, e1, e2⟩ | e
  ·exact h.keep l c e1 e2
  ·exact .inr (by omega)
 frame c hc hn := by
  have hs := h.size
  rw [k.frame c (by omega) (fun e => by rcases h.own c e with e' | e'; exact hn e'; omega)]
  exact h.frame c hc hn
 fts x hx hl := by
  have h1 := h.fts x hx hl
  have h2 := k.fts x (Nat.lt_of_lt_of_le hx h.nx) h1.2
  exact ⟨h2.1.trans h1.1, h2.2⟩
 os := k.os.trans h.os
 tape := k.tape.trans h.tape
 output := k.output.trans h.output
theorem Fresh.left {ρ : Env} {a a1 a2 : W} (h : Fresh ρ a a2) (h' : a1.nx.num ≤ a2.nx.num) : Fresh ρ a a1 := fun k h1 h2 => h k h1 (by omega)
theorem Fresh.right {ρ ρ1 : Env} {a a1 a2 : W} {w w1 : World} (h : Fresh ρ a a2) (k : Adv ρ a w ρ1 a1 w1) : Fresh ρ1 a1 a2 := by
 intro x h1 h2
 have := k.nx
 rcases k.rng x with e | e
 ·rw [e]; exact h x (by omega) h2
 ·omega
theorem Adv.drew {ρ ρ' : Env} {a a' : W} {w w' : World} (h : Adv ρ a w ρ' a' w') : Adv ρ a w ρ' a' w'.drew :=
 ⟨⟨h.rel.inj, h.rel.dom, h.rel.len, fun k kd g hk => let q := h.rel.gho k kd g hk; ⟨q.root, q.rel, q.lt, q.sep, q.dis⟩⟩, h.le, h.rng, h.nx, h.size, h.own, h.keep, h.frame, h.fts, h.os, h.tape, h.output⟩
def upd (ρ : Env) (k : K) (c n : Nat) : Env := { blk := fun l => if l = k then some c else ρ l, sz := fun l => if l = k then n else ρ.sz l, ft := ρ.ft }
theorem dl (ρ : Env) (k : K) (c n : Nat) : upd ρ k c n k = some c := by simp [upd]
theorem ip (ρ : Env) {k l : K} (h : l ≠ k) (c n : Nat) : upd ρ k c n l = ρ l := by simp [upd, h]
theorem qi (ρ : Env) (k : K) (c n : Nat) : (upd ρ k c n).sz k = n := by simp [upd]
theorem a5k (ρ : Env) {k l : K} (h : l ≠ k) (c n : Nat) : (upd ρ k c n).sz l = ρ.sz l := by simp [upd, h]
theorem a3x (ρ : Env) (k : K) (c n : Nat) (h : ρ k = none) : ρ.le (upd ρ k c n) := by
 intro l x e
 by_cases hk : l = k
 ·subst hk; rw [h] at e; cases e
 ·rw [ip ρ hk, a5k ρ hk]; exact ⟨e, rfl⟩
def Obj.cellCount : Obj → Nat
 | .cells arr _ _ => arr.size
 | _ => 0
theorem yf {ρ : Env} {h : H4} {nx : K} {w : World} {o : AObj} {obj : Obj} (hw : WRel ρ (.mk h nx) w) (hf : ρ nx = none) (hm : nx.isMax = false)
  (ho : ORel ρ o (some obj)) (hlo : bi o = none := by rfl) : Adv ρ (.mk h nx) w (upd ρ nx w.heap.size (Obj.cellCount obj)) (.mk (dg nx o h) nx.succ) (w.alloc obj) := by
 have hle := a3x ρ nx w.heap.size (Obj.cellCount obj) hf
 have hn : aa nx h = .none := by
  by_cases e : aa nx h = .none
  ·exact e
  ·obtain ⟨c, hc, _⟩ := hw.dom nx e; rw [hf] at hc; cases hc
 have lt : ∀ k c, aa k h ≠ .none → ρ k = some c → c < w.heap.size := by
  intro k c hk hc
  obtain ⟨c', hc', ho'⟩ := hw.dom k hk
  rw [hc] at hc'; cases hc'
  obtain ⟨y, hy⟩ := ho'.some hk
  exact (zI.1 hy).1
 have old : ∀ k, k ≠ nx → aa k (dg nx o h) = aa k h := fun k hk => az hk o h
 have get : ∀ c, c < w.heap.size → (w.alloc obj).heap[c]? = w.heap[c]? := fun c hc => RowKit.Below.heap_alloc w obj c hc
 have hnx : nx.succ.num = nx.num + 1 := K.succ_num hm
 refine ⟨⟨?_, ?_, ?_, ?_⟩, hle, ?_, ?_, ?_, ?_, ?_, ?_, ?_, rfl, rfl, rfl⟩
 ·intro k l hk hl e
  simp only [W.h_mk] at hk hl
  by_cases k1 : k = nx
  ·by_cases l1 : l = nx
   ·left; rw [k1, l1]
   ·exfalso
    rw [old l l1] at hl
    obtain ⟨c, hc, _⟩ := hw.dom l hl
    rw [k1, dl, ip ρ l1, hc] at e
    have := lt l c hl hc
    injection e with e; omega
  ·rw [old k k1] at hk
   by_cases l1 : l = nx
   ·exfalso
    obtain ⟨c, hc, _⟩ := hw.dom k hk
    rw [l1, dl, ip ρ k1, hc] at e
    have := lt k c hk hc
    injection e with e; omega
   ·rw [old l l1] at hl
    rw [ip ρ k1, ip ρ l1] at e
    have := hw.inj k l hk hl e
    simp only [W.h_mk] at this ⊢
    rw [old k k1, old l l1]; exact this
 ·intro k hk
  simp only [W.h_mk] at hk ⊢
  by_cases k1 : k = nx
  ·subst k1
   refine ⟨w.heap.size, dl ρ k _ _, ?_⟩
   rw [ai]
   have : (w.alloc obj).heap[w.heap.size]? = some obj := by show (w.heap.push obj)[w.heap.size]? = _; simp
   rw [this]
   exact ho.mono hle
  ·rw [old k k1] at hk ⊢
   obtain ⟨c, hc, ho'⟩ := hw.dom k hk
   refine ⟨c, by rw [ip ρ k1]; exact hc, ?_⟩
   rw [get c (lt k c hk hc)]
   exact ho'.mono hle
 ·intro k c arr t fz hk hc hx
  simp only [W.h_mk] at hk
  by_cases k1 : k = nx
  ·subst k1
   rw [dl] at hc
   injection hc with hc
   subst hc
   have : (w.alloc obj).heap[w.heap.size]? = some obj := by show (w.heap.push obj)[w.heap.size]? = _; simp
   rw [this] at hx
   injection hx with hx
   rw [qi, hx]; rfl
  ·rw [old k k1] at hk
   rw [ip ρ k1] at hc
   rw [get c (lt k c hk hc)] at hx
   rw [a5k ρ k1]
   exact hw.len k c arr t fz hk hc hx
 ·intro k kd g hk
  simp only [W.h_mk] at hk
  have k1 : k ≠ nx := by rintro rfl; rw [ai, hlo] at hk; cases hk
  rw [old k k1] at hk
  have q := hw.gho k kd g hk
  refine q.step (ip ρ k1 _ _) rfl (by rw [World.size_alloc]; omega) (fun c hc => get c (q.lt c hc)) ?_ ?_
  ·intro l hl hlk c hc
   simp only [W.h_mk] at hl
   by_cases l1 : l = nx
   ·subst l1; rw [dl] at hc; injection hc with hc; intro hf'; have := q.lt _ hf'; omega
   ·rw [old l l1] at hl; rw [ip ρ l1] at hc; exact q.sep l hl hlk c hc
  ·intro l hl hlk
   simp only [W.h_mk] at hl
   have l1 : l ≠ nx := by rintro rfl; rw [ai, hlo] at hl; exact hl rfl
   rw [old l l1] at hl
   exact q.dis l hl hlk
 ·intro k
  by_cases k1 : k = nx
  ·subst k1; right; simp only [W.nx_mk]; omega
  ·left; exact ip ρ k1 _ _
 ·simp only [W.nx_mk]; omega
 ·rw [World.size_alloc]; omega
 ·rintro c ⟨k, hk, hr, hc⟩
  simp only [W.h_mk] at hk hr hc
  by_cases k1 : k = nx
  ·subst k1
   rcases hc with hc | ⟨hc, _⟩
   ·rw [dl] at hc; injection hc with hc; right; omega
   ·rw [ai, hlo] at hc; exact absurd rfl hc
  ·rw [old k k1] at hk hr hc; rw [ip ρ k1] at hc
   exact .inl ⟨k, hk, hr, hc⟩
 ·intro k c hk hc
  simp only [W.h_mk] at hk
  by_cases k1 : k = nx
  ·subst k1; rw [dl] at hc; injection hc with hc; right; omega
  ·rw [old k k1] at hk; rw [ip ρ k1] at hc
   exact .inl ⟨k, hk, hc⟩
 ·intro c hc _; exact get c hc
 ·intro k hk hl
  have k1 : k ≠ nx := by rintro rfl; simp only [W.nx_mk] at hk; omega
  refine ⟨rfl, ?_⟩
  show bi (aa k (dg nx o h)) = none
  rw [old k k1]
  exact hl
theorem yg {ρ : Env} {a : W} {w w' : World} {b : K} {c : Nat} {o : AObj} {obj : Obj} (hw : WRel ρ a w) (hb : aa b a.h ≠ .none) (hr : (aa b a.h).isRo = false)
  (hc : ρ b = some c) (ho : ORel ρ o (some obj)) (hn : o ≠ .none) (hcount : ∀ arr t fz, obj = .cells arr t fz → arr.size = ρ.sz b) (hx : w'.heap[c]? = some obj) (hs : w'.heap.size = w.heap.size) (hother : ∀ d, d ≠ c → w'.heap[d]? = w.heap[d]?)
  (h1 : w'.os = w.os) (h2 : w'.tape = w.tape) (h3 : w'.output = w.output) (hlb : bi (aa b a.h) = none) (hlo : bi o = none := by rfl) : Adv ρ a w ρ (wset b o a) w' := by
 rw [gu]
 have old : ∀ k, k ≠ b → aa k (dg b o a.h) = aa k a.h := fun k hk => az hk o a.h
 have liv : ∀ k, aa k (dg b o a.h) ≠ .none → aa k a.h ≠ .none := by
  intro k hk
  by_cases e : k = b
  ·subst e; exact hb
  ·rw [old k e] at hk; exact hk
 have lhs : ∀ k, bi (aa k (dg b o a.h)) = bi (aa k a.h) := by
  intro k
  by_cases e : k = b
  ·subst e; rw [ai, hlo, hlb]
  ·rw [old k e]
 refine ⟨⟨?_, ?_, ?_, ?_⟩, Env.le_refl ρ, fun _ => .inl rfl, zY _, by omega, ?_, fun k c hk hc => .inl ⟨k, liv k hk, hc⟩, ?_, ?_, h1, h2, h3⟩
 ·intro k l hk hl e
  by_cases k1 : k = b
  ·by_cases l1 : l = b
   ·left; rw [k1, l1]
   ·subst k1; exact absurd (hw.inj1 hb (liv l hl) (.inl hr) e).symm l1
  ·by_cases l1 : l = b
   ·subst l1; exact absurd (hw.inj1 (liv k hk) hb (.inr hr) e) k1
   ·have := hw.inj k l (liv k hk) (liv l hl) e
    simp only [W.h_mk]
    rw [old k k1, old l l1]; exact this
 ·intro k hk
  simp only [W.h_mk] at hk ⊢
  by_cases e : k = b
  ·subst e; exact ⟨c, hc, by rw [ai, hx]; exact ho⟩
  ·have hk' := liv k hk
   obtain ⟨d, hd, ho'⟩ := hw.dom k hk'
   refine ⟨d, hd, ?_⟩
   rw [old k e, hother d]
   ·exact ho'
   ·intro e'; subst e'; exact e (hw.inj1 hk' hb (.inr hr) (by rw [hd, hc]))
 ·intro k d arr t fz hk hd hxx
  simp only [W.h_mk] at hk
  by_cases e : k = b
  ·subst e
   rw [hc] at hd; injection hd with hd; subst hd
   rw [hx] at hxx; injection hxx with hxx
   exact hcount arr t fz hxx
  ·have hk' := liv k hk
   rw [hother d] at hxx
   ·exact hw.len k d arr t fz hk' hd hxx
   ·intro e'; subst e'; exact e (hw.inj1 hk' hb (.inr hr) (by rw [hd, hc]))
 ·intro k kd g hk
  simp only [W.h_mk] at hk
  rw [lhs k] at hk
  have q := hw.gho k kd g hk
  have hbk : b ≠ k := by rintro rfl; rw [hlb] at hk; cases hk
  refine q.step rfl rfl (by omega) (fun d hd => hother d ?_) (fun l hl hlk => q.sep l (liv l hl) hlk) (fun l hl hlk => q.dis l (by rw [← lhs l]; exact hl) hlk)
  rintro rfl
  exact q.sep b hb hbk d hc hd
 ·rintro d ⟨k, hk, hr', hd⟩
  simp only [W.h_mk] at hk hr' hd
  rw [lhs k] at hd
  by_cases e : k = b
  ·subst e; exact .inl ⟨k, hb, hr, hd⟩
  ·rw [old k e] at hk hr'; exact .inl ⟨k, hk, hr', hd⟩
 ·intro d _ hd
  exact hother d fun e => hd ⟨b, hb, hr, .inl (by rw [e]; exact hc)⟩
 ·intro k _ hk
  refine ⟨rfl, ?_⟩
  show bi (aa k (dg b o a.h)) = none
  rw [lhs k]
  exact hk
end Go.Ev
set_option linter.all false
namespace Go.Ev
variable [Gv]
section tables
variable {α : Type}
theorem tr (l : List α) : ∀ i, nth l i = l[i]? := by
 induction l with
 | nil => intro i; rfl
 | cons x l ih =>
   intro i
   cases i with
   | zero => rfl
   | succ i => show nth l i = _; rw [ih]; simp
theorem aub (l : List α) (k : Nat) (h : k < 16) : N.get (I.of k) (a3y l) = l[k]? := by
 match k, h with
 | 0, _ | 1, _ | 2, _ | 3, _ | 4, _ | 5, _ | 6, _ | 7, _ | 8, _ | 9, _ | 10, _ | 11, _ | 12, _ | 13, _ | 14, _ | 15, _ => exact tr l _
 | n + 16, h => omega
theorem ap2 {β : Type} (f : List α → β) (s : Nat) (l : List α) (k : Nat) (h : k < 16) : N.get (I.of k) (baw f s l) = f (l.drop (k * s)) := by
 match k, h with
 | 0, _ => simp only [Nat.zero_mul, List.drop_zero]; rfl
 | 1, _ => simp only [Nat.one_mul]; rfl
 | 2, _ | 3, _ | 4, _ | 5, _ | 6, _ | 7, _ | 8, _ | 9, _ | 10, _ | 11, _ | 12, _ | 13, _ | 14, _ | 15, _ => rfl
 | n + 16, h => omega
theorem axl (l : List α) (i : Nat) (h : i < 4096) : a8j (axp l) i = l[i]? := by
 unfold a8j axp
 rw [ap2 _ _ _ _ (by omega), ap2 _ _ _ _ (by omega), aub _ _ (by omega)]
 simp only [List.getElem?_drop, List.drop_drop]
 congr 1
 omega
end tables
theorem afp {f : FuncId} {fn : Func} (h : ako f = some fn) : PP.funcs[f]? = some fn := by
 unfold ako at h
 rw [ac] at h
 split at h
 ·rename_i hb
  have := zE hb
  unfold FT at h
  rw [axl _ _ (by omega)] at h
  simpa using h
 ·cases h
theorem ic {t : TypeId} {i : TypeInfo} (h : iy t = some i) : PP.info? t = some i := by
 unfold iy at h
 rw [ac] at h
 split at h
 ·rename_i hb
  have := zE hb
  unfold TT at h
  rw [axl _ _ (by omega)] at h
  have h' : PP.types[t]? = some i := by simpa using h
  have hlt := (zI.1 h').1
  unfold Tables.info?
  rw [if_pos hlt]
  exact h'
 ·cases h
theorem df {t : TypeId} {d : TypeDesc} (h : be t = some d) : PP.underlying t = some d := by
 unfold be at h
 cases hi : iy t with
 | none => rw [hi] at h; cases h
 | some i =>
   rw [hi] at h
   unfold Program.underlying
   rw [ic hi]
   obtain ⟨desc, a1, a2, a3, a4, a5, a6, a7, a8, a9⟩ := i
   cases desc <;> first
    | exact h
    | (simp only [axr] at h
       rename_i nm u
       cases hu : iy u with
       | none => rw [hu] at h; cases h
       | some j => rw [hu] at h; simp only [ic hu]; exact h)
theorem mw {t : TypeId} {n : Nat} (h : sizeOf t = some n) : ∃ i, PP.info? t = some i ∧ i.size = n := by
 unfold sizeOf at h
 cases hi : iy t with
 | none => rw [hi] at h; cases h
 | some i => rw [hi] at h; exact ⟨i, ic hi, by simpa using h⟩
theorem ev {t : TypeId} {v : AV} (h : j1 t = some v) : ∃ i z, PP.info? t = some i ∧ i.zero = some z ∧ v = ofV z := by
 unfold j1 at h
 cases hi : iy t with
 | none => rw [hi] at h; cases h
 | some i =>
   rw [hi] at h
   simp only [Option.bind_some] at h
   cases hz : i.zero with
   | none => rw [hz] at h; cases h
   | some z => rw [hz] at h; exact ⟨i, z, ic hi, hz, by simpa using h.symm⟩
section runs
variable {w : World}
theorem ae {t : TypeId} {d : TypeDesc} (h : be t = some d) : (underlying t).run PP w = .ok d w := run_underlying (df h) w
theorem jx {t : TypeId} {i : TypeInfo} (h : PP.info? t = some i) : (typeInfo t).run PP w = .ok i w := by simp [typeInfo, h]
theorem b8 {t : TypeId} {n : Nat} (h : sizeOf t = some n) : (Go.sizeOf t).run PP w = .ok n w := by
 obtain ⟨i, hi, rfl⟩ := mw h
 simp [Go.sizeOf, jx hi]
theorem gz {t : TypeId} {i : TypeInfo} {z : Value} (h : PP.info? t = some i) (hz : i.zero = some z) : (zeroValue t).run PP w = .ok z w := by
 simp [zeroValue, jx h, hz]
theorem ly {t : TypeId} {d : TypeDesc} (h : be t = some d) : (isAgg t).run PP w = .ok (jf d) w := by
 simp only [isAgg, zR, ae h, zQ]
 cases d <;> rfl
theorem kk {t : TypeId} {r : Option Nat} (h : qs t = some r) : ∃ d n, be t = some d ∧ sizeOf t = some n ∧ some r = (if jf d then some (some n) else if n = 1 then some none else none) := by
 unfold qs at h
 cases hu : be t with
 | none => rw [hu] at h; cases h
 | some d =>
   cases hs : sizeOf t with
   | none => rw [hu, hs] at h; cases h
   | some n => rw [hu, hs] at h; exact ⟨d, n, rfl, rfl, h.symm⟩
end runs
theorem a0p (ρ : Env) (p : Option Addr) : VRel ρ (a4s p) (.pointer p) := by cases p <;> simp only [a4s, VRel]
theorem a4t (ρ : Env) (p : Option Addr) (l c : Nat) : VRel ρ (bbw p l c) (.slice p l c) := by
 unfold bbw; split <;> simp only [VRel]
theorem a0o (ρ : Env) (p : Option Nat) : VRel ρ (a4r p) (.map p) := by cases p <;> simp only [a4r, VRel]
theorem axa (ρ : Env) (v : Value) : VRel ρ (ofS v) v := by
 cases v <;> simp only [ofS] <;> first
  | exact a0p ρ _
  | exact a4t ρ _ _ _
  | exact a0o ρ _
  | (simp only [VRel]; done)
  | (simp only [VRel]; exact ⟨an2 _, by rw [yb]⟩)
theorem ar5 (ρ : Env) : ∀ (l : List Value), VRels ρ (l.map ofS) l
 | [] => by simp [VRels]
 | v :: l => by simp only [List.map_cons, VRels]; exact ⟨v, l, rfl, axa ρ v, ar5 ρ l⟩
theorem a0q (ρ : Env) (l : Array Value) : VRel ρ (axb l.toList) (.tuple l) := by
 cases h : l.toList with
 | nil => simp only [axb, VRel]; exact ⟨l, rfl, by simp [h, VRels]⟩
 | cons x r => simp only [axb, VRel]
theorem ie (ρ : Env) (v : Value) : VRel ρ (ofV v) v := by
 cases v <;> simp only [ofV] <;> first
  | exact axa ρ _
  | exact a0q ρ _
  | (simp only [VRel]; exact ⟨_, rfl, ar5 ρ _⟩)
def VOK (ρ : Env) (a : W) (w : World) (s : Sem Value) (r : OR) : Prop :=
 match r with
 | .val v a' => Fresh ρ a a' → ∃ ρ' w' v', s.run PP w = .ok v' w' ∧ VRel ρ' v v' ∧ Adv ρ a w ρ' a' w'
 | .no _ => True
 | _ => False
def UOK (ρ : Env) (a : W) (w : World) (s : Sem Unit) (r : OR) : Prop :=
 match r with
 | .val v a' => Fresh ρ a a' → v = jo ∧ ∃ ρ' w', s.run PP w = .ok () w' ∧ Adv ρ a w ρ' a' w'
 | .no _ => True
 | _ => False
section
variable {ρ : Env} {a : W} {w : World}
theorem VOK.of_run {s s' : Sem Value} {r : OR} (h : VOK ρ a w s r) (e : s.run PP w = s'.run PP w) : VOK ρ a w s' r := by
 cases r with
 | val v a' => intro hf; obtain ⟨ρ', w', v', h1, h2, h3⟩ := h hf; exact ⟨ρ', w', v', by rw [← e]; exact h1, h2, h3⟩
 | no => trivial
 | _ => exact h
theorem VOK.here {s : Sem Value} {v : AV} {v' : Value} (hw : WRel ρ a w) (h : s.run PP w = .ok v' w) (hv : VRel ρ v v') : VOK ρ a w s (.val v a) :=
 fun _ => ⟨ρ, w, v', h, hv, Adv.refl hw⟩
theorem WRel.block (hw : WRel ρ a w) {b : K} {o : AObj} (h : eo b a = o) (hn : o ≠ .none) {c : Nat} (hc : ρ b = some c) : ORel ρ o (w.heap[c]?) := by
 rw [bj] at h
 obtain ⟨c', hc', ho⟩ := hw.dom b (by rw [h]; exact hn)
 rw [hc] at hc'; cases hc'
 rw [h] at ho; exact ho
theorem ib {b off : Nat} {arr : Array Value} {t : TypeId} {fz : Nat × Nat} (h : w.heap[b]? = some (.cells arr t fz)) : w.cell? ⟨b, off, none⟩ = arr[off]? := by
 simp [World.cell?, h]
theorem ai0 {o : AObj} {i : Nat} {v : AV} {c : Nat} (h : an1 o i = some v) (ho : ORel ρ o (w.heap[c]?)) : ∃ v', w.cell? ⟨c, i, none⟩ = some v' ∧ VRel ρ v v' := by
 cases o <;> simp only [an1] at h <;> try (cases h; done)
 ·rw [ac] at h
  split at h
  ·rename_i hb
   obtain ⟨arr, fz, h1, h2, h3, h4, h5, h6⟩ := ho
   obtain ⟨v', h7, h8⟩ := h6 i (by simpa using hb)
   cases h
   exact ⟨v', by rw [ib h1]; exact h7, h8⟩
  ·cases h
 ·rw [ac] at h
  split at h
  ·rename_i hb
   obtain ⟨arr, t', fz, h1, h2, h3, h6, _⟩ := ho
   obtain ⟨v', h7, h8⟩ := h6 i (by simpa using hb)
   cases h
   exact ⟨v', by rw [ib h1]; exact h7, h8⟩
  ·cases h
theorem als {o : AObj} {i : Nat} {v : AV} (h : an1 o i = some v) : o ≠ .none := by rintro rfl; cases h
theorem a3v (hw : WRel ρ a w) {p : AV} {p' : Value} (hp : VRel ρ p p') : VOK ρ a w (do load (← Instr.sureAddr p')) (arj p a) := by
 unfold arj
 split
 ·rename_i b kb i
  simp only [VRel] at hp
  obtain ⟨c, c', hc, hk, rfl⟩ := hp
  unfold a3w
  split <;> try trivial
  rename_i kb' l hg
  rw [ac]
  split <;> try trivial
  rename_i hkb
  obtain rfl := (K.beq_iff _ _).1 hkb
  split <;> try trivial
  rename_i v hv
  rw [tr] at hv
  obtain ⟨hlt, hv⟩ := List.getElem?_eq_some_iff.1 hv
  obtain ⟨arr, t, fz, c'', e1, e2, e3, e4⟩ := hw.block hg (by simp) hc
  obtain ⟨v', q1, q2⟩ := e4 i hlt
  rw [hv] at q2
  refine VOK.here hw (v' := v') ?_ q2
  have h1 : w.cell? ⟨c, ρ.sz kb + i, none⟩ = some v' := by rw [ib e1]; exact q1
  simp [Instr.sureAddr, h1]
 ·rename_i b off
  simp only [VRel] at hp
  obtain ⟨c, hc, rfl⟩ := hp
  split
  ·rename_i v hv
   obtain ⟨v', h1, h2⟩ := ai0 hv (hw.block rfl (als hv) hc)
   refine VOK.here hw (v' := v') ?_ h2
   simp [Instr.sureAddr, h1]
  ·trivial
 ·trivial
theorem rm {arr : Array Value} {c : Cells} {size i n : Nat} (hc : a1q ρ size c arr) (h : i + n ≤ size) :
  ∃ l : List Value, l.length = n ∧ VRels ρ (nf c n i) l ∧ ∀ j v, l[j]? = some v → arr[i + j]? = some v := by
 refine ⟨(List.range n).map fun j => arr.getD (i + j) undef, by simp, ?_, ?_⟩
 ·apply VRels.of_get
  ·rw [xh]; simp
  ·intro j hj
   rw [xh] at hj
   simp at hj
   obtain ⟨v, h1, h2⟩ := hc (i + j) (by omega)
   refine ⟨v, ?_, ?_⟩
   ·simp [hj, Array.getD_eq_getD_getElem?, h1]
   ·simp only [xh, List.getElem_map, List.getElem_range]; exact h2
 ·intro j v hj
  have hlt : j < n := by have := (List.getElem?_eq_some_iff.1 hj).1; simpa using this
  obtain ⟨v', h1, _⟩ := hc (i + j) (by omega)
  simp [hlt, Array.getD_eq_getD_getElem?, h1] at hj
  rw [h1, hj]
theorem mt {o : AObj} {i n : Nat} {l : List AV} {c : Nat} (h : zf o i n = some l) (ho : ORel ρ o (w.heap[c]?)) :
  ∃ l' : List Value, l'.length = n ∧ VRels ρ l l' ∧ ∀ j v, l'[j]? = some v → w.cell? ⟨c, i + j, none⟩ = some v := by
 cases o <;> simp only [zf] at h <;> try (cases h; done)
 ·rw [ac] at h
  split at h
  ·rename_i hb
   obtain ⟨arr, fz, h1, h2, h3, h4, h5, h6⟩ := ho
   obtain ⟨l', h7, h8, h9⟩ := rm h6 (zE hb)
   cases h
   exact ⟨l', h7, h8, fun j v hj => by rw [ib h1]; exact h9 j v hj⟩
  ·cases h
 ·rw [ac] at h
  split at h
  ·rename_i hb
   obtain ⟨arr, t', fz, h1, h2, h3, h6, _⟩ := ho
   obtain ⟨l', h7, h8, h9⟩ := rm h6 (zE hb)
   cases h
   exact ⟨l', h7, h8, fun j v hj => by rw [ib h1]; exact h9 j v hj⟩
  ·cases h
theorem om {o : AObj} {i n : Nat} {l : List AV} (h : zf o i n = some l) : o ≠ .none := by rintro rfl; cases h
theorem da (c o j : Nat) : (⟨c, o, none⟩ : Addr).add j = ⟨c, o + j, none⟩ := by
 unfold Addr.add; split
 ·rename_i h; subst h; rfl
 ·rfl
theorem jw {c o : Nat} {l : List Value} {n : Nat} (hn : l.length = n) (h : ∀ j v, l[j]? = some v → w.cell? ⟨c, o + j, none⟩ = some v) :
  (loadCells ⟨c, o, none⟩ n).run PP w = .ok l.toArray w := by
 subst hn
 exact run_loadCells_list w ⟨c, o, none⟩ l fun j v hj => by rw [da]; exact h j v hj
theorem a0e (hw : WRel ρ a w) {p : AV} {p' : Value} (hp : VRel ρ p p') (n : Nat) : VOK ρ a w (do pure (.agg (← loadCells (← Instr.sureAddr p') n))) (aik n p a) := by
 unfold aik
 split
 ·rename_i b off
  simp only [VRel] at hp
  obtain ⟨c, hc, rfl⟩ := hp
  split
  ·rename_i l hl
   obtain ⟨l', h1, h2, h3⟩ := mt hl (hw.block rfl (om hl) hc)
   refine VOK.here hw (v' := .agg l'.toArray) ?_ (by simp only [VRel]; exact ⟨_, rfl, by simpa using h2⟩)
   simp [Instr.sureAddr, jw h1 h3]
  ·trivial
 ·trivial
theorem a7v (hw : WRel ρ a w) {p : AV} {p' : Value} (hp : VRel ρ p p') (t : TypeId) : VOK ρ a w (Instr.loadAt t p') (vn t p a) := by
 unfold vn
 split
 ·rename_i h
  obtain ⟨d, n, hd, hs, hr⟩ := kk h
  have hagg : jf d = false := by cases e : jf d with | false => rfl | true => rw [e] at hr; simp at hr
  refine (a3v hw hp).of_run ?_
  simp only [Instr.loadAt, loadVar, zR]
  cases hsr : (Instr.sureAddr p').run PP w with
  | halt h w' => rfl
  | ok ad w' => simp only [zQ, zR, ly hd, hagg, zF, if_false]
 ·rename_i n h
  obtain ⟨d, m, hd, hs, hr⟩ := kk h
  by_cases hagg : jf d = true
  ·rw [if_pos hagg] at hr
   injection hr with hr
   injection hr with hr
   subst hr
   refine (a0e hw hp n).of_run ?_
   simp only [Instr.loadAt, loadVar, zR]
   cases hsr : (Instr.sureAddr p').run PP w with
   | halt h w' => rfl
   | ok ad w' => simp only [zQ, zR, ly hd, hagg, if_true, b8 hs]
  ·rw [if_neg hagg] at hr
   split at hr <;> cases hr
 ·trivial
theorem aex {v : AV} {v' : Value} (h : aci v = true) (hv : VRel ρ v v') : v'.oneCell' = true := by
 cases v <;> simp only [VRel] at hv <;> first
  | (subst hv; rfl)
  | (cases h; done)
  | (obtain ⟨_, rfl⟩ := hv; rfl)
  | (obtain ⟨_, _, rfl⟩ := hv; rfl)
  | (obtain ⟨_, _, _, _, _, rfl⟩ := hv; rfl)
  | (obtain ⟨_, _, _, _, _, _, rfl⟩ := hv; rfl)
  | (obtain ⟨_, _, _, _, rfl⟩ := hv; rfl)
  | (obtain ⟨_, _, rfl, _⟩ := hv; rfl)
  | (obtain ⟨_, _, _, rfl, _⟩ := hv; rfl)
  | (obtain ⟨_, rfl, _⟩ := hv; rfl)
  | (rcases SxRel.shape hv with ⟨_, rfl⟩ | ⟨_, rfl⟩ <;> rfl)
  | (rcases GVRel.shape hv with ⟨_, rfl⟩ | ⟨_, _, _, rfl⟩ | ⟨_, rfl⟩ <;> rfl)
theorem va : ∀ (l : List AV) (l' : List Value), agv l = true → VRels ρ l l' → ∀ v ∈ l', v.oneCell' = true
 | [], _, _, h, v, hv => by simp only [VRels] at h; subst h; cases hv
 | x :: l, _, h, hl, v, hv => by
   simp only [VRels] at hl; obtain ⟨y, ys, rfl, h2, h3⟩ := hl
   have h' : bc (aci x) (agv l) false = true := h
   rw [ac] at h'
   split at h'
   ·rename_i hx
    rcases List.mem_cons.1 hv with rfl | hm
    ·exact aex hx h2
    ·exact va l ys h' h3 v hm
   ·cases h'
theorem oq (c o : Nat) (t : TypeId) (fz : Nat × Nat) : ∀ (vs : List Value) (i : Nat) (w : World) (arr : Array Value), w.heap[c]? = some (.cells arr t fz) → o + i + vs.length ≤ arr.size →
  (∀ j, o + i ≤ j → j < o + i + vs.length → fz.1 ≤ j → j < fz.2 → False) → (∀ v ∈ vs, v.oneCell' = true) →
  ∃ (w' : World) (arr' : Array Value), (storeCells ⟨c, o, none⟩ vs i).run PP w = .ok () w' ∧ w'.heap[c]? = some (.cells arr' t fz) ∧ arr'.size = arr.size ∧
   (∀ j, arr'[j]? = if o + i ≤ j ∧ j < o + i + vs.length then vs[j - (o + i)]? else arr[j]?) ∧ w'.heap.size = w.heap.size ∧ (∀ d, d ≠ c → w'.heap[d]? = w.heap[d]?) ∧
   w'.os = w.os ∧ w'.tape = w.tape ∧ w'.output = w.output := by
 intro vs
 induction vs with
 | nil =>
   intro i w arr h _ _ _
   exact ⟨w, arr, rfl, h, rfl, fun j => by rw [if_neg (by simp only [zS]; omega)], rfl, fun _ _ => rfl, rfl, rfl, rfl⟩
 | cons v vs ih =>
   intro i w arr h h1 h2 h3
   simp only [zO] at h1 h2
   have hcell : w.cell? ⟨c, o + i, none⟩ = some arr[o + i] := by rw [ib h]; exact Array.getElem?_eq_getElem (by omega)
   have hfz : w.frozen? ⟨c, o + i, none⟩ = false := by
    simp only [World.frozen?, h]
    by_cases e : fz.1 ≤ o + i ∧ o + i < fz.2
    ·exact (h2 (o + i) (zY _) (by omega) e.1 e.2).elim
    ·obtain ⟨f1, f2⟩ := fz
     simp only [Bool.and_eq_false_iff, decide_eq_false_iff_not]
     simp only at e
     omega
   have dg : (w.setCell ⟨c, o + i, none⟩ v).heap[c]? = some (.cells (arr.setIfInBounds (o + i) v) t fz) := by
    simp [World.setCell, Array.getElem?_modify, h]
   obtain ⟨w', arr', r1, r2, r3, r4, r5, r6, r7, r8, r9⟩ := ih (i + 1) (w.setCell ⟨c, o + i, none⟩ v) (arr.setIfInBounds (o + i) v) dg (by simp; omega)
    (fun j a b => h2 j (by omega) (by omega)) (fun x hx => h3 x (zA _ hx))
   refine ⟨w', arr', ?_, r2, by simpa using r3, ?_, by rw [r5, World.size_setCell], ?_, r7, r8, r9⟩
   ·simp only [storeCells, zR, da, run_store PP w _ v _ (h3 v (by simp)), hcell, hfz, zF, if_false, zQ]
    exact r1
   ·intro j
    rw [r4 j]
    by_cases a : o + (i + 1) ≤ j ∧ j < o + (i + 1) + vs.length
    ·rw [if_pos a, if_pos ⟨by omega, by simp only [zO]; omega⟩]
     have e : j - (o + i) = (j - (o + (i + 1))) + 1 := by omega
     rw [e, List.getElem?_cons_succ]
    ·rw [if_neg a]
     by_cases b : j = o + i
     ·subst b
      rw [if_pos ⟨zY _, by simp only [zO]; omega⟩]
      simp only [Nat.sub_self, List.getElem?_cons_zero]
      rw [Array.getElem?_setIfInBounds_self_of_lt (by omega)]
     ·rw [if_neg (by simp only [zO]; omega)]
      rw [Array.getElem?_setIfInBounds_ne (by omega)]
   ·intro d hd
    rw [r6 d hd]
    exact RowKit.Below.heap_setCell w ⟨c, o + i, none⟩ v d hd
theorem wo {fl fh i n : Nat} {fz : Nat × Nat} (h : ya fl fh i n = true) (hf : fz.1 ≤ fz.2 ∧ ∀ i, fz.1 ≤ i → i < fz.2 → fl ≤ i ∧ i < fh) :
  ∀ j, i ≤ j → j < i + n → fz.1 ≤ j → j < fz.2 → False := by
 intro j h1 h2 h3 h4
 have ⟨a, b⟩ := hf.2 j h3 h4
 unfold ya at h
 simp only [ac] at h
 split at h
 ·rename_i e; have := zE e; omega
 ·split at h
  ·rename_i e; have := zE e; omega
  ·have := zE h; omega
theorem aau (hw : WRel ρ a w) {b : K} {c off : Nat} {l : List AV} {l' : List Value} {o : AObj} (hb : ρ b = some c) (h : ai2 (eo b a) off l = some o) (hl : VRels ρ l l') :
  ∃ w', (storeCells ⟨c, off, none⟩ l').run PP w = .ok () w' ∧ Adv ρ a w ρ (wset b o a) w' := by
 cases hg : eo b a <;> rw [hg] at h <;> simp only [ai2] at h <;> try (cases h; done)
 rename_i t size ext fl fh cs
 simp only [ac] at h
 split at h <;> try (cases h; done)
 rename_i h1
 split at h <;> try (cases h; done)
 rename_i h2
 split at h <;> try (cases h; done)
 rename_i h3
 cases h
 rw [ax] at h2 h3
 have h2 := zE h2
 obtain ⟨arr, fz, e1, e2, e3, e4, e5, e6⟩ := hw.block hg (by simp) hb
 have hlen := VRels.length l l' hl
 obtain ⟨w', arr', r1, r2, r3, r4, r5, r6, r7, r8, r9⟩ := oq c off t fz l' 0 w arr e1 (by omega)
  (fun j x y => wo h3 e5 j (by omega) (by omega)) (va l l' h1 hl)
 refine ⟨w', r1, yg (c := c) hw (by rw [← bj, hg]; simp) (by rw [← bj, hg]; rfl) hb (obj := .cells arr' t fz) ?_ (by simp) (by intro x y z e; cases e; rw [r3]; exact hw.len b c arr t fz (by rw [← bj, hg]; simp) hb e1) r2 r5 r6 r7 r8 r9 (by rw [← bj, hg]; rfl)⟩
 refine ⟨arr', fz, rfl, by omega, fun e => by rw [r3]; exact e3 e, by rw [fw]; exact e4, e5, ?_⟩
 intro i hi
 rw [ig l off cs i (by omega) (by omega), r4 i]
 by_cases x : off ≤ i ∧ i - off < l.length
 ·rw [dif_pos x, if_pos ⟨by omega, by omega⟩]
  obtain ⟨v, q1, q2⟩ := VRels.get l l' hl (i - off) x.2
  exact ⟨v, by rw [← q1]; rfl, q2⟩
 ·rw [dif_neg x, if_neg (by omega)]
  exact e6 i hi
theorem al7 (hw : WRel ρ a w) {p : AV} {p' : Value} (hp : VRel ρ p p') {l : List AV} {l' : List Value} (hl : VRels ρ l l') :
  UOK ρ a w (do storeCells (← Instr.sureAddr p') l') (aoa l p a) := by
 unfold aoa
 split
 ·rename_i b off
  simp only [VRel] at hp
  obtain ⟨c, hc, rfl⟩ := hp
  split
  ·rename_i o ho
   obtain ⟨w', h1, h2⟩ := aau hw hc ho hl
   intro _
   refine ⟨rfl, ρ, w', ?_, h2⟩
   simp [Instr.sureAddr, h1]
  ·trivial
 ·trivial
theorem azy {v : AV} {v' : Value} (h : aci v = true) (hv : VRel ρ v v') : v'.cells = #[v'] := by
 have := aex h hv
 cases v' <;> first | rfl | cases this
theorem UOK.of_run {s s' : Sem Unit} {r : OR} (h : UOK ρ a w s r) (e : s.run PP w = s'.run PP w) : UOK ρ a w s' r := by
 cases r with
 | val v a' => intro hf; obtain ⟨h0, ρ', w', h1, h3⟩ := h hf; exact ⟨h0, ρ', w', by rw [← e]; exact h1, h3⟩
 | no => trivial
 | _ => exact h
theorem a5i (hw : WRel ρ a w) {p v : AV} {p' v' : Value} (hp : VRel ρ p p') (hv : VRel ρ v v') (t : TypeId) : UOK ρ a w (Instr.storeAt t p' v') (am1 t p v a) := by
 unfold am1
 split
 ·rename_i h
  obtain ⟨d, n, hd, hs, hr⟩ := kk h
  rw [ac]
  split
  ·rename_i h1
   have hn : n = 1 := by
    split at hr
    ·cases hr
    ·split at hr
     ·assumption
     ·cases hr
   subst hn
   refine (al7 hw hp (l' := [v']) (by simp only [VRels]; exact ⟨v', [], rfl, hv, rfl⟩)).of_run ?_
   simp only [Instr.storeAt, storeVar, zR]
   cases hsr : (Instr.sureAddr p').run PP w with
   | halt h w' => rfl
   | ok ad w' => simp [b8 hs, azy h1 hv]
  ·trivial
 ·rename_i n h
  obtain ⟨d, m, hd, hs, hr⟩ := kk h
  have hn : n = m := by
   split at hr
   ·injection hr with hr; injection hr
   ·split at hr <;> cases hr
  subst hn
  split
  ·rename_i l
   rw [ac]
   split
   ·rename_i h1
    rw [ax] at h1
    simp only [VRel] at hv
    obtain ⟨ys, rfl, hl⟩ := hv
    refine (al7 hw hp hl).of_run ?_
    simp only [Instr.storeAt, storeVar, zR]
    cases hsr : (Instr.sureAddr p').run PP w with
    | halt h w' => rfl
    | ok ad w' =>
      have hlen := VRels.length _ _ hl
      have h2 := zW h1
      have : ys.size = n := by rw [← h2, ← hlen]; simp
      simp [b8 hs, Value.cells, this]
   ·trivial
  ·trivial
 ·trivial
end
end Go.Ev
