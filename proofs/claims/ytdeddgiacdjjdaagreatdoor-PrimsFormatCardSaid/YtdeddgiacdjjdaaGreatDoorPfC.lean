import Derived.Test.YtdeddgiacdjjdaaGreatDoorPfB
set_option maxRecDepth 100000
set_option linter.all false
namespace Go.Ev
noncomputable section
noncomputable def mV1 : SE := .v 1
noncomputable def mV6 : SE := .v 6
noncomputable def a80 : List AV := [.gv (.str (.s 3) [])]
noncomputable def a8x : List HO := []
noncomputable def a8y : List HO := []
noncomputable def a8z : TR := .ret (sX (.len (.s 3)))
noncomputable def a8w : TM := .mk 22 a80 256 a8x ([.mk true (.c 20000) (.len (.s 3)) false, .mk false (.app 228 (.g (.s 3) .nil)) (.c 1) true] ++ []) none a8z 260 a8y
noncomputable def a40 : List AV := [vI 1]
noncomputable def a4x : List HO := []
noncomputable def a4y : List HO := []
noncomputable def a4z : TR := .ret (.gv (.str (.app 121 (.i (.v 1) .nil)) []))
noncomputable def dgr (m : SE) : TM := .mk 35 a40 256 a4x ([.mk true (.v 1) (.c 0) false, .mk true (.c 9223372036854775807) (.v 1) false] ++ []) (some (mV1, m)) a4z 256 a4y
noncomputable def a62 : TM := .mk 35 a40 256 a4x ([.mk true (.v 1) (.c 0) false, .mk true (.c 9223372036854775807) (.v 1) false] ++ []) none a4z 256 a4y
noncomputable def a67 : List AV := [vI 1]
noncomputable def a64 : List HO := []
noncomputable def a65 : List HO := []
noncomputable def a66 : TR := .ret (.gv (.str (.app 121 (.i (.v 1) .nil)) []))
noncomputable def a63 : TM := .mk 16 a67 256 a64 ([.mk true (.v 1) (.c (-9223372036854775808)) false, .mk true (.c 9223372036854775807) (.v 1) false] ++ []) none a66 256 a65
noncomputable def a5y : List AV := [.gv (.str (.s 3) []), vI 6, .top, .top, .top, .gv (.str (.s 4) []), .top, .top, .top, .top, .top, .top, .top, .top, .top, .top, .top, .top, .top, .top]
noncomputable def a5v : List HO := []
noncomputable def a5w : List HO := []
noncomputable def a5x : LR := (.x 0 ([.top, .top, .top, .top, .top, .gv (.str (.cat (.s 4) (.app 245 (.g (.s 3) (.i (.v 6) .nil)))) []), .top, .top, .top, .top, .top, .top, .top, .top, .top, .top, .top, .top, .top, .top]))
noncomputable def tml (m : SE) : LT := .mk 17 5 a5y 256 a5v ([.mk true (.v 6) (.c 0) false, .mk true (.c 300) (.v 6) false, .mk true (.c 600) (.bin 7 .i64 (.len (.s 3)) (.v 6)) false, .mk true (.c 1200) (.len (.s 3)) false, .mk true (.c 5000) (.bin 6 .i64 (.len (.s 4)) (.bin 7 .i64 (.len (.s 3)) (.v 6))) false] ++ []) (some (mV6, m)) a5x 256 a5w
noncomputable def a9b : LT := .mk 17 5 a5y 256 a5v ([.mk true (.v 6) (.c 0) false, .mk true (.c 300) (.v 6) false, .mk true (.c 600) (.bin 7 .i64 (.len (.s 3)) (.v 6)) false, .mk true (.c 1200) (.len (.s 3)) false, .mk true (.c 5000) (.bin 6 .i64 (.len (.s 4)) (.bin 7 .i64 (.len (.s 3)) (.v 6))) false] ++ []) none a5x 256 a5w
noncomputable def a9h : List AV := [.gv (.str (.s 3) []), vI 6]
noncomputable def a9e : List HO := []
noncomputable def a9f : List HO := []
noncomputable def a9g : TR := .ret (.gv (.str (.app 245 (.g (.s 3) (.i (.v 6) .nil))) []))
noncomputable def a9d : TM := .mk 17 a9h 256 a9e ([.mk true (.v 6) (.c 0) false, .mk true (.c 300) (.v 6) false, .mk false (.len (.s 3)) (.c 1) true] ++ []) none a9g 256 a9f
noncomputable def a8q : List AV := [vI 1, vI 2]
noncomputable def a8n : List HO := []
noncomputable def a8o : List HO := []
noncomputable def a8p : TR := .ret (sX (.bin 5 .i64 (.v 1) (.v 2)))
noncomputable def a8m : TM := .mk 15 a8q 256 a8n ([.mk true (.v 2) (.c 1) false, .mk true (.c 100000) (.v 2) false] ++ []) none a8p 256 a8o
noncomputable def a8b : List AV := []
noncomputable def a78 : List HO := []
noncomputable def a79 : List HO := []
noncomputable def a8a : TR := .ret (.bool true)
noncomputable def a77 : TM := .mk 5 a8b 256 a78 ([] ++ []) none a8a 257 a79
noncomputable def a8g : List AV := []
noncomputable def a8d : List HO := []
noncomputable def a8e : List HO := [bx 256 58 [.gv (.sl (K.of 257) 6 (.c 62) []), .map (K.of 258)], .mk 257 (.gob (.junk 131))]
noncomputable def a8f : TR := .ret (.ptr (K.of 256) 0)
noncomputable def a8c : TM := .mk 7 a8g 256 a8d ([] ++ []) none a8f 400 a8e
noncomputable def a7r : List AV := [.str 6 112628847174004]
noncomputable def a7o : List HO := []
noncomputable def a7p : List HO := []
noncomputable def a7q : TR := .ret (.tuple [.agg [.int .i64 1, .int .i64 (-1), .func (.func 190) [] []], .bool true])
noncomputable def a7n : TM := .mk 26 a7r 256 a7o ([] ++ []) none a7q 300 a7p
noncomputable def dgW (w : Nat) : TM := .mk 16 [.int .i64 w] 256 [] [] none (.ret (bc (Nat.blt w 10) (.str 1 (48 + w)) (.str 2 ((48 + w / 10) * 256 + (48 + w % 10))))) 256 []
noncomputable def a9r : List AV := [.ptr (K.of 256) 0, .gv (.str (.s 3) [])]
noncomputable def a9o : List HO := [bx 256 140 [.nilPtr, .nilSlice]]
noncomputable def a9p : List HO := [bx 256 140 [.ptr (K.of 256) 0, .gv (.sl (K.of 257) 1 (.len (.s 3)) [])], .mk 257 (.gob (.gh 5 [.u8] (.len (.s 3)) (.s 3)))]
noncomputable def a9q : TR := .ret (.tuple [sX (.len (.s 3)), .nilIface])
noncomputable def a9n : TM := .mk 295 a9r 257 a9o ([.mk true (.len (.s 3)) (.c 1) false, .mk true (.c 20000) (.len (.s 3)) false] ++ []) none a9q 265 a9p
end
theorem ev6 : (∀ (σ : Nat → List Int) (k : IntKind) (a b : SE), (SE.bin 3 k a b).eval σ = k.wrap ((a.eval σ).tdiv (b.eval σ))) ∧ (∀ (σ : Nat → List Int) (k : IntKind) (a b : SE), (SE.bin 5 k a b).eval σ = (a.eval σ).emod (b.eval σ)) ∧ (∀ x : Int, x * 0 = 0) ∧ (∀ x : Int, x - 0 = x) ∧ (-(0 : Int) = 0) := ⟨by intros; rfl, by intros; rfl, Int.mul_zero, Int.sub_zero, rfl⟩
theorem ah : ∀ n : Int, ed (c9 n) = 1 := fun n => ascN1.2 (ar3 n)
theorem ar5 (f : Nat) (n : Int) : 1 ≤ ((mb (f + 1) n).length : Int) := by
 unfold mb
 split
 ·show (1 : Int) ≤ ((1 : Nat) : Int); omega
 ·rw [zP]; show (1 : Int) ≤ (((mb f (n / 10)).length + 1 : Nat) : Int); omega
theorem da (n : Int) : 1 ≤ ((c9 n).length : Int) := by
 unfold c9
 split
 ·show (1 : Int) ≤ (((mb 20 (-n)).length + 1 : Nat) : Int); omega
 ·exact ar5 19 n
theorem aif {σ : Nat → List Int} (n : SE) : 1 ≤ (SE.len (.app 121 (.i n .nil))).eval σ ∧ (SE.len (.app 121 (.i n .nil))).eval σ ≤ 21 := ⟨da (n.eval σ), eu (n.eval σ)⟩
theorem tq (x : Int) : x = 10 * x.tdiv 10 + x.tmod 10 ∧ (0 ≤ x → 0 ≤ x.tdiv 10 ∧ 0 ≤ x.tmod 10) ∧ (x < 0 → x.tdiv 10 ≤ 0 ∧ x.tmod 10 ≤ 0) ∧ -10 < x.tmod 10 ∧ x.tmod 10 < 10 := by
 have h := Int.mul_tdiv_add_tmod x 10
 by_cases hx : 0 ≤ x
 ·rw [Int.tdiv_eq_ediv_of_nonneg hx, Int.tmod_eq_emod_of_nonneg hx] at *
  omega
 ·obtain ⟨y, rfl⟩ : ∃ y, x = -y := ⟨-x, by omega⟩
  rw [Int.neg_tdiv, Int.neg_tmod, Int.tdiv_eq_ediv_of_nonneg (by omega), Int.tmod_eq_emod_of_nonneg (by omega)] at *
  omega
theorem a4t {σ : Nat → List Int} (a b : SE) (h0 : 0 ≤ a.eval σ) (h1 : a.eval σ < 10) (hb : b.eval σ = a.eval σ + 1) : (GE.cut (.lit 10 227581098929683594426425) a b).eval σ = [48 + a.eval σ] := by
 show (((GE.lit 10 227581098929683594426425).eval σ).take (b.eval σ).toNat).drop (a.eval σ).toNat = _
 rw [hb]
 have e : (GE.lit 10 227581098929683594426425).eval σ = [48, 49, 50, 51, 52, 53, 54, 55, 56, 57] := rfl
 rw [e]
 generalize a.eval σ = x at h0 h1
 have : x = 0 ∨ x = 1 ∨ x = 2 ∨ x = 3 ∨ x = 4 ∨ x = 5 ∨ x = 6 ∨ x = 7 ∨ x = 8 ∨ x = 9 := by omega
 rcases this with rfl | rfl | rfl | rfl | rfl | rfl | rfl | rfl | rfl | rfl <;> rfl
theorem a61 {σ : Nat → List Int} (a b : SE) (h0 : 0 ≤ a.eval σ) (h1 : a.eval σ < 10) (hb : b.eval σ = a.eval σ + 1) : (((GE.cut (.lit 10 227581098929683594426425) a b).eval σ).length : Int) = 1 := by
 rw [a4t a b h0 h1 hb]; rfl
section
variable {σ : Nat → List Int}
theorem arz (h : SAll σ [.mk true (.v 1) (.c 0) false, .mk true (.c 9223372036854775807) (.v 1) false]) : 0 ≤ (σ 1).headD 0 ∧ (σ 1).headD 0 ≤ 9223372036854775807 := by
 simp only [sall_cons, sF, evs] at h
 exact ⟨h.1, h.2.1⟩
theorem arx (h0 : 0 ≤ (σ 1).headD 0) (h1 : (σ 1).headD 0 < 10) : (GE.cut (.lit 10 227581098929683594426425) (.v 1) (.bin 0 .i64 (.v 1) (.c 1))).eval σ = (GE.app 121 (.i (.v 1) .nil)).eval σ := by
 have c := a4t (σ := σ) (.v 1) (.bin 0 .i64 (.v 1) (.c 1)) h0 h1 (by simp (disch := omega) only [evs, wr])
 rw [c]
 exact (ar2 h0 h1).symm
theorem ary (h0 : 10 ≤ (σ 1).headD 0) (h1 : (σ 1).headD 0 ≤ 9223372036854775807) : (GE.cat (.app 121 (.i (.bin 3 .i64 (.v 1) (.c 10)) .nil)) (.cut (.lit 10 227581098929683594426425) (.bin 4 .i64 (.v 1) (.c 10)) (.bin 0 .i64 (.bin 4 .i64 (.v 1) (.c 10)) (.c 1)))).eval σ = (GE.app 121 (.i (.v 1) .nil)).eval σ := by
 obtain ⟨q1, q2, q3, q4, q5⟩ := tq ((σ 1).headD 0)
 have c : (GE.cut (.lit 10 227581098929683594426425) (.bin 4 .i64 (.v 1) (.c 10)) (.bin 0 .i64 (.bin 4 .i64 (.v 1) (.c 10)) (.c 1))).eval σ = [48 + (σ 1).headD 0 % 10] := by
  rw [a4t _ _ (by simp only [evs]; omega) (by simp only [evs]; omega) (by simp (disch := omega) only [evs, wr])]
  simp only [evs]
  rw [Int.tmod_eq_emod_of_nonneg (by omega)]
 have d : (GE.app 121 (.i (.bin 3 .i64 (.v 1) (.c 10)) .nil)).eval σ = c9 ((σ 1).headD 0 / 10) := by
  simp (disch := omega) only [evq, evs, ev6, wr]
  rw [Int.tdiv_eq_ediv_of_nonneg (by omega)]
 show (GE.app 121 _).eval σ ++ (GE.cut _ _ _).eval σ = c9 ((σ 1).headD 0)
 rw [c, d, ← anm h0 (by omega)]
theorem ar0 (h0 : (σ 1).headD 0 < 0) (h1 : -9223372036854775808 ≤ (σ 1).headD 0) : (GE.cat (.lit 1 45) (.app 121 (.i (.bin 0 .i64 (.bin 1 .i64 (.c 0) (.bin 0 .i64 (.v 1) (.c 1))) (.c 1)) .nil))).eval σ = (GE.app 121 (.i (.v 1) .nil)).eval σ ∨ (σ 1).headD 0 = -9223372036854775808 := by
 by_cases h2 : (σ 1).headD 0 = -9223372036854775808
 ·exact .inr h2
 refine .inl ?_
 have d : (GE.app 121 (.i (.bin 0 .i64 (.bin 1 .i64 (.c 0) (.bin 0 .i64 (.v 1) (.c 1))) (.c 1)) .nil)).eval σ = c9 (-(σ 1).headD 0) := by
  simp (disch := omega) only [evq, evs, wr]
  congr 1; omega
 show (GE.lit 1 45).eval σ ++ (GE.app 121 _).eval σ = c9 ((σ 1).headD 0)
 rw [d, jw h0]; rfl
theorem ar1 (h0 : (σ 1).headD 0 ≤ -10) (h1 : -9223372036854775808 ≤ (σ 1).headD 0) : (GE.cat (.cat (.lit 1 45) (.app 121 (.i (.bin 1 .i64 (.c 0) (.bin 3 .i64 (.v 1) (.c 10))) .nil))) (.app 121 (.i (.bin 1 .i64 (.c 0) (.bin 4 .i64 (.v 1) (.c 10))) .nil))).eval σ = (GE.app 121 (.i (.v 1) .nil)).eval σ := by
 obtain ⟨q1, q2, q3, q4, q5⟩ := tq ((σ 1).headD 0)
 have c : (GE.app 121 (.i (.bin 1 .i64 (.c 0) (.bin 3 .i64 (.v 1) (.c 10))) .nil)).eval σ = c9 (-(σ 1).headD 0 / 10) := by
  simp (disch := omega) only [evq, evs, ev6, wr]
  congr 1; omega
 have d : (GE.app 121 (.i (.bin 1 .i64 (.c 0) (.bin 4 .i64 (.v 1) (.c 10))) .nil)).eval σ = [48 + -(σ 1).headD 0 % 10] := by
  simp (disch := omega) only [evq, evs, ev6, wr]
  rw [ar2 (by omega) (by omega)]
  congr 1; omega
 show ((GE.lit 1 45).eval σ ++ (GE.app 121 _).eval σ) ++ (GE.app 121 _).eval σ = c9 ((σ 1).headD 0)
 rw [c, d, jw (n := (σ 1).headD 0) (by omega), anm (n := -(σ 1).headD 0) (by omega) (by omega), List.append_assoc]; rfl
end
theorem ev5 : (∀ (σ : Nat → List Int) (k : IntKind) (a b : SE), (SE.bin 5 k a b).eval σ = (a.eval σ).emod (b.eval σ)) ∧ (∀ x : Int, x * 0 = 0) ∧ (∀ x : Int, x - 0 = x) ∧ (-(0 : Int) = 0) := ⟨by intros; rfl, Int.mul_zero, Int.sub_zero, rfl⟩
theorem a9a {x n : Int} (h : 0 < n) : (0 ≤ x.tmod n → x.emod n = x.tmod n) ∧ (x.tmod n < 0 → x.emod n = x.tmod n + n) ∧ -n < x.tmod n ∧ x.tmod n < n := by
 have e : x.emod n = x % n := rfl
 have q := Int.emod_nonneg x (show n ≠ 0 by omega)
 have q2 := Int.emod_lt_of_pos x h
 by_cases hx : 0 ≤ x
 ·have t : x.tmod n = x % n := Int.tmod_eq_emod_of_nonneg hx
  rw [e, t]; exact ⟨fun _ => rfl, by omega, by omega, by omega⟩
 ·obtain ⟨y, rfl⟩ : ∃ y, x = -y := ⟨-x, by omega⟩
  have t : (-y).tmod n = -(y % n) := by rw [Int.neg_tmod, Int.tmod_eq_emod_of_nonneg (show 0 ≤ y by omega)]
  have r := Int.emod_nonneg y (show n ≠ 0 by omega)
  have r2 := Int.emod_lt_of_pos y h
  have d := Int.mul_ediv_add_emod y n
  have d2 := Int.mul_ediv_add_emod (-y) n
  rw [e, t]
  refine ⟨fun hh => ?_, fun hh => ?_, by omega, by omega⟩
  ·have z : y % n = 0 := by omega
   have : n ∣ -y := Int.dvd_neg.2 (Int.dvd_of_emod_eq_zero z)
   rw [Int.emod_eq_zero_of_dvd this, z]; rfl
  ·rw [Int.neg_emod, if_neg]
   ·rw [show (n.natAbs : Int) = n by omega]; omega
   ·intro hd
    have := Int.emod_eq_zero_of_dvd hd
    omega
section
variable {σ : Nat → List Int}
theorem a8r (h : SAll σ [.mk true (.v 2) (.c 1) false, .mk true (.c 100000) (.v 2) false]) : 1 ≤ (σ 2).headD 0 ∧ (σ 2).headD 0 ≤ 100000 := by
 simp only [sall_cons, sE, sF, evs] at h
 exact ⟨h.1, h.2.1⟩
end
theorem bak {L n : Int} (hL : 0 ≤ L) (h : 0 ≤ n) : 0 ≤ n.tdiv 2 ∧ 0 ≤ (L + L) * n.tdiv 2 ∧ (L + L) * n.tdiv 2 ≤ L * n ∧ (1 ≤ n → L ≤ L * n ∧ n.tdiv 2 < n) ∧ 0 ≤ n.tmod 2 ∧ n.tmod 2 ≤ 1 ∧ (n.tmod 2 = 1 → L * n = (L + L) * n.tdiv 2 + L) ∧ n = 2 * n.tdiv 2 + n.tmod 2 := by
 rw [Int.tdiv_eq_ediv_of_nonneg h, Int.tmod_eq_emod_of_nonneg h]
 have e : n = 2 * (n / 2) + n % 2 := by omega
 have q0 : 0 ≤ n / 2 := by omega
 have p : 0 ≤ (L + L) * (n / 2) := Int.mul_nonneg (by omega) q0
 have r0 : 0 ≤ L * (n % 2) := Int.mul_nonneg hL (by omega)
 have m : L * n = (L + L) * (n / 2) + L * (n % 2) := by
  have : L * n = L * (2 * (n / 2) + n % 2) := by rw [← e]
  rw [this, Int.mul_add, ← Int.mul_assoc, show L * 2 = L + L by omega]
 refine ⟨q0, p, by omega, fun h1 => ⟨?_, by omega⟩, by omega, by omega, fun h1 => by rw [m, h1, Int.mul_one], e⟩
 have := Int.mul_le_mul_of_nonneg_left h1 hL
 rw [Int.mul_one] at this; exact this
theorem ac5 {s : List Int} {n : Int} (h : 1 ≤ n) : nj s n = (if n.tmod 2 = 1 then s else []) ++ nj (s ++ s) (n.tdiv 2) := by
 rw [Int.tdiv_eq_ediv_of_nonneg (by omega), Int.tmod_eq_emod_of_nonneg (by omega)]
 have two : ∀ m : Nat, (List.replicate (2 * m) s).flatten = (List.replicate m (s ++ s)).flatten := by
  intro m
  induction m with
  | zero => rfl
  | succ m ih => rw [show 2 * (m + 1) = 2 * m + 1 + 1 by omega, List.replicate_succ, List.replicate_succ, List.replicate_succ, List.flatten_cons, List.flatten_cons, List.flatten_cons, ih, List.append_assoc]
 unfold nj
 by_cases z : n % 2 = 1
 ·rw [if_pos z, show n.toNat = 2 * (n / 2).toNat + 1 by omega, List.replicate_succ, List.flatten_cons, two]
 ·rw [if_neg z, show n.toNat = 2 * (n / 2).toNat by omega, two]; rfl
theorem evL : (∀ σ : Nat → List Int, (GE.lit 0 0).eval σ = []) := by intros; rfl
theorem hrl [Gv] : ∀ t ∈ [a54, a5p], fe t := by
 intro t ht
 simp only [List.mem_cons, zH, or_false] at ht
 rcases ht with rfl | rfl
 ·exact az7
 ·exact azj
def bai [Gv] : Prop := (SAll Gv.σ [] → lm 22 a80 256 a8x a8z 260 a8y)
theorem a7f [Gv] (hI : SAll Gv.σ [.mk true (.c 20000) (.len (.s 3)) false, .mk false (.app 228 (.g (.s 3) .nil)) (.c 1) true]) : bai := by
 have q := hI
 simp (disch := omega) only [sall_cons, sT, sF, sE, sN, evs, evq] at q
 obtain ⟨l1, l2, _⟩ := q
 exact fun hC => cy (n := 2000) (T := []) (E := .nil) (ie (ee hI SAll.nil) _ hrl) ia (ee hI SAll.nil) trivial rfl rfl (by kernel_rfl)
theorem a5s [Gv] : fe a8w := fun σ _ hA _ => (@a7f ⟨σ⟩  (k6 hA).1) (k6 hA).2
def a4w [Gv] : Prop := (SAll Gv.σ [] → lm 35 a40 256 a4x a4z 256 a4y)
theorem a69 [Gv] (hh : ∀ t ∈ [dgr mV1], fe t) (hI : SAll Gv.σ [.mk true (.v 1) (.c 0) false, .mk true (.c 9223372036854775807) (.v 1) false]) : a4w := by
 obtain ⟨l1, l2⟩ := arz hI
 obtain ⟨q1, q2, q3, q4, q5⟩ := tq ((Gv.σ 1).headD 0)
 rcases gl (.v 1) (.c 10) with ⟨h1, k1⟩ | ⟨h1, k1⟩ <;> (try simp (disch := omega) only [evs, wr, zP, zO, zS, zJ, zD, evq, ev6, ah, evL] at k1)
 ·have h2 := bF (.bin 0 .i64 (.v 1) (.c 1)) (.v 1) (by simp (disch := omega) only [evs, wr, zP, zO, zS, zJ, zD, evq, ev6, ah, evL] <;> omega)
  have h3 := bF (.c 10) (.bin 0 .i64 (.v 1) (.c 1)) (by simp (disch := omega) only [evs, wr, zP, zO, zS, zJ, zD, evq, ev6, ah, evL] <;> omega)
  have t1 := a61 (σ := Gv.σ) (.v 1) (.bin 0 .i64 (.v 1) (.c 1)) (by simp only [evs]; omega) (by simp only [evs]; omega) (by simp (disch := omega) only [evs, wr])
  try simp (disch := omega) only [evs, wr, zP, zO, zS, zJ, zD, evq, ev6, ah, evL] at t1
  have t2 := aif (σ := Gv.σ) (.v 1)
  try simp (disch := omega) only [evs, wr, zP, zO, zS, zJ, zD, evq, ev6, ah, evL] at t2
  exact fun hC => cy (n := 2000) (T := []) (E := (.g (.cut (.lit 10 227581098929683594426425) (.v 1) (.bin 0 .i64 (.v 1) (.c 1))) (.app 121 (.i (.v 1) .nil)) .nil)) (ie (ee hI (sc h1 (sc h2 (sc h3 SAll.nil)))) _ hh) ia (ee hI (sc h1 (sc h2 (sc h3 SAll.nil)))) (by first | exact ⟨arx (by omega) (by omega), trivial⟩ | exact ⟨ary (by omega) (by omega), trivial⟩) rfl rfl (by kernel_rfl)
 ·have h2 := bF (.bin 3 .i64 (.v 1) (.c 10)) (.c 0) (by simp (disch := omega) only [evs, wr, zP, zO, zS, zJ, zD, evq, ev6, ah, evL] <;> omega)
  have h3 := bF (.c 9223372036854775807) (.bin 3 .i64 (.v 1) (.c 10)) (by simp (disch := omega) only [evs, wr, zP, zO, zS, zJ, zD, evq, ev6, ah, evL] <;> omega)
  have h4 := bT (.bin 3 .i64 (.v 1) (.c 10)) (.v 1) (by simp (disch := omega) only [evs, wr, zP, zO, zS, zJ, zD, evq, ev6, ah, evL] <;> omega)
  have h5 := bF (.bin 4 .i64 (.v 1) (.c 10)) (.c 0) (by simp (disch := omega) only [evs, wr, zP, zO, zS, zJ, zD, evq, ev6, ah, evL] <;> omega)
  have h6 := bF (.bin 0 .i64 (.bin 4 .i64 (.v 1) (.c 10)) (.c 1)) (.bin 4 .i64 (.v 1) (.c 10)) (by simp (disch := omega) only [evs, wr, zP, zO, zS, zJ, zD, evq, ev6, ah, evL] <;> omega)
  have h7 := bF (.c 10) (.bin 0 .i64 (.bin 4 .i64 (.v 1) (.c 10)) (.c 1)) (by simp (disch := omega) only [evs, wr, zP, zO, zS, zJ, zD, evq, ev6, ah, evL] <;> omega)
  have t3 := aif (σ := Gv.σ) (.bin 3 .i64 (.v 1) (.c 10))
  try simp (disch := omega) only [evs, wr, zP, zO, zS, zJ, zD, evq, ev6, ah, evL] at t3
  have t4 := a61 (σ := Gv.σ) (.bin 4 .i64 (.v 1) (.c 10)) (.bin 0 .i64 (.bin 4 .i64 (.v 1) (.c 10)) (.c 1)) (by simp only [evs]; omega) (by simp only [evs]; omega) (by simp (disch := omega) only [evs, wr])
  try simp (disch := omega) only [evs, wr, zP, zO, zS, zJ, zD, evq, ev6, ah, evL] at t4
  have h8 := bF (.c 9223372036854775807) (.bin 6 .i64 (.len (.app 121 (.i (.bin 3 .i64 (.v 1) (.c 10)) .nil))) (.len (.cut (.lit 10 227581098929683594426425) (.bin 4 .i64 (.v 1) (.c 10)) (.bin 0 .i64 (.bin 4 .i64 (.v 1) (.c 10)) (.c 1))))) (by simp (disch := omega) only [evs, wr, zP, zO, zS, zJ, zD, evq, ev6, ah, evL] <;> omega)
  have t5 := aif (σ := Gv.σ) (.v 1)
  try simp (disch := omega) only [evs, wr, zP, zO, zS, zJ, zD, evq, ev6, ah, evL] at t5
  exact fun hC => cy (n := 2000) (T := []) (E := (.g (.cat (.app 121 (.i (.bin 3 .i64 (.v 1) (.c 10)) .nil)) (.cut (.lit 10 227581098929683594426425) (.bin 4 .i64 (.v 1) (.c 10)) (.bin 0 .i64 (.bin 4 .i64 (.v 1) (.c 10)) (.c 1)))) (.app 121 (.i (.v 1) .nil)) .nil)) (ie (ee hI (sc h1 (sc h2 (sc h3 (sc h4 (sc h5 (sc h6 (sc h7 (sc h8 SAll.nil))))))))) _ hh) ia (ee hI (sc h1 (sc h2 (sc h3 (sc h4 (sc h5 (sc h6 (sc h7 (sc h8 SAll.nil))))))))) (by first | exact ⟨arx (by omega) (by omega), trivial⟩ | exact ⟨ary (by omega) (by omega), trivial⟩) rfl rfl (by kernel_rfl)
theorem anl : ∀ (B : Nat) (σ : Nat → List Int), SAll σ [.mk true (.v 1) (.c 0) false, .mk true (.c 9223372036854775807) (.v 1) false] → (mV1).eval σ < (B : Int) → @a4w ⟨σ⟩
 | 0, σ, hI, hb => by obtain ⟨l1, l2⟩ := arz hI; simp only [mV1, evs] at hb; omega
 | B + 1, σ, hI, hb => by
   have ih : ∀ σ' : Nat → List Int, SAll σ' [.mk true (.v 1) (.c 0) false, .mk true (.c 9223372036854775807) (.v 1) false] → 0 ≤ (mV1).eval σ' ∧ (mV1).eval σ' < (mV1).eval σ → @a4w ⟨σ'⟩ := fun σ' h h' => anl B σ' h (by omega)
   have hh : ∀ t ∈ [dgr (mV1)], @fe ⟨σ⟩ t := by
    intro t ht
    simp only [List.mem_cons, zH, or_false] at ht
    rcases ht with rfl
    ·exact fun σ' _ hA hb => (ih σ' (k6 hA).1 hb) (k6 hA).2
   exact @a69 ⟨σ⟩ hh hI
theorem a41 [Gv] : fe a62 := fun σ _ hA _ => (anl (((mV1).eval σ).toNat + 1) σ (k6 hA).1 (by omega)) (k6 hA).2
theorem a5b [Gv] : ∀ t ∈ [a62], fe t := aoc a41
def a9w [Gv] : Prop := (SAll Gv.σ [] → lm 16 a67 256 a64 a66 256 a65)
theorem a7a [Gv] (hI : SAll Gv.σ [.mk true (.v 1) (.c (-9223372036854775808)) false, .mk true (.c 9223372036854775807) (.v 1) false]) : a9w := by
 obtain ⟨l1, l2⟩ := a32 hI
 obtain ⟨q1, q2, q3, q4, q5⟩ := tq ((Gv.σ 1).headD 0)
 rcases gl (.v 1) (.c 0) with ⟨h1, k1⟩ | ⟨h1, k1⟩ <;> (try simp (disch := omega) only [evs, wr, zP, zO, zS, zJ, zD, evq, ev6, ah, evL] at k1)
 ·rcases gl (.bin 1 .i64 (.c 0) (.bin 0 .i64 (.v 1) (.c 1))) (.c 9) with ⟨h2, k2⟩ | ⟨h2, k2⟩ <;> (try simp (disch := omega) only [evs, wr, zP, zO, zS, zJ, zD, evq, ev6, ah, evL] at k2)
  ·have h3 := bF (.bin 0 .i64 (.bin 1 .i64 (.c 0) (.bin 0 .i64 (.v 1) (.c 1))) (.c 1)) (.c 0) (by simp (disch := omega) only [evs, wr, zP, zO, zS, zJ, zD, evq, ev6, ah, evL] <;> omega)
   have h4 := bF (.c 9223372036854775807) (.bin 0 .i64 (.bin 1 .i64 (.c 0) (.bin 0 .i64 (.v 1) (.c 1))) (.c 1)) (by simp (disch := omega) only [evs, wr, zP, zO, zS, zJ, zD, evq, ev6, ah, evL] <;> omega)
   have t1 := aif (σ := Gv.σ) (.bin 0 .i64 (.bin 1 .i64 (.c 0) (.bin 0 .i64 (.v 1) (.c 1))) (.c 1))
   try simp (disch := omega) only [evs, wr, zP, zO, zS, zJ, zD, evq, ev6, ah, evL] at t1
   have h5 := bF (.c 9223372036854775807) (.bin 6 .i64 (.c 1) (.len (.app 121 (.i (.bin 0 .i64 (.bin 1 .i64 (.c 0) (.bin 0 .i64 (.v 1) (.c 1))) (.c 1)) .nil)))) (by simp (disch := omega) only [evs, wr, zP, zO, zS, zJ, zD, evq, ev6, ah, evL] <;> omega)
   have t2 := aif (σ := Gv.σ) (.v 1)
   try simp (disch := omega) only [evs, wr, zP, zO, zS, zJ, zD, evq, ev6, ah, evL] at t2
   exact fun hC => cy (n := 2000) (T := []) (E := (.g (.cat (.lit 1 45) (.app 121 (.i (.bin 0 .i64 (.bin 1 .i64 (.c 0) (.bin 0 .i64 (.v 1) (.c 1))) (.c 1)) .nil))) (.app 121 (.i (.v 1) .nil)) .nil)) (ie (ee hI (sc h1 (sc h2 (sc h3 (sc h4 (sc h5 SAll.nil)))))) _ a5b) ia (ee hI (sc h1 (sc h2 (sc h3 (sc h4 (sc h5 SAll.nil)))))) (by first | exact ⟨(ar0 (by omega) (by omega)).resolve_right (by omega), trivial⟩ | exact ⟨ar1 (by omega) (by omega), trivial⟩) rfl rfl (by kernel_rfl)
  ·have h3 := bF (.bin 1 .i64 (.c 0) (.bin 3 .i64 (.v 1) (.c 10))) (.c 0) (by simp (disch := omega) only [evs, wr, zP, zO, zS, zJ, zD, evq, ev6, ah, evL] <;> omega)
   have h4 := bF (.c 9223372036854775807) (.bin 1 .i64 (.c 0) (.bin 3 .i64 (.v 1) (.c 10))) (by simp (disch := omega) only [evs, wr, zP, zO, zS, zJ, zD, evq, ev6, ah, evL] <;> omega)
   have t3 := aif (σ := Gv.σ) (.bin 1 .i64 (.c 0) (.bin 3 .i64 (.v 1) (.c 10)))
   try simp (disch := omega) only [evs, wr, zP, zO, zS, zJ, zD, evq, ev6, ah, evL] at t3
   have h5 := bF (.c 9223372036854775807) (.bin 6 .i64 (.c 1) (.len (.app 121 (.i (.bin 1 .i64 (.c 0) (.bin 3 .i64 (.v 1) (.c 10))) .nil)))) (by simp (disch := omega) only [evs, wr, zP, zO, zS, zJ, zD, evq, ev6, ah, evL] <;> omega)
   have h6 := bF (.bin 1 .i64 (.c 0) (.bin 4 .i64 (.v 1) (.c 10))) (.c 0) (by simp (disch := omega) only [evs, wr, zP, zO, zS, zJ, zD, evq, ev6, ah, evL] <;> omega)
   have h7 := bF (.c 9223372036854775807) (.bin 1 .i64 (.c 0) (.bin 4 .i64 (.v 1) (.c 10))) (by simp (disch := omega) only [evs, wr, zP, zO, zS, zJ, zD, evq, ev6, ah, evL] <;> omega)
   have t4 := aif (σ := Gv.σ) (.bin 1 .i64 (.c 0) (.bin 4 .i64 (.v 1) (.c 10)))
   try simp (disch := omega) only [evs, wr, zP, zO, zS, zJ, zD, evq, ev6, ah, evL] at t4
   have h8 := bF (.c 9223372036854775807) (.bin 6 .i64 (.bin 6 .i64 (.c 1) (.len (.app 121 (.i (.bin 1 .i64 (.c 0) (.bin 3 .i64 (.v 1) (.c 10))) .nil)))) (.len (.app 121 (.i (.bin 1 .i64 (.c 0) (.bin 4 .i64 (.v 1) (.c 10))) .nil)))) (by simp (disch := omega) only [evs, wr, zP, zO, zS, zJ, zD, evq, ev6, ah, evL] <;> omega)
   have t5 := aif (σ := Gv.σ) (.v 1)
   try simp (disch := omega) only [evs, wr, zP, zO, zS, zJ, zD, evq, ev6, ah, evL] at t5
   exact fun hC => cy (n := 2000) (T := []) (E := (.g (.cat (.cat (.lit 1 45) (.app 121 (.i (.bin 1 .i64 (.c 0) (.bin 3 .i64 (.v 1) (.c 10))) .nil))) (.app 121 (.i (.bin 1 .i64 (.c 0) (.bin 4 .i64 (.v 1) (.c 10))) .nil))) (.app 121 (.i (.v 1) .nil)) .nil)) (ie (ee hI (sc h1 (sc h2 (sc h3 (sc h4 (sc h5 (sc h6 (sc h7 (sc h8 SAll.nil))))))))) _ a5b) ia (ee hI (sc h1 (sc h2 (sc h3 (sc h4 (sc h5 (sc h6 (sc h7 (sc h8 SAll.nil))))))))) (by first | exact ⟨(ar0 (by omega) (by omega)).resolve_right (by omega), trivial⟩ | exact ⟨ar1 (by omega) (by omega), trivial⟩) rfl rfl (by kernel_rfl)
 ·exact fun hC => cy (n := 2000) (T := []) (E := .nil) (ie (ee hI (sc h1 SAll.nil)) _ a5b) ia (ee hI (sc h1 SAll.nil)) trivial rfl rfl (by kernel_rfl)
theorem a42 [Gv] : fe a63 := fun σ _ hA _ => (@a7a ⟨σ⟩  (k6 hA).1) (k6 hA).2
def a9c [Gv] : Prop := (SAll Gv.σ [] → aku 17 5 a5y 256 a5v a5x 256 a5w)
theorem a7g [Gv] (hl : ∀ t ∈ [tml mV6], uu t) (hI : SAll Gv.σ [.mk true (.v 6) (.c 0) false, .mk true (.c 300) (.v 6) false, .mk true (.c 600) (.bin 7 .i64 (.len (.s 3)) (.v 6)) false, .mk true (.c 1200) (.len (.s 3)) false, .mk true (.c 5000) (.bin 6 .i64 (.len (.s 4)) (.bin 7 .i64 (.len (.s 3)) (.v 6))) false]) : a9c := by
 have q := hI
 simp (disch := omega) only [sall_cons, sT, sF, sE, sN, evs, evq] at q
 obtain ⟨l1, l2, l3, l4, l5, _⟩ := q
 obtain ⟨t1, t2, t3, t4, t5, t6, t7, t8⟩ := bak (L := ((Gv.σ 3).length : Int)) (n := (Gv.σ 6).headD 0) (by omega) l1
 rcases gl (.c 0) (.v 6) with ⟨h1, k1⟩ | ⟨h1, k1⟩ <;> (try simp (disch := omega) only [evs, wr, zP, zO, zS, zJ, zD, evq, ev6, ah, evL] at k1)
 ·rcases gq (.bin 4 .i64 (.v 6) (.c 2)) (.c 1) with ⟨h2, k2⟩ | ⟨h2, k2⟩ <;> (try simp (disch := omega) only [evs, wr, zP, zO, zS, zJ, zD, evq, ev6, ah, evL] at k2)
  ·have h3 := bF (.c 9223372036854775807) (.bin 6 .i64 (.len (.s 4)) (.len (.s 3))) (by simp (disch := omega) only [evs, wr, zP, zO, zS, zJ, zD, evq, ev6, ah, evL] <;> omega)
   have h4 := bF (.c 9223372036854775807) (.bin 6 .i64 (.len (.s 3)) (.len (.s 3))) (by simp (disch := omega) only [evs, wr, zP, zO, zS, zJ, zD, evq, ev6, ah, evL] <;> omega)
   have h5 := bF (.bin 3 .i64 (.v 6) (.c 2)) (.c 0) (by simp (disch := omega) only [evs, wr, zP, zO, zS, zJ, zD, evq, ev6, ah, evL] <;> omega)
   have h6 := bF (.c 300) (.bin 3 .i64 (.v 6) (.c 2)) (by simp (disch := omega) only [evs, wr, zP, zO, zS, zJ, zD, evq, ev6, ah, evL] <;> omega)
   have h7 := bF (.c 600) (.bin 7 .i64 (.bin 6 .i64 (.len (.s 3)) (.len (.s 3))) (.bin 3 .i64 (.v 6) (.c 2))) (by simp (disch := omega) only [evs, wr, zP, zO, zS, zJ, zD, evq, ev6, ah, evL] <;> omega)
   have h8 := bF (.c 1200) (.bin 6 .i64 (.len (.s 3)) (.len (.s 3))) (by simp (disch := omega) only [evs, wr, zP, zO, zS, zJ, zD, evq, ev6, ah, evL] <;> omega)
   have h9 := bF (.c 5000) (.bin 6 .i64 (.bin 6 .i64 (.len (.s 4)) (.len (.s 3))) (.bin 7 .i64 (.bin 6 .i64 (.len (.s 3)) (.len (.s 3))) (.bin 3 .i64 (.v 6) (.c 2)))) (by simp (disch := omega) only [evs, wr, zP, zO, zS, zJ, zD, evq, ev6, ah, evL] <;> omega)
   have h10 := bT (.bin 3 .i64 (.v 6) (.c 2)) (.v 6) (by simp (disch := omega) only [evs, wr, zP, zO, zS, zJ, zD, evq, ev6, ah, evL] <;> omega)
   have u := fun h => ac5 (s := Gv.σ 3) (n := (Gv.σ 6).headD 0) h
   have u0 : (Gv.σ 6).headD 0 = 0 → nj (Gv.σ 3) ((Gv.σ 6).headD 0) = [] := fun h => by rw [h]; rfl
   exact fun hC => yq (n := 2000) (T := []) (E := (.g (.cat (.cat (.s 4) (.s 3)) (.app 245 (.g (.cat (.s 3) (.s 3)) (.i (.bin 3 .i64 (.v 6) (.c 2)) .nil)))) (.cat (.s 4) (.app 245 (.g (.s 3) (.i (.v 6) .nil)))) .nil)) fp (aam (ee hI (sc h1 (sc h2 (sc h3 (sc h4 (sc h5 (sc h6 (sc h7 (sc h8 (sc h9 (sc h10 SAll.nil))))))))))) _ hl) (ee hI (sc h1 (sc h2 (sc h3 (sc h4 (sc h5 (sc h6 (sc h7 (sc h8 (sc h9 (sc h10 SAll.nil))))))))))) (by first | (refine ⟨?_, trivial⟩; simp (disch := omega) only [evs, wr, zP, zO, zS, zJ, zD, evq, ev6, ah, evL]; rw [u (by omega)]; first | (rw [if_pos (by omega), List.append_assoc]) | (rw [if_neg (by omega), zD])) | (simp (disch := omega) only [EqL.all, and_true, evs, wr, zP, zO, zS, zJ, zD, evq, ev6, ah, evL, List.append_assoc, List.append_nil, u0])) rfl rfl (by kernel_rfl)
  ·have h3 := bF (.c 9223372036854775807) (.bin 6 .i64 (.len (.s 3)) (.len (.s 3))) (by simp (disch := omega) only [evs, wr, zP, zO, zS, zJ, zD, evq, ev6, ah, evL] <;> omega)
   have h4 := bF (.bin 3 .i64 (.v 6) (.c 2)) (.c 0) (by simp (disch := omega) only [evs, wr, zP, zO, zS, zJ, zD, evq, ev6, ah, evL] <;> omega)
   have h5 := bF (.c 300) (.bin 3 .i64 (.v 6) (.c 2)) (by simp (disch := omega) only [evs, wr, zP, zO, zS, zJ, zD, evq, ev6, ah, evL] <;> omega)
   have h6 := bF (.c 600) (.bin 7 .i64 (.bin 6 .i64 (.len (.s 3)) (.len (.s 3))) (.bin 3 .i64 (.v 6) (.c 2))) (by simp (disch := omega) only [evs, wr, zP, zO, zS, zJ, zD, evq, ev6, ah, evL] <;> omega)
   have h7 := bF (.c 1200) (.bin 6 .i64 (.len (.s 3)) (.len (.s 3))) (by simp (disch := omega) only [evs, wr, zP, zO, zS, zJ, zD, evq, ev6, ah, evL] <;> omega)
   have h8 := bF (.c 5000) (.bin 6 .i64 (.len (.s 4)) (.bin 7 .i64 (.bin 6 .i64 (.len (.s 3)) (.len (.s 3))) (.bin 3 .i64 (.v 6) (.c 2)))) (by simp (disch := omega) only [evs, wr, zP, zO, zS, zJ, zD, evq, ev6, ah, evL] <;> omega)
   have h9 := bT (.bin 3 .i64 (.v 6) (.c 2)) (.v 6) (by simp (disch := omega) only [evs, wr, zP, zO, zS, zJ, zD, evq, ev6, ah, evL] <;> omega)
   have u := fun h => ac5 (s := Gv.σ 3) (n := (Gv.σ 6).headD 0) h
   have u0 : (Gv.σ 6).headD 0 = 0 → nj (Gv.σ 3) ((Gv.σ 6).headD 0) = [] := fun h => by rw [h]; rfl
   exact fun hC => yq (n := 2000) (T := []) (E := (.g (.cat (.s 4) (.app 245 (.g (.cat (.s 3) (.s 3)) (.i (.bin 3 .i64 (.v 6) (.c 2)) .nil)))) (.cat (.s 4) (.app 245 (.g (.s 3) (.i (.v 6) .nil)))) .nil)) fp (aam (ee hI (sc h1 (sc h2 (sc h3 (sc h4 (sc h5 (sc h6 (sc h7 (sc h8 (sc h9 SAll.nil)))))))))) _ hl) (ee hI (sc h1 (sc h2 (sc h3 (sc h4 (sc h5 (sc h6 (sc h7 (sc h8 (sc h9 SAll.nil)))))))))) (by first | (refine ⟨?_, trivial⟩; simp (disch := omega) only [evs, wr, zP, zO, zS, zJ, zD, evq, ev6, ah, evL]; rw [u (by omega)]; first | (rw [if_pos (by omega), List.append_assoc]) | (rw [if_neg (by omega), zD])) | (simp (disch := omega) only [EqL.all, and_true, evs, wr, zP, zO, zS, zJ, zD, evq, ev6, ah, evL, List.append_assoc, List.append_nil, u0])) rfl rfl (by kernel_rfl)
 ·have u := fun h => ac5 (s := Gv.σ 3) (n := (Gv.σ 6).headD 0) h
  have u0 : (Gv.σ 6).headD 0 = 0 → nj (Gv.σ 3) ((Gv.σ 6).headD 0) = [] := fun h => by rw [h]; rfl
  exact fun hC => yq (n := 2000) (T := []) (E := (.g (.s 4) (.cat (.s 4) (.app 245 (.g (.s 3) (.i (.v 6) .nil)))) .nil)) fp (aam (ee hI (sc h1 SAll.nil)) _ hl) (ee hI (sc h1 SAll.nil)) (by first | (refine ⟨?_, trivial⟩; simp (disch := omega) only [evs, wr, zP, zO, zS, zJ, zD, evq, ev6, ah, evL]; rw [u (by omega)]; first | (rw [if_pos (by omega), List.append_assoc]) | (rw [if_neg (by omega), zD])) | (simp (disch := omega) only [EqL.all, and_true, evs, wr, zP, zO, zS, zJ, zD, evq, ev6, ah, evL, List.append_assoc, List.append_nil, u0])) rfl rfl (by kernel_rfl)
theorem aom : ∀ (B : Nat) (σ : Nat → List Int), (SAll σ [.mk true (.v 6) (.c 0) false, .mk true (.c 300) (.v 6) false, .mk true (.c 600) (.bin 7 .i64 (.len (.s 3)) (.v 6)) false, .mk true (.c 1200) (.len (.s 3)) false, .mk true (.c 5000) (.bin 6 .i64 (.len (.s 4)) (.bin 7 .i64 (.len (.s 3)) (.v 6))) false] → (mV6).eval σ < (B : Int) → @a9c ⟨σ⟩)
 | 0, σ => fun hI hb => by exfalso; have q := hI; simp (disch := omega) only [sall_cons, sT, sF, sE, sN, evs, evq] at q; obtain ⟨l1, l2, l3, l4, l5, _⟩ := q; simp only [mV6, evs, wr] at hb; omega
 | B + 1, σ => by
   have ih := aom B
   ·intro hI hb
    have hl : ∀ t ∈ [tml mV6], @uu ⟨σ⟩ t := by
     intro t ht
     simp only [List.mem_cons, zH, or_false] at ht
     rcases ht with rfl
     ·exact fun σ' _ hA hb' => ((ih σ') (k6 hA).1 (by have z : 0 ≤ (mV6).eval σ' ∧ (mV6).eval σ' < (mV6).eval σ := hb'; omega)) (k6 hA).2
    exact @a7g ⟨σ⟩ hl hI
theorem a5z [Gv] : uu a9b := fun σ _ hA _ => ((aom (((mV6).eval σ).toNat + 1) σ) (k6 hA).1 (by omega)) (k6 hA).2
theorem a92 [Gv] : ∀ t ∈ [a9b], uu t := aoc a5z
def bal [Gv] : Prop := (SAll Gv.σ [] → lm 17 a9h 256 a9e a9g 256 a9f)
theorem a7h [Gv] (hI : SAll Gv.σ [.mk true (.v 6) (.c 0) false, .mk true (.c 300) (.v 6) false, .mk false (.len (.s 3)) (.c 1) true]) : bal := by
 have q := hI
 simp (disch := omega) only [sall_cons, sT, sF, sE, sN, evs, evq] at q
 obtain ⟨l1, l2, l3, _⟩ := q
 have h1 := bF (.c 600) (.bin 7 .i64 (.len (.s 3)) (.v 6)) (by simp (disch := omega) only [evs, wr, zP, zO, zS, zJ, zD, evq, ev6, ah, evL, l3, Int.one_mul] <;> omega)
 have h2 := bF (.c 1200) (.len (.s 3)) (by simp (disch := omega) only [evs, wr, zP, zO, zS, zJ, zD, evq, ev6, ah, evL, l3, Int.one_mul] <;> omega)
 have h3 := bF (.c 5000) (.bin 7 .i64 (.len (.s 3)) (.v 6)) (by simp (disch := omega) only [evs, wr, zP, zO, zS, zJ, zD, evq, ev6, ah, evL, l3, Int.one_mul] <;> omega)
 have u := l1
 exact fun hC => cy (n := 2000) (T := []) (E := (.g (.cat (.lit 0 0) (.app 245 (.g (.s 3) (.i (.v 6) .nil)))) (.app 245 (.g (.s 3) (.i (.v 6) .nil))) .nil)) fp (aam (ee hI (sc h1 (sc h2 (sc h3 SAll.nil)))) _ a92) (ee hI (sc h1 (sc h2 (sc h3 SAll.nil)))) (by simp (disch := omega) only [EqL.all, and_true, evs, wr, zP, zO, zS, zJ, zD, evq, ev6, ah, evL, List.append_assoc, List.append_nil, l3, Int.one_mul, u] <;> omega) rfl rfl (by kernel_rfl)
theorem a50 [Gv] : fe a9d := fun σ _ hA _ => (@a7h ⟨σ⟩  (k6 hA).1) (k6 hA).2
def bag [Gv] : Prop := (SAll Gv.σ [] → lm 15 a8q 256 a8n a8p 256 a8o)
theorem a7e [Gv] (hI : SAll Gv.σ [.mk true (.v 2) (.c 1) false, .mk true (.c 100000) (.v 2) false]) : bag := by
 obtain ⟨l1, l2⟩ := a8r hI
 obtain ⟨q1, q2, q3, q4⟩ := a9a (x := (Gv.σ 1).headD 0) (n := (Gv.σ 2).headD 0) (by omega)
 have h1 := bT (.c 0) (.v 2) (by simp (disch := omega) only [evs, wr, zP, zO, zS, zJ, zD, ev5] <;> omega)
 have h2 := bN (.v 2) (.c 0) (by simp (disch := omega) only [evs, wr, zP, zO, zS, zJ, zD, ev5] <;> omega)
 rcases gl (.bin 4 .i64 (.v 1) (.v 2)) (.c 0) with ⟨h3, k3⟩ | ⟨h3, k3⟩ <;> (try simp (disch := omega) only [evs, wr, zP, zO, zS, zJ, zD, ev5] at k3)
 ·have u := l1
  exact fun hC => cy (n := 2000) (T := []) (E := (.i (.bin 0 .i64 (.bin 4 .i64 (.v 1) (.v 2)) (.v 2)) (.bin 5 .i64 (.v 1) (.v 2)) .nil)) fp ia (ee hI (sc h1 (sc h2 (sc h3 SAll.nil)))) (by simp (disch := omega) only [EqL.all, and_true, evs, wr, zP, zO, zS, zJ, zD, ev5, u] <;> omega) rfl rfl (by kernel_rfl)
 ·have u := l1
  exact fun hC => cy (n := 2000) (T := []) (E := (.i (.bin 4 .i64 (.v 1) (.v 2)) (.bin 5 .i64 (.v 1) (.v 2)) .nil)) fp ia (ee hI (sc h1 (sc h2 (sc h3 SAll.nil)))) (by simp (disch := omega) only [EqL.all, and_true, evs, wr, zP, zO, zS, zJ, zD, ev5, u] <;> omega) rfl rfl (by kernel_rfl)
theorem a5o [Gv] : fe a8m := fun σ _ hA _ => (@a7e ⟨σ⟩  (k6 hA).1) (k6 hA).2
def bam [Gv] : Prop := (SAll Gv.σ [] → lm 295 a9r 257 a9o a9q 265 a9p)
theorem a7i [Gv] (hI : SAll Gv.σ [.mk true (.len (.s 3)) (.c 1) false, .mk true (.c 20000) (.len (.s 3)) false]) : bam := by
 have q := hI
 simp (disch := omega) only [sall_cons, sT, sF, sE, sN, evs, evq] at q
 obtain ⟨l1, l2, _⟩ := q
 have h1 := bT (.c 0) (.len (.s 3)) (by simp (disch := omega) only [evs, wr, zP, zO, zS, zJ, zD] <;> omega)
 have h2 := bF (.c 400000) (.len (.s 3)) (by simp (disch := omega) only [evs, wr, zP, zO, zS, zJ, zD] <;> omega)
 have u := l1
 exact fun hC => cy (n := 2000) (T := [(257, 257)]) (E := .nil) fp ia (ee hI (sc h1 (sc h2 SAll.nil))) trivial rfl rfl (by kernel_rfl)
theorem a6a [Gv] : fe a9n := fun σ _ hA _ => (@a7i ⟨σ⟩  (k6 hA).1) (k6 hA).2
def baa [Gv] : Prop := (SAll Gv.σ [] → lm 7 a8g 256 a8d a8f 400 a8e)
theorem a7d [Gv] (hI : SAll Gv.σ []) : baa := by
 exact fun hC => cy (n := 2000) (T := [(256, 258), (257, 256), (382, 257)]) (E := .nil) fp ia (ee hI SAll.nil) trivial rfl rfl (by kernel_rfl)
theorem a5j [Gv] : fe a8c := fun σ _ hA _ => (@a7d ⟨σ⟩  (k6 hA).1) (k6 hA).2
def a9y [Gv] : Prop := (SAll Gv.σ [] → lm 26 a7r 256 a7o a7q 300 a7p)
theorem a7b [Gv] (hI : SAll Gv.σ []) : a9y := by
 exact fun hC => cy (n := 2000) (T := []) (E := .nil) fp ia (ee hI SAll.nil) trivial rfl rfl (by kernel_rfl)
theorem a47 [Gv] : fe a7n := fun σ _ hA _ => (@a7b ⟨σ⟩  (k6 hA).1) (k6 hA).2
def a96 [Gv] : Prop := (SAll Gv.σ [] → lm 5 a8b 256 a78 a8a 257 a79)
theorem a7c [Gv] (hI : SAll Gv.σ []) : a96 := by
 exact fun hC => cy (n := 2000) (T := []) (E := .nil) fp ia (ee hI SAll.nil) trivial rfl rfl (by kernel_rfl)
theorem a5i [Gv] : fe a77 := fun σ _ hA _ => (@a7c ⟨σ⟩  (k6 hA).1) (k6 hA).2
noncomputable def dgC (w : Nat) : Bool := vw [] 256 256 .nil [] (bc (Nat.blt w 10) (.ret (.str 1 (48 + w))) (.ret (.str 2 ((48 + w / 10) * 256 + (48 + w % 10))))) (enter (ajx ay1 a3c 2000) 16 (aVs [] [.int .i64 w]) (bf (aHO [] []) 256))
end Go.Ev
